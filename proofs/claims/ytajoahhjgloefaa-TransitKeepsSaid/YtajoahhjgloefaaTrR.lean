/- TransitKeeps' case of a doubled frame, which ranges over all. (mkkeeps.py writes this text.) No condition. -/
import Derived.Test.YtajoahhjgloefaaTrQ
import Derived.Deep.CutRange
namespace Go.Proofs.Ytajoahhjgloefaa
open Go.RowKit Go.Maps
theorem KX.of {W V w' : World} {base g bl gb c0 : Nat} {C : Bool → Nat} {k : Nat} {l1 l2 : Ln} {B : Nat} {Ds : List Nat} {S : Nat → Prop} (hF : Fr S W V) (hS : ∀ j, S j → W.heap.size ≤ j) (h : KX V base g bl gb c0 C k l1 l2 B Ds w') : KX W base g bl gb c0 C k l1 l2 B Ds w' :=
  ⟨h.1, (hF.mono fun j hj hs => absurd (hS j hs) (by omega)).trans h.2.1, h.2.2⟩
attribute [local go_sem] Oper.semAt_some
set_option maxHeartbeats 8000000 in
set_option maxRecDepth 100000 in
theorem ks_twice {x0 x1 x2 x4 x7 x10 x11 x12 x13 x14 x15 x16 x17 x18 x19 x20 x21 x22 x23 x24 x25 x26 x27 x28 x29 x30 x31 x32 x33 x34 x35 x36 x37 x38 x39 x40 x41 x42 x43 x44 x45 x46 x47 x48 x49 x51 x52 x53 x54 x55 x56 x57 x58 x59 x60 x61 x62 x63 x64 x65 x66 x67 x68 x69 x70 x71 x72 x73 x74 x75 x76 x77 x78 x79 x80 x81 x82 x83 x84 x85 x86 x87 x88 x89 x90 x91 x92 x93 x94 x95 x96 x97 x98 x99 x100 x101 x102 x103 x104 x105 x106 x107 x108 x109 x110 x111 x112 x113 x114 x115 x116 x117 x118 x119 x120 x121 x122 x123 x124 x125 x126 x127 x128 x129 x130 x131 x132 x133 x134 x135 x136 x137 x138 x139 x140 x141 x142 x143 x144 x145 x146 x147 x148 x149 x150 x151 x152 x153 x154 x155 x156 x157 x158 x159 x160 x161 x162 x163 x164 x165 x166 x167 x168 x169 x170 x171 x172 x173 x174 x175 x176 x177 x178 x179 x180 x181 x182 x183 x184 x185 x186 : Value} {K : Act → World → Prop} {W : World} {base g bl gb c0 : Nat} {C : Bool → Nat} {k : Nat} {X : Nat → Prop} {l1 l2 : Ln} {f : Bool → Lit → Option Value} {m : Bool → Nat} {lf : Bool → List Int → Int} {i : Bool} {wv pk kd : Int} {b8 n z B : Nat} {Ds : List Nat} {xf : Fm}
    (h : KwIn W base g bl gb c0 C k X l1 l2 f m lf i wv pk kd b8 n z B Ds xf)
    (hK : ∀ (Ds' : List Nat) (y2 y10 y11 y12 y13 y51 y52 y53 y54 y55 y56 y57 y58 y59 y60 y61 y62 y63 y64 y65 y66 y67 y68 y69 y70 y71 y72 y73 y74 y75 y76 y77 y78 y79 y80 y81 y82 y83 y84 y85 y86 y87 y88 y89 y90 y91 y92 y93 y94 y95 y96 y97 y98 y99 y100 y101 y102 y103 y104 y105 y106 y107 y108 y109 y110 y111 y112 y113 y114 y115 y116 y117 y118 y119 y120 y121 y122 y123 y124 y125 y126 y127 y128 y129 y130 y132 y133 y134 y135 y136 y137 y138 y139 y140 y141 y142 y143 y144 y145 y146 y147 y148 y149 y150 y151 y152 y153 y154 y155 y156 y157 y158 y159 y160 y161 y162 y163 y164 y165 y166 y167 y168 : Value) (w' : World), KX W base g bl gb c0 C k l1 l2 B Ds' w' → K ⟨#[x0, x1, y2, .pointer (some ⟨g, 0, none⟩), x4, .pointer (some ⟨bl, 0, none⟩), .pointer (some ⟨gb, 0, none⟩), x7, .pointer (some ⟨b8, 0, none⟩), .int .i64 n, y10, y11, y12, y13, x14, x15, x16, x17, x18, x19, x20, x21, x22, x23, x24, x25, x26, x27, x28, x29, x30, x31, x32, x33, x34, x35, x36, x37, x38, x39, x40, x41, x42, x43, x44, x45, x46, x47, x48, x49, .int .u64 4, y51, y52, y53, y54, y55, y56, y57, y58, y59, y60, y61, y62, y63, y64, y65, y66, y67, y68, y69, y70, y71, y72, y73, y74, y75, y76, y77, y78, y79, y80, y81, y82, y83, y84, y85, y86, y87, y88, y89, y90, y91, y92, y93, y94, y95, y96, y97, y98, y99, y100, y101, y102, y103, y104, y105, y106, y107, y108, y109, y110, y111, y112, y113, y114, y115, y116, y117, y118, y119, y120, y121, y122, y123, y124, y125, y126, y127, y128, y129, y130, x131, y132, y133, y134, y135, y136, y137, y138, y139, y140, y141, y142, y143, y144, y145, y146, y147, y148, y149, y150, y151, y152, y153, y154, y155, y156, y157, y158, y159, y160, y161, y162, y163, y164, y165, y166, y167, y168, x169, x170, x171, x172, x173, x174, x175, x176, x177, x178, x179, x180, x181, x182, x183, x184, x185, x186], Ds'.map mk1⟩ w') :
    Code.wp Try.prog kblk (Exit.then K fun _ _ _ => False) ⟨#[x0, x1, x2, .pointer (some ⟨g, 0, none⟩), x4, .pointer (some ⟨bl, 0, none⟩), .pointer (some ⟨gb, 0, none⟩), x7, .pointer (some ⟨b8, 0, none⟩), .int .i64 n, x10, x11, x12, x13, x14, x15, x16, x17, x18, x19, x20, x21, x22, x23, x24, x25, x26, x27, x28, x29, x30, x31, x32, x33, x34, x35, x36, x37, x38, x39, x40, x41, x42, x43, x44, x45, x46, x47, x48, x49, .int .u64 4, x51, x52, x53, x54, x55, x56, x57, x58, x59, x60, x61, x62, x63, x64, x65, x66, x67, x68, x69, x70, x71, x72, x73, x74, x75, x76, x77, x78, x79, x80, x81, x82, x83, x84, x85, x86, x87, x88, x89, x90, x91, x92, x93, x94, x95, x96, x97, x98, x99, x100, x101, x102, x103, x104, x105, x106, x107, x108, x109, x110, x111, x112, x113, x114, x115, x116, x117, x118, x119, x120, x121, x122, x123, x124, x125, x126, x127, x128, x129, x130, x131, x132, x133, x134, x135, x136, x137, x138, x139, x140, x141, x142, x143, x144, x145, x146, x147, x148, x149, x150, x151, x152, x153, x154, x155, x156, x157, x158, x159, x160, x161, x162, x163, x164, x165, x166, x167, x168, x169, x170, x171, x172, x173, x174, x175, x176, x177, x178, x179, x180, x181, x182, x183, x184, x185, x186], Ds.map mk1⟩ W := by
  have HK := Lib.hid hK
  clear hK
  have a1 : W.cell? ⟨b8, 1, none⟩ = some (.int .i64 wv) := h.B8.cell 1
  have a2 : W.cell? ⟨b8, 2, none⟩ = some (.int .u64 pk) := h.B8.cell 2
  have a3 : W.cell? ⟨b8, 3, none⟩ = some (.slice xf.A xf.n xf.c) := h.B8.cell 3
  obtain ⟨hw0, hw3⟩ := h.wv
  have hn6 := h.n6
  have HS := Lib.hid h
  obtain ⟨HWV⟩ : Nonempty (Hid (wayI i = wv)) := ⟨Lib.hid h.hw.symm⟩
  obtain ⟨row, hrow⟩ : ∃ row : Array Value, row = #[.int .i64 kd, .int .i64 wv, .int .u64 pk, .slice xf.A xf.n xf.c] := ⟨_, rfl⟩
  have HROW := Lib.hid hrow
  clear hrow
  obtain ⟨wb, hwb⟩ : ∃ wb : World, wb = W.alloc (.cells #[.slice none 0 0] 36) := ⟨_, rfl⟩
  obtain ⟨b12, hb12⟩ : ∃ b12, b12 = W.heap.size := ⟨_, rfl⟩
  have HNb : Hid (New W wb) := Lib.hid (by rw [hwb]; exact New.al (New.refl _) _)
  have HB8b : Hid (Blk wb b8 35 row) := Lib.hid (by rw [HROW.out]; exact HNb.out.blk h.B8)
  have HB12 : Hid (Blk wb b12 36 #[.slice none 0 0]) := Lib.hid (by rw [hwb, hb12]; exact Blk.new _ _ _)
  have d1 : wb.cell? ⟨b8, 1, none⟩ = some (.int .i64 wv) := HNb.out.cell_ a1
  have HZ12 : Hid (W.heap.size ≤ b12) := Lib.hid (by omega)
  have HZB : Hid (b8 < W.heap.size) := Lib.hid h.B8.lt
  have HBW : Hid (B ≤ W.heap.size) := Lib.hid h.bw
  have hp0 := h.p0
  have hp1 := h.p1
  clear h a1 a2 a3
  conv => arg 2; whnf
  go_upto_region 33 with fail
  rw [← hwb, ← hb12]
  clear hwb hb12
  go_wp2_with fail
  refine (all_any (some ⟨g, 0, none⟩) wv wb).mono ?_
  rintro e w2 ⟨rfl, hw2⟩
  have HNr : Hid (New wb w2) := Lib.hid (by rw [hw2]; exact New.al (New.al (New.refl _) _) _)
  have hc1 : w2.cell? ⟨wb.heap.size, 0, none⟩ = some (.pointer (some ⟨g, 0, none⟩)) := by rw [hw2]; exact ((Blk.new wb _ _).alloc _).cell 0
  have hc2 : w2.cell? ⟨wb.heap.size + 1, 0, none⟩ = some (.int .i64 wv) := by rw [hw2]; exact (Blk.new' _ _ _ (by simp)).cell 0
  have HN2 : Hid (New W w2) := Lib.hid (HNb.out.tr HNr.out)
  have HK2 := Lib.hid (HS.out.kn.keep (HN2.out.toFr NoB) (fun _ x => x.elim))
  have HSQ := Lib.hid (all1_gives HK2.out.nt i wb.heap.size (wb.heap.size + 1) hc1 (by rw [HWV.out]; exact hc2))
  have HB82 := Lib.hid (HNr.out.blk HB8b.out)
  have HB122 := Lib.hid (HNr.out.blk HB12.out)
  have H2Z : Hid (W.heap.size ≤ w2.heap.size) := Lib.hid HN2.out.size
  clear hw2 hc1 hc2 d1 HNb HNr HB8b HB12
  go_wp2_with fail
  refine wp_range rfl (enters_of Try.func27 (by kernel_rfl) rfl) (fun x : Fm => #[x.val]) (fun _ => rfl) HSQ.out (fun x W W' h hp => h.puts hp) (fun h k => h.tr k) (fun W W' hp => KpF.puts hp)
    (RI W.heap.size b8 b12 row w2) (fun s A B h hN => h.new hN) (fun s A B h hp => h.puts H2Z.out hp) ⟨⟨_, HB122.out, World.ownsRow_nil _ _ _ _⟩, HB82.out, Fr.refl _ _⟩ ?a1 ?assign ?body ?done
  case assign =>
    intro l x W K hK
    gi_wp2
    exact hK
  case body =>
    rintro l pre x V hpl ⟨⟨v, hb10, hown⟩, hb9, hfr⟩ hgood
    have HB10' := Lib.hid hb10
    have HO := Lib.hid hown
    have HB9' := Lib.hid hb9
    have HFR := Lib.hid hfr
    have HGO := Lib.hid hgood
    have HPL := Lib.hid hpl
    obtain ⟨sA, sc, rfl, hnc, hcm, -, -⟩ := own_shape hown
    have hVW : W.heap.size ≤ V.heap.size := Nat.le_trans H2Z.out hfr.size
    have i0 : V.cell? ⟨b12, 0, none⟩ = some (.slice sA pre.length sc) := hb10.cell 0
    have f0 : V.frozen? ⟨b12, 0, none⟩ = false := hb10.frozen 0
    have hcv := run_conv (c := x.c) (w := V) hgood.1
    obtain ⟨yA, yn, yc, ys⟩ := x
    simp only [Fm.val]
    dsimp only at hcv
    obtain ⟨st, hst⟩ : ∃ st, st = strOfNums ys := ⟨_, rfl⟩
    have HST := Lib.hid hst
    rw [← hst] at hcv
    clear hb10 hown hb9 hfr hgood hst hcm
    gi_wp2_with (gi_at_builtin; refine wpListIn_app elS _ rfl (.tmp 132) (.tmp 135) rfl W.heap.size (.slice sA pre.length sc) pre.length (strs pre) rfl (New.own (New.al (New.refl _) _) HO.out) (some ⟨V.heap.size, 0, none⟩) 1 1 [.string st] rfl (Rd.new (p := fun _ => True) V #[.string st] 9 1 1 rfl trivial) (by intro u hu; obtain rfl := List.mem_singleton.1 hu; rfl) (by unfold maxLen; omega) (by omega) (by simp; omega) ?_; intro A1 d1 w3 hO3 hF3 hA3; have hb3 := (HB10'.out.alloc (.cells #[.string st] 9)).fr hF3 (fun e => own_ne HO.out HB10'.out (by decide) e); have j0 := hb3.cell 0; have k0 := hb3.frozen 0; have HB3 := Lib.hid hb3; have HO3 := Lib.hid hO3; have HF3 : Hid (Fr (fun j => (Value.slice sA pre.length sc).ownBlock = some j) V w3) := Lib.hid (((New.al (New.refl V) _).toFr _).trans hF3); clear hO3 hF3 hA3 hb3)
    have hFW : Fr (fun j => (Value.slice sA pre.length sc).ownBlock = some j ∨ j = b12) V (w3.setCell ⟨b12, 0, none⟩ (.slice A1 (pre.length + 1) d1)) := (HF3.out.mono fun _ _ e => .inl e).setCell (fun _ => .inr rfl) _
    refine ⟨Kept.fr hFW ?_, ⟨hFW.size, ?_⟩, ⟨_, HB3.out.set 0 _, ?_⟩, HB9'.out.fr hFW ?_, HFR.out.trans (hFW.mono ?_)⟩
    · rintro j o - (e | rfl) ho
      · obtain ⟨cs, fz, hx⟩ := own_isT HO.out e
        rw [hx] at ho
        injection ho with ho
        rw [← ho]
        rfl
      · have hb := HB10'.out
        unfold Blk at hb
        rw [hb] at ho
        injection ho with ho
        rw [← ho]
        rfl
    · intro j hj
      have hjl : j < V.heap.size := by
        rcases hj with ⟨cs, fz, hx⟩ | ⟨cs, fz, hx⟩ <;> exact lt_of_block hx
      refine hFW.block j hjl ?_
      rintro (e | rfl)
      · rcases hj with hj | hj
        · exact IsT.not_own HO.out (by decide) e hj
        · exact IsT.not_own HO.out (by decide) e hj
      · rcases hj with hj | hj
        · exact IsT.not_blk HB10'.out (by decide) hj
        · exact IsT.not_blk HB10'.out (by decide) hj
    · have h := own_fr HO3.out ((Fr.refl (fun j => j = b12) w3).setCell (p := ⟨b12, 0, none⟩) (fun _ => rfl) (.slice A1 (pre.length + 1) d1)) (fun j hj e => own_ne HO3.out HB3.out (by decide) (e ▸ hj))
      have e1 : strs (pre ++ [⟨yA, yn, yc, ys⟩]) = strs pre ++ [.string st] := by
        rw [HST.out]
        simp [strs]
      rw [e1, List.length_append]
      exact h
    · rintro (e | e)
      · exact own_ne HO.out HB9'.out (by decide) e
      · exact Blk.ne_ HB9'.out HB10'.out (by decide) e
    · rintro j - (e | rfl)
      · exact (own_lt HO.out j e).1
      · exact HZ12.out
  case done =>
    rintro D fs V hD hfs ⟨⟨v, hb10, hown⟩, hb9, hfr⟩ hDm
    have hfl : fs.length = n := by
      have := congrArg List.length hfs
      rw [← HS.out.hn]
      simpa using this
    obtain ⟨sA, sc, rfl, hnc, hcm, -, -⟩ := own_shape hown
    rw [hfl] at hown hb10 hnc
    rw [strs_eq hfs] at hown
    have HB12' := Lib.hid hb10
    have HO := Lib.hid hown
    have HFV : Hid (Fr (fun j => W.heap.size ≤ j) W V) := Lib.hid ((HN2.out.toFr _).trans hfr)
    have HKV := Lib.hid (HS.out.kn.keep HFV.out (fun _ h => h))
    have HMV : Hid (Marks B (D :: Ds) V) := Lib.hid (Marks.cons (HS.out.mrk.keep HFV.out (fun _ h => h)) (fun j hj => Nat.lt_of_lt_of_le (HS.out.mrk.lt hj) (Nat.le_trans H2Z.out hD)) (Nat.le_trans HBW.out (Nat.le_trans H2Z.out hD)) hDm)
    have hB8V : Blk V b8 35 #[.int .i64 kd, .int .i64 wv, .int .u64 pk, .slice xf.A xf.n xf.c] := by rw [← HROW.out]; exact hb9
    have a1 : V.cell? ⟨b8, 1, none⟩ = some (.int .i64 wv) := hB8V.cell 1
    have a2 : V.cell? ⟨b8, 2, none⟩ = some (.int .u64 pk) := hB8V.cell 2
    have a12 : V.cell? ⟨b12, 0, none⟩ = some (.slice sA n sc) := hb10.cell 0
    clear hD hfs hfl hb10 hown hb9 hfr hDm hB8V
    dsimp only
    by_cases h0 : n = 0
    · have HC := Lib.hid (twice_none HKV.out.nt i pk (List.eq_nil_of_length_eq_zero (by rw [HS.out.hn, h0])))
      rw [HWV.out] at HC
      clear h0
      go_wp2_with fail
      refine HC.out.mono ?_
      rintro e w3 ⟨rfl, rfl⟩
      go_wp2_with fail
      refine HK.out (D :: Ds) _ _ _ _ _ _ _ _ _ _ _ _ _ _ _ _ _ _ _ _ _ _ _ _ _ _ _ _ _ _ _ _ _ _ _ _ _ _ _ _ _ _ _ _ _ _ _ _ _ _ _ _ _ _ _ _ _ _ _ _ _ _ _ _ _ _ _ _ _ _ _ _ _ _ _ _ _ _ _ _ _ _ _ _ _ _ _ _ _ _ _ _ _ _ _ _ _ _ _ _ _ _ _ _ _ _ _ _ _ _ _ _ _ _ _ _ _ _ _ _ _ _ _ ?_
      exact KX.of HFV.out (fun _ h => h) (HKV.out.idle (S := NoB) (Fr.refl _ _) (fun _ x => x.elim) HMV.out)
    have h0 : 0 < n := by omega
    obtain ⟨y, hy⟩ : ∃ y, (sel i l1 l2).L[pk.toNat % n]? = some y := by
      have hlt : pk.toNat % n < (sel i l1 l2).L.length := by rw [HS.out.hn]; exact Nat.mod_lt _ h0
      exact ⟨_, List.getElem?_eq_getElem hlt⟩
    have hy' := hy
    rw [← HS.out.hn] at hy'
    have HC := Lib.hid (twice_in HKV.out.nt i pk HS.out.p0 HS.out.p1 y hy')
    rw [HWV.out] at HC
    have HLT := Lib.hid HS.out.hn
    have hlt := HS.out.hn
    by_cases hf : 256 ≤ (sel i l1 l2).L.length
    · have HL := Lib.hid hf
      clear hf hy hy' hlt
      go_wp2_with fail
      refine HC.out.mono ?_
      rintro e w3 ⟨h1, -⟩
      obtain ⟨rfl, hN3⟩ := h1 HL.out
      have HN3 := Lib.hid hN3
      clear h1 hN3
      go_wp2_with fail
      refine HK.out (D :: Ds) _ _ _ _ _ _ _ _ _ _ _ _ _ _ _ _ _ _ _ _ _ _ _ _ _ _ _ _ _ _ _ _ _ _ _ _ _ _ _ _ _ _ _ _ _ _ _ _ _ _ _ _ _ _ _ _ _ _ _ _ _ _ _ _ _ _ _ _ _ _ _ _ _ _ _ _ _ _ _ _ _ _ _ _ _ _ _ _ _ _ _ _ _ _ _ _ _ _ _ _ _ _ _ _ _ _ _ _ _ _ _ _ _ _ _ _ _ _ _ _ _ _ _ ?_
      exact KX.of HFV.out (fun _ h => h) (HKV.out.idle (HN3.out.toFr NoB) (fun _ x => x.elim) (HMV.out.new HN3.out))
    · have HL : Hid ((sel i l1 l2).L.length < 256) := Lib.hid (by omega)
      have HY := Lib.hid hy
      obtain ⟨sb, so, rfl, hsz, hsb, hsr⟩ := (Rd.own HO.out rfl).out (by omega) (by omega)
      have hsz' : W.heap.size ≤ sb := (own_lt HO.out sb rfl).1
      have hym : y ∈ (sel i l1 l2).L := List.mem_of_getElem? hy
      have hyr := (HKV.out.nt.at i).2.2.reads y hym
      have hyb := hyr.2.1
      have HYB := Lib.hid hyb
      have hxl : y.xs.length ≤ 1000000 := by have := hyr.1.1; rw [u8s_len] at this; have := hyr.2.2; omega
      have hko := key_of hxl
      have HKO := Lib.hid hko
      have hn0 : ((n : Int) == 0) = false := by simp; omega
      have hn0' : ((n : Int) = 0) = False := by simp; omega
      have hwn : IntKind.u64.wrap (n : Int) = n := IntWalk.u64_in _ (by omega)
      have hmod : pk.tmod (n : Int) = ((pk.toNat % n : Nat) : Int) := by
        rw [Int.tmod_eq_emod_of_nonneg hp0]
        obtain ⟨q, hq⟩ := Int.eq_ofNat_of_zero_le hp0
        rw [hq]
        simp
      have hlt' : pk.toNat % n < n := Nat.mod_lt _ h0
      have hr2 : IntKind.u64.wrap (((pk.toNat % n : Nat) : Int)) = ((pk.toNat % n : Nat) : Int) := IntWalk.u64_in _ (by omega)
      have hr3 : IntKind.i64.wrap (((pk.toNat % n : Nat) : Int)) = ((pk.toNat % n : Nat) : Int) := IntWalk.i64_in _ (by omega)
      have hst : V.cell? ⟨sb, so + pk.toNat % n, none⟩ = some (.string (strOfNums y.xs)) := hsr _ _ (by
        unfold strs
        rw [List.getElem?_map, hy]
        rfl)
      obtain ⟨v, hv⟩ : ∃ v, v = lf i y.xs := ⟨_, rfl⟩
      have hv1 : 0 ≤ v := by
        have h2 := (HS.out.kn.low i y.xs).1
        unfold cntF at h2
        omega
      have hv6 : v ≤ 600 := by have := (HS.out.kn.low i y.xs).2; have := HS.out.k6; omega
      have hm6 : m i < 1000000 := by have := HS.out.k6; have := HS.out.kn.mle i; omega
      have HV := Lib.hid hv
      have HST := Lib.hid hst
      have HSZ := Lib.hid hsz'
      clear hf hy hy' hlt hsz hsr hym hyr hyb hxl hko hv hst hsz'
      go_wp2_with fail
      refine HC.out.mono ?_
      rintro e w2 ⟨-, h2⟩
      obtain ⟨rfl, X', l', hN2, hL2, -, hF2, hX2, hl2⟩ := h2 HL.out
      have hfar : ∀ j, z ≤ j → ¬ No g l1 l2 j := fun j hj e => HS.out.far hj (.inl e)
      have hzW : z ≤ W.heap.size := Nat.le_trans HS.out.y8 (Nat.le_of_lt HZB.out)
      have b1 := hF2.cell_some a1 (hfar _ HS.out.y8)
      have b2 := hF2.cell_some a2 (hfar _ HS.out.y8)
      have b12' := hF2.cell_some a12 (hfar _ (Nat.le_trans hzW HZ12.out))
      have bs := hF2.cell_some HST.out (hfar _ (Nat.le_trans hzW HSZ.out))
      have hGB2 : Blk w2 gb 49 (gcs l1.L.length l2.L.length) := HKV.out.GB.fr hF2 (fun e => HKV.out.apart _ (.inl e) (.inr (.inl rfl)))
      have hBL2 := HKV.out.BL.fr hF2 (fun e => HKV.out.apart _ (.inl e) (.inl rfl))
      have hM2 : MapAt w2 Try.prog 9 (C i) (m i) (f i) := (HKV.out.M i).fr hF2 (fun e => HKV.out.apart _ (.inl e) (.inr (.inr ⟨i, rfl⟩)))
      have am : w2.cell? ⟨bl, wv.toNat, none⟩ = some (.map (some (C i))) := by
        rw [hBL2.cell, HS.out.hw]
        cases i <;> rfl
      have HM2 := Lib.hid hM2
      have HGB2 := Lib.hid hGB2
      have HN2 := Lib.hid hN2
      have HF2 := Lib.hid hF2
      have HL2 := Lib.hid hL2
      have HXX := Lib.hid hX2
      have HLL := Lib.hid hl2
      clear hN2 hL2 hF2 hX2 hl2 hBL2 hM2 hGB2 HC a1 a2 a12 hfar hzW h2
      go_wp2_with fail
      refine wp_still_tail 16 (by kernel_rfl) (by kernel_rfl) ?_
      intro w3 hN23 hh3
      have hM3 : MapAt w3 Try.prog 9 (C i) (m i) (f i) := HM2.out.fr (hN23.toFr NoB) (fun x => x)
      have q1 := hN23.cell_ b1
      have q2 := hN23.cell_ am
      have q3 := hN23.cell_ b2
      have q4 := hN23.cell_ b12'
      have q5 := hN23.cell_ bs
      have hlk3 := (hM3.look keyS Try.underlying30 (z := .int .i64 0) (by kernel_rfl) HKO.out).2
      rw [HKV.out.cnt i y.xs HYB.out, ← HV.out] at hlk3
      have HM3 := Lib.hid hM3
      have HN23 : Hid (New w2 w3) := Lib.hid hN23
      clear hM3 hN23 hh3 am
      obtain ⟨st, hst⟩ : ∃ st, st = strOfNums y.xs := ⟨_, rfl⟩
      rw [← hst] at hlk3 HKO q5
      clear hst
      generalize hrg : pk.toNat % n = r at q5 hmod hlt' hr2 hr3
      simp only [List.take_succ_cons, List.take_zero, List.drop_succ_cons, List.drop_zero]
      repeat still_step
      refine wpStill_nil ?_
      have hr1 : IntKind.i64.wrap (v + 1) = v + 1 := IntWalk.i64_in _ (by omega)
      refine wpList_mstore HM3.out keyS Try.underlying30 (by unfold maxLen; omega) rfl (.tmp 150) (.tmp 160) (.tmp 162) rfl rfl (.string st) (.int .i64 (v + 1)) (key y.xs) rfl (congrArg (Value.int .i64) hr1) HKO.out ?_
      intro w4 hM4 hF34
      have hF4 : Fr (fun j => j = C i) w2 w4 := (HN23.out.toFr _).trans hF34
      clear hF34
      have hb4 : w4.cell? ⟨b8, 1, none⟩ = some (.int .i64 wv) := hF4.cell_some b1 (fun e => HS.out.far HS.out.y8 (.inr (.inr e)))
      have hGB4 : Blk w4 gb 49 (gcs l1.L.length l2.L.length) := HGB2.out.fr hF4 (fun e => blk_ne_map HS.out.kn.GB (HS.out.kn.M i) e)
      have HF4 := Lib.hid hF4
      have HM4 := Lib.hid hM4
      clear hF4 hM4
      have g4 : w4.cell? ⟨gb, wv.toNat, none⟩ = some (.int .i64 (-(n : Int))) := by
        rw [hGB4.cell, HS.out.hw, gcs_at, HS.out.hn]
      have k4 : w4.frozen? ⟨gb, wv.toNat, none⟩ = false := hGB4.frozen _
      have HGB4 := Lib.hid hGB4
      clear hGB4
      clear b1 b2 b12' bs q1 q2 q3 q4 q5 hlk3
      go_wp2_with fail
      refine HK.out (D :: Ds) _ _ _ _ _ _ _ _ _ _ _ _ _ _ _ _ _ _ _ _ _ _ _ _ _ _ _ _ _ _ _ _ _ _ _ _ _ _ _ _ _ _ _ _ _ _ _ _ _ _ _ _ _ _ _ _ _ _ _ _ _ _ _ _ _ _ _ _ _ _ _ _ _ _ _ _ _ _ _ _ _ _ _ _ _ _ _ _ _ _ _ _ _ _ _ _ _ _ _ _ _ _ _ _ _ _ _ _ _ _ _ _ _ _ _ _ _ _ _ _ _ _ _ ?_
      refine KX.of HFV.out (fun _ h => h) ?_
      obtain ⟨w5, hw5⟩ : ∃ w5, w5 = (w4.setCell ⟨gb, wv.toNat, none⟩ (.int .i64 (-(n : Int) - 1))) := ⟨_, rfl⟩
      have hF5 : Fr (fun j => j = gb) w4 w5 := hw5 ▸ (Fr.refl (fun j => j = gb) w4).setCell (p := ⟨gb, wv.toNat, none⟩) (fun _ => rfl) _
      have hFF : Fr (fun j => No g l1 l2 j ∨ j = gb ∨ j = C i) V w5 := ((HF2.out.mono fun _ _ e => .inl e).trans (HF4.out.mono fun _ _ e => .inr (.inr e))).trans (hF5.mono fun _ _ e => .inr (.inl e))
      have hG5 : Blk w5 gb 49 (gcs (put1 i l1 l').L.length (put2 i l2 l').L.length) := by
        have h := HGB4.out.set wv.toNat (.int .i64 (-(n : Int) - 1))
        rw [← hw5] at h
        have e1 : (-(n : Int) - 1 : Int) = -(l'.L.length : Int) := by
          have h := congrArg List.length HL2.out
          simp only [List.length_map, List.length_append, List.length_cons, List.length_nil, HLT.out] at h
          rw [h]
          omega

        rw [e1, HS.out.hw, gcs_set] at h
        exact h
      rw [← hw5]
      clear hw5
      refine HKV.out.step i (l' := l') (((HN2.out.fr HF4.out ?n1 ?n2).fr hF5 ?n3 ?n4).up (Nat.le_succ _)) hFF hG5 (HM4.out.fr hF5 (fun e => blk_ne_map HKV.out.GB (HKV.out.M i) e.symm)) ?hm ?hc (lf' := fun xs => if xs = y.xs then v + 1 else lf i xs) ?hlf HXX.out HLL.out (HMV.out.fr hFF (fun D hD => HKV.out.no_def (hD.imp id (fun e => e.imp id (fun e => ⟨i, e⟩)))))
      case n1 =>
        rintro j rfl hj
        rcases no_put (W := V) hj (HLL.out _) with e | e
        · exact HKV.out.apart _ (.inl e) (.inr (.inr ⟨i, rfl⟩))
        · exact absurd (HKV.out.M i).lt (by omega)
      case n2 =>
        rintro j rfl hj
        rcases HXX.out _ hj with e | e
        · exact HKV.out.apart _ (.inr e) (.inr (.inr ⟨i, rfl⟩))
        · exact absurd (HKV.out.M i).lt (by omega)
      case n3 =>
        rintro j rfl hj
        rcases no_put (W := V) hj (HLL.out _) with e | e
        · exact HKV.out.apart _ (.inl e) (.inr (.inl rfl))
        · exact absurd HKV.out.GB.lt (by omega)
      case n4 =>
        rintro j rfl hj
        rcases HXX.out _ hj with e | e
        · exact HKV.out.apart _ (.inr e) (.inr (.inl rfl))
        · exact absurd HKV.out.GB.lt (by omega)
      case hm => have := HKV.out.mle i; omega
      case hc => exact some_put (HKV.out.cnt i) y.xs HYB.out (v + 1)
      case hlf =>
        intro xs
        have hlow := HKV.out.low i xs
        have h1 := cnt_snoc _ _ _ HL2.out xs
        unfold cntF at *
        rw [h1]
        have hv := HV.out
        by_cases e : xs = y.xs
        · subst e
          rw [if_pos rfl, if_pos rfl]
          omega
        · rw [if_neg e, if_neg e]
          omega
end Go.Proofs.Ytajoahhjgloefaa
