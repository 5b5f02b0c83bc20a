/- The statements' Is: a net that has what the document's has. (mkis.py writes this text.) No condition but that all can be read. -/
import Derived.Test.YtajoahhjgloefaaTuC
import Derived.Test.YtajoahhjgloefaaTrI
import Derived.Test.YtajoahhjgloefaaRngB
import Derived.Test.YtajoahhjgloefaaTrJ
import Derived.Shelf.Abstract
import Derived.Deep.CutRange
import Derived.Deep.CutBlock
namespace Go.Proofs.Ytajoahhjgloefaa
open Go.RowKit Go.Maps Go.Sort
attribute [local go_sem] Oper.semAt_some

def findI (p : Code → Bool) (c : Code) : Option Code :=
  if p c then some c else match c with
  | .seq a b => match findI p a with
    | some c => some c
    | none => findI p b
  | .block _ c => findI p c
  | .scope c => findI p c
  | .loop c => findI p c
  | .cond _ a b => match findI p a with
    | some c => some c
    | none => findI p b
  | _ => none
def isBlkI (n : Nat) : Code → Bool | .block m _ => m == n | _ => false
def isLoopI : Code → Bool | .loop _ => true | _ => false
def isRegI (n : Nat) : Code → Bool | .region m _ _ => m == n | _ => false
def loopOfI : Code → Code | .loop c => c | _ => .skip

noncomputable def islp : Code := loopOfI ((Try.f26.body.bind (findI isLoopI)).getD .skip)
/-- What a net is held against. -/
structure IsCx (w1 : World) (X : Nat → Prop) (base g : Nat) (p : Int) (l1 l2 : Ln) (N : Nat) (P : Nat → Prop) (M : Nat) (a b : Rl) (b2 b3 b4 : Nat) : Prop where
  nt : Nt X w1 base g p l1 l2 N
  ra : RlIn P w1 M a
  rb : RlIn P w1 M b
  hM : M ≤ 100000
  B2 : Blk w1 b2 25 #[.pointer (some ⟨g, 0, none⟩)]
  B3 : Blk w1 b3 54 (rnc p a b)
  B4 : Blk w1 b4 4 #[.bool false]
  eF : ∀ i, (sel i l1 l2).L.map Fm.xs = (rsel i a b).F.map Fm.xs
  eT : ∀ i xs, (sel i l1 l2).lost xs = cntR (rsel i a b).T xs
def IsR (w1 : World) (b5 : Nat) (k : Nat) (Ds : List Nat) (wr : World) : Prop := Blk wr b5 3 #[.int .i64 k] ∧ w1.heap.size ≤ b5 ∧ Marks w1.heap.size Ds wr ∧ New w1 wr
set_option maxRecDepth 100000 in
def IsW (w1 : World) (X : Nat → Prop) (base g : Nat) (p : Int) (l1 l2 : Ln) (N : Nat) (P : Nat → Prop) (M : Nat) (a b : Rl) (b2 b3 b4 : Nat) (act : Act) (wr : World) : Prop :=
  ∃ (Ds : List Nat) (u6 u7 u8 u9 u10 u11 u12 u13 u14 u15 u16 u17 u18 u19 u20 u21 u22 u23 u24 u25 u26 u27 u28 u29 u30 u31 u32 u33 u34 u35 u36 u37 u38 u39 u40 u41 u42 u43 u44 u45 u46 u47 u48 u49 u50 u51 u52 u53 u54 u55 u56 u57 u58 u59 u60 u61 u62 u63 u64 : Value) (b5 k : Nat), (k ≤ 4 ∧ IsR w1 b5 k Ds wr) ∧ act = ⟨#[.pointer (some ⟨g, 0, none⟩), rnv p a b, .pointer (some ⟨b2, 0, none⟩), .pointer (some ⟨b3, 0, none⟩), .pointer (some ⟨b4, 0, none⟩), .pointer (some ⟨b5, 0, none⟩), u6, u7, u8, u9, u10, u11, u12, u13, u14, u15, u16, u17, u18, u19, u20, u21, u22, u23, u24, u25, u26, u27, u28, u29, u30, u31, u32, u33, u34, u35, u36, u37, u38, u39, u40, u41, u42, u43, u44, u45, u46, u47, u48, u49, u50, u51, u52, u53, u54, u55, u56, u57, u58, u59, u60, u61, u62, u63, u64], Ds.map mk1⟩
def Imu (act : Act) (w : World) : Nat := match act.tmps.getD 5 undef with | .pointer (some ad) => 4 - (intOf ((w.cell? ad).getD undef)).toNat | _ => 0
/-- What a round of the inner range finds. -/
def IsJ (z b5 b6 b7 : Nat) (k : Nat) (v : Value) (w2 : World) (pre : List Fm) (W : World) : Prop :=
  Blk W b5 3 #[.int .i64 k] ∧ Blk W b6 50 #[v] ∧ Blk W b7 3 #[.int .i64 pre.length] ∧ Fr (fun j => z ≤ j) w2 W
theorem IsJ.new {z b5 b6 b7 k : Nat} {v : Value} {w2 : World} {pre : List Fm} {W W' : World} (h : IsJ z b5 b6 b7 k v w2 pre W) (hN : New W W') : IsJ z b5 b6 b7 k v w2 pre W' :=
  ⟨hN.blk h.1, hN.blk h.2.1, hN.blk h.2.2.1, h.2.2.2.trans (hN.toFr _)⟩
theorem IsJ.puts {z b5 b6 b7 k B : Nat} {v : Value} {w2 : World} {pre : List Fm} {W W' : World} (h : IsJ z b5 b6 b7 k v w2 pre W) (hz : z ≤ B) (hp : Puts B W W') : IsJ z b5 b6 b7 k v w2 pre W' :=
  ⟨hp.blk h.1, hp.blk h.2.1, hp.blk h.2.2.1, h.2.2.2.trans (hp.fr (fun j hj => Nat.le_trans hz hj))⟩

set_option maxHeartbeats 16000000 in
set_option maxRecDepth 100000 in
theorem is_round {w1 : World} {X : Nat → Prop} {base g : Nat} {p : Int} {l1 l2 : Ln} {N : Nat} {P : Nat → Prop} {M : Nat} {a b : Rl} {b2 b3 b4 : Nat} (h : IsCx w1 X base g p l1 l2 N P M a b b2 b3 b4) {Q0 : Exit → Act → World → Prop}
    (hexit : ∀ (Ds : List Nat) (u6 u7 u8 u9 u10 u11 u12 u13 u14 u15 u16 u17 u18 u19 u20 u21 u22 u23 u24 u25 u26 u27 u28 u29 u30 u31 u32 u33 u34 u35 u36 u37 u38 u39 u40 u41 u42 u43 u44 u45 u46 u47 u48 u49 u50 u51 u52 u53 u54 u55 u56 u57 u58 u59 u60 u61 u62 u63 u64 : Value) (b5 : Nat) (wr : World), IsR w1 b5 4 Ds wr → Q0 (.exit 0) ⟨#[.pointer (some ⟨g, 0, none⟩), rnv p a b, .pointer (some ⟨b2, 0, none⟩), .pointer (some ⟨b3, 0, none⟩), .pointer (some ⟨b4, 0, none⟩), .pointer (some ⟨b5, 0, none⟩), u6, u7, u8, u9, u10, u11, u12, u13, u14, u15, u16, u17, u18, u19, u20, u21, u22, u23, u24, u25, u26, u27, u28, u29, u30, u31, u32, u33, u34, u35, u36, u37, u38, u39, u40, u41, u42, u43, u44, u45, u46, u47, u48, u49, u50, u51, u52, u53, u54, u55, u56, u57, u58, u59, u60, u61, u62, u63, u64], Ds.map mk1⟩ wr)
    (act : Act) (wr : World) (hI : IsW w1 X base g p l1 l2 N P M a b b2 b3 b4 act wr) : islp.wp Try.prog (Exit.then (fun a' w' => IsW w1 X base g p l1 l2 N P M a b b2 b3 b4 a' w' ∧ Imu a' w' < Imu act wr) Q0) act wr := by
  have HE := Lib.hid hexit
  have H := Lib.hid h
  clear hexit h
  unfold IsW at hI
  obtain ⟨Ds, hI⟩ := hI
  obtain ⟨u6, hI⟩ := hI
  obtain ⟨u7, hI⟩ := hI
  obtain ⟨u8, hI⟩ := hI
  obtain ⟨u9, hI⟩ := hI
  obtain ⟨u10, hI⟩ := hI
  obtain ⟨u11, hI⟩ := hI
  obtain ⟨u12, hI⟩ := hI
  obtain ⟨u13, hI⟩ := hI
  obtain ⟨u14, hI⟩ := hI
  obtain ⟨u15, hI⟩ := hI
  obtain ⟨u16, hI⟩ := hI
  obtain ⟨u17, hI⟩ := hI
  obtain ⟨u18, hI⟩ := hI
  obtain ⟨u19, hI⟩ := hI
  obtain ⟨u20, hI⟩ := hI
  obtain ⟨u21, hI⟩ := hI
  obtain ⟨u22, hI⟩ := hI
  obtain ⟨u23, hI⟩ := hI
  obtain ⟨u24, hI⟩ := hI
  obtain ⟨u25, hI⟩ := hI
  obtain ⟨u26, hI⟩ := hI
  obtain ⟨u27, hI⟩ := hI
  obtain ⟨u28, hI⟩ := hI
  obtain ⟨u29, hI⟩ := hI
  obtain ⟨u30, hI⟩ := hI
  obtain ⟨u31, hI⟩ := hI
  obtain ⟨u32, hI⟩ := hI
  obtain ⟨u33, hI⟩ := hI
  obtain ⟨u34, hI⟩ := hI
  obtain ⟨u35, hI⟩ := hI
  obtain ⟨u36, hI⟩ := hI
  obtain ⟨u37, hI⟩ := hI
  obtain ⟨u38, hI⟩ := hI
  obtain ⟨u39, hI⟩ := hI
  obtain ⟨u40, hI⟩ := hI
  obtain ⟨u41, hI⟩ := hI
  obtain ⟨u42, hI⟩ := hI
  obtain ⟨u43, hI⟩ := hI
  obtain ⟨u44, hI⟩ := hI
  obtain ⟨u45, hI⟩ := hI
  obtain ⟨u46, hI⟩ := hI
  obtain ⟨u47, hI⟩ := hI
  obtain ⟨u48, hI⟩ := hI
  obtain ⟨u49, hI⟩ := hI
  obtain ⟨u50, hI⟩ := hI
  obtain ⟨u51, hI⟩ := hI
  obtain ⟨u52, hI⟩ := hI
  obtain ⟨u53, hI⟩ := hI
  obtain ⟨u54, hI⟩ := hI
  obtain ⟨u55, hI⟩ := hI
  obtain ⟨u56, hI⟩ := hI
  obtain ⟨u57, hI⟩ := hI
  obtain ⟨u58, hI⟩ := hI
  obtain ⟨u59, hI⟩ := hI
  obtain ⟨u60, hI⟩ := hI
  obtain ⟨u61, hI⟩ := hI
  obtain ⟨u62, hI⟩ := hI
  obtain ⟨u63, hI⟩ := hI
  obtain ⟨u64, hI⟩ := hI
  obtain ⟨b5, k, ⟨hk, hB5, hb5, hM, hN⟩, rfl⟩ := hI
  have HB5 := Lib.hid hB5
  have Hb5 := Lib.hid hb5
  have HM := Lib.hid hM
  have HN : Hid (New w1 wr) := Lib.hid hN
  clear hB5 hb5 hM hN
  conv => arg 2; whnf
  have j0 : wr.cell? ⟨b3, 0, none⟩ = some (.int .i64 p) := (HN.out.blk H.out.B3).cell 0
  have j1 : wr.cell? ⟨b3, 1, none⟩ = some (.slice a.A a.n a.c) := (HN.out.blk H.out.B3).cell 1
  have j3 : wr.cell? ⟨b3, 3, none⟩ = some (.slice b.A b.n b.c) := (HN.out.blk H.out.B3).cell 3
  have i2 : wr.cell? ⟨b2, 0, none⟩ = some (.pointer (some ⟨g, 0, none⟩)) := (HN.out.blk H.out.B2).cell 0
  have hne2 : ¬ b2 = wr.heap.size := fun e => by have := (HN.out.blk H.out.B2).lt; omega
  have hne3 : ¬ b3 = wr.heap.size := fun e => by have := (HN.out.blk H.out.B3).lt; omega
  have hne5 : ¬ b5 = wr.heap.size := fun e => by have := HB5.out.lt; omega
  by_cases h4 : k = 4
  · subst h4
    have i5 : wr.cell? ⟨b5, 0, none⟩ = some (.int .i64 4) := HB5.out.cell 0
    go_wp2_with fail
    exact HE.out _ _ _ _ _ _ _ _ _ _ _ _ _ _ _ _ _ _ _ _ _ _ _ _ _ _ _ _ _ _ _ _ _ _ _ _ _ _ _ _ _ _ _ _ _ _ _ _ _ _ _ _ _ _ _ _ _ _ _ _ _ _ ⟨HB5.out, Hb5.out, HM.out, HN.out⟩
  · by_cases h1 : k = 1
    · subst h1
      have i5 : wr.cell? ⟨b5, 0, none⟩ = some (.int .i64 1) := HB5.out.cell 0
      go_upto_region 5 with fail
      obtain ⟨wa, hwa⟩ : ∃ wa : World, wa = wr.alloc (.cells #[.slice none 0 0] 50) := ⟨_, rfl⟩
      obtain ⟨b6, hb6⟩ : ∃ b6, b6 = wr.heap.size := ⟨_, rfl⟩
      have HNa : Hid (New wr wa) := Lib.hid (by rw [hwa]; exact New.al (New.refl _) _)
      have HB6 : Hid (Blk wa b6 50 #[.slice none 0 0]) := Lib.hid (by rw [hwa, hb6]; exact Blk.new _ _ _)
      have HZ6 : Hid (b6 = wr.heap.size) := Lib.hid hb6
      rw [← hwa, ← hb6]
      clear hwa hb6 i5 j0 j1 j3 i2 hne2 hne3 hne5
      have i5 : wa.cell? ⟨b5, 0, none⟩ = some (.int .i64 1) := (HNa.out.blk HB5.out).cell 0
      have j1 : wa.cell? ⟨b3, 1, none⟩ = some (.slice a.A a.n a.c) := (HNa.out.blk (HN.out.blk H.out.B3)).cell 1
      have f6 : wa.frozen? ⟨b6, 0, none⟩ = false := HB6.out.frozen 0
      have e6 : wa.cell? ⟨b6, 0, none⟩ = some (.slice none 0 0) := HB6.out.cell 0
      have n6 : ¬ b5 = b6 := fun e => Blk.ne_ (HNa.out.blk HB5.out) HB6.out (by decide) e
      go_upto_region 9 with fail
      obtain ⟨wb, hwb⟩ : ∃ wb : World, wb = wa.setCell ⟨b6, 0, none⟩ (.slice a.A a.n a.c) := ⟨_, rfl⟩
      have hFb : Fr (fun j => j = b6) wa wb := hwb ▸ (Fr.refl (fun j => j = b6) wa).setCell (p := ⟨b6, 0, none⟩) (fun _ => rfl) _
      have HB6b : Hid (Blk wb b6 50 #[.slice a.A a.n a.c]) := Lib.hid (by rw [hwb]; exact HB6.out.set 0 _)
      have HNb : Hid (New wr wb) := Lib.hid (HNa.out.fr hFb (fun j hj => by have := HZ6.out; omega))
      rw [← hwb]
      clear hwb hFb i5 j1 f6 n6 e6
      go_upto_region 10 with fail
      obtain ⟨wc, hwc⟩ : ∃ wc : World, wc = wb.alloc (.cells #[.int .i64 0] 3) := ⟨_, rfl⟩
      obtain ⟨b7, hb7⟩ : ∃ b7, b7 = wb.heap.size := ⟨_, rfl⟩
      have HNc : Hid (New wr wc) := Lib.hid (by rw [hwc]; exact New.al HNb.out _)
      have HB7c : Hid (Blk wc b7 3 #[.int .i64 0]) := Lib.hid (by rw [hwc, hb7]; exact Blk.new _ _ _)
      have HB6c : Hid (Blk wc b6 50 #[.slice a.A a.n a.c]) := Lib.hid (by rw [hwc]; exact HB6b.out.alloc _)
      have HZ7 : Hid (wr.heap.size ≤ b7) := Lib.hid (by rw [hb7]; exact HNb.out.size)
      rw [← hwc, ← hb7]
      clear hwc hb7
      have i5 : wc.cell? ⟨b5, 0, none⟩ = some (.int .i64 1) := (HNc.out.blk HB5.out).cell 0
      have i2 : wc.cell? ⟨b2, 0, none⟩ = some (.pointer (some ⟨g, 0, none⟩)) := (HNc.out.blk (HN.out.blk H.out.B2)).cell 0
      go_wp2_with fail
      refine (all_any (some ⟨g, 0, none⟩) 1 wc).mono ?_
      rintro e w2 ⟨rfl, hw2⟩
      have HNr : Hid (New wc w2) := Lib.hid (by rw [hw2]; exact New.al (New.al (New.refl _) _) _)
      have hc1 : w2.cell? ⟨wc.heap.size, 0, none⟩ = some (.pointer (some ⟨g, 0, none⟩)) := by rw [hw2]; exact ((Blk.new wc _ _).alloc _).cell 0
      have hc2 : w2.cell? ⟨wc.heap.size + 1, 0, none⟩ = some (.int .i64 1) := by rw [hw2]; exact (Blk.new' _ _ _ (by simp)).cell 0
      have HN2 : Hid (New wr w2) := Lib.hid (HNc.out.tr HNr.out)
      have HN12 : Hid (New w1 w2) := Lib.hid (HN.out.tr HN2.out)
      have HS := Lib.hid (all1_givesR (H.out.nt.new HN12.out) false wc.heap.size (wc.heap.size + 1) hc1 hc2)
      have HB52 : Hid (Blk w2 b5 3 #[.int .i64 1]) := Lib.hid (HN2.out.blk HB5.out)
      have HB62 := Lib.hid (HNr.out.blk HB6c.out)
      have HB72 := Lib.hid (HNr.out.blk HB7c.out)
      have H2Z : Hid (wr.heap.size ≤ w2.heap.size) := Lib.hid HN2.out.size
      have HZb : Hid (w1.heap.size ≤ b6 ∧ w1.heap.size ≤ b7) := Lib.hid ⟨by have := HN.out.size; have := HZ6.out; omega, by have := HN.out.size; have := HZ7.out; omega⟩
      clear hw2 hc1 hc2 i5 i2 HNc HNr HB6c HB7c
      go_wp2_with fail
      refine wp_rangeR rfl (enters_of Try.func27 (by kernel_rfl) rfl) (fun x : Fm => #[x.val]) (fun _ => rfl) HS.out (fun x W W' h hp => h.puts hp) (fun h k => h.tr k) (fun W W' hp => KpF.puts hp)
        (IsJ wr.heap.size b5 b6 b7 1 (.slice a.A a.n a.c) w2) (fun s A B h hN => h.new hN) (fun s A B h hp => h.puts H2Z.out hp) ⟨HB52.out, HB62.out, HB72.out, Fr.refl _ _⟩ ?a11 ?assign1 ?body1 ?done1
      case assign1 =>
        intro l x W K hK
        gi_wp2
        exact hK
      case body1 =>
        rintro l pre x W hpl ⟨hj5, hj6, hj7, hfr⟩ hgood ⟨kk, hkk, y, hy, hyx⟩
        as_aux_lemma =>
          have HJ5 := Lib.hid hj5
          have HJ6 := Lib.hid hj6
          have HJ7 := Lib.hid hj7
          have HFR := Lib.hid hfr
          have HNW : Hid (New w1 W) := Lib.hid (HN12.out.fr hfr (fun _ h => Nat.le_trans HN.out.size h))
          obtain ⟨z, hz, hzx⟩ : ∃ z, a.F[kk]? = some z ∧ z.xs = x.xs := by
            have e := H.out.eF false
            have h1 : ((sel false l1 l2).L.map Fm.xs)[kk]? = some y.xs := by rw [List.getElem?_map, hy]; rfl
            rw [e, List.getElem?_map] at h1
            obtain ⟨z, h2, h3⟩ := Option.map_eq_some_iff.1 h1
            exact ⟨z, h2, h3.trans hyx⟩
          have hkl : kk < a.F.length := (List.getElem?_eq_some_iff.1 hz).1
          have hrl := H.out.ra
          have hln : a.n = a.F.length := hrl.f.len
          have hrf := hrl.f.new HNW.out
          obtain ⟨ga, oa, ca, hsl, -, hcz⟩ := hrf.at (by have := hrl.fl; omega) hkl
          have hze : a.F[kk] = z := by rw [List.getElem?_eq_getElem hkl] at hz; exact Option.some.inj hz
          rw [hze] at hcz
          have hzr := hrf.el z (List.mem_of_getElem? hz)
          obtain ⟨nr, hnr⟩ : ∃ nr, nr = a.n := ⟨_, rfl⟩
          have hcd : decide (a.n ≤ kk) = false := decide_eq_false (by omega)
          have hcp : (kk : Int) < (a.n : Int) := by omega
          have hpl0 : (kk : Int) < 256 := by omega
          have hnA : Value.slice a.A a.n a.c = .slice (some ⟨ga, oa, none⟩) nr ca := hsl.trans (by rw [hnr, hln])
          rw [hnA] at hj6
          obtain ⟨xA, xn, xc, xs⟩ := x
          obtain ⟨zA, zn, zc, zs⟩ := z
          dsimp only at hzx
          subst hzx
          have k7 := cell_regrown (hj7.cell 0)
          have k6 := cell_regrown (hj6.cell 0)
          have k5 := cell_regrown (hj5.cell 0)
          have k2 := cell_regrown ((HNW.out.blk H.out.B2).cell 0)
          have kz := cell_regrown (show W.cell? ⟨ga, oa + kk, none⟩ = some (.slice zA zn zc) from hcz)
          have k30 := cell_regrown (show W.cell? ⟨b3, 0, none⟩ = some (.int .i64 p) from (HNW.out.blk H.out.B3).cell 0)
          have k31 := cell_regrown (show W.cell? ⟨b3, 1, none⟩ = some (.slice a.A a.n a.c) from (HNW.out.blk H.out.B3).cell 1)
          have k32 := cell_regrown (show W.cell? ⟨b3, 2, none⟩ = some (.slice a.B a.m a.d) from (HNW.out.blk H.out.B3).cell 2)
          have k33 := cell_regrown (show W.cell? ⟨b3, 3, none⟩ = some (.slice b.A b.n b.c) from (HNW.out.blk H.out.B3).cell 3)
          have k34 := cell_regrown (show W.cell? ⟨b3, 4, none⟩ = some (.slice b.B b.m b.d) from (HNW.out.blk H.out.B3).cell 4)
          have hq := H.out.eT false zs
          generalize hqv : (sel false l1 l2).lost zs = q at hq
          have cB := callsIn_regrown (n := 2 - 1) (w := W) (v := .bool true) (f := 18) (args := #[.slice xA xn xc, .slice zA zn zc]) (fun W' hN' => (bytes_any xA zA xn zn xc zc zs zs W' (hN'.rd hgood.1) (hN'.rd hzr.1) hgood.2.1 hzr.2.1).mono fun e w' h => ⟨by rw [h.1]; simp, by rw [← h.2]; exact New.refl _⟩)
          have cL := callsIn_regrown (n := 2 - 1) (w := W) (v := .int .i64 q) (f := 23) (args := #[.pointer (some ⟨g, 0, none⟩), .int .i64 1, .slice xA xn xc]) (fun W' hN' => (lost_in (H.out.nt.new (HNW.out.tr hN')) false xA xn xc zs (hN'.rd hgood.1) hgood.2.1 (by have := hgood.2.2; dsimp only at this; omega)).mono fun e w' h => ⟨by rw [h.1, hqv], h.2⟩)
          have cR := callsIn_regrown (n := 2 - 1) (w := W) (v := .int .i64 q) (f := 24) (args := #[rnv p a b, .int .i64 1, .slice xA xn xc]) (fun W' hN' => (rlost_in false p a b xA xn xc zs W' (by exact (hrl.new (HNW.out.tr hN'))) (by have := H.out.hM; omega) (hN'.rd hgood.1) hgood.2.1).mono fun e w' h => ⟨by rw [h.1, hq], h.2⟩)
          unfold rnv rnc at cR
          clear hln hnA hsl hze hz hy hyx hkl hcz
          simp only [Fm.val]
          gi_wp2
          refine wpIn_region_below_round l rfl (by kernel_rfl) (by kernel_rfl) rfl ?_
          repeat (refine wpQuietIn_step (fun _ _ _ _ => trivial) (fun K hK => ?_); go_simp; first | (refine hK _ ?_; clear hK K) | (apply Exists.intro; refine ⟨fun _ => ?_, hK _ ?_⟩; (first | exact cB _ _ | exact cL _ _ | exact cR _ _); clear hK K))
          refine wpQuietIn_nil ?_
          intro _ hw'
          obtain ⟨⟨dq, osq⟩, hw''⟩ := hw'
          obtain ⟨W2, hW2⟩ : ∃ W2, W2 = grow (redrawn W dq) osq := ⟨_, rfl⟩
          have HW2 : Hid (New W W2) := Lib.hid (by rw [hW2]; exact below_regrown W dq osq)
          rw [hw'', ← hW2]
          have q7 : W2.cell? ⟨b7, 0, none⟩ = some (.int .i64 kk) := by rw [← hkk]; exact (HW2.out.blk HJ7.out).cell 0
          have f7 : W2.frozen? ⟨b7, 0, none⟩ = false := (HW2.out.blk HJ7.out).frozen 0
          clear hw'' hW2 k7 k6 k5 k2 kz k30 k31 k32 k33 k34 cB cL cR hj5 hj6 hj7 hfr hgood hq hqv hcd hcp
          gi_wp2
          have hFW : Fr (fun j => j = b7) W (W2.setCell ⟨b7, 0, none⟩ (.int .i64 (kk + 1))) := (HW2.out.toFr (fun j => j = b7)).setCell (p := ⟨b7, 0, none⟩) (fun _ => rfl) _
          have hb57 : ¬ b5 = b7 := fun e => by have := HB5.out.lt; have := HZ7.out; omega
          refine ⟨Kept.fr hFW ?_, ⟨hFW.size, fun j hj => hFW.block j ?_ ?_⟩, HJ5.out.fr hFW hb57, HJ6.out.fr hFW ?_, ?_, HFR.out.trans (hFW.mono ?_)⟩
          · rintro j ob - rfl ho
            have hb := HJ7.out
            unfold Blk at hb
            rw [hb] at ho
            injection ho with ho
            rw [← ho]
            rfl
          · rcases hj with ⟨cs, fz, hx⟩ | ⟨cs, fz, hx⟩ <;> exact lt_of_block hx
          · rintro rfl
            rcases hj with hj | hj
            · exact IsT.not_blk HJ7.out (by decide) hj
            · exact IsT.not_blk HJ7.out (by decide) hj
          · exact fun e => Blk.ne_ HJ6.out HJ7.out (by decide) e
          · have hb := (HW2.out.blk HJ7.out).set 0 (.int .i64 (kk + 1))
            rw [List.length_append, hkk]
            simpa using hb
          · rintro j - rfl
            exact HZ7.out
      case done1 =>
        rintro D fs W hD hfs ⟨hj5, hj6, hj7, hfr⟩ hDm
        as_aux_lemma =>
          have HD := Lib.hid hD
          have HDM := Lib.hid hDm
          have HFR := Lib.hid hfr
          have HNW : Hid (New w1 W) := Lib.hid (HN12.out.fr hfr (fun _ h => Nat.le_trans HN.out.size h))
          have HJ5 := Lib.hid hj5
          have hlen : fs.length = a.n := by
            have e := congrArg List.length hfs
            have e2 := congrArg List.length (H.out.eF false)
            have e3 : a.n = a.F.length := H.out.ra.f.len
            simp only [List.length_map] at e e2
            rw [e3, e, e2]
            rfl
          rw [hlen] at hj7
          have e7 : W.cell? ⟨b7, 0, none⟩ = some (.int .i64 (a.n : Nat)) := hj7.cell 0
          have e6 : W.cell? ⟨b6, 0, none⟩ = some (.slice a.A a.n a.c) := hj6.cell 0
          have e5 : W.cell? ⟨b5, 0, none⟩ = some (.int .i64 1) := hj5.cell 0
          have e2 : W.cell? ⟨b2, 0, none⟩ = some (.pointer (some ⟨g, 0, none⟩)) := (HNW.out.blk H.out.B2).cell 0
          have hsl : (sel false l1 l2).L.length = a.n := by
            have e2 := congrArg List.length (H.out.eF false)
            have e3 : a.n = a.F.length := H.out.ra.f.len
            simp only [List.length_map] at e2
            rw [e3, e2]
            rfl
          have ql := fun t => Calls.quiet_of_same ((len_in (H.out.nt.new (New.dn HNW.out t)) false).mono fun _ _ h => ⟨h.1, h.2.symm⟩)
          rw [hsl] at ql
          have QL := Lib.hid ql
          clear ql hlen hfs hj5 hj6 hj7 hfr hDm hD
          try clear hsl
          try simp only [Nat.cast_ofNat_Int, Int.Nat.cast_zero] at e7
          dsimp only
          go_wp2_with fail
          go_quiet ((exact QL.out _))
          obtain ⟨Wq, hWq⟩ : ∃ Wq : World, Wq = W.drewN nq := ⟨_, rfl⟩
          have HNq : Hid (New W Wq) := Lib.hid (by rw [hWq]; exact New.dn (New.refl _) _)
          have e5q : Wq.cell? ⟨b5, 0, none⟩ = some (.int .i64 1) := (HNq.out.blk HJ5.out).cell 0
          rw [← hWq]
          clear hWq e5 e6 e7 e2
          go_wp2_with fail
          have hFrW : Fr (fun j => wr.heap.size ≤ j) wr W := (HN2.out.toFr _).trans HFR.out
          have hMW : Marks w1.heap.size (D :: Ds) W := Marks.cons (HM.out.keep hFrW (fun _ h => h)) (fun j hj => Nat.lt_of_lt_of_le (HM.out.lt hj) (Nat.le_trans H2Z.out HD.out)) (Nat.le_trans HN.out.size (Nat.le_trans H2Z.out HD.out)) HDM.out
          have hNq : New W (Wq.alloc (.cells #[.int .i64 2] 3)) := New.al HNq.out _
          have m1 : (Wq.alloc (.cells #[.int .i64 2] 3)).cell? ⟨Wq.heap.size, 0, none⟩ = some (.int .i64 2) := (Blk.new Wq _ _).cell 0
          have m2 : wr.cell? ⟨b5, 0, none⟩ = some (.int .i64 1) := HB5.out.cell 0
          refine ⟨?_, ?_⟩
          · unfold IsW
            exact ⟨D :: Ds, _, _, _, _, _, _, _, _, _, _, _, _, _, _, _, _, _, _, _, _, _, _, _, _, _, _, _, _, _, _, _, _, _, _, _, _, _, _, _, _, _, _, _, _, _, _, _, _, _, _, _, _, _, _, _, _, _, _, _, Wq.heap.size, 2, ⟨by decide, Blk.new Wq _ _, Nat.le_trans HNW.out.size HNq.out.size, hMW.new hNq, HNW.out.tr hNq⟩, rfl⟩
          · show 4 - (intOf (((Wq.alloc (.cells #[.int .i64 2] 3)).cell? ⟨Wq.heap.size, 0, none⟩).getD undef)).toNat < 4 - (intOf ((wr.cell? ⟨b5, 0, none⟩).getD undef)).toNat
            rw [m1, m2]
            decide

    · by_cases h2 : k = 2
      · subst h2
        have i5 : wr.cell? ⟨b5, 0, none⟩ = some (.int .i64 2) := HB5.out.cell 0
        go_upto_region 5 with fail
        obtain ⟨wa, hwa⟩ : ∃ wa : World, wa = wr.alloc (.cells #[.slice none 0 0] 50) := ⟨_, rfl⟩
        obtain ⟨b6, hb6⟩ : ∃ b6, b6 = wr.heap.size := ⟨_, rfl⟩
        have HNa : Hid (New wr wa) := Lib.hid (by rw [hwa]; exact New.al (New.refl _) _)
        have HB6 : Hid (Blk wa b6 50 #[.slice none 0 0]) := Lib.hid (by rw [hwa, hb6]; exact Blk.new _ _ _)
        have HZ6 : Hid (b6 = wr.heap.size) := Lib.hid hb6
        rw [← hwa, ← hb6]
        clear hwa hb6 i5 j0 j1 j3 i2 hne2 hne3 hne5
        have i5 : wa.cell? ⟨b5, 0, none⟩ = some (.int .i64 2) := (HNa.out.blk HB5.out).cell 0
        have j1 : wa.cell? ⟨b3, 3, none⟩ = some (.slice b.A b.n b.c) := (HNa.out.blk (HN.out.blk H.out.B3)).cell 3
        have f6 : wa.frozen? ⟨b6, 0, none⟩ = false := HB6.out.frozen 0
        have e6 : wa.cell? ⟨b6, 0, none⟩ = some (.slice none 0 0) := HB6.out.cell 0
        have n6 : ¬ b5 = b6 := fun e => Blk.ne_ (HNa.out.blk HB5.out) HB6.out (by decide) e
        go_upto_region 9 with fail
        obtain ⟨wb, hwb⟩ : ∃ wb : World, wb = wa.setCell ⟨b6, 0, none⟩ (.slice b.A b.n b.c) := ⟨_, rfl⟩
        have hFb : Fr (fun j => j = b6) wa wb := hwb ▸ (Fr.refl (fun j => j = b6) wa).setCell (p := ⟨b6, 0, none⟩) (fun _ => rfl) _
        have HB6b : Hid (Blk wb b6 50 #[.slice b.A b.n b.c]) := Lib.hid (by rw [hwb]; exact HB6.out.set 0 _)
        have HNb : Hid (New wr wb) := Lib.hid (HNa.out.fr hFb (fun j hj => by have := HZ6.out; omega))
        rw [← hwb]
        clear hwb hFb i5 j1 f6 n6 e6
        go_upto_region 10 with fail
        obtain ⟨wc, hwc⟩ : ∃ wc : World, wc = wb.alloc (.cells #[.int .i64 0] 3) := ⟨_, rfl⟩
        obtain ⟨b7, hb7⟩ : ∃ b7, b7 = wb.heap.size := ⟨_, rfl⟩
        have HNc : Hid (New wr wc) := Lib.hid (by rw [hwc]; exact New.al HNb.out _)
        have HB7c : Hid (Blk wc b7 3 #[.int .i64 0]) := Lib.hid (by rw [hwc, hb7]; exact Blk.new _ _ _)
        have HB6c : Hid (Blk wc b6 50 #[.slice b.A b.n b.c]) := Lib.hid (by rw [hwc]; exact HB6b.out.alloc _)
        have HZ7 : Hid (wr.heap.size ≤ b7) := Lib.hid (by rw [hb7]; exact HNb.out.size)
        rw [← hwc, ← hb7]
        clear hwc hb7
        have i5 : wc.cell? ⟨b5, 0, none⟩ = some (.int .i64 2) := (HNc.out.blk HB5.out).cell 0
        have i2 : wc.cell? ⟨b2, 0, none⟩ = some (.pointer (some ⟨g, 0, none⟩)) := (HNc.out.blk (HN.out.blk H.out.B2)).cell 0
        go_wp2_with fail
        refine (all_any (some ⟨g, 0, none⟩) 2 wc).mono ?_
        rintro e w2 ⟨rfl, hw2⟩
        have HNr : Hid (New wc w2) := Lib.hid (by rw [hw2]; exact New.al (New.al (New.refl _) _) _)
        have hc1 : w2.cell? ⟨wc.heap.size, 0, none⟩ = some (.pointer (some ⟨g, 0, none⟩)) := by rw [hw2]; exact ((Blk.new wc _ _).alloc _).cell 0
        have hc2 : w2.cell? ⟨wc.heap.size + 1, 0, none⟩ = some (.int .i64 2) := by rw [hw2]; exact (Blk.new' _ _ _ (by simp)).cell 0
        have HN2 : Hid (New wr w2) := Lib.hid (HNc.out.tr HNr.out)
        have HN12 : Hid (New w1 w2) := Lib.hid (HN.out.tr HN2.out)
        have HS := Lib.hid (all1_givesR (H.out.nt.new HN12.out) true wc.heap.size (wc.heap.size + 1) hc1 hc2)
        have HB52 : Hid (Blk w2 b5 3 #[.int .i64 2]) := Lib.hid (HN2.out.blk HB5.out)
        have HB62 := Lib.hid (HNr.out.blk HB6c.out)
        have HB72 := Lib.hid (HNr.out.blk HB7c.out)
        have H2Z : Hid (wr.heap.size ≤ w2.heap.size) := Lib.hid HN2.out.size
        have HZb : Hid (w1.heap.size ≤ b6 ∧ w1.heap.size ≤ b7) := Lib.hid ⟨by have := HN.out.size; have := HZ6.out; omega, by have := HN.out.size; have := HZ7.out; omega⟩
        clear hw2 hc1 hc2 i5 i2 HNc HNr HB6c HB7c
        go_wp2_with fail
        refine wp_rangeR rfl (enters_of Try.func27 (by kernel_rfl) rfl) (fun x : Fm => #[x.val]) (fun _ => rfl) HS.out (fun x W W' h hp => h.puts hp) (fun h k => h.tr k) (fun W W' hp => KpF.puts hp)
          (IsJ wr.heap.size b5 b6 b7 2 (.slice b.A b.n b.c) w2) (fun s A B h hN => h.new hN) (fun s A B h hp => h.puts H2Z.out hp) ⟨HB52.out, HB62.out, HB72.out, Fr.refl _ _⟩ ?a12 ?assign2 ?body2 ?done2
        case assign2 =>
          intro l x W K hK
          gi_wp2
          exact hK
        case body2 =>
          rintro l pre x W hpl ⟨hj5, hj6, hj7, hfr⟩ hgood ⟨kk, hkk, y, hy, hyx⟩
          as_aux_lemma =>
            have HJ5 := Lib.hid hj5
            have HJ6 := Lib.hid hj6
            have HJ7 := Lib.hid hj7
            have HFR := Lib.hid hfr
            have HNW : Hid (New w1 W) := Lib.hid (HN12.out.fr hfr (fun _ h => Nat.le_trans HN.out.size h))
            obtain ⟨z, hz, hzx⟩ : ∃ z, b.F[kk]? = some z ∧ z.xs = x.xs := by
              have e := H.out.eF true
              have h1 : ((sel true l1 l2).L.map Fm.xs)[kk]? = some y.xs := by rw [List.getElem?_map, hy]; rfl
              rw [e, List.getElem?_map] at h1
              obtain ⟨z, h2, h3⟩ := Option.map_eq_some_iff.1 h1
              exact ⟨z, h2, h3.trans hyx⟩
            have hkl : kk < b.F.length := (List.getElem?_eq_some_iff.1 hz).1
            have hrl := H.out.rb
            have hln : b.n = b.F.length := hrl.f.len
            have hrf := hrl.f.new HNW.out
            obtain ⟨ga, oa, ca, hsl, -, hcz⟩ := hrf.at (by have := hrl.fl; omega) hkl
            have hze : b.F[kk] = z := by rw [List.getElem?_eq_getElem hkl] at hz; exact Option.some.inj hz
            rw [hze] at hcz
            have hzr := hrf.el z (List.mem_of_getElem? hz)
            obtain ⟨nr, hnr⟩ : ∃ nr, nr = b.n := ⟨_, rfl⟩
            have hcd : decide (b.n ≤ kk) = false := decide_eq_false (by omega)
            have hcp : (kk : Int) < (b.n : Int) := by omega
            have hpl0 : (kk : Int) < 256 := by omega
            have hnA : Value.slice b.A b.n b.c = .slice (some ⟨ga, oa, none⟩) nr ca := hsl.trans (by rw [hnr, hln])
            rw [hnA] at hj6
            obtain ⟨xA, xn, xc, xs⟩ := x
            obtain ⟨zA, zn, zc, zs⟩ := z
            dsimp only at hzx
            subst hzx
            have k7 := cell_regrown (hj7.cell 0)
            have k6 := cell_regrown (hj6.cell 0)
            have k5 := cell_regrown (hj5.cell 0)
            have k2 := cell_regrown ((HNW.out.blk H.out.B2).cell 0)
            have kz := cell_regrown (show W.cell? ⟨ga, oa + kk, none⟩ = some (.slice zA zn zc) from hcz)
            have k30 := cell_regrown (show W.cell? ⟨b3, 0, none⟩ = some (.int .i64 p) from (HNW.out.blk H.out.B3).cell 0)
            have k31 := cell_regrown (show W.cell? ⟨b3, 1, none⟩ = some (.slice a.A a.n a.c) from (HNW.out.blk H.out.B3).cell 1)
            have k32 := cell_regrown (show W.cell? ⟨b3, 2, none⟩ = some (.slice a.B a.m a.d) from (HNW.out.blk H.out.B3).cell 2)
            have k33 := cell_regrown (show W.cell? ⟨b3, 3, none⟩ = some (.slice b.A b.n b.c) from (HNW.out.blk H.out.B3).cell 3)
            have k34 := cell_regrown (show W.cell? ⟨b3, 4, none⟩ = some (.slice b.B b.m b.d) from (HNW.out.blk H.out.B3).cell 4)
            have hq := H.out.eT true zs
            generalize hqv : (sel true l1 l2).lost zs = q at hq
            have cB := callsIn_regrown (n := 2 - 1) (w := W) (v := .bool true) (f := 18) (args := #[.slice xA xn xc, .slice zA zn zc]) (fun W' hN' => (bytes_any xA zA xn zn xc zc zs zs W' (hN'.rd hgood.1) (hN'.rd hzr.1) hgood.2.1 hzr.2.1).mono fun e w' h => ⟨by rw [h.1]; simp, by rw [← h.2]; exact New.refl _⟩)
            have cL := callsIn_regrown (n := 2 - 1) (w := W) (v := .int .i64 q) (f := 23) (args := #[.pointer (some ⟨g, 0, none⟩), .int .i64 2, .slice xA xn xc]) (fun W' hN' => (lost_in (H.out.nt.new (HNW.out.tr hN')) true xA xn xc zs (hN'.rd hgood.1) hgood.2.1 (by have := hgood.2.2; dsimp only at this; omega)).mono fun e w' h => ⟨by rw [h.1, hqv], h.2⟩)
            have cR := callsIn_regrown (n := 2 - 1) (w := W) (v := .int .i64 q) (f := 24) (args := #[rnv p a b, .int .i64 2, .slice xA xn xc]) (fun W' hN' => (rlost_in true p a b xA xn xc zs W' (by exact (hrl.new (HNW.out.tr hN'))) (by have := H.out.hM; omega) (hN'.rd hgood.1) hgood.2.1).mono fun e w' h => ⟨by rw [h.1, hq], h.2⟩)
            unfold rnv rnc at cR
            clear hln hnA hsl hze hz hy hyx hkl hcz
            simp only [Fm.val]
            gi_wp2
            refine wpIn_region_below_round l rfl (by kernel_rfl) (by kernel_rfl) rfl ?_
            repeat (refine wpQuietIn_step (fun _ _ _ _ => trivial) (fun K hK => ?_); go_simp; first | (refine hK _ ?_; clear hK K) | (apply Exists.intro; refine ⟨fun _ => ?_, hK _ ?_⟩; (first | exact cB _ _ | exact cL _ _ | exact cR _ _); clear hK K))
            refine wpQuietIn_nil ?_
            intro _ hw'
            obtain ⟨⟨dq, osq⟩, hw''⟩ := hw'
            obtain ⟨W2, hW2⟩ : ∃ W2, W2 = grow (redrawn W dq) osq := ⟨_, rfl⟩
            have HW2 : Hid (New W W2) := Lib.hid (by rw [hW2]; exact below_regrown W dq osq)
            rw [hw'', ← hW2]
            have q7 : W2.cell? ⟨b7, 0, none⟩ = some (.int .i64 kk) := by rw [← hkk]; exact (HW2.out.blk HJ7.out).cell 0
            have f7 : W2.frozen? ⟨b7, 0, none⟩ = false := (HW2.out.blk HJ7.out).frozen 0
            clear hw'' hW2 k7 k6 k5 k2 kz k30 k31 k32 k33 k34 cB cL cR hj5 hj6 hj7 hfr hgood hq hqv hcd hcp
            gi_wp2
            have hFW : Fr (fun j => j = b7) W (W2.setCell ⟨b7, 0, none⟩ (.int .i64 (kk + 1))) := (HW2.out.toFr (fun j => j = b7)).setCell (p := ⟨b7, 0, none⟩) (fun _ => rfl) _
            have hb57 : ¬ b5 = b7 := fun e => by have := HB5.out.lt; have := HZ7.out; omega
            refine ⟨Kept.fr hFW ?_, ⟨hFW.size, fun j hj => hFW.block j ?_ ?_⟩, HJ5.out.fr hFW hb57, HJ6.out.fr hFW ?_, ?_, HFR.out.trans (hFW.mono ?_)⟩
            · rintro j ob - rfl ho
              have hb := HJ7.out
              unfold Blk at hb
              rw [hb] at ho
              injection ho with ho
              rw [← ho]
              rfl
            · rcases hj with ⟨cs, fz, hx⟩ | ⟨cs, fz, hx⟩ <;> exact lt_of_block hx
            · rintro rfl
              rcases hj with hj | hj
              · exact IsT.not_blk HJ7.out (by decide) hj
              · exact IsT.not_blk HJ7.out (by decide) hj
            · exact fun e => Blk.ne_ HJ6.out HJ7.out (by decide) e
            · have hb := (HW2.out.blk HJ7.out).set 0 (.int .i64 (kk + 1))
              rw [List.length_append, hkk]
              simpa using hb
            · rintro j - rfl
              exact HZ7.out
        case done2 =>
          rintro D fs W hD hfs ⟨hj5, hj6, hj7, hfr⟩ hDm
          as_aux_lemma =>
            have HD := Lib.hid hD
            have HDM := Lib.hid hDm
            have HFR := Lib.hid hfr
            have HNW : Hid (New w1 W) := Lib.hid (HN12.out.fr hfr (fun _ h => Nat.le_trans HN.out.size h))
            have HJ5 := Lib.hid hj5
            have hlen : fs.length = b.n := by
              have e := congrArg List.length hfs
              have e2 := congrArg List.length (H.out.eF true)
              have e3 : b.n = b.F.length := H.out.rb.f.len
              simp only [List.length_map] at e e2
              rw [e3, e, e2]
              rfl
            rw [hlen] at hj7
            have e7 : W.cell? ⟨b7, 0, none⟩ = some (.int .i64 (b.n : Nat)) := hj7.cell 0
            have e6 : W.cell? ⟨b6, 0, none⟩ = some (.slice b.A b.n b.c) := hj6.cell 0
            have e5 : W.cell? ⟨b5, 0, none⟩ = some (.int .i64 2) := hj5.cell 0
            have e2 : W.cell? ⟨b2, 0, none⟩ = some (.pointer (some ⟨g, 0, none⟩)) := (HNW.out.blk H.out.B2).cell 0
            have hsl : (sel true l1 l2).L.length = b.n := by
              have e2 := congrArg List.length (H.out.eF true)
              have e3 : b.n = b.F.length := H.out.rb.f.len
              simp only [List.length_map] at e2
              rw [e3, e2]
              rfl
            have ql := fun t => Calls.quiet_of_same ((len_in (H.out.nt.new (New.dn HNW.out t)) true).mono fun _ _ h => ⟨h.1, h.2.symm⟩)
            rw [hsl] at ql
            have QL := Lib.hid ql
            clear ql hlen hfs hj5 hj6 hj7 hfr hDm hD
            try clear hsl
            try simp only [Nat.cast_ofNat_Int, Int.Nat.cast_zero] at e7
            dsimp only
            go_wp2_with fail
            go_quiet ((exact QL.out _))
            obtain ⟨Wq, hWq⟩ : ∃ Wq : World, Wq = W.drewN nq := ⟨_, rfl⟩
            have HNq : Hid (New W Wq) := Lib.hid (by rw [hWq]; exact New.dn (New.refl _) _)
            have e5q : Wq.cell? ⟨b5, 0, none⟩ = some (.int .i64 2) := (HNq.out.blk HJ5.out).cell 0
            rw [← hWq]
            clear hWq e5 e6 e7 e2
            go_wp2_with fail
            have hFrW : Fr (fun j => wr.heap.size ≤ j) wr W := (HN2.out.toFr _).trans HFR.out
            have hMW : Marks w1.heap.size (D :: Ds) W := Marks.cons (HM.out.keep hFrW (fun _ h => h)) (fun j hj => Nat.lt_of_lt_of_le (HM.out.lt hj) (Nat.le_trans H2Z.out HD.out)) (Nat.le_trans HN.out.size (Nat.le_trans H2Z.out HD.out)) HDM.out
            have hNq : New W (Wq.alloc (.cells #[.int .i64 3] 3)) := New.al HNq.out _
            have m1 : (Wq.alloc (.cells #[.int .i64 3] 3)).cell? ⟨Wq.heap.size, 0, none⟩ = some (.int .i64 3) := (Blk.new Wq _ _).cell 0
            have m2 : wr.cell? ⟨b5, 0, none⟩ = some (.int .i64 2) := HB5.out.cell 0
            refine ⟨?_, ?_⟩
            · unfold IsW
              exact ⟨D :: Ds, _, _, _, _, _, _, _, _, _, _, _, _, _, _, _, _, _, _, _, _, _, _, _, _, _, _, _, _, _, _, _, _, _, _, _, _, _, _, _, _, _, _, _, _, _, _, _, _, _, _, _, _, _, _, _, _, _, _, _, Wq.heap.size, 3, ⟨by decide, Blk.new Wq _ _, Nat.le_trans HNW.out.size HNq.out.size, hMW.new hNq, HNW.out.tr hNq⟩, rfl⟩
            · show 4 - (intOf (((Wq.alloc (.cells #[.int .i64 3] 3)).cell? ⟨Wq.heap.size, 0, none⟩).getD undef)).toNat < 4 - (intOf ((wr.cell? ⟨b5, 0, none⟩).getD undef)).toNat
              rw [m1, m2]
              decide

      · by_cases h3 : k = 3
        · subst h3
          have i5 : wr.cell? ⟨b5, 0, none⟩ = some (.int .i64 3) := HB5.out.cell 0
          go_upto_region 5 with fail
          obtain ⟨wa, hwa⟩ : ∃ wa : World, wa = wr.alloc (.cells #[.slice none 0 0] 50) := ⟨_, rfl⟩
          obtain ⟨b6, hb6⟩ : ∃ b6, b6 = wr.heap.size := ⟨_, rfl⟩
          have HNa : Hid (New wr wa) := Lib.hid (by rw [hwa]; exact New.al (New.refl _) _)
          have HB6 : Hid (Blk wa b6 50 #[.slice none 0 0]) := Lib.hid (by rw [hwa, hb6]; exact Blk.new _ _ _)
          have HZ6 : Hid (b6 = wr.heap.size) := Lib.hid hb6
          rw [← hwa, ← hb6]
          clear hwa hb6 i5 j0 j1 j3 i2 hne2 hne3 hne5
          have i5 : wa.cell? ⟨b5, 0, none⟩ = some (.int .i64 3) := (HNa.out.blk HB5.out).cell 0
          go_upto_region 9 with fail
          obtain ⟨wb, hwb⟩ : ∃ wb : World, wb = wa := ⟨_, rfl⟩
          have HB6b : Hid (Blk wb b6 50 #[.slice none 0 0]) := Lib.hid (by rw [hwb]; exact HB6.out)
          have HNb : Hid (New wr wb) := Lib.hid (by rw [hwb]; exact HNa.out)
          rw [← hwb]
          clear hwb i5
          go_upto_region 10 with fail
          obtain ⟨wc, hwc⟩ : ∃ wc : World, wc = wb.alloc (.cells #[.int .i64 0] 3) := ⟨_, rfl⟩
          obtain ⟨b7, hb7⟩ : ∃ b7, b7 = wb.heap.size := ⟨_, rfl⟩
          have HNc : Hid (New wr wc) := Lib.hid (by rw [hwc]; exact New.al HNb.out _)
          have HB7c : Hid (Blk wc b7 3 #[.int .i64 0]) := Lib.hid (by rw [hwc, hb7]; exact Blk.new _ _ _)
          have HB6c : Hid (Blk wc b6 50 #[.slice none 0 0]) := Lib.hid (by rw [hwc]; exact HB6b.out.alloc _)
          have HZ7 : Hid (wr.heap.size ≤ b7) := Lib.hid (by rw [hb7]; exact HNb.out.size)
          rw [← hwc, ← hb7]
          clear hwc hb7
          have i5 : wc.cell? ⟨b5, 0, none⟩ = some (.int .i64 3) := (HNc.out.blk HB5.out).cell 0
          have i2 : wc.cell? ⟨b2, 0, none⟩ = some (.pointer (some ⟨g, 0, none⟩)) := (HNc.out.blk (HN.out.blk H.out.B2)).cell 0
          go_wp2_with fail
          refine (all_any (some ⟨g, 0, none⟩) 3 wc).mono ?_
          rintro e w2 ⟨rfl, hw2⟩
          have HNr : Hid (New wc w2) := Lib.hid (by rw [hw2]; exact New.al (New.al (New.refl _) _) _)
          have hc1 : w2.cell? ⟨wc.heap.size, 0, none⟩ = some (.pointer (some ⟨g, 0, none⟩)) := by rw [hw2]; exact ((Blk.new wc _ _).alloc _).cell 0
          have hc2 : w2.cell? ⟨wc.heap.size + 1, 0, none⟩ = some (.int .i64 3) := by rw [hw2]; exact (Blk.new' _ _ _ (by simp)).cell 0
          have HN2 : Hid (New wr w2) := Lib.hid (HNc.out.tr HNr.out)
          have HN12 : Hid (New w1 w2) := Lib.hid (HN.out.tr HN2.out)
          have HS := Lib.hid (all1_badR 3 (by decide) (by decide) g wc.heap.size (wc.heap.size + 1) w2 hc1 hc2)
          have HB52 : Hid (Blk w2 b5 3 #[.int .i64 3]) := Lib.hid (HN2.out.blk HB5.out)
          have HB62 := Lib.hid (HNr.out.blk HB6c.out)
          have HB72 := Lib.hid (HNr.out.blk HB7c.out)
          have H2Z : Hid (wr.heap.size ≤ w2.heap.size) := Lib.hid HN2.out.size
          have HZb : Hid (w1.heap.size ≤ b6 ∧ w1.heap.size ≤ b7) := Lib.hid ⟨by have := HN.out.size; have := HZ6.out; omega, by have := HN.out.size; have := HZ7.out; omega⟩
          clear hw2 hc1 hc2 i5 i2 HNc HNr HB6c HB7c
          go_wp2_with fail
          refine wp_rangeR rfl (enters_of Try.func27 (by kernel_rfl) rfl) (fun x : Fm => #[x.val]) (fun _ => rfl) HS.out (fun x W W' h hp => h.puts hp) (fun h k => h.tr k) (fun W W' hp => KpF.puts hp)
            (IsJ wr.heap.size b5 b6 b7 3 (.slice none 0 0) w2) (fun s A B h hN => h.new hN) (fun s A B h hp => h.puts H2Z.out hp) ⟨HB52.out, HB62.out, HB72.out, Fr.refl _ _⟩ ?a13 ?assign3 ?body3 ?done3
          case assign3 =>
            intro l x W K hK
            gi_wp2
            exact hK
          case body3 =>
            rintro l pre x W hpl - - hf
            exact hf.elim
          case done3 =>
            rintro D fs W hD hfs ⟨hj5, hj6, hj7, hfr⟩ hDm
            as_aux_lemma =>
              have HD := Lib.hid hD
              have HDM := Lib.hid hDm
              have HFR := Lib.hid hfr
              have HNW : Hid (New w1 W) := Lib.hid (HN12.out.fr hfr (fun _ h => Nat.le_trans HN.out.size h))
              have HJ5 := Lib.hid hj5
              have hlen : fs.length = 0 := by rw [hfs]; rfl
              rw [hlen] at hj7
              have e7 : W.cell? ⟨b7, 0, none⟩ = some (.int .i64 (0 : Nat)) := hj7.cell 0
              have e6 : W.cell? ⟨b6, 0, none⟩ = some (.slice none 0 0) := hj6.cell 0
              have e5 : W.cell? ⟨b5, 0, none⟩ = some (.int .i64 3) := hj5.cell 0
              have e2 : W.cell? ⟨b2, 0, none⟩ = some (.pointer (some ⟨g, 0, none⟩)) := (HNW.out.blk H.out.B2).cell 0
              have ql := fun t => Calls.quiet_of_same ((len_bad 3 (by decide) (by decide) g (W.drewN t)).mono fun _ _ h => ⟨h.1, h.2.symm⟩)
              have QL := Lib.hid ql
              clear ql hlen hfs hj5 hj6 hj7 hfr hDm hD
              try clear hsl
              try simp only [Nat.cast_ofNat_Int, Int.Nat.cast_zero] at e7
              dsimp only
              go_wp2_with fail
              go_quiet ((exact QL.out _))
              obtain ⟨Wq, hWq⟩ : ∃ Wq : World, Wq = W.drewN nq := ⟨_, rfl⟩
              have HNq : Hid (New W Wq) := Lib.hid (by rw [hWq]; exact New.dn (New.refl _) _)
              have e5q : Wq.cell? ⟨b5, 0, none⟩ = some (.int .i64 3) := (HNq.out.blk HJ5.out).cell 0
              rw [← hWq]
              clear hWq e5 e6 e7 e2
              go_wp2_with fail
              have hFrW : Fr (fun j => wr.heap.size ≤ j) wr W := (HN2.out.toFr _).trans HFR.out
              have hMW : Marks w1.heap.size (D :: Ds) W := Marks.cons (HM.out.keep hFrW (fun _ h => h)) (fun j hj => Nat.lt_of_lt_of_le (HM.out.lt hj) (Nat.le_trans H2Z.out HD.out)) (Nat.le_trans HN.out.size (Nat.le_trans H2Z.out HD.out)) HDM.out
              have hNq : New W (Wq.alloc (.cells #[.int .i64 4] 3)) := New.al HNq.out _
              have m1 : (Wq.alloc (.cells #[.int .i64 4] 3)).cell? ⟨Wq.heap.size, 0, none⟩ = some (.int .i64 4) := (Blk.new Wq _ _).cell 0
              have m2 : wr.cell? ⟨b5, 0, none⟩ = some (.int .i64 3) := HB5.out.cell 0
              refine ⟨?_, ?_⟩
              · unfold IsW
                exact ⟨D :: Ds, _, _, _, _, _, _, _, _, _, _, _, _, _, _, _, _, _, _, _, _, _, _, _, _, _, _, _, _, _, _, _, _, _, _, _, _, _, _, _, _, _, _, _, _, _, _, _, _, _, _, _, _, _, _, _, _, _, _, _, Wq.heap.size, 4, ⟨by decide, Blk.new Wq _ _, Nat.le_trans HNW.out.size HNq.out.size, hMW.new hNq, HNW.out.tr hNq⟩, rfl⟩
              · show 4 - (intOf (((Wq.alloc (.cells #[.int .i64 4] 3)).cell? ⟨Wq.heap.size, 0, none⟩).getD undef)).toNat < 4 - (intOf ((wr.cell? ⟨b5, 0, none⟩).getD undef)).toNat
                rw [m1, m2]
                decide

        · obtain rfl : k = 0 := by omega
          have i5 : wr.cell? ⟨b5, 0, none⟩ = some (.int .i64 0) := HB5.out.cell 0
          go_upto_region 5 with fail
          obtain ⟨wa, hwa⟩ : ∃ wa : World, wa = wr.alloc (.cells #[.slice none 0 0] 50) := ⟨_, rfl⟩
          obtain ⟨b6, hb6⟩ : ∃ b6, b6 = wr.heap.size := ⟨_, rfl⟩
          have HNa : Hid (New wr wa) := Lib.hid (by rw [hwa]; exact New.al (New.refl _) _)
          have HB6 : Hid (Blk wa b6 50 #[.slice none 0 0]) := Lib.hid (by rw [hwa, hb6]; exact Blk.new _ _ _)
          have HZ6 : Hid (b6 = wr.heap.size) := Lib.hid hb6
          rw [← hwa, ← hb6]
          clear hwa hb6 i5 j0 j1 j3 i2 hne2 hne3 hne5
          have i5 : wa.cell? ⟨b5, 0, none⟩ = some (.int .i64 0) := (HNa.out.blk HB5.out).cell 0
          go_upto_region 9 with fail
          obtain ⟨wb, hwb⟩ : ∃ wb : World, wb = wa := ⟨_, rfl⟩
          have HB6b : Hid (Blk wb b6 50 #[.slice none 0 0]) := Lib.hid (by rw [hwb]; exact HB6.out)
          have HNb : Hid (New wr wb) := Lib.hid (by rw [hwb]; exact HNa.out)
          rw [← hwb]
          clear hwb i5
          go_upto_region 10 with fail
          obtain ⟨wc, hwc⟩ : ∃ wc : World, wc = wb.alloc (.cells #[.int .i64 0] 3) := ⟨_, rfl⟩
          obtain ⟨b7, hb7⟩ : ∃ b7, b7 = wb.heap.size := ⟨_, rfl⟩
          have HNc : Hid (New wr wc) := Lib.hid (by rw [hwc]; exact New.al HNb.out _)
          have HB7c : Hid (Blk wc b7 3 #[.int .i64 0]) := Lib.hid (by rw [hwc, hb7]; exact Blk.new _ _ _)
          have HB6c : Hid (Blk wc b6 50 #[.slice none 0 0]) := Lib.hid (by rw [hwc]; exact HB6b.out.alloc _)
          have HZ7 : Hid (wr.heap.size ≤ b7) := Lib.hid (by rw [hb7]; exact HNb.out.size)
          rw [← hwc, ← hb7]
          clear hwc hb7
          have i5 : wc.cell? ⟨b5, 0, none⟩ = some (.int .i64 0) := (HNc.out.blk HB5.out).cell 0
          have i2 : wc.cell? ⟨b2, 0, none⟩ = some (.pointer (some ⟨g, 0, none⟩)) := (HNc.out.blk (HN.out.blk H.out.B2)).cell 0
          go_wp2_with fail
          refine (all_any (some ⟨g, 0, none⟩) 0 wc).mono ?_
          rintro e w2 ⟨rfl, hw2⟩
          have HNr : Hid (New wc w2) := Lib.hid (by rw [hw2]; exact New.al (New.al (New.refl _) _) _)
          have hc1 : w2.cell? ⟨wc.heap.size, 0, none⟩ = some (.pointer (some ⟨g, 0, none⟩)) := by rw [hw2]; exact ((Blk.new wc _ _).alloc _).cell 0
          have hc2 : w2.cell? ⟨wc.heap.size + 1, 0, none⟩ = some (.int .i64 0) := by rw [hw2]; exact (Blk.new' _ _ _ (by simp)).cell 0
          have HN2 : Hid (New wr w2) := Lib.hid (HNc.out.tr HNr.out)
          have HN12 : Hid (New w1 w2) := Lib.hid (HN.out.tr HN2.out)
          have HS := Lib.hid (all1_badR 0 (by decide) (by decide) g wc.heap.size (wc.heap.size + 1) w2 hc1 hc2)
          have HB52 : Hid (Blk w2 b5 3 #[.int .i64 0]) := Lib.hid (HN2.out.blk HB5.out)
          have HB62 := Lib.hid (HNr.out.blk HB6c.out)
          have HB72 := Lib.hid (HNr.out.blk HB7c.out)
          have H2Z : Hid (wr.heap.size ≤ w2.heap.size) := Lib.hid HN2.out.size
          have HZb : Hid (w1.heap.size ≤ b6 ∧ w1.heap.size ≤ b7) := Lib.hid ⟨by have := HN.out.size; have := HZ6.out; omega, by have := HN.out.size; have := HZ7.out; omega⟩
          clear hw2 hc1 hc2 i5 i2 HNc HNr HB6c HB7c
          go_wp2_with fail
          refine wp_rangeR rfl (enters_of Try.func27 (by kernel_rfl) rfl) (fun x : Fm => #[x.val]) (fun _ => rfl) HS.out (fun x W W' h hp => h.puts hp) (fun h k => h.tr k) (fun W W' hp => KpF.puts hp)
            (IsJ wr.heap.size b5 b6 b7 0 (.slice none 0 0) w2) (fun s A B h hN => h.new hN) (fun s A B h hp => h.puts H2Z.out hp) ⟨HB52.out, HB62.out, HB72.out, Fr.refl _ _⟩ ?a10 ?assign0 ?body0 ?done0
          case assign0 =>
            intro l x W K hK
            gi_wp2
            exact hK
          case body0 =>
            rintro l pre x W hpl - - hf
            exact hf.elim
          case done0 =>
            rintro D fs W hD hfs ⟨hj5, hj6, hj7, hfr⟩ hDm
            as_aux_lemma =>
              have HD := Lib.hid hD
              have HDM := Lib.hid hDm
              have HFR := Lib.hid hfr
              have HNW : Hid (New w1 W) := Lib.hid (HN12.out.fr hfr (fun _ h => Nat.le_trans HN.out.size h))
              have HJ5 := Lib.hid hj5
              have hlen : fs.length = 0 := by rw [hfs]; rfl
              rw [hlen] at hj7
              have e7 : W.cell? ⟨b7, 0, none⟩ = some (.int .i64 (0 : Nat)) := hj7.cell 0
              have e6 : W.cell? ⟨b6, 0, none⟩ = some (.slice none 0 0) := hj6.cell 0
              have e5 : W.cell? ⟨b5, 0, none⟩ = some (.int .i64 0) := hj5.cell 0
              have e2 : W.cell? ⟨b2, 0, none⟩ = some (.pointer (some ⟨g, 0, none⟩)) := (HNW.out.blk H.out.B2).cell 0
              have ql := fun t => Calls.quiet_of_same ((len_bad 0 (by decide) (by decide) g (W.drewN t)).mono fun _ _ h => ⟨h.1, h.2.symm⟩)
              have QL := Lib.hid ql
              clear ql hlen hfs hj5 hj6 hj7 hfr hDm hD
              try clear hsl
              try simp only [Nat.cast_ofNat_Int, Int.Nat.cast_zero] at e7
              dsimp only
              go_wp2_with fail
              go_quiet ((exact QL.out _))
              obtain ⟨Wq, hWq⟩ : ∃ Wq : World, Wq = W.drewN nq := ⟨_, rfl⟩
              have HNq : Hid (New W Wq) := Lib.hid (by rw [hWq]; exact New.dn (New.refl _) _)
              have e5q : Wq.cell? ⟨b5, 0, none⟩ = some (.int .i64 0) := (HNq.out.blk HJ5.out).cell 0
              rw [← hWq]
              clear hWq e5 e6 e7 e2
              go_wp2_with fail
              have hFrW : Fr (fun j => wr.heap.size ≤ j) wr W := (HN2.out.toFr _).trans HFR.out
              have hMW : Marks w1.heap.size (D :: Ds) W := Marks.cons (HM.out.keep hFrW (fun _ h => h)) (fun j hj => Nat.lt_of_lt_of_le (HM.out.lt hj) (Nat.le_trans H2Z.out HD.out)) (Nat.le_trans HN.out.size (Nat.le_trans H2Z.out HD.out)) HDM.out
              have hNq : New W (Wq.alloc (.cells #[.int .i64 1] 3)) := New.al HNq.out _
              have m1 : (Wq.alloc (.cells #[.int .i64 1] 3)).cell? ⟨Wq.heap.size, 0, none⟩ = some (.int .i64 1) := (Blk.new Wq _ _).cell 0
              have m2 : wr.cell? ⟨b5, 0, none⟩ = some (.int .i64 0) := HB5.out.cell 0
              refine ⟨?_, ?_⟩
              · unfold IsW
                exact ⟨D :: Ds, _, _, _, _, _, _, _, _, _, _, _, _, _, _, _, _, _, _, _, _, _, _, _, _, _, _, _, _, _, _, _, _, _, _, _, _, _, _, _, _, _, _, _, _, _, _, _, _, _, _, _, _, _, _, _, _, _, _, _, Wq.heap.size, 1, ⟨by decide, Blk.new Wq _ _, Nat.le_trans HNW.out.size HNq.out.size, hMW.new hNq, HNW.out.tr hNq⟩, rfl⟩
              · show 4 - (intOf (((Wq.alloc (.cells #[.int .i64 1] 3)).cell? ⟨Wq.heap.size, 0, none⟩).getD undef)).toNat < 4 - (intOf ((wr.cell? ⟨b5, 0, none⟩).getD undef)).toNat
                rw [m1, m2]
                decide

set_option maxRecDepth 100000 in
theorem is_loop {w1 : World} {X : Nat → Prop} {base g : Nat} {p : Int} {l1 l2 : Ln} {N : Nat} {P : Nat → Prop} {M : Nat} {a b : Rl} {b2 b3 b4 : Nat} (h : IsCx w1 X base g p l1 l2 N P M a b b2 b3 b4) {Ds : List Nat} {u6 u7 u8 u9 u10 u11 u12 u13 u14 u15 u16 u17 u18 u19 u20 u21 u22 u23 u24 u25 u26 u27 u28 u29 u30 u31 u32 u33 u34 u35 u36 u37 u38 u39 u40 u41 u42 u43 u44 u45 u46 u47 u48 u49 u50 u51 u52 u53 u54 u55 u56 u57 u58 u59 u60 u61 u62 u63 u64 : Value} {b5 : Nat} {wr : World} (h0 : IsR w1 b5 0 Ds wr) {Q0 : Exit → Act → World → Prop}
    (hexit : ∀ (Ds : List Nat) (u6 u7 u8 u9 u10 u11 u12 u13 u14 u15 u16 u17 u18 u19 u20 u21 u22 u23 u24 u25 u26 u27 u28 u29 u30 u31 u32 u33 u34 u35 u36 u37 u38 u39 u40 u41 u42 u43 u44 u45 u46 u47 u48 u49 u50 u51 u52 u53 u54 u55 u56 u57 u58 u59 u60 u61 u62 u63 u64 : Value) (b5 : Nat) (wr : World), IsR w1 b5 4 Ds wr → Q0 (.exit 0) ⟨#[.pointer (some ⟨g, 0, none⟩), rnv p a b, .pointer (some ⟨b2, 0, none⟩), .pointer (some ⟨b3, 0, none⟩), .pointer (some ⟨b4, 0, none⟩), .pointer (some ⟨b5, 0, none⟩), u6, u7, u8, u9, u10, u11, u12, u13, u14, u15, u16, u17, u18, u19, u20, u21, u22, u23, u24, u25, u26, u27, u28, u29, u30, u31, u32, u33, u34, u35, u36, u37, u38, u39, u40, u41, u42, u43, u44, u45, u46, u47, u48, u49, u50, u51, u52, u53, u54, u55, u56, u57, u58, u59, u60, u61, u62, u63, u64], Ds.map mk1⟩ wr) : (Code.loop islp).wp Try.prog Q0 ⟨#[.pointer (some ⟨g, 0, none⟩), rnv p a b, .pointer (some ⟨b2, 0, none⟩), .pointer (some ⟨b3, 0, none⟩), .pointer (some ⟨b4, 0, none⟩), .pointer (some ⟨b5, 0, none⟩), u6, u7, u8, u9, u10, u11, u12, u13, u14, u15, u16, u17, u18, u19, u20, u21, u22, u23, u24, u25, u26, u27, u28, u29, u30, u31, u32, u33, u34, u35, u36, u37, u38, u39, u40, u41, u42, u43, u44, u45, u46, u47, u48, u49, u50, u51, u52, u53, u54, u55, u56, u57, u58, u59, u60, u61, u62, u63, u64], Ds.map mk1⟩ wr := by
  refine wp_loop (IsW w1 X base g p l1 l2 N P M a b b2 b3 b4) Imu ?_ (fun a w'' hI => is_round h hexit a w'' hI)
  unfold IsW
  exact ⟨Ds, u6, u7, u8, u9, u10, u11, u12, u13, u14, u15, u16, u17, u18, u19, u20, u21, u22, u23, u24, u25, u26, u27, u28, u29, u30, u31, u32, u33, u34, u35, u36, u37, u38, u39, u40, u41, u42, u43, u44, u45, u46, u47, u48, u49, u50, u51, u52, u53, u54, u55, u56, u57, u58, u59, u60, u61, u62, u63, u64, b5, 0, ⟨by decide, h0⟩, rfl⟩
set_option maxHeartbeats 4000000 in
set_option maxRecDepth 100000 in
theorem is_any {X : Nat → Prop} {w : World} {base g : Nat} {p : Int} {l1 l2 : Ln} {N : Nat} {P : Nat → Prop} {M : Nat} {a b : Rl} (nt : Nt X w base g p l1 l2 N) (ra : RlIn P w M a) (rb : RlIn P w M b) (hM : M ≤ 100000)
    (eF : ∀ i, (sel i l1 l2).L.map Fm.xs = (rsel i a b).F.map Fm.xs) (eT : ∀ i xs, (sel i l1 l2).lost xs = cntR (rsel i a b).T xs) :
    Calls Try.prog 26 #[.pointer (some ⟨g, 0, none⟩), rnv p a b] w fun e w' => e = .returned (.bool true) ∧ New w w' := by
  have HNT := Lib.hid nt
  have HRA := Lib.hid ra
  have HRB := Lib.hid rb
  have HEF := Lib.hid eF
  have HET := Lib.hid eT
  clear nt ra rb eF eT
  change Calls _ _ #[_, .agg #[.int .i64 p, .slice a.A a.n a.c, .slice a.B a.m a.d, .slice b.A b.n b.c, .slice b.B b.m b.d]] w _
  refine (callsIn_wide (n := 3)).1 ?_
  refine callsIn_of_wp_marks Try.func26 rfl trivial ?_ rfl
  refine wpIn_wide.2 ?_
  simp only [Try.ntmps26, List.size_toArray, List.length_cons, List.length_nil, Nat.reduceAdd, Nat.reduceSub, Array.replicate_succ, Array.replicate_zero, List.push_toArray, List.append_toArray, List.nil_append, List.cons_append]
  go_upto_region 1 with fail
  obtain ⟨w1, hw1⟩ : ∃ w1 : World, w1 = ((w.alloc (.cells #[.pointer (some ⟨g, 0, none⟩)] 25)).alloc (.cells #[.int .i64 p, .slice a.A a.n a.c, .slice a.B a.m a.d, .slice b.A b.n b.c, .slice b.B b.m b.d] 54)).alloc (.cells #[.bool false] 4) := ⟨_, rfl⟩
  obtain ⟨b2, hb2⟩ : ∃ b2, b2 = w.heap.size := ⟨_, rfl⟩
  obtain ⟨b3, hb3⟩ : ∃ b3, b3 = w.heap.size + 1 := ⟨_, rfl⟩
  obtain ⟨b4, hb4⟩ : ∃ b4, b4 = w.heap.size + 1 + 1 := ⟨_, rfl⟩
  have HN1 : Hid (New w w1) := Lib.hid (by rw [hw1]; exact New.al (New.al (New.al (New.refl _) _) _) _)
  have HB2 : Hid (Blk w1 b2 25 #[.pointer (some ⟨g, 0, none⟩)]) := Lib.hid (by rw [hw1, hb2]; exact ((Blk.new _ _ _).alloc _).alloc _)
  have HB3 : Hid (Blk w1 b3 54 (rnc p a b)) := Lib.hid (by rw [hw1, hb3]; exact (Blk.new' _ _ _ (by simp)).alloc _)
  have HB4 : Hid (Blk w1 b4 4 #[.bool false]) := Lib.hid (by rw [hw1, hb4]; exact Blk.new' _ _ _ (by simp))
  rw [← hw1, ← hb4, ← hb3, ← hb2]
  have HZ4 : Hid (w.heap.size ≤ b4) := Lib.hid (by omega)
  clear hw1 hb2 hb3 hb4
  go_wp2_with fail
  have hcx : IsCx w1 X base g p l1 l2 N P M a b b2 b3 b4 := ⟨HNT.out.new HN1.out, HRA.out.new HN1.out, HRB.out.new HN1.out, hM, HB2.out, HB3.out, HB4.out, HEF.out, HET.out⟩
  refine is_loop hcx (Ds := []) (b5 := w1.heap.size) ?_ ?_
  · exact ⟨Blk.new w1 _ _, Nat.le_refl _, Marks.nil _ _, New.al (New.refl _) _⟩
  · rintro Ds u6 u7 u8 u9 u10 u11 u12 u13 u14 u15 u16 u17 u18 u19 u20 u21 u22 u23 u24 u25 u26 u27 u28 u29 u30 u31 u32 u33 u34 u35 u36 u37 u38 u39 u40 u41 u42 u43 u44 u45 u46 u47 u48 u49 u50 u51 u52 u53 u54 u55 u56 u57 u58 u59 u60 u61 u62 u63 u64 b5 wr ⟨hB5, hb5, hM5, hN5⟩
    have HN5 := Lib.hid hN5
    have HM5 := Lib.hid hM5
    have c4 : wr.cell? ⟨b4, 0, none⟩ = some (.bool false) := (hN5.blk HB4.out).cell 0
    have f4 : wr.frozen? ⟨b4, 0, none⟩ = false := (hN5.blk HB4.out).frozen 0
    clear hB5 hb5 hM5 hN5 hcx
    go_wp2_with fail
    have hF : Fr (fun j => j = b4) wr (wr.setCell ⟨b4, 0, none⟩ (.bool true)) := (Fr.refl (fun j => j = b4) wr).setCell (p := ⟨b4, 0, none⟩) (fun _ => rfl) _
    have hB : Blk (wr.setCell ⟨b4, 0, none⟩ (.bool true)) b4 4 #[.bool true] := (HN5.out.blk HB4.out).set 0 _
    refine leaves_marks Ds _ (HM5.out.fr hF (fun D hD => ?_)) (fun W' hS => ⟨.bool true, ?_, rfl, ?_⟩)
    · subst hD
      exact not_def_blk (HN5.out.blk HB4.out)
    · have hc : W'.cell? ⟨b4, 0, none⟩ = some (.bool true) := by
        have h1 : W'.heap[b4]? = _ := hS.cells b4 _ hB rfl
        exact (show Blk W' b4 4 #[.bool true] from h1).cell 0
      simp [results, Try.results26, go_sem, hc]
    · have hz := HN1.out.size
      exact (New.fr (HN1.out.tr HN5.out) hF (fun k hk => by have := HZ4.out; omega)).trans (hS.below.mono hz)
end Go.Proofs.Ytajoahhjgloefaa
