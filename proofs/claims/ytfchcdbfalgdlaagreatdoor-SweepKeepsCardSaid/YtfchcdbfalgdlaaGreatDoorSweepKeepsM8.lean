/- Texts of one proof, one behind the other: DkC, DkD, DkE, DkI, LgA. No condition but each one's own. -/
import Derived.Test.YtfchcdbfalgdlaaGreatDoorSweepKeepsM7
import Derived.Test.YtfchcdbfalgdlaaGreatDoorSweepKeepsM1
import Derived.Test.YtfchcdbfalgdlaaGreatDoorRows
namespace Go.Proofs.YtfchcdbfalgdlaaGreatDoor
set_option linter.unusedVariables false
set_option linter.unusedSimpArgs false
set_option linter.constructorNameAsVariable false
open Go.RowKit Go.Maps
theorem write_bad {pt : Option Addr} {a n : Int} {s : List Int} {w : World} (hmay : ∀ w', New w w' → Calls Tryz.prog 71 #[.pointer pt, .int .i64 a] w' fun e w'' => e = .returned (.iface 38 (.int .i64 n)) ∧ w' = w'') :
    Calls Tryz.prog 31 #[.pointer pt, .int .i64 a, .agg (secA s)] w fun e w' => e = .returned (.iface 38 (.int .i64 n)) ∧ New w w' := by
 have HM := Lib.hid hmay
 clear hmay
 go_enter Tryz.func31, Tryz.ntmps31
 go_wp2_with fail
 obtain ⟨w0, hw0⟩ : ∃ w0 : World, w0 = w.alloc (.cells (secA s) 68) := ⟨_, rfl⟩
 have HN0 : Hid (New w w0) := Lib.hid (by rw [hw0]; exact New.al (New.refl _) _)
 rw [← hw0]
 clear hw0
 refine (HM.out w0 HN0.out).mono ?_
 rintro e w1 ⟨rfl, rfl⟩
 go_wp2_with fail
 go_ret
 exact ⟨rfl, HN0.out⟩
theorem write_out {w : World} {base g bs bf : Nat} {v : Value} {p : DP} (h : Dk w base g bs bf v p) {a : Int} (s : List Int) (h1 : ¬ (0 ≤ a ∧ a < p.size)) : Calls Tryz.prog 31 #[.pointer (some ⟨g, 0, none⟩), .int .i64 a, .agg (secA s)] w fun e w' => e = .returned (.iface 38 (.int .i64 1)) ∧ New w w' := write_bad fun w' hN => may_out (h.new hN) h1
def DP.fall (p : DP) : DP := { p with down := true }
theorem DP.Ok.fall {p : DP} (h : p.Ok) : p.fall.Ok := ⟨h.s1, h.s2, h.sureR, h.freshR, h.nod, h.ord, h.fz⟩
theorem Dk.setDown {w : World} {base g bs bf : Nat} {v : Value} {p : DP} (h : Dk w base g bs bf v p) (b : Bool) : Dk (w.setCell ⟨g, 5, none⟩ (.bool b)) base g bs bf v { p with down := b } := by
 have hf : Fr (fun k => k = g) w (w.setCell ⟨g, 5, none⟩ (.bool b)) := (Fr.refl _ w).setCell (S := fun k => k = g) (p := ⟨g, 5, none⟩) (fun _ => rfl) _
 refine ⟨?_, h.ms.fr hf (fun e => h.gs e.symm), h.mw.fr hf (fun e => h.gf e.symm), own_fr h.own hf (fun k hk e => h.vg (by rw [hk, e])), h.ne, h.lo, ⟨h.ok.s1, h.ok.s2, h.ok.sureR, h.ok.freshR, h.ok.nod, h.ok.ord, h.ok.fz⟩⟩
 have := h.blk.set 5 (.bool b)
 simpa using this
theorem Dk.setFuse {w : World} {base g bs bf : Nat} {v : Value} {p : DP} (h : Dk w base g bs bf v p) (n : Int) (hn : -1 ≤ n ∧ n ≤ 9223372036854775807) : Dk (w.setCell ⟨g, 4, none⟩ (.int .i64 n)) base g bs bf v { p with fuse := n } := by
 have hf : Fr (fun k => k = g) w (w.setCell ⟨g, 4, none⟩ (.int .i64 n)) := (Fr.refl _ w).setCell (S := fun k => k = g) (p := ⟨g, 4, none⟩) (fun _ => rfl) _
 refine ⟨?_, h.ms.fr hf (fun e => h.gs e.symm), h.mw.fr hf (fun e => h.gf e.symm), own_fr h.own hf (fun k hk e => h.vg (by rw [hk, e])), h.ne, h.lo, ⟨h.ok.s1, h.ok.s2, h.ok.sureR, h.ok.freshR, h.ok.nod, h.ok.ord, hn⟩⟩
 have := h.blk.set 4 (.int .i64 n)
 simpa using this
theorem write_down {w : World} {base g bs bf : Nat} {v : Value} {p : DP} (h : Dk w base g bs bf v p) {a : Int} (s : List Int) (h0 : 0 ≤ a) (h1 : a < p.size) (hd : p.fuse = 0 ∨ p.down = true) :
    Calls Tryz.prog 31 #[.pointer (some ⟨g, 0, none⟩), .int .i64 a, .agg (secA s)] w fun e w' => e = .returned (.iface 38 (.int .i64 14)) ∧ Dk w' base g bs bf v p.fall ∧ Fr (fun k => k = g) w w' := by
 have H := Lib.hid h
 clear h
 by_cases hz : p.fuse = 0
 · clear hd
   have hz' : (p.fuse == 0) = true := by simp [hz]
   clear hz
   go_enter Tryz.func31, Tryz.ntmps31
   go_wp2_with fail
   obtain ⟨w0, hw0⟩ : ∃ w0 : World, w0 = w.alloc (.cells (secA s) 68) := ⟨_, rfl⟩
   have HN0 : Hid (New w w0) := Lib.hid (by rw [hw0]; exact New.al (New.refl _) _)
   have HD0 := Lib.hid (H.out.new HN0.out)
   rw [← hw0]
   clear hw0
   refine (may_in HD0.out h0 h1).mono ?_
   rintro e w1 ⟨rfl, rfl⟩
   have c4 := HD0.out.blk.cell 4
   have c5 := HD0.out.blk.cell 5
   have f5 := HD0.out.blk.frozen 5
   go_wp2_with fail
   go_ret
   exact ⟨rfl, HD0.out.setDown true, (HN0.out.toFr _).setCell (S := fun k => k = g) (p := ⟨g, 5, none⟩) (fun _ => rfl) _⟩
 · have hz' : (p.fuse == 0) = false := by simp [hz]
   have hd' : p.down = true := hd.resolve_left hz
   clear hd hz
   have HP : Hid (p.fall = p) := Lib.hid (by cases p; simp only [DP.fall]; simp only at hd'; rw [hd'])
   have HDD := Lib.hid hd'
   clear hd'
   go_enter Tryz.func31, Tryz.ntmps31
   go_wp2_with fail
   obtain ⟨w0, hw0⟩ : ∃ w0 : World, w0 = w.alloc (.cells (secA s) 68) := ⟨_, rfl⟩
   have HN0 : Hid (New w w0) := Lib.hid (by rw [hw0]; exact New.al (New.refl _) _)
   have HD0 := Lib.hid (H.out.new HN0.out)
   rw [← hw0]
   clear hw0
   refine (may_in HD0.out h0 h1).mono ?_
   rintro e w1 ⟨rfl, rfl⟩
   have c4 := HD0.out.blk.cell 4
   have c5 : w0.cell? ⟨g, 5, none⟩ = some (.bool true) := by rw [HD0.out.blk.cell 5]; simp [HDD.out]
   go_wp2_with fail
   go_ret
   exact ⟨rfl, by rw [HP.out]; exact HD0.out, HN0.out.toFr _⟩
theorem put_end {w1 w3 w4 w5 : World} {base g bs bf n : Nat} {v v3 : Value} {p : DP} (hD : Dk w1 base g bs bf v p) {a : Int} {s : List Int} (ha : 0 ≤ a ∧ a < p.size) (hs : SecOk s)
    (h2 : Fr (fun k => v.ownBlock = some k) w1 w3) (h3 : w3.ownsRow base 3 1 v3 (p.put a s).order.length (i64s (p.put a s).order))
    (hv : ∀ k, v3.ownBlock = some k → v.ownBlock = some k ∨ w1.heap.size ≤ k) (h4 : Fr (fun k => k = g) w3 w4) (hb4 : Blk w4 g 120 #[.int .i64 p.size, .map (some bs), .map (some bf), v3, .int .i64 p.fuse, .bool p.down])
    (hM : MapAt w5 Tryz.prog 3 bf n (putF (mf p.fresh) (.int .i64 a) (some (.agg (secA s))))) (h5 : Fr (fun k => k = bf) w4 w5) :
    Dk w5 base g bs bf v3 (p.put a s) ∧ Fr (DkOurs g bs bf v) w1 w5 := by
 have hok := hD.ok.put ha hs
 have hvg : ∀ k, v3.ownBlock = some k → k ≠ g := fun k hk e => by
  rcases hv k hk with h | h
  · exact hD.vg (by rw [h, e])
  · have := hD.blk.lt; omega
 have hvf : ∀ k, v3.ownBlock = some k → k ≠ bf := fun k hk e => by
  rcases hv k hk with h | h
  · exact hD.vf k h e
  · have := hD.mw.lt; omega
 refine ⟨⟨hb4.fr h5 hD.gf, ?_, ?_, own_fr (own_fr h3 h4 hvg) h5 hvf, hD.ne, hD.lo, hok⟩, ?_⟩
 · exact ((hD.ms.fr h2 (fun e => hD.vs _ e rfl)).fr h4 (fun e => hD.gs e.symm)).fr h5 hD.ne
 · have : putF (mf p.fresh) (.int .i64 a) (some (.agg (secA s))) = mf (p.put a s).fresh := mf_upd p.fresh a (some s)
   rw [this] at hM
   exact hM.tight kI _ fun kl hk => mf_keys hok.freshR kl hk
 · exact ((h2.mono fun b _ h => .inr (.inr (.inr h))).trans (h4.mono fun b _ h => .inl h)).trans (h5.mono fun b _ h => .inr (.inr (.inl h)))
set_option maxHeartbeats 4000000 in
set_option maxRecDepth 100000 in
theorem write_in {w : World} {base g bs bf : Nat} {v : Value} {p : DP} (h : Dk w base g bs bf v p) {a : Int} {s : List Int} (h0 : 0 ≤ a) (h1 : a < p.size) (hs : SecOk s) (hd : p.down = false) (hf : p.fuse ≠ 0) :
    Calls Tryz.prog 31 #[.pointer (some ⟨g, 0, none⟩), .int .i64 a, .agg (secA s)] w fun e w' => e = .returned .nilIface ∧ ∃ v', Dk w' base g bs bf v' (p.write a s) ∧ Fr (DkOurs g bs bf v) w w' ∧ ∀ k, v'.ownBlock = some k → v.ownBlock = some k ∨ w.heap.size ≤ k := by
 have H := Lib.hid h
 have HK := Lib.hid (keyI h0 (by have := h.ok.s2; omega))
 have HS := Lib.hid hs
 have hz' : (p.fuse == 0) = false := by simp [hf]
 have hfz := h.ok.fz
 have HDD := Lib.hid hd
 clear h hs hd
 go_enter Tryz.func31, Tryz.ntmps31
 go_wp2_with fail
 obtain ⟨w0, hw0⟩ : ∃ w0 : World, w0 = w.alloc (.cells (secA s) 68) := ⟨_, rfl⟩
 have HN0 : Hid (New w w0) := Lib.hid (by rw [hw0]; exact New.al (New.refl _) _)
 have HB0 : Hid (Blk w0 w.heap.size 68 (secA s)) := Lib.hid (by rw [hw0]; exact Blk.new _ _ _)
 have HD0 := Lib.hid (H.out.new HN0.out)
 rw [← hw0]
 clear hw0
 refine (may_in HD0.out h0 h1).mono ?_
 rintro e w1 ⟨rfl, rfl⟩
 obtain ⟨w1, hw1, HD1, HF1⟩ : ∃ w1, w1 = (if 0 < p.fuse then w0.setCell ⟨g, 4, none⟩ (.int .i64 (p.fuse - 1)) else w0) ∧ Hid (Dk w1 base g bs bf v p.burn) ∧ Hid (Fr (fun k => k = g) w0 w1) := by
  refine ⟨_, rfl, ?_, ?_⟩
  · by_cases hp : 0 < p.fuse
    · rw [if_pos hp]
      have := HD0.out.setFuse (p.fuse - 1) (by omega)
      have e : p.burn = { p with fuse := p.fuse - 1 } := by simp [DP.burn, if_pos hp]
      exact Lib.hid (by rw [e]; exact this)
    · rw [if_neg hp]
      have e : p.burn = p := by simp [DP.burn, if_neg hp]
      exact Lib.hid (by rw [e]; exact HD0.out)
  · by_cases hp : 0 < p.fuse
    · rw [if_pos hp]; exact Lib.hid ((Fr.refl _ w0).setCell (S := fun k => k = g) (p := ⟨g, 4, none⟩) (fun _ => rfl) _)
    · rw [if_neg hp]; exact Lib.hid (Fr.refl _ _)
 have c4 := HD0.out.blk.cell 4
 have f4 := HD0.out.blk.frozen 4
 have c5 : w0.cell? ⟨g, 5, none⟩ = some (.bool false) := by rw [HD0.out.blk.cell 5]; simp [HDD.out]
 have hgne : ¬ w.heap.size = g := fun e => by have := H.out.blk.lt; omega
 have HB1 := Lib.hid (HB0.out.fr HF1.out hgne)
 have HW1 := Lib.hid hw1
 clear hw1
 go_upto_region 10 with (fail)
 all_goals
  first
   | rw [show w0.setCell ⟨g, 4, none⟩ (.int .i64 (p.fuse - 1)) = w1 from by rw [HW1.out, if_pos (by assumption)]]
   | rw [show w0 = w1 from by rw [HW1.out, if_neg (by omega)]]
  clear c4 f4 c5 HB0 hz' hfz hf
  have HF01 : Hid (Fr (DkOurs g bs bf v) w w1) := Lib.hid ((HN0.out.toFr _).trans (HF1.out.mono fun b _ hb => .inl hb))
  have d2 := HD1.out.blk.cell 2
  have hbw : base ≤ w1.heap.size := by have := HD1.out.lo.1; have := HD1.out.blk.lt; omega
  obtain ⟨w2, hw2⟩ : ∃ w2 : World, w2 = w1.alloc (.cells (secA ((p.fresh a).getD sec0)) 68) := ⟨_, rfl⟩
  have HN2 : Hid (New w1 w2) := Lib.hid (by rw [hw2]; exact New.al (New.refl _) _)
  have HB2 := Lib.hid (New.blk HN2.out HB1.out)
  have HD2 := Lib.hid (HD1.out.new HN2.out)
  have e2 := HD2.out.blk.cell 2
  have e3 := HD2.out.blk.cell 3
  have e3f := HD2.out.blk.frozen 3
  have HW2 := Lib.hid hw2
  clear hw2
  cases hfr : p.fresh a with
  | some s0 =>
   as_aux_lemma =>
   have HS0 := Lib.hid (HD1.out.ok.freshR a s0 hfr).2
   have HFR := Lib.hid hfr
   clear hfr
   have HW3 : Hid (w1.alloc (.cells (secA s0) 68) = w2) := Lib.hid (by rw [HW2.out, HFR.out]; rfl)
   have HM2 : Hid (MapAt w2.drew Tryz.prog 3 bf p.size (mf p.fresh)) := Lib.hid (HD2.out.mw.fr (S := NoB) ((Fr.refl _ _).drew) (fun x => x))
   obtain ⟨w5, hrun, hM5, hF5⟩ := HM2.out.store kI Tryz.underlying118 (by have := HD2.out.ok.s2; have : p.burn.size = p.size := rfl; unfold maxLen; omega) HK.out (.agg (u8s s).toArray)
   have HM5 : Hid (MapAt w5 Tryz.prog 3 bf (p.size + 1) (putF (mf p.fresh) (.int .i64 a) (some (.agg (secA s))))) := Lib.hid hM5
   have HF5 := Lib.hid hF5
   have hS5 : w5.rangeAt w.heap.size 0 (u8s s) ∧ w5.cell? ⟨g, 2, none⟩ = some (.map (some bf)) := ⟨((HB2.out.drew).fr hF5 (fun e => by have := H.out.mw.lt; omega)).range, (HD2.out.blk.drew.fr hF5 HD2.out.gf).cell 2⟩
   have hS2 : w2.drew.rangeAt w.heap.size 0 (u8s s) ∧ w2.drew.cell? ⟨g, 2, none⟩ = some (.map (some bf)) := ⟨HB2.out.drew.range, e2⟩
   have hu := Tryz.underlying68
   have hi : (Tryz.prog.info? 68).map (·.size) = some (u8s s).length := by rw [u8s_len, HS.out.1]; rfl
   clear hM5 hF5
   go_wp2_with (first
    | ((with_reducible refine atOp ⟨some 47, _, _, _, _, _⟩ ?_); refine wpList_mlook2 (o := ⟨some 47, _, _, _, _, _⟩) HD1.out.mw kI Tryz.underlying118 (zSec _) rfl (.tmp 45) (.tmp 46) rfl rfl _ _ rfl HK.out (.agg (secA s0)) true (by simp [DP.burn, mf, HFR.out]) (by simp [DP.burn, mf, HFR.out]) ?_)
    | ((with_reducible refine atOp ⟨some 8, .alloc _, _, _, _, _⟩ ?_); refine wpList_newvar (s := s0) rfl rfl rfl _ _ rfl secInfo rfl rfl rfl HS0.out.1 ?_; rw [HW3.out]))
   go_region_held3 (fun w' => w'.rangeAt w.heap.size 0 (u8s s) ∧ w'.cell? ⟨g, 2, none⟩ = some (.map (some bf))) (first | exact hS5 | exact hS2) (fail)
   go_wp2_with fail
   go_ret
   have hO : w2.ownsRow base 3 1 v (p.burn.put a s).order.length (i64s (p.burn.put a s).order) := by
    have e : (p.burn.put a s).order = p.order := by simp [DP.put, DP.burn, HFR.out]
    rw [e]; exact HD2.out.own
   have hE := put_end HD2.out ⟨h0, h1⟩ HS.out (Fr.refl _ _) hO (fun k hk => .inl hk) (Fr.refl _ _) HD2.out.blk HM5.out HF5.out.ofDrew
   exact ⟨rfl, v, hE.1, (HF01.out.trans (HN2.out.toFr _)).trans hE.2, fun k hk => .inl hk⟩
  | none =>
   as_aux_lemma =>
   have HFR := Lib.hid hfr
   clear hfr
   have HW3 : Hid (w1.alloc (.cells (secA sec0) 68) = w2) := Lib.hid (by rw [HW2.out, HFR.out]; rfl)
   have hO2 : w2.ownsRow base 3 1 v p.order.length (i64s p.order) := HD2.out.own
   obtain ⟨A, c, rfl, hnc, hcm, -, -⟩ := own_shape hO2
   have hlen : p.order.length ≤ p.size := HD0.out.ok.len
   have hs2 : p.size ≤ 16384 := HD0.out.ok.s2
   have hml : p.order.length + 1 ≤ maxLen := by unfold maxLen; omega
   have HLEN := Lib.hid hlen
   have HSZ := Lib.hid hs2
   have HML := Lib.hid hml
   have HO2 := Lib.hid hO2
   have hb8 : (p.order.length + 1) * 8 ≤ 140737488355328 := by omega
   have HB8 := Lib.hid hb8
   have hbw2 : base ≤ w2.heap.size := by have := HN2.out.size; omega
   have HVG := Lib.hid HD2.out.vg
   clear hlen hs2 hml hO2 hb8
   go_upto_region 13 with (first
    | ((with_reducible refine atOp ⟨some 47, _, _, _, _, _⟩ ?_); refine wpList_mlook2 (o := ⟨some 47, _, _, _, _, _⟩) HD1.out.mw kI Tryz.underlying118 (zSec _) rfl (.tmp 45) (.tmp 46) rfl rfl _ _ rfl HK.out (.agg (secA sec0)) false (by simp [DP.burn, mf, HFR.out]) (by simp [DP.burn, mf, HFR.out]) ?_)
    | ((with_reducible refine atOp ⟨some 8, .alloc _, _, _, _, _⟩ ?_); refine wpList_newvar (s := sec0) rfl rfl rfl _ _ rfl secInfo rfl rfl rfl sec0_ok.1 ?_; rw [HW3.out])
    | (at_builtin; refine wpList_app elI _ rfl (.tmp 56) (.tmp 58) rfl base (.slice A p.order.length c) p.order.length (i64s p.order) rfl (New.own (New.al (New.refl w2) _) HO2.out) (some ⟨w2.heap.size, 0, none⟩) 1 1 [.int .i64 a] rfl (Rd.ofBlk (p := fun _ => True) (t := 3) (cs := #[.int .i64 a]) (Blk.new' _ _ _ rfl) 1 1 rfl trivial) (by simp [Value.oneCell']) HML.out HB8.out (by simp; omega) ?_; intro A' c' w3 hO3 hF3 hA3; have hB3 := (HD2.out.blk.alloc (.cells #[.int .i64 a] 3)).fr hF3 (fun e => HVG.out e); have m3 := hB3.cell 3; have q3 := hB3.frozen 3; have HB3 := Lib.hid hB3; have HO3 := Lib.hid hO3; have HF3 := Lib.hid hF3; have HA3 := Lib.hid hA3; clear hB3 hO3 hF3 hA3))
   have hF23 : Fr (fun k => (Value.slice A p.order.length c).ownBlock = some k) w2 w3 := ((Fr.refl _ w2).alloc _).trans HF3.out
   obtain ⟨w4, hw4⟩ : ∃ w4 : World, w4 = w3.setCell ⟨g, 3, none⟩ (.slice A' (p.order.length + 1) c') := ⟨_, rfl⟩
   have hF4 : Fr (fun k => k = g) w3 w4 := by rw [hw4]; exact (Fr.refl (fun k => k = g) w3).setCell (p := ⟨g, 3, none⟩) (fun _ => rfl) _
   have hB4 : Blk w4 g 120 #[.int .i64 p.burn.size, .map (some bs), .map (some bf), .slice A' (p.order.length + 1) c', .int .i64 p.burn.fuse, .bool p.burn.down] := by rw [hw4]; exact HB3.out.set 3 _
   have hM4 := (HD2.out.mw.fr hF23 (fun e => HD2.out.vf _ e rfl)).fr (S := fun k => k = g) hF4.drew (fun e => HD2.out.gf e.symm)
   have hb24 : Blk w4 w.heap.size 68 (secA s) := (HB2.out.fr hF23 (fun e => by have := H.out.ours _ (.inr (.inr (.inr e))); omega)).fr hF4 hgne
   rw [← hw4]
   clear hw4 m3 q3
   have HF23 := Lib.hid hF23
   have HF4 := Lib.hid hF4
   have HB4 := Lib.hid hB4
   have HB24 := Lib.hid hb24
   have hmx : p.burn.size < maxLen := by have := HSZ.out; have : p.burn.size = p.size := rfl; unfold maxLen; omega
   obtain ⟨w5, hrun, hM5, hF5⟩ := hM4.store kI Tryz.underlying118 hmx HK.out (.agg (u8s s).toArray)
   have HM5 : Hid (MapAt w5 Tryz.prog 3 bf (p.size + 1) (putF (mf p.fresh) (.int .i64 a) (some (.agg (secA s))))) := Lib.hid hM5
   have HF5 := Lib.hid hF5
   have e2' := HB4.out.cell 2
   have hS5 : w5.rangeAt w.heap.size 0 (u8s s) ∧ w5.cell? ⟨g, 2, none⟩ = some (.map (some bf)) := ⟨((HB24.out.drew).fr hF5 (fun e => by have := H.out.mw.lt; omega)).range, (HB4.out.drew.fr hF5 HD2.out.gf).cell 2⟩
   have hS2 : w4.drew.rangeAt w.heap.size 0 (u8s s) ∧ w4.drew.cell? ⟨g, 2, none⟩ = some (.map (some bf)) := ⟨HB24.out.drew.range, e2'⟩
   have hu := Tryz.underlying68
   have hi : (Tryz.prog.info? 68).map (·.size) = some (u8s s).length := by rw [u8s_len, HS.out.1]; rfl
   clear hM5 hF5 hM4 hF23 hF4 hB4 hb24 e3 e3f d2 e2
   go_region_held3 (fun w' => w'.rangeAt w.heap.size 0 (u8s s) ∧ w'.cell? ⟨g, 2, none⟩ = some (.map (some bf))) (first | exact hS5 | exact hS2) (fail)
   go_wp2_with fail
   go_ret
   have he : (p.burn.put a s).order = p.order ++ [a] := by simp [DP.put, DP.burn, HFR.out]
   have hv3 : ∀ k, (Value.slice A' (p.order.length + 1) c').ownBlock = some k → (Value.slice A p.order.length c).ownBlock = some k ∨ w2.heap.size ≤ k := fun k hk => by
    rcases HA3.out k hk with h | h
    · exact .inl h
    · right; simp at h; omega
   have hE := put_end (v3 := .slice A' (p.order.length + 1) c') HD2.out ⟨h0, h1⟩ HS.out HF23.out (by rw [he, i64s_app, List.length_append]; exact HO3.out) hv3 HF4.out HB4.out HM5.out HF5.out.ofDrew
   refine ⟨rfl, _, hE.1, (HF01.out.trans (HN2.out.toFr _)).trans hE.2, fun k hk => ?_⟩
   rcases hv3 k hk with h | h
   · exact .inl h
   · right
     have := HN2.out.size
     have := HF01.out.size
     omega
end Go.Proofs.YtfchcdbfalgdlaaGreatDoor
namespace Go.Proofs.YtfchcdbfalgdlaaGreatDoor
set_option linter.unusedVariables false
set_option linter.unusedSimpArgs false
set_option linter.constructorNameAsVariable false
open Go.RowKit Go.Maps
def DP.forget (p : DP) : DP := { p with fresh := fun _ => none, order := [] }
theorem DP.Ok.forget {p : DP} (h : p.Ok) : p.forget.Ok := ⟨h.s1, h.s2, h.sureR, by simp [DP.forget], by simp [DP.forget], by simp [DP.forget], h.fz⟩
theorem forget_in {w : World} {base g bs bf : Nat} {v : Value} {p : DP} (h : Dk w base g bs bf v p) : Calls Tryz.prog 65 #[.pointer (some ⟨g, 0, none⟩)] w fun e w' => e = .returned (.tuple #[]) ∧ Dk w' base g bs bf (.slice none 0 0) p.forget ∧ Fr (fun k => k = g ∨ k = bf) w w' := by
 have H := Lib.hid h
 have c2 := h.blk.cell 2
 clear h
 go_enter Tryz.func65, Tryz.ntmps65
 go_wp2_with ((with_reducible refine atOp ⟨none, .call _, _, _, _, _⟩ ?_); refine wpList_mclear H.out.mw Tryz.underlying118 rfl (.tmp 5) rfl rfl ?_; intro w1 hM1 hF1; have hB1 := H.out.blk.fr hF1 H.out.gf; have d3 := hB1.cell 3; have f3 := hB1.frozen 3; have HM1 := Lib.hid hM1; have HF1 := Lib.hid hF1; have HB1 := Lib.hid hB1; clear hM1 hF1 hB1)
 go_end0
 have hF2 : Fr (fun k => k = g) w1 (w1.setCell ⟨g, 3, none⟩ (.slice none 0 0)) := (Fr.refl _ _).setCell (S := fun k => k = g) (p := ⟨g, 3, none⟩) (fun _ => rfl) _
 refine ⟨rfl, ⟨HB1.out.set 3 _, (H.out.ms.fr HF1.out H.out.ne).fr hF2 (fun e => H.out.gs e.symm), ?_, World.ownsRow_nil _ _ _ _, H.out.ne, H.out.lo, H.out.ok.forget⟩, (HF1.out.mono fun b _ hb => .inr hb).trans (hF2.mono fun b _ hb => .inl hb)⟩
 have := (HM1.out.fr hF2 (fun e => H.out.gf e.symm)).mono (show 0 ≤ p.size by omega)
 rw [← mf_none] at this
 exact this
set_option maxHeartbeats 4000000 in
set_option maxRecDepth 100000 in
theorem copy_any (bd bs nd ns : Nat) (fd fs : Lit → Option Value) (w : World) (hd : MapAt w Tryz.prog 3 bd nd fd) (hs : MapAt w Tryz.prog 3 bs ns fs) (hne : bd ≠ bs) (hsec : ∀ kl v, fs kl = some v → ∃ s, v = .agg (secA s) ∧ SecOk s) (hroom : nd + ns ≤ maxLen) :
    Calls Tryz.prog 110 #[.map (some bd), .map (some bs)] w fun e w' => e = .returned (.tuple #[]) ∧ MapAt w' Tryz.prog 3 bd (nd + ns) (orF fs fd) ∧ Fr (fun k => k = bd) w w' := by
 obtain ⟨Dd, hd, hfd⟩ := hd
 obtain ⟨Ds, hs, hfs⟩ := hs
 have hbd := hd.lt
 have hbs := hs.lt
 have hsz := hs.size_le
 have HFD := Lib.hid hfd
 have HFS := Lib.hid hfs
 have HSEC := Lib.hid hsec
 clear hfd hfs hsec
 go_enter Tryz.func110, Tryz.ntmps110
 go_wp2_with (at_range; refine wpList_range_own _ rfl _ 118 rfl 3 68 kI Tryz.underlying118 Rv bs ns _ rfl hs ?_; intro w0 hrg0 hg0 hs0)
 go_frame
 go_loopw [8] (fun _ wr => ∃ (left : Lit → Bool) (cnt : Nat) (Dout : DataW Value), wr.ranges Tryz.prog 3 Rv bs w.heap.size ns Ds left cnt ∧ cnt ≤ Maps.size Ds ∧
     wr.ownsMap Tryz.prog 3 Rv bd (nd + (Maps.size Ds - cnt)) Dout ∧ Merged Dout Dd Ds left ∧ Hid (Fr (fun k => k = bd) w wr))
  (fun _ wr => wr.rangeLeft bs w.heap.size)
 case atStart =>
  exact ⟨_, _, Dd, hrg0, Nat.le_refl _, (hd.kept hg0 (by simp)).mono (by omega), merged_start Dd Ds, Lib.hid ((Fr.refl _ w).grown hg0 (fun k _ h => by cases h))⟩
 case round =>
  obtain ⟨left, cnt, Dout, hrg, hcs, hout, hM, HFW⟩ := hrel
  go_wp2_with (at_next; refine wpList_next_ranges _ rfl _ rfl 3 kI Rv id id (fun key _ _ => ⟨key, rfl⟩) (fun v _ _ => ⟨v, rfl⟩) bs w.heap.size ns _ _ _ rfl hrg ?_ ?_)
  · intro hc0 hl0
    go_wp2_with fail
    go_end0
    subst hc0
    exact ⟨rfl, ⟨Dout, hout.mono (by omega), merged_end hM hl0 HFD.out HFS.out⟩, HFW.out⟩
  · intro x c kl yd yp w1 cnt1 hkey hlx hv hat hrg1 hlt hg1 hs1 hen
    have hy : yd = .held c ∧ yp = [] := by unfold Rv at hv; injection hv with hv; injection hv with h1 h2; exact ⟨h1.symm, h2.symm⟩
    obtain ⟨s, hcs1, hsok⟩ := HSEC.out kl c (by
     rw [HFS.out kl, Maps.has_true_of_atKey hat, if_pos rfl, hat, hy.1]; rfl)
    rw [hcs1] at hen
    have hkey' : keyOf Tryz.prog 3 x = some kl := hkey
    obtain ⟨w2, hw2⟩ : ∃ w2 : World, w2 = w1.alloc (.cells (secA s) 68) := ⟨_, rfl⟩
    have hN2 : New w1 w2 := by rw [hw2]; exact New.al (New.refl _) _
    have hb2 : Blk w2 w1.heap.size 68 (secA s) := by rw [hw2]; exact Blk.new _ _ _
    have hg12 : w1.grownBy w2 none := by rw [hw2]; exact World.grownBy_alloc _ _ _
    have hout2 := (hout.kept hg1 (fun e => by have := Option.some.inj e; omega)).kept hg12 (by simp)
    have hrg2 := hrg1.kept hg12 (by simp) (by simp)
    have hv2 : Rv (.agg (secA s)) = some (yd, yp) := by rw [hy.1, hy.2, hcs1]; rfl
    have HW2 : Hid (w1.alloc (.cells (secA s) 68) = w2) := Lib.hid hw2.symm
    have HB2 := Lib.hid hb2
    have HSO := Lib.hid hsok
    have HG1 := Lib.hid hg1
    have HG12 := Lib.hid hg12
    have HY := Lib.hid hy
    have HCS := Lib.hid hcs1
    clear hw2 hb2 hsok hN2 hs0 hs1 hg1 hg12 hy hv
    subst hcs1
    go_wp2_with (first
     | ((with_reducible refine atOp ⟨some 5, .alloc _, _, _, _, _⟩ ?_); refine wpList_alloc_sec rfl rfl secInfo ?_)
     | ((with_reducible refine atOp ⟨none, .store 68 _ _, _, _, _, _⟩ ?_); refine wpList_store_last rfl (.tmp 5) (.tmp 12) rfl rfl sec0_ok.1 HSO.out.1 rfl rfl ?_; rw [HW2.out])
     | ((with_reducible refine atOp ⟨some 15, .load _ _, _, _, _, _⟩ ?_); refine wpList_load_blk (s := s) rfl _ rfl Tryz.underlying68 rfl rfl HB2.out HSO.out.1 ?_)
     | (at_mapUpdate; refine wpList_mapUpdate_own _ rfl _ _ _ 118 rfl 3 68 kI Tryz.underlying118 Rv bd _ _ rfl hout2 (by omega) _ _ _ rfl rfl hkey' yd yp hv2 ?_; intro w3 hout3 hg3; go_frame))
    have hrg3 := hrg2.kept hg3 (fun e => hne (Option.some.inj e).symm) (fun e => by have := Option.some.inj e; omega)
    go_roundw
    case rel =>
     refine ⟨_, cnt1, _, hrg3, by omega, hout3.mono (by omega), ?_, Lib.hid (((HFW.out.grown HG1.out (fun k hk e => by cases e; exact absurd hk (Nat.lt_irrefl _))).grown HG12.out (fun k _ e => by cases e)).grown hg3 (fun k _ e => by cases e; rfl))⟩
     exact merged_step hM hout.isMap (kI.key hkey) hat
    case measure => rw [hrg3.left_eq, hrg.left_eq]; exact hlt
theorem sync_down {w : World} {base g bs bf : Nat} {v : Value} {p : DP} (h : Dk w base g bs bf v p) (hd : p.down = true) : Calls Tryz.prog 57 #[.pointer (some ⟨g, 0, none⟩)] w fun e w' => e = .returned (.iface 38 (.int .i64 14)) ∧ w = w' := by
 have c5 : w.cell? ⟨g, 5, none⟩ = some (.bool true) := by rw [h.blk.cell 5]; simp [hd]
 clear h hd
 go_enter Tryz.func57, Tryz.ntmps57
 go_wp2_with fail
 go_ret
 exact ⟨rfl, rfl⟩
theorem sync_in {w : World} {base g bs bf : Nat} {v : Value} {p : DP} (h : Dk w base g bs bf v p) (hd : p.down = false) : Calls Tryz.prog 57 #[.pointer (some ⟨g, 0, none⟩)] w fun e w' => e = .returned .nilIface ∧ Dk w' base g bs bf (.slice none 0 0) p.sync ∧ Fr (fun k => k = g ∨ k = bs ∨ k = bf) w w' := by
 have H := Lib.hid h
 have c5 : w.cell? ⟨g, 5, none⟩ = some (.bool false) := by rw [h.blk.cell 5]; simp [hd]
 have c1 : w.cell? ⟨g, 1, none⟩ = some (.map (some bs)) := h.blk.cell 1
 have c2 : w.cell? ⟨g, 2, none⟩ = some (.map (some bf)) := h.blk.cell 2
 have hroom : p.size + p.size ≤ maxLen := by have := h.ok.s2; unfold maxLen; omega
 have HR := Lib.hid hroom
 clear h hd hroom
 go_enter Tryz.func57, Tryz.ntmps57
 go_wp2_with fail
 go_region_held3 (fun w' => w'.cell? ⟨g, 1, none⟩ = some (.map (some bs)) ∧ w'.cell? ⟨g, 2, none⟩ = some (.map (some bf)))
  (first | exact hS1 | go_keep)
  ((go_at_call 110; refine (copy_any bs bf p.size p.size _ _ _ (H.out.ms.fr (S := NoB) ((Fr.refl _ w).drew) (fun x => x)) (H.out.mw.fr (S := NoB) ((Fr.refl _ w).drew) (fun x => x)) H.out.ne (fun kl v hv => mf_shape H.out.ok.freshR hv) HR.out).mono ?_; rintro e w1 ⟨rfl, hM1, hF1⟩; have hB1 := H.out.blk.drew.fr hF1 H.out.gs; have hS1 : w1.cell? ⟨g, 1, none⟩ = some (.map (some bs)) ∧ w1.cell? ⟨g, 2, none⟩ = some (.map (some bf)) := ⟨hB1.cell 1, hB1.cell 2⟩; have HM1 := Lib.hid hM1; have HF1 := Lib.hid hF1.ofDrew; have HB1 := Lib.hid hB1; clear hM1 hF1 hB1))
 go_wp2_with fail
 have hD1 : Dk w1 base g bs bf v { p with sure := p.sync.sure } := by
  refine ⟨HB1.out, ?_, H.out.mw.fr HF1.out (fun e => H.out.ne e.symm), own_fr H.out.own HF1.out (fun k hk => H.out.vs k hk), H.out.ne, H.out.lo, ⟨H.out.ok.s1, H.out.ok.s2, H.out.ok.sync.sureR, H.out.ok.freshR, H.out.ok.nod, H.out.ok.ord, H.out.ok.fz⟩⟩
  have := HM1.out
  rw [mf_or] at this
  exact this.tight kI _ fun kl hk => mf_keys H.out.ok.sync.sureR kl hk
 refine (forget_in hD1).mono ?_
 rintro e w2 ⟨rfl, hD2, hF2⟩
 have HD2 := Lib.hid hD2
 have HF2 := Lib.hid hF2
 clear hD2 hF2 hD1
 go_wp2_with fail
 go_ret
 exact ⟨rfl, HD2.out, (HF1.out.mono fun b _ hb => .inr (.inl hb)).trans (HF2.out.mono fun b _ hb => hb.imp id .inr)⟩
end Go.Proofs.YtfchcdbfalgdlaaGreatDoor
namespace Go.Proofs.YtfchcdbfalgdlaaGreatDoor
set_option linter.unusedVariables false
set_option linter.unusedSimpArgs false
set_option linter.constructorNameAsVariable false
open Go.RowKit Go.Maps
def bools (xs : List Bool) : List Value := xs.map Value.bool
theorem bools_len (xs : List Bool) : (bools xs).length = xs.length := by simp [bools]
theorem rd_bool {p : Nat → Prop} {w : World} {A : Option Addr} {n : Nat} {xs : List Bool} (h : Rd p w 1 A n (bools xs)) {i : Nat} (hi : i < n) :
    ∃ g o, A = some ⟨g, o, none⟩ ∧ g < w.heap.size ∧ p g ∧ w.cell? ⟨g, o + i, none⟩ = some (.bool (xs.getD i false)) := by
 obtain ⟨g, o, hA, hp, hg, hc⟩ := h.out (by omega) (by omega)
 refine ⟨g, o, hA, hg, hp, hc i _ ?_⟩
 have hl : i < xs.length := by have := h.1; rw [bools_len] at this; omega
 simp [bools, List.getD, hl]
theorem rd_int {p : Nat → Prop} {w : World} {A : Option Addr} {n : Nat} {xs : List Int} (h : Rd p w 1 A n (i64s xs)) {i : Nat} (hi : i < n) :
    ∃ g o, A = some ⟨g, o, none⟩ ∧ g < w.heap.size ∧ p g ∧ w.cell? ⟨g, o + i, none⟩ = some (.int .i64 (xs.getD i 0)) := by
 obtain ⟨g, o, hA, hp, hg, hc⟩ := h.out (by omega) (by omega)
 refine ⟨g, o, hA, hg, hp, hc i _ ?_⟩
 have hl : i < xs.length := by have := h.1; rw [i64s_len] at this; omega
 simp [i64s, List.getD, hl]
def DP.part (p : DP) (keep : List Bool) (j : Nat) : DP := { p with sure := cutS p keep j }
theorem DP.Ok.part {p : DP} (h : p.Ok) (keep : List Bool) (j : Nat) : (p.part keep j).Ok := ⟨h.s1, h.s2, cutS_ok h keep j, h.freshR, h.nod, h.ord, h.fz⟩
theorem part_skip {p : DP} {keep : List Bool} {j : Nat} (h : keep.getD j false = false) : p.part keep (j + 1) = p.part keep j := by
 unfold DP.part
 congr 1
 simp only [cutS, h]
 rfl
theorem part_step {w w' : World} {base g bs bf n : Nat} {v : Value} {p : DP} {keep : List Bool} {j : Nat} {s : List Int} (hD : Dk w base g bs bf v (p.part keep j)) (hj : j < p.order.length) (hk : keep.getD j false = true) (hs : p.fresh (p.order.getD j 0) = some s)
    (hM : MapAt w' Tryz.prog 3 bs n (putF (mf (cutS p keep j)) (.int .i64 (p.order.getD j 0)) (some (.agg (secA s))))) (hF : Fr (fun k => k = bs) w w') (hok : p.Ok) : Dk w' base g bs bf v (p.part keep (j + 1)) := by
 have e : cutS p keep (j + 1) = upd (cutS p keep j) (p.order.getD j 0) (some s) := by simp only [cutS, hk, if_true, hs]
 refine ⟨hD.blk.fr hF hD.gs, ?_, hD.mw.fr hF (fun e => hD.ne e.symm), own_fr hD.own hF (fun k hk => hD.vs k hk), hD.ne, hD.lo, hok.part keep (j + 1)⟩
 have h2 : putF (mf (cutS p keep j)) (.int .i64 (p.order.getD j 0)) (some (.agg (secA s))) = mf (p.part keep (j + 1)).sure := by
  show _ = mf (cutS p keep (j + 1))
  rw [e]
  exact mf_upd _ _ (some s)
 rw [h2] at hM
 exact hM.tight kI _ fun kl hk => mf_keys (hok.part keep (j + 1)).sureR kl hk
set_option maxHeartbeats 4000000 in
set_option maxRecDepth 100000 in
theorem cut_in {w : World} {base g bs bf : Nat} {v : Value} {p : DP} (h : Dk w base g bs bf v p) {q : Nat → Prop} (A : Option Addr) (n c : Nat) (keep : List Bool) (hR : Rd q w 1 A n (bools keep)) (hn : n ≤ maxLen) (hq : ∀ k, q k → k ≠ bs) :
    Calls Tryz.prog 25 #[.pointer (some ⟨g, 0, none⟩), .slice A n c] w fun e w' => e = .returned (.tuple #[]) ∧ Dk w' base g bs bf (.slice none 0 0) (p.cut keep) ∧ Fr (fun k => k = g ∨ k = bs ∨ k = bf) w w' := by
 have H := Lib.hid h
 have HR := Lib.hid hR
 have HQ := Lib.hid hq
 have hkl : keep.length = n := by have := hR.1; rw [bools_len] at this; omega
 have HKL := Lib.hid hkl
 unfold maxLen at hn
 obtain ⟨A1, c1, rfl, hnc, hcm, -, -⟩ := own_shape h.own
 have HO := Lib.hid (Rd.own h.own rfl)
 have HLEN : Hid (p.order.length ≤ 16384) := Lib.hid (by have := h.ok.len; have := h.ok.s2; omega)
 have c3 : w.cell? ⟨g, 3, none⟩ = some (.slice A1 p.order.length c1) := h.blk.cell 3
 have hl := HLEN.out
 clear h hR hq hkl
 go_enter Tryz.func25, Tryz.ntmps25
 go_wp2_with fail
 go_loopw [13] (fun i wr => ∃ (j : Nat), j ≤ p.order.length ∧ i = .int .i64 j ∧ Hid (Dk wr base g bs bf (.slice A1 p.order.length c1) (p.part keep j)) ∧ Hid (Fr (fun k => k = bs) w wr)) (fun i _ => p.order.length - (intOf i).toNat)
 case atStart => exact ⟨0, Nat.zero_le _, rfl, Lib.hid H.out, Lib.hid (Fr.refl _ _)⟩
 case round =>
  obtain ⟨j, hj, rfl, HD, HF⟩ := hrel
  by_cases hlt : j < p.order.length
  · as_aux_lemma =>
    obtain ⟨gA, oA, rfl, -, hgA, cj⟩ := rd_int (HO.out.fr HF.out (fun k hk e => H.out.vs k hk e)) hlt
    by_cases hjn : j < n
    · obtain ⟨gK, oK, rfl, -, -, ck⟩ := rd_bool (HR.out.fr HF.out HQ.out) hjn
      cases hb : keep.getD j false with
      | false =>
       rw [hb] at ck
       have HB := Lib.hid hb
       clear hb c3
       go_wp2_with fail
       go_roundw
       case rel => exact ⟨j + 1, by omega, by go_num, Lib.hid (by rw [part_skip HB.out]; exact HD.out), HF⟩
       case measure => simp [intOf]; omega
      | true =>
       rw [hb] at ck
       have HB := Lib.hid hb
       have ha : p.order.getD j 0 ∈ p.order := by rw [List.getD_eq_getElem?_getD, List.getElem?_eq_getElem hlt]; exact List.getElem_mem _
       have hr := H.out.ok.inOrd ha
       obtain ⟨s, hs⟩ : ∃ s, p.fresh (p.order.getD j 0) = some s := by
        cases hf : p.fresh (p.order.getD j 0) with
        | some s => exact ⟨s, rfl⟩
        | none => exact absurd hf ((H.out.ok.ord _).1 ha)
       have hkey := keyI hr.1 (by have := H.out.ok.s2; omega)
       have HS := Lib.hid hs
       have HK := Lib.hid hkey
       have cj' : wr.cell? ⟨gA, oA + j, none⟩ = some (.int .i64 (p.order.getD j 0)) := cj
       have hlk : (Instr.lookup 118 (.map (some bf)) (.int .i64 (p.order.getD j 0)) false).run Tryz.prog wr.drew = .ok (.agg (secA s)) wr.drew := by
        have := ((HD.out.mw.fr (S := NoB) ((Fr.refl _ wr).drew) (fun x => x)).look kI Tryz.underlying118 (zSec _) hkey).2
        rw [this]
        simp only [DP.part, mf, hs, Option.map_some, Option.getD_some]
       have hM0 : MapAt wr.drew Tryz.prog 3 bs p.size (mf (cutS p keep j)) := HD.out.ms.fr (S := NoB) ((Fr.refl _ wr).drew) (fun x => x)
       obtain ⟨w5, hrun, hM5, hF5⟩ := hM0.store kI Tryz.underlying118 (by have := H.out.ok.s2; unfold maxLen; omega) hkey (.agg (secA s))
       have HM5 := Lib.hid hM5
       have HF5 := Lib.hid hF5
       have d1 : wr.cell? ⟨g, 1, none⟩ = some (.map (some bs)) := HD.out.blk.cell 1
       have d2 : wr.cell? ⟨g, 2, none⟩ = some (.map (some bf)) := HD.out.blk.cell 2
       clear hb c3 ha hr hs hkey cj hM0 hM5 hF5
       generalize hx : p.order.getD j 0 = x at *
       have HX := Lib.hid hx
       clear hx
       go_wp2_with fail
       go_region
       go_wp2_with fail
       go_roundw
       case rel =>
        refine ⟨j + 1, by omega, by go_num, Lib.hid ?_, Lib.hid (HF.out.trans HF5.out.ofDrew)⟩
        subst x
        exact part_step HD.out hlt HB.out HS.out HM5.out HF5.out.ofDrew H.out.ok
       case measure => simp [intOf]; omega
    · have hb : keep.getD j false = false := by
       have := HKL.out
       rw [List.getD_eq_getElem?_getD, List.getElem?_eq_none (by omega)]; rfl
      have HB := Lib.hid hb
      clear hb c3
      go_wp2_with fail
      go_roundw
      case rel => exact ⟨j + 1, by omega, by go_num, Lib.hid (by rw [part_skip HB.out]; exact HD.out), HF⟩
      case measure => simp [intOf]; omega
  · obtain rfl : j = p.order.length := by omega
    go_wp2_with fail
    refine (forget_in HD.out).mono ?_
    rintro e w2 ⟨rfl, hD2, hF2⟩
    have f4 := hD2.blk.frozen 4
    have f5 := hD2.blk.frozen 5
    have e4 := hD2.blk.cell 4
    have e5 := hD2.blk.cell 5
    have HD2 := Lib.hid hD2
    have HF2 := Lib.hid hF2
    clear hD2 hF2
    go_wp2_with fail
    go_end0
    have hz := (HD2.out.setFuse (-1) (by omega)).setDown false
    refine ⟨rfl, hz, ?_⟩
    refine (((HF.out.mono fun b _ hb => .inr (.inl hb)).trans (HF2.out.mono fun b _ hb => hb.imp id .inr)).setCell (p := ⟨g, 4, none⟩) (fun _ => .inl rfl) _).setCell (p := ⟨g, 5, none⟩) (fun _ => .inl rfl) _
end Go.Proofs.YtfchcdbfalgdlaaGreatDoor
namespace Go.Proofs.YtfchcdbfalgdlaaGreatDoor
set_option linter.unusedVariables false
set_option linter.unusedSimpArgs false
set_option linter.constructorNameAsVariable false
open Go.RowKit Go.Maps
def errD (n : Int) : Value := if n = 0 then .nilIface else .iface 38 (.int .i64 n)
theorem errD_0 : errD 0 = .nilIface := rfl
theorem errD_n {n : Int} (h : n ≠ 0) : errD n = .iface 38 (.int .i64 n) := if_neg h
def DP.within (p : DP) (a : Int) : Bool := decide (0 ≤ a ∧ a < p.size)
def DP.wcode (p : DP) (a : Int) : Int := if p.within a = true then (if p.fuse = 0 ∨ p.down = true then 14 else 0) else 1
def DP.doWrite (p : DP) (a : Int) (s : List Int) : DP := if p.within a = true then (if p.fuse = 0 ∨ p.down = true then p.fall else p.write a s) else p
def DP.scode (p : DP) : Int := if p.down = true then 14 else 0
def DP.doSync (p : DP) : DP := if p.down = true then p else p.sync
def DP.rcode (p : DP) (a : Int) : Int := if p.within a = true then 0 else 1
def DP.rget (p : DP) (a : Int) : List Int := if p.within a = true then p.get a else sec0
theorem DP.doWrite_size (p : DP) (a : Int) (s : List Int) : (p.doWrite a s).size = p.size := by
 unfold DP.doWrite
 split
 · split <;> rfl
 · rfl
theorem DP.doSync_size (p : DP) : p.doSync.size = p.size := by unfold DP.doSync; split <;> rfl
theorem write_all {w : World} {base g bs bf : Nat} {v : Value} {p : DP} (h : Dk w base g bs bf v p) (a : Int) {s : List Int} (hs : SecOk s) :
    Calls Tryz.prog 31 #[.pointer (some ⟨g, 0, none⟩), .int .i64 a, .agg (secA s)] w fun e w' => e = .returned (errD (p.wcode a)) ∧ ∃ v', Dk w' base g bs bf v' (p.doWrite a s) ∧ Fr (DkOurs g bs bf v) w w' ∧ ∀ k, v'.ownBlock = some k → base ≤ k ∧ (v.ownBlock = some k ∨ w.heap.size ≤ k) := by
 unfold DP.wcode DP.doWrite DP.within
 by_cases hw : 0 ≤ a ∧ a < p.size
 · rw [decide_eq_true hw]
   by_cases hd : p.fuse = 0 ∨ p.down = true
   · simp only [if_true, if_pos hd]
     refine (write_down h s hw.1 hw.2 hd).mono ?_
     rintro e w' ⟨rfl, h1, h2⟩
     exact ⟨rfl, v, h1, h2.mono fun b _ hb => .inl hb, fun k hk => ⟨(own_lt h1.own k hk).1, .inl hk⟩⟩
   · simp only [if_true, if_neg hd]
     have h0 : p.down = false := by
      cases hq : p.down with
      | true => exact absurd (.inr hq) hd
      | false => rfl
     refine (write_in h hw.1 hw.2 hs h0 (fun e => hd (.inl e))).mono ?_
     rintro e w' ⟨rfl, v', h1, h2, h3⟩
     exact ⟨rfl, v', h1, h2, fun k hk => ⟨(own_lt h1.own k hk).1, h3 k hk⟩⟩
 · rw [decide_eq_false hw]
   simp only [Bool.false_eq_true, if_false]
   refine (write_out h s hw).mono ?_
   rintro e w' ⟨rfl, h1⟩
   exact ⟨rfl, v, h.new h1, h1.toFr _, fun k hk => ⟨(own_lt h.own k hk).1, .inl hk⟩⟩
theorem sync_all {w : World} {base g bs bf : Nat} {v : Value} {p : DP} (h : Dk w base g bs bf v p) :
    Calls Tryz.prog 57 #[.pointer (some ⟨g, 0, none⟩)] w fun e w' => e = .returned (errD p.scode) ∧ ∃ v', Dk w' base g bs bf v' p.doSync ∧ Fr (DkOurs g bs bf v) w w' ∧ ∀ k, v'.ownBlock = some k → base ≤ k ∧ (v.ownBlock = some k ∨ w.heap.size ≤ k) := by
 unfold DP.scode DP.doSync
 by_cases hd : p.down = true
 · simp only [if_pos hd]
   refine (sync_down h hd).mono ?_
   rintro e w' ⟨rfl, rfl⟩
   exact ⟨rfl, v, h, Fr.refl _ _, fun k hk => ⟨(own_lt h.own k hk).1, .inl hk⟩⟩
 · simp only [if_neg hd]
   refine (sync_in h (by simpa using hd)).mono ?_
   rintro e w' ⟨rfl, h1, h2⟩
   refine ⟨rfl, _, h1, h2.mono fun b _ hb => ?_, fun k hk => by cases hk⟩
   rcases hb with rfl | rfl | rfl
   · exact .inl rfl
   · exact .inr (.inl rfl)
   · exact .inr (.inr (.inl rfl))
theorem read_all {w : World} {base g bs bf : Nat} {v : Value} {p : DP} (h : Dk w base g bs bf v p) (a : Int) :
    Calls Tryz.prog 91 #[.pointer (some ⟨g, 0, none⟩), .int .i64 a] w fun e w' => e = .returned (.tuple #[.agg (secA (p.rget a)), errD (p.rcode a)]) ∧ New w w' := by
 unfold DP.rcode DP.rget DP.within
 by_cases hw : 0 ≤ a ∧ a < p.size
 · rw [decide_eq_true hw]
   exact read_in h hw.1 hw.2
 · rw [decide_eq_false hw]
   exact read_out h hw
theorem DP.Ok.rget {p : DP} (h : p.Ok) (a : Int) : SecOk (p.rget a) := by
 unfold DP.rget
 split
 · exact h.get a
 · exact sec0_ok
end Go.Proofs.YtfchcdbfalgdlaaGreatDoor
namespace Go.Proofs.YtfchcdbfalgdlaaGreatDoor
set_option linter.unusedVariables false
set_option linter.unusedSimpArgs false
set_option linter.constructorNameAsVariable false
open Go.RowKit
def secs (n : Int) : Int := if 1 ≤ n ∧ n ≤ 65536 then (n + 74) / 55 else 0
theorem secs_le (n : Int) : 0 ≤ secs n ∧ secs n ≤ 1193 := by
 unfold secs
 split <;> omega
theorem secs_0 {n : Int} (h : ¬ (1 ≤ n ∧ n ≤ 65536)) : secs n = 0 := if_neg h
theorem secs_in {n : Int} (h1 : 1 ≤ n) (h2 : n ≤ 65536) : secs n = (n + 74) / 55 := if_pos ⟨h1, h2⟩
theorem ret_i {a b : Int} (h : a = b) : Ending.returned (.int .i64 a) = Ending.returned (.int .i64 b) := by rw [h]
theorem sectors_any (n : Int) (w : World) : Calls Tryz.prog 54 #[.int .i64 n] w fun e w' => e = .returned (.int .i64 (secs n)) ∧ w = w' := by
 by_cases h1 : n < 1
 · have HS := Lib.hid (secs_0 (n := n) (by omega))
   go_enter Tryz.func54, Tryz.ntmps54
   go_wp2_with fail
   go_ret
   exact ⟨ret_i (a := 0) HS.out.symm, rfl⟩
 · by_cases h2 : 65536 < n
   · have HS := Lib.hid (secs_0 (n := n) (by omega))
     go_enter Tryz.func54, Tryz.ntmps54
     go_wp2_with fail
     go_ret
     exact ⟨ret_i (a := 0) HS.out.symm, rfl⟩
   · have HS := Lib.hid (secs_in (n := n) (by omega) (by omega))
     have h3 : 1 ≤ n := by omega
     have h4 : n ≤ 65536 := by omega
     go_enter Tryz.func54, Tryz.ntmps54
     go_wp2_with fail
     go_ret
     exact ⟨ret_i (by rw [HS.out]; omega), rfl⟩
end Go.Proofs.YtfchcdbfalgdlaaGreatDoor
