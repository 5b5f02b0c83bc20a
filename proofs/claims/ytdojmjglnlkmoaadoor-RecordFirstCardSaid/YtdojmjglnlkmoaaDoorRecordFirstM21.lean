/- Texts of one proof, one behind the other: ShL, RcU. No condition but each one's own. -/
import Derived.Test.YtdojmjglnlkmoaaDoorRows
import Derived.Test.YtdojmjglnlkmoaaDoorRecordFirstM8
import Derived.Test.YtdojmjglnlkmoaaDoorRecordFirstM11
import Derived.Test.YtdojmjglnlkmoaaDoorRecordFirstM20
import Derived.SevenTiedAt
import Derived.Stop.Joined
import Derived.Test.YtdojmjglnlkmoaaDoorRecordFirstM19
/- sha's tables, out of the row's list of laid variables. No condition. -/
namespace Go.Proofs.YtdojmjglnlkmoaaDoor
set_option linter.unusedVariables false
set_option linter.unusedSimpArgs false
set_option linter.constructorNameAsVariable false
open Go.RowKit Go.Sort Go.ChangeShapes Go.WideShapes Go.ChangeAt

theorem laid_u32 {W : World} {n : String} {d : DataW Unit} {r : List (String × DataW Unit)} {ps : List MemPlace} {g t N : Nat} (L : List Int) (h : DataW.LaidVars Tryd.prog W ((n, d) :: r) ps) (hg : Tryd.prog.globalNamed n = some g) (ht : (Tryd.prog.globals[g]?).map (·.type) = some t) (hu : Tryd.prog.underlying t = some (.array N 137)) (hd : d = .agg (L.map fun x => .lit (.int .u32 x))) (hl : L.length = N) :
    (∀ j, j < N → W.cell? ⟨g, j, none⟩ = some (.int .u32 (at_ L j))) ∧ ∃ ps', DataW.LaidVars Tryd.prog W r ps' := by
  obtain ⟨g', t', cs, fuel, p, q, hg', ht', hv, hd', hr, _⟩ := h
  obtain rfl := Option.some.inj (hg.symm.trans hg')
  obtain rfl := Option.some.inj (ht.symm.trans ht')
  refine ⟨fun j hj => ?_, _, hr⟩
  obtain ⟨xs, m, _, ex, _, hxl, hel⟩ := DataW.trod_array hu hd'
  have c5 : Tryd.prog.cellsOf 137 = 1 := by kernel_rfl
  have hE := hel j hj
  rw [c5, Nat.mul_one, List.getElem?_eq_getElem (by omega)] at hE
  obtain ⟨z, e1, e2, _⟩ := DataW.trod_int Tryd.underlying137 hE
  have e3 : (xs.map (·.1)) = L.map fun n => .lit (.int .u32 n) := by
    have h0 := (Prod.mk.inj ex).1
    rw [hd] at h0
    exact (DataW.agg.inj h0).symm
  have e4 : (xs.map (·.1))[j]? = (L.map fun n => (DataW.lit (.int .u32 n) : DataW Unit))[j]? := by rw [e3]
  rw [List.getElem?_map, List.getElem?_map, List.getElem?_eq_getElem (by omega : j < xs.length), List.getElem?_eq_getElem (by omega : j < L.length), e2] at e4
  have hz : z = at_ L j := by
    simp only [Option.map_some, Option.some.injEq, DataW.lit.injEq, Lit.int.injEq, true_and] at e4
    unfold at_
    rw [e4, List.getD, List.getElem?_eq_getElem (by omega : j < L.length)]
    rfl
  rw [World.var?_cell hg hv j, ← hz]
  have : cs.toList[j]? = some (.int .u32 z) := by
    have h0 : ((cs.toList.drop j).take 1)[0]? = some (.int .u32 z) := by rw [e1]; rfl
    simpa using h0
  simpa using this
theorem range_iH {W : World} {g : Nat} (h : ∀ j, j < 8 → W.cell? ⟨g, j, none⟩ = some (.int .u32 (at_ iH.list j))) : W.rangeAt g 0 iH.arr.toList := fun j v hv => by
  have hj : j < 8 := by
    have := (List.getElem?_eq_some_iff.1 hv).1
    exact this
  rw [Nat.zero_add, h j hj, ← hv]
  rcases (by omega : j = 0 ∨ j = 1 ∨ j = 2 ∨ j = 3 ∨ j = 4 ∨ j = 5 ∨ j = 6 ∨ j = 7) with rfl | rfl | rfl | rfl | rfl | rfl | rfl | rfl <;> rfl
theorem sha_both {W : World} (h : laidMetH Tryd.prog [("entrust/entrustref02.Constants", Rows.laid_entrust_entrustref02_Constants), ("entrust/entrustref02.Initials", Rows.laid_entrust_entrustref02_Initials), ("entrust/sha.constants", Rows.laid_entrust_sha_constants), ("entrust/sha.initials", Rows.laid_entrust_sha_initials)] W) : RShaIn 1 0 W ∧ ShaIn 3 2 W := by
  rw [MakeChecks.laidMetH_plain _ _ _ (by kernel_rfl)] at h
  obtain ⟨ps, h, -, -⟩ := h
  obtain ⟨h1, ps1, h⟩ := laid_u32 kL h (by kernel_rfl) (by kernel_rfl) Tryd.underlying151 rfl rfl
  obtain ⟨h2, ps2, h⟩ := laid_u32 iH.list h (by kernel_rfl) (by kernel_rfl) Tryd.underlying138 rfl rfl
  obtain ⟨h3, ps3, h⟩ := laid_u32 kL h (by kernel_rfl) (by kernel_rfl) Tryd.underlying151 rfl rfl
  obtain ⟨h4, ps4, h⟩ := laid_u32 iH.list h (by kernel_rfl) (by kernel_rfl) Tryd.underlying138 rfl rfl
  exact ⟨⟨h1, range_iH h2⟩, ⟨h3, range_iH h4⟩⟩
theorem sha_live {W : World} (h : laidMetH Tryd.prog [("entrust/sha.constants", Rows.laid_entrust_sha_constants), ("entrust/sha.initials", Rows.laid_entrust_sha_initials)] W) : ShaIn 3 2 W := by
  rw [MakeChecks.laidMetH_plain _ _ _ (by kernel_rfl)] at h
  obtain ⟨ps, h, -, -⟩ := h
  obtain ⟨h3, ps3, h⟩ := laid_u32 kL h (by kernel_rfl) (by kernel_rfl) Tryd.underlying151 rfl rfl
  obtain ⟨h4, ps4, h⟩ := laid_u32 iH.list h (by kernel_rfl) (by kernel_rfl) Tryd.underlying138 rfl rfl
  exact ⟨h3, range_iH h4⟩
end Go.Proofs.YtdojmjglnlkmoaaDoor
/- RecordFirst, walked. sha's tables and the reference's are as they were laid. No condition else. -/
namespace Go.Proofs.YtdojmjglnlkmoaaDoor
set_option linter.unusedVariables false
set_option linter.unusedSimpArgs false
set_option linter.constructorNameAsVariable false
open Go.RowKit Go.Sort

theorem is_same (n : Int) (w : World) (hn : (n == 0) = false) : Calls Tryd.prog 18 #[.iface 55 (.int .i64 n), .int .i64 n] w fun e w' => e = .returned (.bool true) ∧ w = w' :=
  (is_err n n w hn).mono fun e w' ⟨h1, h2⟩ => ⟨by rw [h1, beq_self_eq_true], h2⟩
set_option maxHeartbeats 3000000
set_option maxRecDepth 100000
theorem first_walk (n : Nat) (hn : n < 18446744073709551616) (W : World) (hL : ShaIn 3 2 W) (hR : RShaIn 1 0 W) :
    Calls Tryd.prog 4 #[.int .u64 n] W fun e w' => e = .returned (.bool true) ∧ New W w' := by
  have HL := Lib.hid hL
  have HR := Lib.hid hR
  have HBN := Lib.hid built_none
  have HE11 : Hid (errD 11 = .iface 55 (.int .i64 11)) := Lib.hid (errD_n (by decide))
  clear hL hR hn
  go_enter Tryd.func4, Tryd.ntmps4
  go_wp2_with fail
  refine (alive_any W HL.out).mono ?_
  rintro e w1 ⟨rfl, hN⟩
  have HN1 := Lib.hid hN
  clear hN
  go_wp2_with fail
  refine (kopen_nil w1).mono ?_
  rintro e w2 ⟨rfl, rfl⟩
  rw [HE11.out]
  go_wp2_with fail
  refine (kget_nil w1).mono ?_
  rintro e w2 ⟨rfl, hN⟩
  have HN2 := Lib.hid (HN1.out.tr hN)
  clear hN HN1
  go_upto_region 6 with ((with_reducible refine atOp ⟨some 6, .alloc _, _, _, _, _⟩ ?_); refine wpList_newrow rfl rfl rfl _ _ rfl recInfo (by rfl) rfl rfl rfl (Rc.one _) ?_)
  obtain ⟨w3, hw3⟩ : ∃ w3 : World, w3 = w2.alloc (.cells rc0.cells 48) := ⟨_, rfl⟩
  obtain ⟨b6, hb6⟩ : ∃ b6, b6 = w2.heap.size := ⟨_, rfl⟩
  have HN3 : Hid (New W w3) := Lib.hid (HN2.out.tr (by rw [hw3]; exact New.al (New.refl _) _))
  rw [← hw3, ← hb6]
  clear hw3 hb6 HN2
  go_wp2_with fail
  refine (is_same 11 w3 (by decide)).mono ?_
  rintro e w4 ⟨rfl, rfl⟩
  go_wp2_with ((with_reducible refine atOp ⟨some 30, .build _ _, _, _, _, _⟩ ?_); refine wpList_built rfl _ [] rfl _ rfl _ HBN.out ?_)
  refine (ksave_nil rc0 w3 rc0_ok).mono ?_
  rintro e w4 ⟨rfl, hN⟩
  rw [HE11.out]
  have HN4 := Lib.hid (HN3.out.tr hN)
  clear hN HN3
  go_wp2_with fail
  refine (is_same 11 w4 (by decide)).mono ?_
  rintro e w5 ⟨rfl, rfl⟩
  go_wp2_with fail
  refine (number_nil w4).mono ?_
  rintro e w5 ⟨rfl, rfl⟩
  go_wp2_with fail
  refine (broken_nil w4).mono ?_
  rintro e w5 ⟨rfl, rfl⟩
  go_wp2_with fail
  by_cases hr : 1 ≤ n ∧ n ≤ 4294967296
  · have HRG := Lib.hid hr
    clear hr
    refine (first_ok n w4 (HL.out.new HN4.out) HRG.out.1 HRG.out.2).mono ?_
    rintro e w5 ⟨rfl, hN⟩
    have HN5 := Lib.hid (HN4.out.tr hN)
    have HFO : Hid ((fstR n).Ok ∧ (fstR n).Right) := Lib.hid ⟨fstR_ok HRG.out.2, fstR_right HRG.out.1 HRG.out.2⟩
    have HSZ : Hid ((fstR n).cells.size = 37 ∧ (fstR n).cells.all (·.oneCell') = true) := Lib.hid ⟨Rc.size (empH_len _), Rc.one _⟩
    obtain ⟨FR, hFR⟩ : ∃ FR, FR = (fstR n).cells := ⟨_, rfl⟩
    have HFR := Lib.hid hFR
    rw [← hFR] at HSZ ⊢
    have HBU : Hid (Tryd.prog.built 48 [(0, .agg (secA (empH (hgt n)))), (1, .int .u64 n), (3, .int .u64 1), (4, .int .u64 1)] = some FR) := Lib.hid (by rw [hFR]; exact built_fst _ (empH_len _) _)
    have HEQ : Hid (∀ W, (binOp .eql 48 (.agg FR) (.agg FR)).run Tryd.prog W = .ok (.bool true) W) := Lib.hid (fun W => by
      have h := eql_rec HFO.out.1 HFO.out.1 W
      rw [← HFR.out] at h
      simpa using h)
    clear hN HN4 hFR
    go_upto_region 9 with ((with_reducible refine atOp ⟨some 8, .alloc _, _, _, _, _⟩ ?_); refine wpList_newrow rfl rfl rfl _ _ rfl recInfo (by rfl) rfl rfl HSZ.out.1 HSZ.out.2 ?_)
    obtain ⟨w6, hw6⟩ : ∃ w6 : World, w6 = w5.alloc (.cells FR 48) := ⟨_, rfl⟩
    obtain ⟨b8, hb8⟩ : ∃ b8, b8 = w5.heap.size := ⟨_, rfl⟩
    have HN6 : Hid (New W w6) := Lib.hid (HN5.out.tr (by rw [hw6]; exact New.al (New.refl _) _))
    have HB8 : Hid (Blk w6 b8 48 FR) := Lib.hid (by rw [hw6, hb8]; exact Blk.new _ _ _)
    rw [← hw6, ← hb8]
    clear hw6 hb8 HN5
    go_wp2_with fail
    refine (high_ok n w6 HRG.out.1 HRG.out.2).mono ?_
    rintro e w7 ⟨rfl, rfl⟩
    obtain ⟨h, hh⟩ : ∃ h, h = hgt n := ⟨_, rfl⟩
    have HH : Hid (h ≤ 32) := Lib.hid (by rw [hh]; exact hgt_le HRG.out.1 HRG.out.2)
    rw [← hh] at HBU ⊢
    clear hh
    go_wp2_with fail
    refine wp_region_mixH (New w6) [(true, 0), (true, 1), (true, 2), (true, 3), (true, 5), (true, 8), (false, 4), (true, 6), (false, 7), (true, 9), (true, 10), (true, 11), (true, 12), (true, 13), (false, 14), (true, 15), (true, 16)] (by kernel_rfl) (by kernel_rfl) (New.dr (New.refl w6)) (fun hne => ?_)
    iterate 3 (refine mix_take (o := ⟨_, _, _, _, _, _⟩) rfl (fun K hK => ?_); go_simp; refine hK _ ?_; clear hK K)
    refine mix_take_row (o := ⟨_, _, _, _, _, _⟩) (cs := FR.toList) rfl rfl _ rfl rfl (fun w' h => (h.blk HB8.out).rangeOf) Tryd.underlying48 rfl (by rw [Array.length_toList, HSZ.out.1]; rfl) ?_
    iterate 2 (refine mix_take (o := ⟨_, _, _, _, _, _⟩) rfl (fun K hK => ?_); go_simp; refine hK _ ?_; clear hK K)
    refine mix_act (o := ⟨_, _, _, _, _, _⟩) rfl (fun K hK => ?_) (.inl rfl)
    go_simp
    refine (rempties_any w6.drew (HR.out.new (HN6.out.dr))).mono ?_
    rintro e w8 ⟨A, d, rfl, hRd, hN8⟩
    have HN8 : Hid (New w6 w8) := Lib.hid ((New.dr (New.refl w6)).tr hN8)
    obtain ⟨g, o, hA, -, hgs, hcs⟩ := hRd.out (by omega) (by omega)
    subst hA
    have HRW : Hid (w8.rangeAt g (o + h * 32) (u8s (empH h))) := Lib.hid (fun j v hv => by
      have hj : j < 32 := by
        have := (List.getElem?_eq_some_iff.1 hv).1
        rwa [u8s_len, empH_len] at this
      rw [Nat.add_assoc]
      exact hcs _ _ (by rw [empF_at (by have := HH.out; omega) j hj]; exact hv))
    have i1 : ¬ ((h : Int) < 0) := by omega
    have i2 : (h : Int) < 33 := by have := HH.out; omega
    clear hN8 hRd hcs hgs
    go_simp
    refine hK.out _ _ (fun _ => HN8.out) ?_
    clear hK K
    iterate 1 (refine mix_take (o := ⟨_, _, _, _, _, _⟩) rfl (fun K hK => ?_); go_simp; refine hK _ ?_; clear hK K)
    refine mix_act_row (o := ⟨_, _, _, _, _, _⟩) (cs := u8s (empH h)) rfl rfl _ rfl rfl HRW.out Tryd.underlying43 rfl (by rw [u8s_len, empH_len]; rfl) HN8.out ?_
    refine mix_take_built (o := ⟨_, _, _, _, _, _⟩) rfl rfl _ [(0, .tmp 70), (1, .tmp 71), (3, .const (.int .u64 1)), (4, .const (.int .u64 1))] rfl _ rfl _ HBU.out ?_
    have heq := HEQ.out
    simp only [Act.put, List.setIfInBounds_toArray, List.set_cons_zero, List.set_cons_succ]
    iterate 3 (refine mix_take (o := ⟨_, _, _, _, _, _⟩) rfl (fun K hK => ?_); go_simp; refine hK _ ?_; clear hK K)
    refine mix_take_row (o := ⟨_, _, _, _, _, _⟩) (cs := FR.toList) rfl rfl _ rfl rfl (fun w' h => (h.blk HB8.out).rangeOf) Tryd.underlying48 rfl (by rw [Array.length_toList, HSZ.out.1]; rfl) ?_
    clear heq i1 i2
    refine mix_act (o := ⟨_, _, _, _, _, _⟩) rfl (fun K hK => ?_) (.inl rfl)
    go_simp
    rw [HFR.out]
    refine (right_any (fstR n) w8 HFO.out.1).mono ?_
    rintro e w9 ⟨rfl, hN9⟩
    rw [← HFR.out, decide_eq_true HFO.out.2]
    have HN9 : Hid (New w6 w9) := Lib.hid (HN8.out.tr hN9)
    clear hN9
    go_simp
    refine hK.out _ _ (fun _ => HN9.out) ?_
    clear hK K
    iterate 2 (refine mix_take (o := ⟨_, _, _, _, _, _⟩) rfl (fun K hK => ?_); go_simp; refine hK _ ?_; clear hK K)
    refine mix_done ?_
    go_wp2_with fail
    go_ret
    exact ⟨rfl, HN6.out.tr HN9.out⟩
  · have HRG := Lib.hid hr
    clear hr
    refine (first_bad n w4 HRG.out).mono ?_
    rintro e w5 ⟨rfl, hN⟩
    have HN5 := Lib.hid (HN4.out.tr hN)
    have HEQ : Hid (∀ W, (binOp .eql 48 (.agg rc0.cells) (.agg rc0.cells)).run Tryd.prog W = .ok (.bool true) W) := Lib.hid (fun W => by
      have h := eql_rec rc0_ok rc0_ok W
      simpa using h)
    clear hN HN4
    go_upto_region 9 with ((with_reducible refine atOp ⟨some 8, .alloc _, _, _, _, _⟩ ?_); refine wpList_newrow rfl rfl rfl _ _ rfl recInfo (by rfl) rfl rfl rfl (Rc.one _) ?_)
    obtain ⟨w6, hw6⟩ : ∃ w6 : World, w6 = w5.alloc (.cells rc0.cells 48) := ⟨_, rfl⟩
    obtain ⟨b8, hb8⟩ : ∃ b8, b8 = w5.heap.size := ⟨_, rfl⟩
    have HN6 : Hid (New W w6) := Lib.hid (HN5.out.tr (by rw [hw6]; exact New.al (New.refl _) _))
    have HB8 : Hid (Blk w6 b8 48 rc0.cells) := Lib.hid (by rw [hw6, hb8]; exact Blk.new _ _ _)
    rw [← hw6, ← hb8]
    clear hw6 hb8 HN5
    go_wp2_with fail
    refine (high_bad n w6 HRG.out).mono ?_
    rintro e w7 ⟨rfl, rfl⟩
    go_wp2_with fail
    refine (is_same 1 w6 (by decide)).mono ?_
    rintro e w7 ⟨rfl, rfl⟩
    have heq := HEQ.out
    go_wp2_with (first
      | ((with_reducible refine atOp ⟨some 59, .load _ _, _, _, _, _⟩ ?_); refine wpList_load_any rfl _ rfl Tryd.underlying48 rfl (by rfl) rfl HB8.out ?_)
      | ((with_reducible refine atOp ⟨some 60, .build _ _, _, _, _, _⟩ ?_); refine wpList_built rfl _ [] rfl _ rfl _ HBN.out ?_))
    go_ret
    exact ⟨rfl, HN6.out⟩
theorem first_law (n : Nat) (hn : n < 18446744073709551616) (W : World) (hL : laidMetH Tryd.prog [("entrust/entrustref02.Constants", Rows.laid_entrust_entrustref02_Constants), ("entrust/entrustref02.Initials", Rows.laid_entrust_entrustref02_Initials), ("entrust/sha.constants", Rows.laid_entrust_sha_constants), ("entrust/sha.initials", Rows.laid_entrust_sha_initials)] W) :
    Calls Tryd.prog 4 #[.int .u64 n] W fun e w' => e = .returned (.bool true) ∧ Below W.heap.size W w' := first_walk n hn W (sha_both hL).2 (sha_both hL).1
theorem first_laww (a : Int) (wa : (Lit.int .u64 a).wf = true) (W : World) (hL : laidMetH Tryd.prog [("entrust/entrustref02.Constants", Rows.laid_entrust_entrustref02_Constants), ("entrust/entrustref02.Initials", Rows.laid_entrust_entrustref02_Initials), ("entrust/sha.constants", Rows.laid_entrust_sha_constants), ("entrust/sha.initials", Rows.laid_entrust_sha_initials)] W) :
    Calls Tryd.prog 4 #[.int .u64 a] W fun e w' => e = .returned (.bool true) ∧ Below W.heap.size W w' := by
  have q1 := bounds_u64 wa
  obtain ⟨n, rfl⟩ := Int.eq_ofNat_of_zero_le q1.1
  exact first_law n (by have := q1.2; omega) W hL
end Go.Proofs.YtdojmjglnlkmoaaDoor
