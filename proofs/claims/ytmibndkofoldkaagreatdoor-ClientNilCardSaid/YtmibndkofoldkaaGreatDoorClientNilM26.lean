/- Texts of one proof, one behind the other: AeA, AeB. No condition but each one's own. -/
import Derived.Test.YtmibndkofoldkaaGreatDoorClientNilM16
import Derived.Test.YtmibndkofoldkaaGreatDoorClientNilM1
import Derived.Test.YtmibndkofoldkaaGreatDoorClientNilM8
import Derived.Test.YtmibndkofoldkaaGreatDoorClientNilM4
import Derived.Test.YtmibndkofoldkaaGreatDoorClientNilM2
namespace Go.Proofs.YtmibndkofoldkaaGreatDoor
set_option linter.unusedVariables false
set_option linter.unusedSimpArgs false
set_option linter.constructorNameAsVariable false
open Go.RowKit Go.Maps
def SaysU (e : Ending) : Prop := ∃ r : Int, e = .returned (.int .u8 r) ∧ 0 ≤ r ∧ r < 256
theorem double_any (a : Int) (w : World) (ha : 0 ≤ a ∧ a < 256) : Calls Tryz.prog 169 #[.int .u8 a] w fun e w' => SaysU e ∧ w = w' := by
 go_enter Tryz.func169, Tryz.ntmps169
 go_wp2_with fail
 go_ret
 exact ⟨⟨_, rfl, xor8_in (by omega) (by omega)⟩, rfl⟩
theorem rotl8_any (a : Int) (k : Nat) (w : World) (ha : 0 ≤ a ∧ a < 256) (hk : k < 4) : Calls Tryz.prog 222 #[.int .u8 a, .int .i64 ((k : Int) + 1)] w fun e w' => SaysU e ∧ w = w' := by
 have h1 : ((k : Int) + 1) = ((k + 1 : Nat) : Int) := by omega
 obtain ⟨j, hj⟩ := nm (k + 1)
 have hjl : j < 8 := by omega
 rw [h1, ← hj]
 have hw : IntKind.u64.wrap (j : Int) = (j : Int) := by rw [IntKind.wrap_u64]; omega
 have hand : bits .and .u64 (j : Int) 7 = (j : Int) := by
  have := u64_and_nat j 7 (by omega) (by omega)
  rw [nat_mask3, Nat.mod_eq_of_lt hjl] at this
  exact this
 have h8 : IntKind.u64.wrap (8 - (j : Int)) = ((8 - j : Nat) : Int) := by rw [IntKind.wrap_u64]; omega
 clear h1 hj
 go_enter Tryz.func222, Tryz.ntmps222
 go_wp2_with fail
 go_ret
 have hp : (0 : Int) < 2 ^ (8 - j) := Int.pow_pos (by decide)
 exact ⟨⟨_, rfl, or8_in ⟨Int.emod_nonneg _ (by decide), Int.emod_lt_of_pos _ (by decide)⟩ ⟨Int.ediv_nonneg ha.1 (by omega), by have := Int.ediv_le_self (2 ^ (8 - j)) ha.1; omega⟩⟩, rfl⟩
theorem product_any (a b : Int) (w : World) (ha : 0 ≤ a ∧ a < 256) (hb : 0 ≤ b ∧ b < 256) : Calls Tryz.prog 199 #[.int .u8 a, .int .u8 b] w fun e w' => SaysU e ∧ w = w' := by
 go_enter Tryz.func199, Tryz.ntmps199
 go_wp2_with fail
 go_loopw [0, 1, 5] (fun va vb vo wr => ∃ x y o : Int, va = .int .u8 x ∧ vb = .int .u8 y ∧ vo = .int .u8 o ∧ Hid ((0 ≤ x ∧ x < 256) ∧ (0 ≤ y ∧ y < 256) ∧ 0 ≤ o ∧ o < 256) ∧ wr = w) (fun _ vb _ _ => (intOf vb).toNat)
 case atStart => exact ⟨a, b, 0, rfl, rfl, rfl, Lib.hid ⟨ha, hb, by decide, by decide⟩, rfl⟩
 case round =>
  obtain ⟨x, y, o, rfl, rfl, rfl, HR, rfl⟩ := hrel
  by_cases hy : 0 < y
  · have HY := Lib.hid hy
    go_wp2_with fail
    refine (double_any x _ HR.out.1).mono ?_
    rintro e w1 ⟨⟨r, rfl, hr⟩, rfl⟩
    have HRR := Lib.hid hr
    clear hr
    go_wp2_with fail
    go_roundw
    case rel =>
     refine ⟨r, y / 2, _, rfl, rfl, rfl, Lib.hid ⟨HRR.out, ?_, ?_⟩, trivial⟩
     · have := HR.out.2.1; omega
     · exact xor8_in HR.out.2.2 ⟨Int.emod_nonneg _ (by decide), Int.emod_lt_of_pos _ (by decide)⟩
    case measure => have := HY.out; simp [intOf]; omega
  · go_wp2_with fail
    go_ret
    exact ⟨⟨o, rfl, HR.out.2.2⟩, rfl⟩
theorem bent_any (a : Int) (w : World) (ha : 0 ≤ a ∧ a < 256) : Calls Tryz.prog 198 #[.int .u8 a] w fun e w' => SaysU e ∧ w = w' := by
 have HA := Lib.hid ha
 have HR := Lib.hid (fun k hk W => rotl8_any a k W ha hk)
 clear ha
 go_enter Tryz.func198, Tryz.ntmps198
 go_wp2_with fail
 go_loopw [3, 7] (fun vo vi wr => ∃ (o : Int) (k : Nat), vo = .int .u8 o ∧ vi = .int .i64 k ∧ k ≤ 4 ∧ Hid (0 ≤ o ∧ o < 256) ∧ wr = w) (fun _ vi _ => 4 - (intOf vi).toNat)
 case atStart => exact ⟨_, 0, rfl, rfl, by decide, Lib.hid (xor8_in HA.out (by decide)), rfl⟩
 case round =>
  obtain ⟨o, k, rfl, rfl, hk, HO, rfl⟩ := hrel
  by_cases hlt : k < 4
  · go_wp2_with fail
    refine (HR.out k hlt _).mono ?_
    rintro e w1 ⟨⟨r, rfl, hr⟩, rfl⟩
    have HRR := Lib.hid hr
    clear hr
    go_wp2_with fail
    go_roundw
    case rel => exact ⟨_, k + 1, rfl, by go_num, by omega, Lib.hid (xor8_in HO.out HRR.out), trivial⟩
    case measure => simp [intOf]; omega
  · go_wp2_with fail
    go_ret
    exact ⟨⟨o, rfl, HO.out⟩, rfl⟩
end Go.Proofs.YtmibndkofoldkaaGreatDoor
namespace Go.Proofs.YtmibndkofoldkaaGreatDoor
set_option linter.unusedVariables false
set_option linter.unusedSimpArgs false
set_option linter.constructorNameAsVariable false
open Go.RowKit Go.Maps Go.Sort
def Cip (w : World) (b : Nat) : Prop := ∃ L : List Int, L.length = 688 ∧ Byt L ∧ Blk w b 286 (secA L)
theorem byt_set {L : List Int} (h : Byt L) (i : Nat) {v : Int} (hv : 0 ≤ v ∧ v < 256) : Byt (L.set i v) := by
 intro x hx
 rcases List.mem_or_eq_of_mem_set hx with h1 | h1
 · exact h x h1
 · rw [h1]; exact hv
theorem Cip.set {w : World} {b : Nat} (h : Cip w b) (i : Nat) {v : Int} (hv : 0 ≤ v ∧ v < 256) : Cip (w.setCell ⟨b, i, none⟩ (.int .u8 v)) b := by
 obtain ⟨L, h1, h2, h3⟩ := h
 exact ⟨L.set i v, by rw [List.length_set, h1], byt_set h2 i hv, by have := h3.set i (.int .u8 v); rwa [secA_set] at this⟩
theorem Cip.cell {w : World} {b : Nat} (h : Cip w b) {i : Nat} (hi : i < 688) : ∃ v : Nat, w.cell? ⟨b, i, none⟩ = some (.int .u8 v) ∧ v < 256 ∧ w.frozen? ⟨b, i, none⟩ = false := by
 obtain ⟨L, h1, h2, h3⟩ := h
 have hv := h2 (L[i]'(by omega)) (List.getElem_mem _)
 obtain ⟨v, hv2⟩ := Int.eq_ofNat_of_zero_le hv.1
 refine ⟨v, ?_, by omega, h3.frozen i⟩
 rw [h3.cell i, secA_get (by omega), ← hv2]
 unfold at_
 rw [List.getD_eq_getElem?_getD, List.getElem?_eq_getElem (by omega)]
 rfl
theorem Cip.drew {w : World} {b : Nat} (h : Cip w b) : Cip w.drew b := h
theorem Cip.new {w w' : World} {b : Nat} (h : Cip w b) (hN : New w w') : Cip w' b := by
 obtain ⟨L, h1, h2, h3⟩ := h
 exact ⟨L, h1, h2, hN.blk h3⟩
theorem index_256 {xs : List Int} {t : Nat} (hl : xs.length = 256) (h : t < 256) (w : World) : (Instr.index 284 (.agg (secA xs)) (.int .i64 (t : Int))).run Tryz.prog w = .ok (.int .u8 (at_ xs t)) w := by
 have hs : (sizeOf 5).run Tryz.prog w = .ok 1 w := by
  first | exact Tryz.sizeOf5 w | simp [Tryz.sizeOf5, go_sem] | kernel_rfl
 have hc : (secA xs)[t]? = some (.int .u8 (at_ xs t)) := secA_get (by omega)
 have hg : (isAgg 5).run Tryz.prog w = .ok false w := by
  first | kernel_rfl | simp [isAgg, run_underlying Tryz.underlying5, go_sem]
 have hp : (part 5 (secA xs) t).run Tryz.prog w = .ok (.int .u8 (at_ xs t)) w := by
  simp [part, hg, hc, go_sem]
 have hn : (t : Int) < 256 := by omega
 simp [Instr.index, run_underlying Tryz.underlying284, asIntOf, hs, hp, hn, go_sem]
 rw [if_pos h, hc]
 simp
theorem at_byt {xs : List Int} (h : Byt xs) (t : Nat) : 0 ≤ at_ xs t ∧ at_ xs t < 256 := by
 unfold at_
 rw [List.getD_eq_getElem?_getD]
 cases he : xs[t]? with
 | none => simp
 | some x => exact h x (List.mem_of_getElem? he)
set_option maxHeartbeats 4000000
set_option maxRecDepth 100000
theorem tables_any (b : Nat) (w : World) (h : Cip w b) : Calls Tryz.prog 168 #[.pointer (some ⟨b, 0, none⟩)] w fun e w' => e = .returned (.tuple #[]) ∧ Cip w' b ∧ Fr (fun k => k = b) w w' := by
 have H := Lib.hid h
 clear h
 go_enter Tryz.func168, Tryz.ntmps168
 go_wp2_with fail
 go_loopw [2, 3, 6] (fun vu vd vi wr => ∃ u d k : Nat, vu = .int .u8 u ∧ vd = .int .u8 d ∧ vi = .int .i64 k ∧ k ≤ 255 ∧ Hid (u < 256 ∧ d < 256) ∧ Hid (Cip wr b) ∧ Hid (Fr (fun j => j = b) w wr)) (fun _ _ vi _ => 255 - (intOf vi).toNat)
 case atStart => exact ⟨1, 1, 0, rfl, rfl, rfl, by decide, Lib.hid ⟨by decide, by decide⟩, H, Lib.hid (Fr.refl _ _)⟩
 case round =>
  obtain ⟨u, d, k, rfl, rfl, rfl, hk, HU, HC, HF⟩ := hrel
  by_cases hlt : k < 255
  · as_aux_lemma =>
    have hu256 : (u : Int) < 256 := by have := HU.out; omega
    have hu0 : (0 : Int) ≤ (u : Int) := by omega
    go_upto_region 3 with fail
    refine wp_region_mixH (fun _ => True) [(true, 0), (true, 1), (true, 2), (true, 4), (true, 5), (false, 3), (true, 6), (false, 7)] (by kernel_rfl) (by kernel_rfl) trivial (fun hne => ?_)
    iterate 5 (refine mix_take (o := ⟨_, _, _, _, _, _⟩) rfl (fun K hK => ?_); go_simp; refine hK _ ?_; clear hK K)
    refine mix_act (o := ⟨_, _, _, _, _, _⟩) rfl (fun K hK => ?_) (.inl rfl)
    go_simp
    refine (bent_any d _ (by have := HU.out; omega)).mono ?_
    rintro e w1 ⟨⟨r, rfl, hr⟩, rfl⟩
    have HR := Lib.hid hr
    clear hr
    go_simp
    refine hK.out _ _ (fun _ => trivial) ?_
    clear hK K
    refine mix_take (o := ⟨_, _, _, _, _, _⟩) rfl (fun K hK => ?_)
    go_simp
    refine hK _ ?_
    clear hK K
    obtain ⟨r, rfl⟩ := Int.eq_ofNat_of_zero_le HR.out.1
    obtain ⟨v0, c0, -, f0⟩ := HC.out.drew.cell (i := 176 + u) (by have := HU.out; omega)
    refine mix_act (o := ⟨_, _, _, _, _, _⟩) rfl (fun K hK => ?_) (.inl rfl)
    go_simp
    refine hK.out _ _ (fun _ => trivial) ?_
    clear hK K c0 f0
    refine mix_done ?_
    go_upto_region 4 with fail
    refine wp_world fun w2 hw2 => ?_
    have HC2 : Hid (Cip w2 b) := Lib.hid (by rw [hw2.out]; exact HC.out.drew.set _ HR.out)
    have HF2 : Hid (Fr (fun j => j = b) w w2) := Lib.hid (HF.out.trans (by rw [hw2.out]; exact ((Fr.refl (fun j => j = b) wr).setCell (fun _ => rfl) _).trans ((New.dr (New.refl _)).toFr _)))
    clear hw2 HC HF
    go_wp2_with fail
    refine (double_any u _ (by have := HU.out; omega)).mono ?_
    rintro e w3 ⟨⟨p, rfl, hp⟩, rfl⟩
    obtain ⟨x, hx⟩ := Int.eq_ofNat_of_zero_le (xor8_in (a := (u : Int)) (b := p) (by have := HU.out; omega) hp).1
    have hx2 : bits .xor .u8 (u : Int) p = (x : Int) := hx
    have HX : Hid (x < 256) := Lib.hid (by have := (xor8_in (a := (u : Int)) (b := p) (by have := HU.out; omega) hp).2; omega)
    clear hp hx
    go_wp2_with fail
    refine (product_any d 246 _ (by have := HU.out; omega) (by decide)).mono ?_
    rintro e w4 ⟨⟨y, rfl, hy⟩, rfl⟩
    obtain ⟨y, rfl⟩ := Int.eq_ofNat_of_zero_le hy.1
    have HY : Hid (y < 256) := Lib.hid (by have := hy.2; omega)
    clear hy
    go_wp2_with fail
    go_roundw
    case rel => exact ⟨x, y, k + 1, rfl, rfl, by go_num, by omega, Lib.hid ⟨HX.out, HY.out⟩, HC2, HF2⟩
    case measure => simp [intOf]; omega
  · as_aux_lemma =>
    obtain ⟨v0, c0, -, f0⟩ := HC.out.cell (i := 176) (by decide)
    go_upto_region 8 with fail
    clear c0 f0
    refine wp_world fun w2 hw2 => ?_
    have HC2 : Hid (Cip w2 b) := Lib.hid (by rw [hw2.out]; exact HC.out.set _ (by decide))
    have HF2 : Hid (Fr (fun j => j = b) w w2) := Lib.hid (HF.out.trans (by rw [hw2.out]; exact (Fr.refl (fun j => j = b) wr).setCell (fun _ => rfl) _))
    clear hw2 HC HF
    obtain ⟨L, hL1, hL2, hL3⟩ := HC2.out
    have HL := Lib.hid (And.intro hL1 hL2)
    have HRG : Hid (w2.rangeAt b 176 (u8s ((L.drop 176).take 256))) := Lib.hid (fun j v hv => by
     have hj : j < 256 := by
      have := (List.getElem?_eq_some_iff.1 hv).1
      rw [u8s_len, List.length_take, List.length_drop] at this
      omega
     rw [hL3.cell (176 + j), secA_get (by omega)]
     unfold u8s at hv
     rw [List.getElem?_map, List.getElem?_take, if_pos hj, List.getElem?_drop, List.getElem?_eq_getElem (by omega)] at hv
     rw [← hv]
     unfold at_
     rw [List.getD_eq_getElem?_getD, List.getElem?_eq_getElem (by omega)]
     rfl)
    obtain ⟨TL, hTL⟩ := nm ((L.drop 176).take 256)
    have HTL : Hid (TL.length = 256 ∧ Byt TL) := Lib.hid ⟨by rw [hTL, List.length_take, List.length_drop, hL1]; rfl, by rw [hTL]; exact fun x hx => hL2 x (List.mem_of_mem_drop (List.mem_of_mem_take hx))⟩
    rw [← hTL] at HRG
    clear hL1 hL2 hL3 hTL
    go_wp2_with ((with_reducible refine atOp ⟨some 29, .load _ _, _, _, _, _⟩ ?_); refine wpList_load_range rfl (.tmp 28) rfl rfl HRG.out Tryz.underlying284 rfl (by rw [u8s_len, HTL.out.1]; rfl) ?_)
    rw [show (u8s TL).toArray = secA TL from rfl]
    go_loopw [30] (fun vi wr => ∃ k : Nat, vi = .int .i64 k ∧ k ≤ 256 ∧ Hid (Cip wr b) ∧ Hid (Fr (fun j => j = b) w wr)) (fun vi _ => 256 - (intOf vi).toNat)
    case atStart => exact ⟨0, rfl, by decide, HC2, HF2⟩
    case round =>
     obtain ⟨k, rfl, hk, HC, HF⟩ := hrel
     by_cases hlt : k < 256
     · have hix := fun w => index_256 HTL.out.1 hlt w
       have hb := at_byt HTL.out.2 k
       obtain ⟨s, hs⟩ := Int.eq_ofNat_of_zero_le hb.1
       rw [hs] at hix hb
       have hs256 : (s : Int) < 256 := hb.2
       have hs0 : (0 : Int) ≤ (s : Int) := by omega
       clear hb hs
       obtain ⟨v0, c0, -, f0⟩ := HC.out.cell (i := 432 + s) (by omega)
       have hkw : IntKind.u8.wrap (k : Int) = (k : Int) := by rw [IntKind.wrap_u8']; omega
       have HK : Hid (0 ≤ (k : Int) ∧ (k : Int) < 256) := Lib.hid ⟨by omega, by omega⟩
       go_wp2_with fail
       go_roundw
       case rel => exact ⟨k + 1, by go_num, by omega, Lib.hid (HC.out.set _ HK.out), Lib.hid (HF.out.trans ((Fr.refl (fun j => j = b) wr).setCell (fun _ => rfl) _))⟩
       case measure => simp [intOf]; omega
     · go_wp2_with fail
       go_end0
       exact ⟨rfl, HC.out, HF.out⟩
end Go.Proofs.YtmibndkofoldkaaGreatDoor
