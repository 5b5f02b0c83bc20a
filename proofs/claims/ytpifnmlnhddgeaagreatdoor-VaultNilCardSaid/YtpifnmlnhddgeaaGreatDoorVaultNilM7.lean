/- Texts of one proof, one behind the other: NdA. No condition but each one's own. -/
import Derived.Test.YtpifnmlnhddgeaaGreatDoorVaultNilM3
import Derived.Test.YtpifnmlnhddgeaaGreatDoorVaultNilM6
namespace Go.Proofs.YtpifnmlnhddgeaaGreatDoor
set_option linter.unusedVariables false
set_option linter.unusedSimpArgs false
set_option linter.constructorNameAsVariable false
open Go.RowKit Go.Sort
set_option maxHeartbeats 2000000 in
set_option maxRecDepth 100000 in
theorem joint_any (h : Nat) (a b : List Int) (w : World) (hh : 1 ≤ h ∧ h ≤ 32) (ha : a.length = 32 ∧ Byt a) (hb : b.length = 32 ∧ Byt b) :
    Calls Tryz.prog 201 #[.int .i64 h, .agg (secA a), .agg (secA b)] w fun e w' => ∃ A d, e = .returned (.tuple #[.slice A 66 d, .nilIface]) ∧ Rd (fun _ => True) w' 1 A 66 (u8s (ndL h a b)) ∧ New w w' := by
 have HA := Lib.hid ha
 have HB := Lib.hid hb
 have HH := Lib.hid hh
 obtain ⟨RA, hRA⟩ : ∃ RA, RA = secA a := ⟨_, rfl⟩
 have HRA := Lib.hid hRA
 obtain ⟨RB, hRB⟩ : ∃ RB, RB = secA b := ⟨_, rfl⟩
 have HRB := Lib.hid hRB
 rw [← hRA, ← hRB]
 have q1 : ¬ ((h : Int) < 1) := by omega
 have q2 : ¬ ((32 : Int) < (h : Int)) := by omega
 have q3 : IntKind.u64.wrap (h : Int) = (h : Int) := by rw [IntKind.wrap_u64]; omega
 clear ha hb hh hRA hRB
 go_enter Tryz.func201, Tryz.ntmps201
 go_upto_region 4 with fail
 clear q1 q2
 obtain ⟨w1, hw1⟩ : ∃ w1 : World, w1 = ((w.alloc (.cells RA 50)).alloc (.cells RB 50)).alloc (.cells #[.nilIface, .slice none 0 0] 255) := ⟨_, rfl⟩
 obtain ⟨b4, hb4⟩ : ∃ b4, b4 = w.heap.size := ⟨_, rfl⟩
 obtain ⟨b5, hb5⟩ : ∃ b5, b5 = w.heap.size + 1 := ⟨_, rfl⟩
 obtain ⟨g, hg⟩ : ∃ g, g = w.heap.size + 1 + 1 := ⟨_, rfl⟩
 have HN1 : Hid (New w w1) := Lib.hid (by rw [hw1]; exact New.al (New.al (New.al (New.refl _) _) _) _)
 have HB4 : Hid (Blk w1 b4 50 (secA a)) := Lib.hid (by rw [hw1, hb4, HRA.out]; exact ((Blk.new _ _ _).alloc _).alloc _)
 have HB5 : Hid (Blk w1 b5 50 (secA b)) := Lib.hid (by rw [hw1, hb5, HRB.out]; exact (Blk.new' _ _ _ (by simp)).alloc _)
 have HW1 : Hid (WrIn w1 g g []) := Lib.hid ⟨⟨none, 0, by rw [hw1, hg]; exact Blk.new' _ _ _ (by simp), World.ownsRow_nil _ _ _ _⟩, Nat.le_refl _, fun x hx => nomatch hx⟩
 have HZ : Hid (b4 = w.heap.size ∧ b5 = w.heap.size + 1 ∧ g = w.heap.size + 2) := Lib.hid ⟨hb4, hb5, hg⟩
 rw [← hw1, ← hg, ← hb5, ← hb4]
 clear hw1 hb4 hb5 hg
 refine wp_region_mixH (fun w' => Blk w' b4 50 (secA a) ∧ Blk w' b5 50 (secA b)) [(true, 0), (true, 2), (true, 3), (true, 5), (true, 7), (false, 1), (false, 4), (false, 6), (false, 8), (false, 9), (true, 10), (true, 11), (true, 12), (true, 13)] (by kernel_rfl) (by kernel_rfl) ⟨(New.dr (New.refl w1)).blk HB4.out, (New.dr (New.refl w1)).blk HB5.out⟩ (fun hne => ?_)
 iterate 3 (refine mix_take (o := ⟨_, _, _, _, _, _⟩) rfl (fun K hK => ?_); go_simp; refine hK _ ?_; clear hK K)
 refine mix_take_row (o := ⟨_, _, _, _, _, _⟩) (cs := u8s a) rfl rfl _ rfl rfl (fun w' h => by have h2 := Blk.rangeOf h.1; rw [secA_list] at h2; exact h2) Tryz.underlying50 rfl (by rw [u8s_len, HA.out.1]; rfl) ?_
 refine mix_take_row (o := ⟨_, _, _, _, _, _⟩) (cs := u8s b) rfl rfl _ rfl rfl (fun w' h => by have h2 := Blk.rangeOf h.2; rw [secA_list] at h2; exact h2) Tryz.underlying50 rfl (by rw [u8s_len, HB.out.1]; rfl) ?_
 refine mix_act (o := ⟨_, _, _, _, _, _⟩) rfl (fun K hK => ?_) (.inl rfl)
 go_simp
 refine (wnum_any (w := w1.drew) (HW1.out.new (New.dr (New.refl w1))) 2 1 (by omega) (by omega) (by simp)).mono ?_
 rintro e wa ⟨rfl, hW, hF⟩
 have HWwa := Lib.hid hW
 have HFwa : Hid (FW g g w1 wa) := Lib.hid ((FW.new (New.dr (New.refl w1))).tr hF)
 have HSwa : Hid (Blk wa b4 50 (secA a) ∧ Blk wa b5 50 (secA b)) := Lib.hid ⟨HFwa.out.blk HB4.out (by decide) (by have := HZ.out; omega), HFwa.out.blk HB5.out (by decide) (by have := HZ.out; omega)⟩
 clear hW hF
 go_simp
 refine hK.out _ _ (fun _ => HSwa.out) ?_
 clear hK K
 refine mix_act (o := ⟨_, _, _, _, _, _⟩) rfl (fun K hK => ?_) (.inl rfl)
 go_simp
 refine (wnum_any HWwa.out h 1 (by omega) (by have := HH.out; omega) (by simp [beL_len])).mono ?_
 rintro e wb ⟨rfl, hW, hF⟩
 have HWwb := Lib.hid hW
 have HFwb : Hid (FW g g w1 wb) := Lib.hid (HFwa.out.tr hF)
 have HSwb : Hid (Blk wb b4 50 (secA a) ∧ Blk wb b5 50 (secA b)) := Lib.hid ⟨HFwb.out.blk HB4.out (by decide) (by have := HZ.out; omega), HFwb.out.blk HB5.out (by decide) (by have := HZ.out; omega)⟩
 clear hW hF
 go_simp
 refine hK.out _ _ (fun _ => HSwb.out) ?_
 clear hK K
 refine mix_act (o := ⟨_, _, _, _, _, _⟩) rfl (fun K hK => ?_) (.inl rfl)
 go_simp
 refine (whash_any HWwb.out a HA.out.1 HA.out.2 (by simp [beL_len])).mono ?_
 rintro e wc ⟨rfl, hW, hF⟩
 have HWwc := Lib.hid hW
 have HFwc : Hid (FW g g w1 wc) := Lib.hid (HFwb.out.tr hF)
 have HSwc : Hid (Blk wc b4 50 (secA a) ∧ Blk wc b5 50 (secA b)) := Lib.hid ⟨HFwc.out.blk HB4.out (by decide) (by have := HZ.out; omega), HFwc.out.blk HB5.out (by decide) (by have := HZ.out; omega)⟩
 clear hW hF
 go_simp
 refine hK.out _ _ (fun _ => HSwc.out) ?_
 clear hK K
 refine mix_act (o := ⟨_, _, _, _, _, _⟩) rfl (fun K hK => ?_) (.inl rfl)
 go_simp
 refine (whash_any HWwc.out b HB.out.1 HB.out.2 (by simp [beL_len, HA.out.1])).mono ?_
 rintro e wd ⟨rfl, hW, hF⟩
 have hW : WrIn wd g g (ndL h a b) := hW
 have HWwd := Lib.hid hW
 have HFwd : Hid (FW g g w1 wd) := Lib.hid (HFwc.out.tr hF)
 have HSwd : Hid (Blk wd b4 50 (secA a) ∧ Blk wd b5 50 (secA b)) := Lib.hid ⟨HFwd.out.blk HB4.out (by decide) (by have := HZ.out; omega), HFwd.out.blk HB5.out (by decide) (by have := HZ.out; omega)⟩
 clear hW hF
 go_simp
 refine hK.out _ _ (fun _ => HSwd.out) ?_
 clear hK K
 have HJ : Hid ((ndL h a b).length = 66) := Lib.hid (ndL_len HA.out.1 HB.out.1)
 obtain ⟨J, hJ⟩ : ∃ J, J = ndL h a b := ⟨_, rfl⟩
 have HJE := Lib.hid hJ
 rw [← hJ] at HWwd HJ
 clear hJ
 refine mix_act (o := ⟨_, _, _, _, _, _⟩) rfl (fun K hK => ?_) (.inl rfl)
 go_simp
 refine (wdone_any HWwd.out (by rw [HJ.out]; omega)).mono ?_
 rintro e w6 ⟨⟨B, d, rfl, hO⟩, hN6⟩
 rw [HJ.out] at hO ⊢
 have HO := Lib.hid hO
 have HN6 : Hid (New w w6) := Lib.hid ((HFwd.out.toNew HN1.out (by have := HZ.out; have := HW1.out.lt; omega) (Nat.le_refl _)).tr hN6)
 have HS6 : Hid (Blk w6 b4 50 (secA a) ∧ Blk w6 b5 50 (secA b)) := Lib.hid ⟨hN6.blk HSwd.out.1, hN6.blk HSwd.out.2⟩
 clear hO hN6
 go_simp
 refine hK.out _ _ (fun _ => HS6.out) ?_
 clear hK K
 iterate 4 (refine mix_take (o := ⟨_, _, _, _, _, _⟩) rfl (fun K hK => ?_); go_simp; refine hK _ ?_; clear hK K)
 refine mix_done ?_
 go_wp2_with fail
 go_ret2
 exact ⟨B, d, rfl, by rw [← HJE.out]; exact (Rd.own HO.out rfl).imp (fun _ _ => trivial), HN6.out⟩
end Go.Proofs.YtpifnmlnhddgeaaGreatDoor
