/- Texts of one proof, one behind the other: NdP, NdA, NdB, NdC, NdE, RcG, RcO, RcF, RcQ, RcM, ClF, ClG. No condition but each one's own. -/
import Derived.Test.YtmibndkofoldkaaGreatDoorClientNilM3
import Derived.Test.YtmibndkofoldkaaGreatDoorClientNilM4
import Derived.Test.YtmibndkofoldkaaGreatDoorClientNilM6
import Derived.Test.YtmibndkofoldkaaGreatDoorClientNilM10
import Derived.Test.YtmibndkofoldkaaGreatDoorClientNilM14
import Derived.Test.YtmibndkofoldkaaGreatDoorClientNilM18
import Derived.Test.YtmibndkofoldkaaGreatDoorClientNilM29
import Derived.Test.YtmibndkofoldkaaGreatDoorClientNilM30
import Derived.Test.YtmibndkofoldkaaGreatDoorClientNilM12
import Derived.Test.YtmibndkofoldkaaGreatDoorClientNilM25
import Derived.Test.YtmibndkofoldkaaGreatDoorClientNilM8
namespace Go.Proofs.YtmibndkofoldkaaGreatDoor
set_option linter.unusedVariables false
set_option linter.unusedSimpArgs false
set_option linter.constructorNameAsVariable false
open Go.RowKit Go.Sort
def ndL (h : Nat) (a b : List Int) : List Int := beL 1 2 ++ beL 1 h ++ a ++ b
def ndH (h : Nat) (a b : List Int) : List Int := hsh (ndL h a b)
def empH : Nat → List Int
 | 0 => hsh [0]
 | k + 1 => ndH (k + 1) (empH k) (empH k)
theorem ndL_len {h : Nat} {a b : List Int} (ha : a.length = 32) (hb : b.length = 32) : (ndL h a b).length = 66 := by simp [ndL, beL_len, ha, hb]
theorem ndL_byt {h : Nat} {a b : List Int} (ha : Byt a) (hb : Byt b) : Byt (ndL h a b) := by
 intro x hx
 simp only [ndL, List.mem_append] at hx
 rcases hx with ((hx | hx) | hx) | hx
 · exact beL_byt _ _ x hx
 · exact beL_byt _ _ x hx
 · exact ha x hx
 · exact hb x hx
theorem ndH_len (h : Nat) (a b : List Int) : (ndH h a b).length = 32 := hsh_len _
theorem empH_len (k : Nat) : (empH k).length = 32 := by cases k <;> exact hsh_len _
theorem empH_byt (k : Nat) : Byt (empH k) := by cases k <;> exact hsh_byt _
def empA (k : Nat) : List Int := ((List.range k).map empH).flatten ++ List.replicate (32 * (33 - k)) 0
theorem flat_len_l08 (f : Nat → List Int) (hf : ∀ i, (f i).length = 32) (k : Nat) : (((List.range k).map f).flatten).length = 32 * k := by
 induction k with
 | zero => rfl
 | succ k ih => rw [List.range_succ, List.map_append, List.flatten_append, List.length_append, ih]; simp [hf]; omega
theorem empA_len {k : Nat} (h : k ≤ 33) : (empA k).length = 1056 := by rw [empA, List.length_append, flat_len_l08 _ empH_len, List.length_replicate]; omega
theorem empA_at {k i : Nat} (hi : i < k) : ((empA k).drop (32 * i)).take 32 = empH i := by
 have h1 : ∀ k, i < k → ((((List.range k).map empH).flatten).drop (32 * i)).take 32 = empH i := by
  intro k
  induction k with
  | zero => intro h; omega
  | succ k ih =>
   intro h
   rw [List.range_succ, List.map_append, List.flatten_append]
   by_cases hk : i = k
   · subst hk
     rw [List.drop_append_of_le_length (by rw [flat_len_l08 _ empH_len]; omega), List.drop_of_length_le (by rw [flat_len_l08 _ empH_len]; omega)]
     simp [List.take_of_length_le, empH_len]
   · rw [List.drop_append_of_le_length (by rw [flat_len_l08 _ empH_len]; omega), List.take_append_of_le_length (by rw [List.length_drop, flat_len_l08 _ empH_len]; omega)]
     exact ih (by omega)
 unfold empA
 rw [List.drop_append_of_le_length (by rw [flat_len_l08 _ empH_len]; omega), List.take_append_of_le_length (by rw [List.length_drop, flat_len_l08 _ empH_len]; omega)]
 exact h1 k hi
theorem empA_step {k : Nat} (h : k < 33) : splice (u8s (empA k)) (32 * k) (u8s (empH k)) = u8s (empA (k + 1)) := by
 unfold splice u8s
 rw [List.length_map, empH_len, ← List.map_take, ← List.map_drop, ← List.map_append, ← List.map_append]
 congr 1
 unfold empA
 rw [List.take_append_of_le_length (by rw [flat_len_l08 _ empH_len]; omega), List.take_of_length_le (by rw [flat_len_l08 _ empH_len]; omega), List.drop_append, flat_len_l08 _ empH_len, List.drop_of_length_le (by rw [flat_len_l08 _ empH_len]; omega), List.drop_replicate, List.range_succ, List.map_append, List.flatten_append]
 rw [show 32 * (33 - k) - (32 * k + 32 - 32 * k) = 32 * (33 - (k + 1)) by omega]
 simp
end Go.Proofs.YtmibndkofoldkaaGreatDoor
namespace Go.Proofs.YtmibndkofoldkaaGreatDoor
set_option linter.unusedVariables false
set_option linter.unusedSimpArgs false
set_option linter.constructorNameAsVariable false
open Go.RowKit Go.Sort
set_option maxHeartbeats 2000000 in
set_option maxRecDepth 100000 in
theorem joint_any (h : Nat) (a b : List Int) (w : World) (hh : 1 ≤ h ∧ h ≤ 32) (ha : a.length = 32 ∧ Byt a) (hb : b.length = 32 ∧ Byt b) :
    Calls Tryz.prog 224 #[.int .i64 h, .agg (secA a), .agg (secA b)] w fun e w' => ∃ A d, e = .returned (.tuple #[.slice A 66 d, .nilIface]) ∧ Rd (fun _ => True) w' 1 A 66 (u8s (ndL h a b)) ∧ New w w' := by
 have HA := Lib.hid ha
 have HB := Lib.hid hb
 have HH := Lib.hid hh
 obtain ⟨RA, hRA⟩ : ∃ RA, RA = secA a := ⟨_, rfl⟩
 have HRA := Lib.hid hRA
 obtain ⟨RB, hRB⟩ : ∃ RB, RB = secA b := ⟨_, rfl⟩
 have HRB := Lib.hid hRB
 rw [← hRA, ← hRB]
 have q1 : ¬ ((h : Int) < 1) := by omega
 have q2 : ¬ ((32 : Int) < (h : Int)) := by omega
 have q3 : IntKind.u64.wrap (h : Int) = (h : Int) := by rw [IntKind.wrap_u64]; omega
 clear ha hb hh hRA hRB
 go_enter Tryz.func224, Tryz.ntmps224
 go_upto_region 4 with fail
 clear q1 q2
 obtain ⟨w1, hw1⟩ : ∃ w1 : World, w1 = ((w.alloc (.cells RA 60)).alloc (.cells RB 60)).alloc (.cells #[.nilIface, .slice none 0 0] 235) := ⟨_, rfl⟩
 obtain ⟨b4, hb4⟩ : ∃ b4, b4 = w.heap.size := ⟨_, rfl⟩
 obtain ⟨b5, hb5⟩ : ∃ b5, b5 = w.heap.size + 1 := ⟨_, rfl⟩
 obtain ⟨g, hg⟩ : ∃ g, g = w.heap.size + 1 + 1 := ⟨_, rfl⟩
 have HN1 : Hid (New w w1) := Lib.hid (by rw [hw1]; exact New.al (New.al (New.al (New.refl _) _) _) _)
 have HB4 : Hid (Blk w1 b4 60 (secA a)) := Lib.hid (by rw [hw1, hb4, HRA.out]; exact ((Blk.new _ _ _).alloc _).alloc _)
 have HB5 : Hid (Blk w1 b5 60 (secA b)) := Lib.hid (by rw [hw1, hb5, HRB.out]; exact (Blk.new' _ _ _ (by simp)).alloc _)
 have HW1 : Hid (WrIn w1 g g []) := Lib.hid ⟨⟨none, 0, by rw [hw1, hg]; exact Blk.new' _ _ _ (by simp), World.ownsRow_nil _ _ _ _⟩, Nat.le_refl _, fun x hx => nomatch hx⟩
 have HZ : Hid (b4 = w.heap.size ∧ b5 = w.heap.size + 1 ∧ g = w.heap.size + 2) := Lib.hid ⟨hb4, hb5, hg⟩
 rw [← hw1, ← hg, ← hb5, ← hb4]
 clear hw1 hb4 hb5 hg
 refine wp_region_mixH (fun w' => Blk w' b4 60 (secA a) ∧ Blk w' b5 60 (secA b)) [(true, 0), (true, 2), (true, 3), (true, 5), (true, 7), (false, 1), (false, 4), (false, 6), (false, 8), (false, 9), (true, 10), (true, 11), (true, 12), (true, 13)] (by kernel_rfl) (by kernel_rfl) ⟨(New.dr (New.refl w1)).blk HB4.out, (New.dr (New.refl w1)).blk HB5.out⟩ (fun hne => ?_)
 iterate 3 (refine mix_take (o := ⟨_, _, _, _, _, _⟩) rfl (fun K hK => ?_); go_simp; refine hK _ ?_; clear hK K)
 refine mix_take_row (o := ⟨_, _, _, _, _, _⟩) (cs := u8s a) rfl rfl _ rfl rfl (fun w' h => by have h2 := Blk.rangeOf h.1; rw [secA_list] at h2; exact h2) Tryz.underlying60 rfl (by rw [u8s_len, HA.out.1]; rfl) ?_
 refine mix_take_row (o := ⟨_, _, _, _, _, _⟩) (cs := u8s b) rfl rfl _ rfl rfl (fun w' h => by have h2 := Blk.rangeOf h.2; rw [secA_list] at h2; exact h2) Tryz.underlying60 rfl (by rw [u8s_len, HB.out.1]; rfl) ?_
 refine mix_act (o := ⟨_, _, _, _, _, _⟩) rfl (fun K hK => ?_) (.inl rfl)
 go_simp
 refine (wnum_any (w := w1.drew) (HW1.out.new (New.dr (New.refl w1))) 2 1 (by omega) (by omega) (by simp)).mono ?_
 rintro e wa ⟨rfl, hW, hF⟩
 have HWwa := Lib.hid hW
 have HFwa : Hid (FW g g w1 wa) := Lib.hid ((FW.new (New.dr (New.refl w1))).tr hF)
 have HSwa : Hid (Blk wa b4 60 (secA a) ∧ Blk wa b5 60 (secA b)) := Lib.hid ⟨HFwa.out.blk HB4.out (by decide) (by have := HZ.out; omega), HFwa.out.blk HB5.out (by decide) (by have := HZ.out; omega)⟩
 clear hW hF
 go_simp
 refine hK.out _ _ (fun _ => HSwa.out) ?_
 clear hK K
 refine mix_act (o := ⟨_, _, _, _, _, _⟩) rfl (fun K hK => ?_) (.inl rfl)
 go_simp
 refine (wnum_any HWwa.out h 1 (by omega) (by have := HH.out; omega) (by simp [beL_len])).mono ?_
 rintro e wb ⟨rfl, hW, hF⟩
 have HWwb := Lib.hid hW
 have HFwb : Hid (FW g g w1 wb) := Lib.hid (HFwa.out.tr hF)
 have HSwb : Hid (Blk wb b4 60 (secA a) ∧ Blk wb b5 60 (secA b)) := Lib.hid ⟨HFwb.out.blk HB4.out (by decide) (by have := HZ.out; omega), HFwb.out.blk HB5.out (by decide) (by have := HZ.out; omega)⟩
 clear hW hF
 go_simp
 refine hK.out _ _ (fun _ => HSwb.out) ?_
 clear hK K
 refine mix_act (o := ⟨_, _, _, _, _, _⟩) rfl (fun K hK => ?_) (.inl rfl)
 go_simp
 refine (whash_any HWwb.out a HA.out.1 HA.out.2 (by simp [beL_len])).mono ?_
 rintro e wc ⟨rfl, hW, hF⟩
 have HWwc := Lib.hid hW
 have HFwc : Hid (FW g g w1 wc) := Lib.hid (HFwb.out.tr hF)
 have HSwc : Hid (Blk wc b4 60 (secA a) ∧ Blk wc b5 60 (secA b)) := Lib.hid ⟨HFwc.out.blk HB4.out (by decide) (by have := HZ.out; omega), HFwc.out.blk HB5.out (by decide) (by have := HZ.out; omega)⟩
 clear hW hF
 go_simp
 refine hK.out _ _ (fun _ => HSwc.out) ?_
 clear hK K
 refine mix_act (o := ⟨_, _, _, _, _, _⟩) rfl (fun K hK => ?_) (.inl rfl)
 go_simp
 refine (whash_any HWwc.out b HB.out.1 HB.out.2 (by simp [beL_len, HA.out.1])).mono ?_
 rintro e wd ⟨rfl, hW, hF⟩
 have hW : WrIn wd g g (ndL h a b) := hW
 have HWwd := Lib.hid hW
 have HFwd : Hid (FW g g w1 wd) := Lib.hid (HFwc.out.tr hF)
 have HSwd : Hid (Blk wd b4 60 (secA a) ∧ Blk wd b5 60 (secA b)) := Lib.hid ⟨HFwd.out.blk HB4.out (by decide) (by have := HZ.out; omega), HFwd.out.blk HB5.out (by decide) (by have := HZ.out; omega)⟩
 clear hW hF
 go_simp
 refine hK.out _ _ (fun _ => HSwd.out) ?_
 clear hK K
 have HJ : Hid ((ndL h a b).length = 66) := Lib.hid (ndL_len HA.out.1 HB.out.1)
 obtain ⟨J, hJ⟩ : ∃ J, J = ndL h a b := ⟨_, rfl⟩
 have HJE := Lib.hid hJ
 rw [← hJ] at HWwd HJ
 clear hJ
 refine mix_act (o := ⟨_, _, _, _, _, _⟩) rfl (fun K hK => ?_) (.inl rfl)
 go_simp
 refine (wdone_any HWwd.out (by rw [HJ.out]; omega)).mono ?_
 rintro e w6 ⟨⟨B, d, rfl, hO⟩, hN6⟩
 rw [HJ.out] at hO ⊢
 have HO := Lib.hid hO
 have HN6 : Hid (New w w6) := Lib.hid ((HFwd.out.toNew HN1.out (by have := HZ.out; have := HW1.out.lt; omega) (Nat.le_refl _)).tr hN6)
 have HS6 : Hid (Blk w6 b4 60 (secA a) ∧ Blk w6 b5 60 (secA b)) := Lib.hid ⟨hN6.blk HSwd.out.1, hN6.blk HSwd.out.2⟩
 clear hO hN6
 go_simp
 refine hK.out _ _ (fun _ => HS6.out) ?_
 clear hK K
 iterate 4 (refine mix_take (o := ⟨_, _, _, _, _, _⟩) rfl (fun K hK => ?_); go_simp; refine hK _ ?_; clear hK K)
 refine mix_done ?_
 go_wp2_with fail
 go_ret2
 exact ⟨B, d, rfl, by rw [← HJE.out]; exact (Rd.own HO.out rfl).imp (fun _ _ => trivial), HN6.out⟩
end Go.Proofs.YtmibndkofoldkaaGreatDoor
namespace Go.Proofs.YtmibndkofoldkaaGreatDoor
set_option linter.unusedVariables false
set_option linter.unusedSimpArgs false
set_option linter.constructorNameAsVariable false
open Go.RowKit Go.Sort
set_option maxHeartbeats 2000000
set_option maxRecDepth 100000
theorem hashed_any {q : Nat → Prop} (A : Option Addr) (n c : Nat) (xs : List Int) (w : World) (hL : ShaIn 3 1 w) (hR : Rd q w 1 A n (u8s xs)) (hb : Byt xs) (hn : n ≤ 500000000) :
    Calls Tryz.prog 223 #[.slice A n c, .nilIface] w fun e w' => e = .returned (.tuple #[.agg (secA (hsh xs)), .nilIface]) ∧ New w w' := by
 have HC := Lib.hid (fun W (hN : New w W) => sum_any A n c xs W (hL.new hN) (hN.rd hR) hb hn)
 obtain ⟨hs, hhs⟩ : ∃ hs, hs = hsh xs := ⟨_, rfl⟩
 rw [← hhs] at HC ⊢
 have HLN : Hid ((secA hs).size = 32) := Lib.hid (by rw [hhs, secA_size, hsh_len])
 clear hL hR hb hn hhs
 go_enter Tryz.func223, Tryz.ntmps223
 go_upto_region 1 with ((with_reducible refine atOp ⟨some 4, .alloc _, _, _, _, _⟩ ?_); refine wpList_alloc_row rfl rfl hashInfoR ?_; intro b4 w1 hb4 hB4 hN1; have HB4 := Lib.hid hB4; have HN1 := Lib.hid hN1; have HZ := Lib.hid hb4; clear hb4 hB4 hN1)
 go_upto_region 3 with fail
 go_wp2_with fail
 refine (HC.out w1 HN1.out).mono ?_
 rintro e w2 ⟨rfl, hN2⟩
 have HN2 : Hid (New w w2) := Lib.hid (HN1.out.tr hN2)
 have HB42 : Hid (Blk w2 b4 60 (secA (List.replicate 32 0))) := Lib.hid (hN2.blk HB4.out)
 clear hN2
 go_wp2_with ((with_reducible refine atOp ⟨none, .store 60 (.tmp 4) _, _, _, _, _⟩ ?_); refine wpList_store_any rfl (.tmp 4) (.tmp 11) rfl (by rw [HLN.out]; rfl) rfl rfl HB42.out (by rw [HLN.out]; rfl) (secA_one _) ?_; intro w3 hb3 hf3; have HB43 := Lib.hid hb3; have HF3 := Lib.hid hf3; clear hb3 hf3)
 exact bodyPost_ret (results_row2h rfl _ _ b4 _ _ rfl HB43.out Tryz.underlying60 rfl (by rw [HLN.out]; rfl)) rfl ⟨rfl, HN2.out.fr HF3.out (fun k hk => by have := HZ.out; omega)⟩
theorem njoin_any (h : Nat) (a b : List Int) (w : World) (hL : ShaIn 3 1 w) (hh : 1 ≤ h ∧ h ≤ 32) (ha : a.length = 32 ∧ Byt a) (hb : b.length = 32 ∧ Byt b) :
    Calls Tryz.prog 200 #[.int .i64 h, .agg (secA a), .agg (secA b)] w fun e w' => e = .returned (.tuple #[.agg (secA (ndH h a b)), .nilIface]) ∧ New w w' := by
 have HJT := Lib.hid (fun W => joint_any h a b W hh ha hb)
 have HJ : Hid (hsh (ndL h a b) = ndH h a b ∧ Byt (ndL h a b) ∧ (secA (ndH h a b)).size = 32) := Lib.hid ⟨rfl, ndL_byt ha.2 hb.2, by rw [secA_size, ndH_len]⟩
 have HL := Lib.hid hL
 obtain ⟨JL, hJL⟩ : ∃ JL, JL = ndL h a b := ⟨_, rfl⟩
 obtain ⟨JH, hJH⟩ : ∃ JH, JH = ndH h a b := ⟨_, rfl⟩
 rw [← hJL] at HJ
 rw [← hJH] at HJ ⊢
 simp only [← hJL] at HJT
 obtain ⟨RA, hRA⟩ : ∃ RA, RA = secA a := ⟨_, rfl⟩
 have HRA : Hid (RA.size = 32) := Lib.hid (by rw [hRA, secA_size, ha.1])
 obtain ⟨RB, hRB⟩ : ∃ RB, RB = secA b := ⟨_, rfl⟩
 have HRB : Hid (RB.size = 32) := Lib.hid (by rw [hRB, secA_size, hb.1])
 simp only [← hRA, ← hRB] at HJT
 rw [← hRA, ← hRB]
 clear hJL hJH hL hh ha hb hRA hRB
 go_enter Tryz.func200, Tryz.ntmps200
 go_upto_region 1 with ((with_reducible refine atOp ⟨some 6, .alloc _, _, _, _, _⟩ ?_); refine wpList_alloc_row rfl rfl hashInfoR ?_; intro b6 w1 hb6 hB6 hN1; have HB6 := Lib.hid hB6; have HN1 := Lib.hid hN1; have HZ := Lib.hid hb6; clear hb6 hB6 hN1)
 have HB4 : Hid (Blk w1 w.heap.size 60 RA) := Lib.hid (HN1.out.blk ((Blk.new _ _ _).alloc _))
 have HB5 : Hid (Blk w1 (w.heap.size + 1) 60 RB) := Lib.hid (HN1.out.blk (Blk.new' _ _ _ (by simp)))
 have HN0 : Hid (New w w1) := Lib.hid ((New.al (New.al (New.refl _) _) _).tr HN1.out)
 have HZ2 : Hid (w.heap.size ≤ b6) := Lib.hid (by have := HZ.out; simp at this; omega)
 obtain ⟨b4, hb4⟩ : ∃ b4, b4 = w.heap.size := ⟨_, rfl⟩
 obtain ⟨b5, hb5⟩ : ∃ b5, b5 = w.heap.size + 1 := ⟨_, rfl⟩
 rw [← hb4] at HB4
 rw [← hb5] at HB5
 rw [← hb5, ← hb4]
 clear hb4 hb5 HZ HN1
 go_wp2_with (first
  | ((with_reducible refine atOp ⟨some 9, .load _ _, _, _, _, _⟩ ?_); refine wpList_load_any rfl _ rfl Tryz.underlying60 rfl (by rw [HRA.out]; rfl) rfl HB4.out ?_)
  | ((with_reducible refine atOp ⟨some 10, .load _ _, _, _, _, _⟩ ?_); refine wpList_load_any rfl _ rfl Tryz.underlying60 rfl (by rw [HRB.out]; rfl) rfl HB5.out ?_))
 refine (HJT.out w1).mono ?_
 rintro e w2 ⟨A, d, rfl, hR, hN2⟩
 have HR := Lib.hid hR
 have HN2 : Hid (New w w2) := Lib.hid (HN0.out.tr hN2)
 have HB62 : Hid (Blk w2 b6 60 (secA (List.replicate 32 0))) := Lib.hid (hN2.blk HB6.out)
 clear hR hN2
 go_wp2_with fail
 refine (hashed_any A 66 d JL w2 (HL.out.new HN2.out) HR.out HJ.out.2.1 (by omega)).mono ?_
 rintro e w3 ⟨rfl, hN3⟩
 rw [HJ.out.1]
 have HN3 : Hid (New w w3) := Lib.hid (HN2.out.tr hN3)
 have HB63 : Hid (Blk w3 b6 60 (secA (List.replicate 32 0))) := Lib.hid (hN3.blk HB62.out)
 clear hN3
 go_wp2_with ((with_reducible refine atOp ⟨none, .store 60 (.tmp 6) _, _, _, _, _⟩ ?_); refine wpList_store_any rfl (.tmp 6) (.tmp 15) rfl (by rw [HJ.out.2.2]; rfl) rfl rfl HB63.out (by rw [HJ.out.2.2]; rfl) (secA_one _) ?_; intro w4 hb3 hf3; have HB64 := Lib.hid hb3; have HF4 := Lib.hid hf3; clear hb3 hf3)
 exact bodyPost_ret (results_row2h rfl _ _ b6 _ _ rfl HB64.out Tryz.underlying60 rfl (by rw [HJ.out.2.2]; rfl)) rfl ⟨rfl, HN3.out.fr HF4.out (fun k hk => by have := HZ2.out; omega)⟩
end Go.Proofs.YtmibndkofoldkaaGreatDoor
namespace Go.Proofs.YtmibndkofoldkaaGreatDoor
set_option linter.unusedVariables false
set_option linter.unusedSimpArgs false
set_option linter.constructorNameAsVariable false
open Go.RowKit Go.Sort
theorem empInfo : (Tryz.prog.info? 290).map (fun i => (i.zero, i.size)) = some (some (.agg (secA (List.replicate 1056 0))), 1056) := by kernel_rfl
theorem empA_1 : splice (u8s (List.replicate 1056 0)) 0 (u8s (hsh [0])) = u8s (empA 1) := by
 have e : u8s (List.replicate 1056 0) = u8s (List.replicate 32 0) ++ u8s (List.replicate 1024 0) := by unfold u8s; rw [← List.map_append, List.replicate_append_replicate]
 rw [e, splice_fst (by rw [u8s_len, u8s_len, hsh_len, List.length_replicate])]
 unfold empA u8s
 rw [← List.map_append]
 rfl
theorem built_emp : Tryz.prog.built 290 [(0, .agg (secA (hsh [0])))] = some (secA (empA 1)) := by
 have h := built_arr1 (P := Tryz.prog) (ys := u8s (hsh [0])) (zs := u8s (List.replicate 1056 0)) (n := 33) (e := 60) Tryz.underlying290 empInfo (by rw [u8s_len, hsh_len]; kernel_rfl) (by rw [u8s_len, u8s_len, hsh_len, List.length_replicate]; omega)
 rw [empA_1] at h
 exact h
theorem cut_range {w : World} {g T off n : Nat} {all : List Int} (hb : Blk w g T (secA all)) : w.rangeAt g off (u8s ((all.drop off).take n)) := fun j v hv => by
 rw [hb.cell]
 have hj := (List.getElem?_eq_some_iff.1 hv).1
 rw [u8s_len] at hj
 unfold secA
 rw [List.getElem?_toArray, ← hv]
 unfold u8s at *
 rw [List.length_take] at hj
 rw [List.getElem?_map, List.getElem?_map, List.getElem?_take_of_lt (by omega), List.getElem?_drop]
set_option maxHeartbeats 3000000
set_option maxRecDepth 100000
theorem empties_any (w : World) (hL : ShaIn 3 1 w) : Calls Tryz.prog 170 #[] w fun e w' => e = .returned (.agg (secA (empA 33))) ∧ New w w' := by
 have HL := Lib.hid hL
 have HE1 := Lib.hid built_emp
 have HA1 : Hid ((secA (empA 1)).size = 1056) := Lib.hid (by rw [secA_size, empA_len (by omega)])
 obtain ⟨h0, hh0⟩ : ∃ h0, h0 = hsh [0] := ⟨_, rfl⟩
 have HH0 := Lib.hid hh0
 clear hL hh0
 go_enter Tryz.func170, Tryz.ntmps170
 go_upto_region 1 with ((with_reducible refine atOp ⟨some 0, .alloc _, _, _, _, _⟩ ?_); refine wpList_alloc_row rfl rfl empInfo ?_; intro b0 w1 hb hB hN; have HB0 := Lib.hid hB; have HN1 := Lib.hid hN; have HZ := Lib.hid hb; clear hb hB hN)
 go_wp2_with fail
 have HR0 : Hid (Rd (fun _ => True) (w1.alloc (.cells #[.int .u8 0] 5)) 1 (some ⟨w1.heap.size, 0, none⟩) 1 (u8s [0])) := Lib.hid (by
  have h := Rd.ofBlk (p := fun _ => True) (Blk.new w1 5 #[.int .u8 0]) 1 1 (by rfl) trivial
  exact h)
 refine (sum_any (some ⟨w1.heap.size, 0, none⟩) 1 1 [0] _ ((HL.out.new HN1.out).new (New.al (New.refl _) _)) HR0.out (fun x hx => by simp at hx; omega) (by omega)).mono ?_
 rintro e w2 ⟨rfl, hN2⟩
 have HN2 : Hid (New w w2) := Lib.hid (HN1.out.tr ((New.al (New.refl _) _).tr hN2))
 have HB02 : Hid (Blk w2 b0 290 (secA (List.replicate 1056 0))) := Lib.hid (hN2.blk ((New.al (New.refl _) _).blk HB0.out))
 rw [← HH0.out] at HE1 ⊢
 clear hN2 HR0 HB0 HN1
 go_upto_region 2 with (first
  | ((with_reducible refine atOp ⟨some 7, .build _ _, _, _, _, _⟩ ?_); refine wpList_built rfl _ [(0, .tmp 6)] rfl _ rfl _ HE1.out ?_)
  | ((with_reducible refine atOp ⟨some 1, .alloc _, _, _, _, _⟩ ?_); refine wpList_newrow rfl rfl rfl _ _ rfl empInfo (by rfl) rfl rfl HA1.out (secA_one _) ?_))
 simp only [Act.put, List.setIfInBounds_toArray, List.set_cons_zero, List.set_cons_succ]
 obtain ⟨w3, hw3⟩ : ∃ w3 : World, w3 = w2.alloc (.cells (secA (empA 1)) 290) := ⟨_, rfl⟩
 obtain ⟨b1, hb1⟩ : ∃ b1, b1 = w2.heap.size := ⟨_, rfl⟩
 obtain ⟨bx, hbx⟩ : ∃ bx, bx = w1.heap.size := ⟨_, rfl⟩
 have HN3 : Hid (New w w3) := Lib.hid (HN2.out.tr (by rw [hw3]; exact New.al (New.refl _) _))
 have HB1 : Hid (Blk w3 b1 290 (secA (empA 1))) := Lib.hid (by rw [hw3, hb1]; exact Blk.new _ _ _)
 have HB03 : Hid (Blk w3 b0 290 (secA (List.replicate 1056 0))) := Lib.hid (by rw [hw3]; exact (New.al (New.refl _) _).blk HB02.out)
 have HZ3 : Hid (b0 = w.heap.size ∧ b0 < b1) := Lib.hid ⟨HZ.out, by rw [hb1]; exact HB02.out.lt⟩
 rw [← hw3, ← hb1, ← hbx]
 clear hw3 hb1 hbx HN2 HB02 HZ HE1 HA1 HH0
 go_wp2_with fail
 go_loopw [2] (fun i wr => ∃ (m : Nat), Hid (m ≤ 32) ∧ i = .int .i64 ((m + 1 : Nat) : Int) ∧ Hid (New w wr) ∧ Hid (Blk wr b0 290 (secA (List.replicate 1056 0))) ∧ Hid (Blk wr b1 290 (secA (empA (m + 1))))) (fun i _ => 33 - (intOf i).toNat)
 case atStart => exact ⟨0, Lib.hid (by omega), rfl, HN3, HB03, HB1⟩
 case round =>
  clear HN3 HB03 HB1
  obtain ⟨m, HM, rfl, HN, HB0, HB1⟩ := hrel
  obtain ⟨k, hk⟩ : ∃ k, k = m + 1 := ⟨_, rfl⟩
  have HK := Lib.hid hk
  rw [← hk] at HB1 ⊢
  clear hk
  by_cases hj : k < 33
  · have hlt : (k : Int) < 33 := by omega
    have HK2 := Lib.hid hj
    have e1 : (k : Int) - 1 = (m : Int) := by have := HK.out; omega
    have e2 : IntKind.i64.wrap (m : Int) = (m : Int) := IntWalk.i64_in _ (by have := HM.out; omega)
    have e3 : IntKind.i64.wrap ((k : Int) + 1) = (k : Int) + 1 := IntWalk.i64_in _ (by omega)
    have i1 : ¬ ((m : Int) < 0) := by omega
    have i2 : (m : Int) < 33 := by omega
    clear hj
    go_wp2_with fail
    have HEM : Hid ((empH m).length = 32 ∧ Byt (empH m) ∧ empH k = ndH k (empH m) (empH m) ∧ (secA (empH k)).size = 32) := Lib.hid ⟨empH_len m, empH_byt m, by rw [HK.out]; rfl, by rw [secA_size, empH_len]⟩
    have HRM0 : ∀ w', New wr w' → w'.rangeAt b1 (m * 32) (u8s (empH m)) := fun w' hN => by
     rw [Nat.mul_comm m 32, ← empA_at (k := k) (i := m) (by have := HK.out; omega)]
     exact cut_range (hN.blk HB1.out)
    have HRM := Lib.hid HRM0
    clear HRM0
    apply wp_join (α := Nat) (fun b w3 => New wr w3 ∧ Blk w3 b 60 (secA (empH k)))
    case h1 =>
     intro K' hK'
     refine wp_region_tree (New wr) (.take 0 (.take 1 (.take 2 (.take 3 (.take 4 (.take 5 (.take 6 (.take 7 (.take 8 (.two 9 (.take 10 (.take 11 (.take 12 (.act 13 (.act 14 (.take 15 .done)))))) 13 (.act 9 (.take 10 (.take 11 (.take 12 (.act 14 (.take 15 .done)))))))))))))))) (by kernel_rfl) (by kernel_rfl) (New.dr (New.refl wr)) (fun hne => ?_)
     iterate 4 (refine tree_take (o := ⟨_, _, _, _, _, _⟩) rfl (fun K hK => ?_); go_simp; refine hK _ ?_; clear hK K)
     refine tree_take_row (o := ⟨_, _, _, _, _, _⟩) (cs := u8s (empH m)) rfl rfl _ rfl rfl (fun w' h => HRM.out w' h) Tryz.underlying60 rfl (by rw [u8s_len, HEM.out.1]; rfl) ?_
     iterate 3 (refine tree_take (o := ⟨_, _, _, _, _, _⟩) rfl (fun K hK => ?_); go_simp; refine hK _ ?_; clear hK K)
     refine tree_take_row (o := ⟨_, _, _, _, _, _⟩) (cs := u8s (empH m)) rfl rfl _ rfl rfl (fun w' h => HRM.out w' h) Tryz.underlying60 rfl (by rw [u8s_len, HEM.out.1]; rfl) ?_
     simp only [Act.put, List.setIfInBounds_toArray, List.set_cons_zero, List.set_cons_succ]
     refine ⟨?_, ?_⟩
     · refine act_ok (o := ⟨_, _, _, _, _, _⟩) rfl (fun K hK => ?_) (.inl rfl)
       go_simp
       refine (njoin_any k (empH m) (empH m) wr.drew ((HL.out.new HN.out).new (New.dr (New.refl wr))) (by have := HK2.out; have := HK.out; omega) ⟨HEM.out.1, HEM.out.2.1⟩ ⟨HEM.out.1, HEM.out.2.1⟩).mono ?_
       rintro e w4 ⟨rfl, hN4⟩
       rw [← HEM.out.2.2.1]
       have HN4 : Hid (New wr w4) := Lib.hid ((New.dr (New.refl wr)).tr hN4)
       clear hN4
       go_simp
       refine hK.out _ _ HN4.out ?_
       clear hK K
       iterate 3 (refine tree_take (o := ⟨_, _, _, _, _, _⟩) rfl (fun K hK => ?_); go_simp; refine hK _ ?_; clear hK K)
       refine tree_act_alloc (o := ⟨_, _, _, _, _, _⟩) rfl rfl rfl hashInfoR ?_
       intro b3 w5 hb3 hB3 hN5
       have HL5 : Hid (wr.heap.size ≤ b3) := Lib.hid (by have := HN4.out.size; omega)
       refine ⟨HN4.out.tr hN5, ?_⟩
       clear hb3
       simp only [Act.put, List.setIfInBounds_toArray, List.set_cons_zero, List.set_cons_succ]
       refine act_store (o := ⟨_, _, _, _, _, _⟩) (cs := secA (empH k)) rfl rfl (.tmp 3) (.tmp 23) rfl (by rw [HEM.out.2.2.2]; rfl) rfl rfl hB3 (by rw [HEM.out.2.2.2]; rfl) (secA_one _) ?_
       intro w6 hB6 hF6
       have hN6 : New wr w6 := (HN4.out.tr hN5).fr hF6 (fun x hx => by have := HL5.out; omega)
       refine ⟨hN6, ?_⟩
       simp only [Act.put, List.setIfInBounds_toArray, List.set_cons_zero, List.set_cons_succ]
       iterate 1 (refine tree_take (o := ⟨_, _, _, _, _, _⟩) rfl (fun K hK => ?_); go_simp; refine hK _ ?_; clear hK K)
       refine tree_done ?_
       exact hK'.out b3 w6 ⟨hN6, hB6⟩
     · refine act_alloc (o := ⟨_, _, _, _, _, _⟩) rfl rfl rfl hashInfoR ?_
       intro b3 w5 hb3 hB3 hN5
       have HN5 : Hid (New wr w5) := Lib.hid ((New.dr (New.refl wr)).tr hN5)
       have HB5 := Lib.hid hB3
       have HL5 : Hid (wr.heap.size ≤ b3) := Lib.hid (by rw [hb3]; exact Nat.le_refl _)
       refine ⟨HN5.out, ?_⟩
       clear hb3 hB3 hN5
       simp only [Act.put, List.setIfInBounds_toArray, List.set_cons_zero, List.set_cons_succ]
       refine tree_act (o := ⟨_, _, _, _, _, _⟩) rfl (fun K hK => ?_) (.inl rfl)
       go_simp
       refine (njoin_any k (empH m) (empH m) w5 ((HL.out.new HN.out).new HN5.out) (by have := HK2.out; have := HK.out; omega) ⟨HEM.out.1, HEM.out.2.1⟩ ⟨HEM.out.1, HEM.out.2.1⟩).mono ?_
       rintro e w4 ⟨rfl, hN4⟩
       rw [← HEM.out.2.2.1]
       have HB4 := Lib.hid (hN4.blk HB5.out)
       have HN4 : Hid (New wr w4) := Lib.hid (HN5.out.tr hN4)
       clear hN4
       go_simp
       refine hK.out _ _ HN4.out ?_
       clear hK K
       iterate 3 (refine tree_take (o := ⟨_, _, _, _, _, _⟩) rfl (fun K hK => ?_); go_simp; refine hK _ ?_; clear hK K)
       refine act_store (o := ⟨_, _, _, _, _, _⟩) (cs := secA (empH k)) rfl rfl (.tmp 3) (.tmp 23) rfl (by rw [HEM.out.2.2.2]; rfl) rfl rfl HB4.out (by rw [HEM.out.2.2.2]; rfl) (secA_one _) ?_
       intro w6 hB6 hF6
       have hN6 : New wr w6 := HN4.out.fr hF6 (fun x hx => by have := HL5.out; omega)
       refine ⟨hN6, ?_⟩
       simp only [Act.put, List.setIfInBounds_toArray, List.set_cons_zero, List.set_cons_succ]
       iterate 1 (refine tree_take (o := ⟨_, _, _, _, _, _⟩) rfl (fun K hK => ?_); go_simp; refine hK _ ?_; clear hK K)
       refine tree_done ?_
       exact hK'.out b3 w6 ⟨hN6, hB6⟩
    case h2 =>
     rintro b3 w4 ⟨hN4, hB4⟩
     have HN4 : Hid (New w w4) := Lib.hid (HN.out.tr hN4)
     have HB4 := Lib.hid hB4
     have HB04 : Hid (Blk w4 b0 290 (secA (List.replicate 1056 0))) := Lib.hid (hN4.blk HB0.out)
     have HB14 : Hid (Blk w4 b1 290 (u8s (empA k)).toArray) := Lib.hid (hN4.blk HB1.out)
     have HST : Hid (splice (u8s (empA k)) (k * 32) (u8s (empH k)) = u8s (empA (k + 1))) := Lib.hid (by rw [Nat.mul_comm]; exact empA_step HK2.out)
     have HLE : Hid ((u8s (empA k)).length = 1056) := Lib.hid (by rw [u8s_len, empA_len (by have := HK2.out; omega)])
     clear hN4 hB4 HB0 HB1 HRM HN
     go_wp2_with (first
      | ((with_reducible refine atOp ⟨some 28, .load _ _, _, _, _, _⟩ ?_); refine wpList_load_any rfl _ rfl Tryz.underlying60 rfl (by rw [HEM.out.2.2.2]; rfl) rfl HB4.out ?_)
      | ((with_reducible refine atOp ⟨none, .store 60 (.tmp 29) _, _, _, _, _⟩ ?_); refine wpList_store_part (cells := u8s (empH k)) (off := k * 32) rfl (.tmp 29) (.tmp 28) rfl rfl rfl HB14.out (by rw [HLE.out, u8s_len, empH_len]; have := HK2.out; omega) (by rw [u8s_len, empH_len]; rfl) (u8s_one _) ?_; intro w5 hb5 hf5; have HB5 := Lib.hid hb5; have HF5 := Lib.hid hf5; clear hb5 hf5))
     go_roundw
     case rel => exact ⟨k, Lib.hid (by have := HK2.out; omega), by go_num, HN4.out.fr HF5.out (fun x hx => by have := HZ3.out; omega), HB04.out.fr HF5.out (by have := HZ3.out; omega), by have h := HB5.out; rw [HST.out] at h; exact h⟩
     case measure => simp [intOf]; have := HK2.out; omega
  · have hge : ¬ ((k : Int) < 33) := by omega
    have HKE : Hid (empA k = empA 33) := Lib.hid (by rw [show k = 33 by have := HM.out; have := HK.out; omega])
    have HSZ : Hid ((secA (empA 33)).size = 1056) := Lib.hid (by rw [secA_size, empA_len (by omega)])
    have HB1' : Hid (Blk wr b1 290 (secA (empA 33))) := Lib.hid (by rw [← HKE.out]; exact HB1.out)
    clear hj HB1 HKE
    go_wp2_with (first
        | ((with_reducible refine atOp ⟨some 30, .load _ _, _, _, _, _⟩ ?_); refine wpList_load_any rfl _ rfl Tryz.underlying290 rfl (by rw [HSZ.out]; rfl) rfl HB1'.out ?_)
        | ((with_reducible refine atOp ⟨none, .store 290 (.tmp 0) _, _, _, _, _⟩ ?_); refine wpList_store_any rfl (.tmp 0) (.tmp 30) rfl (by rw [HSZ.out]; rfl) rfl rfl HB0.out (by rw [HSZ.out]; rfl) (secA_one _) ?_; intro w5 hb5 hf5; have HB5 := Lib.hid hb5; have HF5 := Lib.hid hf5; clear hb5 hf5))
    exact bodyPost_ret (results_rowH rfl _ _ b0 _ _ rfl HB5.out Tryz.underlying290 rfl (by rw [HSZ.out]; rfl)) rfl ⟨rfl, HN.out.fr HF5.out (fun x hx => by have := HZ3.out; omega)⟩
end Go.Proofs.YtmibndkofoldkaaGreatDoor
namespace Go.Proofs.YtmibndkofoldkaaGreatDoor
set_option linter.unusedVariables false
set_option linter.unusedSimpArgs false
set_option linter.constructorNameAsVariable false
open Go.RowKit Go.Sort
set_option maxHeartbeats 2000000
set_option maxRecDepth 100000
theorem empty_any (h : Nat) (w : World) (hL : ShaIn 3 1 w) (hh : h ≤ 32) : Calls Tryz.prog 111 #[.int .i64 h] w fun e w' => e = .returned (.tuple #[.agg (secA (empH h)), .nilIface]) ∧ New w w' := by
 have HL := Lib.hid hL
 have q1 : ¬ ((h : Int) < 0) := by omega
 have q2 : ¬ ((33 : Int) ≤ (h : Int)) := by omega
 have q3 : (h : Int) < 33 := by omega
 have HH := Lib.hid hh
 have HSZ : Hid ((secA (empA 33)).size = 1056) := Lib.hid (by rw [secA_size, empA_len (by omega)])
 have HS32 : Hid ((secA (empH h)).size = 32) := Lib.hid (by rw [secA_size, empH_len])
 clear hL hh
 go_enter Tryz.func111, Tryz.ntmps111
 go_upto_region 1 with ((with_reducible refine atOp ⟨some 2, .alloc _, _, _, _, _⟩ ?_); refine wpList_alloc_row rfl rfl hashInfoR ?_; intro b2 w1 hb hB hN; have HB2 := Lib.hid hB; have HN1 := Lib.hid hN; have HZ := Lib.hid hb; clear hb hB hN)
 go_wp2_with fail
 refine (empties_any w1 (HL.out.new HN1.out)).mono ?_
 rintro e w2 ⟨rfl, hN2⟩
 have HN2 : Hid (New w w2) := Lib.hid (HN1.out.tr hN2)
 have HB22 : Hid (Blk w2 b2 60 (secA (List.replicate 32 0))) := Lib.hid (hN2.blk HB2.out)
 clear hN2 HB2
 go_upto_region 2 with ((with_reducible refine atOp ⟨some 4, .alloc _, _, _, _, _⟩ ?_); refine wpList_newrow rfl rfl rfl _ _ rfl empInfo (by rfl) rfl rfl HSZ.out (secA_one _) ?_)
 simp only [Act.put, List.setIfInBounds_toArray, List.set_cons_zero, List.set_cons_succ]
 obtain ⟨w3, hw3⟩ : ∃ w3 : World, w3 = w2.alloc (.cells (secA (empA 33)) 290) := ⟨_, rfl⟩
 obtain ⟨b4, hb4⟩ : ∃ b4, b4 = w2.heap.size := ⟨_, rfl⟩
 have HN3 : Hid (New w w3) := Lib.hid (HN2.out.tr (by rw [hw3]; exact New.al (New.refl _) _))
 have HB4 : Hid (w3.rangeAt b4 (h * 32) (u8s (empH h))) := Lib.hid (by
  rw [Nat.mul_comm h 32, ← empA_at (k := 33) (i := h) (by have := HH.out; omega)]
  exact cut_range (T := 290) (by rw [hw3, hb4]; exact Blk.new _ _ _))
 have HB23 : Hid (Blk w3 b2 60 (secA (List.replicate 32 0))) := Lib.hid (by rw [hw3]; exact (New.al (New.refl _) _).blk HB22.out)
 rw [← hw3, ← hb4]
 clear hw3 hb4 HSZ HN2 HB22
 go_wp2_with (first
  | ((with_reducible refine atOp ⟨some 16, .load _ _, _, _, _, _⟩ ?_); refine wpList_load_range rfl _ rfl rfl HB4.out Tryz.underlying60 rfl (by rw [u8s_len, empH_len]; rfl) ?_)
  | ((with_reducible refine atOp ⟨none, .store 60 (.tmp 2) _, _, _, _, _⟩ ?_); refine wpList_store_any rfl (.tmp 2) (.tmp 16) rfl (by show _ = some (secA (empH h)).size; rw [HS32.out]; rfl) rfl rfl HB23.out (by show _ = (secA (empH h)).size; rw [HS32.out]; rfl) (secA_one _) ?_; intro w5 hb5 hf5; have HB5 := Lib.hid hb5; have HF5 := Lib.hid hf5; clear hb5 hf5))
 exact bodyPost_ret (results_row2h rfl _ _ b2 _ _ rfl HB5.out Tryz.underlying60 rfl (by show _ = some (secA (empH h)).size; rw [HS32.out]; rfl)) rfl ⟨rfl, HN3.out.fr HF5.out (fun x hx => by have := HZ.out; omega)⟩
end Go.Proofs.YtmibndkofoldkaaGreatDoor
namespace Go.Proofs.YtmibndkofoldkaaGreatDoor
set_option linter.unusedVariables false
set_option linter.unusedSimpArgs false
set_option linter.constructorNameAsVariable false
open Go.RowKit Go.Sort
theorem recInfo : (Tryz.prog.info? 63).map (fun i => (i.zero, i.size)) = some (some (.agg rc0.cells), 37) := by kernel_rfl
set_option maxRecDepth 100000 in
theorem res3 {fn : Func} {p q t : Tmp} (h : fn.results = #[.tmp q, .cell p 63, .tmp t]) (tmps : Array Value) (w : World) (g : Nat) (r : Rc) (hp : tmps.getD p undef = .pointer (some ⟨g, 0, none⟩)) (hg : Blk w g 63 r.cells) (hi : r.cells.size = 37) : (results fn tmps).run Tryz.prog w = .ok (.tuple #[tmps.getD q undef, .agg r.cells, tmps.getD t undef]) w := by
 have hp' : tmps[p]?.getD undef = .pointer (some ⟨g, 0, none⟩) := by simpa using hp
 simp [results, h, hp', asAddr, run_loadVar_row w g 63 63 r.cells (0, 0) _ hg Tryz.underlying63 rfl (by rw [hi]; rfl)]
theorem num_ok {s : Rs} (h0 : s.e = 0) (k : Nat) (hl : k ≤ s.xs.length) : s.num k = (valL (s.xs.take k), ⟨s.xs.drop k, 0⟩) := by
 unfold Rs.num Rs.raw Rs.left
 rw [if_pos h0, if_neg (by omega), h0]
theorem cutL_sec {b : List Int} {k i n : Nat} (h : i + n ≤ 64) : ((sec2 b k).drop i).take n = cutL b (64 * k + i) n := by
 unfold cutL sec2
 rw [List.drop_take, List.take_take, Nat.min_eq_left (by omega), List.drop_drop]
theorem rd_range {w : World} {b off : Nat} {xs : List Value} {n : Nat} (h : w.rangeAt b off xs) (hb : b < w.heap.size) (hn : xs.length = n) : Rd (fun _ => True) w 1 (some ⟨b, off, none⟩) n xs := by
 subst hn
 refine ⟨by omega, fun _ => ⟨_, rfl, trivial, hb, fun j u hu => ?_⟩⟩
 have := h j u hu
 rw [show (⟨b, off, none⟩ : Addr).add j = ⟨b, off + j, none⟩ from by
  unfold Addr.add
  by_cases hj : j = 0
  · subst hj; simp
  · simp [hj]]
 exact this
theorem rnumAt {w : World} {g k i : Nat} {al : List Int} (h : RdIn w g ⟨(sec2 al k).drop i, 0⟩) (hS : SecOk (sec2 al k)) (hi : i + 8 ≤ 64) :
    Calls Tryz.prog 92 #[.pointer (some ⟨g, 0, none⟩), .int .i64 8] w fun x w' => x = .returned (.int .u64 (valL (cutL al (64 * k + i) 8) : Nat)) ∧ RdIn w' g ⟨(sec2 al k).drop (i + 8), 0⟩ ∧ Fr (fun b => b = g) w w' := by
 refine (rnum_any h 8 (by omega)).mono ?_
 have e := num_ok (s := ⟨(sec2 al k).drop i, 0⟩) rfl 8 (by show 8 ≤ ((sec2 al k).drop i).length; rw [List.length_drop, hS.1]; omega)
 rw [e]
 rintro x w' ⟨rfl, h2, h3⟩
 refine ⟨?_, ?_, h3⟩
 · show Ending.returned (.int .u64 (valL (((sec2 al k).drop i).take 8) : Nat)) = _
   rw [cutL_sec hi]
 · have h2 : RdIn w' g ⟨((sec2 al k).drop i).drop 8, 0⟩ := h2
   rw [List.drop_drop] at h2
   exact h2
theorem rhashAt {w : World} {g k i : Nat} {al : List Int} (h : RdIn w g ⟨(sec2 al k).drop i, 0⟩) (hS : SecOk (sec2 al k)) (hi : i + 32 ≤ 64) :
    Calls Tryz.prog 152 #[.pointer (some ⟨g, 0, none⟩)] w fun x w' => x = .returned (.agg (secA (cutL al (64 * k + i) 32))) ∧ RdIn w' g ⟨(sec2 al k).drop (i + 32), 0⟩ ∧ Fr (fun b => b = g) w w' := by
 refine (rhash_any h rfl (by show 32 ≤ ((sec2 al k).drop i).length; rw [List.length_drop, hS.1]; omega)).mono ?_
 rintro x w' ⟨rfl, h2, h3⟩
 refine ⟨?_, ?_, h3⟩
 · show Ending.returned (.agg (secA (((sec2 al k).drop i).take 32))) = _
   rw [cutL_sec hi]
 · have h2 : RdIn w' g ⟨((sec2 al k).drop i).drop 32, 0⟩ := h2
   rw [List.drop_drop] at h2
   exact h2
def accL (p : DP) (sl k : Nat) : List Int := if k = 0 then List.replicate 128 0 else if k = 1 then p.rget ((2 * sl : Nat) : Int) ++ List.replicate 64 0 else slotB p sl
set_option maxHeartbeats 3000000 in
set_option maxRecDepth 100000 in
theorem rget_any_l27 {w : World} {gd base bs bf : Nat} {v : Value} {p : DP} (hD : Dk w base gd bs bf v p) (hL : ShaIn 3 1 w) (sl : Nat) (hs : sl < 2) (hp : 4 ≤ p.size) :
    Calls Tryz.prog 104 #[.pointer (some ⟨gd, 0, none⟩), .int .i64 sl] w fun e w' => e = .returned (.tuple #[.int .u64 (getN sl (slotB p sl)), .agg (getR sl (slotB p sl)).cells, .nilIface]) ∧ New w w' := by
 have HD := Lib.hid hD
 have HL := Lib.hid hL
 have HS := Lib.hid (And.intro hs hp)
 have HBK := Lib.hid (slotB_ok hD.ok sl)
 have HRG : Hid (∀ a, SecOk (p.rget a)) := Lib.hid (fun a => hD.ok.rget a)
 have z0 : IntKind.i64.wrap 0 = 0 := by decide
 have z1 : IntKind.i64.wrap 1 = 1 := by decide
 have z2 : IntKind.i64.wrap 2 = 2 := by decide
 have z64 : IntKind.i64.wrap 64 = 64 := by decide
 obtain ⟨m2, hm2⟩ : ∃ m2, m2 = 2 * sl := ⟨_, rfl⟩
 have HM2 := Lib.hid hm2
 have e2 : 2 * (sl : Int) = (m2 : Int) := by omega
 have e3 : IntKind.i64.wrap (m2 : Int) = (m2 : Int) := IntWalk.i64_in _ (by omega)
 obtain ⟨m3, hm3⟩ : ∃ m3, m3 = m2 + 1 := ⟨_, rfl⟩
 have HM3 := Lib.hid hm3
 have e4 : (m2 : Int) + 1 = (m3 : Int) := by omega
 have e5 : IntKind.i64.wrap (m3 : Int) = (m3 : Int) := IntWalk.i64_in _ (by omega)
 have HA0 : Hid (accL p sl 0 = List.replicate 128 0) := Lib.hid rfl
 have HA1 : Hid (accL p sl 1 = p.rget (m2 : Int) ++ List.replicate 64 0) := Lib.hid (by rw [hm2]; rfl)
 have HA2 : Hid (accL p sl 2 = p.rget (m2 : Int) ++ p.rget (m3 : Int) ∧ accL p sl 2 = slotB p sl) := Lib.hid ⟨by rw [hm3, hm2]; rfl, rfl⟩
 have HRC : Hid (p.rcode (m2 : Int) = 0 ∧ p.rcode (m3 : Int) = 0) := Lib.hid (by
  have h1 : p.within (m2 : Int) = true := decide_eq_true (by omega)
  have h2 : p.within (m3 : Int) = true := decide_eq_true (by omega)
  unfold DP.rcode
  rw [if_pos h1, if_pos h2]
  exact ⟨rfl, rfl⟩)
 clear hD hL hs hp hm2 hm3
 go_enter Tryz.func104, Tryz.ntmps104
 go_upto_region 2 with fail
 obtain ⟨w1, hw1⟩ : ∃ w1 : World, w1 = (w.alloc (.cells #[.int .u8 0, .int .u8 0, .int .u8 0, .int .u8 0, .int .u8 0, .int .u8 0, .int .u8 0, .int .u8 0, .int .u8 0, .int .u8 0, .int .u8 0, .int .u8 0, .int .u8 0, .int .u8 0, .int .u8 0, .int .u8 0, .int .u8 0, .int .u8 0, .int .u8 0, .int .u8 0, .int .u8 0, .int .u8 0, .int .u8 0, .int .u8 0, .int .u8 0, .int .u8 0, .int .u8 0, .int .u8 0, .int .u8 0, .int .u8 0, .int .u8 0, .int .u8 0, .int .u64 0, .int .u64 0, .int .u64 0, .int .u64 0, .int .u64 0] 63)).alloc (.cells Tryz.zeroCells220 220) := ⟨_, rfl⟩
 obtain ⟨b5, hb5⟩ : ∃ b5, b5 = w.heap.size := ⟨_, rfl⟩
 obtain ⟨b7, hb7⟩ : ∃ b7, b7 = w.heap.size + 1 := ⟨_, rfl⟩
 have hz : Tryz.zeroCells220 = secA (List.replicate 128 0) := by kernel_rfl
 have HN1 : Hid (New w w1) := Lib.hid (by rw [hw1]; exact New.al (New.al (New.refl _) _) _)
 have HB5 : Hid (Blk w1 b5 63 rc0.cells) := Lib.hid (by rw [hw1, hb5, zero37]; exact (Blk.new _ _ _).alloc _)
 have HB7 : Hid (Blk w1 b7 220 (secA (accL p sl 0))) := Lib.hid (by rw [hw1, hb7, HA0.out, ← hz]; exact Blk.new' _ _ _ (by simp))
 have HZ : Hid (b5 = w.heap.size ∧ b7 = w.heap.size + 1) := Lib.hid ⟨hb5, hb7⟩
 rw [← hw1, ← hb7, ← hb5]
 clear hw1 hb5 hb7 hz
 go_wp2_with fail
 go_loopw [17] (fun i wr => ∃ (j : Nat), Hid (j ≤ 2) ∧ i = .int .i64 (j : Int) ∧ Hid (New w wr) ∧ Hid (Blk wr b5 63 rc0.cells) ∧ Hid (Blk wr b7 220 (secA (accL p sl j)))) (fun i _ => 2 - (intOf i).toNat)
 case atStart => exact ⟨0, Lib.hid (by omega), rfl, HN1, HB5, HB7⟩
 case round =>
  clear HB5 HB7
  obtain ⟨j, HJ, rfl, HN, HB5, HB7⟩ := hrel
  rcases (show j = 0 ∨ j = 1 ∨ j = 2 by have := HJ.out; omega) with rfl | rfl | rfl
  · have HSO : Hid (SecOk (p.rget (m2 : Int))) := Lib.hid (HRG.out _)
    go_wp2_with fail
    refine (read_all (HD.out.new HN.out) (m2 : Int)).mono ?_
    rintro e w2 ⟨rfl, hN2⟩
    rw [HRC.out.1, errD_0]
    obtain ⟨sc, hsc⟩ : ∃ sc, sc = p.rget (m2 : Int) := ⟨_, rfl⟩
    have HSC := Lib.hid hsc
    rw [← hsc] at HSO ⊢
    have HN2 : Hid (New w w2) := Lib.hid (HN.out.tr hN2)
    have HB52 : Hid (Blk w2 b5 63 rc0.cells) := Lib.hid (hN2.blk HB5.out)
    have HB72 : Hid (Blk w2 b7 220 (u8s (accL p sl 0)).toArray) := Lib.hid (hN2.blk HB7.out)
    clear hN2 hsc
    go_upto_region 6 with ((with_reducible refine atOp ⟨some 9, .alloc _, _, _, _, _⟩ ?_); refine wpList_newvar (s := sc) rfl rfl rfl _ _ rfl secInfo rfl rfl rfl HSO.out.1 ?_)
    obtain ⟨w3, hw3⟩ : ∃ w3 : World, w3 = w2.alloc (.cells (secA sc) 154) := ⟨_, rfl⟩
    obtain ⟨b9, hb9⟩ : ∃ b9, b9 = w2.heap.size := ⟨_, rfl⟩
    have HN3 : Hid (New w2 w3) := Lib.hid (by rw [hw3]; exact New.al (New.refl _) _)
    have HB9 : Hid (Blk w3 b9 154 (secA sc)) := Lib.hid (by rw [hw3, hb9]; exact Blk.new _ _ _)
    have HB53 : Hid (Blk w3 b5 63 rc0.cells) := Lib.hid (HN3.out.blk HB52.out)
    have HB73 : Hid (Blk w3 b7 220 (u8s (accL p sl 0)).toArray) := Lib.hid (HN3.out.blk HB72.out)
    have HNw3 : Hid (New w w3) := Lib.hid (HN2.out.tr HN3.out)
    rw [← hw3, ← hb9]
    clear hw3 hb9 HB52 HB72 HB5 HB7 HN
    go_upto_region 8 with fail
    have HRS : Hid (Rd (fun _ => True) w3 1 (some ⟨b9, 0, none⟩) 64 (u8s sc)) := Lib.hid (by
     have h := Rd.ofBlk (p := fun _ => True) HB9.out 1 64 (by rw [secA_size, HSO.out.1]) trivial
     rw [secA_list] at h
     exact h)
    have HSL : Hid ((u8s sc).length = 64) := Lib.hid (by rw [u8s_len, HSO.out.1])
    have HAL : Hid ((u8s (accL p sl 0)).length = 128) := Lib.hid (by rw [u8s_len, HA0.out]; simp [(HRG.out _).1])
    have HSP : Hid ((splice (u8s (accL p sl 0)) (0) (u8s sc)).toArray = secA (accL p sl (0 + 1))) := Lib.hid (by
     have hl := (HRG.out (m2 : Int)).1
     unfold splice secA
     rw [HSL.out, HSC.out]
     show _ = (u8s (accL p sl 1)).toArray
     rw [HA1.out, HA0.out]
     simp [u8s, hl])
    refine wp_region_mixH (fun _ => True) [(true, 0), (true, 1), (true, 2), (true, 3), (false, 4)] (by kernel_rfl) (by kernel_rfl) trivial (fun hne => ?_)
    iterate 4 (refine mix_take (o := ⟨_, _, _, _, _, _⟩) rfl (fun K hK => ?_); go_simp; refine hK _ ?_; clear hK K)
    refine mix_copyF (o := ⟨_, _, _, _, _, _⟩) (q := fun _ => True) rfl rfl (.tmp 35) (.tmp 36) 84 84 rfl 5 Tryz.underlying84 rfl b7 (0) (128) _ (some ⟨b9, 0, none⟩) 64 _ rfl rfl (u8s (accL p sl 0)) 220 ((New.dr (New.refl w3)).blk HB73.out) (u8s sc) (by rw [HSL.out]; rfl) ⟨64, u8s sc, (New.dr (New.refl w3)).rd HRS.out, List.take_length⟩ (by rw [HAL.out, HSL.out]; decide) (u8s_one _) ?_
    intro w4 hb4 hf4
    have hf4 := Fr.ofDrew hf4
    rw [HSP.out] at hb4
    have HB74 := Lib.hid hb4
    have HB54 : Hid (Blk w4 b5 63 rc0.cells) := Lib.hid (HB53.out.fr hf4 (by have := HZ.out; omega))
    have HN4 : Hid (New w w4) := Lib.hid (HNw3.out.fr hf4 (fun k hk => by have := HZ.out; omega))
    clear hb4 hf4
    refine ⟨fun _ => trivial, ?_⟩
    refine mix_done ?_
    go_wp2_with fail
    go_roundw
    case rel => exact ⟨0 + 1, Lib.hid (by omega), by go_num, HN4, HB54, HB74⟩
    case measure => simp [intOf]
  · have HSO : Hid (SecOk (p.rget (m3 : Int))) := Lib.hid (HRG.out _)
    go_wp2_with fail
    refine (read_all (HD.out.new HN.out) (m3 : Int)).mono ?_
    rintro e w2 ⟨rfl, hN2⟩
    rw [HRC.out.2, errD_0]
    obtain ⟨sc, hsc⟩ : ∃ sc, sc = p.rget (m3 : Int) := ⟨_, rfl⟩
    have HSC := Lib.hid hsc
    rw [← hsc] at HSO ⊢
    have HN2 : Hid (New w w2) := Lib.hid (HN.out.tr hN2)
    have HB52 : Hid (Blk w2 b5 63 rc0.cells) := Lib.hid (hN2.blk HB5.out)
    have HB72 : Hid (Blk w2 b7 220 (u8s (accL p sl 1)).toArray) := Lib.hid (hN2.blk HB7.out)
    clear hN2 hsc
    go_upto_region 6 with ((with_reducible refine atOp ⟨some 9, .alloc _, _, _, _, _⟩ ?_); refine wpList_newvar (s := sc) rfl rfl rfl _ _ rfl secInfo rfl rfl rfl HSO.out.1 ?_)
    obtain ⟨w3, hw3⟩ : ∃ w3 : World, w3 = w2.alloc (.cells (secA sc) 154) := ⟨_, rfl⟩
    obtain ⟨b9, hb9⟩ : ∃ b9, b9 = w2.heap.size := ⟨_, rfl⟩
    have HN3 : Hid (New w2 w3) := Lib.hid (by rw [hw3]; exact New.al (New.refl _) _)
    have HB9 : Hid (Blk w3 b9 154 (secA sc)) := Lib.hid (by rw [hw3, hb9]; exact Blk.new _ _ _)
    have HB53 : Hid (Blk w3 b5 63 rc0.cells) := Lib.hid (HN3.out.blk HB52.out)
    have HB73 : Hid (Blk w3 b7 220 (u8s (accL p sl 1)).toArray) := Lib.hid (HN3.out.blk HB72.out)
    have HNw3 : Hid (New w w3) := Lib.hid (HN2.out.tr HN3.out)
    rw [← hw3, ← hb9]
    clear hw3 hb9 HB52 HB72 HB5 HB7 HN
    go_upto_region 8 with fail
    have HRS : Hid (Rd (fun _ => True) w3 1 (some ⟨b9, 0, none⟩) 64 (u8s sc)) := Lib.hid (by
     have h := Rd.ofBlk (p := fun _ => True) HB9.out 1 64 (by rw [secA_size, HSO.out.1]) trivial
     rw [secA_list] at h
     exact h)
    have HSL : Hid ((u8s sc).length = 64) := Lib.hid (by rw [u8s_len, HSO.out.1])
    have HAL : Hid ((u8s (accL p sl 1)).length = 128) := Lib.hid (by rw [u8s_len, HA1.out]; simp [(HRG.out _).1])
    have HSP : Hid ((splice (u8s (accL p sl 1)) (64) (u8s sc)).toArray = secA (accL p sl (1 + 1))) := Lib.hid (by
     have hl := (HRG.out (m2 : Int)).1
     unfold splice secA
     rw [HSL.out, HSC.out]
     show _ = (u8s (accL p sl 2)).toArray
     rw [HA2.out.1, HA1.out]
     simp [u8s, hl])
    refine wp_region_mixH (fun _ => True) [(true, 0), (true, 1), (true, 2), (true, 3), (false, 4)] (by kernel_rfl) (by kernel_rfl) trivial (fun hne => ?_)
    iterate 4 (refine mix_take (o := ⟨_, _, _, _, _, _⟩) rfl (fun K hK => ?_); go_simp; refine hK _ ?_; clear hK K)
    refine mix_copyF (o := ⟨_, _, _, _, _, _⟩) (q := fun _ => True) rfl rfl (.tmp 35) (.tmp 36) 84 84 rfl 5 Tryz.underlying84 rfl b7 (64) (64) _ (some ⟨b9, 0, none⟩) 64 _ rfl rfl (u8s (accL p sl 1)) 220 ((New.dr (New.refl w3)).blk HB73.out) (u8s sc) (by rw [HSL.out]; rfl) ⟨64, u8s sc, (New.dr (New.refl w3)).rd HRS.out, List.take_length⟩ (by rw [HAL.out, HSL.out]; decide) (u8s_one _) ?_
    intro w4 hb4 hf4
    have hf4 := Fr.ofDrew hf4
    rw [HSP.out] at hb4
    have HB74 := Lib.hid hb4
    have HB54 : Hid (Blk w4 b5 63 rc0.cells) := Lib.hid (HB53.out.fr hf4 (by have := HZ.out; omega))
    have HN4 : Hid (New w w4) := Lib.hid (HNw3.out.fr hf4 (fun k hk => by have := HZ.out; omega))
    clear hb4 hf4
    refine ⟨fun _ => trivial, ?_⟩
    refine mix_done ?_
    go_wp2_with fail
    go_roundw
    case rel => exact ⟨1 + 1, Lib.hid (by omega), by go_num, HN4, HB54, HB74⟩
    case measure => simp [intOf]
  · obtain ⟨al, hal⟩ : ∃ al, al = slotB p sl := ⟨_, rfl⟩
    have HAL := Lib.hid hal
    have HAB : Hid (al.length = 128 ∧ Byt al) := Lib.hid (by rw [hal]; exact HBK.out)
    have HB7a : Hid (Blk wr b7 220 (secA al)) := Lib.hid (by rw [hal, ← HA2.out.2]; exact HB7.out)
    have HSO0 : Hid (SecOk (sec2 al 0)) := Lib.hid (sec2_ok HAB.out.1 HAB.out.2 (by omega))
    have HSO1 : Hid (SecOk (sec2 al 1)) := Lib.hid (sec2_ok HAB.out.1 HAB.out.2 (by omega))
    clear hal HB7
    go_wp2_with fail
    refine wp_region_mixH (fun _ => True) [(true, 0), (true, 2), (false, 1), (false, 3), (true, 4), (true, 5)] (by kernel_rfl) (by kernel_rfl) trivial (fun hne => ?_)
    iterate 2 (refine mix_take (o := ⟨_, _, _, _, _, _⟩) rfl (fun K hK => ?_); go_simp; refine hK _ ?_; clear hK K)
    refine mix_act (o := ⟨_, _, _, _, _, _⟩) rfl (fun K hK => ?_) (.inl rfl)
    go_simp
    refine (from_any (some ⟨b7, 0, none⟩) 64 _ (sec2 al 0) wr.drew ((New.dr (New.refl wr)).rd (rd_range (sec2_range (i := 0) HB7a.out) HB7a.out.lt (by rw [u8s_len, HSO0.out.1]))) HSO0.out.2 (by omega)).mono ?_
    rintro e w2 ⟨ga, rfl, hRa, hN2, hga⟩
    have HN2 : Hid (New wr w2) := Lib.hid ((New.dr (New.refl wr)).tr hN2)
    have HRA := Lib.hid hRa
    have HGA : Hid (wr.heap.size ≤ ga) := Lib.hid hga
    clear hRa hN2 hga
    go_simp
    refine hK.out _ _ (fun _ => trivial) ?_
    clear hK K
    refine mix_act (o := ⟨_, _, _, _, _, _⟩) rfl (fun K hK => ?_) (.inl rfl)
    go_simp
    refine (from_any (some ⟨b7, 64, none⟩) 64 _ (sec2 al 1) w2 (rd_range (sec2_range (i := 1) (HN2.out.blk HB7a.out)) (HN2.out.blk HB7a.out).lt (by rw [u8s_len, HSO1.out.1])) HSO1.out.2 (by omega)).mono ?_
    rintro e w3 ⟨gb, rfl, hRb, hN3, hgb⟩
    have HN3 : Hid (New wr w3) := Lib.hid (HN2.out.tr hN3)
    have HRA3 : Hid (RdIn w3 ga ⟨sec2 al 0, 0⟩) := Lib.hid (HRA.out.new hN3)
    have HRB := Lib.hid hRb
    have HGB : Hid (wr.heap.size ≤ ga ∧ ga < gb) := Lib.hid ⟨HGA.out, by have := HRA.out.lt; omega⟩
    clear hRb hN3 hgb HRA HGA
    go_simp
    refine hK.out _ _ (fun _ => trivial) ?_
    clear hK K
    iterate 2 (refine mix_take (o := ⟨_, _, _, _, _, _⟩) rfl (fun K hK => ?_); go_simp; refine hK _ ?_; clear hK K)
    refine mix_done ?_
    have HB73 : Hid (Blk w3 b7 220 (secA al)) := Lib.hid (HN3.out.blk HB7a.out)
    have HB53 : Hid (Blk w3 b5 63 rc0.cells) := Lib.hid (HN3.out.blk HB5.out)
    have HNw3 : Hid (New w w3) := Lib.hid (HN.out.tr HN3.out)
    have HBL : Hid (b5 ≠ ga ∧ b5 ≠ gb ∧ b7 ≠ ga ∧ b7 ≠ gb ∧ w.heap.size ≤ ga ∧ w.heap.size ≤ gb) := Lib.hid (by have h1 := HB5.out.lt; have h2 := HB7a.out.lt; have h3 := HGB.out; have h4 := HN.out.size; omega)
    clear HB7a HB5 HN HN2 HN3
    go_wp2_with fail
    refine (rnumAt (i := 0) (k := 0) HRA3.out HSO0.out (by omega)).mono ?_
    rintro e wa ⟨rfl, hR, hF⟩
    have HRAwa := Lib.hid hR
    have HFwa : Hid (Fr (fun b => b = ga) w3 wa) := Lib.hid (hF)
    clear hR hF
    go_wp2_with fail
    refine (rhashAt HRAwa.out HSO0.out (by omega)).mono ?_
    rintro e wb ⟨rfl, hR, hF⟩
    have HRAwb := Lib.hid hR
    have HFwb : Hid (Fr (fun b => b = ga) w3 wb) := Lib.hid (HFwa.out.trans hF)
    clear hR hF
    go_wp2_with fail
    refine (rnumAt HRAwb.out HSO0.out (by omega)).mono ?_
    rintro e wc ⟨rfl, hR, hF⟩
    have HRAwc := Lib.hid hR
    have HFwc : Hid (Fr (fun b => b = ga) w3 wc) := Lib.hid (HFwb.out.trans hF)
    clear hR hF
    go_wp2_with fail
    refine (rnumAt HRAwc.out HSO0.out (by omega)).mono ?_
    rintro e wd ⟨rfl, hR, hF⟩
    have HRAwd := Lib.hid hR
    have HFwd : Hid (Fr (fun b => b = ga) w3 wd) := Lib.hid (HFwc.out.trans hF)
    clear hR hF
    go_wp2_with fail
    refine (rnumAt HRAwd.out HSO0.out (by omega)).mono ?_
    rintro e we ⟨rfl, hR, hF⟩
    have HRAwe := Lib.hid hR
    have HFwe : Hid (Fr (fun b => b = ga) w3 we) := Lib.hid (HFwd.out.trans hF)
    clear hR hF
    have HTA : Hid (¬ IsT 5 w3 ga) := Lib.hid (by obtain ⟨A, c, hb, _⟩ := HRA3.out.st; exact IsT.not_blk hb (by decide))
    have HC32 : Hid ((cutL al 8 32).length = 32) := Lib.hid (cutL_len (by rw [HAB.out.1]; omega))
    obtain ⟨r1, hr1⟩ : ∃ r1 : Rc, r1 = ⟨cutL al 8 32, valL (cutL al 40 8), valL (cutL al 48 8), valL (cutL al 56 8), 0, 0⟩ := ⟨_, rfl⟩
    have HR1 := Lib.hid hr1
    have HBU : Hid (Tryz.prog.built 63 [(0, .agg (secA (cutL al 8 32))), (1, .int .u64 (valL (cutL al 40 8) : Nat)), (2, .int .u64 (valL (cutL al 48 8) : Nat)), (3, .int .u64 (valL (cutL al 56 8) : Nat))] = some r1.cells) := Lib.hid (by rw [hr1]; exact built_rec _ HC32.out _ _ _)
    have HR1L : Hid (r1.cells.size = 37 ∧ r1.root.length = 32) := Lib.hid (by rw [hr1]; exact ⟨Rc.size HC32.out, HC32.out⟩)
    clear hr1
    go_wp2_with (first
     | ((with_reducible refine atOp ⟨some 53, .build _ _, _, _, _, _⟩ ?_); refine wpList_built rfl _ [(0, .tmp 46), (1, .tmp 48), (2, .tmp 50), (3, .tmp 52)] rfl _ rfl _ HBU.out ?_)
     | ((with_reducible refine atOp ⟨some 14, .alloc _, _, _, _, _⟩ ?_); refine wpList_newrow rfl rfl rfl _ _ rfl recInfo (by rfl) rfl rfl HR1L.out.1 (Rc.one _) ?_))
    obtain ⟨w6, hw6⟩ : ∃ w6 : World, w6 = we.alloc (.cells r1.cells 63) := ⟨_, rfl⟩
    obtain ⟨b14, hb14⟩ : ∃ b14, b14 = we.heap.size := ⟨_, rfl⟩
    have HN6 : Hid (New we w6) := Lib.hid (by rw [hw6]; exact New.al (New.refl _) _)
    have HB14 : Hid (Blk w6 b14 63 r1.cells) := Lib.hid (by rw [hw6, hb14]; exact Blk.new _ _ _)
    have HL14 : Hid (b14 ≠ b5 ∧ b14 ≠ b7 ∧ b14 ≠ gb ∧ w.heap.size ≤ b14) := Lib.hid (by have h1 := HFwe.out.size; have h2 := HB53.out.lt; have h3 := HB73.out.lt; have h4 := HRB.out.lt; have h5 := HNw3.out.size; omega)
    have HB76 : Hid (Blk w6 b7 220 (secA al)) := Lib.hid (HN6.out.blk (HB73.out.fr HFwe.out (by have := HBL.out; omega)))
    have HB56 : Hid (Blk w6 b5 63 rc0.cells) := Lib.hid (HN6.out.blk (HB53.out.fr HFwe.out (by have := HBL.out; omega)))
    have HNw6 : Hid (New w w6) := Lib.hid ((HNw3.out.fr HFwe.out (fun k hk => by have := HBL.out; omega)).tr HN6.out)
    have HRB6 : Hid (RdIn w6 gb ⟨(sec2 al 1).drop 0, 0⟩) := Lib.hid ((HRB.out.fr HFwe.out (by have := HGB.out; omega) (fun k hk => hk ▸ HTA.out)).new HN6.out)
    rw [← hw6, ← hb14]
    clear hw6 hb14 HRAwa HRAwb HRAwc HRAwd HRAwe HFwa HFwb HFwc HFwd HFwe HB73 HB53 HNw3 HRB HRA3 HBU
    refine (rnumAt (k := 1) (i := 0) HRB6.out HSO1.out (by omega)).mono ?_
    rintro e wf ⟨rfl, hR, hF⟩
    have HRBwf := Lib.hid hR
    have HGwf : Hid (Fr (fun b => b = gb) w6 wf) := Lib.hid (hF)
    clear hR hF
    go_wp2_with fail
    refine (rnumAt HRBwf.out HSO1.out (by omega)).mono ?_
    rintro e wg ⟨rfl, hR, hF⟩
    have HRBwg := Lib.hid hR
    have HGwg : Hid (Fr (fun b => b = gb) w6 wg) := Lib.hid (HGwf.out.trans hF)
    clear hR hF
    go_wp2_with fail
    refine (rnumAt HRBwg.out HSO1.out (by omega)).mono ?_
    rintro e wh ⟨rfl, hR, hF⟩
    have HRBwh := Lib.hid hR
    have HGwh : Hid (Fr (fun b => b = gb) w6 wh) := Lib.hid (HGwg.out.trans hF)
    clear hR hF
    have HB14h : Hid (Blk wh b14 63 r1.cells) := Lib.hid (HB14.out.fr HGwh.out (by have := HL14.out; omega))
    have f35 := HB14h.out.frozen 35
    have f36 := HB14h.out.frozen 36
    have k35 : wh.cell? ⟨b14, 35, none⟩ = some (.int .u64 r1.limit) := by rw [HB14h.out.cell]; exact Rc.at HR1L.out.2 3
    have k36 : wh.cell? ⟨b14, 36, none⟩ = some (.int .u64 r1.session) := by rw [HB14h.out.cell]; exact Rc.at HR1L.out.2 4
    go_upto_region 15 with fail
    clear f35 f36 k35 k36
    obtain ⟨wi, hwi⟩ : ∃ wi : World, wi = (wh.setCell ⟨b14, 35, none⟩ (.int .u64 (valL (cutL al 72 8) : Nat))).setCell ⟨b14, 36, none⟩ (.int .u64 (valL (cutL al 80 8) : Nat)) := ⟨_, rfl⟩
    have hFi : Fr (fun b => b = b14) wh wi := by rw [hwi]; exact ((Fr.refl (fun b => b = b14) wh).setCell (p := ⟨b14, 35, none⟩) (fun _ => rfl) _).setCell (p := ⟨b14, 36, none⟩) (fun _ => rfl) _
    have HB14i : Hid (Blk wi b14 63 (rcOf al).cells) := Lib.hid (by
     have h2 := (HB14h.out.set 35 (.int .u64 (valL (cutL al 72 8) : Nat))).set 36 (.int .u64 (valL (cutL al 80 8) : Nat))
     rw [← hwi, HR1.out] at h2
     have e : ((Rc.cells ⟨cutL al 8 32, valL (cutL al 40 8), valL (cutL al 48 8), valL (cutL al 56 8), 0, 0⟩).setIfInBounds 35 (.int .u64 (valL (cutL al 72 8) : Nat))).setIfInBounds 36 (.int .u64 (valL (cutL al 80 8) : Nat)) = (rcOf al).cells := by
      unfold rcOf Rc.cells
      rw [List.setIfInBounds_toArray, List.setIfInBounds_toArray, List.set_append_right _ _ (by rw [u8s_len, HC32.out]; omega), List.set_append_right _ _ (by rw [u8s_len, HC32.out]; omega), u8s_len, HC32.out]
      rfl
     rw [e] at h2
     exact h2)
    have HB7i : Hid (Blk wi b7 220 (secA al)) := Lib.hid ((HB76.out.fr HGwh.out (by have := HBL.out; omega)).fr hFi (by have := HL14.out; omega))
    have HB5i : Hid (Blk wi b5 63 rc0.cells) := Lib.hid ((HB56.out.fr HGwh.out (by have := HBL.out; omega)).fr hFi (by have := HL14.out; omega))
    have HNi : Hid (New w wi) := Lib.hid ((HNw6.out.fr HGwh.out (fun k hk => by have := HBL.out; omega)).fr hFi (fun k hk => by have := HL14.out; omega))
    rw [← hwi]
    clear hwi hFi HB14 HB76 HB56 HNw6 HRB6 HRBwf HRBwg HRBwh HGwf HGwg HGwh HB14h
    have HROK : Hid (rcOf al).Ok := Lib.hid (rcOf_ok HAB.out.2 HAB.out.1)
    have HNLT : Hid (valL (cutL al 0 8) < 18446744073709551616) := Lib.hid (numOf_lt HAB.out.2 HAB.out.1)
    have HRZ : Hid ((rcOf al).cells.size = 37) := Lib.hid (Rc.size HROK.out.len)
    go_wp2_with ((with_reducible refine atOp ⟨some 64, .load _ _, _, _, _, _⟩ ?_); refine wpList_load_any rfl _ rfl Tryz.underlying63 rfl (by rw [HRZ.out]; rfl) rfl HB14i.out ?_)
    refine (put_any_l27 _ (rcOf al) wi (HL.out.new HNi.out) HROK.out HNLT.out).mono ?_
    rintro e wj ⟨rfl, hNj⟩
    obtain ⟨nn, hnn⟩ : ∃ nn, nn = valL (cutL al 0 8) := ⟨_, rfl⟩
    have HNN : Hid (nn = numOf al) := Lib.hid hnn
    rw [← hnn] at HNLT ⊢
    obtain ⟨PL, hPL⟩ : ∃ PL, PL = putL nn (rcOf al) := ⟨_, rfl⟩
    have HPL := Lib.hid hPL
    have HPLB : Hid (PL.length = 128 ∧ Byt PL) := Lib.hid (by rw [hPL]; exact ⟨putL_len HROK.out.len, putL_byt HROK.out.byt⟩)
    rw [← hPL]
    have HNj : Hid (New wi wj) := Lib.hid hNj
    clear hNj hnn hPL
    go_upto_region 16 with ((with_reducible refine atOp ⟨some 15, .alloc _, _, _, _, _⟩ ?_); refine wpList_newvar (s := PL) rfl rfl rfl _ _ rfl pairInfo rfl rfl rfl HPLB.out.1 ?_)
    obtain ⟨wk, hwk⟩ : ∃ wk : World, wk = wj.alloc (.cells (secA PL) 220) := ⟨_, rfl⟩
    obtain ⟨b15, hb15⟩ : ∃ b15, b15 = wj.heap.size := ⟨_, rfl⟩
    have HB15 : Hid (Blk wk b15 220 (secA PL)) := Lib.hid (by rw [hwk, hb15]; exact Blk.new _ _ _)
    have HNk : Hid (New wi wk) := Lib.hid (HNj.out.tr (by rw [hwk]; exact New.al (New.refl _) _))
    have HB7k : Hid (Blk wk b7 220 (secA al)) := Lib.hid (HNk.out.blk HB7i.out)
    have HB5k : Hid (Blk wk b5 63 rc0.cells) := Lib.hid (HNk.out.blk HB5i.out)
    have HB14k : Hid (Blk wk b14 63 (rcOf al).cells) := Lib.hid (HNk.out.blk HB14i.out)
    have HNwk : Hid (New w wk) := Lib.hid (HNi.out.tr HNk.out)
    rw [← hwk, ← hb15]
    clear hwk hb15 HB7i HB5i HB14i HNj HNi HNk
    have HPZ : Hid ((secA PL).size = 128 ∧ (secA al).size = 128) := Lib.hid (by rw [secA_size, secA_size, HPLB.out.1, HAB.out.1]; exact ⟨rfl, rfl⟩)
    obtain ⟨nm, hnm⟩ : ∃ nm, nm = nn % 2 := ⟨_, rfl⟩
    have HNM := Lib.hid hnm
    have t0 : (nn : Int).tmod 2 = (nm : Int) := by rw [Int.tmod_eq_emod_of_nonneg (by omega)]; omega
    have t1 : IntKind.u64.wrap (sl : Int) = (sl : Int) := by rw [IntKind.wrap_u64]; have := HS.out; omega
    have HSL2 : Hid (sl < 2 ∧ nm < 2) := Lib.hid ⟨HS.out.1, by omega⟩
    clear hnm
    have HNEQ : Hid (∀ W, (binOp .neq 220 (.agg (secA PL)) (.agg (secA al))).run Tryz.prog W = .ok (.bool (!decide (PL = al))) W) := Lib.hid fun W => run_neq_sec (P := Tryz.prog) Tryz.underlying220 Tryz.underlying5 (fun w => (by first | exact Tryz.sizeOf5 w | kernel_rfl)) HPLB.out.1 HAB.out.1 HPLB.out.2 HAB.out.2 W
    by_cases hp : PL = al
    · have hneq : ∀ W, (binOp .neq 220 (.agg (secA PL)) (.agg (secA al))).run Tryz.prog W = .ok (.bool false) W := fun W => by
       have h := HNEQ.out W
       rwa [decide_eq_true hp] at h
      by_cases hm : nm = sl
      · have hmq : ((nm : Int) != (sl : Int)) = false := by rw [hm]; simp
        have HM' : Hid (PL = al ∧ nm = sl) := Lib.hid ⟨hp, hm⟩
        clear hp hm
        go_wp2_with (first
         | ((with_reducible refine atOp ⟨some 71, .load _ _, _, _, _, _⟩ ?_); refine wpList_load_any rfl _ rfl Tryz.underlying220 rfl (by rw [HPZ.out.1]; rfl) rfl HB15.out ?_)
         | ((with_reducible refine atOp ⟨some 72, .load _ _, _, _, _, _⟩ ?_); refine wpList_load_any rfl _ rfl Tryz.underlying220 rfl (by rw [HPZ.out.2]; rfl) rfl HB7k.out ?_)
         | ((with_reducible refine atOp ⟨some 83, .load _ _, _, _, _, _⟩ ?_); refine wpList_load_any rfl _ rfl Tryz.underlying63 rfl (by rw [HRZ.out]; rfl) rfl HB14k.out ?_))
        refine (right_any_l27 (rcOf al) wk HROK.out).mono ?_
        rintro e wl ⟨rfl, hNl⟩
        have HB5l : Hid (Blk wl b5 63 rc0.cells) := Lib.hid (hNl.blk HB5k.out)
        have HB14l : Hid (Blk wl b14 63 (rcOf al).cells) := Lib.hid (hNl.blk HB14k.out)
        have HNwl : Hid (New w wl) := Lib.hid (HNwk.out.tr hNl)
        clear hNl
        by_cases hr : (rcOf al).Right
        · rw [decide_eq_true hr]
          have HYES : Hid (getN sl (slotB p sl) = nn ∧ getR sl (slotB p sl) = rcOf al) := Lib.hid (by
           have hy : RecIn sl (slotB p sl) := by
            rw [← HAL.out]
            exact ⟨by rw [← HNN.out, ← HPL.out]; exact HM'.out.1, by rw [← HNN.out, ← HNM.out]; exact HM'.out.2, hr⟩
           unfold getN getR
           rw [if_pos hy, if_pos hy, ← HAL.out, HNN.out]
           exact ⟨rfl, rfl⟩)
          clear hr
          go_upto_region 18 with fail
          refine wp_region_mixH (fun w' => Blk w' b14 63 (rcOf al).cells) [(true, 0), (true, 1), (true, 2), (false, 3), (true, 4)] (by kernel_rfl) (by kernel_rfl) ((New.dr (New.refl wl)).blk HB14l.out) (fun hne => ?_)
          iterate 1 (refine mix_take (o := ⟨_, _, _, _, _, _⟩) rfl (fun K hK => ?_); go_simp; refine hK _ ?_; clear hK K)
          refine mix_take_row (o := ⟨_, _, _, _, _, _⟩) (cs := (rcOf al).cells.toList) rfl rfl _ rfl rfl (fun w' h => Blk.rangeOf h) Tryz.underlying63 rfl (by rw [Array.length_toList, HRZ.out]; rfl) ?_
          iterate 1 (refine mix_take (o := ⟨_, _, _, _, _, _⟩) rfl (fun K hK => ?_); go_simp; refine hK _ ?_; clear hK K)
          refine mix_store (o := ⟨_, _, _, _, _, _⟩) (cs := (rcOf al).cells) rfl rfl (.tmp 5) (.tmp 89) rfl (by rw [HRZ.out]; rfl) rfl rfl ((New.dr (New.refl wl)).blk HB5l.out) (by rw [HRZ.out]; rfl) (Rc.one _) ?_
          intro wz hbz hfz
          have HBz := Lib.hid hbz
          have HFz := Lib.hid (Fr.ofDrew hfz)
          have HB14z : Hid (Blk wz b14 63 (rcOf al).cells) := Lib.hid (HB14l.out.fr (Fr.ofDrew hfz) (by have := HL14.out; omega))
          clear hbz hfz
          refine ⟨fun _ => HB14z.out, ?_⟩
          iterate 1 (refine mix_take (o := ⟨_, _, _, _, _, _⟩) rfl (fun K hK => ?_); go_simp; refine hK _ ?_; clear hK K)
          refine mix_done ?_
          go_wp2_with fail
          exact bodyPost_ret (res3 rfl _ _ b5 _ rfl HBz.out HRZ.out) rfl ⟨by rw [HYES.out.1, HYES.out.2]; rfl, HNwl.out.fr HFz.out (fun k hk => by have := HZ.out; omega)⟩
        · rw [decide_eq_false hr]
          have HNO : Hid (getN sl (slotB p sl) = 0 ∧ getR sl (slotB p sl) = rc0) := Lib.hid (by
           have hno : ¬ RecIn sl (slotB p sl) := fun h => hr (by rw [HAL.out]; exact h.2.2)
           unfold getN getR
           rw [if_neg hno, if_neg hno]
           exact ⟨rfl, rfl⟩)
          clear hr
          go_wp2_with ((with_reducible refine atOp ⟨none, .store 63 (.tmp 5) _, _, _, _, _⟩ ?_); rw [zero37]; refine wpList_store_any rfl (.tmp 5) (.tmp 87) rfl (by rfl) rfl rfl HB5l.out rfl (Rc.one _) ?_; intro wz hbz hfz; have HBz := Lib.hid hbz; have HFz := Lib.hid hfz; clear hbz hfz)
          exact bodyPost_ret (res3 rfl _ _ b5 _ rfl HBz.out (by rfl)) rfl ⟨by rw [HNO.out.1, HNO.out.2]; rfl, HNwl.out.fr HFz.out (fun k hk => by have := HZ.out; omega)⟩
      · have HNO : Hid (getN sl (slotB p sl) = 0 ∧ getR sl (slotB p sl) = rc0) := Lib.hid (by
         have hno : ¬ RecIn sl (slotB p sl) := fun h => hm (by rw [HNM.out, HNN.out, HAL.out]; exact h.2.1)
         unfold getN getR
         rw [if_neg hno, if_neg hno]
         exact ⟨rfl, rfl⟩)
        have hmq : ((nm : Int) != (sl : Int)) = true := by rw [bne_iff_ne]; omega
        clear hp hm
        go_wp2_with (first
         | ((with_reducible refine atOp ⟨some 71, .load _ _, _, _, _, _⟩ ?_); refine wpList_load_any rfl _ rfl Tryz.underlying220 rfl (by rw [HPZ.out.1]; rfl) rfl HB15.out ?_)
         | ((with_reducible refine atOp ⟨some 72, .load _ _, _, _, _, _⟩ ?_); refine wpList_load_any rfl _ rfl Tryz.underlying220 rfl (by rw [HPZ.out.2]; rfl) rfl HB7k.out ?_)
         | ((with_reducible refine atOp ⟨none, .store 63 (.tmp 5) _, _, _, _, _⟩ ?_); rw [zero37]; refine wpList_store_any rfl (.tmp 5) (.tmp 87) rfl (by rfl) rfl rfl HB5k.out rfl (Rc.one _) ?_; intro wz hbz hfz; have HBz := Lib.hid hbz; have HFz := Lib.hid hfz; clear hbz hfz))
        exact bodyPost_ret (res3 rfl _ _ b5 _ rfl HBz.out (by rfl)) rfl ⟨by rw [HNO.out.1, HNO.out.2]; rfl, HNwk.out.fr HFz.out (fun k hk => by have := HZ.out; omega)⟩
    · have HNO : Hid (getN sl (slotB p sl) = 0 ∧ getR sl (slotB p sl) = rc0) := Lib.hid (by
       have hno : ¬ RecIn sl (slotB p sl) := fun h => hp (by rw [HPL.out, HNN.out, HAL.out]; exact h.1)
       unfold getN getR
       rw [if_neg hno, if_neg hno]
       exact ⟨rfl, rfl⟩)
      have hneq : ∀ W, (binOp .neq 220 (.agg (secA PL)) (.agg (secA al))).run Tryz.prog W = .ok (.bool true) W := fun W => by
       have h := HNEQ.out W
       rwa [decide_eq_false hp] at h
      clear hp
      go_wp2_with (first
       | ((with_reducible refine atOp ⟨some 71, .load _ _, _, _, _, _⟩ ?_); refine wpList_load_any rfl _ rfl Tryz.underlying220 rfl (by rw [HPZ.out.1]; rfl) rfl HB15.out ?_)
       | ((with_reducible refine atOp ⟨some 72, .load _ _, _, _, _, _⟩ ?_); refine wpList_load_any rfl _ rfl Tryz.underlying220 rfl (by rw [HPZ.out.2]; rfl) rfl HB7k.out ?_)
       | ((with_reducible refine atOp ⟨none, .store 63 (.tmp 5) _, _, _, _, _⟩ ?_); rw [zero37]; refine wpList_store_any rfl (.tmp 5) (.tmp 87) rfl (by rfl) rfl rfl HB5k.out rfl (Rc.one _) ?_; intro wz hbz hfz; have HBz := Lib.hid hbz; have HFz := Lib.hid hfz; clear hbz hfz))
      exact bodyPost_ret (res3 rfl _ _ b5 _ rfl HBz.out (by rfl)) rfl ⟨by rw [HNO.out.1, HNO.out.2]; rfl, HNwk.out.fr HFz.out (fun k hk => by have := HZ.out; omega)⟩
end Go.Proofs.YtmibndkofoldkaaGreatDoor
namespace Go.Proofs.YtmibndkofoldkaaGreatDoor
set_option linter.unusedVariables false
set_option linter.unusedSimpArgs false
set_option linter.constructorNameAsVariable false
open Go.RowKit Go.Sort
theorem zero40 (gd : Nat) : (#[.pointer (some ⟨gd, 0, none⟩), .int .u64 0, .int .u8 0, .int .u8 0, .int .u8 0, .int .u8 0, .int .u8 0, .int .u8 0, .int .u8 0, .int .u8 0, .int .u8 0, .int .u8 0, .int .u8 0, .int .u8 0, .int .u8 0, .int .u8 0, .int .u8 0, .int .u8 0, .int .u8 0, .int .u8 0, .int .u8 0, .int .u8 0, .int .u8 0, .int .u8 0, .int .u8 0, .int .u8 0, .int .u8 0, .int .u8 0, .int .u8 0, .int .u8 0, .int .u8 0, .int .u8 0, .int .u8 0, .int .u8 0, .int .u64 0, .int .u64 0, .int .u64 0, .int .u64 0, .int .u64 0, .bool false] : Array Value) = (kpA KR.new gd).toArray := by rfl
theorem mix_store_part_l27 {P : Program} {ops : Array Oper} {Q : Exit → Act → World → Prop} {S : World → Prop} {last i : Nat} {w : World} {o : Oper} {sc : List (Bool × Nat)} {a : Act} {g off : Nat} {T ty : TypeId} {cur cells : List Value} (hop : ops[i]? = some o) (hw : Region.wanted o (yielded ops a.tmps) = true) (x y : Operand) (ho : o.op = .store ty x y) (hx : a.eval x = .pointer (some ⟨g, off, none⟩)) (hy : a.eval y = .agg cells.toArray)
    (hg : Blk w g T cur.toArray) (hl : off + cells.length ≤ cur.length) (hi : (P.info? ty).map (·.size) = some cells.length) (h1 : ∀ v ∈ cells, v.oneCell' = true)
    (h : ∀ w', Blk w' g T (splice cur off cells).toArray → Fr (fun k => k = g) w w' → (i ≠ last → S w') ∧ wpMix P ops S last Q sc (a.put o.dst undef) w') : wpMix P ops S last Q ((false, i) :: sc) a w := by
 refine ⟨o, hop, ?_⟩
 rw [if_pos hw]
 obtain ⟨w', hrun, r1, r2⟩ := run_store_part (P := P) hg hl hi h1
 unfold Oper.wp execOp
 simp only [ho, hx, hy, Sem.run_bind, hrun, Result.andThen_ok, Sem.run_pure]
 exact h w' r1 r2
theorem run_store_int {P : Program} {w : World} {g off : Nat} {T ty : TypeId} {k : IntKind} {n : Int} {cur : List Value} (hg : Blk w g T cur.toArray) (hl : off < cur.length) (hi : (P.info? ty).map (·.size) = some 1) :
    ∃ w', (Instr.storeAt ty (.pointer (some ⟨g, off, none⟩)) (.int k n)).run P w = .ok () w' ∧ Blk w' g T (cur.set off (.int k n)).toArray ∧ Fr (fun k => k = g) w w' := by
 have hc : w.cell? ⟨g, off, none⟩ = some cur[off] := by rw [hg.cell off]; simp [hl]
 have hf := hg.frozen off
 have hb := hg.set off (.int k n)
 rw [List.setIfInBounds_toArray] at hb
 refine ⟨w.setCell ⟨g, off, none⟩ (.int k n), ?_, hb, (Fr.refl (fun k => k = g) w).setCell (p := ⟨g, off, none⟩) (fun _ => rfl) _⟩
 cases hq : P.info? ty with
 | none => simp [hq] at hi
 | some i =>
  have hz : i.size = 1 := by simpa [hq] using hi
  simp [Instr.storeAt, Instr.sureAddr, storeVar, sizeOf, typeInfo, hq, Value.cells, hz, hc, hf, go_sem]
theorem mix_store_int {P : Program} {ops : Array Oper} {Q : Exit → Act → World → Prop} {S : World → Prop} {last i : Nat} {w : World} {o : Oper} {sc : List (Bool × Nat)} {a : Act} {g off : Nat} {T ty : TypeId} {k : IntKind} {n : Int} {cur : List Value} (hop : ops[i]? = some o) (hw : Region.wanted o (yielded ops a.tmps) = true) (x y : Operand) (ho : o.op = .store ty x y) (hx : a.eval x = .pointer (some ⟨g, off, none⟩)) (hy : a.eval y = .int k n)
    (hg : Blk w g T cur.toArray) (hl : off < cur.length) (hi : (P.info? ty).map (·.size) = some 1)
    (h : ∀ w', Blk w' g T (cur.set off (.int k n)).toArray → Fr (fun k => k = g) w w' → (i ≠ last → S w') ∧ wpMix P ops S last Q sc (a.put o.dst undef) w') : wpMix P ops S last Q ((false, i) :: sc) a w := by
 refine ⟨o, hop, ?_⟩
 rw [if_pos hw]
 obtain ⟨w', hrun, r1, r2⟩ := run_store_int (P := P) (k := k) (n := n) hg hl hi
 unfold Oper.wp execOp
 simp only [ho, hx, hy, Sem.run_bind, hrun, Result.andThen_ok, Sem.run_pure]
 exact h w' r1 r2
set_option maxHeartbeats 1000000
set_option maxRecDepth 100000
theorem kopen_nil (w : World) : Calls Tryz.prog 54 #[.pointer none] w fun e w' => e = .returned (.tuple #[.pointer none, errD 11]) ∧ w = w' := by
 go_enter Tryz.func54, Tryz.ntmps54
 go_wp2_with fail
 go_ret2
 exact ⟨rfl, rfl⟩
theorem kopen_small {w : World} {gd base bs bf : Nat} {v : Value} {p : DP} (hD : Dk w base gd bs bf v p) (hp : p.size < 4) : Calls Tryz.prog 54 #[.pointer (some ⟨gd, 0, none⟩)] w fun e w' => e = .returned (.tuple #[.pointer none, errD 1]) ∧ w = w' := by
 have HD := Lib.hid hD
 have hlt : (p.size : Int) < 4 := by omega
 clear hD hp
 go_enter Tryz.func54, Tryz.ntmps54
 go_wp2_with fail
 refine (len_in HD.out).mono ?_
 rintro e w1 ⟨rfl, rfl⟩
 go_wp2_with fail
 go_ret2
 exact ⟨rfl, rfl⟩
def upK (p : DP) (j : Nat) : KR := if j = 0 then KR.new else if j = 1 then takeK KR.new (getN 0 (slotB p 0)) (getR 0 (slotB p 0)) else openP p
theorem upK_0 (p : DP) : upK p 0 = KR.new := by unfold upK; rw [if_pos rfl]
theorem upK_1 (p : DP) : upK p 1 = takeK KR.new (getN 0 (slotB p 0)) (getR 0 (slotB p 0)) := by unfold upK; rw [if_neg (by decide), if_pos rfl]
theorem upK_2 (p : DP) : upK p 2 = openP p := by unfold upK; rw [if_neg (by decide), if_neg (by decide)]
theorem upK_step (p : DP) {j : Nat} (h : j < 2) : upK p (j + 1) = takeK (upK p j) (getN j (slotB p j)) (getR j (slotB p j)) := by
 rcases (show j = 0 ∨ j = 1 by omega) with rfl | rfl
 · rw [upK_0]; exact upK_1 p
 · rw [upK_1]; exact (upK_2 p).trans (by unfold openP; with_reducible rfl)
theorem kopen_in {w : World} {gd base bs bf : Nat} {v : Value} {p : DP} (hD : Dk w base gd bs bf v p) (hL : ShaIn 3 1 w) (hp : 4 ≤ p.size) :
    Calls Tryz.prog 54 #[.pointer (some ⟨gd, 0, none⟩)] w fun e w' => ∃ b, e = .returned (.tuple #[.pointer (some ⟨b, 0, none⟩), .nilIface]) ∧ Kp w' b gd (openP p) ∧ New w w' ∧ w.heap.size ≤ b := by
 have HD := Lib.hid hD
 have HL := Lib.hid hL
 have HP := Lib.hid hp
 have hge : ¬ ((p.size : Int) < 4) := by omega
 clear hD hL hp
 go_enter Tryz.func54, Tryz.ntmps54
 go_wp2_with fail
 refine (len_in HD.out).mono ?_
 rintro e w1 ⟨rfl, rfl⟩
 go_upto_region 6 with fail
 obtain ⟨w1, hw1⟩ : ∃ w1 : World, w1 = w.alloc (.cells #[.pointer (some ⟨gd, 0, none⟩), .int .u64 0, .int .u8 0, .int .u8 0, .int .u8 0, .int .u8 0, .int .u8 0, .int .u8 0, .int .u8 0, .int .u8 0, .int .u8 0, .int .u8 0, .int .u8 0, .int .u8 0, .int .u8 0, .int .u8 0, .int .u8 0, .int .u8 0, .int .u8 0, .int .u8 0, .int .u8 0, .int .u8 0, .int .u8 0, .int .u8 0, .int .u8 0, .int .u8 0, .int .u8 0, .int .u8 0, .int .u8 0, .int .u8 0, .int .u8 0, .int .u8 0, .int .u8 0, .int .u8 0, .int .u64 0, .int .u64 0, .int .u64 0, .int .u64 0, .int .u64 0, .bool false] 214) := ⟨_, rfl⟩
 obtain ⟨bk, hbk⟩ : ∃ bk, bk = w.heap.size := ⟨_, rfl⟩
 have HN1 : Hid (New w w1) := Lib.hid (by rw [hw1]; exact New.al (New.refl _) _)
 have HK1 : Hid (Kp w1 bk gd (upK p 0)) := Lib.hid (by rw [upK_0]; exact ⟨by rw [hw1, hbk, zero40]; exact Blk.new _ _ _, KR.new_ok⟩)
 have HZ : Hid (bk = w.heap.size) := Lib.hid hbk
 rw [← hw1, ← hbk]
 clear hw1 hbk hge
 go_wp2_with fail
 go_loopw [21] (fun i wr => ∃ (j : Nat), Hid (j ≤ 2) ∧ i = .int .i64 (j : Int) ∧ Hid (New w wr) ∧ Hid (Kp wr bk gd (upK p j))) (fun i _ => 2 - (intOf i).toNat)
 case atStart => exact ⟨0, Lib.hid (by omega), rfl, HN1, HK1⟩
 case round =>
  clear HK1 HN1
  obtain ⟨j, HJ, rfl, HN, HK⟩ := hrel
  by_cases hj : j < 2
  · have hlt : (j : Int) < 2 := by omega
    have HJ2 := Lib.hid hj
    have e1 : IntKind.i64.wrap ((j : Int) + 1) = (j : Int) + 1 := IntWalk.i64_in _ (by omega)
    clear hj
    go_wp2_with fail
    refine (rget_any_l27 (HD.out.new HN.out) (HL.out.new HN.out) j HJ2.out HP.out).mono ?_
    rintro e w2 ⟨rfl, hN2⟩
    obtain ⟨n, hn⟩ : ∃ n, n = getN j (slotB p j) := ⟨_, rfl⟩
    obtain ⟨R, hR⟩ : ∃ R, R = getR j (slotB p j) := ⟨_, rfl⟩
    have HNR : Hid (upK p (j + 1) = takeK (upK p j) n R ∧ R.Ok ∧ n < 18446744073709551616) := Lib.hid (by
     have hs := slotB_ok HD.out.ok j
     rw [hn, hR]
     exact ⟨upK_step p HJ2.out, getR_ok j hs.2 hs.1, getN_lt j hs.2 hs.1⟩)
    rw [← hn, ← hR]
    obtain ⟨k, hk⟩ : ∃ k, k = upK p j := ⟨_, rfl⟩
    rw [← hk] at HNR HK
    have HK2 : Hid (Kp w2 bk gd k) := Lib.hid (HK.out.new hN2)
    have HN2 : Hid (New w w2) := Lib.hid (HN.out.tr hN2)
    have HSZ : Hid (R.cells.size = 37) := Lib.hid (Rc.size HNR.out.2.1.len)
    obtain ⟨RC, hRC⟩ : ∃ RC, RC = R.cells := ⟨_, rfl⟩
    have HRC := Lib.hid hRC
    rw [← hRC] at HSZ ⊢
    have HONE : Hid (RC.all (·.oneCell') = true) := Lib.hid (by rw [hRC]; exact Rc.one R)
    clear hn hR hN2 hk hRC HK HN
    go_upto_region 12 with (first
     | ((with_reducible refine atOp ⟨some 7, .alloc _, _, _, _, _⟩ ?_); refine wpList_alloc_row rfl rfl recInfo ?_; intro b7 w3 hb7 hB7 hN3; have HB7 := Lib.hid hB7; have HN3 := Lib.hid hN3; have HZ7 := Lib.hid hb7; clear hb7 hB7 hN3)
     | ((with_reducible refine atOp ⟨none, .store 63 (.tmp 7) _, _, _, _, _⟩ ?_); refine wpList_store_any rfl (.tmp 7) (.tmp 29) rfl (by rw [HSZ.out]; rfl) rfl rfl HB7.out (by rw [HSZ.out]; rfl) HONE.out ?_; intro w4 hb4 hf4; have HB74 := Lib.hid hb4; have HF4 := Lib.hid hf4; clear hb4 hf4))
    have HNE : Hid (b7 ≠ bk) := Lib.hid (by have h1 := HK2.out.blk.lt; have h2 := HZ7.out; omega)
    have HK4 : Hid (Kp w4 bk gd k) := Lib.hid ((HK2.out.new HN3.out).fr HF4.out (fun h => HNE.out h.symm))
    have HN4 : Hid (New w w4) := Lib.hid ((HN2.out.tr HN3.out).fr HF4.out (fun x hx => by have h1 := HN2.out.size; have h2 := HZ7.out; omega))
    have c1 := HK4.out.c1
    obtain ⟨kn, hkn⟩ : ∃ kn, kn = k.number := ⟨_, rfl⟩
    rw [← hkn] at c1
    have HKN := Lib.hid hkn
    clear hkn HK2 HN2 HN3 HF4 HB7
    by_cases hgt : kn < n
    · have hgt2 : (kn : Int) < (n : Int) := by omega
      have HUP : Hid (upK p (j + 1) = { k with number := n, now := R }) := Lib.hid (by rw [HNR.out.1]; unfold takeK; rw [if_pos (by rw [← HKN.out]; exact hgt)])
      clear hgt
      go_wp2_with fail
      clear c1 hgt2
      refine wp_region_mixH (fun w' => Blk w' b7 63 RC) [(true, 0), (true, 1), (true, 2), (true, 3), (true, 4), (true, 5), (false, 6), (true, 7), (true, 8), (false, 9)] (by kernel_rfl) (by kernel_rfl) ((New.dr (New.refl w4)).blk HB74.out) (fun hne => ?_)
      iterate 3 (refine mix_take (o := ⟨_, _, _, _, _, _⟩) rfl (fun K hK => ?_); go_simp; refine hK _ ?_; clear hK K)
      refine mix_take_row (o := ⟨_, _, _, _, _, _⟩) (cs := RC.toList) rfl rfl _ rfl rfl (fun w' h => Blk.rangeOf h) Tryz.underlying63 rfl (by rw [Array.length_toList, HSZ.out]; rfl) ?_
      iterate 2 (refine mix_take (o := ⟨_, _, _, _, _, _⟩) rfl (fun K hK => ?_); go_simp; refine hK _ ?_; clear hK K)
      have HK5 : Hid (Blk w4.drew bk 214 (kpA k gd).toArray) := Lib.hid ((New.dr (New.refl w4)).blk HK4.out.blk)
      refine mix_store_int (o := ⟨_, _, _, _, _, _⟩) (k := .u64) (n := (n : Int)) (off := 1) rfl rfl (.tmp 45) (.tmp 42) rfl rfl rfl HK5.out (by rw [kpA_len HK4.out.ok.now.len]; omega) rfl ?_
      intro w5 hb5 hf5
      have HB5 : Hid (Blk w5 bk 214 (kpA { k with number := n } gd).toArray) := Lib.hid hb5
      have HF5 : Hid (Fr (fun x => x = bk) w4 w5) := Lib.hid (Fr.ofDrew hf5)
      clear hb5 hf5
      have HB75 : Hid (Blk w5 b7 63 RC) := Lib.hid (HB74.out.fr HF5.out HNE.out)
      refine ⟨fun _ => HB75.out, ?_⟩
      iterate 2 (refine mix_take (o := ⟨_, _, _, _, _, _⟩) rfl (fun K hK => ?_); go_simp; refine hK _ ?_; clear hK K)
      refine mix_store_part_l27 (o := ⟨_, _, _, _, _, _⟩) (cells := RC.toList) (off := 2) rfl rfl (.tmp 47) (.tmp 43) rfl rfl rfl HB5.out (by rw [kpA_len (k := { k with number := n }) HK4.out.ok.now.len, Array.length_toList, HSZ.out]; omega) (by rw [Array.length_toList, HSZ.out]; rfl) (fun v hv => by have := Array.all_eq_true'.1 HONE.out v (by simpa using hv); exact this) ?_
      intro w6 hb6 hf6
      have HB6 : Hid (Blk w6 bk 214 (kpA { k with number := n, now := R } gd).toArray) := Lib.hid (by rw [HRC.out, kpA_now (k := { k with number := n }) HK4.out.ok.now.len gd R HNR.out.2.1.len] at hb6; exact hb6)
      have HF6 : Hid (Fr (fun x => x = bk) w4 w6) := Lib.hid (HF5.out.trans hf6)
      clear hb6 hf6
      refine ⟨fun _ => HB74.out.fr HF6.out HNE.out, ?_⟩
      refine mix_done ?_
      have HN6 : Hid (New w w6) := Lib.hid (HN4.out.fr HF6.out (fun x hx => by have := HZ.out; omega))
      have HK6 : Hid (Kp w6 bk gd (upK p (j + 1))) := Lib.hid (by rw [HUP.out]; exact ⟨HB6.out, ⟨HNR.out.2.1, HNR.out.2.2⟩⟩)
      go_wp2_with fail
      go_roundw
      case rel => exact ⟨j + 1, Lib.hid (by have := HJ2.out; omega), by go_num, HN6, HK6⟩
      case measure => simp [intOf]; have := HJ2.out; omega
    · have hgt2 : ¬ ((kn : Int) < (n : Int)) := by omega
      have HUP : Hid (upK p (j + 1) = k) := Lib.hid (by rw [HNR.out.1]; unfold takeK; rw [if_neg (by rw [← HKN.out]; exact hgt)])
      clear hgt
      go_wp2_with fail
      go_roundw
      case rel => exact ⟨j + 1, Lib.hid (by have := HJ2.out; omega), by go_num, HN4, Lib.hid (by rw [HUP.out]; exact HK4.out)⟩
      case measure => simp [intOf]; have := HJ2.out; omega
  · have hge : ¬ ((j : Int) < 2) := by omega
    have HJE : Hid (upK p j = openP p) := Lib.hid (by obtain rfl : j = 2 := by have := HJ.out; omega
                                                      exact upK_2 p)
    clear hj
    go_wp2_with fail
    go_ret2
    exact ⟨bk, rfl, by rw [← HJE.out]; exact HK.out, HN.out, by have := HZ.out; omega⟩
end Go.Proofs.YtmibndkofoldkaaGreatDoor
namespace Go.Proofs.YtmibndkofoldkaaGreatDoor
set_option linter.unusedVariables false
set_option linter.unusedSimpArgs false
set_option linter.constructorNameAsVariable false
open Go.RowKit Go.Sort
set_option maxRecDepth 100000 in
theorem built_fst' (x0 x1 x2 x3 x4 x5 x6 x7 x8 x9 x10 x11 x12 x13 x14 x15 x16 x17 x18 x19 x20 x21 x22 x23 x24 x25 x26 x27 x28 x29 x30 x31 : Int) (a : Nat) : Tryz.prog.built 63 [(0, .agg (secA [x0, x1, x2, x3, x4, x5, x6, x7, x8, x9, x10, x11, x12, x13, x14, x15, x16, x17, x18, x19, x20, x21, x22, x23, x24, x25, x26, x27, x28, x29, x30, x31])), (1, .int .u64 a), (3, .int .u64 1), (4, .int .u64 1)] = some (Rc.cells ⟨[x0, x1, x2, x3, x4, x5, x6, x7, x8, x9, x10, x11, x12, x13, x14, x15, x16, x17, x18, x19, x20, x21, x22, x23, x24, x25, x26, x27, x28, x29, x30, x31], a, 0, 1, 1, 0⟩) := by kernel_rfl
set_option maxRecDepth 100000 in
theorem built_fst (xs : List Int) (h : xs.length = 32) (a : Nat) : Tryz.prog.built 63 [(0, .agg (secA xs)), (1, .int .u64 a), (3, .int .u64 1), (4, .int .u64 1)] = some (Rc.cells ⟨xs, a, 0, 1, 1, 0⟩) := by
 obtain ⟨x0, xs, rfl⟩ := List.exists_cons_of_length_eq_add_one h
 replace h : xs.length = 31 := by simpa using h
 obtain ⟨x1, xs, rfl⟩ := List.exists_cons_of_length_eq_add_one h
 replace h : xs.length = 30 := by simpa using h
 obtain ⟨x2, xs, rfl⟩ := List.exists_cons_of_length_eq_add_one h
 replace h : xs.length = 29 := by simpa using h
 obtain ⟨x3, xs, rfl⟩ := List.exists_cons_of_length_eq_add_one h
 replace h : xs.length = 28 := by simpa using h
 obtain ⟨x4, xs, rfl⟩ := List.exists_cons_of_length_eq_add_one h
 replace h : xs.length = 27 := by simpa using h
 obtain ⟨x5, xs, rfl⟩ := List.exists_cons_of_length_eq_add_one h
 replace h : xs.length = 26 := by simpa using h
 obtain ⟨x6, xs, rfl⟩ := List.exists_cons_of_length_eq_add_one h
 replace h : xs.length = 25 := by simpa using h
 obtain ⟨x7, xs, rfl⟩ := List.exists_cons_of_length_eq_add_one h
 replace h : xs.length = 24 := by simpa using h
 obtain ⟨x8, xs, rfl⟩ := List.exists_cons_of_length_eq_add_one h
 replace h : xs.length = 23 := by simpa using h
 obtain ⟨x9, xs, rfl⟩ := List.exists_cons_of_length_eq_add_one h
 replace h : xs.length = 22 := by simpa using h
 obtain ⟨x10, xs, rfl⟩ := List.exists_cons_of_length_eq_add_one h
 replace h : xs.length = 21 := by simpa using h
 obtain ⟨x11, xs, rfl⟩ := List.exists_cons_of_length_eq_add_one h
 replace h : xs.length = 20 := by simpa using h
 obtain ⟨x12, xs, rfl⟩ := List.exists_cons_of_length_eq_add_one h
 replace h : xs.length = 19 := by simpa using h
 obtain ⟨x13, xs, rfl⟩ := List.exists_cons_of_length_eq_add_one h
 replace h : xs.length = 18 := by simpa using h
 obtain ⟨x14, xs, rfl⟩ := List.exists_cons_of_length_eq_add_one h
 replace h : xs.length = 17 := by simpa using h
 obtain ⟨x15, xs, rfl⟩ := List.exists_cons_of_length_eq_add_one h
 replace h : xs.length = 16 := by simpa using h
 obtain ⟨x16, xs, rfl⟩ := List.exists_cons_of_length_eq_add_one h
 replace h : xs.length = 15 := by simpa using h
 obtain ⟨x17, xs, rfl⟩ := List.exists_cons_of_length_eq_add_one h
 replace h : xs.length = 14 := by simpa using h
 obtain ⟨x18, xs, rfl⟩ := List.exists_cons_of_length_eq_add_one h
 replace h : xs.length = 13 := by simpa using h
 obtain ⟨x19, xs, rfl⟩ := List.exists_cons_of_length_eq_add_one h
 replace h : xs.length = 12 := by simpa using h
 obtain ⟨x20, xs, rfl⟩ := List.exists_cons_of_length_eq_add_one h
 replace h : xs.length = 11 := by simpa using h
 obtain ⟨x21, xs, rfl⟩ := List.exists_cons_of_length_eq_add_one h
 replace h : xs.length = 10 := by simpa using h
 obtain ⟨x22, xs, rfl⟩ := List.exists_cons_of_length_eq_add_one h
 replace h : xs.length = 9 := by simpa using h
 obtain ⟨x23, xs, rfl⟩ := List.exists_cons_of_length_eq_add_one h
 replace h : xs.length = 8 := by simpa using h
 obtain ⟨x24, xs, rfl⟩ := List.exists_cons_of_length_eq_add_one h
 replace h : xs.length = 7 := by simpa using h
 obtain ⟨x25, xs, rfl⟩ := List.exists_cons_of_length_eq_add_one h
 replace h : xs.length = 6 := by simpa using h
 obtain ⟨x26, xs, rfl⟩ := List.exists_cons_of_length_eq_add_one h
 replace h : xs.length = 5 := by simpa using h
 obtain ⟨x27, xs, rfl⟩ := List.exists_cons_of_length_eq_add_one h
 replace h : xs.length = 4 := by simpa using h
 obtain ⟨x28, xs, rfl⟩ := List.exists_cons_of_length_eq_add_one h
 replace h : xs.length = 3 := by simpa using h
 obtain ⟨x29, xs, rfl⟩ := List.exists_cons_of_length_eq_add_one h
 replace h : xs.length = 2 := by simpa using h
 obtain ⟨x30, xs, rfl⟩ := List.exists_cons_of_length_eq_add_one h
 replace h : xs.length = 1 := by simpa using h
 obtain ⟨x31, xs, rfl⟩ := List.exists_cons_of_length_eq_add_one h
 replace h : xs.length = 0 := by simpa using h
 obtain rfl := List.eq_nil_of_length_eq_zero h
 exact built_fst' x0 x1 x2 x3 x4 x5 x6 x7 x8 x9 x10 x11 x12 x13 x14 x15 x16 x17 x18 x19 x20 x21 x22 x23 x24 x25 x26 x27 x28 x29 x30 x31 a
set_option maxRecDepth 100000 in
theorem built_none : Tryz.prog.built 63 [] = some rc0.cells := by kernel_rfl
def fstR (n : Nat) : Rc := ⟨empH (hgt n), n, 0, 1, 1, 0⟩
theorem fstR_ok {n : Nat} (h : n ≤ 4294967296) : (fstR n).Ok := ⟨empH_len _, empH_byt _, by show n < _; omega, by show 0 < _; omega, by show 1 < _; omega, by show 1 < _; omega, by show 0 < _; omega⟩
theorem fstR_right {n : Nat} (h1 : 1 ≤ n) (h2 : n ≤ 4294967296) : (fstR n).Right := ⟨h1, h2, by show 1 ≤ 1; omega, by show 1 ≤ 1; omega, by show 0 < 1; omega⟩
set_option maxHeartbeats 2000000
set_option maxRecDepth 100000
theorem first_ok (n : Nat) (w : World) (hL : ShaIn 3 1 w) (h1 : 1 ≤ n) (h2 : n ≤ 4294967296) : Calls Tryz.prog 62 #[.int .u64 n] w fun e w' => e = .returned (.tuple #[.agg (fstR n).cells, .nilIface]) ∧ New w w' := by
 have HL := Lib.hid hL
 have HN := Lib.hid (And.intro h1 h2)
 obtain ⟨ht, hht⟩ : ∃ ht, ht = hgt n := ⟨_, rfl⟩
 have HT : Hid (ht ≤ 32) := Lib.hid (by rw [hht]; exact hgt_le h1 h2)
 have HHT := Lib.hid hht
 obtain ⟨EH, hEH⟩ : ∃ EH, EH = empH ht := ⟨_, rfl⟩
 have HEH := Lib.hid hEH
 have HBU : Hid (Tryz.prog.built 63 [(0, .agg (secA EH)), (1, .int .u64 n), (3, .int .u64 1), (4, .int .u64 1)] = some (fstR n).cells) := Lib.hid (by rw [hEH, hht]; exact built_fst _ (empH_len _) _)
 have HS32 : Hid ((secA EH).size = 32) := Lib.hid (by rw [hEH, secA_size, empH_len])
 have HS37 : Hid ((fstR n).cells.size = 37) := Lib.hid (Rc.size (empH_len _))
 clear hL h1 h2 hht hEH
 go_enter Tryz.func62, Tryz.ntmps62
 go_upto_region 1 with ((with_reducible refine atOp ⟨some 2, .alloc _, _, _, _, _⟩ ?_); refine wpList_alloc_row rfl rfl recInfo ?_; intro b2 w1 hb hB hN; have HB2 := Lib.hid hB; have HN1 := Lib.hid hN; have HZ := Lib.hid hb; clear hb hB hN)
 go_wp2_with fail
 refine (height_ok n w1 HN.out.1 HN.out.2).mono ?_
 rintro e w2 ⟨rfl, rfl⟩
 rw [← HHT.out]
 go_wp2_with fail
 refine (empty_any ht _ (HL.out.new HN1.out) HT.out).mono ?_
 rintro e w2 ⟨rfl, hN2⟩
 rw [← HEH.out]
 have HN2 : Hid (New w w2) := Lib.hid (HN1.out.tr hN2)
 have HB22 : Hid (Blk w2 b2 63 rc0.cells) := Lib.hid (hN2.blk HB2.out)
 clear hN2 HB2
 go_upto_region 5 with ((with_reducible refine atOp ⟨some 6, .alloc _, _, _, _, _⟩ ?_); refine wpList_newrow rfl rfl rfl _ _ rfl hashInfoR (by rfl) rfl rfl HS32.out (secA_one _) ?_)
 obtain ⟨w3, hw3⟩ : ∃ w3 : World, w3 = w2.alloc (.cells (secA EH) 60) := ⟨_, rfl⟩
 obtain ⟨b6, hb6⟩ : ∃ b6, b6 = w2.heap.size := ⟨_, rfl⟩
 have HN3 : Hid (New w w3) := Lib.hid (HN2.out.tr (by rw [hw3]; exact New.al (New.refl _) _))
 have HB6 : Hid (Blk w3 b6 60 (secA EH)) := Lib.hid (by rw [hw3, hb6]; exact Blk.new _ _ _)
 have HB23 : Hid (Blk w3 b2 63 rc0.cells) := Lib.hid (by rw [hw3]; exact (New.al (New.refl _) _).blk HB22.out)
 rw [← hw3, ← hb6]
 clear hw3 hb6 HN2 HB22
 go_wp2_with (first
  | ((with_reducible refine atOp ⟨some 21, .load _ _, _, _, _, _⟩ ?_); refine wpList_load_any rfl _ rfl Tryz.underlying60 rfl (by rw [HS32.out]; rfl) rfl HB6.out ?_)
  | ((with_reducible refine atOp ⟨some 23, .build _ _, _, _, _, _⟩ ?_); refine wpList_built rfl _ [(0, .tmp 21), (1, .tmp 22), (3, .const (.int .u64 1)), (4, .const (.int .u64 1))] rfl _ rfl _ HBU.out ?_)
  | ((with_reducible refine atOp ⟨none, .store 63 (.tmp 2) _, _, _, _, _⟩ ?_); refine wpList_store_any rfl (.tmp 2) (.tmp 23) rfl (by rw [HS37.out]; rfl) rfl rfl HB23.out (by rw [HS37.out]; rfl) (Rc.one _) ?_; intro w5 hb5 hf5; have HB5 := Lib.hid hb5; have HF5 := Lib.hid hf5; clear hb5 hf5))
 exact bodyPost_ret (results_row2h rfl _ _ b2 _ _ rfl HB5.out Tryz.underlying63 rfl (by rw [HS37.out]; rfl)) rfl ⟨rfl, HN3.out.fr HF5.out (fun x hx => by have := HZ.out; omega)⟩
theorem first_bad (n : Nat) (w : World) (h : ¬ (1 ≤ n ∧ n ≤ 4294967296)) : Calls Tryz.prog 62 #[.int .u64 n] w fun e w' => e = .returned (.tuple #[.agg rc0.cells, .iface 55 (.int .i64 1)]) ∧ New w w' := by
 have HN := Lib.hid h
 have HBU := Lib.hid built_none
 clear h
 go_enter Tryz.func62, Tryz.ntmps62
 go_upto_region 1 with ((with_reducible refine atOp ⟨some 2, .alloc _, _, _, _, _⟩ ?_); refine wpList_alloc_row rfl rfl recInfo ?_; intro b2 w1 hb hB hN; have HB2 := Lib.hid hB; have HN1 := Lib.hid hN; have HZ := Lib.hid hb; clear hb hB hN)
 go_wp2_with fail
 refine (height_bad n w1 HN.out).mono ?_
 rintro e w2 ⟨rfl, rfl⟩
 go_wp2_with (first
  | ((with_reducible refine atOp ⟨some 14, .build _ _, _, _, _, _⟩ ?_); refine wpList_built rfl _ [] rfl _ rfl _ HBU.out ?_)
  | ((with_reducible refine atOp ⟨none, .store 63 (.tmp 2) _, _, _, _, _⟩ ?_); refine wpList_store_any rfl (.tmp 2) (.tmp 14) rfl (by rfl) rfl rfl HB2.out rfl (Rc.one _) ?_; intro w5 hb5 hf5; have HB5 := Lib.hid hb5; have HF5 := Lib.hid hf5; clear hb5 hf5))
 exact bodyPost_ret (results_row2h rfl _ _ b2 _ _ rfl HB5.out Tryz.underlying63 rfl (by rfl)) rfl ⟨rfl, HN1.out.fr HF5.out (fun x hx => by have := HZ.out; omega)⟩
end Go.Proofs.YtmibndkofoldkaaGreatDoor
namespace Go.Proofs.YtmibndkofoldkaaGreatDoor
set_option linter.unusedVariables false
set_option linter.unusedSimpArgs false
set_option linter.constructorNameAsVariable false
open Go.RowKit Go.Sort
instance : DecidableEq Rc := fun r s => decidable_of_iff (r.root = s.root ∧ r.blocks = s.blocks ∧ r.epoch = s.epoch ∧ r.since = s.since ∧ r.limit = s.limit ∧ r.session = s.session) (by cases r; cases s; simp)
theorem part_root {r : Rc} (h : r.root.length = 32) (w : World) : (part 60 r.cells 0).run Tryz.prog w = .ok (.agg (secA r.root)) w := by
 have h1 : (isAgg 60).run Tryz.prog w = .ok true w := by
  simp [isAgg, run_underlying Tryz.underlying60]
 have h2 : (sizeOf 60).run Tryz.prog w = .ok 32 w := by
  have := hashInfoR
  cases hq : Tryz.prog.info? 60 with
  | none => rw [hq] at this; cases this
  | some i => rw [hq] at this; simp only [Option.map_some, Option.some.injEq, Prod.mk.injEq] at this; simp [sizeOf, typeInfo, hq, this.2]
 have e : r.cells.extract 0 32 = secA r.root := by
  have hu : (u8s r.root).length = 32 := by rw [u8s_len, h]
  unfold Rc.cells secA
  rw [List.extract_toArray, List.extract_eq_take_drop]
  simp only [Nat.sub_zero, List.drop_zero]
  rw [List.take_append_of_le_length (by omega), List.take_of_length_le (by omega)]
 unfold part
 simp [Sem.run_bind, h1, h2, e]
theorem rc_eq (r s : Rc) : (decide (r.root = s.root) && (((r.blocks : Int) == s.blocks) && (((r.epoch : Int) == s.epoch) && (((r.since : Int) == s.since) && (((r.limit : Int) == s.limit) && (((r.session : Int) == s.session) && true)))))) = decide (r = s) := by
 rw [Bool.eq_iff_iff]
 simp only [Bool.and_eq_true, decide_eq_true_eq, beq_iff_eq, Bool.and_true]
 constructor
 · rintro ⟨h1, h2, h3, h4, h5, h6⟩
   cases r; cases s
   simp only at h1 h2 h3 h4 h5 h6
   simp only [Rc.mk.injEq]
   exact ⟨h1, by omega, by omega, by omega, by omega, by omega⟩
 · rintro rfl; simp
theorem equalIn_rc {T : TypeId} (ht : Tryz.prog.underlying T = some (.struct (Tryz.prog.fieldsOf T))) (hp : Tryz.prog.stoodInHeld T = false) (hf : (Tryz.prog.fieldsOf T).toList.map (fun f => (f.name, f.type, f.offset)) = [("Root", 60, 0), ("Blocks", 24, 32), ("Epoch", 24, 33), ("Since", 24, 34), ("Limit", 24, 35), ("Session", 24, 36)]) {r s : Rc} (hr : r.Ok) (hs : s.Ok) (w : World) :
    (Op.equalIn 10000 T (.agg r.cells) (.agg s.cells)).run Tryz.prog w = .ok (decide (r = s)) w := by
 rw [show (10000 : Nat) = 9999 + 1 from rfl, run_equalIn_struct w 9999 T r.cells s.cells ht hp]
 generalize (Tryz.prog.fieldsOf T).toList = l at hf
 have hn : ∀ w, (isAgg 24).run Tryz.prog w = .ok false w := fun w => by simp [isAgg, run_underlying Tryz.underlying24]
 have hz : ∀ w, (sizeOf 5).run Tryz.prog w = .ok 1 w := fun w => (by first | exact Tryz.sizeOf5 w | kernel_rfl)
 have hroot := run_equalIn_sec (P := Tryz.prog) 9997 Tryz.underlying60 Tryz.underlying5 hz hr.len hs.len hr.byt hs.byt w
 rw [← rc_eq]
 obtain ⟨f0, l, rfl, e0, hf⟩ := List.map_eq_cons_iff.1 hf
 obtain ⟨f1, l, rfl, e1, hf⟩ := List.map_eq_cons_iff.1 hf
 obtain ⟨f2, l, rfl, e2, hf⟩ := List.map_eq_cons_iff.1 hf
 obtain ⟨f3, l, rfl, e3, hf⟩ := List.map_eq_cons_iff.1 hf
 obtain ⟨f4, l, rfl, e4, hf⟩ := List.map_eq_cons_iff.1 hf
 obtain ⟨f5, l, rfl, e5, hf⟩ := List.map_eq_cons_iff.1 hf
 obtain rfl := List.map_eq_nil_iff.1 hf
 simp only [Prod.mk.injEq] at e0 e1 e2 e3 e4 e5
 have nm : ∀ {f : Field} {n : String}, f.name = n → n ≠ "_" → f.name ≠ "_" := fun h1 h2 h3 => h2 (h1.symm.trans h3)
 have num : ∀ {f : Field} {i : Nat} {x y : Int} {w : World} {rest : List Field} {b : Bool}, f.name ≠ "_" → f.type = 24 → f.offset = 32 + i → r.cells[32 + i]? = some (.int .u64 x) → s.cells[32 + i]? = some (.int .u64 y) → (Op.eqFields 9999 r.cells s.cells rest).run Tryz.prog w = .ok b w →
     (Op.eqFields 9999 r.cells s.cells (f :: rest)).run Tryz.prog w = .ok ((x == y) && b) w := fun h1 h2 h3 h4 h5 h6 =>
  eq_step h1 (by rw [h2, h3]; exact part_cell hn h4) (by rw [h2, h3]; exact part_cell hn h5) (by rw [h2]; exact run_equalIn_int _ 9998 24 .u64 .u64 _ _ Tryz.underlying24) h6
 refine eq_step (nm e0.1 (by decide)) (by rw [e0.2.1, e0.2.2]; exact part_root hr.len w) (by rw [e0.2.1, e0.2.2]; exact part_root hs.len w) (by rw [e0.2.1]; exact hroot) ?_
 refine num (i := 0) (nm e1.1 (by decide)) e1.2.1 e1.2.2 (Rc.at hr.len 0) (Rc.at hs.len 0) ?_
 refine num (i := 1) (nm e2.1 (by decide)) e2.2.1 e2.2.2 (Rc.at hr.len 1) (Rc.at hs.len 1) ?_
 refine num (i := 2) (nm e3.1 (by decide)) e3.2.1 e3.2.2 (Rc.at hr.len 2) (Rc.at hs.len 2) ?_
 refine num (i := 3) (nm e4.1 (by decide)) e4.2.1 e4.2.2 (Rc.at hr.len 3) (Rc.at hs.len 3) ?_
 refine num (i := 4) (nm e5.1 (by decide)) e5.2.1 e5.2.2 (Rc.at hr.len 4) (Rc.at hs.len 4) ?_
 simp [Op.eqFields]
set_option maxRecDepth 100000
end Go.Proofs.YtmibndkofoldkaaGreatDoor
namespace Go.Proofs.YtmibndkofoldkaaGreatDoor
set_option linter.unusedVariables false
set_option linter.unusedSimpArgs false
set_option linter.constructorNameAsVariable false
open Go.RowKit Go.Sort
def Kpt (w w' : World) : Prop := ∀ b t cs, Blk w b t cs → t ≠ 214 → t ≠ 138 → t ≠ 3 → Blk w' b t cs
def Dsk (W w : World) (gd : Nat) (p : DP) : Prop := ∃ bs bf v, Dk w W.heap.size gd bs bf v p ∧ New W w
def Kpr (W w : World) (gd gk : Nat) (p : DP) (k : KR) : Prop := ∃ bs bf v, Dk w W.heap.size gd bs bf v p ∧ Kp w gk gd k ∧ W.heap.size ≤ gk ∧ New W w
section
variable {W w w' : World} {gd gk : Nat} {p : DP} {k : KR}
theorem Dsk.new (h : Dsk W w gd p) (hN : New w w') : Dsk W w' gd p := by obtain ⟨bs, bf, v, h1, h2⟩ := h; exact ⟨bs, bf, v, h1.new hN, h2.tr hN⟩
theorem Kpr.new (h : Kpr W w gd gk p k) (hN : New w w') : Kpr W w' gd gk p k := by obtain ⟨bs, bf, v, h1, h2, h3, h4⟩ := h; exact ⟨bs, bf, v, h1.new hN, h2.new hN, h3, h4.tr hN⟩
theorem Kpr.dsk (h : Kpr W w gd gk p k) : Dsk W w gd p := by obtain ⟨bs, bf, v, h1, h2, h3, h4⟩ := h; exact ⟨bs, bf, v, h1, h4⟩
theorem Kpr.kp (h : Kpr W w gd gk p k) : Kp w gk gd k := by obtain ⟨bs, bf, v, h1, h2, h3, h4⟩ := h; exact h2
theorem Kpr.nw (h : Kpr W w gd gk p k) : New W w := by obtain ⟨bs, bf, v, h1, h2, h3, h4⟩ := h; exact h4
theorem Dsk.nw (h : Dsk W w gd p) : New W w := by obtain ⟨bs, bf, v, h1, h2⟩ := h; exact h2
theorem dnew_d (hN : New W w) (n : Nat) (h1 : 1 ≤ n) (h2 : n ≤ 16384) : Calls Tryz.prog 27 #[.int .i64 n] w fun e w' => ∃ g, e = .returned (.tuple #[.pointer (some ⟨g, 0, none⟩), .nilIface]) ∧ Dsk W w' g (DP.new n) ∧ New w w' :=
 (new_ok n w W.heap.size hN.size h1 h2).mono fun e w' ⟨he, hD, hN'⟩ => ⟨_, he, ⟨_, _, _, hD, hN.tr hN'⟩, hN'⟩
theorem kopen_d (h : Dsk W w gd p) (hL : ShaIn 3 1 W) (hp : 4 ≤ p.size) : Calls Tryz.prog 54 #[.pointer (some ⟨gd, 0, none⟩)] w fun e w' => ∃ b, e = .returned (.tuple #[.pointer (some ⟨b, 0, none⟩), .nilIface]) ∧ Kpr W w' gd b p (openP p) ∧ New w w' := by
 obtain ⟨bs, bf, v, h1, h2⟩ := h
 exact (kopen_in h1 (hL.new h2) hp).mono fun e w' ⟨b, he, hK, hN, hb⟩ => ⟨b, he, ⟨bs, bf, v, h1.new hN, hK, by have := h2.size; omega, h2.tr hN⟩, hN⟩
theorem ksave_d (h : Kpr W w gd gk p k) (hL : ShaIn 3 1 W) (r : Rc) (hr : r.Ok) : Calls Tryz.prog 58 #[.pointer (some ⟨gk, 0, none⟩), .agg r.cells] w fun e w' => e = .returned (errD (saveP p k r).2.2) ∧ Kpr W w' gd gk (saveP p k r).1 (saveP p k r).2.1 ∧ Kpt w w' := by
 obtain ⟨bs, bf, v, h1, h2, h3, h4⟩ := h
 refine (ksave_kp h2 h1 (hL.new h4) r hr).mono fun e w' ⟨he, v', hT⟩ => ⟨he, ⟨bs, bf, v', hT.dk, hT.kp, h3, ?_⟩, ?_⟩
 · refine h4.fr hT.fr (fun b hb => ?_)
   rcases hb with rfl | hb
   · exact h3
   · exact (h1.ours b hb).1
 · intro b t cs hb e1 e2 e3
   refine hb.fr hT.fr (fun ho => ?_)
   rcases ho with rfl | ho
   · exact Blk.ne_ hb h2.blk (fun e => e1 e) rfl
   · exact dk_notBlk h1 hb (fun e => Blk.ne_ hb h1.blk (fun e => e2 e) e) e3 ho
end
end Go.Proofs.YtmibndkofoldkaaGreatDoor
namespace Go.Proofs.YtmibndkofoldkaaGreatDoor
set_option linter.unusedVariables false
set_option linter.unusedSimpArgs false
set_option linter.constructorNameAsVariable false
open Go.RowKit Go.Sort Go.Maps
set_option maxHeartbeats 4000000
set_option maxRecDepth 100000
theorem rc37Info : (Tryz.prog.info? 63).map (fun i => (i.zero, i.size)) = some (some (.agg rc0.cells), 37) := by kernel_rfl
theorem cformat_bad (d : Value) (n : Nat) (w : World) (h : ¬ (1 ≤ n ∧ n ≤ 4294967296)) : Calls Tryz.prog 30 #[d, .int .u64 n] w fun e w' => e = .returned (.iface 55 (.int .i64 1)) ∧ New w w' := by
 have HF := Lib.hid (first_bad n w h)
 have HZ : Hid (rc0.cells.size = 37 ∧ rc0.cells.all (·.oneCell') = true) := Lib.hid ⟨rfl, Rc.one _⟩
 obtain ⟨RA, hRA⟩ := nm rc0.cells
 rw [← hRA] at HF HZ
 clear h hRA
 go_enter Tryz.func30, Tryz.ntmps30
 go_wp2_with fail
 refine HF.out.mono ?_
 rintro e w1 ⟨rfl, hN⟩
 have HN := Lib.hid hN
 clear hN HF
 go_wp2_with ((with_reducible refine atOp ⟨some 5, .alloc _, _, _, _, _⟩ ?_); refine wpList_newrow rfl rfl rfl (.tmp 5) (.tmp 11) rfl rc37Info rfl rfl rfl HZ.out.1 HZ.out.2 ?_)
 go_ret
 exact ⟨rfl, HN.out.al _⟩
theorem cformat_small {W : World} {gd : Nat} {p : DP} (n : Nat) (w : World) (h : Dsk W w gd p) (hL : ShaIn 3 1 W) (hp : p.size < 4) (hn : 1 ≤ n ∧ n ≤ 4294967296) : Calls Tryz.prog 30 #[.pointer (some ⟨gd, 0, none⟩), .int .u64 n] w fun e w' => e = .returned (.iface 55 (.int .i64 1)) ∧ New w w' := by
 have HF := Lib.hid (first_ok n w (hL.new h.nw) hn.1 hn.2)
 have HZ : Hid ((fstR n).cells.size = 37 ∧ (fstR n).cells.all (·.oneCell') = true) := Lib.hid ⟨Rc.size (fstR_ok hn.2).len, Rc.one _⟩
 have H := Lib.hid h
 have HS := Lib.hid hp
 obtain ⟨RA, hRA⟩ := nm (fstR n).cells
 rw [← hRA] at HF HZ
 clear h hRA hL hp hn
 go_enter Tryz.func30, Tryz.ntmps30
 go_wp2_with fail
 refine HF.out.mono ?_
 rintro e w1 ⟨rfl, hN⟩
 have HN := Lib.hid hN
 clear hN HF
 go_wp2_with ((with_reducible refine atOp ⟨some 5, .alloc _, _, _, _, _⟩ ?_); refine wpList_newrow rfl rfl rfl (.tmp 5) (.tmp 11) rfl rc37Info rfl rfl rfl HZ.out.1 HZ.out.2 ?_)
 obtain ⟨bs, bf, v, hD, -⟩ := H.out.new (HN.out.al (.cells RA 63))
 refine (kopen_small hD HS.out).mono ?_
 rintro e w2 ⟨rfl, hN2⟩
 rw [errD_n (by decide)]
 have HN2 : Hid (New w w2) := Lib.hid (by first | exact (HN.out.al _).tr hN2 | (subst hN2; exact HN.out.al _))
 clear hN2 hD
 go_wp2_with fail
 go_ret
 exact ⟨rfl, HN2.out⟩
theorem cformat_ok {W : World} {gd : Nat} {p : DP} {k : KR} (n : Nat) (w : World) (h : Dsk W w gd p) (hL : ShaIn 3 1 W) (hk : Kst p k) (hf : p.fuse ≠ 0 ∧ p.fuse ≠ 1) (hm : k.number < 18446744073709551613) (hn : 1 ≤ n ∧ n ≤ 4294967296) :
    Calls Tryz.prog 30 #[.pointer (some ⟨gd, 0, none⟩), .int .u64 n] w fun e w' => e = .returned .nilIface ∧ ∃ p', Dsk W w' gd p' ∧ Kst p' ⟨k.number + 1, fstR n, false⟩ ∧ p'.fuse = (if 1 < p.fuse then p.fuse - 2 else p.fuse) := by
 have HF := Lib.hid (first_ok n w (hL.new h.nw) hn.1 hn.2)
 have HZ : Hid ((fstR n).cells.size = 37 ∧ (fstR n).cells.all (·.oneCell') = true) := Lib.hid ⟨Rc.size (fstR_ok hn.2).len, Rc.one _⟩
 have H := Lib.hid h
 have HSV := Lib.hid (hk.save hf (fstR_ok hn.2) hm)
 rw [if_pos (fstR_right hn.1 hn.2)] at HSV
 have HSA := Lib.hid (fun W' gk (h : Kpr W W' gd gk p k) => ksave_d h hL (fstR n) (fstR_ok hn.2))
 have HOP := Lib.hid (fun W' (h : Dsk W W' gd p) => kopen_d h hL hk.sz)
 rw [hk.toKop.opens] at HOP
 obtain ⟨pf, hpf⟩ := nm (if 1 < p.fuse then p.fuse - 2 else p.fuse)
 rw [← hpf] at HSV ⊢
 clear hpf
 obtain ⟨RA, hRA⟩ := nm (fstR n).cells
 rw [← hRA] at HF HZ HSA
 clear h hRA hL hn hk hf hm
 go_enter Tryz.func30, Tryz.ntmps30
 go_wp2_with fail
 refine HF.out.mono ?_
 rintro e w1 ⟨rfl, hN⟩
 have HN := Lib.hid hN
 clear hN HF
 go_wp2_with ((with_reducible refine atOp ⟨some 5, .alloc _, _, _, _, _⟩ ?_); refine wpList_newrow rfl rfl rfl (.tmp 5) (.tmp 11) rfl rc37Info rfl rfl rfl HZ.out.1 HZ.out.2 ?_)
 obtain ⟨b5, hb5⟩ := nm w1.heap.size
 refine calls_world fun w2 hw2 => ?_
 have HN2 : Hid (New w w2) := Lib.hid (by rw [hw2.out]; exact HN.out.al _)
 have HB2 : Hid (Blk w2 b5 63 RA) := Lib.hid (by rw [hw2.out, hb5]; exact Blk.new _ _ _)
 rw [← hb5]
 clear hw2 hb5
 refine (HOP.out w2 (H.out.new HN2.out)).mono ?_
 rintro e w3 ⟨bk, rfl, hK, hN3⟩
 have HK := Lib.hid hK
 have HB3 := Lib.hid (hN3.blk HB2.out)
 clear hK hN3
 go_wp2_with ((with_reducible refine atOp ⟨some 25, .load _ _, _, _, _, _⟩ ?_); refine wpList_load_any rfl _ rfl Tryz.underlying63 rfl (by rw [HZ.out.1]; rfl) rfl HB3.out ?_)
 refine (HSA.out w3 bk HK.out).mono ?_
 rintro e w4 ⟨rfl, hK4, -⟩
 rw [HSV.out.1, errD_0]
 have HD4 := Lib.hid hK4.dsk
 clear hK4
 go_wp2_with fail
 go_ret
 exact ⟨rfl, _, HD4.out, HSV.out.2.2.1, HSV.out.2.2.2⟩
end Go.Proofs.YtmibndkofoldkaaGreatDoor
namespace Go.Proofs.YtmibndkofoldkaaGreatDoor
set_option linter.unusedVariables false
set_option linter.unusedSimpArgs false
set_option linter.constructorNameAsVariable false
open Go.RowKit Go.Sort Go.Maps
set_option maxRecDepth 100000
theorem fill_next {place : Nat → Option (Nat × Nat)} {i off : Nat} {v : Value} {a b ys : List Value} {rest : List (Nat × Value)} (hp : place i = some (off, ys.length)) (hv : v.cells = ys.toArray) (ha : a.length = off) (hl : ys.length ≤ b.length) :
    Instr.fill place (a ++ b).toArray ((i, v) :: rest) = Instr.fill place ((a ++ ys) ++ b.drop ys.length).toArray rest := by
 rw [fill_one hp hv (by rw [List.length_append]; omega), splice_next ha]
theorem prPlaces : (Tryz.prog.fieldsOf 101).toList.mapM (fun f => (Tryz.prog.info? f.type).map fun i => (f.offset, i.size)) = some [(0, 32), (32, 1), (33, 1)] := by kernel_rfl
theorem prInfo : (Tryz.prog.info? 101).map (fun i => (i.zero, i.size)) = some (some (.agg (u8s (List.replicate 32 0) ++ [Value.int .u64 0, .int .u64 0]).toArray), 34) := by kernel_rfl
theorem pr_built {root : List Int} (h : root.length = 32) (n e : Nat) : Tryz.prog.built 101 [(0, .agg (secA root)), (1, .int .u64 n), (2, .int .u64 e)] = some (u8s root ++ [Value.int .u64 n, .int .u64 e]).toArray := by
 rw [built_struct Tryz.underlying101 prInfo prPlaces]
 have hz : ∀ z : List Value, z = [] ++ z := fun z => rfl
 rw [hz (u8s (List.replicate 32 0) ++ _)]
 rw [fill_next (off := 0) (ys := u8s root) (by rw [u8s_len, h]; rfl) rfl rfl (by rw [u8s_len, h]; decide), List.nil_append]
 rw [fill_next (off := 32) (ys := [.int .u64 n]) rfl rfl (by rw [u8s_len, h]) (by simp [u8s_len, h])]
 rw [fill_next (off := 33) (ys := [.int .u64 e]) rfl rfl (by rw [List.length_append, u8s_len, h]; rfl) (by simp [u8s_len, h]), fill_nil]
 congr 2
 rw [List.drop_eq_nil_of_le (by simp [u8s_len, h]), List.append_nil, List.append_assoc]
 rfl
def clZ : List Value := u8s (List.replicate 32 0) ++ ([.int .u64 0, .int .u64 0, .pointer none] ++ (rc0.cells.toList ++ (.pointer none :: (u8s (List.replicate 112 0) ++ [.pointer none, .pointer none, .int .i64 0, .int .i64 0, .int .u64 0, .int .u64 0, .int .u64 0, .slice none 0 0, .slice none 0 0]))))
theorem clZ_len : clZ.length = 194 := by kernel_rfl
theorem clInfo : (Tryz.prog.info? 109).map (fun i => (i.zero, i.size)) = some (some (.agg clZ.toArray), 194) := by kernel_rfl
theorem clPlaces : (Tryz.prog.fieldsOf 109).toList.mapM (fun f => (Tryz.prog.info? f.type).map fun i => (f.offset, i.size)) = some [(0, 34), (34, 1), (35, 37), (72, 1), (73, 112), (185, 1), (186, 1), (187, 1), (188, 1), (189, 1), (190, 1), (191, 1), (192, 1), (193, 1)] := by kernel_rfl
theorem clZ_188 : clZ.drop 188 = [Value.int .i64 0, .int .u64 0] ++ clZ.drop 190 := by kernel_rfl
theorem clZ_191 : clZ.drop 191 = [Value.int .u64 0, .slice none 0 0, .slice none 0 0] := by kernel_rfl
def cmNew (r : Rc) (gk gs : Nat) (key : List Int) (gw gt : Nat) : Cm := ⟨r.root, r.blocks, r.epoch, gk, r, gs, key, gw, gt, 1, 0, 0, r.limit, 0, .slice none 0 0, .slice none 0 0⟩
theorem cl_built {r : Rc} (hr : r.root.length = 32) (gk gs : Nat) (key : List Int) (gw gt : Nat) :
    Tryz.prog.built 109 [(0, .agg (u8s r.root ++ [Value.int .u64 r.blocks, .int .u64 r.epoch]).toArray), (1, .pointer (some ⟨gk, 0, none⟩)), (2, .agg r.cells), (3, .pointer (some ⟨gs, 0, none⟩)), (4, .agg (secA (setL key))), (5, .pointer (some ⟨gw, 0, none⟩)), (6, .pointer (some ⟨gt, 0, none⟩)), (7, .int .i64 1), (10, .int .u64 r.limit)] = some (cmNew r gk gs key gw gt).cells.toArray := by
 rw [built_struct Tryz.underlying109 clInfo clPlaces]
 have hz : clZ = [] ++ clZ := rfl
 have l1 : (u8s r.root).length = 32 := by rw [u8s_len, hr]
 have l2 : r.cells.toList.length = 37 := by rw [Array.length_toList, Rc.size hr]
 have l3 : (u8s (setL key)).length = 112 := by rw [u8s_len, setL_len]
 rw [hz]
 rw [fill_next (off := 0) (ys := u8s r.root ++ [Value.int .u64 r.blocks, .int .u64 r.epoch]) (by simp [l1]) rfl rfl (by simp [l1, clZ_len]), List.nil_append]
 rw [fill_next (off := 34) (ys := [.pointer (some ⟨gk, 0, none⟩)]) rfl rfl (by simp [l1]) (by simp [l1, clZ_len])]
 rw [fill_next (off := 35) (ys := r.cells.toList) (by rw [l2]; rfl) (by simp [Value.cells]) (by simp [l1]) (by simp [l1, l2, clZ_len])]
 rw [fill_next (off := 72) (ys := [.pointer (some ⟨gs, 0, none⟩)]) rfl rfl (by simp [l1, l2]) (by simp [l1, l2, clZ_len])]
 rw [fill_next (off := 73) (ys := u8s (setL key)) (by rw [l3]; rfl) rfl (by simp [l1, l2]) (by simp [l1, l2, l3, clZ_len])]
 rw [fill_next (off := 185) (ys := [.pointer (some ⟨gw, 0, none⟩)]) rfl rfl (by simp [l1, l2, l3]) (by simp [l1, l2, l3, clZ_len])]
 rw [fill_next (off := 186) (ys := [.pointer (some ⟨gt, 0, none⟩)]) rfl rfl (by simp [l1, l2, l3]) (by simp [l1, l2, l3, clZ_len])]
 rw [fill_next (off := 187) (ys := [.int .i64 1]) rfl rfl (by simp [l1, l2, l3]) (by simp [l1, l2, l3, clZ_len])]
 have hd : ∀ (x : List Value), (List.drop (List.length [Value.int .i64 1]) x) = x.drop 1 := fun x => rfl
 have hdz : List.drop (List.length [Value.int .i64 1]) (List.drop (List.length [Value.pointer (some ⟨gt, 0, none⟩)]) (List.drop (List.length [Value.pointer (some ⟨gw, 0, none⟩)]) (List.drop (u8s (setL key)).length (List.drop (List.length [Value.pointer (some ⟨gs, 0, none⟩)]) (List.drop r.cells.toList.length (List.drop (List.length [Value.pointer (some ⟨gk, 0, none⟩)]) (List.drop (u8s r.root ++ [Value.int .u64 r.blocks, .int .u64 r.epoch]).length clZ))))))) = clZ.drop 188 := by
  simp only [List.drop_drop, List.length_append, List.length_cons, List.length_nil, l1, l2, l3]
 rw [hdz, clZ_188, ← List.append_assoc]
 rw [fill_next (off := 190) (ys := [.int .u64 r.limit]) rfl rfl (by simp [l1, l2, l3]) (by simp [clZ_len]), fill_nil]
 have hd2 : (clZ.drop 190).drop [Value.int .u64 (r.limit : Int)].length = clZ.drop 191 := by rw [List.drop_drop]; rfl
 rw [hd2, clZ_191]
 congr 2
 unfold cmNew Cm.cells Cm.hd Cm.tl
 simp only [List.append_assoc, List.cons_append, List.nil_append]
 rfl
end Go.Proofs.YtmibndkofoldkaaGreatDoor
