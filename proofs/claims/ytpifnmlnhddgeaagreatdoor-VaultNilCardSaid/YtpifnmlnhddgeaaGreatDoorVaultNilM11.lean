/- Texts of one proof, one behind the other: NdC. No condition but each one's own. -/
import Derived.Test.YtpifnmlnhddgeaaGreatDoorVaultNilM9
import Derived.Test.YtpifnmlnhddgeaaGreatDoorVaultNilM10
namespace Go.Proofs.YtpifnmlnhddgeaaGreatDoor
set_option linter.unusedVariables false
set_option linter.unusedSimpArgs false
set_option linter.constructorNameAsVariable false
open Go.RowKit Go.Sort
theorem empInfo : (Tryz.prog.info? 111).map (fun i => (i.zero, i.size)) = some (some (.agg (secA (List.replicate 1056 0))), 1056) := by kernel_rfl
theorem empA_1 : splice (u8s (List.replicate 1056 0)) 0 (u8s (hsh [0])) = u8s (empA 1) := by
 have e : u8s (List.replicate 1056 0) = u8s (List.replicate 32 0) ++ u8s (List.replicate 1024 0) := by unfold u8s; rw [← List.map_append, List.replicate_append_replicate]
 rw [e, splice_fst (by rw [u8s_len, u8s_len, hsh_len, List.length_replicate])]
 unfold empA u8s
 rw [← List.map_append]
 rfl
theorem built_emp : Tryz.prog.built 111 [(0, .agg (secA (hsh [0])))] = some (secA (empA 1)) := by
 have h := built_arr1 (P := Tryz.prog) (ys := u8s (hsh [0])) (zs := u8s (List.replicate 1056 0)) (n := 33) (e := 50) Tryz.underlying111 empInfo (by rw [u8s_len, hsh_len]; kernel_rfl) (by rw [u8s_len, u8s_len, hsh_len, List.length_replicate]; omega)
 rw [empA_1] at h
 exact h
theorem cut_range {w : World} {g T off n : Nat} {all : List Int} (hb : Blk w g T (secA all)) : w.rangeAt g off (u8s ((all.drop off).take n)) := fun j v hv => by
 rw [hb.cell]
 have hj := (List.getElem?_eq_some_iff.1 hv).1
 rw [u8s_len] at hj
 unfold secA
 rw [List.getElem?_toArray, ← hv]
 unfold u8s at *
 rw [List.length_take] at hj
 rw [List.getElem?_map, List.getElem?_map, List.getElem?_take_of_lt (by omega), List.getElem?_drop]
set_option maxHeartbeats 3000000
set_option maxRecDepth 100000
theorem empties_any (w : World) (hL : ShaIn 1 0 w) : Calls Tryz.prog 46 #[] w fun e w' => e = .returned (.agg (secA (empA 33))) ∧ New w w' := by
 have HL := Lib.hid hL
 have HE1 := Lib.hid built_emp
 have HA1 : Hid ((secA (empA 1)).size = 1056) := Lib.hid (by rw [secA_size, empA_len (by omega)])
 obtain ⟨h0, hh0⟩ : ∃ h0, h0 = hsh [0] := ⟨_, rfl⟩
 have HH0 := Lib.hid hh0
 clear hL hh0
 go_enter Tryz.func46, Tryz.ntmps46
 go_upto_region 1 with ((with_reducible refine atOp ⟨some 0, .alloc _, _, _, _, _⟩ ?_); refine wpList_alloc_row rfl rfl empInfo ?_; intro b0 w1 hb hB hN; have HB0 := Lib.hid hB; have HN1 := Lib.hid hN; have HZ := Lib.hid hb; clear hb hB hN)
 go_wp2_with fail
 have HR0 : Hid (Rd (fun _ => True) (w1.alloc (.cells #[.int .u8 0] 5)) 1 (some ⟨w1.heap.size, 0, none⟩) 1 (u8s [0])) := Lib.hid (by
  have h := Rd.ofBlk (p := fun _ => True) (Blk.new w1 5 #[.int .u8 0]) 1 1 (by rfl) trivial
  exact h)
 refine (sum_any (some ⟨w1.heap.size, 0, none⟩) 1 1 [0] _ ((HL.out.new HN1.out).new (New.al (New.refl _) _)) HR0.out (fun x hx => by simp at hx; omega) (by omega)).mono ?_
 rintro e w2 ⟨rfl, hN2⟩
 have HN2 : Hid (New w w2) := Lib.hid (HN1.out.tr ((New.al (New.refl _) _).tr hN2))
 have HB02 : Hid (Blk w2 b0 111 (secA (List.replicate 1056 0))) := Lib.hid (hN2.blk ((New.al (New.refl _) _).blk HB0.out))
 rw [← HH0.out] at HE1 ⊢
 clear hN2 HR0 HB0 HN1
 go_upto_region 2 with (first
  | ((with_reducible refine atOp ⟨some 7, .build _ _, _, _, _, _⟩ ?_); refine wpList_built rfl _ [(0, .tmp 6)] rfl _ rfl _ HE1.out ?_)
  | ((with_reducible refine atOp ⟨some 1, .alloc _, _, _, _, _⟩ ?_); refine wpList_newrow rfl rfl rfl _ _ rfl empInfo (by rfl) rfl rfl HA1.out (secA_one _) ?_))
 simp only [Act.put, List.setIfInBounds_toArray, List.set_cons_zero, List.set_cons_succ]
 obtain ⟨w3, hw3⟩ : ∃ w3 : World, w3 = w2.alloc (.cells (secA (empA 1)) 111) := ⟨_, rfl⟩
 obtain ⟨b1, hb1⟩ : ∃ b1, b1 = w2.heap.size := ⟨_, rfl⟩
 obtain ⟨bx, hbx⟩ : ∃ bx, bx = w1.heap.size := ⟨_, rfl⟩
 have HN3 : Hid (New w w3) := Lib.hid (HN2.out.tr (by rw [hw3]; exact New.al (New.refl _) _))
 have HB1 : Hid (Blk w3 b1 111 (secA (empA 1))) := Lib.hid (by rw [hw3, hb1]; exact Blk.new _ _ _)
 have HB03 : Hid (Blk w3 b0 111 (secA (List.replicate 1056 0))) := Lib.hid (by rw [hw3]; exact (New.al (New.refl _) _).blk HB02.out)
 have HZ3 : Hid (b0 = w.heap.size ∧ b0 < b1) := Lib.hid ⟨HZ.out, by rw [hb1]; exact HB02.out.lt⟩
 rw [← hw3, ← hb1, ← hbx]
 clear hw3 hb1 hbx HN2 HB02 HZ HE1 HA1 HH0
 go_wp2_with fail
 go_loopw [2] (fun i wr => ∃ (m : Nat), Hid (m ≤ 32) ∧ i = .int .i64 ((m + 1 : Nat) : Int) ∧ Hid (New w wr) ∧ Hid (Blk wr b0 111 (secA (List.replicate 1056 0))) ∧ Hid (Blk wr b1 111 (secA (empA (m + 1))))) (fun i _ => 33 - (intOf i).toNat)
 case atStart => exact ⟨0, Lib.hid (by omega), rfl, HN3, HB03, HB1⟩
 case round =>
  clear HN3 HB03 HB1
  obtain ⟨m, HM, rfl, HN, HB0, HB1⟩ := hrel
  obtain ⟨k, hk⟩ : ∃ k, k = m + 1 := ⟨_, rfl⟩
  have HK := Lib.hid hk
  rw [← hk] at HB1 ⊢
  clear hk
  by_cases hj : k < 33
  · have hlt : (k : Int) < 33 := by omega
    have HK2 := Lib.hid hj
    have e1 : (k : Int) - 1 = (m : Int) := by have := HK.out; omega
    have e2 : IntKind.i64.wrap (m : Int) = (m : Int) := IntWalk.i64_in _ (by have := HM.out; omega)
    have e3 : IntKind.i64.wrap ((k : Int) + 1) = (k : Int) + 1 := IntWalk.i64_in _ (by omega)
    have i1 : ¬ ((m : Int) < 0) := by omega
    have i2 : (m : Int) < 33 := by omega
    clear hj
    go_wp2_with fail
    have HEM : Hid ((empH m).length = 32 ∧ Byt (empH m) ∧ empH k = ndH k (empH m) (empH m) ∧ (secA (empH k)).size = 32) := Lib.hid ⟨empH_len m, empH_byt m, by rw [HK.out]; rfl, by rw [secA_size, empH_len]⟩
    have HRM0 : ∀ w', New wr w' → w'.rangeAt b1 (m * 32) (u8s (empH m)) := fun w' hN => by
     rw [Nat.mul_comm m 32, ← empA_at (k := k) (i := m) (by have := HK.out; omega)]
     exact cut_range (hN.blk HB1.out)
    have HRM := Lib.hid HRM0
    clear HRM0
    apply wp_join (α := Nat) (fun b w3 => New wr w3 ∧ Blk w3 b 50 (secA (empH k)))
    case h1 =>
     intro K' hK'
     refine wp_region_tree (New wr) (.take 0 (.take 1 (.take 2 (.take 3 (.take 4 (.take 5 (.take 6 (.take 7 (.take 8 (.two 9 (.take 10 (.take 11 (.take 12 (.act 13 (.act 14 (.take 15 .done)))))) 13 (.act 9 (.take 10 (.take 11 (.take 12 (.act 14 (.take 15 .done)))))))))))))))) (by kernel_rfl) (by kernel_rfl) (New.dr (New.refl wr)) (fun hne => ?_)
     iterate 4 (refine tree_take (o := ⟨_, _, _, _, _, _⟩) rfl (fun K hK => ?_); go_simp; refine hK _ ?_; clear hK K)
     refine tree_take_row (o := ⟨_, _, _, _, _, _⟩) (cs := u8s (empH m)) rfl rfl _ rfl rfl (fun w' h => HRM.out w' h) Tryz.underlying50 rfl (by rw [u8s_len, HEM.out.1]; rfl) ?_
     iterate 3 (refine tree_take (o := ⟨_, _, _, _, _, _⟩) rfl (fun K hK => ?_); go_simp; refine hK _ ?_; clear hK K)
     refine tree_take_row (o := ⟨_, _, _, _, _, _⟩) (cs := u8s (empH m)) rfl rfl _ rfl rfl (fun w' h => HRM.out w' h) Tryz.underlying50 rfl (by rw [u8s_len, HEM.out.1]; rfl) ?_
     simp only [Act.put, List.setIfInBounds_toArray, List.set_cons_zero, List.set_cons_succ]
     refine ⟨?_, ?_⟩
     · refine act_ok (o := ⟨_, _, _, _, _, _⟩) rfl (fun K hK => ?_) (.inl rfl)
       go_simp
       refine (njoin_any k (empH m) (empH m) wr.drew ((HL.out.new HN.out).new (New.dr (New.refl wr))) (by have := HK2.out; have := HK.out; omega) ⟨HEM.out.1, HEM.out.2.1⟩ ⟨HEM.out.1, HEM.out.2.1⟩).mono ?_
       rintro e w4 ⟨rfl, hN4⟩
       rw [← HEM.out.2.2.1]
       have HN4 : Hid (New wr w4) := Lib.hid ((New.dr (New.refl wr)).tr hN4)
       clear hN4
       go_simp
       refine hK.out _ _ HN4.out ?_
       clear hK K
       iterate 3 (refine tree_take (o := ⟨_, _, _, _, _, _⟩) rfl (fun K hK => ?_); go_simp; refine hK _ ?_; clear hK K)
       refine tree_act_alloc (o := ⟨_, _, _, _, _, _⟩) rfl rfl rfl hashInfoR ?_
       intro b3 w5 hb3 hB3 hN5
       have HL5 : Hid (wr.heap.size ≤ b3) := Lib.hid (by have := HN4.out.size; omega)
       refine ⟨HN4.out.tr hN5, ?_⟩
       clear hb3
       simp only [Act.put, List.setIfInBounds_toArray, List.set_cons_zero, List.set_cons_succ]
       refine act_store (o := ⟨_, _, _, _, _, _⟩) (cs := secA (empH k)) rfl rfl (.tmp 3) (.tmp 23) rfl (by rw [HEM.out.2.2.2]; rfl) rfl rfl hB3 (by rw [HEM.out.2.2.2]; rfl) (secA_one _) ?_
       intro w6 hB6 hF6
       have hN6 : New wr w6 := (HN4.out.tr hN5).fr hF6 (fun x hx => by have := HL5.out; omega)
       refine ⟨hN6, ?_⟩
       simp only [Act.put, List.setIfInBounds_toArray, List.set_cons_zero, List.set_cons_succ]
       iterate 1 (refine tree_take (o := ⟨_, _, _, _, _, _⟩) rfl (fun K hK => ?_); go_simp; refine hK _ ?_; clear hK K)
       refine tree_done ?_
       exact hK'.out b3 w6 ⟨hN6, hB6⟩
     · refine act_alloc (o := ⟨_, _, _, _, _, _⟩) rfl rfl rfl hashInfoR ?_
       intro b3 w5 hb3 hB3 hN5
       have HN5 : Hid (New wr w5) := Lib.hid ((New.dr (New.refl wr)).tr hN5)
       have HB5 := Lib.hid hB3
       have HL5 : Hid (wr.heap.size ≤ b3) := Lib.hid (by rw [hb3]; exact Nat.le_refl _)
       refine ⟨HN5.out, ?_⟩
       clear hb3 hB3 hN5
       simp only [Act.put, List.setIfInBounds_toArray, List.set_cons_zero, List.set_cons_succ]
       refine tree_act (o := ⟨_, _, _, _, _, _⟩) rfl (fun K hK => ?_) (.inl rfl)
       go_simp
       refine (njoin_any k (empH m) (empH m) w5 ((HL.out.new HN.out).new HN5.out) (by have := HK2.out; have := HK.out; omega) ⟨HEM.out.1, HEM.out.2.1⟩ ⟨HEM.out.1, HEM.out.2.1⟩).mono ?_
       rintro e w4 ⟨rfl, hN4⟩
       rw [← HEM.out.2.2.1]
       have HB4 := Lib.hid (hN4.blk HB5.out)
       have HN4 : Hid (New wr w4) := Lib.hid (HN5.out.tr hN4)
       clear hN4
       go_simp
       refine hK.out _ _ HN4.out ?_
       clear hK K
       iterate 3 (refine tree_take (o := ⟨_, _, _, _, _, _⟩) rfl (fun K hK => ?_); go_simp; refine hK _ ?_; clear hK K)
       refine act_store (o := ⟨_, _, _, _, _, _⟩) (cs := secA (empH k)) rfl rfl (.tmp 3) (.tmp 23) rfl (by rw [HEM.out.2.2.2]; rfl) rfl rfl HB4.out (by rw [HEM.out.2.2.2]; rfl) (secA_one _) ?_
       intro w6 hB6 hF6
       have hN6 : New wr w6 := HN4.out.fr hF6 (fun x hx => by have := HL5.out; omega)
       refine ⟨hN6, ?_⟩
       simp only [Act.put, List.setIfInBounds_toArray, List.set_cons_zero, List.set_cons_succ]
       iterate 1 (refine tree_take (o := ⟨_, _, _, _, _, _⟩) rfl (fun K hK => ?_); go_simp; refine hK _ ?_; clear hK K)
       refine tree_done ?_
       exact hK'.out b3 w6 ⟨hN6, hB6⟩
    case h2 =>
     rintro b3 w4 ⟨hN4, hB4⟩
     have HN4 : Hid (New w w4) := Lib.hid (HN.out.tr hN4)
     have HB4 := Lib.hid hB4
     have HB04 : Hid (Blk w4 b0 111 (secA (List.replicate 1056 0))) := Lib.hid (hN4.blk HB0.out)
     have HB14 : Hid (Blk w4 b1 111 (u8s (empA k)).toArray) := Lib.hid (hN4.blk HB1.out)
     have HST : Hid (splice (u8s (empA k)) (k * 32) (u8s (empH k)) = u8s (empA (k + 1))) := Lib.hid (by rw [Nat.mul_comm]; exact empA_step HK2.out)
     have HLE : Hid ((u8s (empA k)).length = 1056) := Lib.hid (by rw [u8s_len, empA_len (by have := HK2.out; omega)])
     clear hN4 hB4 HB0 HB1 HRM HN
     go_wp2_with (first
      | ((with_reducible refine atOp ⟨some 28, .load _ _, _, _, _, _⟩ ?_); refine wpList_load_any rfl _ rfl Tryz.underlying50 rfl (by rw [HEM.out.2.2.2]; rfl) rfl HB4.out ?_)
      | ((with_reducible refine atOp ⟨none, .store 50 (.tmp 29) _, _, _, _, _⟩ ?_); refine wpList_store_part (cells := u8s (empH k)) (off := k * 32) rfl (.tmp 29) (.tmp 28) rfl rfl rfl HB14.out (by rw [HLE.out, u8s_len, empH_len]; have := HK2.out; omega) (by rw [u8s_len, empH_len]; rfl) (u8s_one _) ?_; intro w5 hb5 hf5; have HB5 := Lib.hid hb5; have HF5 := Lib.hid hf5; clear hb5 hf5))
     go_roundw
     case rel => exact ⟨k, Lib.hid (by have := HK2.out; omega), by go_num, HN4.out.fr HF5.out (fun x hx => by have := HZ3.out; omega), HB04.out.fr HF5.out (by have := HZ3.out; omega), by have h := HB5.out; rw [HST.out] at h; exact h⟩
     case measure => simp [intOf]; have := HK2.out; omega
  · have hge : ¬ ((k : Int) < 33) := by omega
    have HKE : Hid (empA k = empA 33) := Lib.hid (by rw [show k = 33 by have := HM.out; have := HK.out; omega])
    have HSZ : Hid ((secA (empA 33)).size = 1056) := Lib.hid (by rw [secA_size, empA_len (by omega)])
    have HB1' : Hid (Blk wr b1 111 (secA (empA 33))) := Lib.hid (by rw [← HKE.out]; exact HB1.out)
    clear hj HB1 HKE
    go_wp2_with (first
        | ((with_reducible refine atOp ⟨some 30, .load _ _, _, _, _, _⟩ ?_); refine wpList_load_any rfl _ rfl Tryz.underlying111 rfl (by rw [HSZ.out]; rfl) rfl HB1'.out ?_)
        | ((with_reducible refine atOp ⟨none, .store 111 (.tmp 0) _, _, _, _, _⟩ ?_); refine wpList_store_any rfl (.tmp 0) (.tmp 30) rfl (by rw [HSZ.out]; rfl) rfl rfl HB0.out (by rw [HSZ.out]; rfl) (secA_one _) ?_; intro w5 hb5 hf5; have HB5 := Lib.hid hb5; have HF5 := Lib.hid hf5; clear hb5 hf5))
    exact bodyPost_ret (results_rowH rfl _ _ b0 _ _ rfl HB5.out Tryz.underlying111 rfl (by rw [HSZ.out]; rfl)) rfl ⟨rfl, HN.out.fr HF5.out (fun x hx => by have := HZ3.out; omega)⟩
end Go.Proofs.YtpifnmlnhddgeaaGreatDoor
