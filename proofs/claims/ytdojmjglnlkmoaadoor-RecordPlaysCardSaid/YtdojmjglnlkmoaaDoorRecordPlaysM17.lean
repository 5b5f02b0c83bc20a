/- Texts of one proof, one behind the other: NdC, NdE, RcG, RcO. No condition but each one's own. -/
import Derived.Test.YtdojmjglnlkmoaaDoorRecordPlaysM16
import Derived.Test.YtdojmjglnlkmoaaDoorRecordPlaysM15
import Derived.Test.YtdojmjglnlkmoaaDoorRecordPlaysM14
/- The roots of volumes without written blocks. sha's tables are as they were laid. No condition else. -/
namespace Go.Proofs.YtdojmjglnlkmoaaDoor
set_option linter.unusedVariables false
set_option linter.unusedSimpArgs false
set_option linter.constructorNameAsVariable false
open Go.RowKit Go.Sort

theorem empInfo : (Tryd.prog.info? 134).map (fun i => (i.zero, i.size)) = some (some (.agg (secA (List.replicate 1056 0))), 1056) := by kernel_rfl
theorem empA_1 : splice (u8s (List.replicate 1056 0)) 0 (u8s (hsh [0])) = u8s (empA 1) := by
  have e : u8s (List.replicate 1056 0) = u8s (List.replicate 32 0) ++ u8s (List.replicate 1024 0) := by unfold u8s; rw [← List.map_append, List.replicate_append_replicate]
  rw [e, splice_fst (by rw [u8s_len, u8s_len, hsh_len, List.length_replicate])]
  unfold empA u8s
  rw [← List.map_append]
  rfl
theorem built_emp : Tryd.prog.built 134 [(0, .agg (secA (hsh [0])))] = some (secA (empA 1)) := by
  have h := built_arr1 (P := Tryd.prog) (ys := u8s (hsh [0])) (zs := u8s (List.replicate 1056 0)) (n := 33) (e := 43) Tryd.underlying134 empInfo (by rw [u8s_len, hsh_len]; kernel_rfl) (by rw [u8s_len, u8s_len, hsh_len, List.length_replicate]; omega)
  rw [empA_1] at h
  exact h
theorem cut_range {w : World} {g T off n : Nat} {all : List Int} (hb : Blk w g T (secA all)) : w.rangeAt g off (u8s ((all.drop off).take n)) := fun j v hv => by
  rw [hb.cell]
  have hj := (List.getElem?_eq_some_iff.1 hv).1
  rw [u8s_len] at hj
  unfold secA
  rw [List.getElem?_toArray, ← hv]
  unfold u8s at *
  rw [List.length_take] at hj
  rw [List.getElem?_map, List.getElem?_map, List.getElem?_take_of_lt (by omega), List.getElem?_drop]
set_option maxHeartbeats 3000000
set_option maxRecDepth 100000
theorem empties_any (w : World) (hL : ShaIn 3 2 w) : Calls Tryd.prog 57 #[] w fun e w' => e = .returned (.agg (secA (empA 33))) ∧ New w w' := by
  have HL := Lib.hid hL
  have HE1 := Lib.hid built_emp
  have HA1 : Hid ((secA (empA 1)).size = 1056) := Lib.hid (by rw [secA_size, empA_len (by omega)])
  obtain ⟨h0, hh0⟩ : ∃ h0, h0 = hsh [0] := ⟨_, rfl⟩
  have HH0 := Lib.hid hh0
  clear hL hh0
  go_enter Tryd.func57, Tryd.ntmps57
  go_upto_region 1 with ((with_reducible refine atOp ⟨some 0, .alloc _, _, _, _, _⟩ ?_); refine wpList_alloc_row rfl rfl empInfo ?_; intro b0 w1 hb hB hN; have HB0 := Lib.hid hB; have HN1 := Lib.hid hN; have HZ := Lib.hid hb; clear hb hB hN)
  go_wp2_with fail
  have HR0 : Hid (Rd (fun _ => True) (w1.alloc (.cells #[.int .u8 0] 5)) 1 (some ⟨w1.heap.size, 0, none⟩) 1 (u8s [0])) := Lib.hid (by
    have h := Rd.ofBlk (p := fun _ => True) (Blk.new w1 5 #[.int .u8 0]) 1 1 (by rfl) trivial
    exact h)
  refine (sum_any (some ⟨w1.heap.size, 0, none⟩) 1 1 [0] _ ((HL.out.new HN1.out).new (New.al (New.refl _) _)) HR0.out (fun x hx => by simp at hx; omega) (by omega)).mono ?_
  rintro e w2 ⟨rfl, hN2⟩
  have HN2 : Hid (New w w2) := Lib.hid (HN1.out.tr ((New.al (New.refl _) _).tr hN2))
  have HB02 : Hid (Blk w2 b0 134 (secA (List.replicate 1056 0))) := Lib.hid (hN2.blk ((New.al (New.refl _) _).blk HB0.out))
  rw [← HH0.out] at HE1 ⊢
  clear hN2 HR0 HB0 HN1
  go_upto_region 2 with (first
    | ((with_reducible refine atOp ⟨some 7, .build _ _, _, _, _, _⟩ ?_); refine wpList_built rfl _ [(0, .tmp 6)] rfl _ rfl _ HE1.out ?_)
    | ((with_reducible refine atOp ⟨some 1, .alloc _, _, _, _, _⟩ ?_); refine wpList_newrow rfl rfl rfl _ _ rfl empInfo (by rfl) rfl rfl HA1.out (secA_one _) ?_))
  simp only [Act.put, List.setIfInBounds_toArray, List.set_cons_zero, List.set_cons_succ]
  obtain ⟨w3, hw3⟩ : ∃ w3 : World, w3 = w2.alloc (.cells (secA (empA 1)) 134) := ⟨_, rfl⟩
  obtain ⟨b1, hb1⟩ : ∃ b1, b1 = w2.heap.size := ⟨_, rfl⟩
  obtain ⟨bx, hbx⟩ : ∃ bx, bx = w1.heap.size := ⟨_, rfl⟩
  have HN3 : Hid (New w w3) := Lib.hid (HN2.out.tr (by rw [hw3]; exact New.al (New.refl _) _))
  have HB1 : Hid (Blk w3 b1 134 (secA (empA 1))) := Lib.hid (by rw [hw3, hb1]; exact Blk.new _ _ _)
  have HB03 : Hid (Blk w3 b0 134 (secA (List.replicate 1056 0))) := Lib.hid (by rw [hw3]; exact (New.al (New.refl _) _).blk HB02.out)
  have HZ3 : Hid (b0 = w.heap.size ∧ b0 < b1) := Lib.hid ⟨HZ.out, by rw [hb1]; exact HB02.out.lt⟩
  rw [← hw3, ← hb1, ← hbx]
  clear hw3 hb1 hbx HN2 HB02 HZ HE1 HA1 HH0
  go_wp2_with fail
  go_loopw [2] (fun i wr => ∃ (m : Nat), Hid (m ≤ 32) ∧ i = .int .i64 ((m + 1 : Nat) : Int) ∧ Hid (New w wr) ∧ Hid (Blk wr b0 134 (secA (List.replicate 1056 0))) ∧ Hid (Blk wr b1 134 (secA (empA (m + 1))))) (fun i _ => 33 - (intOf i).toNat)
  case atStart => exact ⟨0, Lib.hid (by omega), rfl, HN3, HB03, HB1⟩
  case round =>
    clear HN3 HB03 HB1
    obtain ⟨m, HM, rfl, HN, HB0, HB1⟩ := hrel
    obtain ⟨k, hk⟩ : ∃ k, k = m + 1 := ⟨_, rfl⟩
    have HK := Lib.hid hk
    rw [← hk] at HB1 ⊢
    clear hk
    by_cases hj : k < 33
    · have hlt : (k : Int) < 33 := by omega
      have HK2 := Lib.hid hj
      have e1 : (k : Int) - 1 = (m : Int) := by have := HK.out; omega
      have e2 : IntKind.i64.wrap (m : Int) = (m : Int) := IntWalk.i64_in _ (by have := HM.out; omega)
      have e3 : IntKind.i64.wrap ((k : Int) + 1) = (k : Int) + 1 := IntWalk.i64_in _ (by omega)
      have i1 : ¬ ((m : Int) < 0) := by omega
      have i2 : (m : Int) < 33 := by omega
      clear hj
      go_wp2_with fail
      have HEM : Hid ((empH m).length = 32 ∧ Byt (empH m) ∧ empH k = ndH k (empH m) (empH m) ∧ (secA (empH k)).size = 32) := Lib.hid ⟨empH_len m, empH_byt m, by rw [HK.out]; rfl, by rw [secA_size, empH_len]⟩
      have HRM0 : ∀ w', New wr w' → w'.rangeAt b1 (m * 32) (u8s (empH m)) := fun w' hN => by
        rw [Nat.mul_comm m 32, ← empA_at (k := k) (i := m) (by have := HK.out; omega)]
        exact cut_range (hN.blk HB1.out)
      have HRM := Lib.hid HRM0
      clear HRM0
      apply wp_join (α := Nat) (fun b w3 => New wr w3 ∧ Blk w3 b 43 (secA (empH k)))
      case h1 =>
        intro K' hK'
        refine wp_region_tree (New wr) (.take 0 (.take 1 (.take 2 (.take 3 (.take 4 (.take 5 (.take 6 (.take 7 (.take 8 (.two 9 (.take 10 (.take 11 (.take 12 (.act 13 (.act 14 (.take 15 .done)))))) 13 (.act 9 (.take 10 (.take 11 (.take 12 (.act 14 (.take 15 .done)))))))))))))))) (by kernel_rfl) (by kernel_rfl) (New.dr (New.refl wr)) (fun hne => ?_)
        iterate 4 (refine tree_take (o := ⟨_, _, _, _, _, _⟩) rfl (fun K hK => ?_); go_simp; refine hK _ ?_; clear hK K)
        refine tree_take_row (o := ⟨_, _, _, _, _, _⟩) (cs := u8s (empH m)) rfl rfl _ rfl rfl (fun w' h => HRM.out w' h) Tryd.underlying43 rfl (by rw [u8s_len, HEM.out.1]; rfl) ?_
        iterate 3 (refine tree_take (o := ⟨_, _, _, _, _, _⟩) rfl (fun K hK => ?_); go_simp; refine hK _ ?_; clear hK K)
        refine tree_take_row (o := ⟨_, _, _, _, _, _⟩) (cs := u8s (empH m)) rfl rfl _ rfl rfl (fun w' h => HRM.out w' h) Tryd.underlying43 rfl (by rw [u8s_len, HEM.out.1]; rfl) ?_
        simp only [Act.put, List.setIfInBounds_toArray, List.set_cons_zero, List.set_cons_succ]
        refine ⟨?_, ?_⟩
        · refine act_ok (o := ⟨_, _, _, _, _, _⟩) rfl (fun K hK => ?_) (.inl rfl)
          go_simp
          refine (njoin_any k (empH m) (empH m) wr.drew ((HL.out.new HN.out).new (New.dr (New.refl wr))) (by have := HK2.out; have := HK.out; omega) ⟨HEM.out.1, HEM.out.2.1⟩ ⟨HEM.out.1, HEM.out.2.1⟩).mono ?_
          rintro e w4 ⟨rfl, hN4⟩
          rw [← HEM.out.2.2.1]
          have HN4 : Hid (New wr w4) := Lib.hid ((New.dr (New.refl wr)).tr hN4)
          clear hN4
          go_simp
          refine hK.out _ _ HN4.out ?_
          clear hK K
          iterate 3 (refine tree_take (o := ⟨_, _, _, _, _, _⟩) rfl (fun K hK => ?_); go_simp; refine hK _ ?_; clear hK K)
          refine tree_act_alloc (o := ⟨_, _, _, _, _, _⟩) rfl rfl rfl hashInfoR ?_
          intro b3 w5 hb3 hB3 hN5
          have HL5 : Hid (wr.heap.size ≤ b3) := Lib.hid (by have := HN4.out.size; omega)
          refine ⟨HN4.out.tr hN5, ?_⟩
          clear hb3
          simp only [Act.put, List.setIfInBounds_toArray, List.set_cons_zero, List.set_cons_succ]
          refine act_store (o := ⟨_, _, _, _, _, _⟩) (cs := secA (empH k)) rfl rfl (.tmp 3) (.tmp 23) rfl (by rw [HEM.out.2.2.2]; rfl) rfl rfl hB3 (by rw [HEM.out.2.2.2]; rfl) (secA_one _) ?_
          intro w6 hB6 hF6
          have hN6 : New wr w6 := (HN4.out.tr hN5).fr hF6 (fun x hx => by have := HL5.out; omega)
          refine ⟨hN6, ?_⟩
          simp only [Act.put, List.setIfInBounds_toArray, List.set_cons_zero, List.set_cons_succ]
          iterate 1 (refine tree_take (o := ⟨_, _, _, _, _, _⟩) rfl (fun K hK => ?_); go_simp; refine hK _ ?_; clear hK K)
          refine tree_done ?_
          exact hK'.out b3 w6 ⟨hN6, hB6⟩
        · refine act_alloc (o := ⟨_, _, _, _, _, _⟩) rfl rfl rfl hashInfoR ?_
          intro b3 w5 hb3 hB3 hN5
          have HN5 : Hid (New wr w5) := Lib.hid ((New.dr (New.refl wr)).tr hN5)
          have HB5 := Lib.hid hB3
          have HL5 : Hid (wr.heap.size ≤ b3) := Lib.hid (by rw [hb3]; exact Nat.le_refl _)
          refine ⟨HN5.out, ?_⟩
          clear hb3 hB3 hN5
          simp only [Act.put, List.setIfInBounds_toArray, List.set_cons_zero, List.set_cons_succ]
          refine tree_act (o := ⟨_, _, _, _, _, _⟩) rfl (fun K hK => ?_) (.inl rfl)
          go_simp
          refine (njoin_any k (empH m) (empH m) w5 ((HL.out.new HN.out).new HN5.out) (by have := HK2.out; have := HK.out; omega) ⟨HEM.out.1, HEM.out.2.1⟩ ⟨HEM.out.1, HEM.out.2.1⟩).mono ?_
          rintro e w4 ⟨rfl, hN4⟩
          rw [← HEM.out.2.2.1]
          have HB4 := Lib.hid (hN4.blk HB5.out)
          have HN4 : Hid (New wr w4) := Lib.hid (HN5.out.tr hN4)
          clear hN4
          go_simp
          refine hK.out _ _ HN4.out ?_
          clear hK K
          iterate 3 (refine tree_take (o := ⟨_, _, _, _, _, _⟩) rfl (fun K hK => ?_); go_simp; refine hK _ ?_; clear hK K)
          refine act_store (o := ⟨_, _, _, _, _, _⟩) (cs := secA (empH k)) rfl rfl (.tmp 3) (.tmp 23) rfl (by rw [HEM.out.2.2.2]; rfl) rfl rfl HB4.out (by rw [HEM.out.2.2.2]; rfl) (secA_one _) ?_
          intro w6 hB6 hF6
          have hN6 : New wr w6 := HN4.out.fr hF6 (fun x hx => by have := HL5.out; omega)
          refine ⟨hN6, ?_⟩
          simp only [Act.put, List.setIfInBounds_toArray, List.set_cons_zero, List.set_cons_succ]
          iterate 1 (refine tree_take (o := ⟨_, _, _, _, _, _⟩) rfl (fun K hK => ?_); go_simp; refine hK _ ?_; clear hK K)
          refine tree_done ?_
          exact hK'.out b3 w6 ⟨hN6, hB6⟩
      case h2 =>
        rintro b3 w4 ⟨hN4, hB4⟩
        have HN4 : Hid (New w w4) := Lib.hid (HN.out.tr hN4)
        have HB4 := Lib.hid hB4
        have HB04 : Hid (Blk w4 b0 134 (secA (List.replicate 1056 0))) := Lib.hid (hN4.blk HB0.out)
        have HB14 : Hid (Blk w4 b1 134 (u8s (empA k)).toArray) := Lib.hid (hN4.blk HB1.out)
        have HST : Hid (splice (u8s (empA k)) (k * 32) (u8s (empH k)) = u8s (empA (k + 1))) := Lib.hid (by rw [Nat.mul_comm]; exact empA_step HK2.out)
        have HLE : Hid ((u8s (empA k)).length = 1056) := Lib.hid (by rw [u8s_len, empA_len (by have := HK2.out; omega)])
        clear hN4 hB4 HB0 HB1 HRM HN
        go_wp2_with (first
          | ((with_reducible refine atOp ⟨some 28, .load _ _, _, _, _, _⟩ ?_); refine wpList_load_any rfl _ rfl Tryd.underlying43 rfl (by rw [HEM.out.2.2.2]; rfl) rfl HB4.out ?_)
          | ((with_reducible refine atOp ⟨none, .store 43 (.tmp 29) _, _, _, _, _⟩ ?_); refine wpList_store_part (cells := u8s (empH k)) (off := k * 32) rfl (.tmp 29) (.tmp 28) rfl rfl rfl HB14.out (by rw [HLE.out, u8s_len, empH_len]; have := HK2.out; omega) (by rw [u8s_len, empH_len]; rfl) (u8s_one _) ?_; intro w5 hb5 hf5; have HB5 := Lib.hid hb5; have HF5 := Lib.hid hf5; clear hb5 hf5))
        go_roundw
        case rel => exact ⟨k, Lib.hid (by have := HK2.out; omega), by go_num, HN4.out.fr HF5.out (fun x hx => by have := HZ3.out; omega), HB04.out.fr HF5.out (by have := HZ3.out; omega), by have h := HB5.out; rw [HST.out] at h; exact h⟩
        case measure => simp [intOf]; have := HK2.out; omega
    · have hge : ¬ ((k : Int) < 33) := by omega
      have HKE : Hid (empA k = empA 33) := Lib.hid (by rw [show k = 33 by have := HM.out; have := HK.out; omega])
      have HSZ : Hid ((secA (empA 33)).size = 1056) := Lib.hid (by rw [secA_size, empA_len (by omega)])
      have HB1' : Hid (Blk wr b1 134 (secA (empA 33))) := Lib.hid (by rw [← HKE.out]; exact HB1.out)
      clear hj HB1 HKE
      go_wp2_with (first
          | ((with_reducible refine atOp ⟨some 30, .load _ _, _, _, _, _⟩ ?_); refine wpList_load_any rfl _ rfl Tryd.underlying134 rfl (by rw [HSZ.out]; rfl) rfl HB1'.out ?_)
          | ((with_reducible refine atOp ⟨none, .store 134 (.tmp 0) _, _, _, _, _⟩ ?_); refine wpList_store_any rfl (.tmp 0) (.tmp 30) rfl (by rw [HSZ.out]; rfl) rfl rfl HB0.out (by rw [HSZ.out]; rfl) (secA_one _) ?_; intro w5 hb5 hf5; have HB5 := Lib.hid hb5; have HF5 := Lib.hid hf5; clear hb5 hf5))
      exact bodyPost_ret (results_rowH rfl _ _ b0 _ _ rfl HB5.out Tryd.underlying134 rfl (by rw [HSZ.out]; rfl)) rfl ⟨rfl, HN.out.fr HF5.out (fun x hx => by have := HZ3.out; omega)⟩
end Go.Proofs.YtdojmjglnlkmoaaDoor
/- The root of a volume without written blocks. sha's tables are as they were laid. No condition else but the height. -/
namespace Go.Proofs.YtdojmjglnlkmoaaDoor
set_option linter.unusedVariables false
set_option linter.unusedSimpArgs false
set_option linter.constructorNameAsVariable false
open Go.RowKit Go.Sort

set_option maxHeartbeats 2000000
set_option maxRecDepth 100000
theorem empty_any (h : Nat) (w : World) (hL : ShaIn 3 2 w) (hh : h ≤ 32) : Calls Tryd.prog 39 #[.int .i64 h] w fun e w' => e = .returned (.tuple #[.agg (secA (empH h)), .nilIface]) ∧ New w w' := by
  have HL := Lib.hid hL
  have q1 : ¬ ((h : Int) < 0) := by omega
  have q2 : ¬ ((33 : Int) ≤ (h : Int)) := by omega
  have q3 : (h : Int) < 33 := by omega
  have HH := Lib.hid hh
  have HSZ : Hid ((secA (empA 33)).size = 1056) := Lib.hid (by rw [secA_size, empA_len (by omega)])
  have HS32 : Hid ((secA (empH h)).size = 32) := Lib.hid (by rw [secA_size, empH_len])
  clear hL hh
  go_enter Tryd.func39, Tryd.ntmps39
  go_upto_region 1 with ((with_reducible refine atOp ⟨some 2, .alloc _, _, _, _, _⟩ ?_); refine wpList_alloc_row rfl rfl hashInfoR ?_; intro b2 w1 hb hB hN; have HB2 := Lib.hid hB; have HN1 := Lib.hid hN; have HZ := Lib.hid hb; clear hb hB hN)
  go_wp2_with fail
  refine (empties_any w1 (HL.out.new HN1.out)).mono ?_
  rintro e w2 ⟨rfl, hN2⟩
  have HN2 : Hid (New w w2) := Lib.hid (HN1.out.tr hN2)
  have HB22 : Hid (Blk w2 b2 43 (secA (List.replicate 32 0))) := Lib.hid (hN2.blk HB2.out)
  clear hN2 HB2
  go_upto_region 2 with ((with_reducible refine atOp ⟨some 4, .alloc _, _, _, _, _⟩ ?_); refine wpList_newrow rfl rfl rfl _ _ rfl empInfo (by rfl) rfl rfl HSZ.out (secA_one _) ?_)
  simp only [Act.put, List.setIfInBounds_toArray, List.set_cons_zero, List.set_cons_succ]
  obtain ⟨w3, hw3⟩ : ∃ w3 : World, w3 = w2.alloc (.cells (secA (empA 33)) 134) := ⟨_, rfl⟩
  obtain ⟨b4, hb4⟩ : ∃ b4, b4 = w2.heap.size := ⟨_, rfl⟩
  have HN3 : Hid (New w w3) := Lib.hid (HN2.out.tr (by rw [hw3]; exact New.al (New.refl _) _))
  have HB4 : Hid (w3.rangeAt b4 (h * 32) (u8s (empH h))) := Lib.hid (by
    rw [Nat.mul_comm h 32, ← empA_at (k := 33) (i := h) (by have := HH.out; omega)]
    exact cut_range (T := 134) (by rw [hw3, hb4]; exact Blk.new _ _ _))
  have HB23 : Hid (Blk w3 b2 43 (secA (List.replicate 32 0))) := Lib.hid (by rw [hw3]; exact (New.al (New.refl _) _).blk HB22.out)
  rw [← hw3, ← hb4]
  clear hw3 hb4 HSZ HN2 HB22
  go_wp2_with (first
    | ((with_reducible refine atOp ⟨some 16, .load _ _, _, _, _, _⟩ ?_); refine wpList_load_range rfl _ rfl rfl HB4.out Tryd.underlying43 rfl (by rw [u8s_len, empH_len]; rfl) ?_)
    | ((with_reducible refine atOp ⟨none, .store 43 (.tmp 2) _, _, _, _, _⟩ ?_); refine wpList_store_any rfl (.tmp 2) (.tmp 16) rfl (by show _ = some (secA (empH h)).size; rw [HS32.out]; rfl) rfl rfl HB23.out (by show _ = (secA (empH h)).size; rw [HS32.out]; rfl) (secA_one _) ?_; intro w5 hb5 hf5; have HB5 := Lib.hid hb5; have HF5 := Lib.hid hf5; clear hb5 hf5))
  exact bodyPost_ret (results_row2h rfl _ _ b2 _ _ rfl HB5.out Tryd.underlying43 rfl (by show _ = some (secA (empH h)).size; rw [HS32.out]; rfl)) rfl ⟨rfl, HN3.out.fr HF5.out (fun x hx => by have := HZ.out; omega)⟩
end Go.Proofs.YtdojmjglnlkmoaaDoor
/- The record in a slot of a disk. sha's tables are as they were laid. No condition else but the disk's size. -/
namespace Go.Proofs.YtdojmjglnlkmoaaDoor
set_option linter.unusedVariables false
set_option linter.unusedSimpArgs false
set_option linter.constructorNameAsVariable false
open Go.RowKit Go.Sort

theorem recInfo : (Tryd.prog.info? 48).map (fun i => (i.zero, i.size)) = some (some (.agg rc0.cells), 37) := by kernel_rfl
set_option maxRecDepth 100000 in
theorem res3 {fn : Func} {p q t : Tmp} (h : fn.results = #[.tmp q, .cell p 48, .tmp t]) (tmps : Array Value) (w : World) (g : Nat) (r : Rc) (hp : tmps.getD p undef = .pointer (some ⟨g, 0, none⟩)) (hg : Blk w g 48 r.cells) (hi : r.cells.size = 37) : (results fn tmps).run Tryd.prog w = .ok (.tuple #[tmps.getD q undef, .agg r.cells, tmps.getD t undef]) w := by
  have hp' : tmps[p]?.getD undef = .pointer (some ⟨g, 0, none⟩) := by simpa using hp
  simp [results, h, hp', asAddr, run_loadVar_row w g 48 48 r.cells (0, 0) _ hg Tryd.underlying48 rfl (by rw [hi]; rfl)]
theorem num_ok {s : Rs} (h0 : s.e = 0) (k : Nat) (hl : k ≤ s.xs.length) : s.num k = (valL (s.xs.take k), ⟨s.xs.drop k, 0⟩) := by
  unfold Rs.num Rs.raw Rs.left
  rw [if_pos h0, if_neg (by omega), h0]
theorem cutL_sec {b : List Int} {k i n : Nat} (h : i + n ≤ 64) : ((sec2 b k).drop i).take n = cutL b (64 * k + i) n := by
  unfold cutL sec2
  rw [List.drop_take, List.take_take, Nat.min_eq_left (by omega), List.drop_drop]
theorem rd_range {w : World} {b off : Nat} {xs : List Value} {n : Nat} (h : w.rangeAt b off xs) (hb : b < w.heap.size) (hn : xs.length = n) : Rd (fun _ => True) w 1 (some ⟨b, off, none⟩) n xs := by
  subst hn
  refine ⟨by omega, fun _ => ⟨_, rfl, trivial, hb, fun j u hu => ?_⟩⟩
  have := h j u hu
  rw [show (⟨b, off, none⟩ : Addr).add j = ⟨b, off + j, none⟩ from by
    unfold Addr.add
    by_cases hj : j = 0
    · subst hj; simp
    · simp [hj]]
  exact this
theorem rnumAt {w : World} {g k i : Nat} {al : List Int} (h : RdIn w g ⟨(sec2 al k).drop i, 0⟩) (hS : SecOk (sec2 al k)) (hi : i + 8 ≤ 64) :
    Calls Tryd.prog 48 #[.pointer (some ⟨g, 0, none⟩), .int .i64 8] w fun x w' => x = .returned (.int .u64 (valL (cutL al (64 * k + i) 8) : Nat)) ∧ RdIn w' g ⟨(sec2 al k).drop (i + 8), 0⟩ ∧ Fr (fun b => b = g) w w' := by
  refine (rnum_any h 8 (by omega)).mono ?_
  have e := num_ok (s := ⟨(sec2 al k).drop i, 0⟩) rfl 8 (by show 8 ≤ ((sec2 al k).drop i).length; rw [List.length_drop, hS.1]; omega)
  rw [e]
  rintro x w' ⟨rfl, h2, h3⟩
  refine ⟨?_, ?_, h3⟩
  · show Ending.returned (.int .u64 (valL (((sec2 al k).drop i).take 8) : Nat)) = _
    rw [cutL_sec hi]
  · have h2 : RdIn w' g ⟨((sec2 al k).drop i).drop 8, 0⟩ := h2
    rw [List.drop_drop] at h2
    exact h2
theorem rhashAt {w : World} {g k i : Nat} {al : List Int} (h : RdIn w g ⟨(sec2 al k).drop i, 0⟩) (hS : SecOk (sec2 al k)) (hi : i + 32 ≤ 64) :
    Calls Tryd.prog 49 #[.pointer (some ⟨g, 0, none⟩)] w fun x w' => x = .returned (.agg (secA (cutL al (64 * k + i) 32))) ∧ RdIn w' g ⟨(sec2 al k).drop (i + 32), 0⟩ ∧ Fr (fun b => b = g) w w' := by
  refine (rhash_any h rfl (by show 32 ≤ ((sec2 al k).drop i).length; rw [List.length_drop, hS.1]; omega)).mono ?_
  rintro x w' ⟨rfl, h2, h3⟩
  refine ⟨?_, ?_, h3⟩
  · show Ending.returned (.agg (secA (((sec2 al k).drop i).take 32))) = _
    rw [cutL_sec hi]
  · have h2 : RdIn w' g ⟨((sec2 al k).drop i).drop 32, 0⟩ := h2
    rw [List.drop_drop] at h2
    exact h2
/-- What the two sectors make of the pair. -/
def accL (p : DP) (sl k : Nat) : List Int := if k = 0 then List.replicate 128 0 else if k = 1 then p.rget ((2 * sl : Nat) : Int) ++ List.replicate 64 0 else slotB p sl
set_option maxHeartbeats 3000000 in
set_option maxRecDepth 100000 in
theorem rget_any {w : World} {gd base bs bf : Nat} {v : Value} {p : DP} (hD : Dk w base gd bs bf v p) (hL : ShaIn 3 2 w) (sl : Nat) (hs : sl < 2) (hp : 4 ≤ p.size) :
    Calls Tryd.prog 32 #[.pointer (some ⟨gd, 0, none⟩), .int .i64 sl] w fun e w' => e = .returned (.tuple #[.int .u64 (getN sl (slotB p sl)), .agg (getR sl (slotB p sl)).cells, .nilIface]) ∧ New w w' := by
  have HD := Lib.hid hD
  have HL := Lib.hid hL
  have HS := Lib.hid (And.intro hs hp)
  have HBK := Lib.hid (slotB_ok hD.ok sl)
  have HRG : Hid (∀ a, SecOk (p.rget a)) := Lib.hid (fun a => hD.ok.rget a)
  have z0 : IntKind.i64.wrap 0 = 0 := by decide
  have z1 : IntKind.i64.wrap 1 = 1 := by decide
  have z2 : IntKind.i64.wrap 2 = 2 := by decide
  have z64 : IntKind.i64.wrap 64 = 64 := by decide
  obtain ⟨m2, hm2⟩ : ∃ m2, m2 = 2 * sl := ⟨_, rfl⟩
  have HM2 := Lib.hid hm2
  have e2 : 2 * (sl : Int) = (m2 : Int) := by omega
  have e3 : IntKind.i64.wrap (m2 : Int) = (m2 : Int) := IntWalk.i64_in _ (by omega)
  obtain ⟨m3, hm3⟩ : ∃ m3, m3 = m2 + 1 := ⟨_, rfl⟩
  have HM3 := Lib.hid hm3
  have e4 : (m2 : Int) + 1 = (m3 : Int) := by omega
  have e5 : IntKind.i64.wrap (m3 : Int) = (m3 : Int) := IntWalk.i64_in _ (by omega)
  have HA0 : Hid (accL p sl 0 = List.replicate 128 0) := Lib.hid rfl
  have HA1 : Hid (accL p sl 1 = p.rget (m2 : Int) ++ List.replicate 64 0) := Lib.hid (by rw [hm2]; rfl)
  have HA2 : Hid (accL p sl 2 = p.rget (m2 : Int) ++ p.rget (m3 : Int) ∧ accL p sl 2 = slotB p sl) := Lib.hid ⟨by rw [hm3, hm2]; rfl, rfl⟩
  have HRC : Hid (p.rcode (m2 : Int) = 0 ∧ p.rcode (m3 : Int) = 0) := Lib.hid (by
    have h1 : p.within (m2 : Int) = true := decide_eq_true (by omega)
    have h2 : p.within (m3 : Int) = true := decide_eq_true (by omega)
    unfold DP.rcode
    rw [if_pos h1, if_pos h2]
    exact ⟨rfl, rfl⟩)
  clear hD hL hs hp hm2 hm3
  go_enter Tryd.func32, Tryd.ntmps32
  go_upto_region 2 with fail
  obtain ⟨w1, hw1⟩ : ∃ w1 : World, w1 = (w.alloc (.cells #[.int .u8 0, .int .u8 0, .int .u8 0, .int .u8 0, .int .u8 0, .int .u8 0, .int .u8 0, .int .u8 0, .int .u8 0, .int .u8 0, .int .u8 0, .int .u8 0, .int .u8 0, .int .u8 0, .int .u8 0, .int .u8 0, .int .u8 0, .int .u8 0, .int .u8 0, .int .u8 0, .int .u8 0, .int .u8 0, .int .u8 0, .int .u8 0, .int .u8 0, .int .u8 0, .int .u8 0, .int .u8 0, .int .u8 0, .int .u8 0, .int .u8 0, .int .u8 0, .int .u64 0, .int .u64 0, .int .u64 0, .int .u64 0, .int .u64 0] 48)).alloc (.cells Tryd.zeroCells100 100) := ⟨_, rfl⟩
  obtain ⟨b5, hb5⟩ : ∃ b5, b5 = w.heap.size := ⟨_, rfl⟩
  obtain ⟨b7, hb7⟩ : ∃ b7, b7 = w.heap.size + 1 := ⟨_, rfl⟩
  have hz : Tryd.zeroCells100 = secA (List.replicate 128 0) := by kernel_rfl
  have HN1 : Hid (New w w1) := Lib.hid (by rw [hw1]; exact New.al (New.al (New.refl _) _) _)
  have HB5 : Hid (Blk w1 b5 48 rc0.cells) := Lib.hid (by rw [hw1, hb5, zero37]; exact (Blk.new _ _ _).alloc _)
  have HB7 : Hid (Blk w1 b7 100 (secA (accL p sl 0))) := Lib.hid (by rw [hw1, hb7, HA0.out, ← hz]; exact Blk.new' _ _ _ (by simp))
  have HZ : Hid (b5 = w.heap.size ∧ b7 = w.heap.size + 1) := Lib.hid ⟨hb5, hb7⟩
  rw [← hw1, ← hb7, ← hb5]
  clear hw1 hb5 hb7 hz
  go_wp2_with fail
  go_loopw [17] (fun i wr => ∃ (j : Nat), Hid (j ≤ 2) ∧ i = .int .i64 (j : Int) ∧ Hid (New w wr) ∧ Hid (Blk wr b5 48 rc0.cells) ∧ Hid (Blk wr b7 100 (secA (accL p sl j)))) (fun i _ => 2 - (intOf i).toNat)
  case atStart => exact ⟨0, Lib.hid (by omega), rfl, HN1, HB5, HB7⟩
  case round =>
    clear HB5 HB7
    obtain ⟨j, HJ, rfl, HN, HB5, HB7⟩ := hrel
    rcases (show j = 0 ∨ j = 1 ∨ j = 2 by have := HJ.out; omega) with rfl | rfl | rfl
    · have HSO : Hid (SecOk (p.rget (m2 : Int))) := Lib.hid (HRG.out _)
      go_wp2_with fail
      refine (read_all (HD.out.new HN.out) (m2 : Int)).mono ?_
      rintro e w2 ⟨rfl, hN2⟩
      rw [HRC.out.1, errD_0]
      obtain ⟨sc, hsc⟩ : ∃ sc, sc = p.rget (m2 : Int) := ⟨_, rfl⟩
      have HSC := Lib.hid hsc
      rw [← hsc] at HSO ⊢
      have HN2 : Hid (New w w2) := Lib.hid (HN.out.tr hN2)
      have HB52 : Hid (Blk w2 b5 48 rc0.cells) := Lib.hid (hN2.blk HB5.out)
      have HB72 : Hid (Blk w2 b7 100 (u8s (accL p sl 0)).toArray) := Lib.hid (hN2.blk HB7.out)
      clear hN2 hsc
      go_upto_region 6 with ((with_reducible refine atOp ⟨some 9, .alloc _, _, _, _, _⟩ ?_); refine wpList_newvar (s := sc) rfl rfl rfl _ _ rfl secInfo rfl rfl rfl HSO.out.1 ?_)
      obtain ⟨w3, hw3⟩ : ∃ w3 : World, w3 = w2.alloc (.cells (secA sc) 23) := ⟨_, rfl⟩
      obtain ⟨b9, hb9⟩ : ∃ b9, b9 = w2.heap.size := ⟨_, rfl⟩
      have HN3 : Hid (New w2 w3) := Lib.hid (by rw [hw3]; exact New.al (New.refl _) _)
      have HB9 : Hid (Blk w3 b9 23 (secA sc)) := Lib.hid (by rw [hw3, hb9]; exact Blk.new _ _ _)
      have HB53 : Hid (Blk w3 b5 48 rc0.cells) := Lib.hid (HN3.out.blk HB52.out)
      have HB73 : Hid (Blk w3 b7 100 (u8s (accL p sl 0)).toArray) := Lib.hid (HN3.out.blk HB72.out)
      have HNw3 : Hid (New w w3) := Lib.hid (HN2.out.tr HN3.out)
      rw [← hw3, ← hb9]
      clear hw3 hb9 HB52 HB72 HB5 HB7 HN
      go_upto_region 8 with fail
      have HRS : Hid (Rd (fun _ => True) w3 1 (some ⟨b9, 0, none⟩) 64 (u8s sc)) := Lib.hid (by
        have h := Rd.ofBlk (p := fun _ => True) HB9.out 1 64 (by rw [secA_size, HSO.out.1]) trivial
        rw [secA_list] at h
        exact h)
      have HSL : Hid ((u8s sc).length = 64) := Lib.hid (by rw [u8s_len, HSO.out.1])
      have HAL : Hid ((u8s (accL p sl 0)).length = 128) := Lib.hid (by rw [u8s_len, HA0.out]; simp [(HRG.out _).1])
      have HSP : Hid ((splice (u8s (accL p sl 0)) (0) (u8s sc)).toArray = secA (accL p sl (0 + 1))) := Lib.hid (by
        have hl := (HRG.out (m2 : Int)).1
        unfold splice secA
        rw [HSL.out, HSC.out]
        show _ = (u8s (accL p sl 1)).toArray
        rw [HA1.out, HA0.out]
        simp [u8s, hl])
      refine wp_region_mixH (fun _ => True) [(true, 0), (true, 1), (true, 2), (true, 3), (false, 4)] (by kernel_rfl) (by kernel_rfl) trivial (fun hne => ?_)
      iterate 4 (refine mix_take (o := ⟨_, _, _, _, _, _⟩) rfl (fun K hK => ?_); go_simp; refine hK _ ?_; clear hK K)
      refine mix_copyF (o := ⟨_, _, _, _, _, _⟩) (q := fun _ => True) rfl rfl (.tmp 35) (.tmp 36) 96 96 rfl 5 Tryd.underlying96 rfl b7 (0) (128) _ (some ⟨b9, 0, none⟩) 64 _ rfl rfl (u8s (accL p sl 0)) 100 ((New.dr (New.refl w3)).blk HB73.out) (u8s sc) (by rw [HSL.out]; rfl) ⟨64, u8s sc, (New.dr (New.refl w3)).rd HRS.out, List.take_length⟩ (by rw [HAL.out, HSL.out]; decide) (u8s_one _) ?_
      intro w4 hb4 hf4
      have hf4 := Fr.ofDrew hf4
      rw [HSP.out] at hb4
      have HB74 := Lib.hid hb4
      have HB54 : Hid (Blk w4 b5 48 rc0.cells) := Lib.hid (HB53.out.fr hf4 (by have := HZ.out; omega))
      have HN4 : Hid (New w w4) := Lib.hid (HNw3.out.fr hf4 (fun k hk => by have := HZ.out; omega))
      clear hb4 hf4
      refine ⟨fun _ => trivial, ?_⟩
      refine mix_done ?_
      go_wp2_with fail
      go_roundw
      case rel => exact ⟨0 + 1, Lib.hid (by omega), by go_num, HN4, HB54, HB74⟩
      case measure => simp [intOf]
    · have HSO : Hid (SecOk (p.rget (m3 : Int))) := Lib.hid (HRG.out _)
      go_wp2_with fail
      refine (read_all (HD.out.new HN.out) (m3 : Int)).mono ?_
      rintro e w2 ⟨rfl, hN2⟩
      rw [HRC.out.2, errD_0]
      obtain ⟨sc, hsc⟩ : ∃ sc, sc = p.rget (m3 : Int) := ⟨_, rfl⟩
      have HSC := Lib.hid hsc
      rw [← hsc] at HSO ⊢
      have HN2 : Hid (New w w2) := Lib.hid (HN.out.tr hN2)
      have HB52 : Hid (Blk w2 b5 48 rc0.cells) := Lib.hid (hN2.blk HB5.out)
      have HB72 : Hid (Blk w2 b7 100 (u8s (accL p sl 1)).toArray) := Lib.hid (hN2.blk HB7.out)
      clear hN2 hsc
      go_upto_region 6 with ((with_reducible refine atOp ⟨some 9, .alloc _, _, _, _, _⟩ ?_); refine wpList_newvar (s := sc) rfl rfl rfl _ _ rfl secInfo rfl rfl rfl HSO.out.1 ?_)
      obtain ⟨w3, hw3⟩ : ∃ w3 : World, w3 = w2.alloc (.cells (secA sc) 23) := ⟨_, rfl⟩
      obtain ⟨b9, hb9⟩ : ∃ b9, b9 = w2.heap.size := ⟨_, rfl⟩
      have HN3 : Hid (New w2 w3) := Lib.hid (by rw [hw3]; exact New.al (New.refl _) _)
      have HB9 : Hid (Blk w3 b9 23 (secA sc)) := Lib.hid (by rw [hw3, hb9]; exact Blk.new _ _ _)
      have HB53 : Hid (Blk w3 b5 48 rc0.cells) := Lib.hid (HN3.out.blk HB52.out)
      have HB73 : Hid (Blk w3 b7 100 (u8s (accL p sl 1)).toArray) := Lib.hid (HN3.out.blk HB72.out)
      have HNw3 : Hid (New w w3) := Lib.hid (HN2.out.tr HN3.out)
      rw [← hw3, ← hb9]
      clear hw3 hb9 HB52 HB72 HB5 HB7 HN
      go_upto_region 8 with fail
      have HRS : Hid (Rd (fun _ => True) w3 1 (some ⟨b9, 0, none⟩) 64 (u8s sc)) := Lib.hid (by
        have h := Rd.ofBlk (p := fun _ => True) HB9.out 1 64 (by rw [secA_size, HSO.out.1]) trivial
        rw [secA_list] at h
        exact h)
      have HSL : Hid ((u8s sc).length = 64) := Lib.hid (by rw [u8s_len, HSO.out.1])
      have HAL : Hid ((u8s (accL p sl 1)).length = 128) := Lib.hid (by rw [u8s_len, HA1.out]; simp [(HRG.out _).1])
      have HSP : Hid ((splice (u8s (accL p sl 1)) (64) (u8s sc)).toArray = secA (accL p sl (1 + 1))) := Lib.hid (by
        have hl := (HRG.out (m2 : Int)).1
        unfold splice secA
        rw [HSL.out, HSC.out]
        show _ = (u8s (accL p sl 2)).toArray
        rw [HA2.out.1, HA1.out]
        simp [u8s, hl])
      refine wp_region_mixH (fun _ => True) [(true, 0), (true, 1), (true, 2), (true, 3), (false, 4)] (by kernel_rfl) (by kernel_rfl) trivial (fun hne => ?_)
      iterate 4 (refine mix_take (o := ⟨_, _, _, _, _, _⟩) rfl (fun K hK => ?_); go_simp; refine hK _ ?_; clear hK K)
      refine mix_copyF (o := ⟨_, _, _, _, _, _⟩) (q := fun _ => True) rfl rfl (.tmp 35) (.tmp 36) 96 96 rfl 5 Tryd.underlying96 rfl b7 (64) (64) _ (some ⟨b9, 0, none⟩) 64 _ rfl rfl (u8s (accL p sl 1)) 100 ((New.dr (New.refl w3)).blk HB73.out) (u8s sc) (by rw [HSL.out]; rfl) ⟨64, u8s sc, (New.dr (New.refl w3)).rd HRS.out, List.take_length⟩ (by rw [HAL.out, HSL.out]; decide) (u8s_one _) ?_
      intro w4 hb4 hf4
      have hf4 := Fr.ofDrew hf4
      rw [HSP.out] at hb4
      have HB74 := Lib.hid hb4
      have HB54 : Hid (Blk w4 b5 48 rc0.cells) := Lib.hid (HB53.out.fr hf4 (by have := HZ.out; omega))
      have HN4 : Hid (New w w4) := Lib.hid (HNw3.out.fr hf4 (fun k hk => by have := HZ.out; omega))
      clear hb4 hf4
      refine ⟨fun _ => trivial, ?_⟩
      refine mix_done ?_
      go_wp2_with fail
      go_roundw
      case rel => exact ⟨1 + 1, Lib.hid (by omega), by go_num, HN4, HB54, HB74⟩
      case measure => simp [intOf]
    · obtain ⟨al, hal⟩ : ∃ al, al = slotB p sl := ⟨_, rfl⟩
      have HAL := Lib.hid hal
      have HAB : Hid (al.length = 128 ∧ Byt al) := Lib.hid (by rw [hal]; exact HBK.out)
      have HB7a : Hid (Blk wr b7 100 (secA al)) := Lib.hid (by rw [hal, ← HA2.out.2]; exact HB7.out)
      have HSO0 : Hid (SecOk (sec2 al 0)) := Lib.hid (sec2_ok HAB.out.1 HAB.out.2 (by omega))
      have HSO1 : Hid (SecOk (sec2 al 1)) := Lib.hid (sec2_ok HAB.out.1 HAB.out.2 (by omega))
      clear hal HB7
      go_wp2_with fail
      refine wp_region_mixH (fun _ => True) [(true, 0), (true, 2), (false, 1), (false, 3), (true, 4), (true, 5)] (by kernel_rfl) (by kernel_rfl) trivial (fun hne => ?_)
      iterate 2 (refine mix_take (o := ⟨_, _, _, _, _, _⟩) rfl (fun K hK => ?_); go_simp; refine hK _ ?_; clear hK K)
      refine mix_act (o := ⟨_, _, _, _, _, _⟩) rfl (fun K hK => ?_) (.inl rfl)
      go_simp
      refine (from_any (some ⟨b7, 0, none⟩) 64 _ (sec2 al 0) wr.drew ((New.dr (New.refl wr)).rd (rd_range (sec2_range (i := 0) HB7a.out) HB7a.out.lt (by rw [u8s_len, HSO0.out.1]))) HSO0.out.2 (by omega)).mono ?_
      rintro e w2 ⟨ga, rfl, hRa, hN2, hga⟩
      have HN2 : Hid (New wr w2) := Lib.hid ((New.dr (New.refl wr)).tr hN2)
      have HRA := Lib.hid hRa
      have HGA : Hid (wr.heap.size ≤ ga) := Lib.hid hga
      clear hRa hN2 hga
      go_simp
      refine hK.out _ _ (fun _ => trivial) ?_
      clear hK K
      refine mix_act (o := ⟨_, _, _, _, _, _⟩) rfl (fun K hK => ?_) (.inl rfl)
      go_simp
      refine (from_any (some ⟨b7, 64, none⟩) 64 _ (sec2 al 1) w2 (rd_range (sec2_range (i := 1) (HN2.out.blk HB7a.out)) (HN2.out.blk HB7a.out).lt (by rw [u8s_len, HSO1.out.1])) HSO1.out.2 (by omega)).mono ?_
      rintro e w3 ⟨gb, rfl, hRb, hN3, hgb⟩
      have HN3 : Hid (New wr w3) := Lib.hid (HN2.out.tr hN3)
      have HRA3 : Hid (RdIn w3 ga ⟨sec2 al 0, 0⟩) := Lib.hid (HRA.out.new hN3)
      have HRB := Lib.hid hRb
      have HGB : Hid (wr.heap.size ≤ ga ∧ ga < gb) := Lib.hid ⟨HGA.out, by have := HRA.out.lt; omega⟩
      clear hRb hN3 hgb HRA HGA
      go_simp
      refine hK.out _ _ (fun _ => trivial) ?_
      clear hK K
      iterate 2 (refine mix_take (o := ⟨_, _, _, _, _, _⟩) rfl (fun K hK => ?_); go_simp; refine hK _ ?_; clear hK K)
      refine mix_done ?_
      have HB73 : Hid (Blk w3 b7 100 (secA al)) := Lib.hid (HN3.out.blk HB7a.out)
      have HB53 : Hid (Blk w3 b5 48 rc0.cells) := Lib.hid (HN3.out.blk HB5.out)
      have HNw3 : Hid (New w w3) := Lib.hid (HN.out.tr HN3.out)
      have HBL : Hid (b5 ≠ ga ∧ b5 ≠ gb ∧ b7 ≠ ga ∧ b7 ≠ gb ∧ w.heap.size ≤ ga ∧ w.heap.size ≤ gb) := Lib.hid (by have h1 := HB5.out.lt; have h2 := HB7a.out.lt; have h3 := HGB.out; have h4 := HN.out.size; omega)
      clear HB7a HB5 HN HN2 HN3
      go_wp2_with fail
      refine (rnumAt (i := 0) (k := 0) HRA3.out HSO0.out (by omega)).mono ?_
      rintro e wa ⟨rfl, hR, hF⟩
      have HRAwa := Lib.hid hR
      have HFwa : Hid (Fr (fun b => b = ga) w3 wa) := Lib.hid (hF)
      clear hR hF
      go_wp2_with fail
      refine (rhashAt HRAwa.out HSO0.out (by omega)).mono ?_
      rintro e wb ⟨rfl, hR, hF⟩
      have HRAwb := Lib.hid hR
      have HFwb : Hid (Fr (fun b => b = ga) w3 wb) := Lib.hid (HFwa.out.trans hF)
      clear hR hF
      go_wp2_with fail
      refine (rnumAt HRAwb.out HSO0.out (by omega)).mono ?_
      rintro e wc ⟨rfl, hR, hF⟩
      have HRAwc := Lib.hid hR
      have HFwc : Hid (Fr (fun b => b = ga) w3 wc) := Lib.hid (HFwb.out.trans hF)
      clear hR hF
      go_wp2_with fail
      refine (rnumAt HRAwc.out HSO0.out (by omega)).mono ?_
      rintro e wd ⟨rfl, hR, hF⟩
      have HRAwd := Lib.hid hR
      have HFwd : Hid (Fr (fun b => b = ga) w3 wd) := Lib.hid (HFwc.out.trans hF)
      clear hR hF
      go_wp2_with fail
      refine (rnumAt HRAwd.out HSO0.out (by omega)).mono ?_
      rintro e we ⟨rfl, hR, hF⟩
      have HRAwe := Lib.hid hR
      have HFwe : Hid (Fr (fun b => b = ga) w3 we) := Lib.hid (HFwd.out.trans hF)
      clear hR hF
      have HTA : Hid (¬ IsT 5 w3 ga) := Lib.hid (by obtain ⟨A, c, hb, _⟩ := HRA3.out.st; exact IsT.not_blk hb (by decide))
      have HC32 : Hid ((cutL al 8 32).length = 32) := Lib.hid (cutL_len (by rw [HAB.out.1]; omega))
      obtain ⟨r1, hr1⟩ : ∃ r1 : Rc, r1 = ⟨cutL al 8 32, valL (cutL al 40 8), valL (cutL al 48 8), valL (cutL al 56 8), 0, 0⟩ := ⟨_, rfl⟩
      have HR1 := Lib.hid hr1
      have HBU : Hid (Tryd.prog.built 48 [(0, .agg (secA (cutL al 8 32))), (1, .int .u64 (valL (cutL al 40 8) : Nat)), (2, .int .u64 (valL (cutL al 48 8) : Nat)), (3, .int .u64 (valL (cutL al 56 8) : Nat))] = some r1.cells) := Lib.hid (by rw [hr1]; exact built_rec _ HC32.out _ _ _)
      have HR1L : Hid (r1.cells.size = 37 ∧ r1.root.length = 32) := Lib.hid (by rw [hr1]; exact ⟨Rc.size HC32.out, HC32.out⟩)
      clear hr1
      go_wp2_with (first
        | ((with_reducible refine atOp ⟨some 53, .build _ _, _, _, _, _⟩ ?_); refine wpList_built rfl _ [(0, .tmp 46), (1, .tmp 48), (2, .tmp 50), (3, .tmp 52)] rfl _ rfl _ HBU.out ?_)
        | ((with_reducible refine atOp ⟨some 14, .alloc _, _, _, _, _⟩ ?_); refine wpList_newrow rfl rfl rfl _ _ rfl recInfo (by rfl) rfl rfl HR1L.out.1 (Rc.one _) ?_))
      obtain ⟨w6, hw6⟩ : ∃ w6 : World, w6 = we.alloc (.cells r1.cells 48) := ⟨_, rfl⟩
      obtain ⟨b14, hb14⟩ : ∃ b14, b14 = we.heap.size := ⟨_, rfl⟩
      have HN6 : Hid (New we w6) := Lib.hid (by rw [hw6]; exact New.al (New.refl _) _)
      have HB14 : Hid (Blk w6 b14 48 r1.cells) := Lib.hid (by rw [hw6, hb14]; exact Blk.new _ _ _)
      have HL14 : Hid (b14 ≠ b5 ∧ b14 ≠ b7 ∧ b14 ≠ gb ∧ w.heap.size ≤ b14) := Lib.hid (by have h1 := HFwe.out.size; have h2 := HB53.out.lt; have h3 := HB73.out.lt; have h4 := HRB.out.lt; have h5 := HNw3.out.size; omega)
      have HB76 : Hid (Blk w6 b7 100 (secA al)) := Lib.hid (HN6.out.blk (HB73.out.fr HFwe.out (by have := HBL.out; omega)))
      have HB56 : Hid (Blk w6 b5 48 rc0.cells) := Lib.hid (HN6.out.blk (HB53.out.fr HFwe.out (by have := HBL.out; omega)))
      have HNw6 : Hid (New w w6) := Lib.hid ((HNw3.out.fr HFwe.out (fun k hk => by have := HBL.out; omega)).tr HN6.out)
      have HRB6 : Hid (RdIn w6 gb ⟨(sec2 al 1).drop 0, 0⟩) := Lib.hid ((HRB.out.fr HFwe.out (by have := HGB.out; omega) (fun k hk => hk ▸ HTA.out)).new HN6.out)
      rw [← hw6, ← hb14]
      clear hw6 hb14 HRAwa HRAwb HRAwc HRAwd HRAwe HFwa HFwb HFwc HFwd HFwe HB73 HB53 HNw3 HRB HRA3 HBU
      refine (rnumAt (k := 1) (i := 0) HRB6.out HSO1.out (by omega)).mono ?_
      rintro e wf ⟨rfl, hR, hF⟩
      have HRBwf := Lib.hid hR
      have HGwf : Hid (Fr (fun b => b = gb) w6 wf) := Lib.hid (hF)
      clear hR hF
      go_wp2_with fail
      refine (rnumAt HRBwf.out HSO1.out (by omega)).mono ?_
      rintro e wg ⟨rfl, hR, hF⟩
      have HRBwg := Lib.hid hR
      have HGwg : Hid (Fr (fun b => b = gb) w6 wg) := Lib.hid (HGwf.out.trans hF)
      clear hR hF
      go_wp2_with fail
      refine (rnumAt HRBwg.out HSO1.out (by omega)).mono ?_
      rintro e wh ⟨rfl, hR, hF⟩
      have HRBwh := Lib.hid hR
      have HGwh : Hid (Fr (fun b => b = gb) w6 wh) := Lib.hid (HGwg.out.trans hF)
      clear hR hF
      have HB14h : Hid (Blk wh b14 48 r1.cells) := Lib.hid (HB14.out.fr HGwh.out (by have := HL14.out; omega))
      have f35 := HB14h.out.frozen 35
      have f36 := HB14h.out.frozen 36
      have k35 : wh.cell? ⟨b14, 35, none⟩ = some (.int .u64 r1.limit) := by rw [HB14h.out.cell]; exact Rc.at HR1L.out.2 3
      have k36 : wh.cell? ⟨b14, 36, none⟩ = some (.int .u64 r1.session) := by rw [HB14h.out.cell]; exact Rc.at HR1L.out.2 4
      go_upto_region 15 with fail
      clear f35 f36 k35 k36
      obtain ⟨wi, hwi⟩ : ∃ wi : World, wi = (wh.setCell ⟨b14, 35, none⟩ (.int .u64 (valL (cutL al 72 8) : Nat))).setCell ⟨b14, 36, none⟩ (.int .u64 (valL (cutL al 80 8) : Nat)) := ⟨_, rfl⟩
      have hFi : Fr (fun b => b = b14) wh wi := by rw [hwi]; exact ((Fr.refl (fun b => b = b14) wh).setCell (p := ⟨b14, 35, none⟩) (fun _ => rfl) _).setCell (p := ⟨b14, 36, none⟩) (fun _ => rfl) _
      have HB14i : Hid (Blk wi b14 48 (rcOf al).cells) := Lib.hid (by
        have h2 := (HB14h.out.set 35 (.int .u64 (valL (cutL al 72 8) : Nat))).set 36 (.int .u64 (valL (cutL al 80 8) : Nat))
        rw [← hwi, HR1.out] at h2
        have e : ((Rc.cells ⟨cutL al 8 32, valL (cutL al 40 8), valL (cutL al 48 8), valL (cutL al 56 8), 0, 0⟩).setIfInBounds 35 (.int .u64 (valL (cutL al 72 8) : Nat))).setIfInBounds 36 (.int .u64 (valL (cutL al 80 8) : Nat)) = (rcOf al).cells := by
          unfold rcOf Rc.cells
          rw [List.setIfInBounds_toArray, List.setIfInBounds_toArray, List.set_append_right _ _ (by rw [u8s_len, HC32.out]; omega), List.set_append_right _ _ (by rw [u8s_len, HC32.out]; omega), u8s_len, HC32.out]
          rfl
        rw [e] at h2
        exact h2)
      have HB7i : Hid (Blk wi b7 100 (secA al)) := Lib.hid ((HB76.out.fr HGwh.out (by have := HBL.out; omega)).fr hFi (by have := HL14.out; omega))
      have HB5i : Hid (Blk wi b5 48 rc0.cells) := Lib.hid ((HB56.out.fr HGwh.out (by have := HBL.out; omega)).fr hFi (by have := HL14.out; omega))
      have HNi : Hid (New w wi) := Lib.hid ((HNw6.out.fr HGwh.out (fun k hk => by have := HBL.out; omega)).fr hFi (fun k hk => by have := HL14.out; omega))
      rw [← hwi]
      clear hwi hFi HB14 HB76 HB56 HNw6 HRB6 HRBwf HRBwg HRBwh HGwf HGwg HGwh HB14h
      have HROK : Hid (rcOf al).Ok := Lib.hid (rcOf_ok HAB.out.2 HAB.out.1)
      have HNLT : Hid (valL (cutL al 0 8) < 18446744073709551616) := Lib.hid (numOf_lt HAB.out.2 HAB.out.1)
      have HRZ : Hid ((rcOf al).cells.size = 37) := Lib.hid (Rc.size HROK.out.len)
      go_wp2_with ((with_reducible refine atOp ⟨some 64, .load _ _, _, _, _, _⟩ ?_); refine wpList_load_any rfl _ rfl Tryd.underlying48 rfl (by rw [HRZ.out]; rfl) rfl HB14i.out ?_)
      refine (put_any _ (rcOf al) wi (HL.out.new HNi.out) HROK.out HNLT.out).mono ?_
      rintro e wj ⟨rfl, hNj⟩
      obtain ⟨nn, hnn⟩ : ∃ nn, nn = valL (cutL al 0 8) := ⟨_, rfl⟩
      have HNN : Hid (nn = numOf al) := Lib.hid hnn
      rw [← hnn] at HNLT ⊢
      obtain ⟨PL, hPL⟩ : ∃ PL, PL = putL nn (rcOf al) := ⟨_, rfl⟩
      have HPL := Lib.hid hPL
      have HPLB : Hid (PL.length = 128 ∧ Byt PL) := Lib.hid (by rw [hPL]; exact ⟨putL_len HROK.out.len, putL_byt HROK.out.byt⟩)
      rw [← hPL]
      have HNj : Hid (New wi wj) := Lib.hid hNj
      clear hNj hnn hPL
      go_upto_region 16 with ((with_reducible refine atOp ⟨some 15, .alloc _, _, _, _, _⟩ ?_); refine wpList_newvar (s := PL) rfl rfl rfl _ _ rfl pairInfo rfl rfl rfl HPLB.out.1 ?_)
      obtain ⟨wk, hwk⟩ : ∃ wk : World, wk = wj.alloc (.cells (secA PL) 100) := ⟨_, rfl⟩
      obtain ⟨b15, hb15⟩ : ∃ b15, b15 = wj.heap.size := ⟨_, rfl⟩
      have HB15 : Hid (Blk wk b15 100 (secA PL)) := Lib.hid (by rw [hwk, hb15]; exact Blk.new _ _ _)
      have HNk : Hid (New wi wk) := Lib.hid (HNj.out.tr (by rw [hwk]; exact New.al (New.refl _) _))
      have HB7k : Hid (Blk wk b7 100 (secA al)) := Lib.hid (HNk.out.blk HB7i.out)
      have HB5k : Hid (Blk wk b5 48 rc0.cells) := Lib.hid (HNk.out.blk HB5i.out)
      have HB14k : Hid (Blk wk b14 48 (rcOf al).cells) := Lib.hid (HNk.out.blk HB14i.out)
      have HNwk : Hid (New w wk) := Lib.hid (HNi.out.tr HNk.out)
      rw [← hwk, ← hb15]
      clear hwk hb15 HB7i HB5i HB14i HNj HNi HNk
      have HPZ : Hid ((secA PL).size = 128 ∧ (secA al).size = 128) := Lib.hid (by rw [secA_size, secA_size, HPLB.out.1, HAB.out.1]; exact ⟨rfl, rfl⟩)
      obtain ⟨nm, hnm⟩ : ∃ nm, nm = nn % 2 := ⟨_, rfl⟩
      have HNM := Lib.hid hnm
      have t0 : (nn : Int).tmod 2 = (nm : Int) := by rw [Int.tmod_eq_emod_of_nonneg (by omega)]; omega
      have t1 : IntKind.u64.wrap (sl : Int) = (sl : Int) := by rw [IntKind.wrap_u64]; have := HS.out; omega
      have HSL2 : Hid (sl < 2 ∧ nm < 2) := Lib.hid ⟨HS.out.1, by omega⟩
      clear hnm
      have HNEQ : Hid (∀ W, (binOp .neq 100 (.agg (secA PL)) (.agg (secA al))).run Tryd.prog W = .ok (.bool (!decide (PL = al))) W) := Lib.hid fun W => run_neq_sec (P := Tryd.prog) Tryd.underlying100 Tryd.underlying5 (fun w => (by first | exact Tryd.sizeOf5 w | kernel_rfl)) HPLB.out.1 HAB.out.1 HPLB.out.2 HAB.out.2 W
      by_cases hp : PL = al
      · have hneq : ∀ W, (binOp .neq 100 (.agg (secA PL)) (.agg (secA al))).run Tryd.prog W = .ok (.bool false) W := fun W => by
          have h := HNEQ.out W
          rwa [decide_eq_true hp] at h
        by_cases hm : nm = sl
        · have hmq : ((nm : Int) != (sl : Int)) = false := by rw [hm]; simp
          have HM' : Hid (PL = al ∧ nm = sl) := Lib.hid ⟨hp, hm⟩
          clear hp hm
          go_wp2_with (first
            | ((with_reducible refine atOp ⟨some 71, .load _ _, _, _, _, _⟩ ?_); refine wpList_load_any rfl _ rfl Tryd.underlying100 rfl (by rw [HPZ.out.1]; rfl) rfl HB15.out ?_)
            | ((with_reducible refine atOp ⟨some 72, .load _ _, _, _, _, _⟩ ?_); refine wpList_load_any rfl _ rfl Tryd.underlying100 rfl (by rw [HPZ.out.2]; rfl) rfl HB7k.out ?_)
            | ((with_reducible refine atOp ⟨some 83, .load _ _, _, _, _, _⟩ ?_); refine wpList_load_any rfl _ rfl Tryd.underlying48 rfl (by rw [HRZ.out]; rfl) rfl HB14k.out ?_))
          refine (right_any (rcOf al) wk HROK.out).mono ?_
          rintro e wl ⟨rfl, hNl⟩
          have HB5l : Hid (Blk wl b5 48 rc0.cells) := Lib.hid (hNl.blk HB5k.out)
          have HB14l : Hid (Blk wl b14 48 (rcOf al).cells) := Lib.hid (hNl.blk HB14k.out)
          have HNwl : Hid (New w wl) := Lib.hid (HNwk.out.tr hNl)
          clear hNl
          by_cases hr : (rcOf al).Right
          · rw [decide_eq_true hr]
            have HYES : Hid (getN sl (slotB p sl) = nn ∧ getR sl (slotB p sl) = rcOf al) := Lib.hid (by
              have hy : RecIn sl (slotB p sl) := by
                rw [← HAL.out]
                exact ⟨by rw [← HNN.out, ← HPL.out]; exact HM'.out.1, by rw [← HNN.out, ← HNM.out]; exact HM'.out.2, hr⟩
              unfold getN getR
              rw [if_pos hy, if_pos hy, ← HAL.out, HNN.out]
              exact ⟨rfl, rfl⟩)
            clear hr
            go_upto_region 18 with fail
            refine wp_region_mixH (fun w' => Blk w' b14 48 (rcOf al).cells) [(true, 0), (true, 1), (true, 2), (false, 3), (true, 4)] (by kernel_rfl) (by kernel_rfl) ((New.dr (New.refl wl)).blk HB14l.out) (fun hne => ?_)
            iterate 1 (refine mix_take (o := ⟨_, _, _, _, _, _⟩) rfl (fun K hK => ?_); go_simp; refine hK _ ?_; clear hK K)
            refine mix_take_row (o := ⟨_, _, _, _, _, _⟩) (cs := (rcOf al).cells.toList) rfl rfl _ rfl rfl (fun w' h => Blk.rangeOf h) Tryd.underlying48 rfl (by rw [Array.length_toList, HRZ.out]; rfl) ?_
            iterate 1 (refine mix_take (o := ⟨_, _, _, _, _, _⟩) rfl (fun K hK => ?_); go_simp; refine hK _ ?_; clear hK K)
            refine mix_store (o := ⟨_, _, _, _, _, _⟩) (cs := (rcOf al).cells) rfl rfl (.tmp 5) (.tmp 89) rfl (by rw [HRZ.out]; rfl) rfl rfl ((New.dr (New.refl wl)).blk HB5l.out) (by rw [HRZ.out]; rfl) (Rc.one _) ?_
            intro wz hbz hfz
            have HBz := Lib.hid hbz
            have HFz := Lib.hid (Fr.ofDrew hfz)
            have HB14z : Hid (Blk wz b14 48 (rcOf al).cells) := Lib.hid (HB14l.out.fr (Fr.ofDrew hfz) (by have := HL14.out; omega))
            clear hbz hfz
            refine ⟨fun _ => HB14z.out, ?_⟩
            iterate 1 (refine mix_take (o := ⟨_, _, _, _, _, _⟩) rfl (fun K hK => ?_); go_simp; refine hK _ ?_; clear hK K)
            refine mix_done ?_
            go_wp2_with fail
            exact bodyPost_ret (res3 rfl _ _ b5 _ rfl HBz.out HRZ.out) rfl ⟨by rw [HYES.out.1, HYES.out.2]; rfl, HNwl.out.fr HFz.out (fun k hk => by have := HZ.out; omega)⟩
          · rw [decide_eq_false hr]
            have HNO : Hid (getN sl (slotB p sl) = 0 ∧ getR sl (slotB p sl) = rc0) := Lib.hid (by
              have hno : ¬ RecIn sl (slotB p sl) := fun h => hr (by rw [HAL.out]; exact h.2.2)
              unfold getN getR
              rw [if_neg hno, if_neg hno]
              exact ⟨rfl, rfl⟩)
            clear hr
            go_wp2_with ((with_reducible refine atOp ⟨none, .store 48 (.tmp 5) _, _, _, _, _⟩ ?_); rw [zero37]; refine wpList_store_any rfl (.tmp 5) (.tmp 87) rfl (by rfl) rfl rfl HB5l.out rfl (Rc.one _) ?_; intro wz hbz hfz; have HBz := Lib.hid hbz; have HFz := Lib.hid hfz; clear hbz hfz)
            exact bodyPost_ret (res3 rfl _ _ b5 _ rfl HBz.out (by rfl)) rfl ⟨by rw [HNO.out.1, HNO.out.2]; rfl, HNwl.out.fr HFz.out (fun k hk => by have := HZ.out; omega)⟩
        · have HNO : Hid (getN sl (slotB p sl) = 0 ∧ getR sl (slotB p sl) = rc0) := Lib.hid (by
            have hno : ¬ RecIn sl (slotB p sl) := fun h => hm (by rw [HNM.out, HNN.out, HAL.out]; exact h.2.1)
            unfold getN getR
            rw [if_neg hno, if_neg hno]
            exact ⟨rfl, rfl⟩)
          have hmq : ((nm : Int) != (sl : Int)) = true := by rw [bne_iff_ne]; omega
          clear hp hm
          go_wp2_with (first
            | ((with_reducible refine atOp ⟨some 71, .load _ _, _, _, _, _⟩ ?_); refine wpList_load_any rfl _ rfl Tryd.underlying100 rfl (by rw [HPZ.out.1]; rfl) rfl HB15.out ?_)
            | ((with_reducible refine atOp ⟨some 72, .load _ _, _, _, _, _⟩ ?_); refine wpList_load_any rfl _ rfl Tryd.underlying100 rfl (by rw [HPZ.out.2]; rfl) rfl HB7k.out ?_)
            | ((with_reducible refine atOp ⟨none, .store 48 (.tmp 5) _, _, _, _, _⟩ ?_); rw [zero37]; refine wpList_store_any rfl (.tmp 5) (.tmp 87) rfl (by rfl) rfl rfl HB5k.out rfl (Rc.one _) ?_; intro wz hbz hfz; have HBz := Lib.hid hbz; have HFz := Lib.hid hfz; clear hbz hfz))
          exact bodyPost_ret (res3 rfl _ _ b5 _ rfl HBz.out (by rfl)) rfl ⟨by rw [HNO.out.1, HNO.out.2]; rfl, HNwk.out.fr HFz.out (fun k hk => by have := HZ.out; omega)⟩
      · have HNO : Hid (getN sl (slotB p sl) = 0 ∧ getR sl (slotB p sl) = rc0) := Lib.hid (by
          have hno : ¬ RecIn sl (slotB p sl) := fun h => hp (by rw [HPL.out, HNN.out, HAL.out]; exact h.1)
          unfold getN getR
          rw [if_neg hno, if_neg hno]
          exact ⟨rfl, rfl⟩)
        have hneq : ∀ W, (binOp .neq 100 (.agg (secA PL)) (.agg (secA al))).run Tryd.prog W = .ok (.bool true) W := fun W => by
          have h := HNEQ.out W
          rwa [decide_eq_false hp] at h
        clear hp
        go_wp2_with (first
          | ((with_reducible refine atOp ⟨some 71, .load _ _, _, _, _, _⟩ ?_); refine wpList_load_any rfl _ rfl Tryd.underlying100 rfl (by rw [HPZ.out.1]; rfl) rfl HB15.out ?_)
          | ((with_reducible refine atOp ⟨some 72, .load _ _, _, _, _, _⟩ ?_); refine wpList_load_any rfl _ rfl Tryd.underlying100 rfl (by rw [HPZ.out.2]; rfl) rfl HB7k.out ?_)
          | ((with_reducible refine atOp ⟨none, .store 48 (.tmp 5) _, _, _, _, _⟩ ?_); rw [zero37]; refine wpList_store_any rfl (.tmp 5) (.tmp 87) rfl (by rfl) rfl rfl HB5k.out rfl (Rc.one _) ?_; intro wz hbz hfz; have HBz := Lib.hid hbz; have HFz := Lib.hid hfz; clear hbz hfz))
        exact bodyPost_ret (res3 rfl _ _ b5 _ rfl HBz.out (by rfl)) rfl ⟨by rw [HNO.out.1, HNO.out.2]; rfl, HNwk.out.fr HFz.out (fun k hk => by have := HZ.out; omega)⟩
end Go.Proofs.YtdojmjglnlkmoaaDoor
/- A keeper of a disk is opened. sha's tables are as they were laid. No condition else. -/
namespace Go.Proofs.YtdojmjglnlkmoaaDoor
set_option linter.unusedVariables false
set_option linter.unusedSimpArgs false
set_option linter.constructorNameAsVariable false
open Go.RowKit Go.Sort

theorem zero40 (gd : Nat) : (#[.pointer (some ⟨gd, 0, none⟩), .int .u64 0, .int .u8 0, .int .u8 0, .int .u8 0, .int .u8 0, .int .u8 0, .int .u8 0, .int .u8 0, .int .u8 0, .int .u8 0, .int .u8 0, .int .u8 0, .int .u8 0, .int .u8 0, .int .u8 0, .int .u8 0, .int .u8 0, .int .u8 0, .int .u8 0, .int .u8 0, .int .u8 0, .int .u8 0, .int .u8 0, .int .u8 0, .int .u8 0, .int .u8 0, .int .u8 0, .int .u8 0, .int .u8 0, .int .u8 0, .int .u8 0, .int .u8 0, .int .u8 0, .int .u64 0, .int .u64 0, .int .u64 0, .int .u64 0, .int .u64 0, .bool false] : Array Value) = (kpA KR.new gd).toArray := by rfl
/-- A part of a row stored, as an act of a mixed script; a single number stored. -/
theorem mix_store_part {P : Program} {ops : Array Oper} {Q : Exit → Act → World → Prop} {S : World → Prop} {last i : Nat} {w : World} {o : Oper} {sc : List (Bool × Nat)} {a : Act} {g off : Nat} {T ty : TypeId} {cur cells : List Value} (hop : ops[i]? = some o) (hw : Region.wanted o (yielded ops a.tmps) = true) (x y : Operand) (ho : o.op = .store ty x y) (hx : a.eval x = .pointer (some ⟨g, off, none⟩)) (hy : a.eval y = .agg cells.toArray)
    (hg : Blk w g T cur.toArray) (hl : off + cells.length ≤ cur.length) (hi : (P.info? ty).map (·.size) = some cells.length) (h1 : ∀ v ∈ cells, v.oneCell' = true)
    (h : ∀ w', Blk w' g T (splice cur off cells).toArray → Fr (fun k => k = g) w w' → (i ≠ last → S w') ∧ wpMix P ops S last Q sc (a.put o.dst undef) w') : wpMix P ops S last Q ((false, i) :: sc) a w := by
  refine ⟨o, hop, ?_⟩
  rw [if_pos hw]
  obtain ⟨w', hrun, r1, r2⟩ := run_store_part (P := P) hg hl hi h1
  unfold Oper.wp execOp
  simp only [ho, hx, hy, Sem.run_bind, hrun, Result.andThen_ok, Sem.run_pure]
  exact h w' r1 r2
theorem run_store_int {P : Program} {w : World} {g off : Nat} {T ty : TypeId} {k : IntKind} {n : Int} {cur : List Value} (hg : Blk w g T cur.toArray) (hl : off < cur.length) (hi : (P.info? ty).map (·.size) = some 1) :
    ∃ w', (Instr.storeAt ty (.pointer (some ⟨g, off, none⟩)) (.int k n)).run P w = .ok () w' ∧ Blk w' g T (cur.set off (.int k n)).toArray ∧ Fr (fun k => k = g) w w' := by
  have hc : w.cell? ⟨g, off, none⟩ = some cur[off] := by rw [hg.cell off]; simp [hl]
  have hf := hg.frozen off
  have hb := hg.set off (.int k n)
  rw [List.setIfInBounds_toArray] at hb
  refine ⟨w.setCell ⟨g, off, none⟩ (.int k n), ?_, hb, (Fr.refl (fun k => k = g) w).setCell (p := ⟨g, off, none⟩) (fun _ => rfl) _⟩
  cases hq : P.info? ty with
  | none => simp [hq] at hi
  | some i =>
    have hz : i.size = 1 := by simpa [hq] using hi
    simp [Instr.storeAt, Instr.sureAddr, storeVar, sizeOf, typeInfo, hq, Value.cells, hz, hc, hf, go_sem]
theorem mix_store_int {P : Program} {ops : Array Oper} {Q : Exit → Act → World → Prop} {S : World → Prop} {last i : Nat} {w : World} {o : Oper} {sc : List (Bool × Nat)} {a : Act} {g off : Nat} {T ty : TypeId} {k : IntKind} {n : Int} {cur : List Value} (hop : ops[i]? = some o) (hw : Region.wanted o (yielded ops a.tmps) = true) (x y : Operand) (ho : o.op = .store ty x y) (hx : a.eval x = .pointer (some ⟨g, off, none⟩)) (hy : a.eval y = .int k n)
    (hg : Blk w g T cur.toArray) (hl : off < cur.length) (hi : (P.info? ty).map (·.size) = some 1)
    (h : ∀ w', Blk w' g T (cur.set off (.int k n)).toArray → Fr (fun k => k = g) w w' → (i ≠ last → S w') ∧ wpMix P ops S last Q sc (a.put o.dst undef) w') : wpMix P ops S last Q ((false, i) :: sc) a w := by
  refine ⟨o, hop, ?_⟩
  rw [if_pos hw]
  obtain ⟨w', hrun, r1, r2⟩ := run_store_int (P := P) (k := k) (n := n) hg hl hi
  unfold Oper.wp execOp
  simp only [ho, hx, hy, Sem.run_bind, hrun, Result.andThen_ok, Sem.run_pure]
  exact h w' r1 r2
set_option maxHeartbeats 1000000
set_option maxRecDepth 100000
theorem kopen_nil (w : World) : Calls Tryd.prog 12 #[.pointer none] w fun e w' => e = .returned (.tuple #[.pointer none, errD 11]) ∧ w = w' := by
  go_enter Tryd.func12, Tryd.ntmps12
  go_wp2_with fail
  go_ret2
  exact ⟨rfl, rfl⟩
theorem kopen_small {w : World} {gd base bs bf : Nat} {v : Value} {p : DP} (hD : Dk w base gd bs bf v p) (hp : p.size < 4) : Calls Tryd.prog 12 #[.pointer (some ⟨gd, 0, none⟩)] w fun e w' => e = .returned (.tuple #[.pointer none, errD 1]) ∧ w = w' := by
  have HD := Lib.hid hD
  have hlt : (p.size : Int) < 4 := by omega
  clear hD hp
  go_enter Tryd.func12, Tryd.ntmps12
  go_wp2_with fail
  refine (len_in HD.out).mono ?_
  rintro e w1 ⟨rfl, rfl⟩
  go_wp2_with fail
  go_ret2
  exact ⟨rfl, rfl⟩
/-- The keeper behind so many slots. -/
def upK (p : DP) (j : Nat) : KR := if j = 0 then KR.new else if j = 1 then takeK KR.new (getN 0 (slotB p 0)) (getR 0 (slotB p 0)) else openP p
theorem upK_0 (p : DP) : upK p 0 = KR.new := by unfold upK; rw [if_pos rfl]
theorem upK_1 (p : DP) : upK p 1 = takeK KR.new (getN 0 (slotB p 0)) (getR 0 (slotB p 0)) := by unfold upK; rw [if_neg (by decide), if_pos rfl]
theorem upK_2 (p : DP) : upK p 2 = openP p := by unfold upK; rw [if_neg (by decide), if_neg (by decide)]
theorem upK_step (p : DP) {j : Nat} (h : j < 2) : upK p (j + 1) = takeK (upK p j) (getN j (slotB p j)) (getR j (slotB p j)) := by
  rcases (show j = 0 ∨ j = 1 by omega) with rfl | rfl
  · rw [upK_0]; exact upK_1 p
  · rw [upK_1]; exact (upK_2 p).trans (by unfold openP; with_reducible rfl)
theorem kopen_in {w : World} {gd base bs bf : Nat} {v : Value} {p : DP} (hD : Dk w base gd bs bf v p) (hL : ShaIn 3 2 w) (hp : 4 ≤ p.size) :
    Calls Tryd.prog 12 #[.pointer (some ⟨gd, 0, none⟩)] w fun e w' => ∃ b, e = .returned (.tuple #[.pointer (some ⟨b, 0, none⟩), .nilIface]) ∧ Kp w' b gd (openP p) ∧ New w w' ∧ w.heap.size ≤ b := by
  have HD := Lib.hid hD
  have HL := Lib.hid hL
  have HP := Lib.hid hp
  have hge : ¬ ((p.size : Int) < 4) := by omega
  clear hD hL hp
  go_enter Tryd.func12, Tryd.ntmps12
  go_wp2_with fail
  refine (len_in HD.out).mono ?_
  rintro e w1 ⟨rfl, rfl⟩
  go_upto_region 6 with fail
  obtain ⟨w1, hw1⟩ : ∃ w1 : World, w1 = w.alloc (.cells #[.pointer (some ⟨gd, 0, none⟩), .int .u64 0, .int .u8 0, .int .u8 0, .int .u8 0, .int .u8 0, .int .u8 0, .int .u8 0, .int .u8 0, .int .u8 0, .int .u8 0, .int .u8 0, .int .u8 0, .int .u8 0, .int .u8 0, .int .u8 0, .int .u8 0, .int .u8 0, .int .u8 0, .int .u8 0, .int .u8 0, .int .u8 0, .int .u8 0, .int .u8 0, .int .u8 0, .int .u8 0, .int .u8 0, .int .u8 0, .int .u8 0, .int .u8 0, .int .u8 0, .int .u8 0, .int .u8 0, .int .u8 0, .int .u64 0, .int .u64 0, .int .u64 0, .int .u64 0, .int .u64 0, .bool false] 90) := ⟨_, rfl⟩
  obtain ⟨bk, hbk⟩ : ∃ bk, bk = w.heap.size := ⟨_, rfl⟩
  have HN1 : Hid (New w w1) := Lib.hid (by rw [hw1]; exact New.al (New.refl _) _)
  have HK1 : Hid (Kp w1 bk gd (upK p 0)) := Lib.hid (by rw [upK_0]; exact ⟨by rw [hw1, hbk, zero40]; exact Blk.new _ _ _, KR.new_ok⟩)
  have HZ : Hid (bk = w.heap.size) := Lib.hid hbk
  rw [← hw1, ← hbk]
  clear hw1 hbk hge
  go_wp2_with fail
  go_loopw [21] (fun i wr => ∃ (j : Nat), Hid (j ≤ 2) ∧ i = .int .i64 (j : Int) ∧ Hid (New w wr) ∧ Hid (Kp wr bk gd (upK p j))) (fun i _ => 2 - (intOf i).toNat)
  case atStart => exact ⟨0, Lib.hid (by omega), rfl, HN1, HK1⟩
  case round =>
    clear HK1 HN1
    obtain ⟨j, HJ, rfl, HN, HK⟩ := hrel
    by_cases hj : j < 2
    · have hlt : (j : Int) < 2 := by omega
      have HJ2 := Lib.hid hj
      have e1 : IntKind.i64.wrap ((j : Int) + 1) = (j : Int) + 1 := IntWalk.i64_in _ (by omega)
      clear hj
      go_wp2_with fail
      refine (rget_any (HD.out.new HN.out) (HL.out.new HN.out) j HJ2.out HP.out).mono ?_
      rintro e w2 ⟨rfl, hN2⟩
      obtain ⟨n, hn⟩ : ∃ n, n = getN j (slotB p j) := ⟨_, rfl⟩
      obtain ⟨R, hR⟩ : ∃ R, R = getR j (slotB p j) := ⟨_, rfl⟩
      have HNR : Hid (upK p (j + 1) = takeK (upK p j) n R ∧ R.Ok ∧ n < 18446744073709551616) := Lib.hid (by
        have hs := slotB_ok HD.out.ok j
        rw [hn, hR]
        exact ⟨upK_step p HJ2.out, getR_ok j hs.2 hs.1, getN_lt j hs.2 hs.1⟩)
      rw [← hn, ← hR]
      obtain ⟨k, hk⟩ : ∃ k, k = upK p j := ⟨_, rfl⟩
      rw [← hk] at HNR HK
      have HK2 : Hid (Kp w2 bk gd k) := Lib.hid (HK.out.new hN2)
      have HN2 : Hid (New w w2) := Lib.hid (HN.out.tr hN2)
      have HSZ : Hid (R.cells.size = 37) := Lib.hid (Rc.size HNR.out.2.1.len)
      obtain ⟨RC, hRC⟩ : ∃ RC, RC = R.cells := ⟨_, rfl⟩
      have HRC := Lib.hid hRC
      rw [← hRC] at HSZ ⊢
      have HONE : Hid (RC.all (·.oneCell') = true) := Lib.hid (by rw [hRC]; exact Rc.one R)
      clear hn hR hN2 hk hRC HK HN
      go_upto_region 12 with (first
        | ((with_reducible refine atOp ⟨some 7, .alloc _, _, _, _, _⟩ ?_); refine wpList_alloc_row rfl rfl recInfo ?_; intro b7 w3 hb7 hB7 hN3; have HB7 := Lib.hid hB7; have HN3 := Lib.hid hN3; have HZ7 := Lib.hid hb7; clear hb7 hB7 hN3)
        | ((with_reducible refine atOp ⟨none, .store 48 (.tmp 7) _, _, _, _, _⟩ ?_); refine wpList_store_any rfl (.tmp 7) (.tmp 29) rfl (by rw [HSZ.out]; rfl) rfl rfl HB7.out (by rw [HSZ.out]; rfl) HONE.out ?_; intro w4 hb4 hf4; have HB74 := Lib.hid hb4; have HF4 := Lib.hid hf4; clear hb4 hf4))
      have HNE : Hid (b7 ≠ bk) := Lib.hid (by have h1 := HK2.out.blk.lt; have h2 := HZ7.out; omega)
      have HK4 : Hid (Kp w4 bk gd k) := Lib.hid ((HK2.out.new HN3.out).fr HF4.out (fun h => HNE.out h.symm))
      have HN4 : Hid (New w w4) := Lib.hid ((HN2.out.tr HN3.out).fr HF4.out (fun x hx => by have h1 := HN2.out.size; have h2 := HZ7.out; omega))
      have c1 := HK4.out.c1
      obtain ⟨kn, hkn⟩ : ∃ kn, kn = k.number := ⟨_, rfl⟩
      rw [← hkn] at c1
      have HKN := Lib.hid hkn
      clear hkn HK2 HN2 HN3 HF4 HB7
      by_cases hgt : kn < n
      · have hgt2 : (kn : Int) < (n : Int) := by omega
        have HUP : Hid (upK p (j + 1) = { k with number := n, now := R }) := Lib.hid (by rw [HNR.out.1]; unfold takeK; rw [if_pos (by rw [← HKN.out]; exact hgt)])
        clear hgt
        go_wp2_with fail
        clear c1 hgt2
        refine wp_region_mixH (fun w' => Blk w' b7 48 RC) [(true, 0), (true, 1), (true, 2), (true, 3), (true, 4), (true, 5), (false, 6), (true, 7), (true, 8), (false, 9)] (by kernel_rfl) (by kernel_rfl) ((New.dr (New.refl w4)).blk HB74.out) (fun hne => ?_)
        iterate 3 (refine mix_take (o := ⟨_, _, _, _, _, _⟩) rfl (fun K hK => ?_); go_simp; refine hK _ ?_; clear hK K)
        refine mix_take_row (o := ⟨_, _, _, _, _, _⟩) (cs := RC.toList) rfl rfl _ rfl rfl (fun w' h => Blk.rangeOf h) Tryd.underlying48 rfl (by rw [Array.length_toList, HSZ.out]; rfl) ?_
        iterate 2 (refine mix_take (o := ⟨_, _, _, _, _, _⟩) rfl (fun K hK => ?_); go_simp; refine hK _ ?_; clear hK K)
        have HK5 : Hid (Blk w4.drew bk 90 (kpA k gd).toArray) := Lib.hid ((New.dr (New.refl w4)).blk HK4.out.blk)
        refine mix_store_int (o := ⟨_, _, _, _, _, _⟩) (k := .u64) (n := (n : Int)) (off := 1) rfl rfl (.tmp 45) (.tmp 42) rfl rfl rfl HK5.out (by rw [kpA_len HK4.out.ok.now.len]; omega) rfl ?_
        intro w5 hb5 hf5
        have HB5 : Hid (Blk w5 bk 90 (kpA { k with number := n } gd).toArray) := Lib.hid hb5
        have HF5 : Hid (Fr (fun x => x = bk) w4 w5) := Lib.hid (Fr.ofDrew hf5)
        clear hb5 hf5
        have HB75 : Hid (Blk w5 b7 48 RC) := Lib.hid (HB74.out.fr HF5.out HNE.out)
        refine ⟨fun _ => HB75.out, ?_⟩
        iterate 2 (refine mix_take (o := ⟨_, _, _, _, _, _⟩) rfl (fun K hK => ?_); go_simp; refine hK _ ?_; clear hK K)
        refine mix_store_part (o := ⟨_, _, _, _, _, _⟩) (cells := RC.toList) (off := 2) rfl rfl (.tmp 47) (.tmp 43) rfl rfl rfl HB5.out (by rw [kpA_len (k := { k with number := n }) HK4.out.ok.now.len, Array.length_toList, HSZ.out]; omega) (by rw [Array.length_toList, HSZ.out]; rfl) (fun v hv => by have := Array.all_eq_true'.1 HONE.out v (by simpa using hv); exact this) ?_
        intro w6 hb6 hf6
        have HB6 : Hid (Blk w6 bk 90 (kpA { k with number := n, now := R } gd).toArray) := Lib.hid (by rw [HRC.out, kpA_now (k := { k with number := n }) HK4.out.ok.now.len gd R HNR.out.2.1.len] at hb6; exact hb6)
        have HF6 : Hid (Fr (fun x => x = bk) w4 w6) := Lib.hid (HF5.out.trans hf6)
        clear hb6 hf6
        refine ⟨fun _ => HB74.out.fr HF6.out HNE.out, ?_⟩
        refine mix_done ?_
        have HN6 : Hid (New w w6) := Lib.hid (HN4.out.fr HF6.out (fun x hx => by have := HZ.out; omega))
        have HK6 : Hid (Kp w6 bk gd (upK p (j + 1))) := Lib.hid (by rw [HUP.out]; exact ⟨HB6.out, ⟨HNR.out.2.1, HNR.out.2.2⟩⟩)
        go_wp2_with fail
        go_roundw
        case rel => exact ⟨j + 1, Lib.hid (by have := HJ2.out; omega), by go_num, HN6, HK6⟩
        case measure => simp [intOf]; have := HJ2.out; omega
      · have hgt2 : ¬ ((kn : Int) < (n : Int)) := by omega
        have HUP : Hid (upK p (j + 1) = k) := Lib.hid (by rw [HNR.out.1]; unfold takeK; rw [if_neg (by rw [← HKN.out]; exact hgt)])
        clear hgt
        go_wp2_with fail
        go_roundw
        case rel => exact ⟨j + 1, Lib.hid (by have := HJ2.out; omega), by go_num, HN4, Lib.hid (by rw [HUP.out]; exact HK4.out)⟩
        case measure => simp [intOf]; have := HJ2.out; omega
    · have hge : ¬ ((j : Int) < 2) := by omega
      have HJE : Hid (upK p j = openP p) := Lib.hid (by obtain rfl : j = 2 := by have := HJ.out; omega
                                                        exact upK_2 p)
      clear hj
      go_wp2_with fail
      go_ret2
      exact ⟨bk, rfl, by rw [← HJE.out]; exact HK.out, HN.out, by have := HZ.out; omega⟩
end Go.Proofs.YtdojmjglnlkmoaaDoor
