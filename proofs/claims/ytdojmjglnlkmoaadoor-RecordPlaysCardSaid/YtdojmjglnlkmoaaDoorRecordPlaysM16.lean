/- Texts of one proof, one behind the other: NdP, NdA, Alc, NdB. No condition but each one's own. -/
import Derived.Test.YtdojmjglnlkmoaaDoorRecordPlaysM8
import Derived.Test.YtdojmjglnlkmoaaDoorRecordPlaysM9
import Derived.Test.YtdojmjglnlkmoaaDoorRecordPlaysM4
import Derived.Test.YtdojmjglnlkmoaaDoorRecordPlaysM1
import Derived.Test.YtdojmjglnlkmoaaDoorRecordPlaysM10
/- A tree's nodes in plain words: what is hashed, and the roots of volumes without written blocks. No condition. -/
namespace Go.Proofs.YtdojmjglnlkmoaaDoor
set_option linter.unusedVariables false
set_option linter.unusedSimpArgs false
set_option linter.constructorNameAsVariable false
open Go.RowKit Go.Sort

def ndL (h : Nat) (a b : List Int) : List Int := beL 1 2 ++ beL 1 h ++ a ++ b
def ndH (h : Nat) (a b : List Int) : List Int := hsh (ndL h a b)
def empH : Nat → List Int
  | 0 => hsh [0]
  | k + 1 => ndH (k + 1) (empH k) (empH k)
theorem ndL_len {h : Nat} {a b : List Int} (ha : a.length = 32) (hb : b.length = 32) : (ndL h a b).length = 66 := by simp [ndL, beL_len, ha, hb]
theorem ndL_byt {h : Nat} {a b : List Int} (ha : Byt a) (hb : Byt b) : Byt (ndL h a b) := by
  intro x hx
  simp only [ndL, List.mem_append] at hx
  rcases hx with ((hx | hx) | hx) | hx
  · exact beL_byt _ _ x hx
  · exact beL_byt _ _ x hx
  · exact ha x hx
  · exact hb x hx
theorem ndH_len (h : Nat) (a b : List Int) : (ndH h a b).length = 32 := hsh_len _
theorem ndH_byt (h : Nat) (a b : List Int) : Byt (ndH h a b) := hsh_byt _
theorem empH_len (k : Nat) : (empH k).length = 32 := by cases k <;> exact hsh_len _
theorem empH_byt (k : Nat) : Byt (empH k) := by cases k <;> exact hsh_byt _
theorem ndL_eq {h : Nat} (hh : h < 256) (a b : List Int) : ndL h a b = [2, (h : Int)] ++ a ++ b := by
  have e2 : beL 1 2 = [2] := by decide
  have e1 : beL 1 h = [(h : Int)] := by
    rw [beL_cons 0 h, beL_zero]
    simp only [byteAt]
    rw [Nat.pow_zero, Nat.div_one, Nat.mod_eq_of_lt hh]
  rw [ndL, e1, e2]
  rfl
/-- The first k roots, and zeros. -/
def empA (k : Nat) : List Int := ((List.range k).map empH).flatten ++ List.replicate (32 * (33 - k)) 0
theorem flat_len (f : Nat → List Int) (hf : ∀ i, (f i).length = 32) (k : Nat) : (((List.range k).map f).flatten).length = 32 * k := by
  induction k with
  | zero => rfl
  | succ k ih => rw [List.range_succ, List.map_append, List.flatten_append, List.length_append, ih]; simp [hf]; omega
theorem empA_len {k : Nat} (h : k ≤ 33) : (empA k).length = 1056 := by rw [empA, List.length_append, flat_len _ empH_len, List.length_replicate]; omega
theorem empA_byt (k : Nat) : Byt (empA k) := by
  intro x hx
  simp only [empA, List.mem_append, List.mem_flatten, List.mem_map] at hx
  rcases hx with ⟨l, ⟨i, -, rfl⟩, hx⟩ | hx
  · exact empH_byt i x hx
  · have := List.eq_of_mem_replicate hx
    omega
theorem empA_at {k i : Nat} (hi : i < k) : ((empA k).drop (32 * i)).take 32 = empH i := by
  have h1 : ∀ k, i < k → ((((List.range k).map empH).flatten).drop (32 * i)).take 32 = empH i := by
    intro k
    induction k with
    | zero => intro h; omega
    | succ k ih =>
      intro h
      rw [List.range_succ, List.map_append, List.flatten_append]
      by_cases hk : i = k
      · subst hk
        rw [List.drop_append_of_le_length (by rw [flat_len _ empH_len]; omega), List.drop_of_length_le (by rw [flat_len _ empH_len]; omega)]
        simp [List.take_of_length_le, empH_len]
      · rw [List.drop_append_of_le_length (by rw [flat_len _ empH_len]; omega), List.take_append_of_le_length (by rw [List.length_drop, flat_len _ empH_len]; omega)]
        exact ih (by omega)
  unfold empA
  rw [List.drop_append_of_le_length (by rw [flat_len _ empH_len]; omega), List.take_append_of_le_length (by rw [List.length_drop, flat_len _ empH_len]; omega)]
  exact h1 k hi
theorem empA_step {k : Nat} (h : k < 33) : splice (u8s (empA k)) (32 * k) (u8s (empH k)) = u8s (empA (k + 1)) := by
  unfold splice u8s
  rw [List.length_map, empH_len, ← List.map_take, ← List.map_drop, ← List.map_append, ← List.map_append]
  congr 1
  unfold empA
  rw [List.take_append_of_le_length (by rw [flat_len _ empH_len]; omega), List.take_of_length_le (by rw [flat_len _ empH_len]; omega), List.drop_append, flat_len _ empH_len, List.drop_of_length_le (by rw [flat_len _ empH_len]; omega), List.drop_replicate, List.range_succ, List.map_append, List.flatten_append]
  rw [show 32 * (33 - k) - (32 * k + 32 - 32 * k) = 32 * (33 - (k + 1)) by omega]
  simp
end Go.Proofs.YtdojmjglnlkmoaaDoor
/- A node's text and its hash. sha's tables are as they were laid. No condition else. -/
namespace Go.Proofs.YtdojmjglnlkmoaaDoor
set_option linter.unusedVariables false
set_option linter.unusedSimpArgs false
set_option linter.constructorNameAsVariable false
open Go.RowKit Go.Sort

set_option maxHeartbeats 2000000 in
set_option maxRecDepth 100000 in
theorem joint_any (h : Nat) (a b : List Int) (w : World) (hh : 1 ≤ h ∧ h ≤ 32) (ha : a.length = 32 ∧ Byt a) (hb : b.length = 32 ∧ Byt b) :
    Calls Tryd.prog 78 #[.int .i64 h, .agg (secA a), .agg (secA b)] w fun e w' => ∃ A d, e = .returned (.tuple #[.slice A 66 d, .nilIface]) ∧ Rd (fun _ => True) w' 1 A 66 (u8s (ndL h a b)) ∧ New w w' := by
  have HA := Lib.hid ha
  have HB := Lib.hid hb
  have HH := Lib.hid hh
  obtain ⟨RA, hRA⟩ : ∃ RA, RA = secA a := ⟨_, rfl⟩
  have HRA := Lib.hid hRA
  obtain ⟨RB, hRB⟩ : ∃ RB, RB = secA b := ⟨_, rfl⟩
  have HRB := Lib.hid hRB
  rw [← hRA, ← hRB]
  have q1 : ¬ ((h : Int) < 1) := by omega
  have q2 : ¬ ((32 : Int) < (h : Int)) := by omega
  have q3 : IntKind.u64.wrap (h : Int) = (h : Int) := by rw [IntKind.wrap_u64]; omega
  clear ha hb hh hRA hRB
  go_enter Tryd.func78, Tryd.ntmps78
  go_upto_region 4 with fail
  clear q1 q2
  obtain ⟨w1, hw1⟩ : ∃ w1 : World, w1 = ((w.alloc (.cells RA 43)).alloc (.cells RB 43)).alloc (.cells #[.nilIface, .slice none 0 0] 126) := ⟨_, rfl⟩
  obtain ⟨b4, hb4⟩ : ∃ b4, b4 = w.heap.size := ⟨_, rfl⟩
  obtain ⟨b5, hb5⟩ : ∃ b5, b5 = w.heap.size + 1 := ⟨_, rfl⟩
  obtain ⟨g, hg⟩ : ∃ g, g = w.heap.size + 1 + 1 := ⟨_, rfl⟩
  have HN1 : Hid (New w w1) := Lib.hid (by rw [hw1]; exact New.al (New.al (New.al (New.refl _) _) _) _)
  have HB4 : Hid (Blk w1 b4 43 (secA a)) := Lib.hid (by rw [hw1, hb4, HRA.out]; exact ((Blk.new _ _ _).alloc _).alloc _)
  have HB5 : Hid (Blk w1 b5 43 (secA b)) := Lib.hid (by rw [hw1, hb5, HRB.out]; exact (Blk.new' _ _ _ (by simp)).alloc _)
  have HW1 : Hid (WrIn w1 g g []) := Lib.hid ⟨⟨none, 0, by rw [hw1, hg]; exact Blk.new' _ _ _ (by simp), World.ownsRow_nil _ _ _ _⟩, Nat.le_refl _, fun x hx => nomatch hx⟩
  have HZ : Hid (b4 = w.heap.size ∧ b5 = w.heap.size + 1 ∧ g = w.heap.size + 2) := Lib.hid ⟨hb4, hb5, hg⟩
  rw [← hw1, ← hg, ← hb5, ← hb4]
  clear hw1 hb4 hb5 hg
  refine wp_region_mixH (fun w' => Blk w' b4 43 (secA a) ∧ Blk w' b5 43 (secA b)) [(true, 0), (true, 2), (true, 3), (true, 5), (true, 7), (false, 1), (false, 4), (false, 6), (false, 8), (false, 9), (true, 10), (true, 11), (true, 12), (true, 13)] (by kernel_rfl) (by kernel_rfl) ⟨(New.dr (New.refl w1)).blk HB4.out, (New.dr (New.refl w1)).blk HB5.out⟩ (fun hne => ?_)
  iterate 3 (refine mix_take (o := ⟨_, _, _, _, _, _⟩) rfl (fun K hK => ?_); go_simp; refine hK _ ?_; clear hK K)
  refine mix_take_row (o := ⟨_, _, _, _, _, _⟩) (cs := u8s a) rfl rfl _ rfl rfl (fun w' h => by have h2 := Blk.rangeOf h.1; rw [secA_list] at h2; exact h2) Tryd.underlying43 rfl (by rw [u8s_len, HA.out.1]; rfl) ?_
  refine mix_take_row (o := ⟨_, _, _, _, _, _⟩) (cs := u8s b) rfl rfl _ rfl rfl (fun w' h => by have h2 := Blk.rangeOf h.2; rw [secA_list] at h2; exact h2) Tryd.underlying43 rfl (by rw [u8s_len, HB.out.1]; rfl) ?_
  refine mix_act (o := ⟨_, _, _, _, _, _⟩) rfl (fun K hK => ?_) (.inl rfl)
  go_simp
  refine (wnum_any (w := w1.drew) (HW1.out.new (New.dr (New.refl w1))) 2 1 (by omega) (by omega) (by simp)).mono ?_
  rintro e wa ⟨rfl, hW, hF⟩
  have HWwa := Lib.hid hW
  have HFwa : Hid (FW g g w1 wa) := Lib.hid ((FW.new (New.dr (New.refl w1))).tr hF)
  have HSwa : Hid (Blk wa b4 43 (secA a) ∧ Blk wa b5 43 (secA b)) := Lib.hid ⟨HFwa.out.blk HB4.out (by decide) (by have := HZ.out; omega), HFwa.out.blk HB5.out (by decide) (by have := HZ.out; omega)⟩
  clear hW hF
  go_simp
  refine hK.out _ _ (fun _ => HSwa.out) ?_
  clear hK K
  refine mix_act (o := ⟨_, _, _, _, _, _⟩) rfl (fun K hK => ?_) (.inl rfl)
  go_simp
  refine (wnum_any HWwa.out h 1 (by omega) (by have := HH.out; omega) (by simp [beL_len])).mono ?_
  rintro e wb ⟨rfl, hW, hF⟩
  have HWwb := Lib.hid hW
  have HFwb : Hid (FW g g w1 wb) := Lib.hid (HFwa.out.tr hF)
  have HSwb : Hid (Blk wb b4 43 (secA a) ∧ Blk wb b5 43 (secA b)) := Lib.hid ⟨HFwb.out.blk HB4.out (by decide) (by have := HZ.out; omega), HFwb.out.blk HB5.out (by decide) (by have := HZ.out; omega)⟩
  clear hW hF
  go_simp
  refine hK.out _ _ (fun _ => HSwb.out) ?_
  clear hK K
  refine mix_act (o := ⟨_, _, _, _, _, _⟩) rfl (fun K hK => ?_) (.inl rfl)
  go_simp
  refine (whash_any HWwb.out a HA.out.1 HA.out.2 (by simp [beL_len])).mono ?_
  rintro e wc ⟨rfl, hW, hF⟩
  have HWwc := Lib.hid hW
  have HFwc : Hid (FW g g w1 wc) := Lib.hid (HFwb.out.tr hF)
  have HSwc : Hid (Blk wc b4 43 (secA a) ∧ Blk wc b5 43 (secA b)) := Lib.hid ⟨HFwc.out.blk HB4.out (by decide) (by have := HZ.out; omega), HFwc.out.blk HB5.out (by decide) (by have := HZ.out; omega)⟩
  clear hW hF
  go_simp
  refine hK.out _ _ (fun _ => HSwc.out) ?_
  clear hK K
  refine mix_act (o := ⟨_, _, _, _, _, _⟩) rfl (fun K hK => ?_) (.inl rfl)
  go_simp
  refine (whash_any HWwc.out b HB.out.1 HB.out.2 (by simp [beL_len, HA.out.1])).mono ?_
  rintro e wd ⟨rfl, hW, hF⟩
  have hW : WrIn wd g g (ndL h a b) := hW
  have HWwd := Lib.hid hW
  have HFwd : Hid (FW g g w1 wd) := Lib.hid (HFwc.out.tr hF)
  have HSwd : Hid (Blk wd b4 43 (secA a) ∧ Blk wd b5 43 (secA b)) := Lib.hid ⟨HFwd.out.blk HB4.out (by decide) (by have := HZ.out; omega), HFwd.out.blk HB5.out (by decide) (by have := HZ.out; omega)⟩
  clear hW hF
  go_simp
  refine hK.out _ _ (fun _ => HSwd.out) ?_
  clear hK K
  have HJ : Hid ((ndL h a b).length = 66) := Lib.hid (ndL_len HA.out.1 HB.out.1)
  obtain ⟨J, hJ⟩ : ∃ J, J = ndL h a b := ⟨_, rfl⟩
  have HJE := Lib.hid hJ
  rw [← hJ] at HWwd HJ
  clear hJ
  refine mix_act (o := ⟨_, _, _, _, _, _⟩) rfl (fun K hK => ?_) (.inl rfl)
  go_simp
  refine (wdone_any HWwd.out (by rw [HJ.out]; omega)).mono ?_
  rintro e w6 ⟨⟨B, d, rfl, hO⟩, hN6⟩
  rw [HJ.out] at hO ⊢
  have HO := Lib.hid hO
  have HN6 : Hid (New w w6) := Lib.hid ((HFwd.out.toNew HN1.out (by have := HZ.out; have := HW1.out.lt; omega) (Nat.le_refl _)).tr hN6)
  have HS6 : Hid (Blk w6 b4 43 (secA a) ∧ Blk w6 b5 43 (secA b)) := Lib.hid ⟨hN6.blk HSwd.out.1, hN6.blk HSwd.out.2⟩
  clear hO hN6
  go_simp
  refine hK.out _ _ (fun _ => HS6.out) ?_
  clear hK K
  iterate 4 (refine mix_take (o := ⟨_, _, _, _, _, _⟩) rfl (fun K hK => ?_); go_simp; refine hK _ ?_; clear hK K)
  refine mix_done ?_
  go_wp2_with fail
  go_ret2
  exact ⟨B, d, rfl, by rw [← HJE.out]; exact (Rd.own HO.out rfl).imp (fun _ _ => trivial), HN6.out⟩
end Go.Proofs.YtdojmjglnlkmoaaDoor
/- A row's zero value, made, in a straight list of operations: the block and its world come as letters. No condition. -/
namespace Go.Proofs.YtdojmjglnlkmoaaDoor
set_option linter.unusedVariables false
set_option linter.unusedSimpArgs false
set_option linter.constructorNameAsVariable false
open Go.RowKit

theorem wpList_alloc_row {P : Program} {ops : Array Oper} {Q : Exit → Act → World → Prop} {rest : List Oper} {o : Oper} {a : Act} {w : World} {T : TypeId} {n : Nat} {zs : Array Value} (hg1 : o.guard = none) (ho : o.op = .alloc T) (hZ : (P.info? T).map (fun i => (i.zero, i.size)) = some (some (.agg zs), n))
    (h : ∀ b w', b = w.heap.size → Blk w' b T zs → New w w' → wpList P ops Q rest (a.put o.dst (.pointer (some ⟨b, 0, none⟩))) w') : wpList P ops Q (o :: rest) a w := by
  obtain ⟨z1, z2⟩ := zero_of_info hZ
  refine wpList_plain hg1 fun K' hK' => ?_
  have hal : (Instr.alloc T true (.tuple #[])).run P w = .ok (.pointer (some ⟨w.heap.size, 0, none⟩)) (w.alloc (.cells zs T)) := by
    unfold Instr.alloc
    simp [Sem.run_bind, z1 w, newVar, newRow, go_sem, Result.andThen, Value.cells]
  unfold Oper.wp
  simp only [execOp, ho, hal, Result.andThen_ok, Sem.run_bind, Sem.run_pure]
  exact hK' _ _ (h _ _ rfl (Blk.new _ _ _) (New.al (New.refl _) _))
end Go.Proofs.YtdojmjglnlkmoaaDoor
/- A node's hash. sha's tables are as they were laid. No condition else. -/
namespace Go.Proofs.YtdojmjglnlkmoaaDoor
set_option linter.unusedVariables false
set_option linter.unusedSimpArgs false
set_option linter.constructorNameAsVariable false
open Go.RowKit Go.Sort

set_option maxHeartbeats 2000000
set_option maxRecDepth 100000
theorem hashed_any {q : Nat → Prop} (A : Option Addr) (n c : Nat) (xs : List Int) (w : World) (hL : ShaIn 3 2 w) (hR : Rd q w 1 A n (u8s xs)) (hb : Byt xs) (hn : n ≤ 500000000) :
    Calls Tryd.prog 77 #[.slice A n c, .nilIface] w fun e w' => e = .returned (.tuple #[.agg (secA (hsh xs)), .nilIface]) ∧ New w w' := by
  have HC := Lib.hid (fun W (hN : New w W) => sum_any A n c xs W (hL.new hN) (hN.rd hR) hb hn)
  obtain ⟨hs, hhs⟩ : ∃ hs, hs = hsh xs := ⟨_, rfl⟩
  rw [← hhs] at HC ⊢
  have HLN : Hid ((secA hs).size = 32) := Lib.hid (by rw [hhs, secA_size, hsh_len])
  clear hL hR hb hn hhs
  go_enter Tryd.func77, Tryd.ntmps77
  go_upto_region 1 with ((with_reducible refine atOp ⟨some 4, .alloc _, _, _, _, _⟩ ?_); refine wpList_alloc_row rfl rfl hashInfoR ?_; intro b4 w1 hb4 hB4 hN1; have HB4 := Lib.hid hB4; have HN1 := Lib.hid hN1; have HZ := Lib.hid hb4; clear hb4 hB4 hN1)
  go_upto_region 3 with fail
  go_wp2_with fail
  refine (HC.out w1 HN1.out).mono ?_
  rintro e w2 ⟨rfl, hN2⟩
  have HN2 : Hid (New w w2) := Lib.hid (HN1.out.tr hN2)
  have HB42 : Hid (Blk w2 b4 43 (secA (List.replicate 32 0))) := Lib.hid (hN2.blk HB4.out)
  clear hN2
  go_wp2_with ((with_reducible refine atOp ⟨none, .store 43 (.tmp 4) _, _, _, _, _⟩ ?_); refine wpList_store_any rfl (.tmp 4) (.tmp 11) rfl (by rw [HLN.out]; rfl) rfl rfl HB42.out (by rw [HLN.out]; rfl) (secA_one _) ?_; intro w3 hb3 hf3; have HB43 := Lib.hid hb3; have HF3 := Lib.hid hf3; clear hb3 hf3)
  exact bodyPost_ret (results_row2h rfl _ _ b4 _ _ rfl HB43.out Tryd.underlying43 rfl (by rw [HLN.out]; rfl)) rfl ⟨rfl, HN2.out.fr HF3.out (fun k hk => by have := HZ.out; omega)⟩
theorem njoin_any (h : Nat) (a b : List Int) (w : World) (hL : ShaIn 3 2 w) (hh : 1 ≤ h ∧ h ≤ 32) (ha : a.length = 32 ∧ Byt a) (hb : b.length = 32 ∧ Byt b) :
    Calls Tryd.prog 70 #[.int .i64 h, .agg (secA a), .agg (secA b)] w fun e w' => e = .returned (.tuple #[.agg (secA (ndH h a b)), .nilIface]) ∧ New w w' := by
  have HJT := Lib.hid (fun W => joint_any h a b W hh ha hb)
  have HJ : Hid (hsh (ndL h a b) = ndH h a b ∧ Byt (ndL h a b) ∧ (secA (ndH h a b)).size = 32) := Lib.hid ⟨rfl, ndL_byt ha.2 hb.2, by rw [secA_size, ndH_len]⟩
  have HL := Lib.hid hL
  obtain ⟨JL, hJL⟩ : ∃ JL, JL = ndL h a b := ⟨_, rfl⟩
  obtain ⟨JH, hJH⟩ : ∃ JH, JH = ndH h a b := ⟨_, rfl⟩
  rw [← hJL] at HJ
  rw [← hJH] at HJ ⊢
  simp only [← hJL] at HJT
  obtain ⟨RA, hRA⟩ : ∃ RA, RA = secA a := ⟨_, rfl⟩
  have HRA : Hid (RA.size = 32) := Lib.hid (by rw [hRA, secA_size, ha.1])
  obtain ⟨RB, hRB⟩ : ∃ RB, RB = secA b := ⟨_, rfl⟩
  have HRB : Hid (RB.size = 32) := Lib.hid (by rw [hRB, secA_size, hb.1])
  simp only [← hRA, ← hRB] at HJT
  rw [← hRA, ← hRB]
  clear hJL hJH hL hh ha hb hRA hRB
  go_enter Tryd.func70, Tryd.ntmps70
  go_upto_region 1 with ((with_reducible refine atOp ⟨some 6, .alloc _, _, _, _, _⟩ ?_); refine wpList_alloc_row rfl rfl hashInfoR ?_; intro b6 w1 hb6 hB6 hN1; have HB6 := Lib.hid hB6; have HN1 := Lib.hid hN1; have HZ := Lib.hid hb6; clear hb6 hB6 hN1)
  have HB4 : Hid (Blk w1 w.heap.size 43 RA) := Lib.hid (HN1.out.blk ((Blk.new _ _ _).alloc _))
  have HB5 : Hid (Blk w1 (w.heap.size + 1) 43 RB) := Lib.hid (HN1.out.blk (Blk.new' _ _ _ (by simp)))
  have HN0 : Hid (New w w1) := Lib.hid ((New.al (New.al (New.refl _) _) _).tr HN1.out)
  have HZ2 : Hid (w.heap.size ≤ b6) := Lib.hid (by have := HZ.out; simp at this; omega)
  obtain ⟨b4, hb4⟩ : ∃ b4, b4 = w.heap.size := ⟨_, rfl⟩
  obtain ⟨b5, hb5⟩ : ∃ b5, b5 = w.heap.size + 1 := ⟨_, rfl⟩
  rw [← hb4] at HB4
  rw [← hb5] at HB5
  rw [← hb5, ← hb4]
  clear hb4 hb5 HZ HN1
  go_wp2_with (first
    | ((with_reducible refine atOp ⟨some 9, .load _ _, _, _, _, _⟩ ?_); refine wpList_load_any rfl _ rfl Tryd.underlying43 rfl (by rw [HRA.out]; rfl) rfl HB4.out ?_)
    | ((with_reducible refine atOp ⟨some 10, .load _ _, _, _, _, _⟩ ?_); refine wpList_load_any rfl _ rfl Tryd.underlying43 rfl (by rw [HRB.out]; rfl) rfl HB5.out ?_))
  refine (HJT.out w1).mono ?_
  rintro e w2 ⟨A, d, rfl, hR, hN2⟩
  have HR := Lib.hid hR
  have HN2 : Hid (New w w2) := Lib.hid (HN0.out.tr hN2)
  have HB62 : Hid (Blk w2 b6 43 (secA (List.replicate 32 0))) := Lib.hid (hN2.blk HB6.out)
  clear hR hN2
  go_wp2_with fail
  refine (hashed_any A 66 d JL w2 (HL.out.new HN2.out) HR.out HJ.out.2.1 (by omega)).mono ?_
  rintro e w3 ⟨rfl, hN3⟩
  rw [HJ.out.1]
  have HN3 : Hid (New w w3) := Lib.hid (HN2.out.tr hN3)
  have HB63 : Hid (Blk w3 b6 43 (secA (List.replicate 32 0))) := Lib.hid (hN3.blk HB62.out)
  clear hN3
  go_wp2_with ((with_reducible refine atOp ⟨none, .store 43 (.tmp 6) _, _, _, _, _⟩ ?_); refine wpList_store_any rfl (.tmp 6) (.tmp 15) rfl (by rw [HJ.out.2.2]; rfl) rfl rfl HB63.out (by rw [HJ.out.2.2]; rfl) (secA_one _) ?_; intro w4 hb3 hf3; have HB64 := Lib.hid hb3; have HF4 := Lib.hid hf3; clear hb3 hf3)
  exact bodyPost_ret (results_row2h rfl _ _ b6 _ _ rfl HB64.out Tryd.underlying43 rfl (by rw [HJ.out.2.2]; rfl)) rfl ⟨rfl, HN3.out.fr HF4.out (fun k hk => by have := HZ2.out; omega)⟩
end Go.Proofs.YtdojmjglnlkmoaaDoor
