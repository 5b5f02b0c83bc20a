/- Texts of one proof, one behind the other: RcF, NrA, OrA, Pre. No condition but each one's own. -/
import Derived.Test.YtdojmjglnlkmoaaDoorRecordPlaysM15
import Derived.Test.YtdojmjglnlkmoaaDoorRecordPlaysM17
import Derived.Test.YtdojmjglnlkmoaaDoorRecordPlaysM16
import Derived.Test.YtdojmjglnlkmoaaDoorRecordPlaysM10
import Derived.Test.YtdojmjglnlkmoaaDoorRecordPlaysM9
import Derived.Test.YtdojmjglnlkmoaaDoorRecordPlaysM3
import Derived.Test.YtdojmjglnlkmoaaDoorRecordPlaysM7
/- The record of a volume without written blocks. sha's tables are as they were laid. No condition else. -/
namespace Go.Proofs.YtdojmjglnlkmoaaDoor
set_option linter.unusedVariables false
set_option linter.unusedSimpArgs false
set_option linter.constructorNameAsVariable false
open Go.RowKit Go.Sort

set_option maxRecDepth 100000 in
theorem built_fst' (x0 x1 x2 x3 x4 x5 x6 x7 x8 x9 x10 x11 x12 x13 x14 x15 x16 x17 x18 x19 x20 x21 x22 x23 x24 x25 x26 x27 x28 x29 x30 x31 : Int) (a : Nat) : Tryd.prog.built 48 [(0, .agg (secA [x0, x1, x2, x3, x4, x5, x6, x7, x8, x9, x10, x11, x12, x13, x14, x15, x16, x17, x18, x19, x20, x21, x22, x23, x24, x25, x26, x27, x28, x29, x30, x31])), (1, .int .u64 a), (3, .int .u64 1), (4, .int .u64 1)] = some (Rc.cells ⟨[x0, x1, x2, x3, x4, x5, x6, x7, x8, x9, x10, x11, x12, x13, x14, x15, x16, x17, x18, x19, x20, x21, x22, x23, x24, x25, x26, x27, x28, x29, x30, x31], a, 0, 1, 1, 0⟩) := by kernel_rfl
set_option maxRecDepth 100000 in
theorem built_fst (xs : List Int) (h : xs.length = 32) (a : Nat) : Tryd.prog.built 48 [(0, .agg (secA xs)), (1, .int .u64 a), (3, .int .u64 1), (4, .int .u64 1)] = some (Rc.cells ⟨xs, a, 0, 1, 1, 0⟩) := by
  obtain ⟨x0, xs, rfl⟩ := List.exists_cons_of_length_eq_add_one h
  replace h : xs.length = 31 := by simpa using h
  obtain ⟨x1, xs, rfl⟩ := List.exists_cons_of_length_eq_add_one h
  replace h : xs.length = 30 := by simpa using h
  obtain ⟨x2, xs, rfl⟩ := List.exists_cons_of_length_eq_add_one h
  replace h : xs.length = 29 := by simpa using h
  obtain ⟨x3, xs, rfl⟩ := List.exists_cons_of_length_eq_add_one h
  replace h : xs.length = 28 := by simpa using h
  obtain ⟨x4, xs, rfl⟩ := List.exists_cons_of_length_eq_add_one h
  replace h : xs.length = 27 := by simpa using h
  obtain ⟨x5, xs, rfl⟩ := List.exists_cons_of_length_eq_add_one h
  replace h : xs.length = 26 := by simpa using h
  obtain ⟨x6, xs, rfl⟩ := List.exists_cons_of_length_eq_add_one h
  replace h : xs.length = 25 := by simpa using h
  obtain ⟨x7, xs, rfl⟩ := List.exists_cons_of_length_eq_add_one h
  replace h : xs.length = 24 := by simpa using h
  obtain ⟨x8, xs, rfl⟩ := List.exists_cons_of_length_eq_add_one h
  replace h : xs.length = 23 := by simpa using h
  obtain ⟨x9, xs, rfl⟩ := List.exists_cons_of_length_eq_add_one h
  replace h : xs.length = 22 := by simpa using h
  obtain ⟨x10, xs, rfl⟩ := List.exists_cons_of_length_eq_add_one h
  replace h : xs.length = 21 := by simpa using h
  obtain ⟨x11, xs, rfl⟩ := List.exists_cons_of_length_eq_add_one h
  replace h : xs.length = 20 := by simpa using h
  obtain ⟨x12, xs, rfl⟩ := List.exists_cons_of_length_eq_add_one h
  replace h : xs.length = 19 := by simpa using h
  obtain ⟨x13, xs, rfl⟩ := List.exists_cons_of_length_eq_add_one h
  replace h : xs.length = 18 := by simpa using h
  obtain ⟨x14, xs, rfl⟩ := List.exists_cons_of_length_eq_add_one h
  replace h : xs.length = 17 := by simpa using h
  obtain ⟨x15, xs, rfl⟩ := List.exists_cons_of_length_eq_add_one h
  replace h : xs.length = 16 := by simpa using h
  obtain ⟨x16, xs, rfl⟩ := List.exists_cons_of_length_eq_add_one h
  replace h : xs.length = 15 := by simpa using h
  obtain ⟨x17, xs, rfl⟩ := List.exists_cons_of_length_eq_add_one h
  replace h : xs.length = 14 := by simpa using h
  obtain ⟨x18, xs, rfl⟩ := List.exists_cons_of_length_eq_add_one h
  replace h : xs.length = 13 := by simpa using h
  obtain ⟨x19, xs, rfl⟩ := List.exists_cons_of_length_eq_add_one h
  replace h : xs.length = 12 := by simpa using h
  obtain ⟨x20, xs, rfl⟩ := List.exists_cons_of_length_eq_add_one h
  replace h : xs.length = 11 := by simpa using h
  obtain ⟨x21, xs, rfl⟩ := List.exists_cons_of_length_eq_add_one h
  replace h : xs.length = 10 := by simpa using h
  obtain ⟨x22, xs, rfl⟩ := List.exists_cons_of_length_eq_add_one h
  replace h : xs.length = 9 := by simpa using h
  obtain ⟨x23, xs, rfl⟩ := List.exists_cons_of_length_eq_add_one h
  replace h : xs.length = 8 := by simpa using h
  obtain ⟨x24, xs, rfl⟩ := List.exists_cons_of_length_eq_add_one h
  replace h : xs.length = 7 := by simpa using h
  obtain ⟨x25, xs, rfl⟩ := List.exists_cons_of_length_eq_add_one h
  replace h : xs.length = 6 := by simpa using h
  obtain ⟨x26, xs, rfl⟩ := List.exists_cons_of_length_eq_add_one h
  replace h : xs.length = 5 := by simpa using h
  obtain ⟨x27, xs, rfl⟩ := List.exists_cons_of_length_eq_add_one h
  replace h : xs.length = 4 := by simpa using h
  obtain ⟨x28, xs, rfl⟩ := List.exists_cons_of_length_eq_add_one h
  replace h : xs.length = 3 := by simpa using h
  obtain ⟨x29, xs, rfl⟩ := List.exists_cons_of_length_eq_add_one h
  replace h : xs.length = 2 := by simpa using h
  obtain ⟨x30, xs, rfl⟩ := List.exists_cons_of_length_eq_add_one h
  replace h : xs.length = 1 := by simpa using h
  obtain ⟨x31, xs, rfl⟩ := List.exists_cons_of_length_eq_add_one h
  replace h : xs.length = 0 := by simpa using h
  obtain rfl := List.eq_nil_of_length_eq_zero h
  exact built_fst' x0 x1 x2 x3 x4 x5 x6 x7 x8 x9 x10 x11 x12 x13 x14 x15 x16 x17 x18 x19 x20 x21 x22 x23 x24 x25 x26 x27 x28 x29 x30 x31 a
set_option maxRecDepth 100000 in
theorem built_none : Tryd.prog.built 48 [] = some rc0.cells := by kernel_rfl
def fstR (n : Nat) : Rc := ⟨empH (hgt n), n, 0, 1, 1, 0⟩
theorem fstR_ok {n : Nat} (h : n ≤ 4294967296) : (fstR n).Ok := ⟨empH_len _, empH_byt _, by show n < _; omega, by show 0 < _; omega, by show 1 < _; omega, by show 1 < _; omega, by show 0 < _; omega⟩
theorem fstR_right {n : Nat} (h1 : 1 ≤ n) (h2 : n ≤ 4294967296) : (fstR n).Right := ⟨h1, h2, by show 1 ≤ 1; omega, by show 1 ≤ 1; omega, by show 0 < 1; omega⟩
set_option maxHeartbeats 2000000
set_option maxRecDepth 100000
theorem first_ok (n : Nat) (w : World) (hL : ShaIn 3 2 w) (h1 : 1 ≤ n) (h2 : n ≤ 4294967296) : Calls Tryd.prog 20 #[.int .u64 n] w fun e w' => e = .returned (.tuple #[.agg (fstR n).cells, .nilIface]) ∧ New w w' := by
  have HL := Lib.hid hL
  have HN := Lib.hid (And.intro h1 h2)
  obtain ⟨ht, hht⟩ : ∃ ht, ht = hgt n := ⟨_, rfl⟩
  have HT : Hid (ht ≤ 32) := Lib.hid (by rw [hht]; exact hgt_le h1 h2)
  have HHT := Lib.hid hht
  obtain ⟨EH, hEH⟩ : ∃ EH, EH = empH ht := ⟨_, rfl⟩
  have HEH := Lib.hid hEH
  have HBU : Hid (Tryd.prog.built 48 [(0, .agg (secA EH)), (1, .int .u64 n), (3, .int .u64 1), (4, .int .u64 1)] = some (fstR n).cells) := Lib.hid (by rw [hEH, hht]; exact built_fst _ (empH_len _) _)
  have HS32 : Hid ((secA EH).size = 32) := Lib.hid (by rw [hEH, secA_size, empH_len])
  have HS37 : Hid ((fstR n).cells.size = 37) := Lib.hid (Rc.size (empH_len _))
  clear hL h1 h2 hht hEH
  go_enter Tryd.func20, Tryd.ntmps20
  go_upto_region 1 with ((with_reducible refine atOp ⟨some 2, .alloc _, _, _, _, _⟩ ?_); refine wpList_alloc_row rfl rfl recInfo ?_; intro b2 w1 hb hB hN; have HB2 := Lib.hid hB; have HN1 := Lib.hid hN; have HZ := Lib.hid hb; clear hb hB hN)
  go_wp2_with fail
  refine (height_ok n w1 HN.out.1 HN.out.2).mono ?_
  rintro e w2 ⟨rfl, rfl⟩
  rw [← HHT.out]
  go_wp2_with fail
  refine (empty_any ht _ (HL.out.new HN1.out) HT.out).mono ?_
  rintro e w2 ⟨rfl, hN2⟩
  rw [← HEH.out]
  have HN2 : Hid (New w w2) := Lib.hid (HN1.out.tr hN2)
  have HB22 : Hid (Blk w2 b2 48 rc0.cells) := Lib.hid (hN2.blk HB2.out)
  clear hN2 HB2
  go_upto_region 5 with ((with_reducible refine atOp ⟨some 6, .alloc _, _, _, _, _⟩ ?_); refine wpList_newrow rfl rfl rfl _ _ rfl hashInfoR (by rfl) rfl rfl HS32.out (secA_one _) ?_)
  obtain ⟨w3, hw3⟩ : ∃ w3 : World, w3 = w2.alloc (.cells (secA EH) 43) := ⟨_, rfl⟩
  obtain ⟨b6, hb6⟩ : ∃ b6, b6 = w2.heap.size := ⟨_, rfl⟩
  have HN3 : Hid (New w w3) := Lib.hid (HN2.out.tr (by rw [hw3]; exact New.al (New.refl _) _))
  have HB6 : Hid (Blk w3 b6 43 (secA EH)) := Lib.hid (by rw [hw3, hb6]; exact Blk.new _ _ _)
  have HB23 : Hid (Blk w3 b2 48 rc0.cells) := Lib.hid (by rw [hw3]; exact (New.al (New.refl _) _).blk HB22.out)
  rw [← hw3, ← hb6]
  clear hw3 hb6 HN2 HB22
  go_wp2_with (first
    | ((with_reducible refine atOp ⟨some 21, .load _ _, _, _, _, _⟩ ?_); refine wpList_load_any rfl _ rfl Tryd.underlying43 rfl (by rw [HS32.out]; rfl) rfl HB6.out ?_)
    | ((with_reducible refine atOp ⟨some 23, .build _ _, _, _, _, _⟩ ?_); refine wpList_built rfl _ [(0, .tmp 21), (1, .tmp 22), (3, .const (.int .u64 1)), (4, .const (.int .u64 1))] rfl _ rfl _ HBU.out ?_)
    | ((with_reducible refine atOp ⟨none, .store 48 (.tmp 2) _, _, _, _, _⟩ ?_); refine wpList_store_any rfl (.tmp 2) (.tmp 23) rfl (by rw [HS37.out]; rfl) rfl rfl HB23.out (by rw [HS37.out]; rfl) (Rc.one _) ?_; intro w5 hb5 hf5; have HB5 := Lib.hid hb5; have HF5 := Lib.hid hf5; clear hb5 hf5))
  exact bodyPost_ret (results_row2h rfl _ _ b2 _ _ rfl HB5.out Tryd.underlying48 rfl (by rw [HS37.out]; rfl)) rfl ⟨rfl, HN3.out.fr HF5.out (fun x hx => by have := HZ.out; omega)⟩
theorem first_bad (n : Nat) (w : World) (h : ¬ (1 ≤ n ∧ n ≤ 4294967296)) : Calls Tryd.prog 20 #[.int .u64 n] w fun e w' => e = .returned (.tuple #[.agg rc0.cells, .iface 55 (.int .i64 1)]) ∧ New w w' := by
  have HN := Lib.hid h
  have HBU := Lib.hid built_none
  clear h
  go_enter Tryd.func20, Tryd.ntmps20
  go_upto_region 1 with ((with_reducible refine atOp ⟨some 2, .alloc _, _, _, _, _⟩ ?_); refine wpList_alloc_row rfl rfl recInfo ?_; intro b2 w1 hb hB hN; have HB2 := Lib.hid hB; have HN1 := Lib.hid hN; have HZ := Lib.hid hb; clear hb hB hN)
  go_wp2_with fail
  refine (height_bad n w1 HN.out).mono ?_
  rintro e w2 ⟨rfl, rfl⟩
  go_wp2_with (first
    | ((with_reducible refine atOp ⟨some 14, .build _ _, _, _, _, _⟩ ?_); refine wpList_built rfl _ [] rfl _ rfl _ HBU.out ?_)
    | ((with_reducible refine atOp ⟨none, .store 48 (.tmp 2) _, _, _, _, _⟩ ?_); refine wpList_store_any rfl (.tmp 2) (.tmp 14) rfl (by rfl) rfl rfl HB2.out rfl (Rc.one _) ?_; intro w5 hb5 hf5; have HB5 := Lib.hid hb5; have HF5 := Lib.hid hf5; clear hb5 hf5))
  exact bodyPost_ret (results_row2h rfl _ _ b2 _ _ rfl HB5.out Tryd.underlying48 rfl (by rfl)) rfl ⟨rfl, HN1.out.fr HF5.out (fun x hx => by have := HZ.out; omega)⟩
end Go.Proofs.YtdojmjglnlkmoaaDoor
/- The reference: a node's text and its hash. The tables of the reference's sha are as they were laid. No condition else. -/
namespace Go.Proofs.YtdojmjglnlkmoaaDoor
set_option linter.unusedVariables false
set_option linter.unusedSimpArgs false
set_option linter.constructorNameAsVariable false
open Go.RowKit Go.Sort

/-- A literal's row, owned. -/
theorem own_full {P : Nat} {w : World} {g : Nat} {t : TypeId} {size n : Nat} {cs : Array Value} (h : Blk w g t cs) (hP : P ≤ g) (hs : cs.size = n * size) (hm : n ≤ maxLen) : w.ownsRow P t size (.slice (some ⟨g, 0, none⟩) n n) n cs.toList :=
  ⟨by rw [Array.length_toList, hs], .inr ⟨g, n, cs, rfl, hP, h, Nat.le_refl _, hm, hs, by rw [← hs, List.take_of_length_le (by rw [Array.length_toList]; exact Nat.le_refl _)]⟩⟩
set_option maxHeartbeats 2000000
set_option maxRecDepth 100000
theorem rjoint_any (h : Nat) (a b : List Int) (w : World) (hh : h ≤ 255) (ha : a.length = 32 ∧ Byt a) (hb : b.length = 32 ∧ Byt b) :
    Calls Tryd.prog 60 #[.int .i64 h, .agg (secA a), .agg (secA b)] w fun e w' => ∃ A d, e = .returned (.slice A 66 d) ∧ Rd (fun _ => True) w' 1 A 66 (u8s (ndL h a b)) ∧ New w w' := by
  have HA := Lib.hid ha
  have HB := Lib.hid hb
  have HJ : Hid ([Value.int .u8 2, .int .u8 (h : Int)] ++ u8s a ++ u8s b = u8s (ndL h a b)) := Lib.hid (by rw [ndL_eq (by omega)]; simp [u8s])
  obtain ⟨RA, hRA⟩ : ∃ RA, RA = secA a := ⟨_, rfl⟩
  have HRA := Lib.hid hRA
  obtain ⟨RB, hRB⟩ : ∃ RB, RB = secA b := ⟨_, rfl⟩
  have HRB := Lib.hid hRB
  rw [← hRA, ← hRB]
  have q3 : IntKind.u8.wrap (h : Int) = (h : Int) := by rw [IntKind.wrap_u8]; omega
  clear ha hb hh hRA hRB
  go_enter Tryd.func60, Tryd.ntmps60
  go_upto_region 1 with fail
  obtain ⟨w1, hw1⟩ : ∃ w1 : World, w1 = (w.alloc (.cells RA 43)).alloc (.cells RB 43) := ⟨_, rfl⟩
  obtain ⟨b4, hb4⟩ : ∃ b4, b4 = w.heap.size := ⟨_, rfl⟩
  obtain ⟨b5, hb5⟩ : ∃ b5, b5 = w.heap.size + 1 := ⟨_, rfl⟩
  have HN1 : Hid (New w w1) := Lib.hid (by rw [hw1]; exact New.al (New.al (New.refl _) _) _)
  have HR4 : Hid (Rd (fun _ => True) w1 1 (some ⟨b4, 0, none⟩) 32 (u8s a)) := Lib.hid (by
    have hB : Blk w1 b4 43 (secA a) := by rw [hw1, hb4, HRA.out]; exact (Blk.new _ _ _).alloc _
    have h := Rd.ofBlk (p := fun _ => True) hB 1 32 (by rw [secA_size, HA.out.1]) trivial
    rw [secA_list] at h
    exact h)
  have HR5 : Hid (Rd (fun _ => True) w1 1 (some ⟨b5, 0, none⟩) 32 (u8s b)) := Lib.hid (by
    have hB : Blk w1 b5 43 (secA b) := by rw [hw1, hb5, HRB.out]; exact Blk.new' _ _ _ (by simp)
    have h := Rd.ofBlk (p := fun _ => True) hB 1 32 (by rw [secA_size, HB.out.1]) trivial
    rw [secA_list] at h
    exact h)
  rw [← hw1, ← hb5, ← hb4]
  clear hw1 hb4 hb5
  have HZ : Hid (w.heap.size ≤ w1.heap.size) := Lib.hid HN1.out.size
  have HN2 : Hid (New w1 (w1.alloc (.cells #[.int .u8 2, .int .u8 (h : Int)] 5))) := Lib.hid (New.al (New.refl _) _)
  go_wp2_with (first
    | ((with_reducible refine atOp ⟨some 12, _, _, _, _, _⟩ ?_); refine wpList_app elB _ rfl (.tmp 10) (.tmp 11) rfl w.heap.size (.slice (some ⟨w1.heap.size, 0, none⟩) 2 2) 2 [.int .u8 2, .int .u8 (h : Int)] rfl (own_full (Blk.new w1 5 #[.int .u8 2, .int .u8 (h : Int)]) HZ.out (by rfl) (by decide)) (some ⟨b4, 0, none⟩) 32 _ (u8s a) rfl (HN2.out.rd HR4.out) (u8s_one a) (by decide) (by decide) (by simp; have := HZ.out; omega) ?_; intro A1 d1 w3 hO hF hA; have HO := Lib.hid hO; have HN3 : Hid (New w1 w3) := Lib.hid (HN2.out.fr hF (by intro k hk; simp [Value.ownBlock] at hk; omega)); have HL3 : Hid (∀ k, (Value.slice A1 (2 + 32) d1).ownBlock = some k → w1.heap.size ≤ k) := Lib.hid (fun k hk => by rcases hA k hk with h | h <;> simp [Value.ownBlock] at h <;> omega); clear hO hF hA)
    | ((with_reducible refine atOp ⟨some 15, _, _, _, _, _⟩ ?_); refine wpList_app elB _ rfl (.tmp 13) (.tmp 14) rfl w.heap.size (.slice A1 (2 + 32) d1) (2 + 32) _ rfl HO.out (some ⟨b5, 0, none⟩) 32 _ (u8s b) rfl (HN3.out.rd HR5.out) (u8s_one b) (by decide) (by decide) (by have := HZ.out; have := HN3.out.size; omega) ?_; intro A2 d2 w4 hO2 hF2 hA2; have HO2 := Lib.hid hO2; have HN4 : Hid (New w1 w4) := Lib.hid (HN3.out.fr hF2 (fun k hk => HL3.out k hk)); clear hO2 hF2 hA2))
  go_ret
  exact ⟨A2, d2, rfl, by rw [← HJ.out]; exact (Rd.own HO2.out rfl).imp (fun _ _ => trivial), HN1.out.tr HN4.out⟩
theorem rjoin_any (h : Nat) (a b : List Int) (w : World) (hL : RShaIn 1 0 w) (hh : h ≤ 255) (ha : a.length = 32 ∧ Byt a) (hb : b.length = 32 ∧ Byt b) :
    Calls Tryd.prog 41 #[.int .i64 h, .agg (secA a), .agg (secA b)] w fun e w' => e = .returned (.agg (secA (ndH h a b))) ∧ New w w' := by
  have HJT := Lib.hid (fun W => rjoint_any h a b W hh ha hb)
  have HJ : Hid (hsh (ndL h a b) = ndH h a b ∧ Byt (ndL h a b) ∧ (secA (ndH h a b)).size = 32) := Lib.hid ⟨rfl, ndL_byt ha.2 hb.2, by rw [secA_size, ndH_len]⟩
  have HL := Lib.hid hL
  obtain ⟨JL, hJL⟩ : ∃ JL, JL = ndL h a b := ⟨_, rfl⟩
  obtain ⟨JH, hJH⟩ : ∃ JH, JH = ndH h a b := ⟨_, rfl⟩
  rw [← hJL] at HJ
  rw [← hJH] at HJ ⊢
  simp only [← hJL] at HJT
  obtain ⟨RA, hRA⟩ : ∃ RA, RA = secA a := ⟨_, rfl⟩
  have HRA : Hid (RA.size = 32) := Lib.hid (by rw [hRA, secA_size, ha.1])
  obtain ⟨RB, hRB⟩ : ∃ RB, RB = secA b := ⟨_, rfl⟩
  have HRB : Hid (RB.size = 32) := Lib.hid (by rw [hRB, secA_size, hb.1])
  simp only [← hRA, ← hRB] at HJT
  rw [← hRA, ← hRB]
  clear hJL hJH hL hh ha hb hRA hRB
  go_enter Tryd.func41, Tryd.ntmps41
  go_upto_region 1 with ((with_reducible refine atOp ⟨some 6, .alloc _, _, _, _, _⟩ ?_); refine wpList_alloc_row rfl rfl hashInfoR ?_; intro b6 w1 hb6 hB6 hN1; have HB6 := Lib.hid hB6; have HN1 := Lib.hid hN1; have HZ := Lib.hid hb6; clear hb6 hB6 hN1)
  have HB4 : Hid (Blk w1 w.heap.size 43 RA) := Lib.hid (HN1.out.blk ((Blk.new _ _ _).alloc _))
  have HB5 : Hid (Blk w1 (w.heap.size + 1) 43 RB) := Lib.hid (HN1.out.blk (Blk.new' _ _ _ (by simp)))
  have HN0 : Hid (New w w1) := Lib.hid ((New.al (New.al (New.refl _) _) _).tr HN1.out)
  have HZ2 : Hid (w.heap.size ≤ b6) := Lib.hid (by have := HZ.out; simp at this; omega)
  obtain ⟨b4, hb4⟩ : ∃ b4, b4 = w.heap.size := ⟨_, rfl⟩
  obtain ⟨b5, hb5⟩ : ∃ b5, b5 = w.heap.size + 1 := ⟨_, rfl⟩
  rw [← hb4] at HB4
  rw [← hb5] at HB5
  rw [← hb5, ← hb4]
  clear hb4 hb5 HZ HN1
  go_wp2_with (first
    | ((with_reducible refine atOp ⟨some 8, .load _ _, _, _, _, _⟩ ?_); refine wpList_load_any rfl _ rfl Tryd.underlying43 rfl (by rw [HRA.out]; rfl) rfl HB4.out ?_)
    | ((with_reducible refine atOp ⟨some 9, .load _ _, _, _, _, _⟩ ?_); refine wpList_load_any rfl _ rfl Tryd.underlying43 rfl (by rw [HRB.out]; rfl) rfl HB5.out ?_))
  refine (HJT.out w1).mono ?_
  rintro e w2 ⟨A, d, rfl, hR, hN2⟩
  have HR := Lib.hid hR
  have HN2 : Hid (New w w2) := Lib.hid (HN0.out.tr hN2)
  have HB62 : Hid (Blk w2 b6 43 (secA (List.replicate 32 0))) := Lib.hid (hN2.blk HB6.out)
  clear hR hN2
  go_wp2_with fail
  refine (rsum_any A 66 d JL w2 (HL.out.new HN2.out) HR.out HJ.out.2.1 (by omega)).mono ?_
  rintro e w3 ⟨rfl, hN3⟩
  rw [HJ.out.1]
  have HN3 : Hid (New w w3) := Lib.hid (HN2.out.tr hN3)
  have HB63 : Hid (Blk w3 b6 43 (secA (List.replicate 32 0))) := Lib.hid (hN3.blk HB62.out)
  clear hN3
  go_wp2_with ((with_reducible refine atOp ⟨none, .store 43 (.tmp 6) _, _, _, _, _⟩ ?_); refine wpList_store_any rfl (.tmp 6) (.tmp 11) rfl (by rw [HJ.out.2.2]; rfl) rfl rfl HB63.out (by rw [HJ.out.2.2]; rfl) (secA_one _) ?_; intro w4 hb3 hf3; have HB64 := Lib.hid hb3; have HF4 := Lib.hid hf3; clear hb3 hf3)
  exact bodyPost_ret (results_rowH rfl _ _ b6 _ _ rfl HB64.out Tryd.underlying43 rfl (by rw [HJ.out.2.2]; rfl)) rfl ⟨rfl, HN3.out.fr HF4.out (fun k hk => by have := HZ2.out; omega)⟩
end Go.Proofs.YtdojmjglnlkmoaaDoor
/- The reference's octets: numbers as bytes and back. No condition but that what is read can be read. -/
namespace Go.Proofs.YtdojmjglnlkmoaaDoor
set_option linter.unusedVariables false
set_option linter.unusedSimpArgs false
set_option linter.constructorNameAsVariable false
open Go.RowKit Go.Maps

theorem infoB : (Tryd.prog.info? 5).map (fun i => (i.zero, i.size, i.bytes)) = some (some (.int .u8 0), 1, 1) := by kernel_rfl
theorem made_u8 (n : Nat) : (madeCells (Value.int .u8 0).cells (n * 1)).toList = u8s (List.replicate n 0) := by
  have hc : (Value.int .u8 0).cells = #[.int .u8 0] := rfl
  rw [hc]
  apply List.ext_getElem
  · simp [madeCells, u8s]
  · intro i h1 h2
    simp [madeCells, u8s, Nat.mod_one]
theorem made_zs {w w1 : World} {size n : Nat} {v : Value} (h : w1.ownsRow w.heap.size 5 1 v size (madeCells (Value.int .u8 0).cells (size * 1)).toList) : ∃ zs : List Int, zs.length = size ∧ zs.drop size = (beL size n).drop size ∧ w1.ownsRow w.heap.size 5 1 v size (u8s zs) := by
  rw [made_u8] at h
  exact ⟨List.replicate size 0, by simp, by rw [List.drop_eq_nil_of_le (by simp), List.drop_eq_nil_of_le (by rw [beL_len]; exact Nat.le_refl _)], h⟩
theorem byteAt_div (n i : Nat) : n / 256 ^ i % 256 = byteAt n i := rfl
set_option maxHeartbeats 2000000 in
set_option maxRecDepth 100000 in
theorem number_any (n size : Nat) (w : World) (hs : size ≤ 1000) (hn : n < 18446744073709551616) :
    Calls Tryd.prog 50 #[.int .u64 n, .int .i64 size] w fun e w' => e = .returned (.slice (some ⟨w.heap.size, 0, none⟩) size size) ∧ w'.ownsRow w.heap.size 5 1 (.slice (some ⟨w.heap.size, 0, none⟩) size size) size (u8s (beL size n)) ∧ New w w' := by
  obtain ⟨i0, hi, hz0, hz1, hz2⟩ := info_parts infoB
  go_enter Tryd.func50, Tryd.ntmps50
  go_wp2_with ((with_reducible refine atOpS ⟨some 8, .makeSlice _ _ _, _, _, _, _⟩ ?_); refine wpList_make_full _ rfl _ _ 96 rfl w.heap.size 5 i0 (.int .u8 0) 1 Tryd.underlying96 hi hz0 hz1 .i64 .i64 size size size rfl rfl rfl rfl (by rw [hz2]; omega) (by unfold maxLen; omega) (Nat.le_refl _) ?_; intro w1 hO1 hg1; have HO1 : Hid (∃ zs : List Int, zs.length = size ∧ zs.drop size = (beL size n).drop size ∧ w1.ownsRow w.heap.size 5 1 (.slice (some ⟨w.heap.size, 0, none⟩) size size) size (u8s zs)) := Lib.hid (made_zs hO1); have HN1 : Hid (New w w1) := Lib.hid ((New.refl w).fr ((Fr.refl NoB w).grown hg1 (fun _ _ h => by cases h)) (fun k h => h.elim)); clear hO1 hg1)
  clear hi hz0 hz1 hz2
  have HO0 : Hid (∃ zs : List Int, zs.length = size ∧ zs.drop size = (beL size n).drop size ∧ w1.ownsRow w.heap.size 5 1 (.slice (some ⟨w.heap.size, 0, none⟩) size size) size (u8s zs)) := HO1
  obtain ⟨B, hB⟩ : ∃ B, B = w.heap.size := ⟨_, rfl⟩
  rw [← hB] at HO0 ⊢
  have HB := Lib.hid hB
  clear hB HO1
  go_loopw [0, 6] (fun v i wr => ∃ j : Nat, j ≤ size ∧ i = .int .i64 ((j : Int) - 1) ∧ v = .int .u64 ((n / 256 ^ (size - j) : Nat) : Int) ∧ Hid (∃ zs : List Int, zs.length = size ∧ zs.drop j = (beL size n).drop j ∧ wr.ownsRow B 5 1 (.slice (some ⟨B, 0, none⟩) size size) size (u8s zs)) ∧ Hid (New w wr)) (fun v i _ => (intOf i + 1).toNat)
  case atStart => exact ⟨size, Nat.le_refl _, by simp, by simp, HO0, HN1⟩
  case round =>
    obtain ⟨j, hj, rfl, rfl, HO, HN⟩ := hrel
    rcases Nat.eq_zero_or_pos j with h0 | h0
    · subst h0
      go_wp2_with fail
      go_ret
      obtain ⟨zs, hz1, hz2, hO⟩ := HO.out
      rw [List.drop_zero, List.drop_zero] at hz2
      rw [hz2] at hO
      rw [← HB.out]
      exact ⟨rfl, hO, HN.out⟩
    · obtain ⟨k, rfl⟩ : ∃ k, j = k + 1 := ⟨j - 1, by omega⟩
      have hk : (((k + 1 : Nat) : Int) - 1) = (k : Int) := by omega
      rw [hk]
      obtain ⟨zs, hz1, hz2, hO⟩ := HO.out
      obtain ⟨v, hv⟩ : ∃ v, v = n / 256 ^ (size - (k + 1)) := ⟨_, rfl⟩
      rw [← hv]
      have hvb : v < 18446744073709551616 := by rw [hv]; exact Nat.lt_of_le_of_lt (Nat.div_le_self _ _) hn
      have hq : v / 256 = n / 256 ^ (size - k) := by
        rw [hv, Nat.div_div_eq_div_mul, ← Nat.pow_succ]
        congr 2
        omega
      have hm : v % 256 = byteAt n (size - 1 - k) := by
        rw [hv]
        unfold byteAt
        rw [show size - 1 - k = size - (k + 1) by omega]
      have hkz : k < zs.length := by omega
      have cj : wr.cell? ⟨B, k, none⟩ = some (.int .u8 zs[k]) := by
        rw [hO.cellAt k (by omega)]
        unfold u8s
        rw [List.getElem?_map, List.getElem?_eq_getElem hkz]
        rfl
      have fj : wr.frozen? ⟨B, k, none⟩ = false := hO.frozenAt k
      have hst := (hO.stored k (.int .u8 ((v % 256 : Nat) : Int))).1
      have hgr := (hO.stored k (.int .u8 ((v % 256 : Nat) : Int))).2
      generalize zs[k] = zk at cj
      have HST := Lib.hid hst
      have HGR := Lib.hid hgr
      have HZ1 := Lib.hid hz1
      have HZ2 := Lib.hid hz2
      have HQ := Lib.hid hq
      have HM := Lib.hid hm
      have hk0 : (0 : Int) ≤ (k : Int) := by omega
      have hks : (k : Int) < (size : Int) := by omega
      have hv0 : (0 : Int) ≤ (v : Int) := by omega
      have hvI : (v : Int) < 18446744073709551616 := by omega
      have hu8 := u8_wrap v
      clear hst hgr hz1 hz2 hq hm hv hO hk
      go_wp2_with fail
      have e256 : ((v : Int) % 256) = ((v % 256 : Nat) : Int) := by omega
      refine ⟨⟨k, by omega, rfl, ?_, Lib.hid ⟨zs.set k ((v % 256 : Nat) : Int), by rw [List.length_set]; exact HZ1.out, ?_, ?_⟩, Lib.hid ?_⟩, by simp [intOf]⟩
      · rw [← HQ.out]
        congr 1
      · have hl1 : k < (zs.set k ((v % 256 : Nat) : Int)).length := by rw [List.length_set]; exact hkz
        have hl2 : k < (beL size n).length := by rw [beL_len]; omega
        rw [List.drop_eq_getElem_cons hl1, List.drop_eq_getElem_cons hl2, List.getElem_set_self, beL_get, ← HM.out, List.drop_set_of_lt (by omega), HZ2.out]
      · rw [e256]
        have := HST.out
        unfold u8s at this ⊢
        rw [List.map_set]
        exact this
      · rw [e256]
        exact HN.out.fr ((Fr.refl (fun j => j = B) wr).setCell (p := ⟨B, k, none⟩) (fun _ => rfl) _) (fun j hj => by have := HB.out; omega)
set_option maxHeartbeats 2000000 in
theorem value_any {p : Nat → Prop} (A : Option Addr) (n c : Nat) (xs : List Int) (w : World) (hR : Rd p w 1 A n (u8s xs)) (hb : Byt xs) (hn : n ≤ 8) :
    Calls Tryd.prog 34 #[.slice A n c] w fun e w' => e = .returned (.int .u64 (valL xs)) ∧ w = w' := by
  have hx : xs.length = n := by have := hR.1; rw [u8s_len] at this; omega
  have HR := Lib.hid hR
  have HB := Lib.hid hb
  have HX := Lib.hid hx
  clear hR hb hx
  go_enter Tryd.func34, Tryd.ntmps34
  go_wp2_with fail
  go_loop [3, 4] (fun v i => ∃ j : Nat, j ≤ n ∧ i = .int .i64 j ∧ v = .int .u64 (valL (xs.take j))) (fun v i => n - (intOf i).toNat)
  case atStart => exact ⟨0, Nat.zero_le _, rfl, rfl⟩
  case round =>
    obtain ⟨j, hj, rfl, rfl⟩ := hrel
    by_cases hlt : j < n
    · obtain ⟨gA, o, rfl, -, -, hq⟩ := HR.out.out (by omega) (by omega)
      have hjl : j < xs.length := by rw [HX.out]; exact hlt
      have hcell : w.cell? ⟨gA, o + j, none⟩ = some (.int .u8 xs[j]) := hq j _ (by simp [u8s, hjl])
      have hst := valL_take hjl
      have hbx := HB.out xs[j] (List.getElem_mem _)
      have hv := valL_lt (xs := xs.take j) (fun x hx => HB.out x (List.mem_of_mem_take hx))
      rw [List.length_take, Nat.min_eq_left (by omega)] at hv
      have hv7 : valL (xs.take j) < 256 ^ 7 := Nat.lt_of_lt_of_le hv (Nat.pow_le_pow_right (by decide) (by omega))
      generalize xs[j] = x at hcell hst hbx
      generalize valL (xs.take j) = v at hst hv7 ⊢
      obtain ⟨y, rfl⟩ : ∃ y : Nat, x = (y : Int) := ⟨x.toNat, by omega⟩
      have HST := Lib.hid hst
      have hy : y < 256 := by omega
      have hj0 : (0 : Int) ≤ (j : Int) := by omega
      have hjm : (j : Int) < (n : Int) := by omega
      have hvv : (v : Int) < 72057594037927936 := by omega
      clear hst hq hv hbx hjl hv7
      go_wp2_with fail
      refine ⟨⟨j + 1, by omega, by go_num, ?_⟩, by simp [intOf]; omega⟩
      rw [HST.out]
      simp
    · obtain rfl : j = n := by omega
      go_wp2_with fail
      go_ret
      rw [List.take_of_length_le (by rw [HX.out]; exact Nat.le_refl _)]
      exact ⟨rfl, rfl⟩
end Go.Proofs.YtdojmjglnlkmoaaDoor
/- A region that draws its order, by a script of loads (they all come before the first act, whatever order is drawn), pure operations (they yield the same in every world) and acts (each comes up alone). What the loads read may be broken by any act. After XLast, XMx. No condition. -/
namespace Go.Proofs.YtdojmjglnlkmoaaDoor
set_option linter.unusedVariables false
set_option linter.unusedSimpArgs false
set_option linter.constructorNameAsVariable false
open Go.RowKit

section
variable {P : Program} {md : Region.Mode} {ops : Array Oper} {Q : Exit → Act → World → Prop} {S : World → Prop} {first : Nat}
/-- Whatever order is picked, and S holds till number 'first' was done. -/
def wpAnyU (P : Program) (md : Region.Mode) (ops : Array Oper) (Q : Exit → Act → World → Prop) (S : World → Prop) (first : Nat) : Nat → Array Bool → Act → World → Prop
  | 0, listed, a, w => Region.ready md ops listed = [] ∧ Q .normal a w
  | fuel + 1, listed, a, w =>
    (Region.ready md ops listed = [] → Q .normal a w) ∧
    ∀ i ∈ Region.ready md ops listed, wpOp P ops Q i (fun a' w' => ((listed.setIfInBounds i true).getD first true = false → S w') ∧ wpAnyU P md ops Q S first fuel (listed.setIfInBounds i true) a' w') a w
theorem wpAny_of_U : ∀ (fuel : Nat) (listed : Array Bool) (a : Act) (w : World), wpAnyU P md ops Q S first fuel listed a w → wpAny P md ops Q fuel listed a w
  | 0, _, _, _, h => h
  | fuel + 1, _, _, _, h => ⟨h.1, fun i hi => wpOp_mono (fun a' w' h' => wpAny_of_U fuel _ a' w' h'.2) (h.2 i hi)⟩
/-- A take: a load that 'first' waits for, or what yields in every world. -/
theorem wpAnyU_first {S' : World → Prop} {i : Nat} {oi : Oper} {v : Value} (hi : ops[i]? = some oi) (hsel : ∀ (j : Nat) (o : Oper) cs b, ops[j]? = some o → o.op ≠ .select cs b)
    (hQ : ∀ c a w, Q (.panic c) (a.put oi.dst v) w → Q (.panic c) a w) (hif : i ≠ first) (hkind : (waitsOn md ops first i = true ∧ S' = S) ∨ ∀ w, S' w) :
    ∀ (fuel : Nat) (listed : Array Bool) (a : Act) (w : World),
      (∀ j oj, ops[j]? = some oj → j ≠ i → listed.getD j true = false → (∀ e ∈ oj.after, Region.binds md e = true → e.on ≠ i) → oi.apart ops oj = true) →
      i ∈ Region.ready md ops listed → YieldsIf P ops S' oi v a → (listed.getD first true = false → S w) → (waitsOn md ops first i = true → listed.getD first true = false) →
      wpAnyU P md ops Q S first fuel (listed.setIfInBounds i true) (a.put oi.dst v) w → wpAnyU P md ops Q S first (fuel + 1) listed a w := by
  have hset : ∀ (l : Array Bool), (l.setIfInBounds i true).getD first true = l.getD first true := fun l => getD_set_ne true hif
  have hS' : ∀ {listed : Array Bool} {w : World}, (listed.getD first true = false → S w) → (waitsOn md ops first i = true → listed.getD first true = false) → S' w := fun h1 h2 => by
    rcases hkind with ⟨hw, rfl⟩ | h
    · exact h1 (h2 hw)
    · exact h _
  intro fuel
  induction fuel with
  | zero =>
    intro listed a w _ hr hy hS hf H
    refine ⟨fun h => (by rw [h] at hr; cases hr), fun j hj => ?_⟩
    by_cases hji : j = i
    · subst hji; exact hy.wpOp hi (hS' hS hf) ⟨fun h => hS (by rwa [hset] at h), H⟩
    · have := ready_mono hj hji
      rw [H.1] at this
      cases this
  | succ fuel ih =>
    intro listed a w hfree hr hy hS hf H
    refine ⟨fun h => (by rw [h] at hr; cases hr), fun j hj => ?_⟩
    by_cases hji : j = i
    · subst hji; exact hy.wpOp hi (hS' hS hf) ⟨fun h => hS (by rwa [hset] at h), H⟩
    · have h1 := H.2 j (ready_mono hj hji)
      obtain ⟨hjun, oj, hoj, hall⟩ := mem_ready.1 hj
      have hnot : ∀ e ∈ oj.after, Region.binds md e = true → e.on ≠ i := fun e he hb heq => by
        have h1 := hall e he hb
        have h0 := (mem_ready.1 hr).1
        rw [heq] at h1
        rcases Nat.lt_or_ge i listed.size with h' | h'
        · simp [h'] at h0 h1; rw [h0] at h1; cases h1
        · simp [Array.getElem?_eq_none h'] at h1
      have hjl : waitsOn md ops first i = true → j ≠ first := fun hlast e => by
        subst e
        simp only [waitsOn, hoj, Array.any_eq_true] at hlast
        obtain ⟨n, hn, hb⟩ := hlast
        simp only [Bool.and_eq_true, beq_iff_eq] at hb
        exact hnot _ (Array.getElem_mem hn) hb.1 hb.2
      have h2 := wpOp_putIf hoj (hfree j oj hoj hji hjun hnot) (fun cs b => hsel i oi cs b hi) (fun cs b => hsel j oj cs b hoj) hQ hy h1
      have hfree' : ∀ k ok, ops[k]? = some ok → k ≠ i → (listed.setIfInBounds j true).getD k true = false →
          (∀ e ∈ ok.after, Region.binds md e = true → e.on ≠ i) → oi.apart ops ok = true := fun k ok hk hki hun hno => by
        refine hfree k ok hk hki ?_ hno
        by_cases hjk : j = k
        · subst hjk; exact hjun
        · rw [getD_set_ne true hjk] at hun; exact hun
      have hcm : ((listed.setIfInBounds i true).setIfInBounds j true).getD first true = (listed.setIfInBounds j true).getD first true := by
        rw [← Array.setIfInBounds_comm _ _ hji, hset]
      refine wpOp_mono (fun a' w' h3 => ⟨fun h => h3.2.1 (by rw [hcm]; exact h), ih (listed.setIfInBounds j true) a' w' hfree' (ready_mono hr (Ne.symm hji)) h3.1 (fun h => h3.2.1 (by rw [hcm]; exact h)) (fun hw => ?_) ?_⟩) h2
      · rw [getD_set_ne true (hjl hw)]; exact hf hw
      · rw [Array.setIfInBounds_comm _ _ hji]
        exact h3.2.2
/-- The script: 0: a load; 1: a pure operation; 2: an act. -/
def preB (md : Region.Mode) (ops : Array Oper) (first : Nat) : List (Nat × Nat) → Array Bool → Bool
  | [], listed => (Region.ready md ops listed).isEmpty
  | (0, i) :: sc, listed => (Region.ready md ops listed).contains i && Region.free md ops listed i && waitsOn md ops first i && !listed.getD first true && decide (i ≠ first) && preB md ops first sc (listed.setIfInBounds i true)
  | (1, i) :: sc, listed => (Region.ready md ops listed).contains i && Region.free md ops listed i && (!waitsOn md ops first i || !listed.getD first true) && decide (i ≠ first) && preB md ops first sc (listed.setIfInBounds i true)
  | (_, i) :: sc, listed => decide (Region.ready md ops listed = [i]) && (decide (i = first) || listed.getD first true) && preB md ops first sc (listed.setIfInBounds i true)
def wpPre (P : Program) (ops : Array Oper) (S : World → Prop) (Q : Exit → Act → World → Prop) : List (Nat × Nat) → Act → World → Prop
  | [], a, w => Q .normal a w
  | (0, i) :: sc, a, w => ∃ o, ops[i]? = some o ∧ (if Region.wanted o (yielded ops a.tmps) = true then ∃ v, (∀ p : HW S, (execOp a.eval o).run P p.w = .ok (.value v) p.w) ∧ wpPre P ops S Q sc (a.put o.dst v) w else wpPre P ops S Q sc (a.put o.dst undef) w)
  | (1, i) :: sc, a, w => ∃ o, ops[i]? = some o ∧ (if Region.wanted o (yielded ops a.tmps) = true then ∃ v, (∀ p : HW (fun _ => True), (execOp a.eval o).run P p.w = .ok (.value v) p.w) ∧ wpPre P ops S Q sc (a.put o.dst v) w else wpPre P ops S Q sc (a.put o.dst undef) w)
  | (_, i) :: sc, a, w => ∃ o, ops[i]? = some o ∧ (if Region.wanted o (yielded ops a.tmps) = true then o.wp P a w (fun a' w' => wpPre P ops S Q sc a' w') Q else wpPre P ops S Q sc (a.put o.dst undef) w)
theorem wpAnyU_of_pre (hs : Region.noSelect ops = true) (hQ : ∀ c a d v w, Q (.panic c) (a.put d v) w → Q (.panic c) a w) : ∀ (sc : List (Nat × Nat)) (listed : Array Bool) (a : Act) (w : World), preB md ops first sc listed = true → (listed.getD first true = false → S w) → wpPre P ops S Q sc a w → wpAnyU P md ops Q S first sc.length listed a w
  | [], listed, a, w, hB, _, h => ⟨by simpa [preB] using hB, h⟩
  | (0, i) :: sc, listed, a, w, hB, hS, h => by
    simp only [preB, Bool.and_eq_true, decide_eq_true_eq, Bool.not_eq_true'] at hB
    obtain ⟨⟨⟨⟨⟨h1, h2⟩, h3⟩, h4⟩, h5⟩, h6⟩ := hB
    obtain ⟨o, ho, h⟩ := h
    have hset : (listed.setIfInBounds i true).getD first true = listed.getD first true := getD_set_ne true h5
    have key : ∀ v, YieldsIf P ops S o v a → wpPre P ops S Q sc (a.put o.dst v) w → wpAnyU P md ops Q S first ((0, i) :: sc).length listed a w := fun v hy h =>
      wpAnyU_first (S' := S) ho (Region.noSelect_spec hs) (fun c a w => hQ c a _ _ w) h5 (.inl ⟨h3, rfl⟩) sc.length listed a w (Region.free_spec ho h2) (by simpa using h1) hy hS (fun _ => h4)
        (wpAnyU_of_pre hs hQ sc _ _ _ h6 (fun h => hS (by rwa [hset] at h)) h)
    by_cases hw : Region.wanted o (yielded ops a.tmps) = true
    · rw [if_pos hw] at h
      obtain ⟨v, hv, h⟩ := h
      exact key v (.inl ⟨hw, fun w hw => hv ⟨w, hw⟩⟩) h
    · rw [if_neg hw] at h
      exact key undef (.inr ⟨by simpa using hw, rfl⟩) h
  | (1, i) :: sc, listed, a, w, hB, hS, h => by
    simp only [preB, Bool.and_eq_true, decide_eq_true_eq, Bool.or_eq_true, Bool.not_eq_true'] at hB
    obtain ⟨⟨⟨⟨h1, h2⟩, h4⟩, h5⟩, h6⟩ := hB
    obtain ⟨o, ho, h⟩ := h
    have hset : (listed.setIfInBounds i true).getD first true = listed.getD first true := getD_set_ne true h5
    have key : ∀ v, YieldsIf P ops (fun _ => True) o v a → wpPre P ops S Q sc (a.put o.dst v) w → wpAnyU P md ops Q S first ((1, i) :: sc).length listed a w := fun v hy h =>
      wpAnyU_first (S' := fun _ => True) ho (Region.noSelect_spec hs) (fun c a w => hQ c a _ _ w) h5 (.inr fun _ => trivial) sc.length listed a w (Region.free_spec ho h2) (by simpa using h1) hy hS (fun hw => by
          rcases h4 with h4 | h4
          · rw [hw] at h4; cases h4
          · exact h4)
        (wpAnyU_of_pre hs hQ sc _ _ _ h6 (fun h => hS (by rwa [hset] at h)) h)
    by_cases hw : Region.wanted o (yielded ops a.tmps) = true
    · rw [if_pos hw] at h
      obtain ⟨v, hv, h⟩ := h
      exact key v (.inl ⟨hw, fun w hw => hv ⟨w, hw⟩⟩) h
    · rw [if_neg hw] at h
      exact key undef (.inr ⟨by simpa using hw, rfl⟩) h
  | (n + 2, i) :: sc, listed, a, w, hB, hS, h => by
    simp only [preB, Bool.and_eq_true, decide_eq_true_eq, Bool.or_eq_true] at hB
    obtain ⟨⟨h1, h2⟩, h3⟩ := hB
    obtain ⟨o, ho, h⟩ := h
    have hdone : (listed.setIfInBounds i true).getD first true = false → False := fun h => by
      rcases h2 with h2 | h2
      · subst h2
        rcases Nat.lt_or_ge i listed.size with h' | h'
        · simp [h'] at h
        · simp [Array.getElem?_eq_none h'] at h
      · by_cases hif : i = first
        · subst hif
          rcases Nat.lt_or_ge i listed.size with h' | h'
          · simp [h'] at h
          · simp [Array.getElem?_eq_none h'] at h
        · rw [getD_set_ne true hif, h2] at h
          cases h
    refine ⟨fun h0 => (by rw [h1] at h0; cases h0), fun j hj => ?_⟩
    rw [h1, List.mem_singleton] at hj
    subst hj
    unfold wpOp
    simp only [ho]
    by_cases hw : Region.wanted o (yielded ops a.tmps) = true
    · rw [if_pos hw] at h
      simp only [hw, if_true]
      exact .inl (Oper.wp_mono (fun a' w' h' => ⟨fun h => (hdone h).elim, wpAnyU_of_pre hs hQ sc _ _ _ h3 (fun h => (hdone h).elim) h'⟩) h)
    · rw [if_neg hw] at h
      simp only [hw]
      exact ⟨fun h => (hdone h).elim, wpAnyU_of_pre hs hQ sc _ _ _ h3 (fun h => (hdone h).elim) h⟩
theorem wp_region_pre {id : Nat} {a : Act} {w : World} {l : List Oper} (S : World → Prop) (first : Nat) (sc : List (Nat × Nat)) (hm : P.follows .mixedOrders = true)
    (hB : (Region.noSelect l.toArray && decide (sc.length = l.toArray.size) && preB .any l.toArray first sc (Array.replicate l.toArray.size false)) = true) (hS : S w.drew)
    (h : Nonempty (HW S) → Nonempty (HW (fun _ => True)) → wpPre P l.toArray S (NoPan Q) sc a w.drew) : (Code.region id l.toArray true).wp P Q a w := by
  simp only [Bool.and_eq_true, decide_eq_true_eq] at hB
  obtain ⟨⟨h1, h2⟩, h3⟩ := hB
  refine wp_mono (Q := NoPan Q) (wp_region_any hm (wpAny_of_U (S := S) (first := first) _ _ _ _ ?_)) NoPan.imp
  have := wpAnyU_of_pre (P := P) (Q := NoPan Q) h1 (fun _ _ _ _ _ h => h) sc _ a w.drew h3 (fun _ => hS) (h ⟨⟨_, hS⟩⟩ ⟨⟨w, trivial⟩⟩)
  rwa [h2] at this
theorem pre_load {i : Nat} {o : Oper} {sc : List (Nat × Nat)} {a : Act} {w : World} (ho : ops[i]? = some o)
    (h : ∀ K : Act → Prop, (∀ a, wpPre P ops S Q sc a w → K a) → if Region.wanted o (yielded ops a.tmps) = true then ∃ v, (∀ p : HW S, (execOp a.eval o).run P p.w = .ok (.value v) p.w) ∧ K (a.put o.dst v) else K (a.put o.dst undef)) : wpPre P ops S Q ((0, i) :: sc) a w :=
  ⟨o, ho, h _ fun _ h => h⟩
theorem pre_pure {i : Nat} {o : Oper} {sc : List (Nat × Nat)} {a : Act} {w : World} (ho : ops[i]? = some o)
    (h : ∀ K : Act → Prop, (∀ a, wpPre P ops S Q sc a w → K a) → if Region.wanted o (yielded ops a.tmps) = true then ∃ v, (∀ p : HW (fun _ => True), (execOp a.eval o).run P p.w = .ok (.value v) p.w) ∧ K (a.put o.dst v) else K (a.put o.dst undef)) : wpPre P ops S Q ((1, i) :: sc) a w :=
  ⟨o, ho, h _ fun _ h => h⟩
theorem pre_act {i : Nat} {o : Oper} {sc : List (Nat × Nat)} {a : Act} {w : World} (ho : ops[i]? = some o)
    (h : ∀ K : Act → World → Prop, Hid (∀ a w, wpPre P ops S Q sc a w → K a w) → if Region.wanted o (yielded ops a.tmps) = true then o.wp P a w K Q else K (a.put o.dst undef) w) : wpPre P ops S Q ((2, i) :: sc) a w := by
  refine ⟨o, ho, ?_⟩
  exact h (fun a' w' => wpPre P ops S Q sc a' w') (Lib.hid fun a w h => h)
theorem pre_row {i : Nat} {o : Oper} {sc : List (Nat × Nat)} {a : Act} {w : World} {T : TypeId} {d : TypeDesc} {b off : Nat} {cs : List Value} (ho : ops[i]? = some o) (hw : Region.wanted o (yielded ops a.tmps) = true) (x : Operand) (hop : o.op = .load T x) (hx : a.eval x = .pointer (some ⟨b, off, none⟩))
    (hc : ∀ w', S w' → w'.rangeAt b off cs) (hu : P.underlying T = some d) (hd : d.isRow = true) (hi : (P.info? T).map (·.size) = some cs.length)
    (h : wpPre P ops S Q sc (a.put o.dst (.agg cs.toArray)) w) : wpPre P ops S Q ((0, i) :: sc) a w :=
  ⟨o, ho, by
    rw [if_pos hw]
    refine ⟨_, fun p => ?_, h⟩
    unfold execOp
    simp only [hop, hx, Instr.loadAt, Instr.sureAddr, Sem.run_bind, Sem.run_pure, Result.andThen_ok, run_loadVar_mid p.w b off T cs d (hc _ p.h) hu hd hi]⟩
theorem pre_done {a : Act} {w : World} (h : Q .normal a w) : wpPre P ops S (NoPan Q) [] a w := h
end
end Go.Proofs.YtdojmjglnlkmoaaDoor
