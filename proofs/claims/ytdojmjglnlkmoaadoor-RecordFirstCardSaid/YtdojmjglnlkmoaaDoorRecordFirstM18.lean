/- Texts of one proof, one behind the other: RcF, RcQ, RcT, RcM. No condition but each one's own. -/
import Derived.Test.YtdojmjglnlkmoaaDoorRecordFirstM15
import Derived.Test.YtdojmjglnlkmoaaDoorRecordFirstM17
import Derived.Laws.StructEq
import Derived.Test.YtdojmjglnlkmoaaDoorRecordFirstM13
/- The record of a volume without written blocks. sha's tables are as they were laid. No condition else. -/
namespace Go.Proofs.YtdojmjglnlkmoaaDoor
set_option linter.unusedVariables false
set_option linter.unusedSimpArgs false
set_option linter.constructorNameAsVariable false
open Go.RowKit Go.Sort

set_option maxRecDepth 100000 in
theorem built_fst' (x0 x1 x2 x3 x4 x5 x6 x7 x8 x9 x10 x11 x12 x13 x14 x15 x16 x17 x18 x19 x20 x21 x22 x23 x24 x25 x26 x27 x28 x29 x30 x31 : Int) (a : Nat) : Tryd.prog.built 48 [(0, .agg (secA [x0, x1, x2, x3, x4, x5, x6, x7, x8, x9, x10, x11, x12, x13, x14, x15, x16, x17, x18, x19, x20, x21, x22, x23, x24, x25, x26, x27, x28, x29, x30, x31])), (1, .int .u64 a), (3, .int .u64 1), (4, .int .u64 1)] = some (Rc.cells ⟨[x0, x1, x2, x3, x4, x5, x6, x7, x8, x9, x10, x11, x12, x13, x14, x15, x16, x17, x18, x19, x20, x21, x22, x23, x24, x25, x26, x27, x28, x29, x30, x31], a, 0, 1, 1, 0⟩) := by kernel_rfl
set_option maxRecDepth 100000 in
theorem built_fst (xs : List Int) (h : xs.length = 32) (a : Nat) : Tryd.prog.built 48 [(0, .agg (secA xs)), (1, .int .u64 a), (3, .int .u64 1), (4, .int .u64 1)] = some (Rc.cells ⟨xs, a, 0, 1, 1, 0⟩) := by
  obtain ⟨x0, xs, rfl⟩ := List.exists_cons_of_length_eq_add_one h
  replace h : xs.length = 31 := by simpa using h
  obtain ⟨x1, xs, rfl⟩ := List.exists_cons_of_length_eq_add_one h
  replace h : xs.length = 30 := by simpa using h
  obtain ⟨x2, xs, rfl⟩ := List.exists_cons_of_length_eq_add_one h
  replace h : xs.length = 29 := by simpa using h
  obtain ⟨x3, xs, rfl⟩ := List.exists_cons_of_length_eq_add_one h
  replace h : xs.length = 28 := by simpa using h
  obtain ⟨x4, xs, rfl⟩ := List.exists_cons_of_length_eq_add_one h
  replace h : xs.length = 27 := by simpa using h
  obtain ⟨x5, xs, rfl⟩ := List.exists_cons_of_length_eq_add_one h
  replace h : xs.length = 26 := by simpa using h
  obtain ⟨x6, xs, rfl⟩ := List.exists_cons_of_length_eq_add_one h
  replace h : xs.length = 25 := by simpa using h
  obtain ⟨x7, xs, rfl⟩ := List.exists_cons_of_length_eq_add_one h
  replace h : xs.length = 24 := by simpa using h
  obtain ⟨x8, xs, rfl⟩ := List.exists_cons_of_length_eq_add_one h
  replace h : xs.length = 23 := by simpa using h
  obtain ⟨x9, xs, rfl⟩ := List.exists_cons_of_length_eq_add_one h
  replace h : xs.length = 22 := by simpa using h
  obtain ⟨x10, xs, rfl⟩ := List.exists_cons_of_length_eq_add_one h
  replace h : xs.length = 21 := by simpa using h
  obtain ⟨x11, xs, rfl⟩ := List.exists_cons_of_length_eq_add_one h
  replace h : xs.length = 20 := by simpa using h
  obtain ⟨x12, xs, rfl⟩ := List.exists_cons_of_length_eq_add_one h
  replace h : xs.length = 19 := by simpa using h
  obtain ⟨x13, xs, rfl⟩ := List.exists_cons_of_length_eq_add_one h
  replace h : xs.length = 18 := by simpa using h
  obtain ⟨x14, xs, rfl⟩ := List.exists_cons_of_length_eq_add_one h
  replace h : xs.length = 17 := by simpa using h
  obtain ⟨x15, xs, rfl⟩ := List.exists_cons_of_length_eq_add_one h
  replace h : xs.length = 16 := by simpa using h
  obtain ⟨x16, xs, rfl⟩ := List.exists_cons_of_length_eq_add_one h
  replace h : xs.length = 15 := by simpa using h
  obtain ⟨x17, xs, rfl⟩ := List.exists_cons_of_length_eq_add_one h
  replace h : xs.length = 14 := by simpa using h
  obtain ⟨x18, xs, rfl⟩ := List.exists_cons_of_length_eq_add_one h
  replace h : xs.length = 13 := by simpa using h
  obtain ⟨x19, xs, rfl⟩ := List.exists_cons_of_length_eq_add_one h
  replace h : xs.length = 12 := by simpa using h
  obtain ⟨x20, xs, rfl⟩ := List.exists_cons_of_length_eq_add_one h
  replace h : xs.length = 11 := by simpa using h
  obtain ⟨x21, xs, rfl⟩ := List.exists_cons_of_length_eq_add_one h
  replace h : xs.length = 10 := by simpa using h
  obtain ⟨x22, xs, rfl⟩ := List.exists_cons_of_length_eq_add_one h
  replace h : xs.length = 9 := by simpa using h
  obtain ⟨x23, xs, rfl⟩ := List.exists_cons_of_length_eq_add_one h
  replace h : xs.length = 8 := by simpa using h
  obtain ⟨x24, xs, rfl⟩ := List.exists_cons_of_length_eq_add_one h
  replace h : xs.length = 7 := by simpa using h
  obtain ⟨x25, xs, rfl⟩ := List.exists_cons_of_length_eq_add_one h
  replace h : xs.length = 6 := by simpa using h
  obtain ⟨x26, xs, rfl⟩ := List.exists_cons_of_length_eq_add_one h
  replace h : xs.length = 5 := by simpa using h
  obtain ⟨x27, xs, rfl⟩ := List.exists_cons_of_length_eq_add_one h
  replace h : xs.length = 4 := by simpa using h
  obtain ⟨x28, xs, rfl⟩ := List.exists_cons_of_length_eq_add_one h
  replace h : xs.length = 3 := by simpa using h
  obtain ⟨x29, xs, rfl⟩ := List.exists_cons_of_length_eq_add_one h
  replace h : xs.length = 2 := by simpa using h
  obtain ⟨x30, xs, rfl⟩ := List.exists_cons_of_length_eq_add_one h
  replace h : xs.length = 1 := by simpa using h
  obtain ⟨x31, xs, rfl⟩ := List.exists_cons_of_length_eq_add_one h
  replace h : xs.length = 0 := by simpa using h
  obtain rfl := List.eq_nil_of_length_eq_zero h
  exact built_fst' x0 x1 x2 x3 x4 x5 x6 x7 x8 x9 x10 x11 x12 x13 x14 x15 x16 x17 x18 x19 x20 x21 x22 x23 x24 x25 x26 x27 x28 x29 x30 x31 a
set_option maxRecDepth 100000 in
theorem built_none : Tryd.prog.built 48 [] = some rc0.cells := by kernel_rfl
def fstR (n : Nat) : Rc := ⟨empH (hgt n), n, 0, 1, 1, 0⟩
theorem fstR_ok {n : Nat} (h : n ≤ 4294967296) : (fstR n).Ok := ⟨empH_len _, empH_byt _, by show n < _; omega, by show 0 < _; omega, by show 1 < _; omega, by show 1 < _; omega, by show 0 < _; omega⟩
theorem fstR_right {n : Nat} (h1 : 1 ≤ n) (h2 : n ≤ 4294967296) : (fstR n).Right := ⟨h1, h2, by show 1 ≤ 1; omega, by show 1 ≤ 1; omega, by show 0 < 1; omega⟩
set_option maxHeartbeats 2000000
set_option maxRecDepth 100000
theorem first_ok (n : Nat) (w : World) (hL : ShaIn 3 2 w) (h1 : 1 ≤ n) (h2 : n ≤ 4294967296) : Calls Tryd.prog 20 #[.int .u64 n] w fun e w' => e = .returned (.tuple #[.agg (fstR n).cells, .nilIface]) ∧ New w w' := by
  have HL := Lib.hid hL
  have HN := Lib.hid (And.intro h1 h2)
  obtain ⟨ht, hht⟩ : ∃ ht, ht = hgt n := ⟨_, rfl⟩
  have HT : Hid (ht ≤ 32) := Lib.hid (by rw [hht]; exact hgt_le h1 h2)
  have HHT := Lib.hid hht
  obtain ⟨EH, hEH⟩ : ∃ EH, EH = empH ht := ⟨_, rfl⟩
  have HEH := Lib.hid hEH
  have HBU : Hid (Tryd.prog.built 48 [(0, .agg (secA EH)), (1, .int .u64 n), (3, .int .u64 1), (4, .int .u64 1)] = some (fstR n).cells) := Lib.hid (by rw [hEH, hht]; exact built_fst _ (empH_len _) _)
  have HS32 : Hid ((secA EH).size = 32) := Lib.hid (by rw [hEH, secA_size, empH_len])
  have HS37 : Hid ((fstR n).cells.size = 37) := Lib.hid (Rc.size (empH_len _))
  clear hL h1 h2 hht hEH
  go_enter Tryd.func20, Tryd.ntmps20
  go_upto_region 1 with ((with_reducible refine atOp ⟨some 2, .alloc _, _, _, _, _⟩ ?_); refine wpList_alloc_row rfl rfl recInfo ?_; intro b2 w1 hb hB hN; have HB2 := Lib.hid hB; have HN1 := Lib.hid hN; have HZ := Lib.hid hb; clear hb hB hN)
  go_wp2_with fail
  refine (height_ok n w1 HN.out.1 HN.out.2).mono ?_
  rintro e w2 ⟨rfl, rfl⟩
  rw [← HHT.out]
  go_wp2_with fail
  refine (empty_any ht _ (HL.out.new HN1.out) HT.out).mono ?_
  rintro e w2 ⟨rfl, hN2⟩
  rw [← HEH.out]
  have HN2 : Hid (New w w2) := Lib.hid (HN1.out.tr hN2)
  have HB22 : Hid (Blk w2 b2 48 rc0.cells) := Lib.hid (hN2.blk HB2.out)
  clear hN2 HB2
  go_upto_region 5 with ((with_reducible refine atOp ⟨some 6, .alloc _, _, _, _, _⟩ ?_); refine wpList_newrow rfl rfl rfl _ _ rfl hashInfoR (by rfl) rfl rfl HS32.out (secA_one _) ?_)
  obtain ⟨w3, hw3⟩ : ∃ w3 : World, w3 = w2.alloc (.cells (secA EH) 43) := ⟨_, rfl⟩
  obtain ⟨b6, hb6⟩ : ∃ b6, b6 = w2.heap.size := ⟨_, rfl⟩
  have HN3 : Hid (New w w3) := Lib.hid (HN2.out.tr (by rw [hw3]; exact New.al (New.refl _) _))
  have HB6 : Hid (Blk w3 b6 43 (secA EH)) := Lib.hid (by rw [hw3, hb6]; exact Blk.new _ _ _)
  have HB23 : Hid (Blk w3 b2 48 rc0.cells) := Lib.hid (by rw [hw3]; exact (New.al (New.refl _) _).blk HB22.out)
  rw [← hw3, ← hb6]
  clear hw3 hb6 HN2 HB22
  go_wp2_with (first
    | ((with_reducible refine atOp ⟨some 21, .load _ _, _, _, _, _⟩ ?_); refine wpList_load_any rfl _ rfl Tryd.underlying43 rfl (by rw [HS32.out]; rfl) rfl HB6.out ?_)
    | ((with_reducible refine atOp ⟨some 23, .build _ _, _, _, _, _⟩ ?_); refine wpList_built rfl _ [(0, .tmp 21), (1, .tmp 22), (3, .const (.int .u64 1)), (4, .const (.int .u64 1))] rfl _ rfl _ HBU.out ?_)
    | ((with_reducible refine atOp ⟨none, .store 48 (.tmp 2) _, _, _, _, _⟩ ?_); refine wpList_store_any rfl (.tmp 2) (.tmp 23) rfl (by rw [HS37.out]; rfl) rfl rfl HB23.out (by rw [HS37.out]; rfl) (Rc.one _) ?_; intro w5 hb5 hf5; have HB5 := Lib.hid hb5; have HF5 := Lib.hid hf5; clear hb5 hf5))
  exact bodyPost_ret (results_row2h rfl _ _ b2 _ _ rfl HB5.out Tryd.underlying48 rfl (by rw [HS37.out]; rfl)) rfl ⟨rfl, HN3.out.fr HF5.out (fun x hx => by have := HZ.out; omega)⟩
theorem first_bad (n : Nat) (w : World) (h : ¬ (1 ≤ n ∧ n ≤ 4294967296)) : Calls Tryd.prog 20 #[.int .u64 n] w fun e w' => e = .returned (.tuple #[.agg rc0.cells, .iface 55 (.int .i64 1)]) ∧ New w w' := by
  have HN := Lib.hid h
  have HBU := Lib.hid built_none
  clear h
  go_enter Tryd.func20, Tryd.ntmps20
  go_upto_region 1 with ((with_reducible refine atOp ⟨some 2, .alloc _, _, _, _, _⟩ ?_); refine wpList_alloc_row rfl rfl recInfo ?_; intro b2 w1 hb hB hN; have HB2 := Lib.hid hB; have HN1 := Lib.hid hN; have HZ := Lib.hid hb; clear hb hB hN)
  go_wp2_with fail
  refine (height_bad n w1 HN.out).mono ?_
  rintro e w2 ⟨rfl, rfl⟩
  go_wp2_with (first
    | ((with_reducible refine atOp ⟨some 14, .build _ _, _, _, _, _⟩ ?_); refine wpList_built rfl _ [] rfl _ rfl _ HBU.out ?_)
    | ((with_reducible refine atOp ⟨none, .store 48 (.tmp 2) _, _, _, _, _⟩ ?_); refine wpList_store_any rfl (.tmp 2) (.tmp 14) rfl (by rfl) rfl rfl HB2.out rfl (Rc.one _) ?_; intro w5 hb5 hf5; have HB5 := Lib.hid hb5; have HF5 := Lib.hid hf5; clear hb5 hf5))
  exact bodyPost_ret (results_row2h rfl _ _ b2 _ _ rfl HB5.out Tryd.underlying48 rfl (by rfl)) rfl ⟨rfl, HN1.out.fr HF5.out (fun x hx => by have := HZ.out; omega)⟩
end Go.Proofs.YtdojmjglnlkmoaaDoor
/- Two records compared. No condition. -/
namespace Go.Proofs.YtdojmjglnlkmoaaDoor
set_option linter.unusedVariables false
set_option linter.unusedSimpArgs false
set_option linter.constructorNameAsVariable false
open Go.RowKit Go.Sort

instance : DecidableEq Rc := fun r s => decidable_of_iff (r.root = s.root ∧ r.blocks = s.blocks ∧ r.epoch = s.epoch ∧ r.since = s.since ∧ r.limit = s.limit ∧ r.session = s.session) (by cases r; cases s; simp)
theorem eq_step {P : Program} {d : Nat} {xs ys : Array Value} {f : Field} {fs : List Field} {w : World} {a b : Value} {r s : Bool} (hn : f.name ≠ "_") (ha : (part f.type xs f.offset).run P w = .ok a w) (hb : (part f.type ys f.offset).run P w = .ok b w)
    (hr : (Op.equalIn d f.type a b).run P w = .ok r w) (hs : (Op.eqFields d xs ys fs).run P w = .ok s w) : (Op.eqFields d xs ys (f :: fs)).run P w = .ok (r && s) w := by
  simp only [Op.eqFields, if_pos hn, Sem.run_bind, ha, hb, hr, Result.andThen_ok, Sem.run_ite]
  cases r
  · simp
  · simpa using hs
theorem part_cell {t : TypeId} {cs : Array Value} {off : Nat} {v : Value} {w : World} (hk : ∀ w, (isAgg t).run Tryd.prog w = .ok false w) (h : cs[off]? = some v) : (part t cs off).run Tryd.prog w = .ok v w := by
  unfold part
  simp [Sem.run_bind, hk, h]
theorem part_root {r : Rc} (h : r.root.length = 32) (w : World) : (part 43 r.cells 0).run Tryd.prog w = .ok (.agg (secA r.root)) w := by
  have h1 : (isAgg 43).run Tryd.prog w = .ok true w := by
    simp [isAgg, run_underlying Tryd.underlying43]
  have h2 : (sizeOf 43).run Tryd.prog w = .ok 32 w := by
    have := hashInfoR
    cases hq : Tryd.prog.info? 43 with
    | none => rw [hq] at this; cases this
    | some i => rw [hq] at this; simp only [Option.map_some, Option.some.injEq, Prod.mk.injEq] at this; simp [sizeOf, typeInfo, hq, this.2]
  have e : r.cells.extract 0 32 = secA r.root := by
    have hu : (u8s r.root).length = 32 := by rw [u8s_len, h]
    unfold Rc.cells secA
    rw [List.extract_toArray, List.extract_eq_take_drop]
    simp only [Nat.sub_zero, List.drop_zero]
    rw [List.take_append_of_le_length (by omega), List.take_of_length_le (by omega)]
  unfold part
  simp [Sem.run_bind, h1, h2, e]
theorem rc_eq (r s : Rc) : (decide (r.root = s.root) && (((r.blocks : Int) == s.blocks) && (((r.epoch : Int) == s.epoch) && (((r.since : Int) == s.since) && (((r.limit : Int) == s.limit) && (((r.session : Int) == s.session) && true)))))) = decide (r = s) := by
  rw [Bool.eq_iff_iff]
  simp only [Bool.and_eq_true, decide_eq_true_eq, beq_iff_eq, Bool.and_true]
  constructor
  · rintro ⟨h1, h2, h3, h4, h5, h6⟩
    cases r; cases s
    simp only at h1 h2 h3 h4 h5 h6
    simp only [Rc.mk.injEq]
    exact ⟨h1, by omega, by omega, by omega, by omega, by omega⟩
  · rintro rfl; simp
theorem equalIn_rc {T : TypeId} (ht : Tryd.prog.underlying T = some (.struct (Tryd.prog.fieldsOf T))) (hp : Tryd.prog.stoodInHeld T = false) (hf : (Tryd.prog.fieldsOf T).toList.map (fun f => (f.name, f.type, f.offset)) = [("Root", 43, 0), ("Blocks", 41, 32), ("Epoch", 41, 33), ("Since", 41, 34), ("Limit", 41, 35), ("Session", 41, 36)]) {r s : Rc} (hr : r.Ok) (hs : s.Ok) (w : World) :
    (Op.equalIn 10000 T (.agg r.cells) (.agg s.cells)).run Tryd.prog w = .ok (decide (r = s)) w := by
  rw [show (10000 : Nat) = 9999 + 1 from rfl, run_equalIn_struct w 9999 T r.cells s.cells ht hp]
  generalize (Tryd.prog.fieldsOf T).toList = l at hf
  have hn : ∀ w, (isAgg 41).run Tryd.prog w = .ok false w := fun w => by simp [isAgg, run_underlying Tryd.underlying41]
  have hz : ∀ w, (sizeOf 5).run Tryd.prog w = .ok 1 w := fun w => (by first | exact Tryd.sizeOf5 w | kernel_rfl)
  have hroot := run_equalIn_sec (P := Tryd.prog) 9997 Tryd.underlying43 Tryd.underlying5 hz hr.len hs.len hr.byt hs.byt w
  rw [← rc_eq]
  obtain ⟨f0, l, rfl, e0, hf⟩ := List.map_eq_cons_iff.1 hf
  obtain ⟨f1, l, rfl, e1, hf⟩ := List.map_eq_cons_iff.1 hf
  obtain ⟨f2, l, rfl, e2, hf⟩ := List.map_eq_cons_iff.1 hf
  obtain ⟨f3, l, rfl, e3, hf⟩ := List.map_eq_cons_iff.1 hf
  obtain ⟨f4, l, rfl, e4, hf⟩ := List.map_eq_cons_iff.1 hf
  obtain ⟨f5, l, rfl, e5, hf⟩ := List.map_eq_cons_iff.1 hf
  obtain rfl := List.map_eq_nil_iff.1 hf
  simp only [Prod.mk.injEq] at e0 e1 e2 e3 e4 e5
  have nm : ∀ {f : Field} {n : String}, f.name = n → n ≠ "_" → f.name ≠ "_" := fun h1 h2 h3 => h2 (h1.symm.trans h3)
  have num : ∀ {f : Field} {i : Nat} {x y : Int} {w : World} {rest : List Field} {b : Bool}, f.name ≠ "_" → f.type = 41 → f.offset = 32 + i → r.cells[32 + i]? = some (.int .u64 x) → s.cells[32 + i]? = some (.int .u64 y) → (Op.eqFields 9999 r.cells s.cells rest).run Tryd.prog w = .ok b w →
      (Op.eqFields 9999 r.cells s.cells (f :: rest)).run Tryd.prog w = .ok ((x == y) && b) w := fun h1 h2 h3 h4 h5 h6 =>
    eq_step h1 (by rw [h2, h3]; exact part_cell hn h4) (by rw [h2, h3]; exact part_cell hn h5) (by rw [h2]; exact run_equalIn_int _ 9998 41 .u64 .u64 _ _ Tryd.underlying41) h6
  refine eq_step (nm e0.1 (by decide)) (by rw [e0.2.1, e0.2.2]; exact part_root hr.len w) (by rw [e0.2.1, e0.2.2]; exact part_root hs.len w) (by rw [e0.2.1]; exact hroot) ?_
  refine num (i := 0) (nm e1.1 (by decide)) e1.2.1 e1.2.2 (Rc.at hr.len 0) (Rc.at hs.len 0) ?_
  refine num (i := 1) (nm e2.1 (by decide)) e2.2.1 e2.2.2 (Rc.at hr.len 1) (Rc.at hs.len 1) ?_
  refine num (i := 2) (nm e3.1 (by decide)) e3.2.1 e3.2.2 (Rc.at hr.len 2) (Rc.at hs.len 2) ?_
  refine num (i := 3) (nm e4.1 (by decide)) e4.2.1 e4.2.2 (Rc.at hr.len 3) (Rc.at hs.len 3) ?_
  refine num (i := 4) (nm e5.1 (by decide)) e5.2.1 e5.2.2 (Rc.at hr.len 4) (Rc.at hs.len 4) ?_
  simp [Op.eqFields]
set_option maxRecDepth 100000
theorem eql_rec {r s : Rc} (hr : r.Ok) (hs : s.Ok) (w : World) : (binOp .eql 48 (.agg r.cells) (.agg s.cells)).run Tryd.prog w = .ok (.bool (decide (r = s))) w := by
  rw [run_eql_struct, equalIn_rc Tryd.underlying48 (by kernel_rfl) (by kernel_rfl) hr hs w]
  rfl
theorem neq_ref {r s : Rc} (hr : r.Ok) (hs : s.Ok) (w : World) : (binOp .neq 45 (.agg r.cells) (.agg s.cells)).run Tryd.prog w = .ok (.bool (!decide (r = s))) w := by
  rw [run_neq_struct, equalIn_rc Tryd.underlying45 (by kernel_rfl) (by kernel_rfl) hr hs w]
  rfl
end Go.Proofs.YtdojmjglnlkmoaaDoor
/- What a keeper's disk holds, in plain words: what is saved is opened, and what a power cut leaves. No condition. -/
namespace Go.Proofs.YtdojmjglnlkmoaaDoor
set_option linter.unusedVariables false
set_option linter.unusedSimpArgs false
set_option linter.constructorNameAsVariable false
open Go.RowKit Go.Sort

theorem get_put (p : DP) (a : Int) (s : List Int) (x : Int) : (p.put a s).get x = if x = a then s else p.get x := by
  unfold DP.get DP.put upd
  by_cases h : x = a
  · simp [h]
  · simp [h]
theorem get_burn (p : DP) (x : Int) : p.burn.get x = p.get x := rfl
theorem get_write (p : DP) (a : Int) (s : List Int) (x : Int) : (p.write a s).get x = if x = a then s else p.get x := by unfold DP.write; rw [get_put, get_burn]
theorem get_sync (p : DP) (x : Int) : p.sync.get x = p.get x := by
  unfold DP.get DP.sync
  cases h : p.fresh x <;> simp [h]
theorem within_eq {p q : DP} (h : p.size = q.size) (x : Int) : p.within x = q.within x := by unfold DP.within; rw [h]
theorem slotB_congr {p q : DP} (hz : p.size = q.size) {s : Nat} (h0 : p.get ((2 * s : Nat) : Int) = q.get ((2 * s : Nat) : Int)) (h1 : p.get ((2 * s + 1 : Nat) : Int) = q.get ((2 * s + 1 : Nat) : Int)) : slotB p s = slotB q s := by
  unfold slotB DP.rget
  rw [within_eq hz, within_eq hz, h0, h1]
theorem slot_all {p q : DP} (s : Nat) (hg : ∀ x, q.get x = p.get x) (hz : q.size = p.size) : slotB q s = slotB p s := slotB_congr hz (hg _) (hg _)
theorem slotB_in {p : DP} {s : Nat} (hs : s < 2) (hz : 4 ≤ p.size) : slotB p s = p.get ((2 * s : Nat) : Int) ++ p.get ((2 * s + 1 : Nat) : Int) := by
  unfold slotB DP.rget
  rw [if_pos (by unfold DP.within; exact decide_eq_true (by omega)), if_pos (by unfold DP.within; exact decide_eq_true (by omega))]
theorem openP_congr {p q : DP} (h0 : slotB p 0 = slotB q 0) (h1 : slotB p 1 = slotB q 1) : openP p = openP q := by unfold openP; rw [h0, h1]
/-- What makes a disk open to this keeper. -/
structure Kop (p : DP) (k : KR) : Prop where
  nb : k.broken = false
  z : k.number = 0 → k.now = rc0 ∧ getN 0 (slotB p 0) = 0 ∧ getN 1 (slotB p 1) = 0
  nz : 0 < k.number → slotB p (k.number % 2) = putL k.number k.now ∧ k.now.Ok ∧ k.now.Right ∧ getN ((k.number + 1) % 2) (slotB p ((k.number + 1) % 2)) < k.number
  lt : k.number < 18446744073709551615
theorem getN_put {n s : Nat} {r : Rc} (h : r.Ok) (hn : n < 18446744073709551616) (hs : n % 2 = s) (hr : r.Right) : getN s (putL n r) = n ∧ getR s (putL n r) = r := by
  unfold getN getR
  rw [if_pos (recIn_put h hn hs hr), if_pos (recIn_put h hn hs hr), numOf_put hn, rcOf_put h]
  exact ⟨rfl, rfl⟩
theorem takeK_no {k : KR} {n : Nat} {r : Rc} (h : ¬ k.number < n) : takeK k n r = k := if_neg h
theorem takeK_yes {k : KR} {n : Nat} {r : Rc} (h : k.number < n) : takeK k n r = { k with number := n, now := r } := if_pos h
theorem takeK_num (k : KR) (n : Nat) (r : Rc) : (takeK k n r).number ≤ max k.number n ∧ (takeK k n r).broken = k.broken := by
  unfold takeK
  split
  · exact ⟨by show n ≤ _; omega, rfl⟩
  · exact ⟨by omega, rfl⟩
theorem Kop.opens {p : DP} {k : KR} (h : Kop p k) : openP p = k := by
  obtain ⟨number, now, broken⟩ := k
  have hb : broken = false := h.nb
  subst hb
  unfold openP
  by_cases hz : number = 0
  · subst hz
    obtain ⟨h1, h2, h3⟩ := h.z rfl
    have h1 : now = rc0 := h1
    rw [h2, h3, takeK_no (k := KR.new) (by show ¬ (0 < 0); omega), takeK_no (k := KR.new) (by show ¬ (0 < 0); omega), h1]
    rfl
  · obtain ⟨h1, h2, h3, h4⟩ := h.nz (by show 0 < number; omega)
    have h1 : slotB p (number % 2) = putL number now := h1
    have h2 : now.Ok := h2
    have h3 : now.Right := h3
    have h4 : getN ((number + 1) % 2) (slotB p ((number + 1) % 2)) < number := h4
    have hlt : number < 18446744073709551615 := h.lt
    obtain ⟨g1, g2⟩ := getN_put (n := number) h2 (by omega) rfl h3
    rcases (show number % 2 = 0 ∨ number % 2 = 1 by omega) with he | he
    · have he2 : (number + 1) % 2 = 1 := by omega
      rw [he] at h1 g1 g2
      rw [he2] at h4
      rw [h1, g1, g2, takeK_yes (k := KR.new) (by show 0 < number; omega), takeK_no (by show ¬ (number < _); omega)]
      rfl
    · have he2 : (number + 1) % 2 = 0 := by omega
      rw [he] at h1 g1 g2
      rw [he2] at h4
      rw [h1, g1, g2]
      have ht := takeK_num KR.new (getN 0 (slotB p 0)) (getR 0 (slotB p 0))
      have h0 : KR.new.number = 0 := rfl
      rw [takeK_yes (by omega)]
      have hb := ht.2
      cases hk : takeK KR.new (getN 0 (slotB p 0)) (getR 0 (slotB p 0)) with
      | mk a b c => rw [hk] at hb; simp only at hb; rw [hb]; rfl
structure Kst (p : DP) (k : KR) : Prop extends Kop p k where
  ok : p.Ok
  sz : 4 ≤ p.size
  clean : p.order = []
  down : p.down = false
  snd : ∀ s, s < 2 → ∃ j, j ≤ k.number ∧ cutL (slotB p s) 64 8 = beL 8 j
theorem slotB_new (n s : Nat) : slotB (DP.new n) s = List.replicate 128 0 := by
  have h : ∀ x, (DP.new n).rget x = sec0 := fun x => by
    unfold DP.rget
    split <;> rfl
  unfold slotB
  rw [h, h]
  rfl
theorem getN_zero (s : Nat) : getN s (List.replicate 128 0) = 0 := by
  unfold getN
  rw [if_neg]
  intro h
  have h1 := h.2.2.blocks1
  have h2 : (rcOf (List.replicate 128 0)).blocks = 0 := by decide
  omega
theorem Kst.new {n : Nat} (h1 : 4 ≤ n) (h2 : n ≤ 16384) : Kst (DP.new n) KR.new where
  nb := rfl
  z := fun _ => ⟨rfl, by rw [slotB_new, getN_zero], by rw [slotB_new, getN_zero]⟩
  nz := fun h => absurd h (by show ¬ (0 < 0); omega)
  lt := by show 0 < _; omega
  ok := DP.new_ok (by omega) h2
  sz := h1
  clean := rfl
  down := rfl
  snd := fun s _ => ⟨0, Nat.le_refl _, by rw [slotB_new]; decide⟩
theorem Kst.fresh {p : DP} {k : KR} (h : Kst p k) (x : Int) : p.fresh x = none := by
  have := (h.ok.ord x).2
  rw [h.clean] at this
  cases hx : p.fresh x with
  | none => rfl
  | some s => exact absurd (this (by rw [hx]; simp)) (by simp)
theorem beL_inj {a b : Nat} (ha : a < 18446744073709551616) (hb : b < 18446744073709551616) (h : beL 8 a = beL 8 b) : a = b := by
  have h1 := valL_beL 8 a (by omega)
  have h2 := valL_beL 8 b (by omega)
  rw [← h1, ← h2, h]
/-- Both writes and the sync went well. -/
theorem writeP_ok {p : DP} {n : Nat} {all : List Int} (hz : 4 ≤ p.size) (hd : p.down = false) (hf : p.fuse ≠ 0) (hf1 : p.fuse ≠ 1) : writeP p n all = (((p.write (slotA n 0) (sec2 all 0)).write (slotA n 1) (sec2 all 1)).sync, 0) := by
  have w0 : p.within (slotA n 0) = true := by unfold DP.within slotA; exact decide_eq_true (by omega)
  have w1 : (p.write (slotA n 0) (sec2 all 0)).within (slotA n 1) = true := by unfold DP.within slotA; exact decide_eq_true (by show _ ∧ _ < ((p.size : Nat) : Int); omega)
  have c0 : p.wcode (slotA n 0) = 0 := by unfold DP.wcode; rw [if_pos w0, if_neg (by rw [hd]; simp [hf])]
  have d0 : p.doWrite (slotA n 0) (sec2 all 0) = p.write (slotA n 0) (sec2 all 0) := by unfold DP.doWrite; rw [if_pos w0, if_neg (by rw [hd]; simp [hf])]
  have hf2 : (p.write (slotA n 0) (sec2 all 0)).fuse ≠ 0 := by show (if 0 < p.fuse then p.fuse - 1 else p.fuse) ≠ 0; split <;> omega
  have hd2 : (p.write (slotA n 0) (sec2 all 0)).down = false := hd
  have c1 : (p.write (slotA n 0) (sec2 all 0)).wcode (slotA n 1) = 0 := by unfold DP.wcode; rw [if_pos w1, if_neg (by rw [hd2]; simp [hf2])]
  have d1 : (p.write (slotA n 0) (sec2 all 0)).doWrite (slotA n 1) (sec2 all 1) = (p.write (slotA n 0) (sec2 all 0)).write (slotA n 1) (sec2 all 1) := by unfold DP.doWrite; rw [if_pos w1, if_neg (by rw [hd2]; simp [hf2])]
  have q1 : writeQ p n all 1 = (p.write (slotA n 0) (sec2 all 0), 0) := by rw [writeQ_go rfl]; show (p.doWrite _ _, p.wcode _) = _; rw [c0, d0]
  have q2 : writeQ p n all 2 = ((p.write (slotA n 0) (sec2 all 0)).write (slotA n 1) (sec2 all 1), 0) := by rw [writeQ_go (by rw [q1]), q1]; simp only; rw [c1, d1]
  unfold writeP
  simp only [q2]
  rw [if_neg (by simp)]
  have hd3 : ((p.write (slotA n 0) (sec2 all 0)).write (slotA n 1) (sec2 all 1)).down = false := hd
  unfold DP.doSync DP.scode
  rw [hd3]
  rfl
theorem writeP_0 {p : DP} {n : Nat} {all : List Int} (hz : 4 ≤ p.size) (hf : p.fuse = 0) : writeP p n all = (p.fall, 14) := by
  have w0 : p.within (slotA n 0) = true := by unfold DP.within slotA; exact decide_eq_true (by omega)
  have c0 : p.wcode (slotA n 0) = 14 := by unfold DP.wcode; rw [if_pos w0, if_pos (.inl hf)]
  have d0 : p.doWrite (slotA n 0) (sec2 all 0) = p.fall := by unfold DP.doWrite; rw [if_pos w0, if_pos (.inl hf)]
  have q1 : writeQ p n all 1 = (p.fall, 14) := by rw [writeQ_go rfl]; show (p.doWrite _ _, p.wcode _) = _; rw [c0, d0]
  unfold writeP
  rw [writeQ_bad (by rw [q1]; simp), q1]
  rfl
theorem writeP_1 {p : DP} {n : Nat} {all : List Int} (hz : 4 ≤ p.size) (hd : p.down = false) (hf : p.fuse = 1) : writeP p n all = ((p.write (slotA n 0) (sec2 all 0)).fall, 14) := by
  have w0 : p.within (slotA n 0) = true := by unfold DP.within slotA; exact decide_eq_true (by omega)
  have w1 : (p.write (slotA n 0) (sec2 all 0)).within (slotA n 1) = true := by unfold DP.within slotA; exact decide_eq_true (by show _ ∧ _ < ((p.size : Nat) : Int); omega)
  have c0 : p.wcode (slotA n 0) = 0 := by unfold DP.wcode; rw [if_pos w0, if_neg (by rw [hd, hf]; simp)]
  have d0 : p.doWrite (slotA n 0) (sec2 all 0) = p.write (slotA n 0) (sec2 all 0) := by unfold DP.doWrite; rw [if_pos w0, if_neg (by rw [hd, hf]; simp)]
  have hf2 : (p.write (slotA n 0) (sec2 all 0)).fuse = 0 := by show (if 0 < p.fuse then p.fuse - 1 else p.fuse) = 0; rw [hf]; rfl
  have c1 : (p.write (slotA n 0) (sec2 all 0)).wcode (slotA n 1) = 14 := by unfold DP.wcode; rw [if_pos w1, if_pos (.inl hf2)]
  have d1 : (p.write (slotA n 0) (sec2 all 0)).doWrite (slotA n 1) (sec2 all 1) = (p.write (slotA n 0) (sec2 all 0)).fall := by unfold DP.doWrite; rw [if_pos w1, if_pos (.inl hf2)]
  have q1 : writeQ p n all 1 = (p.write (slotA n 0) (sec2 all 0), 0) := by rw [writeQ_go rfl]; show (p.doWrite _ _, p.wcode _) = _; rw [c0, d0]
  have q2 : writeQ p n all 2 = ((p.write (slotA n 0) (sec2 all 0)).fall, 14) := by rw [writeQ_go (by rw [q1]), q1]; simp only; rw [c1, d1]
  unfold writeP
  rw [q2]
  rfl
theorem sec2_app {all : List Int} (h : all.length = 128) : sec2 all 0 ++ sec2 all 1 = all := by
  unfold sec2
  rw [List.take_of_length_le (l := all.drop (64 * 1)) (by rw [List.length_drop]; omega)]
  simp
/-- What the slots hold behind both writes. -/
theorem slot_wrote {p q : DP} {n s : Nat} {all : List Int} (hz : 4 ≤ p.size) (hq : q.size = p.size) (hg : ∀ x, q.get x = ((p.write (slotA n 0) (sec2 all 0)).write (slotA n 1) (sec2 all 1)).get x) (hl : all.length = 128) (hs : s < 2) :
    slotB q s = if s = n % 2 then all else slotB p s := by
  rw [slotB_in hs (by omega), slotB_in hs hz, hg, hg, get_write, get_write, get_write, get_write]
  unfold slotA
  by_cases h : s = n % 2
  · rw [if_pos h, h, if_neg (by omega), if_pos (by omega), if_pos (by omega), sec2_app hl]
  · rw [if_neg h, if_neg (by omega), if_neg (by omega), if_neg (by omega), if_neg (by omega)]
theorem cutL_put64 {n : Nat} {r : Rc} (h : r.root.length = 32) : cutL (putL n r) 64 8 = beL 8 n := by
  have e : putL n r = fstL n r ++ (beL 8 n ++ (beL 8 r.limit ++ beL 8 r.session ++ recH n r ++ List.replicate 24 0)) := by simp [putL, sndL]
  rw [e]
  exact cutL_app _ _ _ (fstL_len h) (beL_len _ _)
/-- A record saved on a clean disk that holds. -/
theorem Kst.save {p : DP} {k : KR} (h : Kst p k) (hf : p.fuse ≠ 0 ∧ p.fuse ≠ 1) {r : Rc} (hr : r.Ok) (hm : k.number < 18446744073709551613) :
    if r.Right then (saveP p k r).2.2 = 0 ∧ (saveP p k r).2.1 = ⟨k.number + 1, r, false⟩ ∧ Kst (saveP p k r).1 ⟨k.number + 1, r, false⟩ ∧ (saveP p k r).1.fuse = (if 1 < p.fuse then p.fuse - 2 else p.fuse) else saveP p k r = (p, k, 2) := by
  by_cases hR : r.Right
  · rw [if_pos hR]
    have hl := putL_len (n := k.number + 1) hr.len
    have hw := writeP_ok (n := k.number + 1) (all := putL (k.number + 1) r) h.sz h.down hf.1 hf.2
    obtain ⟨q, hq⟩ : ∃ q, q = ((p.write (slotA (k.number + 1) 0) (sec2 (putL (k.number + 1) r) 0)).write (slotA (k.number + 1) 1) (sec2 (putL (k.number + 1) r) 1)).sync := ⟨_, rfl⟩
    rw [← hq] at hw
    have hs : saveP p k r = (q, ⟨k.number + 1, r, false⟩, 0) := by
      unfold saveP
      rw [if_neg (fun h => h hR), if_neg (by rw [h.nb]; simp), if_neg (by omega), hw]
      simp [h.nb]
    rw [hs]
    have hqz : q.size = p.size := by rw [hq]; rfl
    have hg : ∀ x, q.get x = ((p.write (slotA (k.number + 1) 0) (sec2 (putL (k.number + 1) r) 0)).write (slotA (k.number + 1) 1) (sec2 (putL (k.number + 1) r) 1)).get x := fun x => by rw [hq, get_sync]
    have hsl := fun s hs => slot_wrote (s := s) h.sz hqz hg hl hs
    have a0 : 0 ≤ slotA (k.number + 1) 0 ∧ slotA (k.number + 1) 0 < p.size := by have := h.sz; unfold slotA; omega
    have a1 : 0 ≤ slotA (k.number + 1) 1 ∧ slotA (k.number + 1) 1 < p.size := by have := h.sz; unfold slotA; omega
    have o0 := sec2_ok (i := 0) hl (putL_byt hr.byt) (by omega)
    have o1 := sec2_ok (i := 1) hl (putL_byt hr.byt) (by omega)
    refine ⟨rfl, rfl, ?_, ?_⟩
    · exact {
        nb := rfl
        z := fun h0 => absurd h0 (by show ¬ (k.number + 1 = 0); omega)
        nz := fun _ => by
          refine ⟨?_, hr, hR, ?_⟩
          · show slotB q ((k.number + 1) % 2) = putL (k.number + 1) r
            rw [hsl _ (by omega), if_pos rfl]
          · show getN ((k.number + 1 + 1) % 2) (slotB q ((k.number + 1 + 1) % 2)) < k.number + 1
            rw [hsl _ (by omega), if_neg (by omega), show (k.number + 1 + 1) % 2 = k.number % 2 by omega]
            by_cases h0 : k.number = 0
            · obtain ⟨-, g0, g1⟩ := h.z h0
              rw [h0]
              show getN 0 (slotB p 0) < 1
              omega
            · obtain ⟨g1, g2, g3, -⟩ := h.nz (by omega)
              rw [g1, (getN_put g2 (by omega) rfl g3).1]
              omega
        lt := by show k.number + 1 < _; omega
        ok := by rw [hq]; exact ((h.ok.write a0 o0).write (p := p.write _ _) a1 o1).sync
        sz := by show 4 ≤ q.size; rw [hqz]; exact h.sz
        clean := by rw [hq]; rfl
        down := by rw [hq]; exact h.down
        snd := fun s hs => by
          show ∃ j, j ≤ k.number + 1 ∧ _
          rw [hsl s hs]
          by_cases he : s = (k.number + 1) % 2
          · rw [if_pos he]; exact ⟨k.number + 1, Nat.le_refl _, cutL_put64 hr.len⟩
          · rw [if_neg he]
            obtain ⟨j, h1, h2⟩ := h.snd s hs
            exact ⟨j, by omega, h2⟩ }
    · show q.fuse = _
      have e : q.fuse = (if 0 < (if 0 < p.fuse then p.fuse - 1 else p.fuse) then (if 0 < p.fuse then p.fuse - 1 else p.fuse) - 1 else (if 0 < p.fuse then p.fuse - 1 else p.fuse)) := by rw [hq]; rfl
      rw [e]
      have := hf.1
      have := hf.2
      split <;> split <;> (try split) <;> omega
  · rw [if_neg hR]
    unfold saveP
    rw [if_pos hR]
/-- What opens does not change by a power cut where nothing waits. -/
theorem cut_clean {p : DP} (hc : p.order = []) (hfr : ∀ x, p.fresh x = none) (keep : List Bool) (x : Int) : (p.cut keep).get x = p.get x := by
  unfold DP.get DP.cut
  simp only [hc, hfr]
  rfl
theorem Kop.of_slots {p q : DP} {k : KR} (h : Kop p k) (h0 : slotB q 0 = slotB p 0) (h1 : slotB q 1 = slotB p 1) : Kop q k := by
  have hs : ∀ s, s < 2 → slotB q s = slotB p s := fun s hs => by rcases (show s = 0 ∨ s = 1 by omega) with rfl | rfl <;> assumption
  refine ⟨h.nb, fun h' => by rw [h0, h1]; exact h.z h', fun h' => ?_, h.lt⟩
  rw [hs _ (by omega), hs _ (by omega)]
  exact h.nz h'
theorem Kst.keeps {p : DP} {k : KR} (h : Kst p k) {f : Int} (h0 : 0 ≤ f) (h3 : f ≤ 3) {r : Rc} (hr : r.Ok) (hm : k.number < 18446744073709551613) (keep : List Bool) :
    openP ((saveP (p.fused f) k r).1.cut keep) = if (saveP (p.fused f) k r).2.2 = 0 then ⟨k.number + 1, r, false⟩ else k := by
  have hfr := h.fresh
  have hpz : (p.fused f).fuse = f := by show max f (-1) = f; omega
  have hst : Kst (p.fused f) k := {
    nb := h.nb, z := h.z, nz := h.nz, lt := h.lt, ok := ⟨h.ok.s1, h.ok.s2, h.ok.sureR, h.ok.freshR, h.ok.nod, h.ok.ord, by show -1 ≤ max f (-1) ∧ max f (-1) ≤ _; omega⟩, sz := h.sz, clean := h.clean, down := h.down, snd := h.snd }
  obtain ⟨p', hp'⟩ : ∃ p', p' = p.fused f := ⟨_, rfl⟩
  rw [← hp'] at hst hpz ⊢
  have hfr' : ∀ x, p'.fresh x = none := hst.fresh
  by_cases hR : r.Right
  · by_cases hf : f = 0
    · have hs : saveP p' k r = (p'.fall, { k with broken := true }, 14) := by
        unfold saveP
        rw [if_neg (fun h => h hR), if_neg (by rw [h.nb]; simp), if_neg (by omega), writeP_0 hst.sz (by rw [hpz, hf])]
        rfl
      rw [hs]
      simp only
      rw [if_neg (by decide)]
      have hg : ∀ x, (p'.fall.cut keep).get x = p'.get x := fun x => by rw [cut_clean (p := p'.fall) hst.clean hfr']; rfl
      exact (hst.toKop.of_slots (slot_all 0 hg rfl) (slot_all 1 hg rfl)).opens
    · by_cases hf1 : f = 1
      · have hs : saveP p' k r = ((p'.write (slotA (k.number + 1) 0) (sec2 (putL (k.number + 1) r) 0)).fall, { k with broken := true }, 14) := by
          unfold saveP
          rw [if_neg (fun h => h hR), if_neg (by rw [h.nb]; simp), if_neg (by omega), writeP_1 hst.sz hst.down (by rw [hpz, hf1])]
          rfl
        rw [hs]
        simp only
        rw [if_neg (by decide)]
        obtain ⟨A, hA⟩ : ∃ A, A = sec2 (putL (k.number + 1) r) 0 := ⟨_, rfl⟩
        rw [← hA]
        obtain ⟨q, hq⟩ : ∃ q, q = ((p'.write (slotA (k.number + 1) 0) A).fall.cut keep) := ⟨_, rfl⟩
        rw [← hq]
        have hqz : q.size = p'.size := by rw [hq]; rfl
        have hord : (p'.write (slotA (k.number + 1) 0) A).fall.order = [slotA (k.number + 1) 0] := by
          show (if p'.fresh (slotA (k.number + 1) 0) = none then p'.order ++ [slotA (k.number + 1) 0] else p'.order) = _
          rw [if_pos (hfr' _), hst.clean]
          rfl
        have hgx : ∀ x, q.get x = if keep.getD 0 false = true ∧ x = slotA (k.number + 1) 0 then A else p'.get x := fun x => by
          have e : q.get x = (cutS (p'.write (slotA (k.number + 1) 0) A).fall keep 1 x).getD sec0 := by
            rw [hq]
            show ((cutS (p'.write (slotA (k.number + 1) 0) A).fall keep (p'.write (slotA (k.number + 1) 0) A).fall.order.length x).getD sec0) = _
            rw [hord]
            rfl
          rw [e]
          simp only [cutS]
          by_cases hk : keep.getD 0 false = true
          · rw [if_pos hk, hord]
            by_cases hx : x = slotA (k.number + 1) 0
            · rw [if_pos ⟨hk, hx⟩]
              simp [upd, hx, DP.fall, DP.write, DP.put]
            · rw [if_neg (fun h => hx h.2)]
              simp only [upd, List.getD_cons_zero, if_neg hx]
              simp [DP.get, hfr', DP.fall, DP.write, DP.put, DP.burn]
          · rw [if_neg hk, if_neg (fun h => hk h.1)]
            simp [DP.get, hfr', DP.fall, DP.write, DP.put, DP.burn]
        have hoth : ∀ s, s < 2 → s ≠ (k.number + 1) % 2 → slotB q s = slotB p' s := fun s hs he =>
          slotB_congr hqz (by rw [hgx, if_neg (fun h => by have := h.2; unfold slotA at this; omega)]) (by rw [hgx, if_neg (fun h => by have := h.2; unfold slotA at this; omega)])
        have hown : getN ((k.number + 1) % 2) (slotB q ((k.number + 1) % 2)) ≤ k.number ∧ (k.number = 0 → getN ((k.number + 1) % 2) (slotB q ((k.number + 1) % 2)) = 0) ∧ (0 < k.number → getN ((k.number + 1) % 2) (slotB q ((k.number + 1) % 2)) < k.number) := by
          by_cases hk : keep.getD 0 false = true
          · have e0 : getN ((k.number + 1) % 2) (slotB q ((k.number + 1) % 2)) = 0 := by
              have hsl : slotB q ((k.number + 1) % 2) = A ++ p'.get ((2 * ((k.number + 1) % 2) + 1 : Nat) : Int) := by
                rw [slotB_in (by omega) (by rw [hqz]; exact hst.sz), hgx, hgx, if_pos ⟨hk, by unfold slotA; omega⟩, if_neg (fun h => by have := h.2; unfold slotA at this; omega)]
              have hAl : A.length = 64 := by rw [hA]; exact (sec2_ok (putL_len hr.len) (putL_byt hr.byt) (by omega)).1
              have hnum : numOf (slotB q ((k.number + 1) % 2)) = k.number + 1 := by
                have e : numOf (slotB q ((k.number + 1) % 2)) = numOf (putL (k.number + 1) r) := by
                  unfold numOf cutL
                  rw [hsl, List.drop_zero, List.drop_zero, List.take_append_of_le_length (by omega), hA]
                  unfold sec2
                  rw [Nat.mul_zero, List.drop_zero, List.take_take]
                  rfl
                rw [e, numOf_put (by omega)]
              have h64 : cutL (slotB q ((k.number + 1) % 2)) 64 8 = cutL (slotB p' ((k.number + 1) % 2)) 64 8 := by
                have h1 := (hst.ok.get ((2 * ((k.number + 1) % 2) : Nat) : Int)).1
                rw [hsl, slotB_in (by omega) hst.sz]
                unfold cutL
                have e1 : (A ++ p'.get ((2 * ((k.number + 1) % 2) + 1 : Nat) : Int)).drop 64 = p'.get ((2 * ((k.number + 1) % 2) + 1 : Nat) : Int) := by rw [← hAl]; exact List.drop_left
                have e2 : (p'.get ((2 * ((k.number + 1) % 2) : Nat) : Int) ++ p'.get ((2 * ((k.number + 1) % 2) + 1 : Nat) : Int)).drop 64 = p'.get ((2 * ((k.number + 1) % 2) + 1 : Nat) : Int) := by rw [← h1]; exact List.drop_left
                rw [e1, e2]
              unfold getN
              rw [if_neg]
              rintro ⟨hp, -, -⟩
              rw [hnum] at hp
              have hlen : (slotB q ((k.number + 1) % 2)).length = 128 := by
                rw [hsl, List.length_append, hAl, (hst.ok.get _).1]
              have h5 := cutL_put64 (n := k.number + 1) (r := rcOf (slotB q ((k.number + 1) % 2))) (cutL_len (by omega))
              rw [hp, h64] at h5
              obtain ⟨j, hj1, hj2⟩ := hst.snd ((k.number + 1) % 2) (by omega)
              rw [hj2] at h5
              have := beL_inj (by omega) (by omega) h5
              omega
            exact ⟨by omega, fun _ => e0, fun _ => by omega⟩
          · have hsame : slotB q ((k.number + 1) % 2) = slotB p' ((k.number + 1) % 2) :=
              slotB_congr hqz (by rw [hgx, if_neg (fun h => hk h.1)]) (by rw [hgx, if_neg (fun h => hk h.1)])
            rw [hsame]
            by_cases hz : k.number = 0
            · obtain ⟨-, z0, z1⟩ := hst.z hz
              rw [hz]
              have z1' : getN ((0 + 1) % 2) (slotB p' ((0 + 1) % 2)) = 0 := z1
              exact ⟨by omega, fun _ => z1', fun h => by omega⟩
            · obtain ⟨-, -, -, n4⟩ := hst.nz (by omega)
              exact ⟨by omega, fun h => by omega, fun _ => n4⟩
        refine Kop.opens ⟨h.nb, fun hz => ⟨(hst.z hz).1, ?_, ?_⟩, fun hnz => ⟨?_, (hst.nz hnz).2.1, (hst.nz hnz).2.2.1, hown.2.2 hnz⟩, h.lt⟩
        · rw [hoth 0 (by omega) (by rw [hz]; decide)]; exact (hst.z hz).2.1
        · have := hown.2.1 hz
          rw [hz] at this
          exact this
        · rw [hoth _ (by omega) (by omega)]; exact (hst.nz hnz).1
      · have hsv := hst.save ⟨by omega, by omega⟩ hr hm
        rw [if_pos hR] at hsv
        obtain ⟨s1, s2, s3, -⟩ := hsv
        rw [if_pos s1]
        have hg : ∀ x, ((saveP p' k r).1.cut keep).get x = (saveP p' k r).1.get x := fun x => cut_clean s3.clean s3.fresh keep x
        exact (s3.toKop.of_slots (slot_all 0 hg rfl) (slot_all 1 hg rfl)).opens
  · have hs : saveP p' k r = (p', k, 2) := by unfold saveP; rw [if_pos hR]
    rw [hs]
    simp only
    rw [if_neg (by decide)]
    have hg : ∀ x, (p'.cut keep).get x = p'.get x := fun x => cut_clean hst.clean hfr' keep x
    exact (hst.toKop.of_slots (slot_all 0 hg rfl) (slot_all 1 hg rfl)).opens
end Go.Proofs.YtdojmjglnlkmoaaDoor
/- A keeper on a disk of a function's own, as one fact. sha's tables are as they were laid. No condition else. -/
namespace Go.Proofs.YtdojmjglnlkmoaaDoor
set_option linter.unusedVariables false
set_option linter.unusedSimpArgs false
set_option linter.constructorNameAsVariable false
open Go.RowKit Go.Sort

/-- What a disk and its keeper leave alone. -/
def Kpt (w w' : World) : Prop := ∀ b t cs, Blk w b t cs → t ≠ 90 → t ≠ 83 → t ≠ 3 → Blk w' b t cs
theorem Kpt.refl (w : World) : Kpt w w := fun _ _ _ h _ _ _ => h
theorem Kpt.tr {w w' w'' : World} (h : Kpt w w') (k : Kpt w' w'') : Kpt w w'' := fun b t cs hb h1 h2 h3 => k b t cs (h b t cs hb h1 h2 h3) h1 h2 h3
theorem Kpt.new {w w' : World} (h : New w w') : Kpt w w' := fun _ _ _ hb _ _ _ => h.blk hb
theorem Kpt.dk {w w' : World} {base g bs bf : Nat} {v : Value} {p : DP} (h : Dk w base g bs bf v p) (hF : Fr (DkOurs g bs bf v) w w') : Kpt w w' := fun b t cs hb _ h2 h3 =>
  hb.fr hF (dk_notBlk h hb (fun e => Blk.ne_ hb h.blk (fun e => h2 e) e) h3)
def Dsk (W w : World) (gd : Nat) (p : DP) : Prop := ∃ bs bf v, Dk w W.heap.size gd bs bf v p ∧ New W w
def Kpr (W w : World) (gd gk : Nat) (p : DP) (k : KR) : Prop := ∃ bs bf v, Dk w W.heap.size gd bs bf v p ∧ Kp w gk gd k ∧ W.heap.size ≤ gk ∧ New W w
section
variable {W w w' : World} {gd gk : Nat} {p : DP} {k : KR}
theorem Dsk.new (h : Dsk W w gd p) (hN : New w w') : Dsk W w' gd p := by obtain ⟨bs, bf, v, h1, h2⟩ := h; exact ⟨bs, bf, v, h1.new hN, h2.tr hN⟩
theorem Kpr.new (h : Kpr W w gd gk p k) (hN : New w w') : Kpr W w' gd gk p k := by obtain ⟨bs, bf, v, h1, h2, h3, h4⟩ := h; exact ⟨bs, bf, v, h1.new hN, h2.new hN, h3, h4.tr hN⟩
theorem Kpr.dsk (h : Kpr W w gd gk p k) : Dsk W w gd p := by obtain ⟨bs, bf, v, h1, h2, h3, h4⟩ := h; exact ⟨bs, bf, v, h1, h4⟩
theorem Kpr.kp (h : Kpr W w gd gk p k) : Kp w gk gd k := by obtain ⟨bs, bf, v, h1, h2, h3, h4⟩ := h; exact h2
theorem Kpr.nw (h : Kpr W w gd gk p k) : New W w := by obtain ⟨bs, bf, v, h1, h2, h3, h4⟩ := h; exact h4
theorem Dsk.nw (h : Dsk W w gd p) : New W w := by obtain ⟨bs, bf, v, h1, h2⟩ := h; exact h2
theorem Dsk.ok (h : Dsk W w gd p) : p.Ok := by obtain ⟨bs, bf, v, h1, h2⟩ := h; exact h1.ok
theorem dnew_d (hN : New W w) (n : Nat) (h1 : 1 ≤ n) (h2 : n ≤ 16384) : Calls Tryd.prog 8 #[.int .i64 n] w fun e w' => ∃ g, e = .returned (.tuple #[.pointer (some ⟨g, 0, none⟩), .nilIface]) ∧ Dsk W w' g (DP.new n) ∧ New w w' :=
  (new_ok n w W.heap.size hN.size h1 h2).mono fun e w' ⟨he, hD, hN'⟩ => ⟨_, he, ⟨_, _, _, hD, hN.tr hN'⟩, hN'⟩
theorem kopen_d (h : Dsk W w gd p) (hL : ShaIn 3 2 W) (hp : 4 ≤ p.size) : Calls Tryd.prog 12 #[.pointer (some ⟨gd, 0, none⟩)] w fun e w' => ∃ b, e = .returned (.tuple #[.pointer (some ⟨b, 0, none⟩), .nilIface]) ∧ Kpr W w' gd b p (openP p) ∧ New w w' := by
  obtain ⟨bs, bf, v, h1, h2⟩ := h
  exact (kopen_in h1 (hL.new h2) hp).mono fun e w' ⟨b, he, hK, hN, hb⟩ => ⟨b, he, ⟨bs, bf, v, h1.new hN, hK, by have := h2.size; omega, h2.tr hN⟩, hN⟩
theorem ksave_d (h : Kpr W w gd gk p k) (hL : ShaIn 3 2 W) (r : Rc) (hr : r.Ok) : Calls Tryd.prog 17 #[.pointer (some ⟨gk, 0, none⟩), .agg r.cells] w fun e w' => e = .returned (errD (saveP p k r).2.2) ∧ Kpr W w' gd gk (saveP p k r).1 (saveP p k r).2.1 ∧ Kpt w w' := by
  obtain ⟨bs, bf, v, h1, h2, h3, h4⟩ := h
  refine (ksave_kp h2 h1 (hL.new h4) r hr).mono fun e w' ⟨he, v', hT⟩ => ⟨he, ⟨bs, bf, v', hT.dk, hT.kp, h3, ?_⟩, ?_⟩
  · refine h4.fr hT.fr (fun b hb => ?_)
    rcases hb with rfl | hb
    · exact h3
    · exact (h1.ours b hb).1
  · intro b t cs hb e1 e2 e3
    refine hb.fr hT.fr (fun ho => ?_)
    rcases ho with rfl | ho
    · exact Blk.ne_ hb h2.blk (fun e => e1 e) rfl
    · exact dk_notBlk h1 hb (fun e => Blk.ne_ hb h1.blk (fun e => e2 e) e) e3 ho
theorem dcut_d (h : Dsk W w gd p) {q : Nat → Prop} (A : Option Addr) (n c : Nat) (keep : List Bool) (hR : Rd q w 1 A n (bools keep)) (hn : n ≤ maxLen) (hq : ∀ bs bf v, Dk w W.heap.size gd bs bf v p → ∀ k, q k → k ≠ bs) :
    Calls Tryd.prog 25 #[.pointer (some ⟨gd, 0, none⟩), .slice A n c] w fun e w' => e = .returned (.tuple #[]) ∧ Dsk W w' gd (p.cut keep) ∧ Kpt w w' := by
  obtain ⟨bs, bf, v, h1, h2⟩ := h
  refine (cut_in h1 A n c keep hR hn (hq bs bf v h1)).mono fun e w' ⟨he, hD, hF⟩ => ⟨he, ⟨bs, bf, _, hD, h2.fr hF (fun b hb => ?_)⟩, ?_⟩
  · exact (h1.ours b (by rcases hb with h | h | h <;> simp [DkOurs, h])).1
  · exact Kpt.dk h1 (hF.mono (fun b _ hb => by rcases hb with h | h | h <;> simp [DkOurs, h]))
theorem dfuse_d (h : Kpr W w gd gk p k) (a : Int) (ha : (Lit.int .i64 a).wf = true) : Calls Tryd.prog 24 #[.pointer (some ⟨gd, 0, none⟩), .int .i64 a] w fun e w' => e = .returned (.tuple #[]) ∧ Kpr W w' gd gk (p.fused a) k ∧ Kpt w w' := by
  obtain ⟨bs, bf, v, h1, h2, h3, h4⟩ := h
  refine (fuse_in h1 ha).mono fun e w' ⟨he, hD, hF⟩ => ⟨he, ⟨bs, bf, v, hD, h2.fr hF (fun e => Blk.ne_ h2.blk h1.blk (by decide) e), h3, h4.fr hF (fun b hb => ?_)⟩, ?_⟩
  · rw [hb]; exact h1.lo.1
  · exact Kpt.dk h1 (hF.mono (fun b _ hb => .inl hb))
end
end Go.Proofs.YtdojmjglnlkmoaaDoor
