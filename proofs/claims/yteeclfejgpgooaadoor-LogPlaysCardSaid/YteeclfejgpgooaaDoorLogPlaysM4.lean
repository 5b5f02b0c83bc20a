/- Texts of one proof, one behind the other: Whole, Sec, Rng, RngB. No condition but each one's own. -/
import Derived.Test.YteeclfejgpgooaaDoorLogPlaysM1
import Derived.Deep.WholeRow
import Derived.Deep.MidRow
import Derived.Test.YteeclfejgpgooaaDoorLogPlaysM3
import Derived.Stop.BytesEq
import Derived.RangeFuncNested
import Derived.RangeFuncBound
import Derived.RangeFuncCalls
/- A whole block, read and written as one value. No condition. -/
namespace Go.Proofs.YteeclfejgpgooaaDoor
set_option linter.unusedVariables false
set_option linter.unusedSimpArgs false
set_option linter.constructorNameAsVariable false
open Go.RowKit
section
variable {P : Program} {w : World} {ops : Array Oper} {rest : List Oper} {o o2 : Oper} {a : Act} {Q : Exit → Act → World → Prop}
/-- A guard for an arm: is this the next operation? -/
theorem atOp (o : Oper) (h : wpList P ops Q (o :: rest) a w) : wpList P ops Q (o :: rest) a w := h
/-- An operation that runs, guarded or not. -/
theorem wpList_want (hw : Region.wanted o (yielded ops a.tmps) = true) (h : ∀ K : Act → World → Prop, (∀ a w, wpList P ops Q rest a w → K a w) → o.wp P a w K Q) : wpList P ops Q (o :: rest) a w :=
  wpList_step fun K hK => by rw [if_pos hw]; exact h K hK
theorem setRow_blk {g : Nat} {T : TypeId} {cs cs' : Array Value} (hb : Blk w g T cs) : Blk (w.setRow g cs') g T cs' ∧ Fr (fun k => k = g) w (w.setRow g cs') :=
  ⟨setRow_heap w g cs cs' T (0, 0) hb, ⟨rfl, rfl, rfl, by simp, fun k _ hk => setRow_other w g k cs' hk⟩⟩
/-- A whole block, read and written. -/
theorem wpList_load_any {T : TypeId} {d : TypeDesc} {g : Nat} {cs : Array Value} (hw : Region.wanted o (yielded ops a.tmps) = true) (x : Operand) (ho : o.op = .load T x) (hu : P.underlying T = some d) (hd : d.isRow = true) (hi : (P.info? T).map (·.size) = some cs.size) (hx : a.eval x = .pointer (some ⟨g, 0, none⟩)) (hb : Blk w g T cs)
    (h : wpList P ops Q rest (a.put o.dst (.agg cs)) w) : wpList P ops Q (o :: rest) a w :=
  wpList_want hw fun _ hK => wp_load_row T x ho g hx T cs (0, 0) _ hb hu (by cases d <;> first | rfl | (simp [TypeDesc.isRow] at hd)) hi (hK _ _ h)
theorem wpList_store_any {T : TypeId} {g : Nat} {cs0 cs : Array Value} (hw : Region.wanted o (yielded ops a.tmps) = true) (x y : Operand) (ho : o.op = .store T x y) (hi : (P.info? T).map (·.size) = some cs.size) (hx : a.eval x = .pointer (some ⟨g, 0, none⟩)) (hy : a.eval y = .agg cs) (hb : Blk w g T cs0) (h0 : cs0.size = cs.size) (h1 : cs.all (·.oneCell') = true)
    (h : ∀ w', Blk w' g T cs → Fr (fun k => k = g) w w' → wpList P ops Q rest (a.put o.dst undef) w') : wpList P ops Q (o :: rest) a w :=
  wpList_want hw fun K hK => by
    obtain ⟨r1, r2⟩ := setRow_blk (cs' := cs) hb
    unfold Oper.wp execOp
    simp only [ho, hx, hy, Instr.storeAt, Instr.sureAddr, Sem.run_bind, Sem.run_pure, Result.andThen_ok, run_storeVar_row w g T T cs0 cs hb hi h0 h1]
    exact hK _ _ (h _ r1 r2)
end
end Go.Proofs.YteeclfejgpgooaaDoor
/- Arrays of bytes as whole values: stored, read, held against each other. No condition. -/
namespace Go.Proofs.YteeclfejgpgooaaDoor
set_option linter.unusedVariables false
set_option linter.unusedSimpArgs false
set_option linter.constructorNameAsVariable false
open Go.RowKit

/-- The cells of an array of bytes. -/
def secA (s : List Int) : Array Value := (u8s s).toArray
theorem secA_size (s : List Int) : (secA s).size = s.length := by simp [secA, u8s_len]
theorem secA_one (s : List Int) : (secA s).all (·.oneCell') = true := all_oneCell_toArray (u8s_one s)
theorem secA_list (s : List Int) : (secA s).toList = u8s s := by simp [secA]
theorem u8s_inj {s t : List Int} (h : u8s s = u8s t) : s = t := by
  unfold u8s at h
  induction s generalizing t with
  | nil => cases t with
    | nil => rfl
    | cons y t => simp at h
  | cons x s ih => cases t with
    | nil => simp at h
    | cons y t =>
      simp only [List.map_cons, List.cons.injEq, Value.int.injEq, true_and] at h
      rw [h.1, ih h.2]
theorem secA_inj {s t : List Int} (h : secA s = secA t) : s = t := by
  unfold secA at h
  exact u8s_inj (by simpa using h)

/-- A byte of a list, as itself. -/
def at_ (s : List Int) (i : Nat) : Int := s.getD i 0
theorem secA_get {s : List Int} {i : Nat} (h : i < s.length) : (secA s)[i]? = some (.int .u8 (at_ s i)) := by
  simp [secA, u8s, at_, h]
theorem secA_lit {s : List Int} {n : Nat} (h : s.length = n) : ((List.range n).map fun i => Value.int .u8 (at_ s i)).toArray = secA s := by
  apply Array.ext_getElem?
  intro i
  by_cases hi : i < n
  · rw [secA_get (by omega)]
    simp [hi]
  · rw [Array.getElem?_eq_none (by simp; omega), Array.getElem?_eq_none (by rw [secA_size]; omega)]
section
variable {P : Program} {w : World}
open Extern.Stop (cell)
theorem secA_cell {s : List Int} (hs : Byt s) : ((s.map fun x => UInt8.ofNat x.toNat).map cell).toArray = secA s := by
  unfold secA u8s
  rw [List.map_map]
  congr 1
  apply List.map_congr_left
  intro x hx
  obtain ⟨h0, h1⟩ := hs x hx
  simp only [Function.comp, cell]
  congr 1
  rw [UInt8.toNat_ofNat', Nat.mod_eq_of_lt (by omega)]
  simp only [Int.ofNat_eq_natCast]
  omega
theorem byt_inj {s t : List Int} (hs : Byt s) (ht : Byt t) : ((s.map fun x => UInt8.ofNat x.toNat) == (t.map fun x => UInt8.ofNat x.toNat)) = decide (s = t) := by
  rw [Bool.eq_iff_iff, beq_iff_eq, decide_eq_true_iff]
  constructor
  · intro h
    have := congrArg (fun l => (List.map cell l).toArray) h
    simp only [secA_cell hs, secA_cell ht] at this
    exact secA_inj this
  · rintro rfl; rfl
theorem run_equalIn_sec (d : Nat) {T e : TypeId} {n : Nat} (ht : P.underlying T = some (.array n e)) (he : P.underlying e = some (.int .u8)) (hsz : ∀ w, (sizeOf e).run P w = .ok 1 w) {s t : List Int} (hs : s.length = n) (h2 : t.length = n) (bs : Byt s) (bt : Byt t) (w : World) :
    (Op.equalIn (d + 2) T (.agg (secA s)) (.agg (secA t))).run P w = .ok (decide (s = t)) w := by
  have := run_equalIn_bytes (P := P) w d T e n ht he hsz (s.map fun x => UInt8.ofNat x.toNat) (t.map fun x => UInt8.ofNat x.toNat) (by simpa using hs) (by simpa using h2)
  rw [secA_cell bs, secA_cell bt, byt_inj bs bt] at this
  exact this
theorem run_eql_sec {T e : TypeId} {n : Nat} (ht : P.underlying T = some (.array n e)) (he : P.underlying e = some (.int .u8)) (hsz : ∀ w, (sizeOf e).run P w = .ok 1 w) {s t : List Int} (hs : s.length = n) (h2 : t.length = n) (bs : Byt s) (bt : Byt t) (w : World) :
    (binOp .eql T (.agg (secA s)) (.agg (secA t))).run P w = .ok (.bool (decide (s = t))) w := by
  rw [run_eql_struct, run_equalIn_sec 9998 ht he hsz hs h2 bs bt w]
  rfl
theorem run_neq_sec {T e : TypeId} {n : Nat} (ht : P.underlying T = some (.array n e)) (he : P.underlying e = some (.int .u8)) (hsz : ∀ w, (sizeOf e).run P w = .ok 1 w) {s t : List Int} (hs : s.length = n) (h2 : t.length = n) (bs : Byt s) (bt : Byt t) (w : World) :
    (binOp .neq T (.agg (secA s)) (.agg (secA t))).run P w = .ok (.bool (!decide (s = t))) w := by
  rw [run_neq_struct, run_equalIn_sec 9998 ht he hsz hs h2 bs bt w]
  rfl

/-- A whole array out of its block. -/
theorem run_loadAt_blk {T e : TypeId} {n g : Nat} {s : List Int} (ht : P.underlying T = some (.array n e)) (hi : (P.info? T).map (·.size) = some n) (hb : Blk w g T (secA s)) (hs : s.length = n) :
    (Instr.loadAt T (.pointer (some ⟨g, 0, none⟩))).run P w = .ok (.agg (secA s)) w := by
  simp only [Instr.loadAt, Instr.sureAddr, Sem.run_bind, Sem.run_pure, Result.andThen]
  exact run_loadVar_row w g T T (secA s) (0, 0) _ hb ht rfl (by rw [hi, secA_size, hs])
theorem run_loadCells_blk {T : TypeId} {n g : Nat} {s : List Int} (hb : Blk w g T (secA s)) (hs : s.length = n) : (loadCellsFrom ⟨g, 0, none⟩ 0 n #[]).run P w = .ok (secA s) w := by
  have := run_loadCells_list (P := P) w ⟨g, 0, none⟩ (secA s).toList (fun j v hv => by
    have hadd : (⟨g, 0, none⟩ : Addr).add j = ⟨g, j, none⟩ := add_own g j
    rw [hadd, hb.cell j]
    simpa using hv)
  have hl : (secA s).size = n := by rw [secA_size, hs]
  simpa [loadCells, hl] using this
theorem Blk.range {T : TypeId} {g : Nat} {s : List Int} (hb : Blk w g T (secA s)) : w.rangeAt g 0 (u8s s) := fun j v hv => by
  rw [Nat.zero_add, hb.cell j]
  simpa [secA] using hv
theorem Blk.byte {T : TypeId} {g n : Nat} {s : List Int} (hb : Blk w g T (secA s)) (h : s.length = n) : ∀ i, i < n → w.cell? ⟨g, i, none⟩ = some (.int .u8 (at_ s i)) := fun i hi => by rw [hb.cell i, secA_get (by omega)]
theorem results_sec2 {fn : Func} {p q : Tmp} {ty e : TypeId} {n g : Nat} {s : List Int} (h : fn.results = #[.cell p ty, .tmp q]) (tmps : Array Value) (w : World) (hp : tmps.getD p undef = .pointer (some ⟨g, 0, none⟩)) (hb : Blk w g ty (secA s))
    (hu : P.underlying ty = some (.array n e)) (hi : (P.info? ty).map (·.size) = some n) (hs : s.length = n) : (results fn tmps).run P w = .ok (.tuple #[.agg (secA s), tmps.getD q undef]) w := by
  have hp' : tmps[p]?.getD undef = .pointer (some ⟨g, 0, none⟩) := by simpa using hp
  simp [results, h, hp', asAddr, run_loadVar_row w g ty ty (secA s) (0, 0) _ hb hu rfl (by rw [hi, secA_size, hs])]
section
variable {ops : Array Oper} {rest : List Oper} {o o2 : Oper} {a : Act} {Q : Exit → Act → World → Prop}
theorem wpList_load_blk {T e : TypeId} {n g : Nat} {s : List Int} (hw : Region.wanted o (yielded ops a.tmps) = true) (x : Operand) (ho : o.op = .load T x) (ht : P.underlying T = some (.array n e)) (hi : (P.info? T).map (·.size) = some n) (hx : a.eval x = .pointer (some ⟨g, 0, none⟩)) (hb : Blk w g T (secA s)) (hs : s.length = n)
    (h : wpList P ops Q rest (a.put o.dst (.agg (secA s))) w) : wpList P ops Q (o :: rest) a w :=
  wpList_want hw fun _ hK => wp_load_row T x ho g hx T (secA s) (0, 0) _ hb ht rfl (by rw [hi, secA_size, hs]) (hK _ _ h)
theorem wpList_store_blk {T : TypeId} {n g : Nat} {s s0 : List Int} (hw : Region.wanted o (yielded ops a.tmps) = true) (x y : Operand) (ho : o.op = .store T x y) (hi : (P.info? T).map (·.size) = some n) (hx : a.eval x = .pointer (some ⟨g, 0, none⟩)) (hy : a.eval y = .agg (secA s)) (hb : Blk w g T (secA s0)) (h0 : s0.length = n) (hs : s.length = n)
    (h : ∀ w', Blk w' g T (secA s) → Fr (fun k => k = g) w w' → wpList P ops Q rest (a.put o.dst undef) w') : wpList P ops Q (o :: rest) a w :=
  wpList_want hw fun K hK => by
    obtain ⟨h1, h2⟩ := setRow_blk (cs' := secA s) hb
    unfold Oper.wp execOp
    simp only [ho, hx, hy, Instr.storeAt, Instr.sureAddr, Sem.run_bind, Sem.run_pure, Result.andThen_ok, run_storeVar_row w g T T (secA s0) (secA s) hb (by rw [hi, secA_size, hs]) (by rw [secA_size, secA_size, h0, hs]) (secA_one s)]
    exact hK _ _ (h _ h1 h2)
/-- A variable that is made; one that was made last is filled. -/
theorem wpList_alloc_sec {T : TypeId} {n : Nat} {z : List Int} (hg : o.guard = none) (ho : o.op = .alloc T) (hZ : (P.info? T).map (fun i => (i.zero, i.size)) = some (some (.agg (secA z)), n))
    (h : wpList P ops Q rest (a.put o.dst (.pointer (some ⟨w.heap.size, 0, none⟩))) (w.alloc (.cells (secA z) T))) : wpList P ops Q (o :: rest) a w := by
  obtain ⟨z1, z2⟩ := zero_of_info hZ
  refine wpList_plain hg fun K' hK' => ?_
  have hal : (Instr.alloc T true (.tuple #[])).run P w = .ok (.pointer (some ⟨w.heap.size, 0, none⟩)) (w.alloc (.cells (secA z) T)) := by
    unfold Instr.alloc
    simp [Sem.run_bind, z1 w, newVar, newRow, go_sem, Result.andThen]
  unfold Oper.wp
  simp only [execOp, ho, hal, Result.andThen_ok, Sem.run_bind, Sem.run_pure]
  exact hK' _ _ h
theorem wpList_store_last {T : TypeId} {n : Nat} {s z : List Int} {w1 : World} (hg : o.guard = none) (x y : Operand) (ho : o.op = .store T x y) (hi : (P.info? T).map (·.size) = some n) (hz : z.length = n) (hs : s.length = n)
    (hx : a.eval x = .pointer (some ⟨w1.heap.size, 0, none⟩)) (hy : a.eval y = .agg (secA s))
    (h : wpList P ops Q rest (a.put o.dst undef) (w1.alloc (.cells (secA s) T))) : wpList P ops Q (o :: rest) a (w1.alloc (.cells (secA z) T)) := by
  refine wpList_plain hg fun K2 hK2 => ?_
  unfold Oper.wp
  have hst := run_storeAt_new (P := P) w1 T (secA z) (secA s) (by rw [hi, secA_size, hs]) (by rw [secA_size, secA_size, hz, hs]) (secA_one s)
  simp only [execOp, ho, hx, hy, hst, Result.andThen_ok, Sem.run_bind, Sem.run_pure]
  exact hK2 _ _ h
/-- A variable of many cells that is made and filled at once. -/
theorem wpList_newrow {T : TypeId} {n : Nat} {C : Array Value} {Z : Value} (hg1 : o.guard = none) (hg2 : o2.guard = none) (ho : o.op = .alloc T) (x y : Operand) (ho2 : o2.op = .store T x y) (hZ : (P.info? T).map (fun i => (i.zero, i.size)) = some (some Z, n)) (hz : Z.cells.size = n)
    (hx : (a.put o.dst (.pointer (some ⟨w.heap.size, 0, none⟩))).eval x = .pointer (some ⟨w.heap.size, 0, none⟩)) (hy : (a.put o.dst (.pointer (some ⟨w.heap.size, 0, none⟩))).eval y = .agg C) (hs : C.size = n) (h1 : C.all (·.oneCell') = true)
    (h : wpList P ops Q rest ((a.put o.dst (.pointer (some ⟨w.heap.size, 0, none⟩))).put o2.dst undef) (w.alloc (.cells C T))) : wpList P ops Q (o :: o2 :: rest) a w := by
  obtain ⟨z1, z2⟩ := zero_of_info hZ
  refine wpList_plain hg1 fun K' hK' => ?_
  have hal : (Instr.alloc T true (.tuple #[])).run P w = .ok (.pointer (some ⟨w.heap.size, 0, none⟩)) (w.alloc (.cells Z.cells T)) := by
    unfold Instr.alloc
    simp [Sem.run_bind, z1 w, newVar, newRow, go_sem, Result.andThen]
  unfold Oper.wp
  simp only [execOp, ho, hal, Result.andThen_ok, Sem.run_bind, Sem.run_pure]
  refine hK' _ _ (wpList_plain hg2 fun K2 hK2 => ?_)
  unfold Oper.wp
  have hst := run_storeAt_new (P := P) w T Z.cells C (by rw [z2, hs]) (by rw [hz, hs]) h1
  simp only [execOp, ho2, hx, hy, hst, Result.andThen_ok, Sem.run_bind, Sem.run_pure]
  exact hK2 _ _ h
/-- A row of many cells, out of wherever it lies. -/
theorem wpList_load_range {T : TypeId} {d : TypeDesc} {b off : Nat} {cs : List Value} (hw : Region.wanted o (yielded ops a.tmps) = true) (x : Operand) (ho : o.op = .load T x) (hx : a.eval x = .pointer (some ⟨b, off, none⟩)) (hc : w.rangeAt b off cs) (hu : P.underlying T = some d) (hd : d.isRow = true) (hi : (P.info? T).map (·.size) = some cs.length)
    (h : wpList P ops Q rest (a.put o.dst (.agg cs.toArray)) w) : wpList P ops Q (o :: rest) a w :=
  wpList_want hw fun _ hK => wp_load_mid T x ho b off hx cs d hc hu hd hi (hK _ _ h)
/-- A variable that is made and filled at once. -/
theorem wpList_newvar {T : TypeId} {n : Nat} {s : List Int} {Z : Value} (hg1 : o.guard = none) (hg2 : o2.guard = none) (ho : o.op = .alloc T) (x y : Operand) (ho2 : o2.op = .store T x y) (hZ : (P.info? T).map (fun i => (i.zero, i.size)) = some (some Z, n)) (hz : Z.cells.size = n)
    (hx : (a.put o.dst (.pointer (some ⟨w.heap.size, 0, none⟩))).eval x = .pointer (some ⟨w.heap.size, 0, none⟩)) (hy : (a.put o.dst (.pointer (some ⟨w.heap.size, 0, none⟩))).eval y = .agg (secA s)) (hs : s.length = n)
    (h : wpList P ops Q rest ((a.put o.dst (.pointer (some ⟨w.heap.size, 0, none⟩))).put o2.dst undef) (w.alloc (.cells (secA s) T))) : wpList P ops Q (o :: o2 :: rest) a w := by
  obtain ⟨z1, z2⟩ := zero_of_info hZ
  refine wpList_plain hg1 fun K' hK' => ?_
  have hal : (Instr.alloc T true (.tuple #[])).run P w = .ok (.pointer (some ⟨w.heap.size, 0, none⟩)) (w.alloc (.cells Z.cells T)) := by
    unfold Instr.alloc
    simp [Sem.run_bind, z1 w, newVar, newRow, go_sem, Result.andThen]
  unfold Oper.wp
  simp only [execOp, ho, hal, Result.andThen_ok, Sem.run_bind, Sem.run_pure]
  refine hK' _ _ (wpList_plain hg2 fun K2 hK2 => ?_)
  unfold Oper.wp
  have hst := run_storeAt_new (P := P) w T Z.cells (secA s) (by rw [z2, secA_size, hs]) (by rw [hz, secA_size, hs]) (secA_one s)
  simp only [execOp, ho2, hx, hy, hst, Result.andThen_ok, Sem.run_bind, Sem.run_pure]
  exact hK2 _ _ h
end
section
variable {ops : Array Oper} {o : Oper} {a : Act} {Q : Exit → Act → World → Prop} {K : Act → World → Prop} {F : Prop}
/-- In a region that draws: a variable is made; a row is stored, read. -/
theorem step_allocn {T : TypeId} {n : Nat} {Z : Value} (hw : Region.wanted o (yielded ops a.tmps) = true) (ho : o.op = .alloc T) (hZ : (P.info? T).map (fun i => (i.zero, i.size)) = some (some Z, n))
    (h : ∀ g w', Blk w' g T Z.cells → New w w' → w.heap.size ≤ g → K (a.put o.dst (.pointer (some ⟨g, 0, none⟩))) w') : if Region.wanted o (yielded ops a.tmps) = true then Oper.wp P o a w K Q else F := by
  rw [if_pos hw]
  obtain ⟨z1, z2⟩ := zero_of_info hZ
  have hal : (Instr.alloc T true (.tuple #[])).run P w = .ok (.pointer (some ⟨w.heap.size, 0, none⟩)) (w.alloc (.cells Z.cells T)) := by
    unfold Instr.alloc
    simp [Sem.run_bind, z1 w, newVar, newRow, go_sem, Result.andThen]
  unfold Oper.wp
  simp only [execOp, ho, hal, Result.andThen_ok, Sem.run_bind, Sem.run_pure]
  exact h _ _ (Blk.new _ _ _) (New.al (New.refl _) _) (Nat.le_refl _)
theorem step_store_any {T : TypeId} {g : Nat} {cs0 cs : Array Value} (hw : Region.wanted o (yielded ops a.tmps) = true) (x y : Operand) (ho : o.op = .store T x y) (hi : (P.info? T).map (·.size) = some cs.size) (hx : a.eval x = .pointer (some ⟨g, 0, none⟩)) (hy : a.eval y = .agg cs) (hb : Blk w g T cs0) (h0 : cs0.size = cs.size) (h1 : cs.all (·.oneCell') = true)
    (h : ∀ w', Blk w' g T cs → Fr (fun k => k = g) w w' → K (a.put o.dst undef) w') : if Region.wanted o (yielded ops a.tmps) = true then Oper.wp P o a w K Q else F := by
  rw [if_pos hw]
  obtain ⟨r1, r2⟩ := setRow_blk (cs' := cs) hb
  unfold Oper.wp execOp
  simp only [ho, hx, hy, Instr.storeAt, Instr.sureAddr, Sem.run_bind, Sem.run_pure, Result.andThen_ok, run_storeVar_row w g T T cs0 cs hb hi h0 h1]
  exact h _ r1 r2
end
end
end Go.Proofs.YteeclfejgpgooaaDoor
/- A range over a function that hands out memory made in the round: an own law for an outermost loop whose rounds all go on. The round is asked only where what is handed out is 'Good' in the world of that round. No condition. -/
namespace Go.Proofs.YteeclfejgpgooaaDoor
set_option linter.unusedVariables false
set_option linter.unusedSimpArgs false
set_option linter.constructorNameAsVariable false
open Go.RowKit

/-- What a round keeps beside what it is said to keep: all that is no cells, from block B on. -/
structure Kept (B : Nat) (W W' : World) : Prop where
  size : W.heap.size ≤ W'.heap.size
  rest : ∀ (k : Nat) (o : Obj), B ≤ k → W.heap[k]? = some o → o.isCells = false → W'.heap[k]? = some o
section
variable {B : Nat} {A W W' : World}
theorem Kept.refl (B : Nat) (W : World) : Kept B W W := ⟨Nat.le_refl _, fun _ _ _ h _ => h⟩
theorem Kept.tr (h : Kept B A W) (k : Kept B W W') : Kept B A W' := ⟨Nat.le_trans h.size k.size, fun i o hi ho hc => k.rest i o hi (h.rest i o hi ho hc) hc⟩
theorem Kept.new (h : New W W') : Kept B W W' := ⟨h.size, fun k o _ ho _ => (h.block k (Array.getElem?_eq_some_iff.1 ho).1).trans ho⟩
theorem Kept.fr {S : Nat → Prop} (h : Fr S W W') (hS : ∀ k o, B ≤ k → S k → W.heap[k]? = some o → o.isCells = true) : Kept B W W' :=
  ⟨h.size, fun k o hb ho hc => (h.block k (Array.getElem?_eq_some_iff.1 ho).1 (fun hs => by have := hS k o hb hs ho; rw [hc] at this; cases this)).trans ho⟩
end
/-- An iterator all of whose elements come, one by one; each is good where it comes. -/
def GivesR {α : Type} (R : List α → α → Prop) (P : Program) (gf : Nat) (lb : Array Value) (encs : α → Array Value) (Good : α → World → Prop) (Kp : World → World → Prop) (S : List α → Prop) (M : Nat) (w : World) : Prop :=
  ∀ (l : Nat) (J : List α → World → Prop) (W : World), New w W → (∀ s A B, J s A → New A B → J s B) →
    (∀ pre x W1, pre.length < M → J pre W1 → Good x W1 → R pre x → YieldAt Fence.wide 2 P l (encs x) W1 fun e W' => e = .returned (.bool true) ∧ J (pre ++ [x]) W' ∧ Kp W1 W') →
    J [] W → CallsIn Fence.wide 2 P gf (#[.func (.yield l) #[] #[]] ++ lb) W fun e W' => (∃ v, e = .returned v) ∧ ∃ xs, S xs ∧ J xs W'
def Gives {α : Type} (P : Program) (gf : Nat) (lb : Array Value) (encs : α → Array Value) (Good : α → World → Prop) (Kp : World → World → Prop) (S : List α → Prop) (M : Nat) (w : World) : Prop :=
  GivesR (fun _ _ => True) P gf lb encs Good Kp S M w
theorem GivesR.gives {α : Type} {R : List α → α → Prop} {P : Program} {gf : Nat} {lb : Array Value} {encs : α → Array Value} {Good : α → World → Prop} {Kp : World → World → Prop} {S : List α → Prop} {M : Nat} {w : World} (h : GivesR R P gf lb encs Good Kp S M w) : Gives P gf lb encs Good Kp S M w :=
  fun l J W hN hJ hY h0 => h l J W hN hJ (fun pre x W1 h1 h2 h3 _ => hY pre x W1 h1 h2 h3 trivial) h0

/-- A block that is no cells, put anew. -/
def Puts (B : Nat) (W W' : World) : Prop := ∃ l o o', B ≤ l ∧ W.heap[l]? = some o ∧ o.isCells = false ∧ W' = W.putObj l o'

theorem wp_rangeR {α : Type} {R : List α → α → Prop} {P : Program} {g : Operand} {ps : Array Tmp} {assign body : Code} {Q : Exit → Act → World → Prop} {a : Act} {w : World}
    {gf : Nat} {lb : Array Value} (hg : a.eval g = .func (.func gf) #[] lb) (eg : ∀ args w, (callFunc gf args).run P w = .ok (.enter gf args) w)
    (encs : α → Array Value) (hps : ∀ x, (encs x).size = ps.size) {Good : α → World → Prop} {Kp : World → World → Prop} {S : List α → Prop} {M : Nat} (hseq : GivesR R P gf lb encs Good Kp S M w)
    (hGp : ∀ x W W', Good x W → Puts w.heap.size W W' → Good x W') (hKt : ∀ {A B C : World}, Kp A B → Kp B C → Kp A C) (hKp : ∀ W W', Puts w.heap.size W W' → Kp W W')
    (I : List α → World → Prop) (hIn : ∀ s A B, I s A → New A B → I s B) (hIp : ∀ s A B, I s A → Puts w.heap.size A B → I s B) (h0 : I [] w) (a1 : α → Act)
    (hassign : ∀ (l : Nat) (x : α) (W : World) (K : Act → World → Prop), K (a1 x) W → assign.wpIn (Fence.wide.inRound l) 2 P (Exit.then K (fun _ _ _ => False)) { tmps := (ps.zip (encs x)).foldl (fun t (p, v) => t.setIfInBounds p v) a.tmps, defers := [] } W)
    (hbody : ∀ (l : Nat) (pre : List α) (x : α) (W : World), pre.length < M → I pre W → Good x W → R pre x → body.wpIn (Fence.wide.inRound l) 2 P (fun e _ W' => e = .normal ∧ Kept w.heap.size W W' ∧ Kp W W' ∧ I (pre ++ [x]) W') (a1 x) W)
    (hdone : ∀ (D : Nat) (xs : List α) (W : World), w.heap.size ≤ D → S xs → I xs W → W.heap[D]? = some (.deferred (some [])) → Q .normal { a with defers := { target := .collected D, args := #[] } :: a.defers } W) :
    (Code.rangeFunc g ps assign body).wp P Q a w := by
  refine (wpIn_wide (n := 3)).1 ?_
  refine wpIn_rangeFunc fun fn hfn => ?_
  -- the two blocks of the loop
  obtain ⟨rc, hrc⟩ : ∃ rc : LoopState → Option Code → Loop, rc = fun st pe => { state := st, pending := pe, fn, tmps := a.tmps, params := ps, assign, body, defers := w.heap.size } := ⟨_, rfl⟩
  obtain ⟨w1, hw1⟩ : ∃ w1, w1 = (w.alloc (.deferred (some []))).alloc (.loop (rc .ready none)) := ⟨_, rfl⟩
  have hn1 : New w w1 := by rw [hw1]; exact New.al (New.al (New.refl w) _) _
  have hl1 : w1.heap[w.heap.size + 1]? = some (.loop (rc .ready none)) := by
    rw [hw1]
    have := World.alloc_heap_new (w.alloc (.deferred (some []))) (.loop (rc .ready none))
    rwa [World.size_alloc] at this
  have hd1 : w1.heap[w.heap.size]? = some (.deferred (some [])) := by
    rw [hw1]
    exact (Below.heap_alloc _ _ _ (by simp)).trans (World.alloc_heap_new w _)
  refine ⟨w.heap.size + 1, [{ target := .collected w.heap.size, args := #[] }], w1, { target := .fn (.func gf) lb, args := #[.func (.yield (w.heap.size + 1)) #[] #[]] }, w1, gf, #[.func (.yield (w.heap.size + 1)) #[] #[]] ++ lb, w1, ?_, ?_, fun _ _ => trivial, ?_, fun _ => by decide, ?_⟩
  · rw [hw1, hrc]
    exact run_enterLoop_outer _ _ _ _ _
  · simp only [resolve, hg]
    simp [go_sem]
  · simp [invoke, go_sem, eg]
  -- the record between two rounds
  have put : ∀ (W : World) (r r' : Loop), W.heap[w.heap.size + 1]? = some (.loop r) → Puts w.heap.size W (W.putObj (w.heap.size + 1) (.loop r')) := fun W r r' h => ⟨_, _, _, by omega, h, rfl, rfl⟩
  refine (hseq (w.heap.size + 1) (fun pre W => I pre W ∧ W.heap[w.heap.size + 1]? = some (.loop (rc .ready none)) ∧ W.heap[w.heap.size]? = some (.deferred (some []))) w1 hn1 ?_ ?_ ⟨hIn _ _ _ h0 hn1, hl1, hd1⟩).mono ?_
  · rintro s A B ⟨hi, hl, hd⟩ hN
    exact ⟨hIn s A B hi hN, (hN.block _ (Array.getElem?_eq_some_iff.1 hl).1).trans hl, (hN.block _ (Array.getElem?_eq_some_iff.1 hd).1).trans hd⟩
  · rintro pre x W hpl ⟨hi, hl, hd⟩ hgood hRx
    have hlt := (Array.getElem?_eq_some_iff.1 hl).1
    have hy := run_yield (P := P) (args := encs x) hl (by rw [hrc]; exact hps x)
    rw [hrc] at hy
    refine ⟨fn, _, assign, body, hy, roundIn_of_wpIn hfn (hassign _ x W _ ⟨_, run_beginRound hl (by rw [hrc]), ?_⟩)⟩
    obtain ⟨W2, hW2⟩ : ∃ W2, W2 = W.putObj (w.heap.size + 1) (.loop { rc .ready none with state := .busy }) := ⟨_, rfl⟩
    have hP2 : Puts w.heap.size W W2 := by rw [hW2]; exact put W _ _ hl
    have hl2 : W2.heap[w.heap.size + 1]? = some (.loop { rc .ready none with state := .busy }) := by rw [hW2]; exact World.putObj_heap_same hlt
    have hd2 : W2.heap[w.heap.size]? = some (.deferred (some [])) := by rw [hW2]; exact (World.putObj_heap_other (by omega)).trans hd
    rw [← hW2]
    refine wpIn_mono (hbody _ pre x W2 hpl (hIp _ _ _ hi hP2) (hGp _ _ _ hgood hP2) hRx) ?_
    rintro e a3 W3 ⟨rfl, hk3, hkp3, hi3⟩
    have hl3 := hk3.rest _ _ (by omega) hl2 rfl
    have hd3 := hk3.rest _ _ (Nat.le_refl _) hd2 rfl
    have hr := run_endRound (P := P) none hl3
    have hP3 := put W3 _ { rc .ready none with state := (if (none : Option Code).isNone then .ready else .done), pending := none } hl3
    refine ⟨_, _, hr, rfl, ⟨hIp _ _ _ hi3 hP3, ?_, (World.putObj_heap_other (by omega)).trans hd3⟩, hKt (hKp _ _ hP2) (hKt hkp3 (hKp _ _ hP3))⟩
    rw [World.putObj_heap_same (Array.getElem?_eq_some_iff.1 hl3).1, hrc]
    rfl
  · rintro e W2 ⟨⟨v, rfl⟩, xs, hS, hi, hl, hd⟩
    have hend := run_endLoop (P := P) hl (by rw [hrc]; simp)
    rw [hrc] at hend
    exact ⟨none, _, hend, hdone _ xs _ (Nat.le_refl _) hS (hIp _ _ _ hi (put W2 _ _ hl)) ((World.putObj_heap_other (by omega)).trans hd)⟩

theorem wp_range {α : Type} {P : Program} {g : Operand} {ps : Array Tmp} {assign body : Code} {Q : Exit → Act → World → Prop} {a : Act} {w : World}
    {gf : Nat} {lb : Array Value} (hg : a.eval g = .func (.func gf) #[] lb) (eg : ∀ args w, (callFunc gf args).run P w = .ok (.enter gf args) w)
    (encs : α → Array Value) (hps : ∀ x, (encs x).size = ps.size) {Good : α → World → Prop} {Kp : World → World → Prop} {S : List α → Prop} {M : Nat} (hseq : Gives P gf lb encs Good Kp S M w)
    (hGp : ∀ x W W', Good x W → Puts w.heap.size W W' → Good x W') (hKt : ∀ {A B C : World}, Kp A B → Kp B C → Kp A C) (hKp : ∀ W W', Puts w.heap.size W W' → Kp W W')
    (I : List α → World → Prop) (hIn : ∀ s A B, I s A → New A B → I s B) (hIp : ∀ s A B, I s A → Puts w.heap.size A B → I s B) (h0 : I [] w) (a1 : α → Act)
    (hassign : ∀ (l : Nat) (x : α) (W : World) (K : Act → World → Prop), K (a1 x) W → assign.wpIn (Fence.wide.inRound l) 2 P (Exit.then K (fun _ _ _ => False)) { tmps := (ps.zip (encs x)).foldl (fun t (p, v) => t.setIfInBounds p v) a.tmps, defers := [] } W)
    (hbody : ∀ (l : Nat) (pre : List α) (x : α) (W : World), pre.length < M → I pre W → Good x W → body.wpIn (Fence.wide.inRound l) 2 P (fun e _ W' => e = .normal ∧ Kept w.heap.size W W' ∧ Kp W W' ∧ I (pre ++ [x]) W') (a1 x) W)
    (hdone : ∀ (D : Nat) (xs : List α) (W : World), w.heap.size ≤ D → S xs → I xs W → W.heap[D]? = some (.deferred (some [])) → Q .normal { a with defers := { target := .collected D, args := #[] } :: a.defers } W) :
    (Code.rangeFunc g ps assign body).wp P Q a w :=
  wp_rangeR hg eg encs hps hseq hGp hKt hKp I hIn hIp h0 a1 hassign (fun l pre x W h1 h2 h3 _ => hbody l pre x W h1 h2 h3) hdone

/-! ### Marks that loops have left among a frame's deferred calls -/
def mk1 (D : Nat) : Deferred := { target := .collected D, args := #[] }
/-- Loops' marks, each with its block in the heap, none below B. -/
def Marks (B : Nat) (Ds : List Nat) (W : World) : Prop := Ds.Nodup ∧ ∀ D ∈ Ds, B ≤ D ∧ W.heap[D]? = some (.deferred (some []))
section
variable {B : Nat} {Ds : List Nat} {W W' : World}
theorem Marks.nil (B : Nat) (W : World) : Marks B [] W := ⟨List.nodup_nil, fun D h => by cases h⟩
theorem Marks.kept (h : Marks B Ds W) (hk : Kept B W W') : Marks B Ds W' := ⟨h.1, fun D hD => ⟨(h.2 D hD).1, hk.rest D _ (h.2 D hD).1 (h.2 D hD).2 rfl⟩⟩
theorem Marks.lt (h : Marks B Ds W) {D : Nat} (hD : D ∈ Ds) : D < W.heap.size := (Array.getElem?_eq_some_iff.1 (h.2 D hD).2).1
theorem Marks.cons (h : Marks B Ds W) {D : Nat} (h0 : ∀ k ∈ Ds, k < D) (hB : B ≤ D) (hd : W.heap[D]? = some (.deferred (some []))) : Marks B (D :: Ds) W :=
  ⟨List.nodup_cons.2 ⟨fun hm => by have := h0 D hm; omega, h.1⟩, fun k hk => by
    rcases List.mem_cons.1 hk with rfl | hk
    · exact ⟨hB, hd⟩
    · exact h.2 k hk⟩
/-- The blocks of the marks are shut; nothing else turns. -/
structure Shut (B : Nat) (W W' : World) : Prop where
  below : Below B W W'
  cells : ∀ (k : Nat) (o : Obj), W.heap[k]? = some o → o.isCells = true → W'.heap[k]? = some o
theorem Shut.refl (B : Nat) (W : World) : Shut B W W := ⟨Below.refl _ _, fun _ _ h _ => h⟩
theorem leaves_marks {F : Fence} {n : Nat} {P : Program} {fn : Func} {tmps : Array Value} {R : Ending → World → Prop} : ∀ (Ds : List Nat) (W : World), Marks B Ds W →
    (∀ W', Shut B W W' → ∃ v, (results fn tmps).run P W' = .ok v W' ∧ R (.returned v) W') → LeavesInM F n P fn tmps R (Ds.map mk1) .returning W := by
  intro Ds
  induction Ds with
  | nil => exact fun W _ h => h W (Shut.refl B W)
  | cons D Ds ih =>
    intro W hM h
    have hD := hM.2 D (by simp)
    have hlt := hM.lt (D := D) (by simp)
    have hn := List.nodup_cons.1 hM.1
    refine ⟨by simp, .inl ⟨D, _, rfl, run_takeDeferred hD.2, ih _ ⟨hn.2, fun k hk => ⟨(hM.2 k (by simp [hk])).1, ?_⟩⟩ ?_⟩⟩
    · have hkd : k ≠ D := fun e => hn.1 (by rw [← e]; exact hk)
      exact (World.putObj_heap_other hkd).trans (hM.2 k (by simp [hk])).2
    · intro W' hS
      refine h W' ⟨((Below.refl B W).grown (grownBy_putObj' W D (.deferred none)) (by omega) (fun k e => by cases e; exact hD.1)).trans hS.below, fun k o ho hc => hS.cells k o ?_ hc⟩
      refine (World.putObj_heap_other (fun e => ?_)).trans ho
      rw [e, hD.2] at ho
      cases ho
      cases hc
end
end Go.Proofs.YteeclfejgpgooaaDoor
/- More of ranges over a function: what a block that is put anew leaves, marks, cuts. No condition. -/
namespace Go.Proofs.YteeclfejgpgooaaDoor
set_option linter.unusedVariables false
set_option linter.unusedSimpArgs false
set_option linter.constructorNameAsVariable false
open Go.RowKit

section
variable {B : Nat} {W W' : World}
theorem Puts.keep {k : Nat} {o : Obj} (h : Puts B W W') (hk : W.heap[k]? = some o) (hc : o.isCells = true) : W'.heap[k]? = some o := by
  obtain ⟨l, o1, o', -, hl, ho, rfl⟩ := h
  refine (World.putObj_heap_other fun e => ?_).trans hk
  rw [e, hl] at hk
  injection hk with hk
  rw [hk, hc] at ho
  cases ho
theorem Puts.blk {g : Nat} {t : TypeId} {cs : Array Value} (h : Puts B W W') (hb : Blk W g t cs) : Blk W' g t cs := h.keep hb rfl
theorem Puts.fr {S : Nat → Prop} (h : Puts B W W') (hS : ∀ j, B ≤ j → S j) : Fr S W W' := by
  obtain ⟨l, o1, o', hB, hl, ho, rfl⟩ := h
  exact ⟨rfl, rfl, rfl, by simp, fun k _ hk => World.putObj_heap_other (fun e => hk (e ▸ hS _ hB))⟩
theorem Puts.own {base e size n : Nat} {v : Value} {xs : List Value} (h : Puts B W W') (ho : W.ownsRow base e size v n xs) : W'.ownsRow base e size v n xs := by
  refine ⟨ho.1, ?_⟩
  rcases ho.2 with h2 | ⟨g, cap, cur, rfl, hb, hh, rest⟩
  · exact .inl h2
  · exact .inr ⟨g, cap, cur, rfl, hb, h.keep hh rfl, rest⟩
theorem Marks.fr {B : Nat} {Ds : List Nat} {S : Nat → Prop} (h : Marks B Ds W) (hF : Fr S W W') (hS : ∀ D, S D → ¬ W.heap[D]? = some (.deferred (some []))) : Marks B Ds W' :=
  ⟨h.1, fun D hD => ⟨(h.2 D hD).1, (hF.block D (h.lt hD) (fun hs => hS D hs (h.2 D hD).2)).trans (h.2 D hD).2⟩⟩
theorem Marks.new {B : Nat} {Ds : List Nat} (h : Marks B Ds W) (hN : New W W') : Marks B Ds W' := h.fr (S := NoB) (hN.toFr _) (fun _ x => x.elim)
theorem Marks.keep {B : Nat} {Ds : List Nat} {S : Nat → Prop} (h : Marks B Ds W) (hF : Fr S W W') (hS : ∀ j, S j → W.heap.size ≤ j) : Marks B Ds W' :=
  ⟨h.1, fun D hD => ⟨(h.2 D hD).1, (hF.block D (h.lt hD) (fun hs => by have := hS D hs; have := h.lt hD; omega)).trans (h.2 D hD).2⟩⟩
end
theorem not_def_blk {W : World} {k t : Nat} {cs : Array Value} (h : Blk W k t cs) : ¬ W.heap[k]? = some (.deferred (some [])) := by
  intro e
  unfold Blk at h
  rw [h] at e
  cases e
theorem wp_only {P : Program} {c : Code} {K : Act → World → Prop} {Q0 : Exit → Act → World → Prop} {a : Act} {w : World} (h : c.wp P (Exit.then K fun _ _ _ => False) a w) : c.wp P (Exit.then K Q0) a w :=
  wp_mono h fun e a' w' hq => by
    cases e <;> first | exact hq | exact hq.elim
theorem wp_sw {P : Program} {c : Code} {Q : Exit → Act → World → Prop} {a : Act} {w : World} (R : Act → World → Prop) (h1 : ∀ a' w', R a' w' → Q .normal a' w')
    (h2 : ∀ K' : Act → World → Prop, (∀ a' w', R a' w' → K' a' w') → c.wp P (Exit.then K' fun _ _ _ => False) a w) : c.wp P Q a w :=
  wp_mono (h2 (fun a w => Q .normal a w) h1) fun e a' w' hq => by
    cases e <;> first | exact hq | exact hq.elim
end Go.Proofs.YteeclfejgpgooaaDoor
