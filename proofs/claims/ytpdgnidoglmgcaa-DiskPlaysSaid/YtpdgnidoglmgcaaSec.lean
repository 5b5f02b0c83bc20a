/- Arrays of bytes as whole values: stored, read, held against each other. No condition. -/
import Derived.Test.YtpdgnidoglmgcaaBytes
import Derived.Deep.WholeRow
import Derived.Deep.MidRow
import Derived.Stop.BytesEq
namespace Go.Proofs.Ytpdgnidoglmgcaa
open Go.RowKit

/-- The cells of an array of bytes. -/
def secA (s : List Int) : Array Value := (u8s s).toArray
theorem secA_size (s : List Int) : (secA s).size = s.length := by simp [secA, u8s_len]
theorem secA_one (s : List Int) : (secA s).all (·.oneCell') = true := all_oneCell_toArray (u8s_one s)
theorem secA_list (s : List Int) : (secA s).toList = u8s s := by simp [secA]
theorem u8s_inj {s t : List Int} (h : u8s s = u8s t) : s = t := by
  unfold u8s at h
  induction s generalizing t with
  | nil => cases t with
    | nil => rfl
    | cons y t => simp at h
  | cons x s ih => cases t with
    | nil => simp at h
    | cons y t =>
      simp only [List.map_cons, List.cons.injEq, Value.int.injEq, true_and] at h
      rw [h.1, ih h.2]
theorem secA_inj {s t : List Int} (h : secA s = secA t) : s = t := by
  unfold secA at h
  exact u8s_inj (by simpa using h)

/-- A byte of a list, as itself. -/
def at_ (s : List Int) (i : Nat) : Int := s.getD i 0
theorem secA_get {s : List Int} {i : Nat} (h : i < s.length) : (secA s)[i]? = some (.int .u8 (at_ s i)) := by
  simp [secA, u8s, at_, h]
theorem secA_lit {s : List Int} {n : Nat} (h : s.length = n) : ((List.range n).map fun i => Value.int .u8 (at_ s i)).toArray = secA s := by
  apply Array.ext_getElem?
  intro i
  by_cases hi : i < n
  · rw [secA_get (by omega)]
    simp [hi]
  · rw [Array.getElem?_eq_none (by simp; omega), Array.getElem?_eq_none (by rw [secA_size]; omega)]
section
variable {P : Program} {w : World}
open Extern.Stop (cell)
theorem secA_cell {s : List Int} (hs : Byt s) : ((s.map fun x => UInt8.ofNat x.toNat).map cell).toArray = secA s := by
  unfold secA u8s
  rw [List.map_map]
  congr 1
  apply List.map_congr_left
  intro x hx
  obtain ⟨h0, h1⟩ := hs x hx
  simp only [Function.comp, cell]
  congr 1
  rw [UInt8.toNat_ofNat', Nat.mod_eq_of_lt (by omega)]
  simp only [Int.ofNat_eq_natCast]
  omega
theorem byt_inj {s t : List Int} (hs : Byt s) (ht : Byt t) : ((s.map fun x => UInt8.ofNat x.toNat) == (t.map fun x => UInt8.ofNat x.toNat)) = decide (s = t) := by
  rw [Bool.eq_iff_iff, beq_iff_eq, decide_eq_true_iff]
  constructor
  · intro h
    have := congrArg (fun l => (List.map cell l).toArray) h
    simp only [secA_cell hs, secA_cell ht] at this
    exact secA_inj this
  · rintro rfl; rfl
theorem run_equalIn_sec (d : Nat) {T e : TypeId} {n : Nat} (ht : P.underlying T = some (.array n e)) (he : P.underlying e = some (.int .u8)) (hsz : ∀ w, (sizeOf e).run P w = .ok 1 w) {s t : List Int} (hs : s.length = n) (h2 : t.length = n) (bs : Byt s) (bt : Byt t) (w : World) :
    (Op.equalIn (d + 2) T (.agg (secA s)) (.agg (secA t))).run P w = .ok (decide (s = t)) w := by
  have := run_equalIn_bytes (P := P) w d T e n ht he hsz (s.map fun x => UInt8.ofNat x.toNat) (t.map fun x => UInt8.ofNat x.toNat) (by simpa using hs) (by simpa using h2)
  rw [secA_cell bs, secA_cell bt, byt_inj bs bt] at this
  exact this
theorem run_eql_sec {T e : TypeId} {n : Nat} (ht : P.underlying T = some (.array n e)) (he : P.underlying e = some (.int .u8)) (hsz : ∀ w, (sizeOf e).run P w = .ok 1 w) {s t : List Int} (hs : s.length = n) (h2 : t.length = n) (bs : Byt s) (bt : Byt t) (w : World) :
    (binOp .eql T (.agg (secA s)) (.agg (secA t))).run P w = .ok (.bool (decide (s = t))) w := by
  rw [run_eql_struct, run_equalIn_sec 9998 ht he hsz hs h2 bs bt w]
  rfl
theorem run_neq_sec {T e : TypeId} {n : Nat} (ht : P.underlying T = some (.array n e)) (he : P.underlying e = some (.int .u8)) (hsz : ∀ w, (sizeOf e).run P w = .ok 1 w) {s t : List Int} (hs : s.length = n) (h2 : t.length = n) (bs : Byt s) (bt : Byt t) (w : World) :
    (binOp .neq T (.agg (secA s)) (.agg (secA t))).run P w = .ok (.bool (!decide (s = t))) w := by
  rw [run_neq_struct, run_equalIn_sec 9998 ht he hsz hs h2 bs bt w]
  rfl

/-- A whole array out of its block. -/
theorem run_loadAt_blk {T e : TypeId} {n g : Nat} {s : List Int} (ht : P.underlying T = some (.array n e)) (hi : (P.info? T).map (·.size) = some n) (hb : Blk w g T (secA s)) (hs : s.length = n) :
    (Instr.loadAt T (.pointer (some ⟨g, 0, none⟩))).run P w = .ok (.agg (secA s)) w := by
  simp only [Instr.loadAt, Instr.sureAddr, Sem.run_bind, Sem.run_pure, Result.andThen]
  exact run_loadVar_row w g T T (secA s) (0, 0) _ hb ht rfl (by rw [hi, secA_size, hs])
theorem run_loadCells_blk {T : TypeId} {n g : Nat} {s : List Int} (hb : Blk w g T (secA s)) (hs : s.length = n) : (loadCellsFrom ⟨g, 0, none⟩ 0 n #[]).run P w = .ok (secA s) w := by
  have := run_loadCells_list (P := P) w ⟨g, 0, none⟩ (secA s).toList (fun j v hv => by
    have hadd : (⟨g, 0, none⟩ : Addr).add j = ⟨g, j, none⟩ := add_own g j
    rw [hadd, hb.cell j]
    simpa using hv)
  have hl : (secA s).size = n := by rw [secA_size, hs]
  simpa [loadCells, hl] using this
theorem Blk.range {T : TypeId} {g : Nat} {s : List Int} (hb : Blk w g T (secA s)) : w.rangeAt g 0 (u8s s) := fun j v hv => by
  rw [Nat.zero_add, hb.cell j]
  simpa [secA] using hv
theorem Blk.byte {T : TypeId} {g n : Nat} {s : List Int} (hb : Blk w g T (secA s)) (h : s.length = n) : ∀ i, i < n → w.cell? ⟨g, i, none⟩ = some (.int .u8 (at_ s i)) := fun i hi => by rw [hb.cell i, secA_get (by omega)]
theorem results_sec2 {fn : Func} {p q : Tmp} {ty e : TypeId} {n g : Nat} {s : List Int} (h : fn.results = #[.cell p ty, .tmp q]) (tmps : Array Value) (w : World) (hp : tmps.getD p undef = .pointer (some ⟨g, 0, none⟩)) (hb : Blk w g ty (secA s))
    (hu : P.underlying ty = some (.array n e)) (hi : (P.info? ty).map (·.size) = some n) (hs : s.length = n) : (results fn tmps).run P w = .ok (.tuple #[.agg (secA s), tmps.getD q undef]) w := by
  have hp' : tmps[p]?.getD undef = .pointer (some ⟨g, 0, none⟩) := by simpa using hp
  simp [results, h, hp', asAddr, run_loadVar_row w g ty ty (secA s) (0, 0) _ hb hu rfl (by rw [hi, secA_size, hs])]
section
variable {ops : Array Oper} {rest : List Oper} {o o2 : Oper} {a : Act} {Q : Exit → Act → World → Prop}
/-- A guard for an arm: is this the next operation? -/
theorem atOp (o : Oper) (h : wpList P ops Q (o :: rest) a w) : wpList P ops Q (o :: rest) a w := h
/-- An operation that runs, guarded or not. -/
theorem wpList_want (hw : Region.wanted o (yielded ops a.tmps) = true) (h : ∀ K : Act → World → Prop, (∀ a w, wpList P ops Q rest a w → K a w) → o.wp P a w K Q) : wpList P ops Q (o :: rest) a w :=
  wpList_step fun K hK => by rw [if_pos hw]; exact h K hK
theorem wpList_load_blk {T e : TypeId} {n g : Nat} {s : List Int} (hw : Region.wanted o (yielded ops a.tmps) = true) (x : Operand) (ho : o.op = .load T x) (ht : P.underlying T = some (.array n e)) (hi : (P.info? T).map (·.size) = some n) (hx : a.eval x = .pointer (some ⟨g, 0, none⟩)) (hb : Blk w g T (secA s)) (hs : s.length = n)
    (h : wpList P ops Q rest (a.put o.dst (.agg (secA s))) w) : wpList P ops Q (o :: rest) a w :=
  wpList_want hw fun _ hK => wp_load_row T x ho g hx T (secA s) (0, 0) _ hb ht rfl (by rw [hi, secA_size, hs]) (hK _ _ h)
theorem setRow_blk {g : Nat} {T : TypeId} {cs cs' : Array Value} (hb : Blk w g T cs) : Blk (w.setRow g cs') g T cs' ∧ Fr (fun k => k = g) w (w.setRow g cs') :=
  ⟨setRow_heap w g cs cs' T (0, 0) hb, ⟨rfl, rfl, rfl, by simp, fun k _ hk => setRow_other w g k cs' hk⟩⟩
theorem wpList_store_blk {T : TypeId} {n g : Nat} {s s0 : List Int} (hw : Region.wanted o (yielded ops a.tmps) = true) (x y : Operand) (ho : o.op = .store T x y) (hi : (P.info? T).map (·.size) = some n) (hx : a.eval x = .pointer (some ⟨g, 0, none⟩)) (hy : a.eval y = .agg (secA s)) (hb : Blk w g T (secA s0)) (h0 : s0.length = n) (hs : s.length = n)
    (h : ∀ w', Blk w' g T (secA s) → Fr (fun k => k = g) w w' → wpList P ops Q rest (a.put o.dst undef) w') : wpList P ops Q (o :: rest) a w :=
  wpList_want hw fun K hK => by
    obtain ⟨h1, h2⟩ := setRow_blk (cs' := secA s) hb
    unfold Oper.wp execOp
    simp only [ho, hx, hy, Instr.storeAt, Instr.sureAddr, Sem.run_bind, Sem.run_pure, Result.andThen_ok, run_storeVar_row w g T T (secA s0) (secA s) hb (by rw [hi, secA_size, hs]) (by rw [secA_size, secA_size, h0, hs]) (secA_one s)]
    exact hK _ _ (h _ h1 h2)
/-- A whole block, read and written. -/
theorem wpList_load_any {T : TypeId} {d : TypeDesc} {g : Nat} {cs : Array Value} (hw : Region.wanted o (yielded ops a.tmps) = true) (x : Operand) (ho : o.op = .load T x) (hu : P.underlying T = some d) (hd : d.isRow = true) (hi : (P.info? T).map (·.size) = some cs.size) (hx : a.eval x = .pointer (some ⟨g, 0, none⟩)) (hb : Blk w g T cs)
    (h : wpList P ops Q rest (a.put o.dst (.agg cs)) w) : wpList P ops Q (o :: rest) a w :=
  wpList_want hw fun _ hK => wp_load_row T x ho g hx T cs (0, 0) _ hb hu (by cases d <;> first | rfl | (simp [TypeDesc.isRow] at hd)) hi (hK _ _ h)
theorem wpList_store_any {T : TypeId} {g : Nat} {cs0 cs : Array Value} (hw : Region.wanted o (yielded ops a.tmps) = true) (x y : Operand) (ho : o.op = .store T x y) (hi : (P.info? T).map (·.size) = some cs.size) (hx : a.eval x = .pointer (some ⟨g, 0, none⟩)) (hy : a.eval y = .agg cs) (hb : Blk w g T cs0) (h0 : cs0.size = cs.size) (h1 : cs.all (·.oneCell') = true)
    (h : ∀ w', Blk w' g T cs → Fr (fun k => k = g) w w' → wpList P ops Q rest (a.put o.dst undef) w') : wpList P ops Q (o :: rest) a w :=
  wpList_want hw fun K hK => by
    obtain ⟨r1, r2⟩ := setRow_blk (cs' := cs) hb
    unfold Oper.wp execOp
    simp only [ho, hx, hy, Instr.storeAt, Instr.sureAddr, Sem.run_bind, Sem.run_pure, Result.andThen_ok, run_storeVar_row w g T T cs0 cs hb hi h0 h1]
    exact hK _ _ (h _ r1 r2)
/-- A variable that is made; one that was made last is filled. -/
theorem wpList_alloc_sec {T : TypeId} {n : Nat} {z : List Int} (hg : o.guard = none) (ho : o.op = .alloc T) (hZ : (P.info? T).map (fun i => (i.zero, i.size)) = some (some (.agg (secA z)), n))
    (h : wpList P ops Q rest (a.put o.dst (.pointer (some ⟨w.heap.size, 0, none⟩))) (w.alloc (.cells (secA z) T))) : wpList P ops Q (o :: rest) a w := by
  obtain ⟨z1, z2⟩ := zero_of_info hZ
  refine wpList_plain hg fun K' hK' => ?_
  have hal : (Instr.alloc T true (.tuple #[])).run P w = .ok (.pointer (some ⟨w.heap.size, 0, none⟩)) (w.alloc (.cells (secA z) T)) := by
    unfold Instr.alloc
    simp [Sem.run_bind, z1 w, newVar, newRow, go_sem, Result.andThen]
  unfold Oper.wp
  simp only [execOp, ho, hal, Result.andThen_ok, Sem.run_bind, Sem.run_pure]
  exact hK' _ _ h
theorem wpList_store_last {T : TypeId} {n : Nat} {s z : List Int} {w1 : World} (hg : o.guard = none) (x y : Operand) (ho : o.op = .store T x y) (hi : (P.info? T).map (·.size) = some n) (hz : z.length = n) (hs : s.length = n)
    (hx : a.eval x = .pointer (some ⟨w1.heap.size, 0, none⟩)) (hy : a.eval y = .agg (secA s))
    (h : wpList P ops Q rest (a.put o.dst undef) (w1.alloc (.cells (secA s) T))) : wpList P ops Q (o :: rest) a (w1.alloc (.cells (secA z) T)) := by
  refine wpList_plain hg fun K2 hK2 => ?_
  unfold Oper.wp
  have hst := run_storeAt_new (P := P) w1 T (secA z) (secA s) (by rw [hi, secA_size, hs]) (by rw [secA_size, secA_size, hz, hs]) (secA_one s)
  simp only [execOp, ho, hx, hy, hst, Result.andThen_ok, Sem.run_bind, Sem.run_pure]
  exact hK2 _ _ h
/-- A variable of many cells that is made and filled at once. -/
theorem wpList_newrow {T : TypeId} {n : Nat} {C : Array Value} {Z : Value} (hg1 : o.guard = none) (hg2 : o2.guard = none) (ho : o.op = .alloc T) (x y : Operand) (ho2 : o2.op = .store T x y) (hZ : (P.info? T).map (fun i => (i.zero, i.size)) = some (some Z, n)) (hz : Z.cells.size = n)
    (hx : (a.put o.dst (.pointer (some ⟨w.heap.size, 0, none⟩))).eval x = .pointer (some ⟨w.heap.size, 0, none⟩)) (hy : (a.put o.dst (.pointer (some ⟨w.heap.size, 0, none⟩))).eval y = .agg C) (hs : C.size = n) (h1 : C.all (·.oneCell') = true)
    (h : wpList P ops Q rest ((a.put o.dst (.pointer (some ⟨w.heap.size, 0, none⟩))).put o2.dst undef) (w.alloc (.cells C T))) : wpList P ops Q (o :: o2 :: rest) a w := by
  obtain ⟨z1, z2⟩ := zero_of_info hZ
  refine wpList_plain hg1 fun K' hK' => ?_
  have hal : (Instr.alloc T true (.tuple #[])).run P w = .ok (.pointer (some ⟨w.heap.size, 0, none⟩)) (w.alloc (.cells Z.cells T)) := by
    unfold Instr.alloc
    simp [Sem.run_bind, z1 w, newVar, newRow, go_sem, Result.andThen]
  unfold Oper.wp
  simp only [execOp, ho, hal, Result.andThen_ok, Sem.run_bind, Sem.run_pure]
  refine hK' _ _ (wpList_plain hg2 fun K2 hK2 => ?_)
  unfold Oper.wp
  have hst := run_storeAt_new (P := P) w T Z.cells C (by rw [z2, hs]) (by rw [hz, hs]) h1
  simp only [execOp, ho2, hx, hy, hst, Result.andThen_ok, Sem.run_bind, Sem.run_pure]
  exact hK2 _ _ h
/-- A row of many cells, out of wherever it lies. -/
theorem wpList_load_range {T : TypeId} {d : TypeDesc} {b off : Nat} {cs : List Value} (hw : Region.wanted o (yielded ops a.tmps) = true) (x : Operand) (ho : o.op = .load T x) (hx : a.eval x = .pointer (some ⟨b, off, none⟩)) (hc : w.rangeAt b off cs) (hu : P.underlying T = some d) (hd : d.isRow = true) (hi : (P.info? T).map (·.size) = some cs.length)
    (h : wpList P ops Q rest (a.put o.dst (.agg cs.toArray)) w) : wpList P ops Q (o :: rest) a w :=
  wpList_want hw fun _ hK => wp_load_mid T x ho b off hx cs d hc hu hd hi (hK _ _ h)
/-- A variable that is made and filled at once. -/
theorem wpList_newvar {T : TypeId} {n : Nat} {s : List Int} {Z : Value} (hg1 : o.guard = none) (hg2 : o2.guard = none) (ho : o.op = .alloc T) (x y : Operand) (ho2 : o2.op = .store T x y) (hZ : (P.info? T).map (fun i => (i.zero, i.size)) = some (some Z, n)) (hz : Z.cells.size = n)
    (hx : (a.put o.dst (.pointer (some ⟨w.heap.size, 0, none⟩))).eval x = .pointer (some ⟨w.heap.size, 0, none⟩)) (hy : (a.put o.dst (.pointer (some ⟨w.heap.size, 0, none⟩))).eval y = .agg (secA s)) (hs : s.length = n)
    (h : wpList P ops Q rest ((a.put o.dst (.pointer (some ⟨w.heap.size, 0, none⟩))).put o2.dst undef) (w.alloc (.cells (secA s) T))) : wpList P ops Q (o :: o2 :: rest) a w := by
  obtain ⟨z1, z2⟩ := zero_of_info hZ
  refine wpList_plain hg1 fun K' hK' => ?_
  have hal : (Instr.alloc T true (.tuple #[])).run P w = .ok (.pointer (some ⟨w.heap.size, 0, none⟩)) (w.alloc (.cells Z.cells T)) := by
    unfold Instr.alloc
    simp [Sem.run_bind, z1 w, newVar, newRow, go_sem, Result.andThen]
  unfold Oper.wp
  simp only [execOp, ho, hal, Result.andThen_ok, Sem.run_bind, Sem.run_pure]
  refine hK' _ _ (wpList_plain hg2 fun K2 hK2 => ?_)
  unfold Oper.wp
  have hst := run_storeAt_new (P := P) w T Z.cells (secA s) (by rw [z2, secA_size, hs]) (by rw [hz, secA_size, hs]) (secA_one s)
  simp only [execOp, ho2, hx, hy, hst, Result.andThen_ok, Sem.run_bind, Sem.run_pure]
  exact hK2 _ _ h
end
section
variable {ops : Array Oper} {o : Oper} {a : Act} {Q : Exit → Act → World → Prop} {K : Act → World → Prop} {F : Prop}
/-- In a region that draws: a variable is made; a row is stored, read. -/
theorem step_allocn {T : TypeId} {n : Nat} {Z : Value} (hw : Region.wanted o (yielded ops a.tmps) = true) (ho : o.op = .alloc T) (hZ : (P.info? T).map (fun i => (i.zero, i.size)) = some (some Z, n))
    (h : ∀ g w', Blk w' g T Z.cells → New w w' → w.heap.size ≤ g → K (a.put o.dst (.pointer (some ⟨g, 0, none⟩))) w') : if Region.wanted o (yielded ops a.tmps) = true then Oper.wp P o a w K Q else F := by
  rw [if_pos hw]
  obtain ⟨z1, z2⟩ := zero_of_info hZ
  have hal : (Instr.alloc T true (.tuple #[])).run P w = .ok (.pointer (some ⟨w.heap.size, 0, none⟩)) (w.alloc (.cells Z.cells T)) := by
    unfold Instr.alloc
    simp [Sem.run_bind, z1 w, newVar, newRow, go_sem, Result.andThen]
  unfold Oper.wp
  simp only [execOp, ho, hal, Result.andThen_ok, Sem.run_bind, Sem.run_pure]
  exact h _ _ (Blk.new _ _ _) (New.al (New.refl _) _) (Nat.le_refl _)
theorem step_store_any {T : TypeId} {g : Nat} {cs0 cs : Array Value} (hw : Region.wanted o (yielded ops a.tmps) = true) (x y : Operand) (ho : o.op = .store T x y) (hi : (P.info? T).map (·.size) = some cs.size) (hx : a.eval x = .pointer (some ⟨g, 0, none⟩)) (hy : a.eval y = .agg cs) (hb : Blk w g T cs0) (h0 : cs0.size = cs.size) (h1 : cs.all (·.oneCell') = true)
    (h : ∀ w', Blk w' g T cs → Fr (fun k => k = g) w w' → K (a.put o.dst undef) w') : if Region.wanted o (yielded ops a.tmps) = true then Oper.wp P o a w K Q else F := by
  rw [if_pos hw]
  obtain ⟨r1, r2⟩ := setRow_blk (cs' := cs) hb
  unfold Oper.wp execOp
  simp only [ho, hx, hy, Instr.storeAt, Instr.sureAddr, Sem.run_bind, Sem.run_pure, Result.andThen_ok, run_storeVar_row w g T T cs0 cs hb hi h0 h1]
  exact h _ r1 r2
end
end
end Go.Proofs.Ytpdgnidoglmgcaa
