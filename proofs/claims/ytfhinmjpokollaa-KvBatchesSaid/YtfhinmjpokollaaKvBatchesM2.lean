/- Texts of one proof, one behind the other: Whole, Bs, Held, Open, Row. No condition but each one's own. -/
import Derived.Test.YtfhinmjpokollaaKvBatchesM1
import Derived.Deep.WholeRow
import Derived.Deep.MidRow
import Derived.Great.BuildSlice
import Derived.OrdersHeld
import Derived.Deep.Slices
import Derived.Deep.Fields
import Derived.OpenShut
/- A whole block, read and written as one value. No condition. -/
namespace Go.Proofs.Ytfhinmjpokollaa
set_option linter.unusedVariables false
set_option linter.unusedSimpArgs false
set_option linter.constructorNameAsVariable false
open Go.RowKit
section
variable {P : Program} {w : World} {ops : Array Oper} {rest : List Oper} {o o2 : Oper} {a : Act} {Q : Exit → Act → World → Prop}
/-- A guard for an arm: is this the next operation? -/
theorem atOp (o : Oper) (h : wpList P ops Q (o :: rest) a w) : wpList P ops Q (o :: rest) a w := h
/-- An operation that runs, guarded or not. -/
theorem wpList_want (hw : Region.wanted o (yielded ops a.tmps) = true) (h : ∀ K : Act → World → Prop, (∀ a w, wpList P ops Q rest a w → K a w) → o.wp P a w K Q) : wpList P ops Q (o :: rest) a w :=
  wpList_step fun K hK => by rw [if_pos hw]; exact h K hK
theorem setRow_blk {g : Nat} {T : TypeId} {cs cs' : Array Value} (hb : Blk w g T cs) : Blk (w.setRow g cs') g T cs' ∧ Fr (fun k => k = g) w (w.setRow g cs') :=
  ⟨setRow_heap w g cs cs' T (0, 0) hb, ⟨rfl, rfl, rfl, by simp, fun k _ hk => setRow_other w g k cs' hk⟩⟩
/-- A whole block, read and written. -/
theorem wpList_load_any {T : TypeId} {d : TypeDesc} {g : Nat} {cs : Array Value} (hw : Region.wanted o (yielded ops a.tmps) = true) (x : Operand) (ho : o.op = .load T x) (hu : P.underlying T = some d) (hd : d.isRow = true) (hi : (P.info? T).map (·.size) = some cs.size) (hx : a.eval x = .pointer (some ⟨g, 0, none⟩)) (hb : Blk w g T cs)
    (h : wpList P ops Q rest (a.put o.dst (.agg cs)) w) : wpList P ops Q (o :: rest) a w :=
  wpList_want hw fun _ hK => wp_load_row T x ho g hx T cs (0, 0) _ hb hu (by cases d <;> first | rfl | (simp [TypeDesc.isRow] at hd)) hi (hK _ _ h)
theorem wpList_store_any {T : TypeId} {g : Nat} {cs0 cs : Array Value} (hw : Region.wanted o (yielded ops a.tmps) = true) (x y : Operand) (ho : o.op = .store T x y) (hi : (P.info? T).map (·.size) = some cs.size) (hx : a.eval x = .pointer (some ⟨g, 0, none⟩)) (hy : a.eval y = .agg cs) (hb : Blk w g T cs0) (h0 : cs0.size = cs.size) (h1 : cs.all (·.oneCell') = true)
    (h : ∀ w', Blk w' g T cs → Fr (fun k => k = g) w w' → wpList P ops Q rest (a.put o.dst undef) w') : wpList P ops Q (o :: rest) a w :=
  wpList_want hw fun K hK => by
    obtain ⟨r1, r2⟩ := setRow_blk (cs' := cs) hb
    unfold Oper.wp execOp
    simp only [ho, hx, hy, Instr.storeAt, Instr.sureAddr, Sem.run_bind, Sem.run_pure, Result.andThen_ok, run_storeVar_row w g T T cs0 cs hb hi h0 h1]
    exact hK _ _ (h _ r1 r2)
end
end Go.Proofs.Ytfhinmjpokollaa
/- A slice of one element, made for an append: one law, so that nothing of it is reckoned by the kernel. No condition. -/
namespace Go.Proofs.Ytfhinmjpokollaa
set_option linter.unusedVariables false
set_option linter.unusedSimpArgs false
set_option linter.constructorNameAsVariable false
open Go.RowKit

theorem run_bs1 {P : Program} {t e : TypeId} {size bytes : Nat} (E : ElemOf P t e size bytes) (hs : size ≤ 16777216) (v : Value) (hv : v.cells.size = size) (w : World) :
    (Instr.buildSlice t 1 #[(0, v)]).run P w = .ok (.slice (some ⟨w.heap.size, 0, none⟩) 1 1) (w.alloc (.cells v.cells e)) := by
  obtain ⟨i, z, hi, hz, hsize, -, hzs⟩ := E.info
  have hp := E.pos
  refine run_buildSlice w t e 1 #[(0, v)] v.cells i z E.ht hi hz (by rw [hsize]; omega) (by rw [hsize]; omega) ?_
  have h := Great.fill_whole (s := i.size) (by omega) [v] ((Array.range (1 * i.size)).map (z.cells[· % z.cells.size]!)) (by intro u hu; obtain rfl := List.mem_singleton.1 hu; omega) (by simp)
  simpa using h

theorem wpList_bs1 {P : Program} {t e : TypeId} {size bytes : Nat} (E : ElemOf P t e size bytes) (hs : size ≤ 16777216) {ops : Array Oper} {rest : List Oper} {o : Oper} {a : Act} {w : World} {Q : Exit → Act → World → Prop} (hg : o.guard = none) (x : Operand)
    (ho : o.op = .buildSlice t 1 #[(0, x)]) (cs : Array Value) (hx : a.eval x = .agg cs) (hc : cs.size = size)
    (h : wpList P ops Q rest (a.put o.dst (.slice (some ⟨w.heap.size, 0, none⟩) 1 1)) (w.alloc (.cells cs e))) : wpList P ops Q (o :: rest) a w :=
  wpList_plain hg fun _ hK => by
    unfold Oper.wp execOp
    simp only [ho, Sem.run_bind, List.map_toArray, List.map_cons, List.map_nil, hx, run_bs1 E hs (.agg cs) hc w, Result.andThen_ok]
    exact hK _ _ h

theorem atOpS {P : Program} {ops : Array Oper} {Q : Exit → Act → World → Prop} {rest : List Oper} {a : Act} {w : World} (o : Oper) (h : wpList P ops Q (o :: rest) a w) : wpList P ops Q (o :: rest) a w := h
end Go.Proofs.Ytfhinmjpokollaa
/- Regions that draw their order, walked by scripts of one's own (paths.py, mode H): the steps of the kit's laws on what is held, and a made slice as a step. No condition. -/
namespace Go.Proofs.Ytfhinmjpokollaa
set_option linter.unusedVariables false
set_option linter.unusedSimpArgs false
set_option linter.constructorNameAsVariable false
open Go.RowKit

section
variable {P : Program} {md : Region.Mode} {ops : Array Oper} {Q : Exit → Act → World → Prop} {S : World → Prop}
def AllH (P : Program) (md : Region.Mode) (ops : Array Oper) (Q : Exit → Act → World → Prop) (S : World → Prop) (fuel : Nat) (listed : Array Bool) (a : Act) (w : World) (rs : List Nat) : Prop :=
  ∀ i ∈ rs, wpOp P ops Q i (fun a' w' => S w' ∧ wpAnyH P md ops Q S fuel (listed.setIfInBounds i true) a' w') a w
theorem AllH.nil {fuel : Nat} {listed : Array Bool} {a : Act} {w : World} : AllH P md ops Q S fuel listed a w [] := fun i hi => by cases hi
theorem AllH.cons {fuel : Nat} {listed : Array Bool} {a : Act} {w : World} {i : Nat} {o : Oper} {rs : List Nat} (ho : ops[i]? = some o)
    (h : ∀ K' : Act → World → Prop, Hid (∀ a w, S w → wpAnyH P md ops Q S fuel (listed.setIfInBounds i true) a w → K' a w) → if Region.wanted o (yielded ops a.tmps) = true then Oper.wp P o a w K' Q else K' (a.put o.dst undef) w)
    (hs : AllH P md ops Q S fuel listed a w rs) : AllH P md ops Q S fuel listed a w (i :: rs) := fun j hj => by
  rcases List.mem_cons.1 hj with rfl | hj
  · have := h (fun a' w' => S w' ∧ wpAnyH P md ops Q S fuel (listed.setIfInBounds j true) a' w') (Lib.hid fun a' w' h1 h2 => ⟨h1, h2⟩)
    unfold wpOp
    rw [ho]
    simp only
    split
    · next hw => rw [if_pos hw] at this; exact .inl this
    · next hw => rw [if_neg hw] at this; exact this
  · exact hs j hj
theorem wpAnyH_ready {rs : List Nat} {fuel : Nat} {listed : Array Bool} {a : Act} {w : World} (hr : Region.ready md ops listed = rs) (hne : rs ≠ []) (h : AllH P md ops Q S fuel listed a w rs) : wpAnyH P md ops Q S (fuel + 1) listed a w :=
  wpAnyH_all hr hne h
theorem wp_region_H {id : Nat} {a : Act} {w : World} (S : World → Prop) (hm : P.follows .mixedOrders = true)
    (h : wpAnyH P .any ops Q S ops.size (Array.replicate ops.size false) a w.drew) : (Code.region id ops true).wp P Q a w :=
  wp_region_held hm h
end
section
variable {P : Program} {ops : Array Oper} {o : Oper} {a : Act} {w : World} {Q : Exit → Act → World → Prop} {K : Act → World → Prop} {F : Prop}
theorem step_bs1 {t e : TypeId} {size bytes : Nat} (E : ElemOf P t e size bytes) (hs : size ≤ 16777216) (hw : Region.wanted o (yielded ops a.tmps) = true) (x : Operand)
    (ho : o.op = .buildSlice t 1 #[(0, x)]) (cs : Array Value) (hx : a.eval x = .agg cs) (hc : cs.size = size)
    (h : ∀ g w', Blk w' g e cs → New w w' → w.heap.size ≤ g → K (a.put o.dst (.slice (some ⟨g, 0, none⟩) 1 1)) w') : if Region.wanted o (yielded ops a.tmps) = true then Oper.wp P o a w K Q else F := by
  rw [if_pos hw]
  unfold Oper.wp execOp
  simp only [ho, Sem.run_bind, List.map_toArray, List.map_cons, List.map_nil, hx, run_bs1 E hs (.agg cs) hc w, Result.andThen_ok]
  exact h _ _ (Blk.new _ _ _) (New.al (New.refl _) _) (Nat.le_refl _)
theorem run_bs0 {P : Program} {t e : TypeId} {size bytes : Nat} (E : ElemOf P t e size bytes) (w : World) :
    (Instr.buildSlice t 0 #[]).run P w = .ok (.slice (some ⟨w.heap.size, 0, none⟩) 0 0) (w.alloc (.cells #[] e)) := by
  obtain ⟨i, z, hi, hz, hsize, -, hzs⟩ := E.info
  have h0 : ∀ f : Nat → Value, Array.map f (Array.range 0) = #[] := fun f => Array.eq_empty_of_size_eq_zero (by simp)
  simp [Instr.buildSlice, run_underlying E.ht, sizeOf, typeInfo, hi, newRow, Instr.fill, h0]
theorem step_bs0 {t e : TypeId} {size bytes : Nat} (E : ElemOf P t e size bytes) (hw : Region.wanted o (yielded ops a.tmps) = true)
    (ho : o.op = .buildSlice t 0 #[])
    (h : ∀ g w', Blk w' g e #[] → New w w' → w.heap.size ≤ g → K (a.put o.dst (.slice (some ⟨g, 0, none⟩) 0 0)) w') : if Region.wanted o (yielded ops a.tmps) = true then Oper.wp P o a w K Q else F := by
  rw [if_pos hw]
  unfold Oper.wp execOp
  simp only [ho, Sem.run_bind, List.map_toArray, List.map_nil, run_bs0 E w, Result.andThen_ok]
  exact h _ _ (Blk.new _ _ _) (New.al (New.refl _) _) (Nat.le_refl _)
end
end Go.Proofs.Ytfhinmjpokollaa
/- Arguments opened: a slice of elements of whatever type comes as a list of them, its cells laid end to end. No condition. -/
namespace Go.Proofs.Ytfhinmjpokollaa
set_option linter.unusedVariables false
set_option linter.unusedSimpArgs false
set_option linter.constructorNameAsVariable false
open Go.RowKit Go.ChangeShapes Go.WideShapes Go.Deep

theorem fm_len {α : Type} (f : α → List Value) (k : Nat) : ∀ L : List α, (∀ x ∈ L, (f x).length = k) → (L.flatMap f).length = L.length * k
  | [], _ => by simp
  | x :: L, h => by
    rw [List.flatMap_cons, List.length_append, h x (by simp), fm_len f k L (fun y hy => h y (by simp [hy])), List.length_cons, Nat.succ_mul]; omega
theorem fm_get {α : Type} (f : α → List Value) (k : Nat) : ∀ (L : List α) (i j : Nat) (hi : i < L.length), (∀ x ∈ L, (f x).length = k) → j < k → (L.flatMap f)[i * k + j]? = (f L[i])[j]?
  | [], i, j, hi, _, _ => by simp at hi
  | x :: L, 0, j, hi, h, hj => by
    rw [List.flatMap_cons, Nat.zero_mul, Nat.zero_add, List.getElem?_append_left (by rw [h x (by simp)]; exact hj)]; rfl
  | x :: L, i + 1, j, hi, h, hj => by
    have hx := h x (by simp)
    rw [List.flatMap_cons, List.getElem?_append_right (by rw [hx, Nat.succ_mul]; omega), hx]
    have : (i + 1) * k + j - k = i * k + j := by rw [Nat.succ_mul]; omega
    rw [this, fm_get f k L i j (by simpa using hi) (fun y hy => h y (by simp [hy])) hj]; rfl
theorem fm_out {α : Type} (f : α → List Value) (k : Nat) (hk : 0 < k) (L : List α) (h : ∀ x ∈ L, (f x).length = k) (q : Nat) (u : Value) (hu : (L.flatMap f)[q]? = some u) : ∃ (i j : Nat) (hi : i < L.length), j < k ∧ q = i * k + j ∧ (f L[i])[j]? = some u := by
  have hl := fm_len f k L h
  have hq : q < L.length * k := by rw [← hl]; exact (List.getElem?_eq_some_iff.1 hu).1
  have hd : q / k < L.length := Nat.div_lt_of_lt_mul (by rwa [Nat.mul_comm] at hq)
  have hm : q % k < k := Nat.mod_lt _ hk
  have he : q = q / k * k + q % k := by rw [Nat.mul_comm]; exact (Nat.div_add_mod q k).symm
  refine ⟨q / k, q % k, hd, hm, he, ?_⟩
  rw [← fm_get f k L (q / k) (q % k) hd h hm, ← he, hu]
theorem list_of {α : Type} {Q : Nat → α → Prop} : ∀ n, (∀ i, i < n → ∃ x, Q i x) → ∃ L : List α, L.length = n ∧ ∀ i (hi : i < L.length), Q i L[i]
  | 0, _ => ⟨[], rfl, fun i hi => by simp at hi⟩
  | n + 1, h => by
    obtain ⟨L, hl, hL⟩ := list_of n fun i hi => h i (by omega)
    obtain ⟨x, hx⟩ := h n (by omega)
    refine ⟨L ++ [x], by simp [hl], fun i hi => ?_⟩
    by_cases hin : i < L.length
    · rw [List.getElem_append_left hin]; exact hL i hin
    · have : i = n := by simp at hi; omega
      subst this
      rw [List.getElem_append_right (by omega)]
      simpa [hl] using hx

section
variable {H : Type} {enc : TypeId × Value → H} {P : Program} {w : World}
theorem open_slk {t e : TypeId} (ht : P.underlying t = some (.slice e)) {α : Type} (f : α → List Value) (k : Nat) (hk : P.cellsOf e = k) (hpos : 0 < k) (Good : α → Prop)
    (hel : ∀ (cs : List Value) (m : Nat) (y : DataW H × List MemPlace), cs.length = k → DataW.trod enc P w 0 (fun _ => true) true m e cs = some y → ∃ x : α, f x = cs ∧ Good x)
    {r : Reach} {b0 : Nat} {v : Value} {d : DataW H} {p : List MemPlace} (hv : Value.okWide P w r b0 t v) (h : DataW.Trod enc P w 0 (fun _ => true) true t v d p) :
    ∃ (A : Option Addr) (n c : Nat) (L : List α), v = .slice A n c ∧ n ≤ c ∧ c ≤ maxLen ∧ L.length = n ∧ Rd (fun b => b < w.heap.size) w k A n (L.flatMap f) ∧ (∀ x ∈ L, Good x) ∧ (∀ x ∈ L, (f x).length = k) := by
  obtain ⟨a0, n0, c0, rfl⟩ := okWide_slice ht hv
  obtain ⟨fuel, hf⟩ := h
  rcases open_slice ht hf with ⟨hcs, _⟩ | ⟨a, len, cap, m, n, D, Pl, hcs, _, hl, hm, hmm, _, hi⟩
  · simp [Value.cells] at hcs
    obtain ⟨rfl, rfl, rfl⟩ := hcs
    exact ⟨none, 0, 0, [], rfl, Nat.le_refl _, Nat.zero_le _, rfl, Rd.nil, by simp, by simp⟩
  · simp [Value.cells] at hcs
    obtain ⟨rfl, rfl, rfl⟩ := hcs
    simp at hmm
    subst hmm
    have key : ∀ i, i < n0 → ∃ x : α, Good x ∧ (f x).length = k ∧ ∀ j, j < k → w.cell? (a.add (i * k + j)) = (f x)[j]? := by
      intro i hin
      obtain ⟨cs', hc, htr⟩ := hi i (by omega)
      rw [hk] at hc
      obtain ⟨_, hcl, hat⟩ := World.cells?_some hc
      obtain ⟨x, hx, hg⟩ := hel cs' n (D i, Pl i) hcl htr
      refine ⟨x, hg, by rw [hx]; exact hcl, fun j hj => ?_⟩
      rw [hx, ← hat j hj, add_add']
    obtain ⟨L, hL, hQ⟩ := list_of n0 key
    have hlen : ∀ x ∈ L, (f x).length = k := fun x hx => by obtain ⟨i, hi, rfl⟩ := List.getElem_of_mem hx; exact (hQ i hi).2.1
    refine ⟨some a, n0, _, L, rfl, hl, hm, hL, ⟨by rw [fm_len f k L hlen, hL], fun hn => ⟨a, rfl, ?_, ?_, ?_⟩⟩, fun x hx => by obtain ⟨i, hi, rfl⟩ := List.getElem_of_mem hx; exact (hQ i hi).1, hlen⟩
    · have h0 := (hQ 0 (by omega)).2.2 0 hpos
      have hs : (f (L[0]'(by omega)))[0]? = some ((f (L[0]'(by omega)))[0]'(by rw [hlen _ (List.getElem_mem _)]; exact hpos)) := List.getElem?_eq_getElem _
      rw [hs] at h0
      have := World.block_lt_of_cell? w _ h0
      rwa [add_block] at this
    · have h0 := (hQ 0 (by omega)).2.2 0 hpos
      have hs : (f (L[0]'(by omega)))[0]? = some ((f (L[0]'(by omega)))[0]'(by rw [hlen _ (List.getElem_mem _)]; exact hpos)) := List.getElem?_eq_getElem _
      rw [hs] at h0
      have := World.block_lt_of_cell? w _ h0
      rwa [add_block] at this
    · intro q u hu
      obtain ⟨i, j, hil, hj, rfl, hu'⟩ := fm_out f k hpos L hlen q u hu
      rw [(hQ i hil).2.2 j hj, hu']

/-- A field of one cell, out of a struct's reading. -/
theorem field_at {ts : TypeId} {fs : Array Field} (hs : P.underlying ts = some (.struct fs)) {sp : Nat → Bool} {base : Nat} {held : Bool} {m : Nat} {cs : List Value} {y : DataW H × List MemPlace} (h : DataW.trod enc P w base sp held m ts cs = some y) {j : Nat} {fd : Field} (hf : fs[j]? = some fd) (hc : P.cellsOf fd.type = 1) (hlt : fd.offset < cs.length) :
    ∃ n z, DataW.trod enc P w base sp held n fd.type [cs[fd.offset]] = some z := by
  obtain ⟨xs, n, _, _, _, hlen, hg⟩ := DataW.trod_struct hs h
  have := hg j fd hf
  rw [hc, List.drop_eq_getElem_cons hlt] at this
  have hj : j < xs.length := by rw [hlen]; exact (Array.getElem?_eq_some_iff.1 hf).1
  rw [List.getElem?_eq_getElem hj] at this
  exact ⟨n, _, this⟩
end
end Go.Proofs.Ytfhinmjpokollaa
/- Structs as whole rows: read, stored, out of blocks that are known whole or out of slices; so that nothing of their cells is reckoned by the kernel. No condition. -/
namespace Go.Proofs.Ytfhinmjpokollaa
set_option linter.unusedVariables false
set_option linter.unusedSimpArgs false
set_option linter.constructorNameAsVariable false
open Go.RowKit

/-- Type T is a struct or an array of so many cells. -/
structure RowOf (P : Program) (T : TypeId) (size : Nat) : Prop where
  u : ∃ d, P.underlying T = some d ∧ d.isRow = true
  i : (P.info? T).map (·.size) = some size
theorem RowOf.mk' {P : Program} {T : TypeId} {size : Nat} {d : TypeDesc} (h : P.underlying T = some d) (hd : d.isRow = true) (hi : (P.info? T).map (·.size) = some size) : RowOf P T size := ⟨⟨d, h, hd⟩, hi⟩

theorem row_want {P : Program} {ops : Array Oper} {rest : List Oper} {o : Oper} {a : Act} {w : World} {Q : Exit → Act → World → Prop} (hw : Region.wanted o (yielded ops a.tmps) = true) (h : ∀ K : Act → World → Prop, (∀ a w, wpList P ops Q rest a w → K a w) → o.wp P a w K Q) : wpList P ops Q (o :: rest) a w :=
  wpList_step fun K hK => by rw [if_pos hw]; exact h K hK
theorem row_set {w : World} {g : Nat} {T : TypeId} {cs cs' : Array Value} (hb : Blk w g T cs) : Blk (w.setRow g cs') g T cs' ∧ Fr (fun k => k = g) w (w.setRow g cs') :=
  ⟨setRow_heap w g cs cs' T (0, 0) hb, ⟨rfl, rfl, rfl, by simp, fun k _ hk => setRow_other w g k cs' hk⟩⟩

section
variable {P : Program} {T : TypeId} {size : Nat} {ops : Array Oper} {rest : List Oper} {o o2 : Oper} {a : Act} {w : World} {Q : Exit → Act → World → Prop} {K : Act → World → Prop} {F : Prop}
theorem wp_row_load (R : RowOf P T size) (x : Operand) (ho : o.op = .load T x) {g : Nat} {cs : Array Value} (hx : a.eval x = .pointer (some ⟨g, 0, none⟩)) (hb : Blk w g T cs) (hc : cs.size = size)
    (h : K (a.put o.dst (.agg cs)) w) : o.wp P a w K Q := by
  obtain ⟨⟨d, hu, hd⟩, hi⟩ := R
  exact wp_load_row T x ho g hx T cs (0, 0) d hb hu (by cases d <;> first | rfl | (simp [TypeDesc.isRow] at hd)) (by rw [hi, hc]) h
theorem row_load (R : RowOf P T size) (hw : Region.wanted o (yielded ops a.tmps) = true) (x : Operand) (ho : o.op = .load T x) {g : Nat} {cs : Array Value} (hx : a.eval x = .pointer (some ⟨g, 0, none⟩)) (hb : Blk w g T cs) (hc : cs.size = size)
    (h : wpList P ops Q rest (a.put o.dst (.agg cs)) w) : wpList P ops Q (o :: rest) a w :=
  row_want hw fun _ hK => wp_row_load R x ho hx hb hc (hK _ _ h)
theorem row_load_at (R : RowOf P T size) (hw : Region.wanted o (yielded ops a.tmps) = true) (x : Operand) (ho : o.op = .load T x) {b off : Nat} {cs : List Value} (hx : a.eval x = .pointer (some ⟨b, off, none⟩)) (hr : w.rangeAt b off cs) (hc : cs.length = size)
    (h : wpList P ops Q rest (a.put o.dst (.agg cs.toArray)) w) : wpList P ops Q (o :: rest) a w := by
  obtain ⟨⟨d, hu, hd⟩, hi⟩ := R
  exact row_want hw fun _ hK => wp_load_mid T x ho b off hx cs d hr hu hd (by rw [hi, hc]) (hK _ _ h)
theorem wp_row_store (R : RowOf P T size) (x y : Operand) (ho : o.op = .store T x y) {g : Nat} {cs0 cs : Array Value} (hx : a.eval x = .pointer (some ⟨g, 0, none⟩)) (hy : a.eval y = .agg cs) (hb : Blk w g T cs0) (h0 : cs0.size = size) (hc : cs.size = size) (h1 : cs.all (·.oneCell') = true)
    (h : ∀ w', Blk w' g T cs → Fr (fun k => k = g) w w' → K (a.put o.dst undef) w') : o.wp P a w K Q := by
  obtain ⟨r1, r2⟩ := row_set (cs' := cs) hb
  unfold Oper.wp execOp
  simp only [ho, hx, hy, Instr.storeAt, Instr.sureAddr, Sem.run_bind, Sem.run_pure, Result.andThen_ok, run_storeVar_row w g T T cs0 cs hb (by rw [R.i, hc]) (by omega) h1]
  exact h _ r1 r2
theorem row_store (R : RowOf P T size) (hw : Region.wanted o (yielded ops a.tmps) = true) (x y : Operand) (ho : o.op = .store T x y) {g : Nat} {cs0 cs : Array Value} (hx : a.eval x = .pointer (some ⟨g, 0, none⟩)) (hy : a.eval y = .agg cs) (hb : Blk w g T cs0) (h0 : cs0.size = size) (hc : cs.size = size) (h1 : cs.all (·.oneCell') = true)
    (h : ∀ w', Blk w' g T cs → Fr (fun k => k = g) w w' → wpList P ops Q rest (a.put o.dst undef) w') : wpList P ops Q (o :: rest) a w :=
  row_want hw fun _ hK => wp_row_store R x y ho hx hy hb h0 hc h1 fun w' r1 r2 => hK _ _ (h w' r1 r2)
theorem step_row_store (R : RowOf P T size) (hw : Region.wanted o (yielded ops a.tmps) = true) (x y : Operand) (ho : o.op = .store T x y) {g : Nat} {cs0 cs : Array Value} (hx : a.eval x = .pointer (some ⟨g, 0, none⟩)) (hy : a.eval y = .agg cs) (hb : Blk w g T cs0) (h0 : cs0.size = size) (hc : cs.size = size) (h1 : cs.all (·.oneCell') = true)
    (h : ∀ w', Blk w' g T cs → Fr (fun k => k = g) w w' → K (a.put o.dst undef) w') : if Region.wanted o (yielded ops a.tmps) = true then Oper.wp P o a w K Q else F := by
  rw [if_pos hw]
  exact wp_row_store R x y ho hx hy hb h0 hc h1 h
/-- In a region that draws: a variable is made. -/
theorem step_row_alloc {T : TypeId} {n : Nat} {Z : Value} (hw : Region.wanted o (yielded ops a.tmps) = true) (ho : o.op = .alloc T) (hZ : (P.info? T).map (fun i => (i.zero, i.size)) = some (some Z, n))
    (h : ∀ g w', Blk w' g T Z.cells → New w w' → w.heap.size ≤ g → K (a.put o.dst (.pointer (some ⟨g, 0, none⟩))) w') : if Region.wanted o (yielded ops a.tmps) = true then Oper.wp P o a w K Q else F := by
  rw [if_pos hw]
  obtain ⟨z1, z2⟩ := zero_of_info hZ
  have hal : (Instr.alloc T true (.tuple #[])).run P w = .ok (.pointer (some ⟨w.heap.size, 0, none⟩)) (w.alloc (.cells Z.cells T)) := by
    unfold Instr.alloc
    simp [Sem.run_bind, z1 w, newVar, newRow, go_sem, Result.andThen]
  unfold Oper.wp
  simp only [execOp, ho, hal, Result.andThen_ok, Sem.run_bind, Sem.run_pure]
  exact h _ _ (Blk.new _ _ _) (New.al (New.refl _) _) (Nat.le_refl _)
/-- In a region that draws: a whole row may be read first. -/
theorem yields_row {S : World → Prop} (R : RowOf P T size) (hw : Region.wanted o (yielded ops a.tmps) = true) (x : Operand) (ho : o.op = .load T x) {b off : Nat} {cs : List Value} (hx : a.eval x = .pointer (some ⟨b, off, none⟩)) (hr : ∀ w, S w → w.rangeAt b off cs) (hc : cs.length = size) : YieldsIf P ops S o (.agg cs.toArray) a := by
  obtain ⟨⟨d, hu, hd⟩, hi⟩ := R
  exact yieldsIf_load_mid hw T x ho b off hx cs d hr hu hd (by rw [hi, hc])
end

theorem Blk.range {w : World} {g : Nat} {t : TypeId} {cs : Array Value} (h : Blk w g t cs) : w.rangeAt g 0 cs.toList := fun j v hv => by
  rw [Nat.zero_add, h.cell j]
  simpa using hv
theorem New.range {w w' : World} {b o : Nat} {cs : List Value} (h : New w w') (hr : w.rangeAt b o cs) : w'.rangeAt b o cs := fun j v hv => h.cell_ (hr j v hv)
/-- An element of a slice of rows. -/
theorem rd_row {α : Type} {p : Nat → Prop} {w : World} {A : Option Addr} {n size : Nat} {f : α → List Value} {L : List α} (hf : ∀ x, (f x).length = size) (hs : 0 < size) (h : Rd p w size A n (L.flatMap f)) {i : Nat} (hi : i < n) :
    ∃ (g o : Nat) (hl : i < L.length), A = some ⟨g, o, none⟩ ∧ p g ∧ g < w.heap.size ∧ w.rangeAt g (o + i * size) (f L[i]) := by
  obtain ⟨g, o, hA, hp, hg, hc⟩ := h.out (by omega) hs
  have hlen : (L.flatMap f).length = L.length * size := by
    clear hc h
    induction L with
    | nil => simp
    | cons x L ih => simp [hf x, ih]; rw [Nat.succ_mul, Nat.add_comm]
  have hl : i < L.length := by
    have h1 := h.1
    rw [hlen] at h1
    have := Nat.eq_of_mul_eq_mul_right hs h1
    omega
  refine ⟨g, o, hl, hA, hp, hg, fun j v hv => ?_⟩
  have hj : j < size := by rw [← hf L[i]]; exact (List.getElem?_eq_some_iff.1 hv).1
  rw [Nat.add_assoc]
  exact hc (i * size + j) v (by rw [fm_get f size L i j hl (fun x _ => hf x) hj]; exact hv)
end Go.Proofs.Ytfhinmjpokollaa
