/- Structs as whole rows: read, stored, out of blocks that are known whole or out of slices; so that nothing of their cells is reckoned by the kernel. No condition. -/
import Derived.Test.YtfhinmjpokollaaHeld
import Derived.Test.YtfhinmjpokollaaOpen
import Derived.Deep.WholeRow
import Derived.Deep.MidRow
namespace Go.Proofs.Ytfhinmjpokollaa
set_option linter.unusedVariables false
set_option linter.unusedSimpArgs false
set_option linter.constructorNameAsVariable false
open Go.RowKit

/-- Type T is a struct or an array of so many cells. -/
structure RowOf (P : Program) (T : TypeId) (size : Nat) : Prop where
  u : ∃ d, P.underlying T = some d ∧ d.isRow = true
  i : (P.info? T).map (·.size) = some size
theorem RowOf.mk' {P : Program} {T : TypeId} {size : Nat} {d : TypeDesc} (h : P.underlying T = some d) (hd : d.isRow = true) (hi : (P.info? T).map (·.size) = some size) : RowOf P T size := ⟨⟨d, h, hd⟩, hi⟩

theorem row_want {P : Program} {ops : Array Oper} {rest : List Oper} {o : Oper} {a : Act} {w : World} {Q : Exit → Act → World → Prop} (hw : Region.wanted o (yielded ops a.tmps) = true) (h : ∀ K : Act → World → Prop, (∀ a w, wpList P ops Q rest a w → K a w) → o.wp P a w K Q) : wpList P ops Q (o :: rest) a w :=
  wpList_step fun K hK => by rw [if_pos hw]; exact h K hK
theorem row_set {w : World} {g : Nat} {T : TypeId} {cs cs' : Array Value} (hb : Blk w g T cs) : Blk (w.setRow g cs') g T cs' ∧ Fr (fun k => k = g) w (w.setRow g cs') :=
  ⟨setRow_heap w g cs cs' T (0, 0) hb, ⟨rfl, rfl, rfl, by simp, fun k _ hk => setRow_other w g k cs' hk⟩⟩

section
variable {P : Program} {T : TypeId} {size : Nat} {ops : Array Oper} {rest : List Oper} {o o2 : Oper} {a : Act} {w : World} {Q : Exit → Act → World → Prop} {K : Act → World → Prop} {F : Prop}
theorem wp_row_load (R : RowOf P T size) (x : Operand) (ho : o.op = .load T x) {g : Nat} {cs : Array Value} (hx : a.eval x = .pointer (some ⟨g, 0, none⟩)) (hb : Blk w g T cs) (hc : cs.size = size)
    (h : K (a.put o.dst (.agg cs)) w) : o.wp P a w K Q := by
  obtain ⟨⟨d, hu, hd⟩, hi⟩ := R
  exact wp_load_row T x ho g hx T cs (0, 0) d hb hu (by cases d <;> first | rfl | (simp [TypeDesc.isRow] at hd)) (by rw [hi, hc]) h
theorem row_load (R : RowOf P T size) (hw : Region.wanted o (yielded ops a.tmps) = true) (x : Operand) (ho : o.op = .load T x) {g : Nat} {cs : Array Value} (hx : a.eval x = .pointer (some ⟨g, 0, none⟩)) (hb : Blk w g T cs) (hc : cs.size = size)
    (h : wpList P ops Q rest (a.put o.dst (.agg cs)) w) : wpList P ops Q (o :: rest) a w :=
  row_want hw fun _ hK => wp_row_load R x ho hx hb hc (hK _ _ h)
theorem row_load_at (R : RowOf P T size) (hw : Region.wanted o (yielded ops a.tmps) = true) (x : Operand) (ho : o.op = .load T x) {b off : Nat} {cs : List Value} (hx : a.eval x = .pointer (some ⟨b, off, none⟩)) (hr : w.rangeAt b off cs) (hc : cs.length = size)
    (h : wpList P ops Q rest (a.put o.dst (.agg cs.toArray)) w) : wpList P ops Q (o :: rest) a w := by
  obtain ⟨⟨d, hu, hd⟩, hi⟩ := R
  exact row_want hw fun _ hK => wp_load_mid T x ho b off hx cs d hr hu hd (by rw [hi, hc]) (hK _ _ h)
theorem wp_row_store (R : RowOf P T size) (x y : Operand) (ho : o.op = .store T x y) {g : Nat} {cs0 cs : Array Value} (hx : a.eval x = .pointer (some ⟨g, 0, none⟩)) (hy : a.eval y = .agg cs) (hb : Blk w g T cs0) (h0 : cs0.size = size) (hc : cs.size = size) (h1 : cs.all (·.oneCell') = true)
    (h : ∀ w', Blk w' g T cs → Fr (fun k => k = g) w w' → K (a.put o.dst undef) w') : o.wp P a w K Q := by
  obtain ⟨r1, r2⟩ := row_set (cs' := cs) hb
  unfold Oper.wp execOp
  simp only [ho, hx, hy, Instr.storeAt, Instr.sureAddr, Sem.run_bind, Sem.run_pure, Result.andThen_ok, run_storeVar_row w g T T cs0 cs hb (by rw [R.i, hc]) (by omega) h1]
  exact h _ r1 r2
theorem row_store (R : RowOf P T size) (hw : Region.wanted o (yielded ops a.tmps) = true) (x y : Operand) (ho : o.op = .store T x y) {g : Nat} {cs0 cs : Array Value} (hx : a.eval x = .pointer (some ⟨g, 0, none⟩)) (hy : a.eval y = .agg cs) (hb : Blk w g T cs0) (h0 : cs0.size = size) (hc : cs.size = size) (h1 : cs.all (·.oneCell') = true)
    (h : ∀ w', Blk w' g T cs → Fr (fun k => k = g) w w' → wpList P ops Q rest (a.put o.dst undef) w') : wpList P ops Q (o :: rest) a w :=
  row_want hw fun _ hK => wp_row_store R x y ho hx hy hb h0 hc h1 fun w' r1 r2 => hK _ _ (h w' r1 r2)
theorem step_row_store (R : RowOf P T size) (hw : Region.wanted o (yielded ops a.tmps) = true) (x y : Operand) (ho : o.op = .store T x y) {g : Nat} {cs0 cs : Array Value} (hx : a.eval x = .pointer (some ⟨g, 0, none⟩)) (hy : a.eval y = .agg cs) (hb : Blk w g T cs0) (h0 : cs0.size = size) (hc : cs.size = size) (h1 : cs.all (·.oneCell') = true)
    (h : ∀ w', Blk w' g T cs → Fr (fun k => k = g) w w' → K (a.put o.dst undef) w') : if Region.wanted o (yielded ops a.tmps) = true then Oper.wp P o a w K Q else F := by
  rw [if_pos hw]
  exact wp_row_store R x y ho hx hy hb h0 hc h1 h
/-- In a region that draws: a variable is made. -/
theorem step_row_alloc {T : TypeId} {n : Nat} {Z : Value} (hw : Region.wanted o (yielded ops a.tmps) = true) (ho : o.op = .alloc T) (hZ : (P.info? T).map (fun i => (i.zero, i.size)) = some (some Z, n))
    (h : ∀ g w', Blk w' g T Z.cells → New w w' → w.heap.size ≤ g → K (a.put o.dst (.pointer (some ⟨g, 0, none⟩))) w') : if Region.wanted o (yielded ops a.tmps) = true then Oper.wp P o a w K Q else F := by
  rw [if_pos hw]
  obtain ⟨z1, z2⟩ := zero_of_info hZ
  have hal : (Instr.alloc T true (.tuple #[])).run P w = .ok (.pointer (some ⟨w.heap.size, 0, none⟩)) (w.alloc (.cells Z.cells T)) := by
    unfold Instr.alloc
    simp [Sem.run_bind, z1 w, newVar, newRow, go_sem, Result.andThen]
  unfold Oper.wp
  simp only [execOp, ho, hal, Result.andThen_ok, Sem.run_bind, Sem.run_pure]
  exact h _ _ (Blk.new _ _ _) (New.al (New.refl _) _) (Nat.le_refl _)
/-- In a region that draws: a whole row may be read first. -/
theorem yields_row {S : World → Prop} (R : RowOf P T size) (hw : Region.wanted o (yielded ops a.tmps) = true) (x : Operand) (ho : o.op = .load T x) {b off : Nat} {cs : List Value} (hx : a.eval x = .pointer (some ⟨b, off, none⟩)) (hr : ∀ w, S w → w.rangeAt b off cs) (hc : cs.length = size) : YieldsIf P ops S o (.agg cs.toArray) a := by
  obtain ⟨⟨d, hu, hd⟩, hi⟩ := R
  exact yieldsIf_load_mid hw T x ho b off hx cs d hr hu hd (by rw [hi, hc])
end

theorem Blk.range {w : World} {g : Nat} {t : TypeId} {cs : Array Value} (h : Blk w g t cs) : w.rangeAt g 0 cs.toList := fun j v hv => by
  rw [Nat.zero_add, h.cell j]
  simpa using hv
theorem New.range {w w' : World} {b o : Nat} {cs : List Value} (h : New w w') (hr : w.rangeAt b o cs) : w'.rangeAt b o cs := fun j v hv => h.cell_ (hr j v hv)
/-- An element of a slice of rows. -/
theorem rd_row {α : Type} {p : Nat → Prop} {w : World} {A : Option Addr} {n size : Nat} {f : α → List Value} {L : List α} (hf : ∀ x, (f x).length = size) (hs : 0 < size) (h : Rd p w size A n (L.flatMap f)) {i : Nat} (hi : i < n) :
    ∃ (g o : Nat) (hl : i < L.length), A = some ⟨g, o, none⟩ ∧ p g ∧ g < w.heap.size ∧ w.rangeAt g (o + i * size) (f L[i]) := by
  obtain ⟨g, o, hA, hp, hg, hc⟩ := h.out (by omega) hs
  have hlen : (L.flatMap f).length = L.length * size := by
    clear hc h
    induction L with
    | nil => simp
    | cons x L ih => simp [hf x, ih]; rw [Nat.succ_mul, Nat.add_comm]
  have hl : i < L.length := by
    have h1 := h.1
    rw [hlen] at h1
    have := Nat.eq_of_mul_eq_mul_right hs h1
    omega
  refine ⟨g, o, hl, hA, hp, hg, fun j v hv => ?_⟩
  have hj : j < size := by rw [← hf L[i]]; exact (List.getElem?_eq_some_iff.1 hv).1
  rw [Nat.add_assoc]
  exact hc (i * size + j) v (by rw [fm_get f size L i j hl (fun x _ => hf x) hj]; exact hv)
end Go.Proofs.Ytfhinmjpokollaa
