/- A slice of one element, made for an append: one law, so that nothing of it is reckoned by the kernel. No condition. -/
import Derived.Test.YtfhinmjpokollaaNew
import Derived.Great.BuildSlice
namespace Go.Proofs.Ytfhinmjpokollaa
set_option linter.unusedVariables false
set_option linter.unusedSimpArgs false
set_option linter.constructorNameAsVariable false
open Go.RowKit

theorem run_bs1 {P : Program} {t e : TypeId} {size bytes : Nat} (E : ElemOf P t e size bytes) (hs : size ≤ 16777216) (v : Value) (hv : v.cells.size = size) (w : World) :
    (Instr.buildSlice t 1 #[(0, v)]).run P w = .ok (.slice (some ⟨w.heap.size, 0, none⟩) 1 1) (w.alloc (.cells v.cells e)) := by
  obtain ⟨i, z, hi, hz, hsize, -, hzs⟩ := E.info
  have hp := E.pos
  refine run_buildSlice w t e 1 #[(0, v)] v.cells i z E.ht hi hz (by rw [hsize]; omega) (by rw [hsize]; omega) ?_
  have h := Great.fill_whole (s := i.size) (by omega) [v] ((Array.range (1 * i.size)).map (z.cells[· % z.cells.size]!)) (by intro u hu; obtain rfl := List.mem_singleton.1 hu; omega) (by simp)
  simpa using h

theorem wpList_bs1 {P : Program} {t e : TypeId} {size bytes : Nat} (E : ElemOf P t e size bytes) (hs : size ≤ 16777216) {ops : Array Oper} {rest : List Oper} {o : Oper} {a : Act} {w : World} {Q : Exit → Act → World → Prop} (hg : o.guard = none) (x : Operand)
    (ho : o.op = .buildSlice t 1 #[(0, x)]) (cs : Array Value) (hx : a.eval x = .agg cs) (hc : cs.size = size)
    (h : wpList P ops Q rest (a.put o.dst (.slice (some ⟨w.heap.size, 0, none⟩) 1 1)) (w.alloc (.cells cs e))) : wpList P ops Q (o :: rest) a w :=
  wpList_plain hg fun _ hK => by
    unfold Oper.wp execOp
    simp only [ho, Sem.run_bind, List.map_toArray, List.map_cons, List.map_nil, hx, run_bs1 E hs (.agg cs) hc w, Result.andThen_ok]
    exact hK _ _ h

theorem atOpS {P : Program} {ops : Array Oper} {Q : Exit → Act → World → Prop} {rest : List Oper} {a : Act} {w : World} (o : Oper) (h : wpList P ops Q (o :: rest) a w) : wpList P ops Q (o :: rest) a w := h
end Go.Proofs.Ytfhinmjpokollaa
