/- Texts of one proof, one behind the other: MxTS. No condition but each one's own. -/
import Derived.Test.YtmibndkofoldkaaGreatDoorClientNilM14
import Derived.Test.YtmibndkofoldkaaGreatDoorClientNilM2
import Derived.Test.YtmibndkofoldkaaGreatDoorClientNilM1
import Derived.Test.YtmibndkofoldkaaGreatDoorClientNilM18
import Derived.Test.YtmibndkofoldkaaGreatDoorClientNilM16
namespace Go.Proofs.YtmibndkofoldkaaGreatDoor
set_option linter.unusedVariables false
set_option linter.unusedSimpArgs false
set_option linter.constructorNameAsVariable false
open Go.RowKit Go.Sort
section
variable {P : Program} {ops : Array Oper} {Q : Exit → Act → World → Prop} {S : World → Prop}
theorem actok_alloc {R : Act → World → Prop} {i : Nat} {o : Oper} {a : Act} {w : World} {T : TypeId} {n : Nat} {Z : Value} (ho : ops[i]? = some o) (hw : Region.wanted o (yielded ops a.tmps) = true) (hop : o.op = .alloc T) (hZ : (P.info? T).map (fun i => (i.zero, i.size)) = some (some Z, n))
    (h : ∀ g w', Blk w' g T Z.cells → New w w' → w.heap.size ≤ g → S w' ∧ R (a.put o.dst (.pointer (some ⟨g, 0, none⟩))) w') : ActOk P ops S Q i R a w := by
 refine act_ok ho (fun K hK => ?_) (.inl hw)
 refine step_allocn hw hop hZ fun g w' h1 h2 h3 => ?_
 obtain ⟨h4, h5⟩ := h g w' h1 h2 h3
 exact hK.out _ _ h4 h5
theorem actok_store {R : Act → World → Prop} {i : Nat} {w : World} {o : Oper} {a : Act} {T : TypeId} {g : Nat} {cs0 cs : Array Value} (hop : ops[i]? = some o) (hw : Region.wanted o (yielded ops a.tmps) = true) (x y : Operand) (ho : o.op = .store T x y) (hi : (P.info? T).map (·.size) = some cs.size) (hx : a.eval x = .pointer (some ⟨g, 0, none⟩)) (hy : a.eval y = .agg cs) (hb : Blk w g T cs0) (h0 : cs0.size = cs.size) (h1 : cs.all (·.oneCell') = true)
    (h : ∀ w', Blk w' g T cs → Fr (fun k => k = g) w w' → S w' ∧ R (a.put o.dst undef) w') : ActOk P ops S Q i R a w := by
 refine ⟨o, hop, ?_⟩
 rw [if_pos hw]
 obtain ⟨r1, r2⟩ := setRow_blk (cs' := cs) hb
 unfold Oper.wp execOp
 simp only [ho, hx, hy, Instr.storeAt, Instr.sureAddr, Sem.run_bind, Sem.run_pure, Result.andThen_ok, run_storeVar_row w g T T cs0 cs hb hi h0 h1]
 exact h _ r1 r2
theorem tree_take_built {i : Nat} {o : Oper} {tr : Tr} {a : Act} {w : World} (ho : ops[i]? = some o) (hw : Region.wanted o (yielded ops a.tmps) = true) (t : TypeId) (l : List (Nat × Operand)) (hop : o.op = .build t l.toArray) (vs : List (Nat × Value)) (hv : (l.map fun (i, x) => (i, a.eval x)) = vs) (cells : Array Value) (hb : P.built t vs = some cells)
    (h : wpTree P ops S Q tr (a.put o.dst (.agg cells)) w) : wpTree P ops S Q (.take i tr) a w :=
 ⟨o, ho, by
  rw [if_pos hw]
  refine ⟨_, fun p => ?_, h⟩
  have hf : P.built t (l.toArray.map fun (i, x) => (i, a.eval x)).toList = some cells := by rw [List.map_toArray, hv]; exact hb
  unfold execOp
  simp only [hop]
  rw [Sem.run_bind, run_build p.w t _ cells hf]
  rfl⟩
end
end Go.Proofs.YtmibndkofoldkaaGreatDoor
