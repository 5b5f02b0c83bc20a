/- Texts of one proof, one behind the other: Alc, Rwh. No condition but each one's own. -/
import Derived.Test.YtpifnmlnhddgeaaGreatDoorVaultNilM1
import Derived.Test.YtpifnmlnhddgeaaGreatDoorVaultNilM6
namespace Go.Proofs.YtpifnmlnhddgeaaGreatDoor
set_option linter.unusedVariables false
set_option linter.unusedSimpArgs false
set_option linter.constructorNameAsVariable false
open Go.RowKit
theorem wpList_alloc_row {P : Program} {ops : Array Oper} {Q : Exit → Act → World → Prop} {rest : List Oper} {o : Oper} {a : Act} {w : World} {T : TypeId} {n : Nat} {zs : Array Value} (hg1 : o.guard = none) (ho : o.op = .alloc T) (hZ : (P.info? T).map (fun i => (i.zero, i.size)) = some (some (.agg zs), n))
    (h : ∀ b w', b = w.heap.size → Blk w' b T zs → New w w' → wpList P ops Q rest (a.put o.dst (.pointer (some ⟨b, 0, none⟩))) w') : wpList P ops Q (o :: rest) a w := by
 obtain ⟨z1, z2⟩ := zero_of_info hZ
 refine wpList_plain hg1 fun K' hK' => ?_
 have hal : (Instr.alloc T true (.tuple #[])).run P w = .ok (.pointer (some ⟨w.heap.size, 0, none⟩)) (w.alloc (.cells zs T)) := by
  unfold Instr.alloc
  simp [Sem.run_bind, z1 w, newVar, newRow, go_sem, Result.andThen, Value.cells]
 unfold Oper.wp
 simp only [execOp, ho, hal, Result.andThen_ok, Sem.run_bind, Sem.run_pure]
 exact hK' _ _ (h _ _ rfl (Blk.new _ _ _) (New.al (New.refl _) _))
end Go.Proofs.YtpifnmlnhddgeaaGreatDoor
namespace Go.Proofs.YtpifnmlnhddgeaaGreatDoor
set_option linter.unusedVariables false
set_option linter.unusedSimpArgs false
set_option linter.constructorNameAsVariable false
open Go.RowKit Go.Sort
theorem results_row2h {fn : Func} {p q : Tmp} {ty : TypeId} {P : Program} (h : fn.results = #[.cell p ty, .tmp q]) (tmps : Array Value) (w : World) (g : Nat) (cs : Array Value) (d : TypeDesc)
    (hp : tmps.getD p undef = .pointer (some ⟨g, 0, none⟩)) (hg : Blk w g ty cs) (hu : P.underlying ty = some d) (hd : d.isRow = true) (hi : (P.info? ty).map (·.size) = some cs.size) :
    (results fn tmps).run P w = .ok (.tuple #[.agg cs, tmps.getD q undef]) w := by
 have hp' : tmps[p]?.getD undef = .pointer (some ⟨g, 0, none⟩) := by simpa using hp
 simp [results, h, hp', asAddr, run_loadVar_row w g ty ty cs (0, 0) _ hg hu (by cases d <;> first | rfl | (simp [TypeDesc.isRow] at hd)) hi]
theorem hashInfoR : (Tryz.prog.info? 50).map (fun i => (i.zero, i.size)) = some (some (.agg (secA (List.replicate 32 0))), 32) := by kernel_rfl
end Go.Proofs.YtpifnmlnhddgeaaGreatDoor
