/- Texts of one proof, one behind the other: DkU. No condition but each one's own. -/
import Derived.Test.YtpifnmlnhddgeaaGreatDoorVaultNilM4
namespace Go.Proofs.YtpifnmlnhddgeaaGreatDoor
set_option linter.unusedVariables false
set_option linter.unusedSimpArgs false
set_option linter.constructorNameAsVariable false
open Go.RowKit Go.Maps
theorem get_put (p : DP) (a : Int) (s : List Int) (x : Int) : (p.put a s).get x = if x = a then s else p.get x := by
 unfold DP.get DP.put upd
 by_cases h : x = a
 · simp [h]
 · simp [h]
theorem get_burn (p : DP) (x : Int) : p.burn.get x = p.get x := rfl
theorem get_write (p : DP) (a : Int) (s : List Int) (x : Int) : (p.write a s).get x = if x = a then s else p.get x := by unfold DP.write; rw [get_put, get_burn]
theorem get_sync (p : DP) (x : Int) : p.sync.get x = p.get x := by
 unfold DP.get DP.sync
 cases h : p.fresh x <;> simp [h]
theorem cut_or {p : DP} (h : p.Ok) (keep : List Bool) : ∀ j, j ≤ p.order.length → ∀ x, cutS p keep j x = p.sure x ∨ (p.fresh x ≠ none ∧ cutS p keep j x = p.fresh x)
 | 0, _, x => .inl rfl
 | j + 1, hj, x => by
  simp only [cutS]
  split
  · unfold upd
    split
    · next e =>
      subst e
      refine .inr ⟨(h.ord _).1 ?_, rfl⟩
      rw [List.getD_eq_getElem?_getD, List.getElem?_eq_getElem (by omega)]
      exact List.getElem_mem _
    · exact cut_or h keep j (by omega) x
  · exact cut_or h keep j (by omega) x
end Go.Proofs.YtpifnmlnhddgeaaGreatDoor
