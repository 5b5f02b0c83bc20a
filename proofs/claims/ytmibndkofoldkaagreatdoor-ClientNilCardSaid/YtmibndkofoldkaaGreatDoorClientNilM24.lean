/- Texts of one proof, one behind the other: DkU. No condition but each one's own. -/
import Derived.Test.YtmibndkofoldkaaGreatDoorClientNilM22
namespace Go.Proofs.YtmibndkofoldkaaGreatDoor
set_option linter.unusedVariables false
set_option linter.unusedSimpArgs false
set_option linter.constructorNameAsVariable false
open Go.RowKit Go.Maps
theorem get_put (p : DP) (a : Int) (s : List Int) (x : Int) : (p.put a s).get x = if x = a then s else p.get x := by
 unfold DP.get DP.put upd
 by_cases h : x = a
 · simp [h]
 · simp [h]
theorem get_burn (p : DP) (x : Int) : p.burn.get x = p.get x := rfl
theorem get_write (p : DP) (a : Int) (s : List Int) (x : Int) : (p.write a s).get x = if x = a then s else p.get x := by unfold DP.write; rw [get_put, get_burn]
theorem get_sync (p : DP) (x : Int) : p.sync.get x = p.get x := by
 unfold DP.get DP.sync
 cases h : p.fresh x <;> simp [h]
end Go.Proofs.YtmibndkofoldkaaGreatDoor
