/- Texts of one proof, one behind the other: ShG. No condition but each one's own. -/
import Derived.Test.YtmibndkofoldkaaGreatDoorClientNilM2
import Derived.Test.YtmibndkofoldkaaGreatDoorClientNilM1
namespace Go.Proofs.YtmibndkofoldkaaGreatDoor
set_option linter.unusedVariables false
set_option linter.unusedSimpArgs false
set_option linter.constructorNameAsVariable false
open Go.RowKit Go.Sort
theorem secA_set (s : List Int) (i : Nat) (v : Int) : (secA s).setIfInBounds i (.int .u8 v) = secA (s.set i v) := by
 unfold secA u8s
 rw [List.setIfInBounds_toArray, List.map_set]
end Go.Proofs.YtmibndkofoldkaaGreatDoor
