/- Texts of one proof, one behind the other: TiE. No condition but each one's own. -/
import Derived.Test.YtmibndkofoldkaaGreatDoorClientNilM9
import Derived.Test.YtmibndkofoldkaaGreatDoorClientNilM5
import Derived.Test.YtmibndkofoldkaaGreatDoorClientNilM2
import Derived.Test.YtmibndkofoldkaaGreatDoorClientNilM6
import Derived.Test.YtmibndkofoldkaaGreatDoorClientNilM10
namespace Go.Proofs.YtmibndkofoldkaaGreatDoor
set_option linter.unusedVariables false
set_option linter.unusedSimpArgs false
set_option linter.constructorNameAsVariable false
open Go.RowKit Go.Sort
def o0 : List Value := [.int .i64 0, .slice none 0 0, .slice none 0 0, .int .u64 0]
theorem orderInfo : (Tryz.prog.info? 78).map (fun i => (i.zero, i.size)) = some (some (.agg o0.toArray), 4) := by kernel_rfl
theorem Om.one (x : Om) : x.cells.toArray.all (·.oneCell') = true := by simp [Om.cells, Value.oneCell']
set_option maxHeartbeats 4000000
set_option maxRecDepth 100000
end Go.Proofs.YtmibndkofoldkaaGreatDoor
