/- Texts of one proof, one behind the other: VaultNilPg. No condition but each one's own. -/
import Derived.Test.YtpifnmlnhddgeaaGreatDoorRows
import Derived.WalkKit
import Derived.ProofKit
import Derived.OpenShut
import Derived.ShutString
import Derived.ChangeOld
import Derived.Below
import Derived.Test.YtpifnmlnhddgeaaGreatDoorTie
import Derived.Test.YtpifnmlnhddgeaaGreatDoorCards
import Derived.Lay
import Derived.Handy
import Derived.SevenTiedAt
namespace Go.Proofs.YtpifnmlnhddgeaaGreatDoor.vaultNil
open Go.ChangeShapes Go.WideShapes Go.ChangeAt Go.RowKit Go.Proofs.YtpifnmlnhddgeaaGreatDoor
open Go.ChangeMaps (open_string shut_string)
set_option linter.unusedVariables false
theorem p4 : false = Rows.vaultNilRow.goesBy Tryz.prog := by kernel_rfl
end Go.Proofs.YtpifnmlnhddgeaaGreatDoor.vaultNil
