/- Texts of one proof, one behind the other: Float, FloatB, RatC. No condition but each one's own. -/
import GoSem.Core.Float
import Derived.Test.YtpifnmlnhddgeaaGreatDoorVaultNilM1
import Derived.Test.YtpifnmlnhddgeaaGreatDoorRows
namespace Go.Proofs.YtpifnmlnhddgeaaGreatDoor
set_option linter.unusedVariables false
set_option linter.unusedSimpArgs false
set_option linter.constructorNameAsVariable false
open Ieee
def neg63 (b : Nat) : Bool := decide (9223372036854775808 ≤ b)
def rung (b : Nat) : Nat := b % 9223372036854775808
def key (b : Nat) : Int := if neg63 b then -(rung b : Int) else (rung b : Int)
end Go.Proofs.YtpifnmlnhddgeaaGreatDoor
namespace Go.Proofs.YtpifnmlnhddgeaaGreatDoor
set_option linter.unusedVariables false
set_option linter.unusedSimpArgs false
set_option linter.constructorNameAsVariable false
open Ieee
theorem bn : double.binade = 4503599627370496 := by decide
theorem lp : double.leastPlace = -1074 := by decide
end Go.Proofs.YtpifnmlnhddgeaaGreatDoor
namespace Go.Proofs.YtpifnmlnhddgeaaGreatDoor
set_option linter.unusedVariables false
set_option linter.unusedSimpArgs false
set_option linter.constructorNameAsVariable false
open Go.RowKit Ieee
theorem z64 : 0 < 18446744073709551616 := Nat.succ_pos _
end Go.Proofs.YtpifnmlnhddgeaaGreatDoor
