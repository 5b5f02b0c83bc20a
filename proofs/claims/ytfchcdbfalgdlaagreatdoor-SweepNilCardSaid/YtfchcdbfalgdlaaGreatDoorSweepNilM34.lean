/- Texts of one proof, one behind the other: Float, FloatB, Rat, RatC, Share. No condition but each one's own. -/
import GoSem.Core.Float
import Derived.Test.YtfchcdbfalgdlaaGreatDoorSweepNilM1
import Derived.Test.YtfchcdbfalgdlaaGreatDoorRows
import Derived.Laws.FloatArith
namespace Go.Proofs.YtfchcdbfalgdlaaGreatDoor
set_option linter.unusedVariables false
set_option linter.unusedSimpArgs false
set_option linter.constructorNameAsVariable false
open Ieee
def neg63 (b : Nat) : Bool := decide (9223372036854775808 ≤ b)
def rung (b : Nat) : Nat := b % 9223372036854775808
def key (b : Nat) : Int := if neg63 b then -(rung b : Int) else (rung b : Int)
end Go.Proofs.YtfchcdbfalgdlaaGreatDoor
namespace Go.Proofs.YtfchcdbfalgdlaaGreatDoor
set_option linter.unusedVariables false
set_option linter.unusedSimpArgs false
set_option linter.constructorNameAsVariable false
open Ieee
theorem lp : double.leastPlace = -1074 := by decide
end Go.Proofs.YtfchcdbfalgdlaaGreatDoor
namespace Go.Proofs.YtfchcdbfalgdlaaGreatDoor
set_option linter.unusedVariables false
set_option linter.unusedSimpArgs false
set_option linter.constructorNameAsVariable false
open Go.RowKit Ieee
theorem run_fromb (n : Int) (w : World) : (callFunc 64 #[.int .u64 n]).run Tryz.prog w = .ok (.value (.float .f64 n.toNat)) w := by kernel_rfl
end Go.Proofs.YtfchcdbfalgdlaaGreatDoor
namespace Go.Proofs.YtfchcdbfalgdlaaGreatDoor
set_option linter.unusedVariables false
set_option linter.unusedSimpArgs false
set_option linter.constructorNameAsVariable false
open Go.RowKit Ieee
theorem z64 : 0 < 18446744073709551616 := Nat.succ_pos _
end Go.Proofs.YtfchcdbfalgdlaaGreatDoor
namespace Go.Proofs.YtfchcdbfalgdlaaGreatDoor
set_option linter.unusedVariables false
set_option linter.unusedSimpArgs false
set_option linter.constructorNameAsVariable false
open Go.RowKit Ieee
theorem nan_any (w : World) : Calls Tryz.prog 51 #[] w fun e w' => e = .returned (.float .f64 9221120237041090561) ∧ w = w' := by
 have hf := run_fromb 9221120237041090561
 go_enter Tryz.func51, Tryz.ntmps51
 go_wp2_with fail
 go_ret
 exact ⟨rfl, rfl⟩
end Go.Proofs.YtfchcdbfalgdlaaGreatDoor
