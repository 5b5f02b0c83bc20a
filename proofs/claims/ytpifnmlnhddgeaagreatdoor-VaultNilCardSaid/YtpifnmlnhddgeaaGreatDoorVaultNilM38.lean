/- Texts of one proof, one behind the other: Eqs. No condition but each one's own. -/
import Derived.Test.YtpifnmlnhddgeaaGreatDoorVaultNilM1
import Derived.Laws.StructEq
namespace Go.Proofs.YtpifnmlnhddgeaaGreatDoor
set_option linter.unusedVariables false
set_option linter.unusedSimpArgs false
set_option linter.constructorNameAsVariable false
open Go.RowKit
theorem part_agg {t : TypeId} {cs ys : Array Value} {off n : Nat} {w : World} (hk : (isAgg t).run Tryz.prog w = .ok true w) (hz : (sizeOf t).run Tryz.prog w = .ok n w) (h : cs.extract off (off + n) = ys) : (part t cs off).run Tryz.prog w = .ok (.agg ys) w := by
 unfold part
 simp [Sem.run_bind, hk, hz, h]
end Go.Proofs.YtpifnmlnhddgeaaGreatDoor
