/- entrustnum.Num and entrustnum.Is, of errors that are api.Errno's or nil. No condition. -/
import Derived.Test.YtfhinmjpokollaaMem
import Derived.Test.YtfhinmjpokollaaRows
namespace Go.Proofs.Ytfhinmjpokollaa
set_option linter.unusedVariables false
set_option linter.unusedSimpArgs false
set_option linter.constructorNameAsVariable false
open Go.RowKit

theorem ta_errno (n : Int) (w : World) : (Instr.typeAssert (.iface 36 (.int .i64 n)) 31 36 true).run Try.prog w = .ok (.tuple #[.int .i64 n, .bool true]) w := by
  simp [Instr.typeAssert, run_underlying Try.underlying36]

theorem num_some (n : Int) (w : World) (h1 : 1 ≤ n) : Calls Try.prog 34 #[.iface 36 (.int .i64 n)] w fun e w' => e = .returned (.int .i64 n) ∧ w = w' := by
  have ta := ta_errno n w
  have hz : (n != 0) = true := by simp; omega
  go_enter Try.func34, Try.ntmps34
  go_wp2_with fail
  go_ret
  exact ⟨rfl, rfl⟩
theorem num_none (w : World) : Calls Try.prog 34 #[.nilIface] w fun e w' => e = .returned (.int .i64 0) ∧ w = w' := by
  go_enter Try.func34, Try.ntmps34
  go_wp2_with fail
  go_ret
  exact ⟨rfl, rfl⟩
theorem is_some (n m : Int) (w : World) (h1 : 1 ≤ n) : Calls Try.prog 15 #[.iface 36 (.int .i64 n), .int .i64 m] w fun e w' => e = .returned (.bool (n == m)) ∧ w = w' := by
  go_enter Try.func15, Try.ntmps15
  go_wp2_with fail
  refine (num_some n _ h1).mono ?_
  rintro e w1 ⟨rfl, rfl⟩
  go_wp2_with fail
  go_ret
  exact ⟨rfl, rfl⟩
theorem is_none (m : Int) (w : World) (h1 : 1 ≤ m) : Calls Try.prog 15 #[.nilIface, .int .i64 m] w fun e w' => e = .returned (.bool false) ∧ w = w' := by
  have hz : ((0 : Int) == m) = false := by simp; omega
  go_enter Try.func15, Try.ntmps15
  go_wp2_with fail
  refine (num_none _).mono ?_
  rintro e w1 ⟨rfl, rfl⟩
  go_wp2_with fail
  go_ret
  exact ⟨rfl, rfl⟩
end Go.Proofs.Ytfhinmjpokollaa
