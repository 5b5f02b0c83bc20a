/- Texts of one proof, one behind the other: LgA. No condition but each one's own. -/
import Derived.Test.YtpifnmlnhddgeaaGreatDoorVaultNilM1
namespace Go.Proofs.YtpifnmlnhddgeaaGreatDoor
set_option linter.unusedVariables false
set_option linter.unusedSimpArgs false
set_option linter.constructorNameAsVariable false
open Go.RowKit
def secs (n : Int) : Int := if 1 ≤ n ∧ n ≤ 65536 then (n + 74) / 55 else 0
theorem secs_le (n : Int) : 0 ≤ secs n ∧ secs n ≤ 1193 := by
 unfold secs
 split <;> omega
theorem secs_0 {n : Int} (h : ¬ (1 ≤ n ∧ n ≤ 65536)) : secs n = 0 := if_neg h
theorem secs_in {n : Int} (h1 : 1 ≤ n) (h2 : n ≤ 65536) : secs n = (n + 74) / 55 := if_pos ⟨h1, h2⟩
theorem ret_i {a b : Int} (h : a = b) : Ending.returned (.int .i64 a) = Ending.returned (.int .i64 b) := by rw [h]
theorem sectors_any (n : Int) (w : World) : Calls Tryz.prog 238 #[.int .i64 n] w fun e w' => e = .returned (.int .i64 (secs n)) ∧ w = w' := by
 by_cases h1 : n < 1
 · have HS := Lib.hid (secs_0 (n := n) (by omega))
   go_enter Tryz.func238, Tryz.ntmps238
   go_wp2_with fail
   go_ret
   exact ⟨ret_i (a := 0) HS.out.symm, rfl⟩
 · by_cases h2 : 65536 < n
   · have HS := Lib.hid (secs_0 (n := n) (by omega))
     go_enter Tryz.func238, Tryz.ntmps238
     go_wp2_with fail
     go_ret
     exact ⟨ret_i (a := 0) HS.out.symm, rfl⟩
   · have HS := Lib.hid (secs_in (n := n) (by omega) (by omega))
     have h3 : 1 ≤ n := by omega
     have h4 : n ≤ 65536 := by omega
     go_enter Tryz.func238, Tryz.ntmps238
     go_wp2_with fail
     go_ret
     exact ⟨ret_i (by rw [HS.out]; omega), rfl⟩
end Go.Proofs.YtpifnmlnhddgeaaGreatDoor
