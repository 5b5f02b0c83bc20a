/- How many sectors a record needs; what a nil log and a nil disk answer. No condition but that numbers are of their kinds. -/
import Derived.Test.YteeclfejgpgooaaDoorNew
import Derived.Test.YteeclfejgpgooaaDoorNum
namespace Go.Proofs.YteeclfejgpgooaaDoor
open Go.RowKit

/-- How many sectors a record of n bytes needs. -/
def secs (n : Int) : Int := if 1 ≤ n ∧ n ≤ 65536 then (n + 74) / 55 else 0
theorem secs_le (n : Int) : 0 ≤ secs n ∧ secs n ≤ 1193 := by
  unfold secs
  split <;> omega
theorem secs_0 {n : Int} (h : ¬ (1 ≤ n ∧ n ≤ 65536)) : secs n = 0 := if_neg h
theorem secs_in {n : Int} (h1 : 1 ≤ n) (h2 : n ≤ 65536) : secs n = (n + 74) / 55 := if_pos ⟨h1, h2⟩
theorem ret_i {a b : Int} (h : a = b) : Ending.returned (.int .i64 a) = Ending.returned (.int .i64 b) := by rw [h]
theorem sectors_any (n : Int) (w : World) : Calls Tryd.prog 22 #[.int .i64 n] w fun e w' => e = .returned (.int .i64 (secs n)) ∧ w = w' := by
  by_cases h1 : n < 1
  · have HS := Lib.hid (secs_0 (n := n) (by omega))
    go_enter Tryd.func22, Tryd.ntmps22
    go_wp2_with fail
    go_ret
    exact ⟨ret_i (a := 0) HS.out.symm, rfl⟩
  · by_cases h2 : 65536 < n
    · have HS := Lib.hid (secs_0 (n := n) (by omega))
      go_enter Tryd.func22, Tryd.ntmps22
      go_wp2_with fail
      go_ret
      exact ⟨ret_i (a := 0) HS.out.symm, rfl⟩
    · have HS := Lib.hid (secs_in (n := n) (by omega) (by omega))
      have h3 : 1 ≤ n := by omega
      have h4 : n ≤ 65536 := by omega
      go_enter Tryd.func22, Tryd.ntmps22
      go_wp2_with fail
      go_ret
      exact ⟨ret_i (by rw [HS.out]; omega), rfl⟩
theorem rsectors_any (n : Int) (w : World) : Calls Tryd.prog 23 #[.int .i64 n] w fun e w' => e = .returned (.int .i64 (secs n)) ∧ w = w' := by
  by_cases h1 : n < 1
  · have HS := Lib.hid (secs_0 (n := n) (by omega))
    go_enter Tryd.func23, Tryd.ntmps23
    go_wp2_with fail
    go_ret
    exact ⟨ret_i (a := 0) HS.out.symm, rfl⟩
  · by_cases h2 : 65536 < n
    · have HS := Lib.hid (secs_0 (n := n) (by omega))
      go_enter Tryd.func23, Tryd.ntmps23
      go_wp2_with fail
      go_ret
      exact ⟨ret_i (a := 0) HS.out.symm, rfl⟩
    · have HS := Lib.hid (secs_in (n := n) (by omega) (by omega))
      have h3 : 1 ≤ n := by omega
      have h4 : n ≤ 65536 := by omega
      go_enter Tryd.func23, Tryd.ntmps23
      go_wp2_with fail
      go_loop [3] (fun i => ∃ k : Nat, 55 * (k : Int) < n + 75 ∧ i = .int .i64 k) (fun i => 1300 - (intOf i).toNat)
      case atStart => exact ⟨0, by omega, rfl⟩
      case round =>
        obtain ⟨k, hk, rfl⟩ := hrel
        by_cases hlt : 55 * (k : Int) < n + 20
        · go_wp2_with fail
          go_round
          case rel => exact ⟨k + 1, by omega, by go_num⟩
          case measure => simp [intOf]; omega
        · go_wp2_with fail
          go_ret
          exact ⟨ret_i (a := k) (by rw [HS.out]; omega), rfl⟩
theorem alive_any (w : World) : Calls Tryd.prog 7 #[] w fun e w' => e = .returned (.bool true) ∧ w = w' := by
  have s1 : secs 1 = 1 := by decide
  have s2 : secs 36 = 2 := by decide
  have s3 : secs 35 = 1 := by decide
  go_enter Tryd.func7, Tryd.ntmps7
  go_wp2_with (go_at_call 22; refine (sectors_any _ _).mono ?_; rintro e w' ⟨rfl, rfl⟩)
  go_ret
  exact ⟨rfl, rfl⟩
theorem at_nil (a b c : Int) (w : World) : Calls Tryd.prog 39 #[.pointer none, .int .i64 a, .int .i64 b, .int .u32 c] w fun e w' => e = .returned (.tuple #[.pointer none, .iface 63 (.int .i64 11)]) ∧ w = w' := by
  go_enter Tryd.func39, Tryd.ntmps39
  go_wp2_with fail
  go_ret2
  exact ⟨rfl, rfl⟩
theorem open_nil (a b c : Int) (w : World) : Calls Tryd.prog 12 #[.pointer none, .int .i64 a, .int .i64 b, .int .u32 c] w fun e w' => e = .returned (.tuple #[.pointer none, .slice none 0 0, .iface 63 (.int .i64 11)]) ∧ w = w' := by
  go_enter Tryd.func12, Tryd.ntmps12
  go_wp2_with (go_at_call 39; refine (at_nil _ _ _ _).mono ?_; rintro e w' ⟨rfl, rfl⟩)
  refine bodyPost_ret (v := .tuple #[.pointer none, .slice none 0 0, .iface 63 (.int .i64 11)]) (by simp [results, Tryd.results12, go_sem]) rfl ⟨rfl, rfl⟩
theorem fresh_nil (a b c : Int) (w : World) : Calls Tryd.prog 21 #[.pointer none, .int .i64 a, .int .i64 b, .int .u32 c] w fun e w' => e = .returned (.tuple #[.pointer none, .iface 63 (.int .i64 11)]) ∧ w = w' := by
  go_enter Tryd.func21, Tryd.ntmps21
  go_wp2_with (go_at_call 39; refine (at_nil _ _ _ _).mono ?_; rintro e w' ⟨rfl, rfl⟩)
  go_ret2
  exact ⟨rfl, rfl⟩
theorem app_nil (A : Option Addr) (n c : Nat) (w : World) : Calls Tryd.prog 25 #[.pointer none, .slice A n c] w fun e w' => e = .returned (.iface 63 (.int .i64 11)) ∧ w = w' := by
  go_enter Tryd.func25, Tryd.ntmps25
  go_wp2_with (go_at_call 22; refine (sectors_any _ _).mono ?_; rintro e w' ⟨rfl, rfl⟩)
  go_ret
  exact ⟨rfl, rfl⟩
theorem used_nil (w : World) : Calls Tryd.prog 16 #[.pointer none] w fun e w' => e = .returned (.int .i64 0) ∧ w = w' := by
  go_enter Tryd.func16, Tryd.ntmps16
  go_wp2_with fail
  go_ret
  exact ⟨rfl, rfl⟩
theorem size_nil (w : World) : Calls Tryd.prog 26 #[.pointer none] w fun e w' => e = .returned (.int .i64 0) ∧ w = w' := by
  go_enter Tryd.func26, Tryd.ntmps26
  go_wp2_with fail
  go_ret
  exact ⟨rfl, rfl⟩
theorem gen_nil (w : World) : Calls Tryd.prog 27 #[.pointer none] w fun e w' => e = .returned (.int .u32 0) ∧ w = w' := by
  go_enter Tryd.func27, Tryd.ntmps27
  go_wp2_with fail
  go_ret
  exact ⟨rfl, rfl⟩
def z16 : Value := .agg #[.int .u8 0, .int .u8 0, .int .u8 0, .int .u8 0, .int .u8 0, .int .u8 0, .int .u8 0, .int .u8 0, .int .u8 0, .int .u8 0, .int .u8 0, .int .u8 0, .int .u8 0, .int .u8 0, .int .u8 0, .int .u8 0]
theorem tag_nil (w : World) : Calls Tryd.prog 28 #[.pointer none] w fun e w' => e = .returned z16 ∧ New w w' := by
  unfold z16
  go_enter Tryd.func28, Tryd.ntmps28
  go_wp2_with fail
  refine bodyPost_ret (v := z16) (by simp [results, Tryd.results28, go_sem, z16]) rfl ⟨rfl, ?_⟩
  repeat (first | exact New.refl _ | refine New.al ?_ _ | (refine New.set ?_ (by simp) _))
end Go.Proofs.YteeclfejgpgooaaDoor
