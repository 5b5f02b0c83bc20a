/- Windows: New, Renew, Get. No condition. -/
import Derived.Test.YthhgepnneaehhaaWinC
namespace Go.Proofs.Ythhgepnneaehhaa.Wi
open Go.Proofs.Ythhgepnneaehhaa
open Go.RowKit

theorem new_bad (m : Int) (w : World) (h : m < 1 ∨ 1024 < m) : Calls Try.prog 12 #[.int .i64 m] w fun e w' => e = .returned (.tuple #[.pointer none, .iface 46 (.int .i64 1)]) ∧ w = w' := by
  by_cases h1 : m < 1
  · go_enter Try.func12, Try.ntmps12
    go_wp2_with fail
    go_ret2
    exact ⟨rfl, rfl⟩
  · have h2 : 1024 < m := by omega
    clear h
    go_enter Try.func12, Try.ntmps12
    go_wp2_with fail
    go_ret2
    exact ⟨rfl, rfl⟩
theorem new_any (m : Int) (base : Nat) (w : World) (h1 : 1 ≤ m) (h2 : m ≤ 1024) (hb : base ≤ w.heap.size) : Calls Try.prog 12 #[.int .i64 m] w fun e w' => e = .returned (.tuple #[.pointer (some ⟨w.heap.size, 0, none⟩), .nilIface]) ∧
    Win w' base w.heap.size (.slice none 0 0) [] m 0 ∧ Below w.heap.size w w' := by
  go_enter Try.func12, Try.ntmps12
  go_wp2_with fail
  go_ret2
  exact ⟨rfl, ⟨hb, Blk.new _ _ _, World.ownsRow_nil _ _ _ _, Nat.zero_le _⟩, (Below.refl _ _).alloc (Nat.le_refl _) _⟩

theorem get_nil (a : Int) (w : World) : Calls Try.prog 23 #[.pointer none, .int .u64 a] w fun e w' => e = .returned (.tuple #[.int .i64 0, .bool false]) ∧ Below w.heap.size w w' := by
  go_enter Try.func23, Try.ntmps23
  go_wp2_with fail
  refine (place_nil a w).mono ?_
  rintro e w1 ⟨rfl, hb1⟩
  go_wp2_with fail
  go_ret2
  exact ⟨rfl, hb1⟩
theorem renew_nil (a : Int) (x : Value) (w : World) : Calls Try.prog 18 #[.pointer none, .int .u64 a, x] w fun e w' => e = .returned (.tuple #[.int .u64 0, .iface 46 (.int .i64 11)]) ∧ Below w.heap.size w w' := by
  go_enter Try.func18, Try.ntmps18
  go_wp2_with fail
  refine (place_nil a w).mono ?_
  rintro e w1 ⟨rfl, hb1⟩
  go_wp2_with fail
  go_ret2
  exact ⟨rfl, hb1⟩
theorem numbers_nil (f : Value) (w : World) : Calls Try.prog 37 #[.pointer none, f] w fun e w' => e = .returned (.slice none 0 0) ∧ w = w' := by
  go_enter Try.func37, Try.ntmps37
  go_wp2_with fail
  go_ret
  exact ⟨rfl, rfl⟩
theorem all_nil (w : World) : Calls Try.prog 25 #[.pointer none] w fun e w' => e = .returned (.slice none 0 0) ∧ w = w' := by
  go_enter Try.func25, Try.ntmps25
  go_wp2_with fail
  refine (numbers_nil _ _).mono ?_
  rintro e w1 ⟨rfl, rfl⟩
  go_wp2_with fail
  go_ret
  exact ⟨rfl, rfl⟩
theorem open_nil (w : World) : Calls Try.prog 26 #[.pointer none] w fun e w' => e = .returned (.slice none 0 0) ∧ w = w' := by
  go_enter Try.func26, Try.ntmps26
  go_wp2_with fail
  refine (numbers_nil _ _).mono ?_
  rintro e w1 ⟨rfl, rfl⟩
  go_wp2_with fail
  go_ret
  exact ⟨rfl, rfl⟩
end Go.Proofs.Ythhgepnneaehhaa.Wi
