/- Windows: New, Renew, Get. No condition. -/
import Derived.Test.YthhgepnneaehhaaWsC
namespace Go.Proofs.Ythhgepnneaehhaa.Ws
open Go.Proofs.Ythhgepnneaehhaa
open Go.RowKit

theorem new_bad (m : Int) (w : World) (h : m < 1 ∨ 1024 < m) : Calls Try.prog 7 #[.int .i64 m] w fun e w' => e = .returned (.tuple #[.pointer none, .iface 46 (.int .i64 1)]) ∧ w = w' := by
  by_cases h1 : m < 1
  · go_enter Try.func7, Try.ntmps7
    go_wp2_with fail
    go_ret2
    exact ⟨rfl, rfl⟩
  · have h2 : 1024 < m := by omega
    clear h
    go_enter Try.func7, Try.ntmps7
    go_wp2_with fail
    go_ret2
    exact ⟨rfl, rfl⟩
theorem new_any (m : Int) (base : Nat) (w : World) (h1 : 1 ≤ m) (h2 : m ≤ 1024) (hb : base ≤ w.heap.size) : Calls Try.prog 7 #[.int .i64 m] w fun e w' => e = .returned (.tuple #[.pointer (some ⟨w.heap.size, 0, none⟩), .nilIface]) ∧
    Win w' base w.heap.size (.slice none 0 0) [] m 0 ∧ Below w.heap.size w w' := by
  go_enter Try.func7, Try.ntmps7
  go_wp2_with fail
  go_ret2
  exact ⟨rfl, ⟨hb, Blk.new _ _ _, World.ownsRow_nil _ _ _ _, Nat.zero_le _⟩, (Below.refl _ _).alloc (Nat.le_refl _) _⟩

end Go.Proofs.Ythhgepnneaehhaa.Ws
