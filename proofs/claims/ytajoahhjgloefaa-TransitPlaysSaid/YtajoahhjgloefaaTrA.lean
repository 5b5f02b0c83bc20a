/- What a nil net answers, function by function; the iterator of a nil net. No condition. -/
import Derived.Test.YtajoahhjgloefaaNew
import Derived.Test.YtajoahhjgloefaaNum
import Derived.RangeFuncNested
import Derived.RangeFuncBound
import Derived.RangeFuncCalls
import Derived.RangeFuncLeaves
import Derived.OwnWalkIn
import Derived.TacticsInMore
import Derived.LoopNIn
import Derived.LoopIn
namespace Go.Proofs.Ytajoahhjgloefaa
open Go.RowKit

theorem lane_nil (a : Int) (w : World) : Calls Try.prog 28 #[.pointer none, .int .i64 a] w fun e w' => e = .returned (.tuple #[.pointer none, .iface 45 (.int .i64 11)]) ∧ w = w' := by
  go_enter Try.func28, Try.ntmps28
  go_wp2_with fail
  go_ret2
  exact ⟨rfl, rfl⟩
theorem pick_nil (a k : Int) (w : World) : Calls Try.prog 31 #[.pointer none, .int .i64 a, .int .u64 k] w fun e w' => e = .returned (.tuple #[.pointer none, .int .i64 0, .iface 45 (.int .i64 11)]) ∧ w = w' := by
  go_enter Try.func31, Try.ntmps31
  go_wp2_with fail
  refine (lane_nil a w).mono ?_
  rintro e w' ⟨rfl, rfl⟩
  go_wp2_with fail
  go_ret3
  exact ⟨rfl, rfl⟩
theorem send_nil (a : Int) (v : Value) (w : World) : Calls Try.prog 16 #[.pointer none, .int .i64 a, v] w fun e w' => e = .returned (.iface 45 (.int .i64 11)) ∧ w = w' := by
  go_enter Try.func16, Try.ntmps16
  go_wp2_with fail
  refine (lane_nil a w).mono ?_
  rintro e w' ⟨rfl, rfl⟩
  go_wp2_with fail
  go_ret
  exact ⟨rfl, rfl⟩
theorem take_nil (a k : Int) (w : World) : Calls Try.prog 11 #[.pointer none, .int .i64 a, .int .u64 k] w fun e w' => e = .returned (.tuple #[.slice none 0 0, .iface 45 (.int .i64 11)]) ∧ w = w' := by
  go_enter Try.func11, Try.ntmps11
  go_wp2_with fail
  refine (pick_nil a k w).mono ?_
  rintro e w' ⟨rfl, rfl⟩
  go_wp2_with fail
  go_ret2
  exact ⟨rfl, rfl⟩
theorem lose_nil (a k : Int) (w : World) : Calls Try.prog 12 #[.pointer none, .int .i64 a, .int .u64 k] w fun e w' => e = .returned (.iface 45 (.int .i64 11)) ∧ w = w' := by
  go_enter Try.func12, Try.ntmps12
  go_wp2_with fail
  refine (pick_nil a k w).mono ?_
  rintro e w' ⟨rfl, rfl⟩
  go_wp2_with fail
  go_ret
  exact ⟨rfl, rfl⟩
theorem twice_nil (a k : Int) (w : World) : Calls Try.prog 15 #[.pointer none, .int .i64 a, .int .u64 k] w fun e w' => e = .returned (.iface 45 (.int .i64 11)) ∧ w = w' := by
  go_enter Try.func15, Try.ntmps15
  go_wp2_with fail
  refine (pick_nil a k w).mono ?_
  rintro e w' ⟨rfl, rfl⟩
  go_wp2_with fail
  go_ret
  exact ⟨rfl, rfl⟩
theorem len_nil (a : Int) (w : World) : Calls Try.prog 14 #[.pointer none, .int .i64 a] w fun e w' => e = .returned (.int .i64 0) ∧ w = w' := by
  go_enter Try.func14, Try.ntmps14
  go_wp2_with fail
  refine (lane_nil a w).mono ?_
  rintro e w' ⟨rfl, rfl⟩
  go_wp2_with fail
  go_ret
  exact ⟨rfl, rfl⟩
theorem lost_nil (a : Int) (v : Value) (w : World) : Calls Try.prog 23 #[.pointer none, .int .i64 a, v] w fun e w' => e = .returned (.int .i64 0) ∧ w = w' := by
  go_enter Try.func23, Try.ntmps23
  go_wp2_with fail
  refine (lane_nil a w).mono ?_
  rintro e w' ⟨rfl, rfl⟩
  go_wp2_with fail
  go_ret
  exact ⟨rfl, rfl⟩
theorem ncopy_nil (w : World) : Calls Try.prog 25 #[.pointer none] w fun e w' => e = .returned (.pointer none) ∧ w = w' := by
  go_enter Try.func25, Try.ntmps25
  go_wp2_with fail
  go_ret
  exact ⟨rfl, rfl⟩

/-- The iterator's maker. -/
theorem all_any (v : Option Addr) (a : Int) (w : World) : Calls Try.prog 10 #[.pointer v, .int .i64 a] w fun e w' =>
    e = .returned (.func (.func 27) #[] #[.pointer (some ⟨w.heap.size, 0, none⟩), .pointer (some ⟨w.heap.size + 1, 0, none⟩)]) ∧ w' = (w.alloc (.cells #[.pointer v] 25)).alloc (.cells #[.int .i64 a] 3) := by
  go_enter Try.func10, Try.ntmps10
  go_wp2_with fail
  go_ret
  exact ⟨rfl, rfl⟩

/-- Nothing comes of a nil net. -/
theorem all1_nil (n : Nat) (a : Int) (b1 b2 : Nat) (w : World) (h1 : w.cell? ⟨b1, 0, none⟩ = some (.pointer none)) (h2 : w.cell? ⟨b2, 0, none⟩ = some (.int .i64 a)) :
    SeqStopsK (α := Unit) Fence.wide n Try.prog 27 #[.pointer (some ⟨b1, 0, none⟩), .pointer (some ⟨b2, 0, none⟩)] (fun _ => #[undef]) (Below w.heap.size) (fun xs => xs = []) (fun _ => False) 0 w := by
  intro l J Jx W hW hJ hJx hY h0
  refine callsIn_wide.2 ?_
  have i1 : W.cell? ⟨b1, 0, none⟩ = some (.pointer none) := New.cell_ hW h1
  have i2 : W.cell? ⟨b2, 0, none⟩ = some (.int .i64 a) := New.cell_ hW h2
  have H0 := Lib.hid h0
  clear hY hJ hJx hW h1 h2 h0
  show Calls Try.prog 27 #[.func (.yield l) #[] #[], .pointer (some ⟨b1, 0, none⟩), .pointer (some ⟨b2, 0, none⟩)] W _
  go_enter Try.func27, Try.ntmps27
  go_wp2_with fail
  refine (lane_nil a W).mono ?_
  rintro e w' ⟨rfl, rfl⟩
  go_wp2_with fail
  refine bodyPost_ret (v := .tuple #[]) (by simp [results, Try.results27, go_sem]) rfl ?_
  exact ⟨⟨_, rfl⟩, .inl ⟨[], rfl, H0.out⟩⟩
end Go.Proofs.Ytajoahhjgloefaa
