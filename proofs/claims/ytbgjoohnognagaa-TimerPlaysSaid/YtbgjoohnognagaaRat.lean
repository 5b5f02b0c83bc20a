/- The small functions of the ratio package and of the library beneath it: IsNaN, Bits, Of, Signbit, Compare. No condition. -/
import Derived.Test.YtbgjoohnognagaaFloatB
import Derived.Test.YtbgjoohnognagaaMem
import Derived.Test.YtbgjoohnognagaaRows
namespace Go.Proofs.Ytbgjoohnognagaa
open Go.RowKit Ieee

def nanB (b : Nat) : Bool := decide (9218868437227405312 < rung b)
theorem nanB_iff (b : Nat) : nanB b = true ↔ isNan b := by unfold nanB isNan; simp
theorem nanB_not (b : Nat) : nanB b = false ↔ ¬ isNan b := by unfold nanB isNan; simp

theorem run_fromb (n : Int) (w : World) : (callFunc 33 #[.int .u64 n]).run Try.prog w = .ok (.value (.float .f64 n.toNat)) w := by kernel_rfl
theorem run_tob (b : Nat) (w : World) : (callFunc 48 #[.float .f64 b]).run Try.prog w = .ok (.value (.int .u64 b)) w := by kernel_rfl

theorem ord_nan {x y : Nat} (hx : x < 18446744073709551616) (hy : y < 18446744073709551616) (h : nanB x = true ∨ nanB y = true) : FloatKind.f64.format.order x y = none :=
  order_nan hx hy (h.imp (nanB_iff _).1 (nanB_iff _).1)
theorem ord_lt {x y : Nat} (hx : x < 18446744073709551616) (hy : y < 18446744073709551616) (nx : nanB x = false) (ny : nanB y = false) (h : key x < key y) : FloatKind.f64.format.order x y = some .lt := by
  show double.order x y = _
  rw [order_key hx hy ((nanB_not _).1 nx) ((nanB_not _).1 ny), compare_int, if_pos h]
theorem ord_gt {x y : Nat} (hx : x < 18446744073709551616) (hy : y < 18446744073709551616) (nx : nanB x = false) (ny : nanB y = false) (h : key y < key x) : FloatKind.f64.format.order x y = some .gt := by
  show double.order x y = _
  rw [order_key hx hy ((nanB_not _).1 nx) ((nanB_not _).1 ny), compare_int, if_neg (by omega), if_neg (by omega)]
theorem ord_eq {x y : Nat} (hx : x < 18446744073709551616) (hy : y < 18446744073709551616) (nx : nanB x = false) (ny : nanB y = false) (h : key x = key y) : FloatKind.f64.format.order x y = some .eq := by
  show double.order x y = _
  rw [order_key hx hy ((nanB_not _).1 nx) ((nanB_not _).1 ny), compare_int, if_neg (by omega), if_pos h]

theorem isnan_any (x : Nat) (hx : x < 18446744073709551616) (w : World) : Calls Try.prog 44 #[.float .f64 x] w fun e w' => e = .returned (.bool (nanB x)) ∧ w = w' := by
  cases hn : nanB x
  · have ho := ord_eq hx hx hn hn rfl
    go_enter Try.func44, Try.ntmps44
    go_wp2_with fail
    go_ret
    exact ⟨rfl, rfl⟩
  · have ho := ord_nan hx hx (Or.inl hn)
    go_enter Try.func44, Try.ntmps44
    go_wp2_with fail
    go_ret
    exact ⟨rfl, rfl⟩
def bitsOf (x : Nat) : Nat := if nanB x then 9221120237041090561 else x
theorem bits_any (x : Nat) (hx : x < 18446744073709551616) (w : World) : Calls Try.prog 38 #[.float .f64 x] w fun e w' => e = .returned (.int .u64 (bitsOf x : Nat)) ∧ w = w' := by
  have ht := run_tob x
  cases hn : nanB x
  · have hb : bitsOf x = x := by unfold bitsOf; rw [hn]; rfl
    have HB := Lib.hid hb
    clear hb
    go_enter Try.func38, Try.ntmps38
    go_wp2_with fail
    refine (isnan_any x hx w).mono ?_
    rintro e w1 ⟨rfl, rfl⟩
    go_wp2_with fail
    go_ret
    exact ⟨by rw [HB.out]; rfl, rfl⟩
  · have hb : bitsOf x = 9221120237041090561 := by unfold bitsOf; rw [hn]; rfl
    have HB := Lib.hid hb
    clear hb
    go_enter Try.func38, Try.ntmps38
    go_wp2_with fail
    refine (isnan_any x hx w).mono ?_
    rintro e w1 ⟨rfl, rfl⟩
    go_wp2_with fail
    go_ret
    exact ⟨by rw [HB.out]; rfl, rfl⟩
end Go.Proofs.Ytbgjoohnognagaa
