/- Compare, and the reference's Rank. No condition. -/
import Derived.Test.YtbgjoohnognagaaRat
namespace Go.Proofs.Ytbgjoohnognagaa
open Go.RowKit Ieee

theorem key_lo {x : Nat} (h : x < 9223372036854775808) : key x = x ∧ neg63 x = false := by
  have h1 : neg63 x = false := by unfold neg63; simp; omega
  refine ⟨?_, h1⟩
  unfold key rung; rw [h1, if_neg (by simp)]; omega
theorem key_hi {x : Nat} (h : 9223372036854775808 ≤ x) (hx : x < 18446744073709551616) : key x = -((x : Int) - 9223372036854775808) ∧ neg63 x = true := by
  have h1 : neg63 x = true := by unfold neg63; exact decide_eq_true h
  refine ⟨?_, h1⟩
  unfold key rung; rw [h1, if_pos rfl]; omega

/-- The sign of a difference. -/
def cmp3 (a b : Int) : Int := if a < b then -1 else if b < a then 1 else 0
/-- Where a number stands: the reference's Rank. -/
def rankN (x : Nat) : Nat := if nanB x then 18446744073709551615 else if 9223372036854775808 ≤ x then 18446744073709551615 - x else x + 9223372036854775808

theorem rnan_any (x : Nat) (hx : x < 18446744073709551616) (w : World) : Calls Try.prog 52 #[.float .f64 x] w fun e w' => e = .returned (.bool (nanB x)) ∧ w = w' := by
  cases hn : nanB x
  · have ho := ord_eq hx hx hn hn rfl
    go_enter Try.func52, Try.ntmps52
    go_wp2_with fail
    go_ret
    exact ⟨rfl, rfl⟩
  · have ho := ord_nan hx hx (Or.inl hn)
    go_enter Try.func52, Try.ntmps52
    go_wp2_with fail
    go_ret
    exact ⟨rfl, rfl⟩
theorem cmp3_congr {a b c d : Int} (h1 : a < b ↔ c < d) (h2 : b < a ↔ d < c) : cmp3 a b = cmp3 c d := by unfold cmp3; simp only [h1, h2]
theorem rank_hi {x : Nat} (n : nanB x = false) (h : 9223372036854775808 ≤ x) (hx : x < 18446744073709551616) : ((rankN x : Nat) : Int) = 18446744073709551615 - x := by
  unfold rankN; rw [n]; simp [h]; omega
theorem rank_lo {x : Nat} (n : nanB x = false) (h : x < 9223372036854775808) : ((rankN x : Nat) : Int) = x + 9223372036854775808 := by
  unfold rankN; rw [n, if_neg (by simp), if_neg (by omega)]; omega
theorem z64 : 0 < 18446744073709551616 := Nat.succ_pos _
theorem nan0 : nanB 0 = false := by decide +kernel
theorem key0 : key 0 = 0 := by decide +kernel
/-- What Compare answers. -/
def cmpN (x y : Nat) : Int := cmp3 (rankN x) (rankN y)

end Go.Proofs.Ytbgjoohnognagaa
