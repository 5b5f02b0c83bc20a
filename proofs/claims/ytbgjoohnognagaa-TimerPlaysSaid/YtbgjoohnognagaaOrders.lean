/- RatioOrders' walk: for every three numbers it answers true. No condition. -/
import Derived.Test.YtbgjoohnognagaaShare
import Derived.Test.YtbgjoohnognagaaFloatC
namespace Go.Proofs.Ytbgjoohnognagaa
open Go.RowKit Ieee

theorem cmp3_neg (a b : Int) : cmp3 b a = -(cmp3 a b) := by
  unfold cmp3
  repeat' split
  all_goals omega

/-- What the law's comparisons of the first two say. -/
structure Three (x y : Nat) (c : Int) (l g : Bool) : Prop where
  lt : decide (rankN x < rankN y) = l
  gt : decide (rankN y < rankN x) = g
  xy : cmpN x y = c
  yx : cmpN y x = -c
  kind : (c = -1 ∧ l = true ∧ g = false) ∨ (c = 0 ∧ l = false ∧ g = false) ∨ (c = 1 ∧ l = false ∧ g = true)

theorem three (x y : Nat) : ∃ c l g, Three x y c l g := by
  have hn : cmpN y x = -(cmpN x y) := cmp3_neg _ _
  rcases Int.lt_trichotomy ((rankN x : Nat) : Int) ((rankN y : Nat) : Int) with h | h | h
  · have e : cmpN x y = -1 := by unfold cmpN cmp3; rw [if_pos h]
    exact ⟨-1, true, false, decide_eq_true (by omega), decide_eq_false (by omega), e, by rw [hn, e], by simp⟩
  · have e : cmpN x y = 0 := by unfold cmpN cmp3; rw [if_neg (by omega), if_neg (by omega)]
    exact ⟨0, false, false, decide_eq_false (by omega), decide_eq_false (by omega), e, by rw [hn, e], by simp⟩
  · have e : cmpN x y = 1 := by unfold cmpN cmp3; rw [if_neg (by omega), if_pos h]
    exact ⟨1, false, true, decide_eq_false (by omega), decide_eq_true (by omega), e, by rw [hn, e], by simp⟩
theorem cmp_trans (x y z : Nat) (c : Int) (h1 : cmpN x y = c) (hc : c ≤ 0) (h2 : cmpN y z ≤ 0) : cmpN x z ≤ 0 := by
  subst h1
  unfold cmpN cmp3 at *
  repeat' split at hc
  all_goals repeat' split at h2
  all_goals repeat' split
  all_goals omega

theorem u64_of {a : Int} (h : (Lit.int .u64 a).wf = true) : 0 ≤ a ∧ a ≤ 18446744073709551615 := by
  simpa [Lit.wf, IntKind.min, IntKind.max, IntKind.signed, IntKind.bits] using h
end Go.Proofs.Ytbgjoohnognagaa
