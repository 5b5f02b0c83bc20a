/- RatioOrders' walk: for every three numbers it answers true. No condition. -/
import Derived.Test.YtejdekagejdepaaShare
import Derived.Test.YtejdekagejdepaaFloatC
namespace Go.Proofs.Ytejdekagejdepaa
open Go.RowKit Ieee

theorem cmp3_neg (a b : Int) : cmp3 b a = -(cmp3 a b) := by
  unfold cmp3
  repeat' split
  all_goals omega

/-- What the law's comparisons of the first two say. -/
structure Three (x y : Nat) (c : Int) (l g : Bool) : Prop where
  lt : decide (rankN x < rankN y) = l
  gt : decide (rankN y < rankN x) = g
  xy : cmpN x y = c
  yx : cmpN y x = -c
  kind : (c = -1 ∧ l = true ∧ g = false) ∨ (c = 0 ∧ l = false ∧ g = false) ∨ (c = 1 ∧ l = false ∧ g = true)

theorem three (x y : Nat) : ∃ c l g, Three x y c l g := by
  have hn : cmpN y x = -(cmpN x y) := cmp3_neg _ _
  rcases Int.lt_trichotomy ((rankN x : Nat) : Int) ((rankN y : Nat) : Int) with h | h | h
  · have e : cmpN x y = -1 := by unfold cmpN cmp3; rw [if_pos h]
    exact ⟨-1, true, false, decide_eq_true (by omega), decide_eq_false (by omega), e, by rw [hn, e], by simp⟩
  · have e : cmpN x y = 0 := by unfold cmpN cmp3; rw [if_neg (by omega), if_neg (by omega)]
    exact ⟨0, false, false, decide_eq_false (by omega), decide_eq_false (by omega), e, by rw [hn, e], by simp⟩
  · have e : cmpN x y = 1 := by unfold cmpN cmp3; rw [if_neg (by omega), if_pos h]
    exact ⟨1, false, true, decide_eq_false (by omega), decide_eq_true (by omega), e, by rw [hn, e], by simp⟩
theorem cmp_trans (x y z : Nat) (c : Int) (h1 : cmpN x y = c) (hc : c ≤ 0) (h2 : cmpN y z ≤ 0) : cmpN x z ≤ 0 := by
  subst h1
  unfold cmpN cmp3 at *
  repeat' split at hc
  all_goals repeat' split at h2
  all_goals repeat' split
  all_goals omega

theorem orders_at (a b c : Nat) (ha : a < 18446744073709551616) (hb : b < 18446744073709551616) (hc : c < 18446744073709551616) (k : Int) (l g : Bool) (h3 : Three a b k l g) (w : World) :
    Calls Try.prog 4 #[.int .u64 (a : Int), .int .u64 (b : Int), .int .u64 (c : Int)] w fun e w' => e = .returned (.bool true) ∧ Below w.heap.size w w' := by
  have HA := Lib.hid ha
  have HB := Lib.hid hb
  have HC := Lib.hid hc
  have hk := h3.kind
  have lt := h3.lt
  have gt := h3.gt
  have HXY := Lib.hid h3.xy
  have HYX := Lib.hid h3.yx
  have hz : k ≤ 0 → (decide (0 < cmpN b c) = true ∨ (decide (0 < cmpN b c) = false ∧ decide (cmpN a c ≤ 0) = true)) := fun h0 => by
    by_cases h : 0 < cmpN b c
    · left; simpa using h
    · right; exact ⟨by simpa using h, by simpa using cmp_trans a b c k h3.xy h0 (by omega)⟩
  have HZ := Lib.hid hz
  clear h3 ha hb hc hz
  have hb : bitsOf a = if nanB a = true then 9221120237041090561 else a := rfl
  cases hn : nanB a
  all_goals
    rw [hn] at hb
    simp only [Bool.false_eq_true, if_false, if_true] at hb
    have HN := Lib.hid hb
    have HM := Lib.hid hn
    clear hb hn
    rcases hk with ⟨rfl, rfl, rfl⟩ | ⟨rfl, rfl, rfl⟩ | ⟨rfl, rfl, rfl⟩
  all_goals
    go_enter Try.func4, Try.ntmps4
    go_wp2_with fail
    refine (alive_any w).mono ?_
    rintro e w1 ⟨rfl, b1⟩
    go_wp2_with fail
    refine (of_any a w1).mono ?_
    rintro e w2 ⟨rfl, rfl⟩
    go_wp2_with fail
    refine (of_any b w1).mono ?_
    rintro e w2 ⟨rfl, rfl⟩
    go_wp2_with fail
    refine (of_any c w1).mono ?_
    rintro e w2 ⟨rfl, rfl⟩
    go_wp2_with fail
    refine (rank_any a HA.out w1).mono ?_
    rintro e w2 ⟨rfl, rfl⟩
    go_wp2_with fail
    refine (rank_any b HB.out w1).mono ?_
    rintro e w2 ⟨rfl, rfl⟩
    go_wp2_with fail
    refine (compare_any a b HA.out HB.out w1).mono ?_
    rw [HXY.out]
    rintro e w2 ⟨rfl, rfl⟩
    go_wp2_with fail
    refine (compare_any b a HB.out HA.out w1).mono ?_
    rw [HYX.out]
    rintro e w2 ⟨rfl, rfl⟩
    go_wp2_with fail
    refine (rnan_any a HA.out w1).mono ?_
    rw [HM.out]
    rintro e w2 ⟨rfl, rfl⟩
    go_wp2_with fail
  · refine (bits_any a HA.out w1).mono ?_
    rw [HN.out]
    rintro e w2 ⟨rfl, rfl⟩
    go_wp2_with fail
    refine (rnan_any a HA.out w1).mono ?_
    rw [HM.out]
    rintro e w2 ⟨rfl, rfl⟩
    go_wp2_with fail
    refine (compare_any a b HA.out HB.out w1).mono ?_
    rw [HXY.out]
    rintro e w2 ⟨rfl, rfl⟩
    go_wp2_with fail
    rcases HZ.out (by omega) with hz | ⟨hz, hy⟩
    · refine (compare_any b c HB.out HC.out w1).mono ?_
      rintro e w2 ⟨rfl, rfl⟩
      go_wp2_with fail
      go_ret
      exact ⟨rfl, b1⟩
    · refine (compare_any b c HB.out HC.out w1).mono ?_
      rintro e w2 ⟨rfl, rfl⟩
      go_wp2_with fail
      refine (compare_any a c HA.out HC.out w1).mono ?_
      rintro e w2 ⟨rfl, rfl⟩
      go_wp2_with fail
      go_ret
      exact ⟨rfl, b1⟩
  · refine (bits_any a HA.out w1).mono ?_
    rw [HN.out]
    rintro e w2 ⟨rfl, rfl⟩
    go_wp2_with fail
    refine (rnan_any a HA.out w1).mono ?_
    rw [HM.out]
    rintro e w2 ⟨rfl, rfl⟩
    go_wp2_with fail
    refine (compare_any a b HA.out HB.out w1).mono ?_
    rw [HXY.out]
    rintro e w2 ⟨rfl, rfl⟩
    go_wp2_with fail
    rcases HZ.out (by omega) with hz | ⟨hz, hy⟩
    · refine (compare_any b c HB.out HC.out w1).mono ?_
      rintro e w2 ⟨rfl, rfl⟩
      go_wp2_with fail
      go_ret
      exact ⟨rfl, b1⟩
    · refine (compare_any b c HB.out HC.out w1).mono ?_
      rintro e w2 ⟨rfl, rfl⟩
      go_wp2_with fail
      refine (compare_any a c HA.out HC.out w1).mono ?_
      rintro e w2 ⟨rfl, rfl⟩
      go_wp2_with fail
      go_ret
      exact ⟨rfl, b1⟩
  · refine (bits_any a HA.out w1).mono ?_
    rw [HN.out]
    rintro e w2 ⟨rfl, rfl⟩
    go_wp2_with fail
    refine (rnan_any a HA.out w1).mono ?_
    rw [HM.out]
    rintro e w2 ⟨rfl, rfl⟩
    go_wp2_with fail
    refine (compare_any a b HA.out HB.out w1).mono ?_
    rw [HXY.out]
    rintro e w2 ⟨rfl, rfl⟩
    go_wp2_with fail
    go_ret
    exact ⟨rfl, b1⟩
  · refine (rnan_any a HA.out w1).mono ?_
    rw [HM.out]
    rintro e w2 ⟨rfl, rfl⟩
    go_wp2_with fail
    refine (bits_any a HA.out w1).mono ?_
    rw [HN.out]
    rintro e w2 ⟨rfl, rfl⟩
    go_wp2_with fail
    refine (compare_any a b HA.out HB.out w1).mono ?_
    rw [HXY.out]
    rintro e w2 ⟨rfl, rfl⟩
    go_wp2_with fail
    rcases HZ.out (by omega) with hz | ⟨hz, hy⟩
    · refine (compare_any b c HB.out HC.out w1).mono ?_
      rintro e w2 ⟨rfl, rfl⟩
      go_wp2_with fail
      go_ret
      exact ⟨rfl, b1⟩
    · refine (compare_any b c HB.out HC.out w1).mono ?_
      rintro e w2 ⟨rfl, rfl⟩
      go_wp2_with fail
      refine (compare_any a c HA.out HC.out w1).mono ?_
      rintro e w2 ⟨rfl, rfl⟩
      go_wp2_with fail
      go_ret
      exact ⟨rfl, b1⟩
  · refine (rnan_any a HA.out w1).mono ?_
    rw [HM.out]
    rintro e w2 ⟨rfl, rfl⟩
    go_wp2_with fail
    refine (bits_any a HA.out w1).mono ?_
    rw [HN.out]
    rintro e w2 ⟨rfl, rfl⟩
    go_wp2_with fail
    refine (compare_any a b HA.out HB.out w1).mono ?_
    rw [HXY.out]
    rintro e w2 ⟨rfl, rfl⟩
    go_wp2_with fail
    rcases HZ.out (by omega) with hz | ⟨hz, hy⟩
    · refine (compare_any b c HB.out HC.out w1).mono ?_
      rintro e w2 ⟨rfl, rfl⟩
      go_wp2_with fail
      go_ret
      exact ⟨rfl, b1⟩
    · refine (compare_any b c HB.out HC.out w1).mono ?_
      rintro e w2 ⟨rfl, rfl⟩
      go_wp2_with fail
      refine (compare_any a c HA.out HC.out w1).mono ?_
      rintro e w2 ⟨rfl, rfl⟩
      go_wp2_with fail
      go_ret
      exact ⟨rfl, b1⟩
  · refine (rnan_any a HA.out w1).mono ?_
    rw [HM.out]
    rintro e w2 ⟨rfl, rfl⟩
    go_wp2_with fail
    refine (bits_any a HA.out w1).mono ?_
    rw [HN.out]
    rintro e w2 ⟨rfl, rfl⟩
    go_wp2_with fail
    refine (compare_any a b HA.out HB.out w1).mono ?_
    rw [HXY.out]
    rintro e w2 ⟨rfl, rfl⟩
    go_wp2_with fail
    go_ret
    exact ⟨rfl, b1⟩
theorem u64_of {a : Int} (h : (Lit.int .u64 a).wf = true) : 0 ≤ a ∧ a ≤ 18446744073709551615 := by
  simpa [Lit.wf, IntKind.min, IntKind.max, IntKind.signed, IntKind.bits] using h
theorem orders_law (a : Int) (ha : (Lit.int .u64 a).wf = true) (b : Int) (hb : (Lit.int .u64 b).wf = true) (c : Int) (hc : (Lit.int .u64 c).wf = true) (w : World) :
    Calls Try.prog 4 #[.int .u64 a, .int .u64 b, .int .u64 c] w fun e w' => e = .returned (.bool true) ∧ Below w.heap.size w w' := by
  have ka := u64_of ha
  have kb := u64_of hb
  have kc := u64_of hc
  obtain ⟨a, rfl⟩ := Int.eq_ofNat_of_zero_le ka.1
  obtain ⟨b, rfl⟩ := Int.eq_ofNat_of_zero_le kb.1
  obtain ⟨c, rfl⟩ := Int.eq_ofNat_of_zero_le kc.1
  obtain ⟨k, l, g, h⟩ := three a b
  exact orders_at a b c (by omega) (by omega) (by omega) k l g h w
end Go.Proofs.Ytejdekagejdepaa
