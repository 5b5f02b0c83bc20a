/- Doubles of whole numbers: they rise with the number; whole doubles, made whole, stay. No condition. -/
import Derived.Test.YtbgjoohnognagaaFloatD
namespace Go.Proofs.Ytbgjoohnognagaa
open Ieee

/-- What is kept of a whole number's digits. -/
def kept (s : Bool) (m : Nat) : Nat := Toward.even.cut s (m * 2 ^ (52 - m.log2)) (m.log2 - 52)

theorem cut_even (s : Bool) (n d : Nat) (h : d ≤ n.log2 + 2) : Toward.even.cut s n d = n / 2 ^ d + (decide (2 ^ d < 2 * (n % 2 ^ d)) || (2 ^ d == 2 * (n % 2 ^ d) && n / 2 ^ d % 2 == 1)).toNat := by
  unfold Toward.cut
  rw [Nat.min_eq_left h, Nat.shiftLeft_eq, Nat.one_mul]

theorem even_mono {g l r l' r' : Nat} (h : l < l' ∨ (l = l' ∧ r ≤ r')) :
    l + (decide (g < 2 * r) || (g == 2 * r && l % 2 == 1)).toNat ≤ l' + (decide (g < 2 * r') || (g == 2 * r' && l' % 2 == 1)).toNat := by
  rcases h with h | ⟨rfl, h⟩
  · have : (decide (g < 2 * r) || (g == 2 * r && l % 2 == 1)).toNat ≤ 1 := Bool.toNat_le _
    omega
  · apply Nat.add_le_add_left
    by_cases h1 : g < 2 * r
    · rw [decide_eq_true h1, decide_eq_true (show g < 2 * r' by omega)]; simp
    · rw [decide_eq_false h1]
      by_cases h2 : g = 2 * r
      · by_cases h3 : g < 2 * r'
        · rw [decide_eq_true h3]; simp; exact Bool.toNat_le _
        · have : r = r' := by omega
          subst this
          rw [decide_eq_false h3]; exact Nat.le_refl _
      · have : (g == 2 * r) = false := by simp [h2]
        rw [this]; simp

theorem kept_bounds (s : Bool) (m : Nat) (hm : m ≠ 0) : 4503599627370496 ≤ kept s m ∧ kept s m ≤ 9007199254740992 := by
  have hlo : 2 ^ m.log2 ≤ m := Nat.log2_self_le hm
  have hhi : m < 2 ^ (m.log2 + 1) := Nat.lt_log2_self
  unfold kept
  rcases Nat.le_total m.log2 52 with h | h
  · have e : m.log2 - 52 = 0 := by omega
    rw [e]
    have := cut_exact s (m * 2 ^ (52 - m.log2)) 0
    rw [Nat.pow_zero, Nat.mul_one] at this
    rw [this]
    have hp : 0 < 2 ^ (52 - m.log2) := Nat.pow_pos (by omega)
    have e1 : 2 ^ m.log2 * 2 ^ (52 - m.log2) = 4503599627370496 := by rw [← Nat.pow_add, show m.log2 + (52 - m.log2) = 52 by omega]
    have e2 : 2 ^ (m.log2 + 1) * 2 ^ (52 - m.log2) = 9007199254740992 := by rw [← Nat.pow_add, show m.log2 + 1 + (52 - m.log2) = 53 by omega]
    have a1 := Nat.mul_le_mul_right (2 ^ (52 - m.log2)) hlo
    have a2 := Nat.mul_lt_mul_of_pos_right hhi hp
    omega
  · have e : 52 - m.log2 = 0 := by omega
    rw [e, Nat.pow_zero, Nat.mul_one, cut_even s m _ (by omega)]
    have hp : 0 < 2 ^ (m.log2 - 52) := Nat.pow_pos (by omega)
    have e1 : 2 ^ m.log2 = 4503599627370496 * 2 ^ (m.log2 - 52) := by rw [show (4503599627370496 : Nat) = 2 ^ 52 by rfl, ← Nat.pow_add, show 52 + (m.log2 - 52) = m.log2 by omega]
    have e2 : 2 ^ (m.log2 + 1) = 9007199254740992 * 2 ^ (m.log2 - 52) := by rw [show (9007199254740992 : Nat) = 2 ^ 53 by rfl, ← Nat.pow_add, show 53 + (m.log2 - 52) = m.log2 + 1 by omega]
    have d1 : 4503599627370496 ≤ m / 2 ^ (m.log2 - 52) := (Nat.le_div_iff_mul_le hp).2 (by omega)
    have d2 : m / 2 ^ (m.log2 - 52) < 9007199254740992 := Nat.div_lt_of_lt_mul (by rw [Nat.mul_comm]; omega)
    have := Bool.toNat_le (decide (2 ^ (m.log2 - 52) < 2 * (m % 2 ^ (m.log2 - 52))) || (2 ^ (m.log2 - 52) == 2 * (m % 2 ^ (m.log2 - 52)) && m / 2 ^ (m.log2 - 52) % 2 == 1))
    omega

theorem kept_mono (s t : Bool) {m n : Nat} (hm : m ≠ 0) (hl : m.log2 = n.log2) (h : m ≤ n) : kept s m ≤ kept t n := by
  have hn : n ≠ 0 := by omega
  unfold kept
  rw [← hl]
  rcases Nat.le_total m.log2 52 with h1 | h1
  · have e : m.log2 - 52 = 0 := by omega
    rw [e]
    have a1 := cut_exact s (m * 2 ^ (52 - m.log2)) 0
    have a2 := cut_exact t (n * 2 ^ (52 - m.log2)) 0
    rw [Nat.pow_zero, Nat.mul_one] at a1 a2
    rw [a1, a2]
    exact Nat.mul_le_mul_right _ h
  · have e : 52 - m.log2 = 0 := by omega
    rw [e, Nat.pow_zero, Nat.mul_one, Nat.mul_one, cut_even s m _ (by omega), cut_even t n _ (by omega)]
    refine even_mono ?_
    have hp : 0 < 2 ^ (m.log2 - 52) := Nat.pow_pos (by omega)
    generalize 2 ^ (m.log2 - 52) = g at hp
    have hd := Nat.div_le_div_right (c := g) h
    rcases Nat.lt_or_ge (m / g) (n / g) with h2 | h2
    · exact .inl h2
    · have e2 : m / g = n / g := by omega
      refine .inr ⟨e2, ?_⟩
      have b1 := Nat.div_add_mod m g
      have b2 := Nat.div_add_mod n g
      rw [e2] at b1
      omega

/-- The rung of a whole number. -/
def rungW (s : Bool) (m : Nat) : Nat := if m = 0 then 0 else min ((m.log2 + 1022) * 4503599627370496 + kept s m) 9218868437227405312

theorem nearest_whole (s : Bool) (m : Nat) : double.nearest s m 0 = double.word s (rungW s m) := by
  unfold Format.nearest rungW
  by_cases hm : m = 0
  · rw [if_pos hm, if_pos hm]
  · rw [if_neg hm, if_neg hm, lp, bn, ir]
    have hfb : (double.fractionBits : Int) = 52 := rfl
    rw [hfb]
    simp only
    have e : max ((0 : Int) + ((m.log2 : Nat) : Int) - 52) (-1074) = (m.log2 : Int) - 52 := by omega
    rw [e]
    have e1 : ((m.log2 : Int) - 52 - -1074).toNat = m.log2 + 1022 := by omega
    have e2 : (0 - ((m.log2 : Int) - 52)).toNat = 52 - m.log2 := by omega
    have e3 : ((m.log2 : Int) - 52 - 0).toNat = m.log2 - 52 := by omega
    rw [e1, e2, e3, Nat.shiftLeft_eq]
    rfl
theorem rungW_le (s : Bool) (m : Nat) : rungW s m ≤ 9218868437227405312 := by unfold rungW; split <;> omega
theorem rungW_mono (s t : Bool) {m n : Nat} (h : m ≤ n) : rungW s m ≤ rungW t n := by
  unfold rungW
  by_cases hm : m = 0
  · rw [if_pos hm]; exact Nat.zero_le _
  · rw [if_neg hm, if_neg (by omega)]
    have hn : n ≠ 0 := by omega
    have k1 := kept_bounds s m hm
    have k2 := kept_bounds t n hn
    have hl : m.log2 ≤ n.log2 := (Nat.le_log2 hn).2 (Nat.le_trans (Nat.log2_self_le hm) h)
    rcases Nat.lt_or_ge m.log2 n.log2 with h1 | h1
    · omega
    · have e : m.log2 = n.log2 := by omega
      have := kept_mono s t hm e h
      rw [e]; omega
theorem rungW_pos (s : Bool) {m : Nat} (h : m ≠ 0) : 0 < rungW s m := by
  unfold rungW
  rw [if_neg h]
  have := kept_bounds s m h
  omega

/-- A whole number as a double: its key. -/
theorem key_int (a : Int) : floatOfInt .f64 a < 18446744073709551616 ∧ nanB (floatOfInt .f64 a) = false ∧ rung (floatOfInt .f64 a) = rungW (decide (a < 0)) a.natAbs ∧ key (floatOfInt .f64 a) = sgn (decide (a < 0)) (rungW (decide (a < 0)) a.natAbs) := by
  have e : floatOfInt .f64 a = double.word (decide (a < 0)) (rungW (decide (a < 0)) a.natAbs) := nearest_whole _ _
  have hb := rungW_le (decide (a < 0)) a.natAbs
  obtain ⟨w1, w2, w3⟩ := word_parts (decide (a < 0)) (rungW (decide (a < 0)) a.natAbs) (by omega)
  rw [e]
  refine ⟨w1, decide_eq_false (by rw [w2]; omega), w2, ?_⟩
  rw [key_sgn, w2, w3]
theorem key_mono {a b : Int} (h : a ≤ b) : key (floatOfInt .f64 a) ≤ key (floatOfInt .f64 b) := by
  rw [(key_int a).2.2.2, (key_int b).2.2.2]
  unfold sgn
  by_cases ha : a < 0
  · by_cases hb : b < 0
    · rw [decide_eq_true ha, decide_eq_true hb]
      have := rungW_mono true true (show b.natAbs ≤ a.natAbs by omega)
      simp; omega
    · rw [decide_eq_true ha, decide_eq_false hb]
      simp
  · rw [decide_eq_false ha, decide_eq_false (show ¬ b < 0 by omega)]
    have := rungW_mono false false (show a.natAbs ≤ b.natAbs by omega)
    simp; omega
end Go.Proofs.Ytbgjoohnognagaa
