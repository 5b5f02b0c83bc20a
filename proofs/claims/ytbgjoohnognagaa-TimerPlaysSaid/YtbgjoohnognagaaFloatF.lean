/- Doubles: the ceiling of a double, and the whole number it stands for. No condition. -/
import Derived.Test.YtbgjoohnognagaaFloatE
namespace Go.Proofs.Ytbgjoohnognagaa
open Ieee

theorem read_fin2 (b : Nat) (hb : b < 18446744073709551616) (h : rung b < 9218868437227405312) :
    ∃ (m a : Nat), double.read b = .number (neg63 b) m (-1074 + (a : Int)) ∧ m * 2 ^ a = vOf 4503599627370496 (rung b) ∧ m < 9007199254740992 := by
  unfold Format.read
  rw [sw, bn, ir, lp, neg_read b hb]
  unfold rung at h ⊢
  generalize b % 9223372036854775808 = r at h ⊢
  simp only
  by_cases h1 : r < 4503599627370496
  · rw [if_pos h1]
    exact ⟨r, 0, by simp, by simp [vOf, h1], by omega⟩
  · rw [if_neg h1, if_pos h]
    exact ⟨4503599627370496 + r % 4503599627370496, r / 4503599627370496 - 1, rfl, by simp [vOf, h1], by omega⟩

theorem cut_way (way : Toward) (s : Bool) (m a : Nat) : way.cut s (m * 2 ^ a) a = m := by
  unfold Toward.cut
  have hp : 0 < 2 ^ a := Nat.pow_pos (by omega)
  by_cases hm : m = 0
  · subst hm
    simp only [Nat.zero_mul, Nat.zero_div, Nat.zero_mod]
    cases way <;> simp
  · have hl : a ≤ (m * 2 ^ a).log2 + 2 := by
      have : a ≤ (m * 2 ^ a).log2 := (Nat.le_log2 (by have := Nat.mul_pos (Nat.pos_of_ne_zero hm) hp; omega)).2 (Nat.le_mul_of_pos_left _ (by omega))
      omega
    rw [Nat.min_eq_left hl, Nat.shiftLeft_eq, Nat.one_mul]
    simp only
    rw [Nat.mul_div_cancel _ hp, Nat.mul_mod_left]
    cases way <;> simp
theorem mul_pow_cancel {a b k : Nat} (h : a * 2 ^ k = b * 2 ^ k) : a = b := Nat.eq_of_mul_eq_mul_right (Nat.pow_pos (by omega)) h
theorem pow_shift (M a E : Nat) (h : E ≤ a) : M * 2 ^ (a - E) * 2 ^ E = M * 2 ^ a := by rw [Nat.mul_assoc, ← Nat.pow_add, Nat.sub_add_cancel h]
theorem cut_value (way : Toward) (s : Bool) (M a c : Nat) (h : M * 2 ^ a = c * 2 ^ 1074) : way.cut s (M <<< (-1074 + (a : Int)).toNat) (-(-1074 + (a : Int))).toNat = c := by
  rw [Nat.shiftLeft_eq]
  rcases Nat.le_total 1074 a with h1 | h1
  · have e1 : (-1074 + (a : Int)).toNat = a - 1074 := by omega
    have e2 : (-(-1074 + (a : Int))).toNat = 0 := by omega
    rw [e1, e2]
    have hc : M * 2 ^ (a - 1074) = c := mul_pow_cancel (k := 1074) ((pow_shift M a 1074 h1).trans h)
    rw [hc]
    have := cut_way way s c 0
    rwa [Nat.pow_zero, Nat.mul_one] at this
  · have e1 : (-1074 + (a : Int)).toNat = 0 := by omega
    have e2 : (-(-1074 + (a : Int))).toNat = 1074 - a := by omega
    rw [e1, e2, Nat.pow_zero, Nat.mul_one]
    have hc : M = c * 2 ^ (1074 - a) := by
      refine mul_pow_cancel (k := a) ?_
      rw [h, Nat.mul_assoc, ← Nat.pow_add, Nat.sub_add_cancel h1]
    rw [hc]
    exact cut_way way s c _

theorem vOf_inj {r q : Nat} (h : vOf 4503599627370496 r = vOf 4503599627370496 q) : r = q := by
  rcases Nat.lt_trichotomy r q with h1 | h1 | h1
  · have := vOf_lt (B := 4503599627370496) (by omega) h1; omega
  · exact h1
  · have := vOf_lt (B := 4503599627370496) (by omega) h1; omega

theorem vOf_parts {B k : Nat} (hB : 0 < B) (f : Nat) (hf : f < B) : vOf B (B * (k + 1) + f) = (B + f) * 2 ^ k := by
  unfold vOf
  have h : ¬ B * (k + 1) + f < B := by rw [Nat.mul_add, Nat.mul_one]; omega
  have e1 : (B * (k + 1) + f) / B = k + 1 := by rw [Nat.mul_add_div hB, Nat.div_eq_of_lt hf, Nat.add_zero]
  have e2 : (B * (k + 1) + f) % B = f := by rw [Nat.mul_add_mod, Nat.mod_eq_of_lt hf]
  rw [if_neg h, e1, e2, Nat.add_sub_cancel]
theorem whole_parts {B k q : Nat} (hB : 0 < B) (h1 : B ≤ q) (h2 : q ≤ 2 * B) : vOf B (k * B + q) = q * 2 ^ k := by
  rcases Nat.lt_or_ge q (2 * B) with h | h
  · have e : k * B + q = B * (k + 1) + (q - B) := by rw [Nat.mul_add, Nat.mul_one, Nat.mul_comm]; omega
    rw [e, vOf_parts hB _ (by omega), Nat.add_sub_cancel' h1]
  · have hq : q = 2 * B := by omega
    have e : k * B + q = B * (k + 1 + 1) + 0 := by rw [Nat.mul_add, Nat.mul_add, Nat.mul_one, Nat.mul_comm]; omega
    rw [e, vOf_parts hB _ hB, hq, Nat.pow_succ, Nat.add_zero, Nat.mul_comm (2 ^ k) 2, ← Nat.mul_assoc, Nat.mul_comm B 2]
theorem whole_small {l q I B : Nat} (hl : l ≤ 900) (hB : B = 4503599627370496) (hI : I = 9218868437227405312) (hq : q ≤ 2 * B) : (l + 1022) * B + q < I := by
  have : (l + 1022) * B ≤ 1922 * B := Nat.mul_le_mul_right _ (by omega)
  omega
theorem whole_val (s : Bool) {m : Nat} (hm : m ≠ 0) (hl : m.log2 ≤ 900) : rungW s m < 9218868437227405312 ∧ vOf 4503599627370496 (rungW s m) = kept s m * 2 ^ (m.log2 + 1022) := by
  have k := kept_bounds s m hm
  have h := whole_small (q := kept s m) hl rfl rfl (by omega)
  unfold rungW
  rw [if_neg hm, Nat.min_eq_left (Nat.le_of_lt h)]
  exact ⟨h, whole_parts (by omega) k.1 (by omega)⟩
theorem kept_low (s : Bool) {m : Nat} (hl : m.log2 ≤ 52) : kept s m * 2 ^ (m.log2 + 1022) = m * 2 ^ 1074 := by
  unfold kept
  rw [show m.log2 - 52 = 0 by omega]
  have a1 := cut_way .even s (m * 2 ^ (52 - m.log2)) 0
  rw [Nat.pow_zero, Nat.mul_one] at a1
  rw [a1, Nat.mul_assoc, ← Nat.pow_add, show 52 - m.log2 + (m.log2 + 1022) = 1074 by omega]
theorem kept_exact (s : Bool) {m q k : Nat} (hm : m ≠ 0) (hq : q < 9007199254740992) (h : m = q * 2 ^ k) : kept s m * 2 ^ (m.log2 + 1022) = m * 2 ^ 1074 := by
  rcases Nat.lt_or_ge 52 m.log2 with h1 | h1
  · have hlt : m < 2 ^ (53 + k) := by
      rw [h, Nat.pow_add]
      exact Nat.mul_lt_mul_of_pos_right hq (Nat.pow_pos (by omega))
    have hl : m.log2 < 53 + k := (Nat.log2_lt hm).2 hlt
    have hk : m = q * 2 ^ (k - (m.log2 - 52)) * 2 ^ (m.log2 - 52) := by
      rw [Nat.mul_assoc, ← Nat.pow_add, Nat.sub_add_cancel (by omega)]; exact h
    have hkept : kept s m = q * 2 ^ (k - (m.log2 - 52)) := by
      unfold kept
      rw [show 52 - m.log2 = 0 by omega, Nat.pow_zero, Nat.mul_one]
      have := cut_way .even s (q * 2 ^ (k - (m.log2 - 52))) (m.log2 - 52)
      rwa [← hk] at this
    rw [hkept]
    have e : 2 ^ (m.log2 + 1022) = 2 ^ (m.log2 - 52) * 2 ^ 1074 := (congrArg (2 ^ ·) (show m.log2 + 1022 = m.log2 - 52 + 1074 by omega)).trans (Nat.pow_add 2 _ 1074)
    rw [e, ← Nat.mul_assoc, ← hk]
  · exact kept_low s h1
theorem kept_whole (s : Bool) {m : Nat} (hm : m ≠ 0) : ∃ c q k, kept s m * 2 ^ (m.log2 + 1022) = c * 2 ^ 1074 ∧ c = q * 2 ^ k ∧ q < 9007199254740992 ∧ c ≠ 0 ∧ c ≤ 2 ^ (m.log2 + 1) := by
  have b := kept_bounds s m hm
  rcases Nat.lt_or_ge 52 m.log2 with h1 | h1
  · have e : 2 ^ (m.log2 + 1022) = 2 ^ (m.log2 - 52) * 2 ^ 1074 := (congrArg (2 ^ ·) (show m.log2 + 1022 = m.log2 - 52 + 1074 by omega)).trans (Nat.pow_add 2 _ 1074)
    have hp : 0 < 2 ^ (m.log2 - 52) := Nat.pow_pos (by omega)
    have e2 : 2 ^ (m.log2 + 1) = 9007199254740992 * 2 ^ (m.log2 - 52) := by rw [show (9007199254740992 : Nat) = 2 ^ 53 by rfl, ← Nat.pow_add, show 53 + (m.log2 - 52) = m.log2 + 1 by omega]
    have hne : kept s m * 2 ^ (m.log2 - 52) ≠ 0 := by
      have := Nat.mul_pos (show 0 < kept s m by omega) hp
      omega
    have hle : kept s m * 2 ^ (m.log2 - 52) ≤ 2 ^ (m.log2 + 1) := by rw [e2]; exact Nat.mul_le_mul_right _ b.2
    rcases Nat.lt_or_ge (kept s m) 9007199254740992 with h2 | h2
    · exact ⟨kept s m * 2 ^ (m.log2 - 52), kept s m, m.log2 - 52, (congrArg (kept s m * ·) e).trans (Nat.mul_assoc _ _ _).symm, rfl, h2, hne, hle⟩
    · have hk : kept s m = 9007199254740992 := by omega
      refine ⟨kept s m * 2 ^ (m.log2 - 52), 4503599627370496, m.log2 - 52 + 1, (congrArg (kept s m * ·) e).trans (Nat.mul_assoc _ _ _).symm, ?_, by omega, hne, hle⟩
      rw [hk, Nat.pow_succ, Nat.mul_comm (2 ^ (m.log2 - 52)) 2, ← Nat.mul_assoc]
  · refine ⟨m, m, 0, kept_low s h1, by simp, ?_, hm, ?_⟩
    · have : m < 2 ^ (m.log2 + 1) := Nat.lt_log2_self
      have h3 : 2 ^ (m.log2 + 1) ≤ 2 ^ 53 := Nat.pow_le_pow_right (by omega) (by omega)
      omega
    · exact Nat.le_of_lt Nat.lt_log2_self

/-- A finite double's ceiling: the magnitude, and that it is a double's. -/
theorem ceil_fin {x : Nat} (hx : x < 18446744073709551616) (h : finB x = true) : ∃ c q k, double.write ((double.read x).integral .up) = double.word (neg63 x) (rungW (neg63 x) c) ∧ c = q * 2 ^ k ∧ q < 9007199254740992 ∧
    (∀ d, vOf 4503599627370496 (rung x) = d * 2 ^ 1074 → c = d) := by
  obtain ⟨m, a, e, hv, hm⟩ := read_fin2 x hx (of_decide_eq_true h)
  rw [e]
  simp only [Datum.integral, Format.write]
  rw [nearest_whole]
  have hval : ∀ d, vOf 4503599627370496 (rung x) = d * 2 ^ 1074 → Toward.up.cut (neg63 x) (m <<< (-1074 + (a : Int)).toNat) (-(-1074 + (a : Int))).toNat = d := fun d hd => cut_value .up (neg63 x) m a d (by rw [hv, hd])
  rcases Nat.lt_or_ge a 1074 with h1 | h1
  · have e1 : (-1074 + (a : Int)).toNat = 0 := by omega
    refine ⟨_, Toward.up.cut (neg63 x) (m <<< (-1074 + (a : Int)).toNat) (-(-1074 + (a : Int))).toNat, 0, rfl, by simp, ?_, hval⟩
    rw [e1, Nat.shiftLeft_zero]
    have e2 : (-(-1074 + (a : Int))).toNat = 1074 - a := by omega
    rw [e2]
    unfold Toward.cut
    have hg : 2 ≤ 1 <<< min (1074 - a) (m.log2 + 2) := by
      rw [Nat.shiftLeft_eq, Nat.one_mul]
      have : 2 ^ 1 ≤ 2 ^ min (1074 - a) (m.log2 + 2) := Nat.pow_le_pow_right (by omega) (by omega)
      simpa using this
    generalize 1 <<< min (1074 - a) (m.log2 + 2) = g at hg
    have hd : m / g ≤ m / 2 := Nat.div_le_div_left hg (by omega)
    simp only
    have := Bool.toNat_le (!neg63 x && m % g != 0)
    omega
  · have e1 : (-1074 + (a : Int)).toNat = a - 1074 := by omega
    refine ⟨_, m, a - 1074, rfl, ?_, hm, hval⟩
    have := cut_value .up (neg63 x) m a (m * 2 ^ (a - 1074)) (pow_shift m a 1074 h1).symm
    exact this
/-- The whole number that a double stands for. -/
theorem int_of (s : Bool) {c q k : Nat} (hq : q < 9007199254740992) (hc : c = q * 2 ^ k) (hl : c.log2 ≤ 900) : (double.read (double.word s (rungW s c))).toInt .zero = some (sgn s c) := by
  have hb := rungW_le s c
  obtain ⟨w1, w2, w3⟩ := word_parts s (rungW s c) (by omega)
  by_cases h0 : c = 0
  · rw [h0]
    cases s <;> decide +kernel
  · obtain ⟨v1, v2⟩ := whole_val s h0 hl
    obtain ⟨M, a, e, hv, hm⟩ := read_fin2 _ w1 (by rw [w2]; exact v1)
    rw [w2, v2, kept_exact s h0 hq hc] at hv
    rw [e, w3]
    have hcut := cut_value .zero s M a c hv
    simp only [Datum.toInt, Datum.integral, hcut]
    rw [signed_eq, Nat.pow_zero, Nat.mul_one]
theorem key_sgn_word (s : Bool) (c : Nat) : double.word s (rungW s c) < 18446744073709551616 ∧ nanB (double.word s (rungW s c)) = false ∧ key (double.word s (rungW s c)) = sgn s (rungW s c) := by
  have hb := rungW_le s c
  obtain ⟨w1, w2, w3⟩ := word_parts s (rungW s c) (by omega)
  exact ⟨w1, decide_eq_false (by rw [w2]; omega), by rw [key_sgn, w2, w3]⟩
theorem rungW_sign (s t : Bool) (m : Nat) : rungW s m = rungW t m := Nat.le_antisymm (rungW_mono s t (Nat.le_refl _)) (rungW_mono t s (Nat.le_refl _))
theorem key_whole (s : Bool) (c : Nat) : key (double.word s (rungW s c)) = key (floatOfInt .f64 (sgn s c)) := by
  rw [(key_sgn_word s c).2.2, (key_int _).2.2.2, sgn_abs, rungW_sign (decide (sgn s c < 0)) s]
  by_cases h0 : c = 0
  · rw [h0]
    have : rungW s 0 = 0 := by unfold rungW; rw [if_pos rfl]
    rw [this]; unfold sgn; simp
  · rw [sgn_dec s (by omega)]

/-- A whole number's double, made whole, stays where it is. -/
theorem ceil_int (n : Int) (hn : n.natAbs ≤ 9223372036854775808) : finB (floatOfInt .f64 n) = true ∧ key (double.write ((double.read (floatOfInt .f64 n)).integral .up)) = key (floatOfInt .f64 n) := by
  obtain ⟨k1, k2, k3, k4⟩ := key_int n
  by_cases h0 : n = 0
  · subst h0
    exact ⟨by decide +kernel, by decide +kernel⟩
  · have ha : n.natAbs ≠ 0 := by omega
    have hl : n.natAbs.log2 ≤ 63 := by
      have : n.natAbs.log2 < 64 := (Nat.log2_lt ha).2 (by omega)
      omega
    obtain ⟨v1, v2⟩ := whole_val (decide (n < 0)) ha (by omega)
    have hfin : finB (floatOfInt .f64 n) = true := decide_eq_true (by rw [k3]; exact v1)
    refine ⟨hfin, ?_⟩
    obtain ⟨c', q', k', hc', hq1, hq2, hc0, hcl⟩ := kept_whole (decide (n < 0)) ha
    obtain ⟨c, q, k, hc, _, _, hd⟩ := ceil_fin k1 hfin
    have hneg : neg63 (floatOfInt .f64 n) = decide (n < 0) := (int_parts n h0).2.2.2
    have hcc : c = c' := hd c' (by rw [k3, v2, hc'])
    subst hcc
    rw [hc, (key_sgn_word _ c).2.2, k4, hneg]
    have hcl2 : c.log2 ≤ 900 := by
      have h1 : 2 ^ (n.natAbs.log2 + 1) ≤ 2 ^ 64 := Nat.pow_le_pow_right (by omega) (by omega)
      have : c.log2 < 66 := (Nat.log2_lt hc0).2 (by omega)
      omega
    obtain ⟨u1, u2⟩ := whole_val (decide (n < 0)) hc0 hcl2
    have := kept_exact (decide (n < 0)) hc0 hq2 hq1
    have hr : rungW (decide (n < 0)) c = rungW (decide (n < 0)) n.natAbs := vOf_inj (by rw [u2, v2, this, hc'])
    rw [hr]
end Go.Proofs.Ytbgjoohnognagaa
