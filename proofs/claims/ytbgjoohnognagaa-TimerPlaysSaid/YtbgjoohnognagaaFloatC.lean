/- Doubles of whole numbers, and their quotient by nought. No condition. -/
import Derived.Test.YtbgjoohnognagaaFloatB
import Derived.Laws.FloatArith
namespace Go.Proofs.Ytbgjoohnognagaa
open Ieee

theorem word_parts (s : Bool) (r : Nat) (h : r < 9223372036854775808) : double.word s r < 18446744073709551616 ∧ rung (double.word s r) = r ∧ neg63 (double.word s r) = s := by
  unfold Format.word rung neg63
  rw [sw]
  cases s
  · simp; omega
  · simp; omega

theorem int_parts (a : Int) (ha : a ≠ 0) : floatOfInt .f64 a < 18446744073709551616 ∧ 0 < rung (floatOfInt .f64 a) ∧ rung (floatOfInt .f64 a) ≤ 9218868437227405312 ∧ neg63 (floatOfInt .f64 a) = decide (a < 0) := by
  have hm : a.natAbs ≠ 0 := by omega
  have e : floatOfInt .f64 a = double.nearest (decide (a < 0)) a.natAbs 0 := rfl
  rw [e]
  unfold Format.nearest
  rw [if_neg hm, lp, bn, ir]
  have hfb : (double.fractionBits : Int) = 52 := rfl
  rw [hfb]
  simp only
  generalize hk : Toward.cut .even (decide (a < 0)) _ _ = kept
  have hl : 1 ≤ (max ((0 : Int) + ((a.natAbs.log2 : Nat) : Int) - 52) (-1074) - -1074).toNat := by omega
  generalize (max ((0 : Int) + ((a.natAbs.log2 : Nat) : Int) - 52) (-1074) - -1074).toNat = q at hl ⊢
  have hr : min (q * 4503599627370496 + kept) 9218868437227405312 < 9223372036854775808 := by omega
  obtain ⟨h1, h2, h3⟩ := word_parts (decide (a < 0)) _ hr
  refine ⟨h1, ?_, ?_, h3⟩
  · rw [h2]; omega
  · rw [h2]; omega

theorem div_nought (a : Int) (ha : a ≠ 0) : double.div (floatOfInt .f64 a) 0 = some (if a < 0 then 18442240474082181120 else 9218868437227405312) := by
  obtain ⟨h1, h2, h3, h4⟩ := int_parts a ha
  unfold Format.div
  have e0 : double.read 0 = .number false 0 (-1074) := by decide +kernel
  rw [e0]
  have inf : ∀ s : Bool, double.write (.infinity s) = if s then 18442240474082181120 else 9218868437227405312 := by intro s; cases s <;> decide +kernel
  by_cases hi : rung (floatOfInt .f64 a) = 9218868437227405312
  · rw [read_inf _ h1 hi]
    simp only [Datum.quotient, Option.map_some, Bool.xor_false, inf, h4, decide_eq_true_eq]
  · obtain ⟨m, c, e, _, hm⟩ := read_fin _ h1 (show _ < 9218868437227405312 by omega)
    rw [e]
    have hm0 : m ≠ 0 := fun h => by have := hm.1 h; omega
    simp only [Datum.quotient, if_true, if_neg hm0, Option.map_some, Bool.xor_false, inf, h4, decide_eq_true_eq]
theorem div_noughts : double.div (floatOfInt .f64 0) 0 = none := by decide +kernel
theorem float_nought : floatOfInt .f64 0 = 0 := by decide +kernel
end Go.Proofs.Ytbgjoohnognagaa
