/- Doubles, without any program: reading, the order of two words by their keys. No condition. -/
import Derived.Test.YtbgjoohnognagaaFloat
namespace Go.Proofs.Ytbgjoohnognagaa
open Ieee

theorem sw : double.signWeight = 9223372036854775808 := by decide
theorem bn : double.binade = 4503599627370496 := by decide
theorem ir : double.infRung = 9218868437227405312 := by decide
theorem lp : double.leastPlace = -1074 := by decide

theorem neg_read (b : Nat) (hb : b < 18446744073709551616) : (b / 9223372036854775808 % 2 == 1) = neg63 b := by
  unfold neg63
  by_cases h : 9223372036854775808 ≤ b
  · have : b / 9223372036854775808 = 1 := by omega
    rw [this]; simp [h]
  · have : b / 9223372036854775808 = 0 := by omega
    rw [this]; simp [h]

theorem read_fin (b : Nat) (hb : b < 18446744073709551616) (h : rung b < 9218868437227405312) :
    ∃ (m a : Nat), double.read b = .number (neg63 b) m (-1074 + (a : Int)) ∧ m * 2 ^ a = vOf 4503599627370496 (rung b) ∧ (m = 0 ↔ rung b = 0) := by
  unfold Format.read
  rw [sw, bn, ir, lp, neg_read b hb]
  unfold rung at h ⊢
  generalize b % 9223372036854775808 = r at h ⊢
  simp only
  by_cases h1 : r < 4503599627370496
  · rw [if_pos h1]
    exact ⟨r, 0, by simp, by simp [vOf, h1], Iff.rfl⟩
  · rw [if_neg h1, if_pos h]
    exact ⟨4503599627370496 + r % 4503599627370496, r / 4503599627370496 - 1, rfl, by simp [vOf, h1], by omega⟩
theorem read_inf (b : Nat) (hb : b < 18446744073709551616) (h : rung b = 9218868437227405312) : double.read b = .infinity (neg63 b) := by
  unfold Format.read
  rw [sw, bn, ir, lp, neg_read b hb]
  unfold rung at h
  simp only
  rw [h]; rfl
theorem read_nan (b : Nat) (hb : b < 18446744073709551616) (h : isNan b) : ∃ t, double.read b = .nan (neg63 b) t := by
  unfold Format.read
  rw [sw, bn, ir, lp, neg_read b hb]
  unfold isNan rung at h
  simp only
  rw [if_neg (by omega), if_neg (by omega), if_neg (by omega)]
  exact ⟨_, rfl⟩

theorem order_fin (s t : Bool) (m n a c : Nat) : Datum.order (.number s m (-1074 + (a : Int))) (.number t n (-1074 + (c : Int))) = some (compare (sgn s (m * 2 ^ a)) (sgn t (n * 2 ^ c))) := by
  simp only [Datum.order]
  rw [signed_eq, signed_eq]
  rcases Nat.le_total a c with h | h
  · have e1 : min (-1074 + (a : Int)) (-1074 + (c : Int)) = -1074 + (a : Int) := by omega
    rw [e1]
    have e2 : (-1074 + (a : Int) - (-1074 + (a : Int))).toNat = 0 := by omega
    have e3 : (-1074 + (c : Int) - (-1074 + (a : Int))).toNat = c - a := by omega
    rw [e2, e3]
    have := compare_scale s t (m * 2 ^ 0) (n * 2 ^ (c - a)) a
    rw [← this]
    have e4 : n * 2 ^ (c - a) * 2 ^ a = n * 2 ^ c := by rw [Nat.mul_assoc, ← Nat.pow_add, Nat.sub_add_cancel h]
    rw [e4]; simp
  · have e1 : min (-1074 + (a : Int)) (-1074 + (c : Int)) = -1074 + (c : Int) := by omega
    rw [e1]
    have e2 : (-1074 + (c : Int) - (-1074 + (c : Int))).toNat = 0 := by omega
    have e3 : (-1074 + (a : Int) - (-1074 + (c : Int))).toNat = a - c := by omega
    rw [e2, e3]
    have := compare_scale s t (m * 2 ^ (a - c)) (n * 2 ^ 0) c
    rw [← this]
    have e4 : m * 2 ^ (a - c) * 2 ^ c = m * 2 ^ a := by rw [Nat.mul_assoc, ← Nat.pow_add, Nat.sub_add_cancel h]
    rw [e4]; simp

theorem key_sgn (b : Nat) : key b = sgn (neg63 b) (rung b) := by unfold key sgn; rfl

theorem order_key {x y : Nat} (hx : x < 18446744073709551616) (hy : y < 18446744073709551616) (nx : ¬ isNan x) (ny : ¬ isNan y) : double.order x y = some (compare (key x) (key y)) := by
  have kx := key_sgn x
  have ky := key_sgn y
  have rx : rung x ≤ 9218868437227405312 := by unfold isNan at nx; omega
  have ry : rung y ≤ 9218868437227405312 := by unfold isNan at ny; omega
  unfold Format.order
  by_cases ix : rung x = 9218868437227405312
  · rw [read_inf x hx ix]
    by_cases iy : rung y = 9218868437227405312
    · rw [read_inf y hy iy]
      rw [kx, ky, ix, iy]
      simp only [Datum.order]
      cases neg63 x <;> cases neg63 y <;> rfl
    · obtain ⟨m, a, e, _, _⟩ := read_fin y hy (by omega)
      rw [e, kx, ky, ix]
      simp only [Datum.order]
      rw [compare_int]
      unfold sgn
      cases neg63 x <;> cases neg63 y <;> simp <;> (repeat (first | rfl | omega | (split)))
  · obtain ⟨m, a, e, hm, _⟩ := read_fin x hx (by omega)
    by_cases iy : rung y = 9218868437227405312
    · rw [e, read_inf y hy iy, kx, ky, iy]
      simp only [Datum.order]
      rw [compare_int]
      unfold sgn
      cases neg63 x <;> cases neg63 y <;> simp <;> (repeat (first | rfl | omega | (split)))
    · obtain ⟨n, c, e', hn, _⟩ := read_fin y hy (by omega)
      rw [e, e', order_fin, hm, hn, compare_sgn (by decide), kx, ky]
theorem order_nan {x y : Nat} (hx : x < 18446744073709551616) (hy : y < 18446744073709551616) (h : isNan x ∨ isNan y) : double.order x y = none := by
  unfold Format.order
  rcases h with h | h
  · obtain ⟨t, e⟩ := read_nan x hx h
    rw [e]; rfl
  · obtain ⟨t, e⟩ := read_nan y hy h
    rw [e]
    cases double.read x <;> rfl
end Go.Proofs.Ytbgjoohnognagaa
