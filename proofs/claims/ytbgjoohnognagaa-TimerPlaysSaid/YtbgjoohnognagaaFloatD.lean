/- Doubles: x - x, y - x, a nought times a number, a number and a nought. No condition. -/
import Derived.Test.YtbgjoohnognagaaFloatC
import Derived.Test.YtbgjoohnognagaaRat
namespace Go.Proofs.Ytbgjoohnognagaa
open Ieee

/-- A finite double. -/
def finB (x : Nat) : Bool := decide (rung x < 9218868437227405312)

theorem word0 (s : Bool) : double.nearest s 0 = fun _ => double.word s 0 := by
  funext p; unfold Format.nearest; rw [if_pos rfl]

theorem read_of_nan {x : Nat} (hx : x < 18446744073709551616) (h : nanB x = true) : ∃ t, double.read x = .nan (neg63 x) t := read_nan x hx ((nanB_iff x).1 h)
theorem sum_nan_r (d : Datum) (s : Bool) (t : Nat) : d.sum (.nan s t) = none := by cases d <;> rfl
theorem sum_nan_l (d : Datum) (s : Bool) (t : Nat) : (Datum.nan s t).sum d = none := rfl
theorem product_nan_r (d : Datum) (s : Bool) (t : Nat) : d.product (.nan s t) = none := by cases d <;> rfl

theorem fin_or (x : Nat) : finB x = true ∨ rung x = 9218868437227405312 ∨ nanB x = true := by
  unfold finB nanB
  rcases Nat.lt_trichotomy (rung x) 9218868437227405312 with h | h | h
  · left; exact decide_eq_true h
  · right; left; exact h
  · right; right; exact decide_eq_true h
theorem fin_nan {x : Nat} (h : finB x = true) : nanB x = false := by
  have := of_decide_eq_true h
  exact decide_eq_false (by omega)

theorem sub_self_fin {x : Nat} (hx : x < 18446744073709551616) (h : finB x = true) : double.sub x x = some 0 := by
  obtain ⟨m, a, e, _, _⟩ := read_fin x hx (of_decide_eq_true h)
  unfold Format.sub
  rw [e]
  simp only [Datum.opposite, Datum.sum]
  have ht : signed (neg63 x) m ((-1074 + (a : Int)) - min (-1074 + (a : Int)) (-1074 + (a : Int))).toNat + signed (!neg63 x) m ((-1074 + (a : Int)) - min (-1074 + (a : Int)) (-1074 + (a : Int))).toNat = 0 := by
    unfold signed; cases neg63 x <;> simp <;> omega
  rw [ht]
  simp [Format.write, word0, Format.word]
theorem sub_self_not {x : Nat} (hx : x < 18446744073709551616) (h : finB x = false) : double.sub x x = none := by
  rcases fin_or x with h1 | h1 | h1
  · rw [h1] at h; cases h
  · unfold Format.sub
    rw [read_inf x hx h1]
    cases neg63 x <;> rfl
  · obtain ⟨t, e⟩ := read_of_nan hx h1
    unfold Format.sub
    rw [e]; rfl

theorem nearest_rung (s : Bool) (m : Nat) (p : Int) : rung (double.nearest s m p) ≤ 9218868437227405312 := by
  unfold Format.nearest
  split
  · rw [(word_parts s 0 (by omega)).2.1]; omega
  · simp only
    rw [ir]
    rw [(word_parts s _ (by omega)).2.1]
    omega
theorem sum_fin {x y : Nat} (hx : x < 18446744073709551616) (hy : y < 18446744073709551616) (fx : finB x = true) (fy : finB y = true) : ∃ r, double.add x y = some r ∧ nanB r = false := by
  obtain ⟨m, a, e, _, _⟩ := read_fin x hx (of_decide_eq_true fx)
  obtain ⟨n, c, e', _, _⟩ := read_fin y hy (of_decide_eq_true fy)
  unfold Format.add
  rw [e, e']
  exact ⟨_, rfl, decide_eq_false (by have := nearest_rung; exact Nat.not_lt.2 (this _ _ _))⟩
theorem sub_fin {x y : Nat} (hx : x < 18446744073709551616) (hy : y < 18446744073709551616) (fx : finB x = true) (fy : finB y = true) : ∃ r, double.sub x y = some r ∧ nanB r = false := by
  obtain ⟨m, a, e, _, _⟩ := read_fin x hx (of_decide_eq_true fx)
  obtain ⟨n, c, e', _, _⟩ := read_fin y hy (of_decide_eq_true fy)
  unfold Format.sub
  rw [e, e']
  exact ⟨_, rfl, decide_eq_false (by have := nearest_rung; exact Nat.not_lt.2 (this _ _ _))⟩
theorem add_nan {x p : Nat} (hp : p < 18446744073709551616) (h : nanB p = true) : double.add x p = none := by
  obtain ⟨t, e⟩ := read_of_nan hp h
  unfold Format.add
  rw [e, sum_nan_r]; rfl
theorem mul_nan {x p : Nat} (hp : p < 18446744073709551616) (h : nanB p = true) : double.mul x p = none := by
  obtain ⟨t, e⟩ := read_of_nan hp h
  unfold Format.mul
  rw [e, product_nan_r]; rfl
theorem mul_nought {d : Nat} (hd : d < 18446744073709551616) (h : finB d = true) : double.mul 0 d = some (double.word (neg63 d) 0) := by
  obtain ⟨n, c, e, _, _⟩ := read_fin d hd (of_decide_eq_true h)
  unfold Format.mul
  rw [e, show double.read 0 = .number false 0 (-1074) by decide +kernel]
  simp only [Datum.product, Nat.zero_mul, Option.map_some, Format.write, word0, Bool.false_xor]

theorem cut_exact (s : Bool) (m a : Nat) : Toward.even.cut s (m * 2 ^ a) a = m := by
  unfold Toward.cut
  have hp : 0 < 2 ^ a := Nat.pow_pos (by omega)
  by_cases hm : m = 0
  · subst hm
    simp only [Nat.zero_mul, Nat.zero_div, Nat.zero_mod]
    have : 0 < 1 <<< min a (Nat.log2 0 + 2) := by rw [Nat.shiftLeft_eq]; simp; exact Nat.pow_pos (by omega)
    simp
  · have hl : a ≤ (m * 2 ^ a).log2 + 2 := by
      have : a ≤ (m * 2 ^ a).log2 := (Nat.le_log2 (by have := Nat.mul_pos (Nat.pos_of_ne_zero hm) hp; omega)).2 (Nat.le_mul_of_pos_left _ (by omega))
      omega
    rw [Nat.min_eq_left hl, Nat.shiftLeft_eq, Nat.one_mul]
    simp only
    rw [Nat.mul_div_cancel _ hp, Nat.mul_mod_left]
    simp
theorem back_num {B a f r q I : Nat} (hda : q = a + 1) (hb : B * q + f = r) (hr : r < I) : min (a * B + (B + f)) I = r := by
  subst hda
  rw [Nat.mul_add, Nat.mul_one, Nat.mul_comm] at hb
  rw [Nat.min_eq_left (by omega)]
  omega
/-- A finite number's value, written again, is the number. -/
theorem nearest_back (s : Bool) (r : Nat) (h0 : 0 < r) (hr : r < 9218868437227405312) : double.nearest s (vOf 4503599627370496 r) (-1074) = double.word s r := by
  have hv : vOf 4503599627370496 r ≠ 0 := by
    have := vOf_lt (B := 4503599627370496) (by omega) h0
    omega
  unfold Format.nearest
  rw [if_neg hv, lp, bn, ir]
  have hfb : (double.fractionBits : Int) = 52 := rfl
  rw [hfb]
  simp only
  congr 1
  unfold vOf at *
  by_cases h1 : r < 4503599627370496
  · rw [if_pos h1]
    have hl : r.log2 < 52 := (Nat.log2_lt (by omega)).2 (by omega)
    have e : max (-1074 + (r.log2 : Int) - 52) (-1074) = -1074 := by omega
    rw [e]
    have := cut_exact s r 0
    simp only [Nat.pow_zero, Nat.mul_one] at this
    simp only [show ((-1074 : Int) - -1074).toNat = 0 from rfl, Nat.shiftLeft_zero, this]
    omega
  · rw [if_neg h1] at hv ⊢
    have hd : 1 ≤ r / 4503599627370496 := (Nat.le_div_iff_mul_le (by omega)).2 (by omega)
    have hm := Nat.mod_lt r (show 0 < 4503599627370496 by omega)
    have hb := Nat.div_add_mod r 4503599627370496
    have hda : r / 4503599627370496 = (r / 4503599627370496 - 1) + 1 := by omega
    generalize r / 4503599627370496 - 1 = a at *
    generalize r % 4503599627370496 = f at *
    have hp : 0 < 2 ^ a := Nat.pow_pos (by omega)
    have hl : ((4503599627370496 + f) * 2 ^ a).log2 = 52 + a := by
      rw [Nat.log2_eq_iff hv]
      have e1 : 2 ^ (52 + a) = 4503599627370496 * 2 ^ a := by rw [Nat.pow_add]
      have e2 : 2 ^ (52 + a + 1) = 9007199254740992 * 2 ^ a := by rw [show 52 + a + 1 = 53 + a by omega, Nat.pow_add]
      rw [e1, e2]
      exact ⟨Nat.mul_le_mul_right _ (by omega), Nat.mul_lt_mul_of_pos_right (by omega) hp⟩
    rw [hl]
    have e : max (-1074 + ((52 + a : Nat) : Int) - 52) (-1074) = -1074 + (a : Int) := by omega
    rw [e]
    have e3 : ((-1074 : Int) - (-1074 + (a : Int))).toNat = 0 := by omega
    have e4 : (-1074 + (a : Int) - (-1074)).toNat = a := by omega
    rw [e3, e4, Nat.shiftLeft_zero, cut_exact]
    exact back_num hda hb hr
theorem read_nought (t : Bool) : double.read (double.word t 0) = .number t 0 (-1074) := by cases t <;> decide +kernel
theorem sgn_ne (s : Bool) {v : Nat} (h : 0 < v) : sgn s v ≠ 0 := by unfold sgn; cases s <;> simp <;> omega
theorem sgn_dec (s : Bool) {v : Nat} (h : 0 < v) : decide (sgn s v < 0) = s := by unfold sgn; cases s <;> simp <;> omega
theorem sgn_abs (s : Bool) (v : Nat) : (sgn s v).natAbs = v := by unfold sgn; cases s <;> simp
theorem sgn_nought (s : Bool) (k : Nat) : sgn s (0 * 2 ^ k) = 0 := by unfold sgn; simp
theorem add_nought {x : Nat} (hx : x < 18446744073709551616) (fx : finB x = true) (t : Bool) : ∃ r, double.add x (double.word t 0) = some r ∧ r < 18446744073709551616 ∧ nanB r = false ∧ key r = key x := by
  obtain ⟨m, a, e, hv, hz⟩ := read_fin x hx (of_decide_eq_true fx)
  have e0 := read_nought t
  have hfx := of_decide_eq_true fx
  unfold Format.add
  rw [e, e0]
  simp only [Datum.sum, Option.map_some]
  have hm : min (-1074 + (a : Int)) (-1074) = -1074 := by omega
  rw [hm]
  have h1 : (-1074 + (a : Int) - -1074).toNat = a := by omega
  rw [h1, signed_eq, signed_eq]
  by_cases h0 : m = 0
  · subst h0
    have hr := hz.1 rfl
    rw [sgn_nought, sgn_nought]
    simp only [Int.add_zero, if_true, Format.write, Int.natAbs_zero, word0]
    obtain ⟨w1, w2, w3⟩ := word_parts (neg63 x && t) 0 (by omega)
    refine ⟨_, rfl, w1, decide_eq_false (by omega), ?_⟩
    unfold key
    rw [w2, hr]; simp
  · have hr0 : 0 < rung x := by
      rcases Nat.eq_zero_or_pos (rung x) with h | h
      · exact absurd (hz.2 h) h0
      · exact h
    have hvp : 0 < m * 2 ^ a := Nat.mul_pos (Nat.pos_of_ne_zero h0) (Nat.pow_pos (by omega))
    rw [sgn_nought, Int.add_zero]
    rw [if_neg (sgn_ne (neg63 x) hvp), sgn_dec (neg63 x) hvp, sgn_abs, hv]
    simp only [Format.write]
    rw [nearest_back _ _ hr0 hfx]
    obtain ⟨w1, w2, w3⟩ := word_parts (neg63 x) (rung x) (by omega)
    refine ⟨_, rfl, w1, decide_eq_false (by omega), ?_⟩
    unfold key
    rw [w2, w3]
end Go.Proofs.Ytbgjoohnognagaa
