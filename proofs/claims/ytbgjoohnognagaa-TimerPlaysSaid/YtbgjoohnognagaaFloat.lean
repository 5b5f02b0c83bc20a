/- Doubles, without any program: how words stand to each other is how their keys do. No condition. -/
import GoSem.Core.Float
namespace Go.Proofs.Ytbgjoohnognagaa
open Ieee

/-- The magnitude of a rung, in units of the least place. -/
def vOf (B r : Nat) : Nat := if r < B then r else (B + r % B) * 2 ^ (r / B - 1)

theorem vOf_succ (B r : Nat) (hB : 0 < B) : vOf B r < vOf B (r + 1) := by
  unfold vOf
  by_cases h1 : r + 1 < B
  · rw [if_pos (by omega), if_pos h1]; omega
  · by_cases h2 : r < B
    · have e : r + 1 = B := by omega
      rw [if_pos h2, if_neg h1, e, Nat.mod_self, Nat.div_self hB]
      simp; omega
    · rw [if_neg h2, if_neg h1]
      have hd : 1 ≤ r / B := (Nat.le_div_iff_mul_le hB).2 (by omega)
      have hm := Nat.mod_lt r hB
      have hr := Nat.div_add_mod r B
      have hp : 0 < 2 ^ (r / B - 1) := Nat.pow_pos (by omega)
      by_cases h3 : r % B + 1 < B
      · have e1 : (r + 1) / B = r / B := by
          rw [Nat.div_eq_iff hB, Nat.mul_comm]; omega
        have e2 : (r + 1) % B = r % B + 1 := by
          have := Nat.div_add_mod (r + 1) B
          rw [e1] at this; omega
        rw [e1, e2]
        exact Nat.mul_lt_mul_of_pos_right (by omega) hp
      · have e0 : r + 1 = B * (r / B + 1) := by rw [Nat.mul_add]; omega
        have e1 : (r + 1) / B = r / B + 1 := by rw [e0, Nat.mul_div_cancel_left _ hB]
        have e2 : (r + 1) % B = 0 := by rw [e0, Nat.mul_mod_right]
        rw [e1, e2]
        have e3 : r / B + 1 - 1 = (r / B - 1) + 1 := by omega
        rw [e3, Nat.pow_succ, Nat.add_zero]
        calc (B + r % B) * 2 ^ (r / B - 1) < (B * 2) * 2 ^ (r / B - 1) := Nat.mul_lt_mul_of_pos_right (by omega) hp
          _ = B * (2 ^ (r / B - 1) * 2) := by rw [Nat.mul_assoc, Nat.mul_comm 2]
theorem vOf_lt {B : Nat} (hB : 0 < B) {r s : Nat} (h : r < s) : vOf B r < vOf B s := by
  induction s with
  | zero => omega
  | succ s ih =>
    rcases Nat.lt_or_ge r s with h1 | h1
    · exact Nat.lt_trans (ih h1) (vOf_succ B s hB)
    · have : r = s := by omega
      subst this; exact vOf_succ B r hB
theorem vOf_zero {B : Nat} (hB : 0 < B) : vOf B 0 = 0 := by simp [vOf, hB]

def neg63 (b : Nat) : Bool := decide (9223372036854775808 ≤ b)
def rung (b : Nat) : Nat := b % 9223372036854775808
/-- The key of a word: its rung, with its sign. -/
def key (b : Nat) : Int := if neg63 b then -(rung b : Int) else (rung b : Int)
def isNan (b : Nat) : Prop := 9218868437227405312 < rung b

def sgn (s : Bool) (n : Nat) : Int := if s then -(n : Int) else n

theorem signed_eq (s : Bool) (m u : Nat) : signed s m u = sgn s (m * 2 ^ u) := by
  unfold signed sgn
  rw [Nat.shiftLeft_eq]

theorem compare_int (x y : Int) : compare x y = if x < y then .lt else if x = y then .eq else .gt := by
  simp only [compare, compareOfLessAndEq]

theorem compare_sgn {B : Nat} (hB : 0 < B) (s t : Bool) (r q : Nat) : compare (sgn s (vOf B r)) (sgn t (vOf B q)) = compare (sgn s r) (sgn t q) := by
  have z := vOf_zero hB
  have mono : ∀ a b : Nat, (vOf B a < vOf B b ↔ a < b) := fun a b => ⟨fun h => by
    rcases Nat.lt_trichotomy a b with h1 | h1 | h1
    · exact h1
    · subst h1; omega
    · have := vOf_lt hB h1; omega, vOf_lt hB⟩
  have inj : ∀ a b : Nat, (vOf B a = vOf B b ↔ a = b) := fun a b => ⟨fun h => by
    rcases Nat.lt_trichotomy a b with h1 | h1 | h1
    · have := vOf_lt hB h1; omega
    · exact h1
    · have := vOf_lt hB h1; omega, fun h => by rw [h]⟩
  have p1 := mono r q
  have p2 := mono q r
  have p3 := inj r q
  have p4 := mono 0 r
  have p5 := mono 0 q
  rw [z] at p4 p5
  rw [compare_int, compare_int]
  have e1 : (sgn s (vOf B r) < sgn t (vOf B q)) ↔ (sgn s r < sgn t q) := by
    unfold sgn; cases s <;> cases t <;> simp <;> omega
  have e2 : (sgn s (vOf B r) = sgn t (vOf B q)) ↔ (sgn s (r : Nat) = sgn t q) := by
    unfold sgn; cases s <;> cases t <;> simp <;> omega
  simp only [e1, e2]

theorem compare_scale (s t : Bool) (m n k : Nat) : compare (sgn s (m * 2 ^ k)) (sgn t (n * 2 ^ k)) = compare (sgn s m) (sgn t n) := by
  have hp : 0 < 2 ^ k := Nat.pow_pos (by omega)
  have a1 : (m * 2 ^ k < n * 2 ^ k ↔ m < n) := Nat.mul_lt_mul_right hp
  have a2 : (n * 2 ^ k < m * 2 ^ k ↔ n < m) := Nat.mul_lt_mul_right hp
  have a3 : (m * 2 ^ k = n * 2 ^ k ↔ m = n) := Nat.mul_left_inj (by omega)
  have a4 : (0 < m * 2 ^ k ↔ 0 < m) := by simp [hp]
  have a5 : (0 < n * 2 ^ k ↔ 0 < n) := by simp [hp]
  generalize m * 2 ^ k = x at *
  generalize n * 2 ^ k = y at *
  rw [compare_int, compare_int]
  have e1 : (sgn s x < sgn t y) ↔ (sgn s m < sgn t n) := by
    unfold sgn; cases s <;> cases t <;> simp <;> omega
  have e2 : (sgn s x = sgn t y) ↔ (sgn s m = sgn t n) := by
    unfold sgn; cases s <;> cases t <;> simp <;> omega
  simp only [e1, e2]
end Go.Proofs.Ytbgjoohnognagaa
