/- Numbers as bytes, the highest first, and back: plain words for the octets of both sides. No condition. -/
import Derived.Test.YtfhinmjpokollaaMem
namespace Go.Proofs.Ytfhinmjpokollaa
set_option linter.unusedVariables false
set_option linter.unusedSimpArgs false
set_option linter.constructorNameAsVariable false

/-- A number's byte at place i from the end. -/
def byteAt (n i : Nat) : Nat := n / 256 ^ i % 256
/-- A number's bytes, so many, the highest first. -/
def beL (size n : Nat) : List Int := (List.range size).map fun j => ((byteAt n (size - 1 - j) : Nat) : Int)
theorem beL_len (size n : Nat) : (beL size n).length = size := by simp [beL]
theorem byteAt_lt (n i : Nat) : byteAt n i < 256 := Nat.mod_lt _ (by decide)
theorem beL_byt (size n : Nat) : ∀ x ∈ beL size n, 0 ≤ x ∧ x < 256 := by
  intro x hx
  obtain ⟨j, _, rfl⟩ := List.mem_map.1 hx
  have := byteAt_lt n (size - 1 - j)
  omega
theorem beL_zero (n : Nat) : beL 0 n = [] := rfl
theorem beL_succ (size n : Nat) : beL (size + 1) n = beL size (n / 256) ++ [((n % 256 : Nat) : Int)] := by
  unfold beL
  rw [List.range_succ, List.map_append, List.map_singleton]
  congr 1
  · refine List.map_congr_left fun j hj => ?_
    have hj := List.mem_range.1 hj
    have e : size + 1 - 1 - j = (size - 1 - j) + 1 := by omega
    rw [e]
    unfold byteAt
    rw [Nat.pow_succ, Nat.mul_comm, ← Nat.div_div_eq_div_mul]
  · simp [byteAt]
theorem beL_cons (size n : Nat) : beL (size + 1) n = ((byteAt n size : Nat) : Int) :: beL size n := by
  unfold beL
  rw [List.range_succ_eq_map, List.map_cons, List.map_map]
  congr 1
  refine List.map_congr_left fun j hj => ?_
  have hj := List.mem_range.1 hj
  show ((byteAt n (size + 1 - 1 - (j + 1)) : Nat) : Int) = _
  rw [show size + 1 - 1 - (j + 1) = size - 1 - j by omega]
theorem beL_get (size n j : Nat) (h : j < (beL size n).length) : (beL size n)[j] = ((byteAt n (size - 1 - j) : Nat) : Int) := by simp [beL]
/-- What has been written when places size - 1 .. i are done. -/
theorem beL_take (size n i : Nat) (hi : i < size) : (beL size n).take (size - i) = (beL size n).take (size - (i + 1)) ++ [((byteAt n i : Nat) : Int)] := by
  have hl : size - (i + 1) < (beL size n).length := by rw [beL_len]; omega
  have := List.take_succ_eq_append_getElem hl
  rw [show size - (i + 1) + 1 = size - i by omega] at this
  rw [this, beL_get, show size - 1 - (size - (i + 1)) = i by omega]
/-- The number of bytes. -/
def valL (xs : List Int) : Nat := xs.foldl (fun n x => n * 256 + x.toNat) 0
theorem valL_snoc (xs : List Int) (x : Int) : valL (xs ++ [x]) = valL xs * 256 + x.toNat := by simp [valL]
theorem valL_nil : valL [] = 0 := rfl
theorem valL_take {xs : List Int} {k : Nat} (h : k < xs.length) : valL (xs.take (k + 1)) = valL (xs.take k) * 256 + (xs[k]).toNat := by
  rw [List.take_succ_eq_append_getElem h, valL_snoc]
theorem valL_lt {xs : List Int} (h : ∀ x ∈ xs, 0 ≤ x ∧ x < 256) : valL xs < 256 ^ xs.length := by
  suffices h2 : ∀ k, k ≤ xs.length → valL (xs.take k) < 256 ^ k by
    have := h2 xs.length (Nat.le_refl _)
    rwa [List.take_length] at this
  intro k
  induction k with
  | zero => intro _; simp [valL]
  | succ k ih =>
    intro hk
    have := ih (by omega)
    rw [valL_take (by omega), Nat.pow_succ]
    have := h xs[k] (List.getElem_mem _)
    omega
theorem valL_beL (size n : Nat) (h : n < 256 ^ size) : valL (beL size n) = n := by
  induction size generalizing n with
  | zero => simp at h; subst h; rfl
  | succ s ih =>
    rw [beL_succ, valL_snoc, ih _ (by rw [Nat.pow_succ] at h; omega)]
    omega
theorem beL_valL (xs : List Int) (h : ∀ x ∈ xs, 0 ≤ x ∧ x < 256) : beL xs.length (valL xs) = xs := by
  suffices h2 : ∀ k, k ≤ xs.length → beL k (valL (xs.take k)) = xs.take k by
    have := h2 xs.length (Nat.le_refl _)
    rwa [List.take_length] at this
  intro k
  induction k with
  | zero => intro _; rfl
  | succ k ih =>
    intro hk
    have hx := h xs[k] (List.getElem_mem _)
    rw [valL_take (by omega), beL_succ, List.take_succ_eq_append_getElem (by omega)]
    congr 1
    · rw [show (valL (xs.take k) * 256 + (xs[k]).toNat) / 256 = valL (xs.take k) by omega]
      exact ih (by omega)
    · congr 1
      omega

/-- A reader in plain words: what is left, an error's number (0: none). -/
structure Rs where
  xs : List Int
  e : Nat
def Rs.left (s : Rs) : Nat := if s.e = 0 then s.xs.length else 0
def Rs.bad (s : Rs) (code : Nat) : Rs := if s.e = 0 then ⟨s.xs, code⟩ else s
def Rs.raw (s : Rs) (n : Nat) : List Int × Rs := if s.left < n then ([], s.bad 2) else (s.xs.take n, ⟨s.xs.drop n, s.e⟩)
def Rs.num (s : Rs) (size : Nat) : Nat × Rs := (valL (s.raw size).1, (s.raw size).2)
def Rs.bytes (s : Rs) (most : Nat) : List Int × Rs :=
  if s.left < 2 then ([], s.bad 2)
  else if most < valL (s.xs.take 2) ∨ s.left - 2 < valL (s.xs.take 2) then ([], s.bad 2)
  else (s.raw 2).2.raw (valL (s.xs.take 2))
def Rs.flag (s : Rs) : Bool × Rs :=
  if s.left < 1 ∨ 1 < s.xs.headD 0 then (false, s.bad 2) else (decide ((s.num 1).1 = 1), (s.num 1).2)
def Rs.fin (s : Rs) : Nat := if s.e ≠ 0 then s.e else if 0 < s.xs.length then 2 else 0
end Go.Proofs.Ytfhinmjpokollaa
