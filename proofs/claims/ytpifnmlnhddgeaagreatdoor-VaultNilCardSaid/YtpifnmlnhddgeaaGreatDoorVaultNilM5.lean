/- Texts of one proof, one behind the other: TeP, VaP. No condition but each one's own. -/
import Derived.Test.YtpifnmlnhddgeaaGreatDoorVaultNilM3
import Derived.Test.YtpifnmlnhddgeaaGreatDoorVaultNilM4
namespace Go.Proofs.YtpifnmlnhddgeaaGreatDoor
set_option linter.unusedVariables false
set_option linter.unusedSimpArgs false
set_option linter.constructorNameAsVariable false
open Go.RowKit Go.Sort
def ndv (f : Nat → List Int) : Nat → Nat → List Int
 | 0, p => f p
 | l + 1, p => ndH (l + 1) (ndv f l (2 * p)) (ndv f l (2 * p + 1))
section
variable {f g : Nat → List Int} {i : Nat} {h : List Int}
theorem ndv_emp : ∀ l p, ndv (fun _ => empH 0) l p = empH l
 | 0, _ => rfl
 | l + 1, p => by simp only [ndv]; rw [ndv_emp l, ndv_emp l]; rfl
theorem ndv_len (hf : ∀ p, (f p).length = 32) : ∀ l p, (ndv f l p).length = 32
 | 0, p => hf p
 | _ + 1, _ => ndH_len _ _ _
theorem ndv_byt (hf : ∀ p, Byt (f p)) : ∀ l p, Byt (ndv f l p)
 | 0, p => hf p
 | _ + 1, _ => ndH_byt _ _ _
end
structure Nds (H : Nat) (f g : Nat → List Int) (k : Nat) (m : Nat → Nat → Option (List Int)) : Prop where
 get : ∀ l p, l ≤ H → p < 2 ^ (H - l) → (m l p).getD (empH l) = if l < k then ndv g l p else ndv f l p
 ins : ∀ l p, m l p ≠ none → l ≤ H ∧ p < 2 ^ (H - l)
 ne : ∀ l p, m l p ≠ some (empH l)
section
variable {H : Nat} {f g : Nat → List Int} {k : Nat} {m : Nat → Nat → Option (List Int)}
theorem Nds.emp (H : Nat) : Nds H (fun _ => empH 0) (fun _ => empH 0) 0 (fun _ _ => none) := ⟨fun l p _ _ => by rw [if_neg (Nat.not_lt_zero _)]; exact (ndv_emp l p).symm, fun _ _ h => absurd rfl h, fun _ _ h => by cases h⟩
theorem Nds.at (hm : Nds H f f 0 m) {l p : Nat} (hl : l ≤ H) (hp : p < 2 ^ (H - l)) : (m l p).getD (empH l) = ndv f l p := by rw [hm.get l p hl hp, if_neg (Nat.not_lt_zero _)]
end
end Go.Proofs.YtpifnmlnhddgeaaGreatDoor
namespace Go.Proofs.YtpifnmlnhddgeaaGreatDoor
set_option linter.unusedVariables false
set_option linter.unusedSimpArgs false
set_option linter.constructorNameAsVariable false
open Go.RowKit Go.Sort
abbrev SM := List (Nat × Sd)
def SmOk (L : SM) : Prop := L.Pairwise fun a b => a.1 < b.1
section
variable {L L' : SM} {i j : Nat} {x : Sd}
theorem lk_cons {y : Sd} : ((j, y) :: L).lookup i = if i = j then some y else L.lookup i := by
 rw [List.lookup_cons]
 by_cases h : i = j
 · rw [if_pos h, beq_iff_eq.2 h]
 · rw [if_neg h, beq_eq_false_iff_ne.2 h]
theorem lk_mem {y : Sd} : ∀ {L : SM}, L.lookup i = some y → (i, y) ∈ L
 | [], h => by cases h
 | (k, z) :: L, h => by
  rw [lk_cons] at h
  split at h
  · next e => injection h with h; subst e h; exact List.mem_cons_self ..
  · exact List.mem_cons_of_mem _ (lk_mem h)
theorem mem_lk {y : Sd} : ∀ {L : SM}, SmOk L → (i, y) ∈ L → L.lookup i = some y
 | (k, z) :: L, h, hm => by
  obtain ⟨h1, h2⟩ := List.pairwise_cons.1 h
  rw [lk_cons]
  rcases List.mem_cons.1 hm with e | hm
  · injection e with e1 e2; rw [if_pos e1, e2]
  · have := h1 _ hm
    rw [if_neg (by simp at this; omega), mem_lk h2 hm]
end
structure VS where
 blocks : Nat
 L : SM
structure VS.Ok (s : VS) : Prop where
 b1 : 1 ≤ s.blocks
 b2 : s.blocks ≤ 4294967296
 so : SmOk s.L
 el : ∀ e ∈ s.L, e.1 < s.blocks ∧ e.2.Ok
def lfF (L : SM) (i : Nat) : List Int := match L.lookup i with
 | none => empH 0
 | some x => lfH i x
theorem lfF_ok (L : SM) (i : Nat) : (lfF L i).length = 32 ∧ Byt (lfF L i) := by
 unfold lfF
 split
 · exact ⟨empH_len 0, empH_byt 0⟩
 · exact ⟨lfH_len _ _, lfH_byt _ _⟩
noncomputable def VS.root (s : VS) : List Int := ndv (lfF s.L) (hgt s.blocks) 0
def kM : List Int := [77]
def metaB (blocks epoch base : Nat) : List Int := beL 8 blocks ++ beL 8 epoch ++ beL 8 base
end Go.Proofs.YtpifnmlnhddgeaaGreatDoor
