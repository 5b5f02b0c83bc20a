/- Texts of one proof, one behind the other: KvBd. No condition but each one's own. -/
import Derived.Test.YtfchcdbfalgdlaaGreatDoorSweepKeepsM23
import Derived.Test.YtfchcdbfalgdlaaGreatDoorSweepKeepsM22
import Derived.Test.YtfchcdbfalgdlaaGreatDoorSweepKeepsM10
namespace Go.Proofs.YtfchcdbfalgdlaaGreatDoor
set_option linter.unusedVariables false
set_option linter.unusedSimpArgs false
set_option linter.constructorNameAsVariable false
open Go.RowKit Go.Maps Go.Sort
def ct1 (c : Ch) : List Int × List Int := (c.k.xs, c.v.xs)
def sz1 (e : List Int × List Int) : Nat := 5 + e.1.length + e.2.length
theorem cdel_none {T : CT} {k : List Int} (h : k ∉ T.map Prod.fst) : cdel T k = T := by
 unfold cdel
 rw [List.filter_eq_self]
 intro e he
 simp only [decide_eq_true_eq]
 exact fun e1 => h (e1 ▸ List.mem_map_of_mem he)
theorem flat_rows {R : List Sl} {P : List Ch} (h : R.map Sl.L = rws (spl szc P)) : R.flatMap Sl.L = P := by
 rw [List.flatMap_def, h, spl_flat]
theorem rows_le {α : Type} : ∀ (LL : List (List α)), (∀ l ∈ LL, 1 ≤ l.length) → LL.length ≤ LL.flatten.length
 | [], _ => Nat.le_refl _
 | l :: LL, h => by
  have h1 := h l (List.mem_cons_self ..)
  have h2 := rows_le LL (fun x hx => h x (List.mem_cons_of_mem _ hx))
  rw [List.flatten_cons, List.length_append, List.length_cons]
  omega
end Go.Proofs.YtfchcdbfalgdlaaGreatDoor
