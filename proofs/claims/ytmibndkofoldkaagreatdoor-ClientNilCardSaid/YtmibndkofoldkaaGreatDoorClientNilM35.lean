/- Texts of one proof, one behind the other: OpenA. No condition but each one's own. -/
import Derived.Test.YtmibndkofoldkaaGreatDoorClientNilM6
import Derived.OpenShut
namespace Go.Proofs.YtmibndkofoldkaaGreatDoor
set_option linter.unusedVariables false
set_option linter.unusedSimpArgs false
set_option linter.constructorNameAsVariable false
open Go.RowKit Go.WideShapes Go.ChangeShapes
section
variable {P : Program} {H : Type} {enc : TypeId × Value → H} {w : World}
theorem okWide_array {r : Reach} {b0 : Nat} {t e : TypeId} {n : Nat} {v : Value} (ht : P.underlying t = some (.array n e)) (h : Value.okWide P w r b0 t v) : ∃ cs : Array Value, v = .agg cs ∧ cs.size = P.cellsOf t := by
 unfold Value.okWide at h
 rw [ht] at h
 obtain ⟨cs, h1, h2, _⟩ := h
 exact ⟨cs, h1, h2⟩
theorem open_array {r : Reach} {b0 : Nat} {t e : TypeId} {n : Nat} {v : Value} {d : DataW H} {p : List MemPlace} (ht : P.underlying t = some (.array n e)) (hc : P.cellsOf t = n) (he : P.cellsOf e = 1)
    (hv : Value.okWide P w r b0 t v) (h : DataW.Trod enc P w 0 (fun _ => true) true t v d p) :
    ∃ cs : List Value, v = .agg cs.toArray ∧ cs.length = n ∧ ∀ (i : Nat) (hi : i < cs.length), ∃ m y, DataW.trod enc P w 0 (fun _ => true) true m e [cs[i]] = some y := by
 obtain ⟨a, rfl, hsz⟩ := okWide_array ht hv
 obtain ⟨fuel, hf⟩ := h
 obtain ⟨xs, m, _, _, _, hl, hg⟩ := DataW.trod_array ht hf
 refine ⟨a.toList, by simp, by simp [hsz, hc], fun i hi => ?_⟩
 have hi' : i < n := by simp at hi; omega
 have := hg i hi'
 rw [he, Nat.mul_one] at this
 have hx : i < xs.length := by omega
 rw [List.getElem?_eq_getElem hx, show (Value.agg a).cells.toList = a.toList from rfl, List.drop_eq_getElem_cons hi] at this
 exact ⟨m, _, this⟩
end
end Go.Proofs.YtmibndkofoldkaaGreatDoor
