/- Texts of one proof, one behind the other: TiA. No condition but each one's own. -/
import Derived.Test.YtmibndkofoldkaaGreatDoorClientNilM5
import Derived.Test.YtmibndkofoldkaaGreatDoorClientNilM2
import Derived.Test.YtmibndkofoldkaaGreatDoorClientNilM6
namespace Go.Proofs.YtmibndkofoldkaaGreatDoor
set_option linter.unusedVariables false
set_option linter.unusedSimpArgs false
set_option linter.constructorNameAsVariable false
open Go.RowKit Go.Sort
theorem flen_mem {α : Type} {f : α → List Value} {size : Nat} : ∀ {L : List α}, (∀ x ∈ L, (f x).length = size) → (L.flatMap f).length = L.length * size
 | [], _ => by simp
 | x :: L, h => by
  rw [List.flatMap_cons, List.length_append, h x (List.mem_cons_self ..), flen_mem fun y hy => h y (List.mem_cons_of_mem _ hy), List.length_cons, Nat.succ_mul, Nat.add_comm]
theorem rd_rowm {α : Type} {p : Nat → Prop} {w : World} {A : Option Addr} {n size : Nat} {f : α → List Value} {L : List α} (hf : ∀ x ∈ L, (f x).length = size) (hs : 0 < size) (h : Rd p w size A n (L.flatMap f)) {i : Nat} (hi : i < n) :
    ∃ (g o : Nat) (hl : i < L.length), A = some ⟨g, o, none⟩ ∧ p g ∧ g < w.heap.size ∧ w.rangeAt g (o + i * size) (f L[i]) := by
 obtain ⟨g, o, hA, hp, hg, hc⟩ := h.out (by omega) hs
 have hlen := flen_mem hf
 have hl : i < L.length := by
  have h1 := h.1
  rw [hlen] at h1
  have := Nat.eq_of_mul_eq_mul_right hs h1
  omega
 refine ⟨g, o, hl, hA, hp, hg, fun j v hv => ?_⟩
 have hj : j < size := by rw [← hf L[i] (List.getElem_mem _)]; exact (List.getElem?_eq_some_iff.1 hv).1
 rw [Nat.add_assoc]
 exact hc (i * size + j) v (by rw [fm_get f size L i j hl hf hj]; exact hv)
theorem sd_row {p : Nat → Prop} {w : World} {A : Option Addr} {n : Nat} {L : List Sd} (hk : ∀ x ∈ L, x.Ok) (h : Rd p w 49 A n (L.flatMap Sd.cells)) {i : Nat} (hi : i < n) :
    ∃ (g o : Nat) (hl : i < L.length), A = some ⟨g, o, none⟩ ∧ p g ∧ g < w.heap.size ∧ w.rangeAt g (o + i * 49) L[i].cells := rd_rowm (fun x hx => Sd.len (hk x hx)) (by decide) h hi
set_option maxHeartbeats 2000000
set_option maxRecDepth 100000
end Go.Proofs.YtmibndkofoldkaaGreatDoor
