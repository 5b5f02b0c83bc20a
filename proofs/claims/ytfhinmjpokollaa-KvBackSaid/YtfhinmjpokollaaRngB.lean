/- More of ranges over a function: what a block that is put anew leaves, marks, cuts. No condition. -/
import Derived.Test.YtfhinmjpokollaaRng
import Derived.Test.YtfhinmjpokollaaQb
namespace Go.Proofs.Ytfhinmjpokollaa
set_option linter.unusedVariables false
set_option linter.unusedSimpArgs false
set_option linter.constructorNameAsVariable false
open Go.RowKit

section
variable {B : Nat} {W W' : World}
theorem Puts.keep {k : Nat} {o : Obj} (h : Puts B W W') (hk : W.heap[k]? = some o) (hc : o.isCells = true) : W'.heap[k]? = some o := by
  obtain ⟨l, o1, o', -, hl, ho, rfl⟩ := h
  refine (World.putObj_heap_other fun e => ?_).trans hk
  rw [e, hl] at hk
  injection hk with hk
  rw [hk, hc] at ho
  cases ho
theorem Puts.blk {g : Nat} {t : TypeId} {cs : Array Value} (h : Puts B W W') (hb : Blk W g t cs) : Blk W' g t cs := h.keep hb rfl
theorem Puts.fr {S : Nat → Prop} (h : Puts B W W') (hS : ∀ j, B ≤ j → S j) : Fr S W W' := by
  obtain ⟨l, o1, o', hB, hl, ho, rfl⟩ := h
  exact ⟨rfl, rfl, rfl, by simp, fun k _ hk => World.putObj_heap_other (fun e => hk (e ▸ hS _ hB))⟩
theorem Puts.own {base e size n : Nat} {v : Value} {xs : List Value} (h : Puts B W W') (ho : W.ownsRow base e size v n xs) : W'.ownsRow base e size v n xs := by
  refine ⟨ho.1, ?_⟩
  rcases ho.2 with h2 | ⟨g, cap, cur, rfl, hb, hh, rest⟩
  · exact .inl h2
  · exact .inr ⟨g, cap, cur, rfl, hb, h.keep hh rfl, rest⟩
theorem Marks.fr {B : Nat} {Ds : List Nat} {S : Nat → Prop} (h : Marks B Ds W) (hF : Fr S W W') (hS : ∀ D, S D → ¬ W.heap[D]? = some (.deferred (some []))) : Marks B Ds W' :=
  ⟨h.1, fun D hD => ⟨(h.2 D hD).1, (hF.block D (h.lt hD) (fun hs => hS D hs (h.2 D hD).2)).trans (h.2 D hD).2⟩⟩
theorem Marks.new {B : Nat} {Ds : List Nat} (h : Marks B Ds W) (hN : New W W') : Marks B Ds W' := h.fr (S := NoB) (hN.toFr _) (fun _ x => x.elim)
theorem Marks.keep {B : Nat} {Ds : List Nat} {S : Nat → Prop} (h : Marks B Ds W) (hF : Fr S W W') (hS : ∀ j, S j → W.heap.size ≤ j) : Marks B Ds W' :=
  ⟨h.1, fun D hD => ⟨(h.2 D hD).1, (hF.block D (h.lt hD) (fun hs => by have := hS D hs; have := h.lt hD; omega)).trans (h.2 D hD).2⟩⟩
end
theorem not_def_blk {W : World} {k t : Nat} {cs : Array Value} (h : Blk W k t cs) : ¬ W.heap[k]? = some (.deferred (some [])) := by
  intro e
  unfold Blk at h
  rw [h] at e
  cases e
theorem wp_only {P : Program} {c : Code} {K : Act → World → Prop} {Q0 : Exit → Act → World → Prop} {a : Act} {w : World} (h : c.wp P (Exit.then K fun _ _ _ => False) a w) : c.wp P (Exit.then K Q0) a w :=
  wp_mono h fun e a' w' hq => by
    cases e <;> first | exact hq | exact hq.elim
theorem wp_sw {P : Program} {c : Code} {Q : Exit → Act → World → Prop} {a : Act} {w : World} (R : Act → World → Prop) (h1 : ∀ a' w', R a' w' → Q .normal a' w')
    (h2 : ∀ K' : Act → World → Prop, (∀ a' w', R a' w' → K' a' w') → c.wp P (Exit.then K' fun _ _ _ => False) a w) : c.wp P Q a w :=
  wp_mono (h2 (fun a w => Q .normal a w) h1) fun e a' w' hq => by
    cases e <;> first | exact hq | exact hq.elim
end Go.Proofs.Ytfhinmjpokollaa
