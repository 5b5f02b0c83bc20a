/- A region that draws its order, by a script: what only reads is taken first (in every world that meets S it yields the same), what acts on the world comes up alone; S may be broken by the last one. One walk. After XLast. No condition. -/
import Derived.Test.YtfhinmjpokollaaLast
import Derived.Test.YtfhinmjpokollaaNew
import Derived.Lib.Hide
namespace Go.Proofs.Ytfhinmjpokollaa
set_option linter.unusedVariables false
set_option linter.unusedSimpArgs false
set_option linter.constructorNameAsVariable false
open Go.RowKit

/-- A world that meets S. -/
structure HW (S : World → Prop) where
  w : World
  h : S w
section
variable {P : Program} {md : Region.Mode} {ops : Array Oper} {Q : Exit → Act → World → Prop} {S : World → Prop} {last : Nat}
/-- The script: (true, i): number i is taken first; (false, i): number i comes up, alone. -/
def mixB (md : Region.Mode) (ops : Array Oper) (last : Nat) : List (Bool × Nat) → Array Bool → Bool
  | [], listed => (Region.ready md ops listed).isEmpty
  | (true, i) :: sc, listed => (Region.ready md ops listed).contains i && Region.free md ops listed i && (waitsOn md ops last i || decide (Region.ready md ops listed = [i])) && decide (i ≠ last) && mixB md ops last sc (listed.setIfInBounds i true)
  | (false, i) :: sc, listed => decide (Region.ready md ops listed = [i]) && (decide (i ≠ last) || sc.isEmpty) && mixB md ops last sc (listed.setIfInBounds i true)
def wpMix (P : Program) (ops : Array Oper) (S : World → Prop) (last : Nat) (Q : Exit → Act → World → Prop) : List (Bool × Nat) → Act → World → Prop
  | [], a, w => Q .normal a w
  | (true, i) :: sc, a, w => ∃ o, ops[i]? = some o ∧ (if Region.wanted o (yielded ops a.tmps) = true then ∃ v, (∀ p : HW S, (execOp a.eval o).run P p.w = .ok (.value v) p.w) ∧ wpMix P ops S last Q sc (a.put o.dst v) w else wpMix P ops S last Q sc (a.put o.dst undef) w)
  | (false, i) :: sc, a, w => ∃ o, ops[i]? = some o ∧ (if Region.wanted o (yielded ops a.tmps) = true then o.wp P a w (fun a' w' => (i ≠ last → S w') ∧ wpMix P ops S last Q sc a' w') Q else wpMix P ops S last Q sc (a.put o.dst undef) w)
theorem wpAnyT_of_mix (hs : Region.noSelect ops = true) (hQ : ∀ c a d v w, Q (.panic c) (a.put d v) w → Q (.panic c) a w) : ∀ (sc : List (Bool × Nat)) (listed : Array Bool) (a : Act) (w : World), mixB md ops last sc listed = true → (sc ≠ [] → S w) → wpMix P ops S last Q sc a w → wpAnyT P md ops Q S last sc.length listed a w
  | [], listed, a, w, hB, _, h => wpAnyT_done (by simpa [mixB] using hB) h _
  | (true, i) :: sc, listed, a, w, hB, hS, h => by
    simp only [mixB, Bool.and_eq_true] at hB
    obtain ⟨⟨⟨⟨h1, h2⟩, h3⟩, -⟩, h5⟩ := hB
    obtain ⟨o, ho, h⟩ := h
    have hSw := hS (by simp)
    have key : ∀ v, YieldsIf P ops S o v a → wpMix P ops S last Q sc (a.put o.dst v) w → wpAnyT P md ops Q S last ((true, i) :: sc).length listed a w := fun v hy h => by
      rw [Bool.or_eq_true, decide_eq_true_eq] at h3
      rcases h3 with h3 | h3
      · exact wpAnyT_take ho hs h2 h1 h3 (fun c a w => hQ c a _ _ w) hy hSw (wpAnyT_of_mix hs hQ sc _ _ _ h5 (fun _ => hSw) h)
      · refine wpAnyT_ready (rs := [i]) h3 (by simp) ?_
        intro j hj
        rw [List.mem_singleton] at hj
        subst hj
        exact hy.wpOp ho hSw ⟨fun _ => hSw, wpAnyT_of_mix hs hQ sc _ _ _ h5 (fun _ => hSw) h⟩
    by_cases hw : Region.wanted o (yielded ops a.tmps) = true
    · rw [if_pos hw] at h
      obtain ⟨v, hv, h⟩ := h
      exact key v (.inl ⟨hw, fun w hw => hv ⟨w, hw⟩⟩) h
    · rw [if_neg hw] at h
      exact key undef (.inr ⟨by simpa using hw, rfl⟩) h
  | (false, i) :: sc, listed, a, w, hB, hS, h => by
    simp only [mixB, Bool.and_eq_true, Bool.or_eq_true, decide_eq_true_eq] at hB
    obtain ⟨⟨h1, h2⟩, h3⟩ := hB
    obtain ⟨o, ho, h⟩ := h
    have hne : ∀ w', (i ≠ last → S w') → sc ≠ [] → S w' := fun w' h hsc => by
      rcases h2 with h2 | h2
      · exact h h2
      · exact absurd (List.isEmpty_iff.1 h2) hsc
    refine wpAnyT_ready (rs := [i]) h1 (by simp) (AllT.cons ho (fun K' hK => ?_) AllT.nil)
    by_cases hw : Region.wanted o (yielded ops a.tmps) = true
    · rw [if_pos hw] at h ⊢
      exact Oper.wp_mono (fun a' w' h' => hK.out a' w' h'.1 (wpAnyT_of_mix hs hQ sc _ _ _ h3 (hne w' h'.1) h'.2)) h
    · rw [if_neg hw] at h ⊢
      exact hK.out _ _ (fun _ => hS (by simp)) (wpAnyT_of_mix hs hQ sc _ _ _ h3 (fun _ => hS (by simp)) h)
/-- The same exits, no panic among them. -/
def NoPan (Q : Exit → Act → World → Prop) (e : Exit) (a : Act) (w : World) : Prop := match e with | .panic _ => False | e => Q e a w
theorem NoPan.imp {Q : Exit → Act → World → Prop} (e : Exit) (a : Act) (w : World) (h : NoPan Q e a w) : Q e a w := by
  cases e <;> first | exact h | exact h.elim
theorem wp_region_mix {id : Nat} {a : Act} {w : World} {l : List Oper} (S : World → Prop) (last : Nat) (sc : List (Bool × Nat)) (hm : P.follows .mixedOrders = true)
    (hB : (Region.noSelect l.toArray && decide (sc.length = l.toArray.size) && mixB .any l.toArray last sc (Array.replicate l.toArray.size false)) = true) (hS : S w.drew)
    (h : Nonempty (HW S) → wpMix P l.toArray S last (NoPan Q) sc a w.drew) : (Code.region id l.toArray true).wp P Q a w := by
  simp only [Bool.and_eq_true, decide_eq_true_eq] at hB
  obtain ⟨⟨h1, h2⟩, h3⟩ := hB
  refine wp_mono (Q := NoPan Q) (wp_region_T S last hm ?_) NoPan.imp
  have := wpAnyT_of_mix (Q := NoPan Q) h1 (fun _ _ _ _ _ h => h) sc _ _ _ h3 (fun _ => hS) (h ⟨⟨_, hS⟩⟩)
  rwa [h2] at this
/-- The script where S is kept by all. -/
def mixBH (md : Region.Mode) (ops : Array Oper) : List (Bool × Nat) → Array Bool → Bool
  | [], listed => (Region.ready md ops listed).isEmpty
  | (true, i) :: sc, listed => (Region.ready md ops listed).contains i && Region.free md ops listed i && mixBH md ops sc (listed.setIfInBounds i true)
  | (false, i) :: sc, listed => decide (Region.ready md ops listed = [i]) && mixBH md ops sc (listed.setIfInBounds i true)
theorem wpAnyH_of_mix (hl : last = ops.size) (hs : Region.noSelect ops = true) (hQ : ∀ c a d v w, Q (.panic c) (a.put d v) w → Q (.panic c) a w) : ∀ (sc : List (Bool × Nat)) (listed : Array Bool) (a : Act) (w : World), mixBH md ops sc listed = true → S w → wpMix P ops S last Q sc a w → wpAnyH P md ops Q S sc.length listed a w
  | [], listed, a, w, hB, _, h => ⟨by simpa [mixBH] using hB, h⟩
  | (true, i) :: sc, listed, a, w, hB, hSw, h => by
    simp only [mixBH, Bool.and_eq_true] at hB
    obtain ⟨⟨h1, h2⟩, h5⟩ := hB
    obtain ⟨o, ho, h⟩ := h
    have key : ∀ v, YieldsIf P ops S o v a → wpMix P ops S last Q sc (a.put o.dst v) w → wpAnyH P md ops Q S ((true, i) :: sc).length listed a w := fun v hy h =>
      wpAnyH_first ho (Region.noSelect_spec hs) (fun c a w => hQ c a _ _ w) _ listed a w (Region.free_spec ho h2) (by simpa using h1) hy hSw (wpAnyH_of_mix hl hs hQ sc _ _ _ h5 hSw h)
    by_cases hw : Region.wanted o (yielded ops a.tmps) = true
    · rw [if_pos hw] at h
      obtain ⟨v, hv, h⟩ := h
      exact key v (.inl ⟨hw, fun w hw => hv ⟨w, hw⟩⟩) h
    · rw [if_neg hw] at h
      exact key undef (.inr ⟨by simpa using hw, rfl⟩) h
  | (false, i) :: sc, listed, a, w, hB, hS, h => by
    simp only [mixBH, Bool.and_eq_true, decide_eq_true_eq] at hB
    obtain ⟨h1, h3⟩ := hB
    obtain ⟨o, ho, h⟩ := h
    have hil : i ≠ last := by
      have := (Array.getElem?_eq_some_iff.1 ho).1
      omega
    refine ⟨fun h0 => (by rw [h1] at h0; cases h0), fun j hj => ?_⟩
    rw [h1, List.mem_singleton] at hj
    subst hj
    unfold wpOp
    simp only [ho]
    by_cases hw : Region.wanted o (yielded ops a.tmps) = true
    · rw [if_pos hw] at h
      simp only [hw, if_true]
      exact .inl (Oper.wp_mono (fun a' w' h' => ⟨h'.1 hil, wpAnyH_of_mix hl hs hQ sc _ _ _ h3 (h'.1 hil) h'.2⟩) h)
    · rw [if_neg hw] at h
      simp only [hw]
      exact ⟨hS, wpAnyH_of_mix hl hs hQ sc _ _ _ h3 hS h⟩
theorem wp_region_mixH {id : Nat} {a : Act} {w : World} {l : List Oper} (S : World → Prop) (sc : List (Bool × Nat)) (hm : P.follows .mixedOrders = true)
    (hB : (Region.noSelect l.toArray && decide (sc.length = l.toArray.size) && mixBH .any l.toArray sc (Array.replicate l.toArray.size false)) = true) (hS : S w.drew)
    (h : Nonempty (HW S) → wpMix P l.toArray S l.toArray.size (NoPan Q) sc a w.drew) : (Code.region id l.toArray true).wp P Q a w := by
  simp only [Bool.and_eq_true, decide_eq_true_eq] at hB
  obtain ⟨⟨h1, h2⟩, h3⟩ := hB
  refine wp_mono (Q := NoPan Q) (wp_region_held (S := S) hm ?_) NoPan.imp
  have := wpAnyH_of_mix (Q := NoPan Q) rfl h1 (fun _ _ _ _ _ h => h) sc _ _ _ h3 hS (h ⟨⟨_, hS⟩⟩)
  rwa [h2] at this
theorem mix_take {i : Nat} {o : Oper} {sc : List (Bool × Nat)} {a : Act} {w : World} (ho : ops[i]? = some o)
    (h : ∀ K : Act → Prop, (∀ a, wpMix P ops S last Q sc a w → K a) → if Region.wanted o (yielded ops a.tmps) = true then ∃ v, (∀ p : HW S, (execOp a.eval o).run P p.w = .ok (.value v) p.w) ∧ K (a.put o.dst v) else K (a.put o.dst undef)) : wpMix P ops S last Q ((true, i) :: sc) a w :=
  ⟨o, ho, h _ fun _ h => h⟩
theorem mix_act {i : Nat} {o : Oper} {sc : List (Bool × Nat)} {a : Act} {w : World} (ho : ops[i]? = some o)
    (h : ∀ K : Act → World → Prop, Hid (∀ a w, (i ≠ last → S w) → wpMix P ops S last Q sc a w → K a w) → if Region.wanted o (yielded ops a.tmps) = true then o.wp P a w K Q else K (a.put o.dst undef) w) (hS : Region.wanted o (yielded ops a.tmps) = true ∨ S w) : wpMix P ops S last Q ((false, i) :: sc) a w := by
  refine ⟨o, ho, ?_⟩
  have := h (fun a' w' => (i ≠ last → S w') ∧ wpMix P ops S last Q sc a' w') (Lib.hid fun a w h1 h2 => ⟨h1, h2⟩)
  by_cases hw : Region.wanted o (yielded ops a.tmps) = true
  · rw [if_pos hw] at this ⊢
    exact this
  · rw [if_neg hw] at this ⊢
    exact this.2
/-- A cell's value, as what is held. -/
def CellIs (a : Addr) (v : Value) (w : World) : Prop := w.cell? a = some v
theorem CellIs.all (a : Addr) (v : Value) (p : HW (CellIs a v)) : p.w.cell? a = some v := p.h
theorem mix_done {a : Act} {w : World} (h : Q .normal a w) : wpMix P ops S last (NoPan Q) [] a w := h
end
end Go.Proofs.Ytfhinmjpokollaa
