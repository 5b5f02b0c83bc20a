/- A range over a function that hands out memory made in the round: an own law for an outermost loop whose rounds all go on. The round is asked only where what is handed out is 'Good' in the world of that round. No condition. -/
import Derived.Test.YtfhinmjpokollaaNew
import Derived.RangeFuncNested
import Derived.RangeFuncBound
import Derived.RangeFuncCalls
namespace Go.Proofs.Ytfhinmjpokollaa
set_option linter.unusedVariables false
set_option linter.unusedSimpArgs false
set_option linter.constructorNameAsVariable false
open Go.RowKit

/-- What a round keeps beside what it is said to keep: all that is no cells, from block B on. -/
structure Kept (B : Nat) (W W' : World) : Prop where
  size : W.heap.size ≤ W'.heap.size
  rest : ∀ (k : Nat) (o : Obj), B ≤ k → W.heap[k]? = some o → o.isCells = false → W'.heap[k]? = some o
section
variable {B : Nat} {A W W' : World}
theorem Kept.refl (B : Nat) (W : World) : Kept B W W := ⟨Nat.le_refl _, fun _ _ _ h _ => h⟩
theorem Kept.tr (h : Kept B A W) (k : Kept B W W') : Kept B A W' := ⟨Nat.le_trans h.size k.size, fun i o hi ho hc => k.rest i o hi (h.rest i o hi ho hc) hc⟩
theorem Kept.new (h : New W W') : Kept B W W' := ⟨h.size, fun k o _ ho _ => (h.block k (Array.getElem?_eq_some_iff.1 ho).1).trans ho⟩
theorem Kept.fr {S : Nat → Prop} (h : Fr S W W') (hS : ∀ k o, B ≤ k → S k → W.heap[k]? = some o → o.isCells = true) : Kept B W W' :=
  ⟨h.size, fun k o hb ho hc => (h.block k (Array.getElem?_eq_some_iff.1 ho).1 (fun hs => by have := hS k o hb hs ho; rw [hc] at this; cases this)).trans ho⟩
end
/-- An iterator all of whose elements come, one by one; each is good where it comes. -/
def GivesR {α : Type} (R : List α → α → Prop) (P : Program) (gf : Nat) (lb : Array Value) (encs : α → Array Value) (Good : α → World → Prop) (Kp : World → World → Prop) (S : List α → Prop) (M : Nat) (w : World) : Prop :=
  ∀ (l : Nat) (J : List α → World → Prop) (W : World), New w W → (∀ s A B, J s A → New A B → J s B) →
    (∀ pre x W1, pre.length < M → J pre W1 → Good x W1 → R pre x → YieldAt Fence.wide 2 P l (encs x) W1 fun e W' => e = .returned (.bool true) ∧ J (pre ++ [x]) W' ∧ Kp W1 W') →
    J [] W → CallsIn Fence.wide 2 P gf (#[.func (.yield l) #[] #[]] ++ lb) W fun e W' => (∃ v, e = .returned v) ∧ ∃ xs, S xs ∧ J xs W'
def Gives {α : Type} (P : Program) (gf : Nat) (lb : Array Value) (encs : α → Array Value) (Good : α → World → Prop) (Kp : World → World → Prop) (S : List α → Prop) (M : Nat) (w : World) : Prop :=
  GivesR (fun _ _ => True) P gf lb encs Good Kp S M w
theorem GivesR.gives {α : Type} {R : List α → α → Prop} {P : Program} {gf : Nat} {lb : Array Value} {encs : α → Array Value} {Good : α → World → Prop} {Kp : World → World → Prop} {S : List α → Prop} {M : Nat} {w : World} (h : GivesR R P gf lb encs Good Kp S M w) : Gives P gf lb encs Good Kp S M w :=
  fun l J W hN hJ hY h0 => h l J W hN hJ (fun pre x W1 h1 h2 h3 _ => hY pre x W1 h1 h2 h3 trivial) h0

/-- A block that is no cells, put anew. -/
def Puts (B : Nat) (W W' : World) : Prop := ∃ l o o', B ≤ l ∧ W.heap[l]? = some o ∧ o.isCells = false ∧ W' = W.putObj l o'

theorem wp_rangeR {α : Type} {R : List α → α → Prop} {P : Program} {g : Operand} {ps : Array Tmp} {assign body : Code} {Q : Exit → Act → World → Prop} {a : Act} {w : World}
    {gf : Nat} {lb : Array Value} (hg : a.eval g = .func (.func gf) #[] lb) (eg : ∀ args w, (callFunc gf args).run P w = .ok (.enter gf args) w)
    (encs : α → Array Value) (hps : ∀ x, (encs x).size = ps.size) {Good : α → World → Prop} {Kp : World → World → Prop} {S : List α → Prop} {M : Nat} (hseq : GivesR R P gf lb encs Good Kp S M w)
    (hGp : ∀ x W W', Good x W → Puts w.heap.size W W' → Good x W') (hKt : ∀ {A B C : World}, Kp A B → Kp B C → Kp A C) (hKp : ∀ W W', Puts w.heap.size W W' → Kp W W')
    (I : List α → World → Prop) (hIn : ∀ s A B, I s A → New A B → I s B) (hIp : ∀ s A B, I s A → Puts w.heap.size A B → I s B) (h0 : I [] w) (a1 : α → Act)
    (hassign : ∀ (l : Nat) (x : α) (W : World) (K : Act → World → Prop), K (a1 x) W → assign.wpIn (Fence.wide.inRound l) 2 P (Exit.then K (fun _ _ _ => False)) { tmps := (ps.zip (encs x)).foldl (fun t (p, v) => t.setIfInBounds p v) a.tmps, defers := [] } W)
    (hbody : ∀ (l : Nat) (pre : List α) (x : α) (W : World), pre.length < M → I pre W → Good x W → R pre x → body.wpIn (Fence.wide.inRound l) 2 P (fun e _ W' => e = .normal ∧ Kept w.heap.size W W' ∧ Kp W W' ∧ I (pre ++ [x]) W') (a1 x) W)
    (hdone : ∀ (D : Nat) (xs : List α) (W : World), w.heap.size ≤ D → S xs → I xs W → W.heap[D]? = some (.deferred (some [])) → Q .normal { a with defers := { target := .collected D, args := #[] } :: a.defers } W) :
    (Code.rangeFunc g ps assign body).wp P Q a w := by
  refine (wpIn_wide (n := 3)).1 ?_
  refine wpIn_rangeFunc fun fn hfn => ?_
  -- the two blocks of the loop
  obtain ⟨rc, hrc⟩ : ∃ rc : LoopState → Option Code → Loop, rc = fun st pe => { state := st, pending := pe, fn, tmps := a.tmps, params := ps, assign, body, defers := w.heap.size } := ⟨_, rfl⟩
  obtain ⟨w1, hw1⟩ : ∃ w1, w1 = (w.alloc (.deferred (some []))).alloc (.loop (rc .ready none)) := ⟨_, rfl⟩
  have hn1 : New w w1 := by rw [hw1]; exact New.al (New.al (New.refl w) _) _
  have hl1 : w1.heap[w.heap.size + 1]? = some (.loop (rc .ready none)) := by
    rw [hw1]
    have := World.alloc_heap_new (w.alloc (.deferred (some []))) (.loop (rc .ready none))
    rwa [World.size_alloc] at this
  have hd1 : w1.heap[w.heap.size]? = some (.deferred (some [])) := by
    rw [hw1]
    exact (Below.heap_alloc _ _ _ (by simp)).trans (World.alloc_heap_new w _)
  refine ⟨w.heap.size + 1, [{ target := .collected w.heap.size, args := #[] }], w1, { target := .fn (.func gf) lb, args := #[.func (.yield (w.heap.size + 1)) #[] #[]] }, w1, gf, #[.func (.yield (w.heap.size + 1)) #[] #[]] ++ lb, w1, ?_, ?_, fun _ _ => trivial, ?_, fun _ => by decide, ?_⟩
  · rw [hw1, hrc]
    exact run_enterLoop_outer _ _ _ _ _
  · simp only [resolve, hg]
    simp [go_sem]
  · simp [invoke, go_sem, eg]
  -- the record between two rounds
  have put : ∀ (W : World) (r r' : Loop), W.heap[w.heap.size + 1]? = some (.loop r) → Puts w.heap.size W (W.putObj (w.heap.size + 1) (.loop r')) := fun W r r' h => ⟨_, _, _, by omega, h, rfl, rfl⟩
  refine (hseq (w.heap.size + 1) (fun pre W => I pre W ∧ W.heap[w.heap.size + 1]? = some (.loop (rc .ready none)) ∧ W.heap[w.heap.size]? = some (.deferred (some []))) w1 hn1 ?_ ?_ ⟨hIn _ _ _ h0 hn1, hl1, hd1⟩).mono ?_
  · rintro s A B ⟨hi, hl, hd⟩ hN
    exact ⟨hIn s A B hi hN, (hN.block _ (Array.getElem?_eq_some_iff.1 hl).1).trans hl, (hN.block _ (Array.getElem?_eq_some_iff.1 hd).1).trans hd⟩
  · rintro pre x W hpl ⟨hi, hl, hd⟩ hgood hRx
    have hlt := (Array.getElem?_eq_some_iff.1 hl).1
    have hy := run_yield (P := P) (args := encs x) hl (by rw [hrc]; exact hps x)
    rw [hrc] at hy
    refine ⟨fn, _, assign, body, hy, roundIn_of_wpIn hfn (hassign _ x W _ ⟨_, run_beginRound hl (by rw [hrc]), ?_⟩)⟩
    obtain ⟨W2, hW2⟩ : ∃ W2, W2 = W.putObj (w.heap.size + 1) (.loop { rc .ready none with state := .busy }) := ⟨_, rfl⟩
    have hP2 : Puts w.heap.size W W2 := by rw [hW2]; exact put W _ _ hl
    have hl2 : W2.heap[w.heap.size + 1]? = some (.loop { rc .ready none with state := .busy }) := by rw [hW2]; exact World.putObj_heap_same hlt
    have hd2 : W2.heap[w.heap.size]? = some (.deferred (some [])) := by rw [hW2]; exact (World.putObj_heap_other (by omega)).trans hd
    rw [← hW2]
    refine wpIn_mono (hbody _ pre x W2 hpl (hIp _ _ _ hi hP2) (hGp _ _ _ hgood hP2) hRx) ?_
    rintro e a3 W3 ⟨rfl, hk3, hkp3, hi3⟩
    have hl3 := hk3.rest _ _ (by omega) hl2 rfl
    have hd3 := hk3.rest _ _ (Nat.le_refl _) hd2 rfl
    have hr := run_endRound (P := P) none hl3
    have hP3 := put W3 _ { rc .ready none with state := (if (none : Option Code).isNone then .ready else .done), pending := none } hl3
    refine ⟨_, _, hr, rfl, ⟨hIp _ _ _ hi3 hP3, ?_, (World.putObj_heap_other (by omega)).trans hd3⟩, hKt (hKp _ _ hP2) (hKt hkp3 (hKp _ _ hP3))⟩
    rw [World.putObj_heap_same (Array.getElem?_eq_some_iff.1 hl3).1, hrc]
    rfl
  · rintro e W2 ⟨⟨v, rfl⟩, xs, hS, hi, hl, hd⟩
    have hend := run_endLoop (P := P) hl (by rw [hrc]; simp)
    rw [hrc] at hend
    exact ⟨none, _, hend, hdone _ xs _ (Nat.le_refl _) hS (hIp _ _ _ hi (put W2 _ _ hl)) ((World.putObj_heap_other (by omega)).trans hd)⟩

theorem wp_range {α : Type} {P : Program} {g : Operand} {ps : Array Tmp} {assign body : Code} {Q : Exit → Act → World → Prop} {a : Act} {w : World}
    {gf : Nat} {lb : Array Value} (hg : a.eval g = .func (.func gf) #[] lb) (eg : ∀ args w, (callFunc gf args).run P w = .ok (.enter gf args) w)
    (encs : α → Array Value) (hps : ∀ x, (encs x).size = ps.size) {Good : α → World → Prop} {Kp : World → World → Prop} {S : List α → Prop} {M : Nat} (hseq : Gives P gf lb encs Good Kp S M w)
    (hGp : ∀ x W W', Good x W → Puts w.heap.size W W' → Good x W') (hKt : ∀ {A B C : World}, Kp A B → Kp B C → Kp A C) (hKp : ∀ W W', Puts w.heap.size W W' → Kp W W')
    (I : List α → World → Prop) (hIn : ∀ s A B, I s A → New A B → I s B) (hIp : ∀ s A B, I s A → Puts w.heap.size A B → I s B) (h0 : I [] w) (a1 : α → Act)
    (hassign : ∀ (l : Nat) (x : α) (W : World) (K : Act → World → Prop), K (a1 x) W → assign.wpIn (Fence.wide.inRound l) 2 P (Exit.then K (fun _ _ _ => False)) { tmps := (ps.zip (encs x)).foldl (fun t (p, v) => t.setIfInBounds p v) a.tmps, defers := [] } W)
    (hbody : ∀ (l : Nat) (pre : List α) (x : α) (W : World), pre.length < M → I pre W → Good x W → body.wpIn (Fence.wide.inRound l) 2 P (fun e _ W' => e = .normal ∧ Kept w.heap.size W W' ∧ Kp W W' ∧ I (pre ++ [x]) W') (a1 x) W)
    (hdone : ∀ (D : Nat) (xs : List α) (W : World), w.heap.size ≤ D → S xs → I xs W → W.heap[D]? = some (.deferred (some [])) → Q .normal { a with defers := { target := .collected D, args := #[] } :: a.defers } W) :
    (Code.rangeFunc g ps assign body).wp P Q a w :=
  wp_rangeR hg eg encs hps hseq hGp hKt hKp I hIn hIp h0 a1 hassign (fun l pre x W h1 h2 h3 _ => hbody l pre x W h1 h2 h3) hdone

/-! ### Marks that loops have left among a frame's deferred calls -/
def mk1 (D : Nat) : Deferred := { target := .collected D, args := #[] }
/-- Loops' marks, each with its block in the heap, none below B. -/
def Marks (B : Nat) (Ds : List Nat) (W : World) : Prop := Ds.Nodup ∧ ∀ D ∈ Ds, B ≤ D ∧ W.heap[D]? = some (.deferred (some []))
section
variable {B : Nat} {Ds : List Nat} {W W' : World}
theorem Marks.nil (B : Nat) (W : World) : Marks B [] W := ⟨List.nodup_nil, fun D h => by cases h⟩
theorem Marks.kept (h : Marks B Ds W) (hk : Kept B W W') : Marks B Ds W' := ⟨h.1, fun D hD => ⟨(h.2 D hD).1, hk.rest D _ (h.2 D hD).1 (h.2 D hD).2 rfl⟩⟩
theorem Marks.lt (h : Marks B Ds W) {D : Nat} (hD : D ∈ Ds) : D < W.heap.size := (Array.getElem?_eq_some_iff.1 (h.2 D hD).2).1
theorem Marks.cons (h : Marks B Ds W) {D : Nat} (h0 : ∀ k ∈ Ds, k < D) (hB : B ≤ D) (hd : W.heap[D]? = some (.deferred (some []))) : Marks B (D :: Ds) W :=
  ⟨List.nodup_cons.2 ⟨fun hm => by have := h0 D hm; omega, h.1⟩, fun k hk => by
    rcases List.mem_cons.1 hk with rfl | hk
    · exact ⟨hB, hd⟩
    · exact h.2 k hk⟩
/-- The blocks of the marks are shut; nothing else turns. -/
structure Shut (B : Nat) (W W' : World) : Prop where
  below : Below B W W'
  cells : ∀ (k : Nat) (o : Obj), W.heap[k]? = some o → o.isCells = true → W'.heap[k]? = some o
theorem Shut.refl (B : Nat) (W : World) : Shut B W W := ⟨Below.refl _ _, fun _ _ h _ => h⟩
theorem leaves_marks {F : Fence} {n : Nat} {P : Program} {fn : Func} {tmps : Array Value} {R : Ending → World → Prop} : ∀ (Ds : List Nat) (W : World), Marks B Ds W →
    (∀ W', Shut B W W' → ∃ v, (results fn tmps).run P W' = .ok v W' ∧ R (.returned v) W') → LeavesInM F n P fn tmps R (Ds.map mk1) .returning W := by
  intro Ds
  induction Ds with
  | nil => exact fun W _ h => h W (Shut.refl B W)
  | cons D Ds ih =>
    intro W hM h
    have hD := hM.2 D (by simp)
    have hlt := hM.lt (D := D) (by simp)
    have hn := List.nodup_cons.1 hM.1
    refine ⟨by simp, .inl ⟨D, _, rfl, run_takeDeferred hD.2, ih _ ⟨hn.2, fun k hk => ⟨(hM.2 k (by simp [hk])).1, ?_⟩⟩ ?_⟩⟩
    · have hkd : k ≠ D := fun e => hn.1 (by rw [← e]; exact hk)
      exact (World.putObj_heap_other hkd).trans (hM.2 k (by simp [hk])).2
    · intro W' hS
      refine h W' ⟨((Below.refl B W).grown (grownBy_putObj' W D (.deferred none)) (by omega) (fun k e => by cases e; exact hD.1)).trans hS.below, fun k o ho hc => hS.cells k o ?_ hc⟩
      refine (World.putObj_heap_other (fun e => ?_)).trans ho
      rw [e, hD.2] at ho
      cases ho
      cases hc
end
end Go.Proofs.Ytfhinmjpokollaa
