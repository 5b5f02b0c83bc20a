/- Texts of one proof, one behind the other: MxT, Join, Held, Row. No condition but each one's own. -/
import Derived.Test.YtmibndkofoldkaaGreatDoorClientNilM1
import Derived.Test.YtmibndkofoldkaaGreatDoorClientNilM2
import Derived.OrdersHeld
import Derived.Test.YtmibndkofoldkaaGreatDoorClientNilM6
import Derived.Deep.WholeRow
import Derived.Deep.MidRow
namespace Go.Proofs.YtmibndkofoldkaaGreatDoor
set_option linter.unusedVariables false
set_option linter.unusedSimpArgs false
set_option linter.constructorNameAsVariable false
open Go.RowKit
inductive Tr where
 | done
 | take (i : Nat) (t : Tr)
 | act (i : Nat) (t : Tr)
 | two (i : Nat) (t : Tr) (j : Nat) (u : Tr)
def Tr.len : Tr → Nat
 | .done => 0
 | .take _ t => t.len + 1
 | .act _ t => t.len + 1
 | .two _ t _ _ => t.len + 1
section
variable {P : Program} {md : Region.Mode} {ops : Array Oper} {Q : Exit → Act → World → Prop} {S : World → Prop}
def treeB (md : Region.Mode) (ops : Array Oper) : Tr → Array Bool → Bool
 | .done, listed => (Region.ready md ops listed).isEmpty
 | .take i t, listed => (Region.ready md ops listed).contains i && Region.free md ops listed i && treeB md ops t (listed.setIfInBounds i true)
 | .act i t, listed => decide (Region.ready md ops listed = [i]) && treeB md ops t (listed.setIfInBounds i true)
 | .two i t j u, listed => decide (Region.ready md ops listed = [i, j]) && decide (t.len = u.len) && treeB md ops t (listed.setIfInBounds i true) && treeB md ops u (listed.setIfInBounds j true)
def ActOk (P : Program) (ops : Array Oper) (S : World → Prop) (Q : Exit → Act → World → Prop) (i : Nat) (R : Act → World → Prop) (a : Act) (w : World) : Prop :=
 ∃ o, ops[i]? = some o ∧ (if Region.wanted o (yielded ops a.tmps) = true then o.wp P a w (fun a' w' => S w' ∧ R a' w') Q else R (a.put o.dst undef) w)
def wpTree (P : Program) (ops : Array Oper) (S : World → Prop) (Q : Exit → Act → World → Prop) : Tr → Act → World → Prop
 | .done, a, w => Q .normal a w
 | .take i t, a, w => ∃ o, ops[i]? = some o ∧ (if Region.wanted o (yielded ops a.tmps) = true then ∃ v, (∀ p : HW S, (execOp a.eval o).run P p.w = .ok (.value v) p.w) ∧ wpTree P ops S Q t (a.put o.dst v) w else wpTree P ops S Q t (a.put o.dst undef) w)
 | .act i t, a, w => ActOk P ops S Q i (wpTree P ops S Q t) a w
 | .two i t j u, a, w => ActOk P ops S Q i (wpTree P ops S Q t) a w ∧ ActOk P ops S Q j (wpTree P ops S Q u) a w
theorem actOk_op {i : Nat} {R R' : Act → World → Prop} {a : Act} {w : World} (h : ActOk P ops S Q i R a w) (hS : S w) (hR : ∀ a' w', S w' → R a' w' → R' a' w') : wpOp P ops Q i (fun a' w' => S w' ∧ R' a' w') a w := by
 obtain ⟨o, ho, h⟩ := h
 unfold wpOp
 simp only [ho]
 by_cases hw : Region.wanted o (yielded ops a.tmps) = true
 · rw [if_pos hw] at h
   simp only [hw, if_true]
   exact .inl (Oper.wp_mono (fun a' w' h' => ⟨h'.1, hR _ _ h'.1 h'.2⟩) h)
 · rw [if_neg hw] at h
   simp only [hw]
   exact ⟨hS, hR _ _ hS h⟩
theorem wpAnyH_of_tree (hs : Region.noSelect ops = true) (hQ : ∀ c a d v w, Q (.panic c) (a.put d v) w → Q (.panic c) a w) : ∀ (t : Tr) (listed : Array Bool) (a : Act) (w : World), treeB md ops t listed = true → S w → wpTree P ops S Q t a w → wpAnyH P md ops Q S t.len listed a w
 | .done, listed, a, w, hB, _, h => ⟨by simpa [treeB] using hB, h⟩
 | .take i t, listed, a, w, hB, hSw, h => by
  simp only [treeB, Bool.and_eq_true] at hB
  obtain ⟨⟨h1, h2⟩, h5⟩ := hB
  obtain ⟨o, ho, h⟩ := h
  have key : ∀ v, YieldsIf P ops S o v a → wpTree P ops S Q t (a.put o.dst v) w → wpAnyH P md ops Q S (Tr.take i t).len listed a w := fun v hy h =>
   wpAnyH_first ho (Region.noSelect_spec hs) (fun c a w => hQ c a _ _ w) _ listed a w (Region.free_spec ho h2) (by simpa using h1) hy hSw (wpAnyH_of_tree hs hQ t _ _ _ h5 hSw h)
  by_cases hw : Region.wanted o (yielded ops a.tmps) = true
  · rw [if_pos hw] at h
    obtain ⟨v, hv, h⟩ := h
    exact key v (.inl ⟨hw, fun w hw => hv ⟨w, hw⟩⟩) h
  · rw [if_neg hw] at h
    exact key undef (.inr ⟨by simpa using hw, rfl⟩) h
 | .act i t, listed, a, w, hB, hS, h => by
  simp only [treeB, Bool.and_eq_true, decide_eq_true_eq] at hB
  obtain ⟨h1, h3⟩ := hB
  refine ⟨fun h0 => (by rw [h1] at h0; cases h0), fun j hj => ?_⟩
  rw [h1, List.mem_singleton] at hj
  subst hj
  exact actOk_op h hS (fun a' w' hS' h' => wpAnyH_of_tree hs hQ t _ _ _ h3 hS' h')
 | .two i t j u, listed, a, w, hB, hS, h => by
  simp only [treeB, Bool.and_eq_true, decide_eq_true_eq] at hB
  obtain ⟨⟨⟨h1, h2⟩, h3⟩, h4⟩ := hB
  refine ⟨fun h0 => (by rw [h1] at h0; cases h0), fun k hk => ?_⟩
  rw [h1] at hk
  rcases List.mem_cons.1 hk with rfl | hk
  · exact actOk_op h.1 hS (fun a' w' hS' h' => wpAnyH_of_tree hs hQ t _ _ _ h3 hS' h')
  · rw [List.mem_singleton] at hk
    subst hk
    refine actOk_op h.2 hS (fun a' w' hS' h' => ?_)
    show wpAnyH P md ops Q S t.len _ a' w'
    rw [h2]
    exact wpAnyH_of_tree hs hQ u _ _ _ h4 hS' h'
theorem wp_region_tree {id : Nat} {a : Act} {w : World} {l : List Oper} (S : World → Prop) (t : Tr) (hm : P.follows .mixedOrders = true)
    (hB : (Region.noSelect l.toArray && decide (t.len = l.toArray.size) && treeB .any l.toArray t (Array.replicate l.toArray.size false)) = true) (hS : S w.drew)
    (h : Nonempty (HW S) → wpTree P l.toArray S (NoPan Q) t a w.drew) : (Code.region id l.toArray true).wp P Q a w := by
 simp only [Bool.and_eq_true, decide_eq_true_eq] at hB
 obtain ⟨⟨h1, h2⟩, h3⟩ := hB
 refine wp_mono (Q := NoPan Q) (wp_region_held (S := S) hm ?_) NoPan.imp
 have := wpAnyH_of_tree (Q := NoPan Q) h1 (fun _ _ _ _ _ h => h) t _ _ _ h3 hS (h ⟨⟨_, hS⟩⟩)
 rwa [h2] at this
theorem tree_take {i : Nat} {o : Oper} {t : Tr} {a : Act} {w : World} (ho : ops[i]? = some o)
    (h : ∀ K : Act → Prop, (∀ a, wpTree P ops S Q t a w → K a) → if Region.wanted o (yielded ops a.tmps) = true then ∃ v, (∀ p : HW S, (execOp a.eval o).run P p.w = .ok (.value v) p.w) ∧ K (a.put o.dst v) else K (a.put o.dst undef)) : wpTree P ops S Q (.take i t) a w :=
 ⟨o, ho, h _ fun _ h => h⟩
theorem act_ok {i : Nat} {o : Oper} {R : Act → World → Prop} {a : Act} {w : World} (ho : ops[i]? = some o)
    (h : ∀ K : Act → World → Prop, Hid (∀ a w, S w → R a w → K a w) → if Region.wanted o (yielded ops a.tmps) = true then o.wp P a w K Q else K (a.put o.dst undef) w) (hS : Region.wanted o (yielded ops a.tmps) = true ∨ S w) : ActOk P ops S Q i R a w := by
 refine ⟨o, ho, ?_⟩
 have := h (fun a' w' => S w' ∧ R a' w') (Lib.hid fun a w h1 h2 => ⟨h1, h2⟩)
 by_cases hw : Region.wanted o (yielded ops a.tmps) = true
 · rw [if_pos hw] at this ⊢
   exact this
 · rw [if_neg hw] at this ⊢
   exact this.2
theorem tree_act {i : Nat} {o : Oper} {t : Tr} {a : Act} {w : World} (ho : ops[i]? = some o)
    (h : ∀ K : Act → World → Prop, Hid (∀ a w, S w → wpTree P ops S Q t a w → K a w) → if Region.wanted o (yielded ops a.tmps) = true then o.wp P a w K Q else K (a.put o.dst undef) w) (hS : Region.wanted o (yielded ops a.tmps) = true ∨ S w) : wpTree P ops S Q (.act i t) a w :=
 act_ok ho h hS
theorem tree_done {a : Act} {w : World} (h : Q .normal a w) : wpTree P ops S (NoPan Q) .done a w := h
end
end Go.Proofs.YtmibndkofoldkaaGreatDoor
namespace Go.Proofs.YtmibndkofoldkaaGreatDoor
set_option linter.unusedVariables false
set_option linter.unusedSimpArgs false
set_option linter.constructorNameAsVariable false
open Go.RowKit
theorem wp_join {α : Type} {P : Program} {c : Code} {Q : Exit → Act → World → Prop} {a : Act} {w : World} (R : α → World → Prop) {F : α → Act}
    (h1 : ∀ K' : Act → World → Prop, Hid (∀ x w', R x w' → K' (F x) w') → c.wp P (Exit.then K' fun _ _ _ => False) a w)
    (h2 : ∀ x w', R x w' → Q .normal (F x) w') : c.wp P Q a w :=
 wp_sw (fun a' w' => ∃ x, a' = F x ∧ R x w') (fun a' w' ⟨x, e, h⟩ => e ▸ h2 x w' h) (fun K' hK => h1 K' (Lib.hid fun x w' h => hK _ _ ⟨x, rfl, h⟩))
theorem wp_join2 {α β : Type} {P : Program} {c : Code} {Q : Exit → Act → World → Prop} {a : Act} {w : World} (R : α → β → World → Prop) {F : α → β → Act}
    (h1 : ∀ K' : Act → World → Prop, Hid (∀ x y w', R x y w' → K' (F x y) w') → c.wp P (Exit.then K' fun _ _ _ => False) a w)
    (h2 : ∀ x y w', R x y w' → Q .normal (F x y) w') : c.wp P Q a w :=
 wp_join (α := α × β) (F := fun p => F p.1 p.2) (fun p => R p.1 p.2) (fun K' hK => h1 K' (Lib.hid fun x y w' h => hK.out (x, y) w' h)) fun p w' h => h2 p.1 p.2 w' h
section
variable {P : Program} {ops : Array Oper} {Q : Exit → Act → World → Prop} {S : World → Prop}
theorem act_alloc {i : Nat} {o : Oper} {R : Act → World → Prop} {a : Act} {w : World} {T : TypeId} {n : Nat} {Z : Value} (ho : ops[i]? = some o) (hw : Region.wanted o (yielded ops a.tmps) = true) (hop : o.op = .alloc T) (hZ : (P.info? T).map (fun i => (i.zero, i.size)) = some (some Z, n))
    (h : ∀ g w', g = w.heap.size → Blk w' g T Z.cells → New w w' → S w' ∧ R (a.put o.dst (.pointer (some ⟨g, 0, none⟩))) w') : ActOk P ops S Q i R a w := by
 refine ⟨o, ho, ?_⟩
 rw [if_pos hw]
 obtain ⟨z1, z2⟩ := zero_of_info hZ
 have hal : (Instr.alloc T true (.tuple #[])).run P w = .ok (.pointer (some ⟨w.heap.size, 0, none⟩)) (w.alloc (.cells Z.cells T)) := by
  unfold Instr.alloc
  simp [Sem.run_bind, z1 w, newVar, newRow, go_sem, Result.andThen]
 unfold Oper.wp
 simp only [execOp, hop, hal, Result.andThen_ok, Sem.run_bind, Sem.run_pure]
 exact h _ _ rfl (Blk.new _ _ _) (New.al (New.refl _) _)
theorem tree_act_alloc {i : Nat} {o : Oper} {t : Tr} {a : Act} {w : World} {T : TypeId} {n : Nat} {Z : Value} (ho : ops[i]? = some o) (hw : Region.wanted o (yielded ops a.tmps) = true) (hop : o.op = .alloc T) (hZ : (P.info? T).map (fun i => (i.zero, i.size)) = some (some Z, n))
    (h : ∀ g w', g = w.heap.size → Blk w' g T Z.cells → New w w' → S w' ∧ wpTree P ops S Q t (a.put o.dst (.pointer (some ⟨g, 0, none⟩))) w') : wpTree P ops S Q (.act i t) a w :=
 act_alloc ho hw hop hZ h
theorem act_store {i : Nat} {o : Oper} {R : Act → World → Prop} {a : Act} {w : World} {T : TypeId} {g : Nat} {cs0 cs : Array Value} (ho : ops[i]? = some o) (hw : Region.wanted o (yielded ops a.tmps) = true) (x y : Operand) (hop : o.op = .store T x y) (hi : (P.info? T).map (·.size) = some cs.size) (hx : a.eval x = .pointer (some ⟨g, 0, none⟩)) (hy : a.eval y = .agg cs) (hb : Blk w g T cs0) (h0 : cs0.size = cs.size) (h1 : cs.all (·.oneCell') = true)
    (h : ∀ w', Blk w' g T cs → Fr (fun k => k = g) w w' → S w' ∧ R (a.put o.dst undef) w') : ActOk P ops S Q i R a w := by
 refine ⟨o, ho, ?_⟩
 obtain ⟨r1, r2⟩ := setRow_blk (cs' := cs) hb
 rw [if_pos hw]
 unfold Oper.wp execOp
 simp only [hop, hx, hy, Instr.storeAt, Instr.sureAddr, Sem.run_bind, Sem.run_pure, Result.andThen_ok, run_storeVar_row w g T T cs0 cs hb (by rw [hi]) (by omega) h1]
 exact h _ r1 r2
theorem tree_take_row {i : Nat} {o : Oper} {t : Tr} {a : Act} {w : World} {T : TypeId} {d : TypeDesc} {b off : Nat} {cs : List Value} (ho : ops[i]? = some o) (hw : Region.wanted o (yielded ops a.tmps) = true) (x : Operand) (hop : o.op = .load T x) (hx : a.eval x = .pointer (some ⟨b, off, none⟩))
    (hc : ∀ w', S w' → w'.rangeAt b off cs) (hu : P.underlying T = some d) (hd : d.isRow = true) (hi : (P.info? T).map (·.size) = some cs.length)
    (h : wpTree P ops S Q t (a.put o.dst (.agg cs.toArray)) w) : wpTree P ops S Q (.take i t) a w :=
 ⟨o, ho, by
  rw [if_pos hw]
  refine ⟨_, fun p => ?_, h⟩
  unfold execOp
  simp only [hop, hx, Instr.loadAt, Instr.sureAddr, Sem.run_bind, Sem.run_pure, Result.andThen_ok, run_loadVar_mid p.w b off T cs d (hc _ p.h) hu hd hi]⟩
end
end Go.Proofs.YtmibndkofoldkaaGreatDoor
namespace Go.Proofs.YtmibndkofoldkaaGreatDoor
set_option linter.unusedVariables false
set_option linter.unusedSimpArgs false
set_option linter.constructorNameAsVariable false
open Go.RowKit
section
variable {P : Program} {ops : Array Oper} {o : Oper} {a : Act} {w : World} {Q : Exit → Act → World → Prop} {K : Act → World → Prop} {F : Prop}
theorem step_bs1 {t e : TypeId} {size bytes : Nat} (E : ElemOf P t e size bytes) (hs : size ≤ 16777216) (hw : Region.wanted o (yielded ops a.tmps) = true) (x : Operand)
    (ho : o.op = .buildSlice t 1 #[(0, x)]) (cs : Array Value) (hx : a.eval x = .agg cs) (hc : cs.size = size)
    (h : ∀ g w', Blk w' g e cs → New w w' → w.heap.size ≤ g → K (a.put o.dst (.slice (some ⟨g, 0, none⟩) 1 1)) w') : if Region.wanted o (yielded ops a.tmps) = true then Oper.wp P o a w K Q else F := by
 rw [if_pos hw]
 unfold Oper.wp execOp
 simp only [ho, Sem.run_bind, List.map_toArray, List.map_cons, List.map_nil, hx, run_bs1 E hs (.agg cs) hc w, Result.andThen_ok]
 exact h _ _ (Blk.new _ _ _) (New.al (New.refl _) _) (Nat.le_refl _)
end
end Go.Proofs.YtmibndkofoldkaaGreatDoor
namespace Go.Proofs.YtmibndkofoldkaaGreatDoor
set_option linter.unusedVariables false
set_option linter.unusedSimpArgs false
set_option linter.constructorNameAsVariable false
open Go.RowKit
theorem New.range {w w' : World} {b o : Nat} {cs : List Value} (h : New w w') (hr : w.rangeAt b o cs) : w'.rangeAt b o cs := fun j v hv => h.cell_ (hr j v hv)
end Go.Proofs.YtmibndkofoldkaaGreatDoor
