/- Texts of one proof, one behind the other: Fill, MxT, Stp, Join. No condition but each one's own. -/
import Derived.Test.YtpifnmlnhddgeaaGreatDoorVaultNilM2
import Derived.Laws.Tables
import Derived.Test.YtpifnmlnhddgeaaGreatDoorVaultNilM1
namespace Go.Proofs.YtpifnmlnhddgeaaGreatDoor
set_option linter.unusedVariables false
set_option linter.unusedSimpArgs false
set_option linter.constructorNameAsVariable false
open Go.RowKit
theorem splice_set {xs : List Value} {o : Nat} (y : Value) (ys : List Value) (h : o < xs.length) : splice (xs.set o y) (o + 1) ys = splice xs o (y :: ys) := by
 unfold splice
 rw [List.take_succ_eq_append_getElem (by simpa using h), List.drop_set_of_lt (by omega)]
 simp [List.take_set_of_le]
 omega
theorem zip_splice : ∀ (ys : List Value) (j off : Nat) (xs : List Value), off + j + ys.length ≤ xs.length →
    (ys.zipIdx j).foldl (fun (cs : Array Value) (x : Value × Nat) => cs.setIfInBounds (off + x.2) x.1) xs.toArray = (splice xs (off + j) ys).toArray
 | [], j, off, xs, _ => by simp [splice]
 | y :: ys, j, off, xs, h => by
  simp only [List.length_cons] at h
  rw [List.zipIdx_cons, List.foldl_cons]
  simp only [List.setIfInBounds_toArray]
  rw [zip_splice ys (j + 1) off _ (by simp; omega), show off + (j + 1) = off + j + 1 by omega, splice_set y ys (by omega)]
theorem fill_one {place : Nat → Option (Nat × Nat)} {i off : Nat} {v : Value} {xs ys : List Value} {rest : List (Nat × Value)} (hp : place i = some (off, ys.length)) (hv : v.cells = ys.toArray) (hl : off + ys.length ≤ xs.length) :
    Instr.fill place xs.toArray ((i, v) :: rest) = Instr.fill place (splice xs off ys).toArray rest := by
 conv => lhs; unfold Instr.fill
 simp only [hp, hv]
 rw [if_neg (by simp; omega)]
 congr 1
 have := zip_splice ys 0 off xs (by omega)
 rw [Nat.add_zero] at this
 rw [← this, ← Array.foldl_toList, Array.toList_zipIdx]
theorem fill_nil {place : Nat → Option (Nat × Nat)} (cs : Array Value) : Instr.fill place cs [] = some cs := rfl
theorem splice_app {a b ys : List Value} {o k : Nat} (h : a.length = o) : splice (a ++ b) (o + k) ys = a ++ splice b k ys := by
 subst h
 unfold splice
 rw [List.take_length_add_append]
 simp only [List.append_assoc]
 rw [show a.length + k + ys.length = a.length + (k + ys.length) by omega, List.drop_length_add_append]
theorem splice_fst {a b ys : List Value} (h : a.length = ys.length) : splice (a ++ b) 0 ys = ys ++ b := by
 unfold splice
 rw [List.take_zero, List.nil_append, Nat.zero_add, ← h, List.drop_left]
theorem built_arr1 {P : Program} {t e n m : Nat} {zs ys : List Value} (hu : P.underlying t = some (.array n e)) (hi : (P.info? t).map (fun i => (i.zero, i.size)) = some (some (.agg zs.toArray), m)) (he : (P.info? e).map (·.size) = some ys.length) (hl : ys.length ≤ zs.length) :
    P.built t [(0, .agg ys.toArray)] = some (splice zs 0 ys).toArray := by
 unfold Program.built
 cases hq : P.info? t with
 | none => simp [hq] at hi
 | some it =>
  cases hqe : P.info? e with
  | none => simp [hqe] at he
  | some ie =>
   have h1 : it.zero = some (.agg zs.toArray) := by
    rw [hq] at hi
    exact congrArg Prod.fst (Option.some.inj hi)
   have h2 : ie.size = ys.length := by simpa [hqe] using he
   simp only [hu, h1, hqe, h2, Value.cells]
   rw [fill_one (off := 0) (ys := ys) (by simp) rfl (by omega)]
   rfl
theorem wpList_built {P : Program} {ops : Array Oper} {rest : List Oper} {o : Oper} {a : Act} {w : World} {Q : Exit → Act → World → Prop} (hw : Region.wanted o (yielded ops a.tmps) = true) (t : TypeId) (l : List (Nat × Operand)) (ho : o.op = .build t l.toArray) (vs : List (Nat × Value)) (hv : (l.map fun (i, x) => (i, a.eval x)) = vs) (cells : Array Value) (hb : P.built t vs = some cells)
    (h : wpList P ops Q rest (a.put o.dst (.agg cells)) w) : wpList P ops Q (o :: rest) a w :=
 wpList_want hw fun K hK => by
  have hf : P.built t (l.toArray.map fun (i, x) => (i, a.eval x)).toList = some cells := by rw [List.map_toArray, hv]; exact hb
  refine wp_build t l.toArray ho (by rw [hf]; rfl) ?_
  rw [hf]
  exact hK _ _ h
end Go.Proofs.YtpifnmlnhddgeaaGreatDoor
namespace Go.Proofs.YtpifnmlnhddgeaaGreatDoor
set_option linter.unusedVariables false
set_option linter.unusedSimpArgs false
set_option linter.constructorNameAsVariable false
open Go.RowKit
inductive Tr where
 | done
 | take (i : Nat) (t : Tr)
 | act (i : Nat) (t : Tr)
 | two (i : Nat) (t : Tr) (j : Nat) (u : Tr)
def Tr.len : Tr → Nat
 | .done => 0
 | .take _ t => t.len + 1
 | .act _ t => t.len + 1
 | .two _ t _ _ => t.len + 1
section
variable {P : Program} {md : Region.Mode} {ops : Array Oper} {Q : Exit → Act → World → Prop} {S : World → Prop}
def treeB (md : Region.Mode) (ops : Array Oper) : Tr → Array Bool → Bool
 | .done, listed => (Region.ready md ops listed).isEmpty
 | .take i t, listed => (Region.ready md ops listed).contains i && Region.free md ops listed i && treeB md ops t (listed.setIfInBounds i true)
 | .act i t, listed => decide (Region.ready md ops listed = [i]) && treeB md ops t (listed.setIfInBounds i true)
 | .two i t j u, listed => decide (Region.ready md ops listed = [i, j]) && decide (t.len = u.len) && treeB md ops t (listed.setIfInBounds i true) && treeB md ops u (listed.setIfInBounds j true)
def ActOk (P : Program) (ops : Array Oper) (S : World → Prop) (Q : Exit → Act → World → Prop) (i : Nat) (R : Act → World → Prop) (a : Act) (w : World) : Prop :=
 ∃ o, ops[i]? = some o ∧ (if Region.wanted o (yielded ops a.tmps) = true then o.wp P a w (fun a' w' => S w' ∧ R a' w') Q else R (a.put o.dst undef) w)
def wpTree (P : Program) (ops : Array Oper) (S : World → Prop) (Q : Exit → Act → World → Prop) : Tr → Act → World → Prop
 | .done, a, w => Q .normal a w
 | .take i t, a, w => ∃ o, ops[i]? = some o ∧ (if Region.wanted o (yielded ops a.tmps) = true then ∃ v, (∀ p : HW S, (execOp a.eval o).run P p.w = .ok (.value v) p.w) ∧ wpTree P ops S Q t (a.put o.dst v) w else wpTree P ops S Q t (a.put o.dst undef) w)
 | .act i t, a, w => ActOk P ops S Q i (wpTree P ops S Q t) a w
 | .two i t j u, a, w => ActOk P ops S Q i (wpTree P ops S Q t) a w ∧ ActOk P ops S Q j (wpTree P ops S Q u) a w
theorem actOk_op {i : Nat} {R R' : Act → World → Prop} {a : Act} {w : World} (h : ActOk P ops S Q i R a w) (hS : S w) (hR : ∀ a' w', S w' → R a' w' → R' a' w') : wpOp P ops Q i (fun a' w' => S w' ∧ R' a' w') a w := by
 obtain ⟨o, ho, h⟩ := h
 unfold wpOp
 simp only [ho]
 by_cases hw : Region.wanted o (yielded ops a.tmps) = true
 · rw [if_pos hw] at h
   simp only [hw, if_true]
   exact .inl (Oper.wp_mono (fun a' w' h' => ⟨h'.1, hR _ _ h'.1 h'.2⟩) h)
 · rw [if_neg hw] at h
   simp only [hw]
   exact ⟨hS, hR _ _ hS h⟩
theorem wpAnyH_of_tree (hs : Region.noSelect ops = true) (hQ : ∀ c a d v w, Q (.panic c) (a.put d v) w → Q (.panic c) a w) : ∀ (t : Tr) (listed : Array Bool) (a : Act) (w : World), treeB md ops t listed = true → S w → wpTree P ops S Q t a w → wpAnyH P md ops Q S t.len listed a w
 | .done, listed, a, w, hB, _, h => ⟨by simpa [treeB] using hB, h⟩
 | .take i t, listed, a, w, hB, hSw, h => by
  simp only [treeB, Bool.and_eq_true] at hB
  obtain ⟨⟨h1, h2⟩, h5⟩ := hB
  obtain ⟨o, ho, h⟩ := h
  have key : ∀ v, YieldsIf P ops S o v a → wpTree P ops S Q t (a.put o.dst v) w → wpAnyH P md ops Q S (Tr.take i t).len listed a w := fun v hy h =>
   wpAnyH_first ho (Region.noSelect_spec hs) (fun c a w => hQ c a _ _ w) _ listed a w (Region.free_spec ho h2) (by simpa using h1) hy hSw (wpAnyH_of_tree hs hQ t _ _ _ h5 hSw h)
  by_cases hw : Region.wanted o (yielded ops a.tmps) = true
  · rw [if_pos hw] at h
    obtain ⟨v, hv, h⟩ := h
    exact key v (.inl ⟨hw, fun w hw => hv ⟨w, hw⟩⟩) h
  · rw [if_neg hw] at h
    exact key undef (.inr ⟨by simpa using hw, rfl⟩) h
 | .act i t, listed, a, w, hB, hS, h => by
  simp only [treeB, Bool.and_eq_true, decide_eq_true_eq] at hB
  obtain ⟨h1, h3⟩ := hB
  refine ⟨fun h0 => (by rw [h1] at h0; cases h0), fun j hj => ?_⟩
  rw [h1, List.mem_singleton] at hj
  subst hj
  exact actOk_op h hS (fun a' w' hS' h' => wpAnyH_of_tree hs hQ t _ _ _ h3 hS' h')
 | .two i t j u, listed, a, w, hB, hS, h => by
  simp only [treeB, Bool.and_eq_true, decide_eq_true_eq] at hB
  obtain ⟨⟨⟨h1, h2⟩, h3⟩, h4⟩ := hB
  refine ⟨fun h0 => (by rw [h1] at h0; cases h0), fun k hk => ?_⟩
  rw [h1] at hk
  rcases List.mem_cons.1 hk with rfl | hk
  · exact actOk_op h.1 hS (fun a' w' hS' h' => wpAnyH_of_tree hs hQ t _ _ _ h3 hS' h')
  · rw [List.mem_singleton] at hk
    subst hk
    refine actOk_op h.2 hS (fun a' w' hS' h' => ?_)
    show wpAnyH P md ops Q S t.len _ a' w'
    rw [h2]
    exact wpAnyH_of_tree hs hQ u _ _ _ h4 hS' h'
theorem wp_region_tree {id : Nat} {a : Act} {w : World} {l : List Oper} (S : World → Prop) (t : Tr) (hm : P.follows .mixedOrders = true)
    (hB : (Region.noSelect l.toArray && decide (t.len = l.toArray.size) && treeB .any l.toArray t (Array.replicate l.toArray.size false)) = true) (hS : S w.drew)
    (h : Nonempty (HW S) → wpTree P l.toArray S (NoPan Q) t a w.drew) : (Code.region id l.toArray true).wp P Q a w := by
 simp only [Bool.and_eq_true, decide_eq_true_eq] at hB
 obtain ⟨⟨h1, h2⟩, h3⟩ := hB
 refine wp_mono (Q := NoPan Q) (wp_region_held (S := S) hm ?_) NoPan.imp
 have := wpAnyH_of_tree (Q := NoPan Q) h1 (fun _ _ _ _ _ h => h) t _ _ _ h3 hS (h ⟨⟨_, hS⟩⟩)
 rwa [h2] at this
theorem tree_take {i : Nat} {o : Oper} {t : Tr} {a : Act} {w : World} (ho : ops[i]? = some o)
    (h : ∀ K : Act → Prop, (∀ a, wpTree P ops S Q t a w → K a) → if Region.wanted o (yielded ops a.tmps) = true then ∃ v, (∀ p : HW S, (execOp a.eval o).run P p.w = .ok (.value v) p.w) ∧ K (a.put o.dst v) else K (a.put o.dst undef)) : wpTree P ops S Q (.take i t) a w :=
 ⟨o, ho, h _ fun _ h => h⟩
theorem act_ok {i : Nat} {o : Oper} {R : Act → World → Prop} {a : Act} {w : World} (ho : ops[i]? = some o)
    (h : ∀ K : Act → World → Prop, Hid (∀ a w, S w → R a w → K a w) → if Region.wanted o (yielded ops a.tmps) = true then o.wp P a w K Q else K (a.put o.dst undef) w) (hS : Region.wanted o (yielded ops a.tmps) = true ∨ S w) : ActOk P ops S Q i R a w := by
 refine ⟨o, ho, ?_⟩
 have := h (fun a' w' => S w' ∧ R a' w') (Lib.hid fun a w h1 h2 => ⟨h1, h2⟩)
 by_cases hw : Region.wanted o (yielded ops a.tmps) = true
 · rw [if_pos hw] at this ⊢
   exact this
 · rw [if_neg hw] at this ⊢
   exact this.2
theorem tree_act {i : Nat} {o : Oper} {t : Tr} {a : Act} {w : World} (ho : ops[i]? = some o)
    (h : ∀ K : Act → World → Prop, Hid (∀ a w, S w → wpTree P ops S Q t a w → K a w) → if Region.wanted o (yielded ops a.tmps) = true then o.wp P a w K Q else K (a.put o.dst undef) w) (hS : Region.wanted o (yielded ops a.tmps) = true ∨ S w) : wpTree P ops S Q (.act i t) a w :=
 act_ok ho h hS
theorem tree_done {a : Act} {w : World} (h : Q .normal a w) : wpTree P ops S (NoPan Q) .done a w := h
end
end Go.Proofs.YtpifnmlnhddgeaaGreatDoor
namespace Go.Proofs.YtpifnmlnhddgeaaGreatDoor
set_option linter.unusedVariables false
set_option linter.unusedSimpArgs false
set_option linter.constructorNameAsVariable false
open Go.RowKit Go.Sort
theorem run_store_part {P : Program} {w : World} {g o : Nat} {T ty : TypeId} {cur cells : List Value} (hg : Blk w g T cur.toArray) (ho : o + cells.length ≤ cur.length) (hi : (P.info? ty).map (·.size) = some cells.length) (h1 : ∀ v ∈ cells, v.oneCell' = true) :
    ∃ w', (Instr.storeAt ty (.pointer (some ⟨g, o, none⟩)) (.agg cells.toArray)).run P w = .ok () w' ∧ Blk w' g T (splice cur o cells).toArray ∧ Fr (fun k => k = g) w w' := by
 have hs := run_storeCells_at (P := P) g o T cells 0 cur.toArray w hg (by simpa using ho) h1
 obtain ⟨r1, r2⟩ := setRow_blk (cs' := (cur.take o ++ (cells ++ cur.drop (o + cells.length))).toArray) hg
 refine ⟨_, ?_, r1, r2⟩
 cases hq : P.info? ty with
 | none => simp [hq] at hi
 | some i =>
  have hz : cells.length = i.size := by simp [hq] at hi; omega
  simp only [Nat.add_zero, List.append_assoc] at hs
  simp [Instr.storeAt, Instr.sureAddr, storeVar, sizeOf, typeInfo, hq, Value.cells, hz, hs, go_sem]
theorem wpList_store_part {P : Program} {w : World} {ops : Array Oper} {rest : List Oper} {o : Oper} {a : Act} {Q : Exit → Act → World → Prop} {g off : Nat} {T ty : TypeId} {cur cells : List Value} (hw : Region.wanted o (yielded ops a.tmps) = true) (x y : Operand) (ho : o.op = .store ty x y) (hx : a.eval x = .pointer (some ⟨g, off, none⟩)) (hy : a.eval y = .agg cells.toArray)
    (hg : Blk w g T cur.toArray) (hl : off + cells.length ≤ cur.length) (hi : (P.info? ty).map (·.size) = some cells.length) (h1 : ∀ v ∈ cells, v.oneCell' = true)
    (h : ∀ w', Blk w' g T (splice cur off cells).toArray → Fr (fun k => k = g) w w' → wpList P ops Q rest (a.put o.dst undef) w') : wpList P ops Q (o :: rest) a w :=
 wpList_want hw fun K hK => by
  obtain ⟨w', hrun, r1, r2⟩ := run_store_part (P := P) hg hl hi h1
  unfold Oper.wp execOp
  simp only [ho, hx, hy, Sem.run_bind, hrun, Result.andThen_ok, Sem.run_pure]
  exact hK _ _ (h w' r1 r2)
theorem mix_store {P : Program} {ops : Array Oper} {Q : Exit → Act → World → Prop} {S : World → Prop} {last i : Nat} {w : World} {o : Oper} {sc : List (Bool × Nat)} {a : Act} {T : TypeId} {g : Nat} {cs0 cs : Array Value} (hop : ops[i]? = some o) (hw : Region.wanted o (yielded ops a.tmps) = true) (x y : Operand) (ho : o.op = .store T x y) (hi : (P.info? T).map (·.size) = some cs.size) (hx : a.eval x = .pointer (some ⟨g, 0, none⟩)) (hy : a.eval y = .agg cs) (hb : Blk w g T cs0) (h0 : cs0.size = cs.size) (h1 : cs.all (·.oneCell') = true)
    (h : ∀ w', Blk w' g T cs → Fr (fun k => k = g) w w' → (i ≠ last → S w') ∧ wpMix P ops S last Q sc (a.put o.dst undef) w') : wpMix P ops S last Q ((false, i) :: sc) a w := by
 refine ⟨o, hop, ?_⟩
 rw [if_pos hw]
 obtain ⟨r1, r2⟩ := setRow_blk (cs' := cs) hb
 unfold Oper.wp execOp
 simp only [ho, hx, hy, Instr.storeAt, Instr.sureAddr, Sem.run_bind, Sem.run_pure, Result.andThen_ok, run_storeVar_row w g T T cs0 cs hb hi h0 h1]
 exact h _ r1 r2
end Go.Proofs.YtpifnmlnhddgeaaGreatDoor
namespace Go.Proofs.YtpifnmlnhddgeaaGreatDoor
set_option linter.unusedVariables false
set_option linter.unusedSimpArgs false
set_option linter.constructorNameAsVariable false
open Go.RowKit
theorem wp_join {α : Type} {P : Program} {c : Code} {Q : Exit → Act → World → Prop} {a : Act} {w : World} (R : α → World → Prop) {F : α → Act}
    (h1 : ∀ K' : Act → World → Prop, Hid (∀ x w', R x w' → K' (F x) w') → c.wp P (Exit.then K' fun _ _ _ => False) a w)
    (h2 : ∀ x w', R x w' → Q .normal (F x) w') : c.wp P Q a w :=
 wp_sw (fun a' w' => ∃ x, a' = F x ∧ R x w') (fun a' w' ⟨x, e, h⟩ => e ▸ h2 x w' h) (fun K' hK => h1 K' (Lib.hid fun x w' h => hK _ _ ⟨x, rfl, h⟩))
section
variable {P : Program} {ops : Array Oper} {Q : Exit → Act → World → Prop} {S : World → Prop}
theorem act_alloc {i : Nat} {o : Oper} {R : Act → World → Prop} {a : Act} {w : World} {T : TypeId} {n : Nat} {Z : Value} (ho : ops[i]? = some o) (hw : Region.wanted o (yielded ops a.tmps) = true) (hop : o.op = .alloc T) (hZ : (P.info? T).map (fun i => (i.zero, i.size)) = some (some Z, n))
    (h : ∀ g w', g = w.heap.size → Blk w' g T Z.cells → New w w' → S w' ∧ R (a.put o.dst (.pointer (some ⟨g, 0, none⟩))) w') : ActOk P ops S Q i R a w := by
 refine ⟨o, ho, ?_⟩
 rw [if_pos hw]
 obtain ⟨z1, z2⟩ := zero_of_info hZ
 have hal : (Instr.alloc T true (.tuple #[])).run P w = .ok (.pointer (some ⟨w.heap.size, 0, none⟩)) (w.alloc (.cells Z.cells T)) := by
  unfold Instr.alloc
  simp [Sem.run_bind, z1 w, newVar, newRow, go_sem, Result.andThen]
 unfold Oper.wp
 simp only [execOp, hop, hal, Result.andThen_ok, Sem.run_bind, Sem.run_pure]
 exact h _ _ rfl (Blk.new _ _ _) (New.al (New.refl _) _)
theorem tree_act_alloc {i : Nat} {o : Oper} {t : Tr} {a : Act} {w : World} {T : TypeId} {n : Nat} {Z : Value} (ho : ops[i]? = some o) (hw : Region.wanted o (yielded ops a.tmps) = true) (hop : o.op = .alloc T) (hZ : (P.info? T).map (fun i => (i.zero, i.size)) = some (some Z, n))
    (h : ∀ g w', g = w.heap.size → Blk w' g T Z.cells → New w w' → S w' ∧ wpTree P ops S Q t (a.put o.dst (.pointer (some ⟨g, 0, none⟩))) w') : wpTree P ops S Q (.act i t) a w :=
 act_alloc ho hw hop hZ h
theorem act_store {i : Nat} {o : Oper} {R : Act → World → Prop} {a : Act} {w : World} {T : TypeId} {g : Nat} {cs0 cs : Array Value} (ho : ops[i]? = some o) (hw : Region.wanted o (yielded ops a.tmps) = true) (x y : Operand) (hop : o.op = .store T x y) (hi : (P.info? T).map (·.size) = some cs.size) (hx : a.eval x = .pointer (some ⟨g, 0, none⟩)) (hy : a.eval y = .agg cs) (hb : Blk w g T cs0) (h0 : cs0.size = cs.size) (h1 : cs.all (·.oneCell') = true)
    (h : ∀ w', Blk w' g T cs → Fr (fun k => k = g) w w' → S w' ∧ R (a.put o.dst undef) w') : ActOk P ops S Q i R a w := by
 refine ⟨o, ho, ?_⟩
 obtain ⟨r1, r2⟩ := setRow_blk (cs' := cs) hb
 rw [if_pos hw]
 unfold Oper.wp execOp
 simp only [hop, hx, hy, Instr.storeAt, Instr.sureAddr, Sem.run_bind, Sem.run_pure, Result.andThen_ok, run_storeVar_row w g T T cs0 cs hb (by rw [hi]) (by omega) h1]
 exact h _ r1 r2
theorem tree_take_row {i : Nat} {o : Oper} {t : Tr} {a : Act} {w : World} {T : TypeId} {d : TypeDesc} {b off : Nat} {cs : List Value} (ho : ops[i]? = some o) (hw : Region.wanted o (yielded ops a.tmps) = true) (x : Operand) (hop : o.op = .load T x) (hx : a.eval x = .pointer (some ⟨b, off, none⟩))
    (hc : ∀ w', S w' → w'.rangeAt b off cs) (hu : P.underlying T = some d) (hd : d.isRow = true) (hi : (P.info? T).map (·.size) = some cs.length)
    (h : wpTree P ops S Q t (a.put o.dst (.agg cs.toArray)) w) : wpTree P ops S Q (.take i t) a w :=
 ⟨o, ho, by
  rw [if_pos hw]
  refine ⟨_, fun p => ?_, h⟩
  unfold execOp
  simp only [hop, hx, Instr.loadAt, Instr.sureAddr, Sem.run_bind, Sem.run_pure, Result.andThen_ok, run_loadVar_mid p.w b off T cs d (hc _ p.h) hu hd hi]⟩
end
end Go.Proofs.YtpifnmlnhddgeaaGreatDoor
