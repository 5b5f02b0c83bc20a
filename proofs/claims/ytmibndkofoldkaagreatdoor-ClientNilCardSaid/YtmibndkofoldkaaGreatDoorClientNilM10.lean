/- Texts of one proof, one behind the other: Alc, Rwh, Fill. No condition but each one's own. -/
import Derived.Test.YtmibndkofoldkaaGreatDoorClientNilM1
import Derived.Test.YtmibndkofoldkaaGreatDoorClientNilM6
import Derived.Test.YtmibndkofoldkaaGreatDoorClientNilM2
import Derived.Laws.Tables
namespace Go.Proofs.YtmibndkofoldkaaGreatDoor
set_option linter.unusedVariables false
set_option linter.unusedSimpArgs false
set_option linter.constructorNameAsVariable false
open Go.RowKit
theorem wpList_alloc_row {P : Program} {ops : Array Oper} {Q : Exit → Act → World → Prop} {rest : List Oper} {o : Oper} {a : Act} {w : World} {T : TypeId} {n : Nat} {zs : Array Value} (hg1 : o.guard = none) (ho : o.op = .alloc T) (hZ : (P.info? T).map (fun i => (i.zero, i.size)) = some (some (.agg zs), n))
    (h : ∀ b w', b = w.heap.size → Blk w' b T zs → New w w' → wpList P ops Q rest (a.put o.dst (.pointer (some ⟨b, 0, none⟩))) w') : wpList P ops Q (o :: rest) a w := by
 obtain ⟨z1, z2⟩ := zero_of_info hZ
 refine wpList_plain hg1 fun K' hK' => ?_
 have hal : (Instr.alloc T true (.tuple #[])).run P w = .ok (.pointer (some ⟨w.heap.size, 0, none⟩)) (w.alloc (.cells zs T)) := by
  unfold Instr.alloc
  simp [Sem.run_bind, z1 w, newVar, newRow, go_sem, Result.andThen, Value.cells]
 unfold Oper.wp
 simp only [execOp, ho, hal, Result.andThen_ok, Sem.run_bind, Sem.run_pure]
 exact hK' _ _ (h _ _ rfl (Blk.new _ _ _) (New.al (New.refl _) _))
end Go.Proofs.YtmibndkofoldkaaGreatDoor
namespace Go.Proofs.YtmibndkofoldkaaGreatDoor
set_option linter.unusedVariables false
set_option linter.unusedSimpArgs false
set_option linter.constructorNameAsVariable false
open Go.RowKit Go.Sort
theorem results_row2h {fn : Func} {p q : Tmp} {ty : TypeId} {P : Program} (h : fn.results = #[.cell p ty, .tmp q]) (tmps : Array Value) (w : World) (g : Nat) (cs : Array Value) (d : TypeDesc)
    (hp : tmps.getD p undef = .pointer (some ⟨g, 0, none⟩)) (hg : Blk w g ty cs) (hu : P.underlying ty = some d) (hd : d.isRow = true) (hi : (P.info? ty).map (·.size) = some cs.size) :
    (results fn tmps).run P w = .ok (.tuple #[.agg cs, tmps.getD q undef]) w := by
 have hp' : tmps[p]?.getD undef = .pointer (some ⟨g, 0, none⟩) := by simpa using hp
 simp [results, h, hp', asAddr, run_loadVar_row w g ty ty cs (0, 0) _ hg hu (by cases d <;> first | rfl | (simp [TypeDesc.isRow] at hd)) hi]
theorem hashInfoR : (Tryz.prog.info? 60).map (fun i => (i.zero, i.size)) = some (some (.agg (secA (List.replicate 32 0))), 32) := by kernel_rfl
end Go.Proofs.YtmibndkofoldkaaGreatDoor
namespace Go.Proofs.YtmibndkofoldkaaGreatDoor
set_option linter.unusedVariables false
set_option linter.unusedSimpArgs false
set_option linter.constructorNameAsVariable false
open Go.RowKit
theorem splice_set {xs : List Value} {o : Nat} (y : Value) (ys : List Value) (h : o < xs.length) : splice (xs.set o y) (o + 1) ys = splice xs o (y :: ys) := by
 unfold splice
 rw [List.take_succ_eq_append_getElem (by simpa using h), List.drop_set_of_lt (by omega)]
 simp [List.take_set_of_le]
 omega
theorem zip_splice : ∀ (ys : List Value) (j off : Nat) (xs : List Value), off + j + ys.length ≤ xs.length →
    (ys.zipIdx j).foldl (fun (cs : Array Value) (x : Value × Nat) => cs.setIfInBounds (off + x.2) x.1) xs.toArray = (splice xs (off + j) ys).toArray
 | [], j, off, xs, _ => by simp [splice]
 | y :: ys, j, off, xs, h => by
  simp only [List.length_cons] at h
  rw [List.zipIdx_cons, List.foldl_cons]
  simp only [List.setIfInBounds_toArray]
  rw [zip_splice ys (j + 1) off _ (by simp; omega), show off + (j + 1) = off + j + 1 by omega, splice_set y ys (by omega)]
theorem fill_one {place : Nat → Option (Nat × Nat)} {i off : Nat} {v : Value} {xs ys : List Value} {rest : List (Nat × Value)} (hp : place i = some (off, ys.length)) (hv : v.cells = ys.toArray) (hl : off + ys.length ≤ xs.length) :
    Instr.fill place xs.toArray ((i, v) :: rest) = Instr.fill place (splice xs off ys).toArray rest := by
 conv => lhs; unfold Instr.fill
 simp only [hp, hv]
 rw [if_neg (by simp; omega)]
 congr 1
 have := zip_splice ys 0 off xs (by omega)
 rw [Nat.add_zero] at this
 rw [← this, ← Array.foldl_toList, Array.toList_zipIdx]
theorem fill_nil {place : Nat → Option (Nat × Nat)} (cs : Array Value) : Instr.fill place cs [] = some cs := rfl
theorem splice_app {a b ys : List Value} {o k : Nat} (h : a.length = o) : splice (a ++ b) (o + k) ys = a ++ splice b k ys := by
 subst h
 unfold splice
 rw [List.take_length_add_append]
 simp only [List.append_assoc]
 rw [show a.length + k + ys.length = a.length + (k + ys.length) by omega, List.drop_length_add_append]
theorem splice_fst {a b ys : List Value} (h : a.length = ys.length) : splice (a ++ b) 0 ys = ys ++ b := by
 unfold splice
 rw [List.take_zero, List.nil_append, Nat.zero_add, ← h, List.drop_left]
theorem built_arr1 {P : Program} {t e n m : Nat} {zs ys : List Value} (hu : P.underlying t = some (.array n e)) (hi : (P.info? t).map (fun i => (i.zero, i.size)) = some (some (.agg zs.toArray), m)) (he : (P.info? e).map (·.size) = some ys.length) (hl : ys.length ≤ zs.length) :
    P.built t [(0, .agg ys.toArray)] = some (splice zs 0 ys).toArray := by
 unfold Program.built
 cases hq : P.info? t with
 | none => simp [hq] at hi
 | some it =>
  cases hqe : P.info? e with
  | none => simp [hqe] at he
  | some ie =>
   have h1 : it.zero = some (.agg zs.toArray) := by
    rw [hq] at hi
    exact congrArg Prod.fst (Option.some.inj hi)
   have h2 : ie.size = ys.length := by simpa [hqe] using he
   simp only [hu, h1, hqe, h2, Value.cells]
   rw [fill_one (off := 0) (ys := ys) (by simp) rfl (by omega)]
   rfl
theorem wpList_built {P : Program} {ops : Array Oper} {rest : List Oper} {o : Oper} {a : Act} {w : World} {Q : Exit → Act → World → Prop} (hw : Region.wanted o (yielded ops a.tmps) = true) (t : TypeId) (l : List (Nat × Operand)) (ho : o.op = .build t l.toArray) (vs : List (Nat × Value)) (hv : (l.map fun (i, x) => (i, a.eval x)) = vs) (cells : Array Value) (hb : P.built t vs = some cells)
    (h : wpList P ops Q rest (a.put o.dst (.agg cells)) w) : wpList P ops Q (o :: rest) a w :=
 wpList_want hw fun K hK => by
  have hf : P.built t (l.toArray.map fun (i, x) => (i, a.eval x)).toList = some cells := by rw [List.map_toArray, hv]; exact hb
  refine wp_build t l.toArray ho (by rw [hf]; rfl) ?_
  rw [hf]
  exact hK _ _ h
end Go.Proofs.YtmibndkofoldkaaGreatDoor
