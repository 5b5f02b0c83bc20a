/- Texts of one proof, one behind the other: Stp. No condition but each one's own. -/
import Derived.Test.YtmibndkofoldkaaGreatDoorClientNilM2
import Derived.Test.YtmibndkofoldkaaGreatDoorClientNilM10
namespace Go.Proofs.YtmibndkofoldkaaGreatDoor
set_option linter.unusedVariables false
set_option linter.unusedSimpArgs false
set_option linter.constructorNameAsVariable false
open Go.RowKit Go.Sort
theorem run_store_part {P : Program} {w : World} {g o : Nat} {T ty : TypeId} {cur cells : List Value} (hg : Blk w g T cur.toArray) (ho : o + cells.length ≤ cur.length) (hi : (P.info? ty).map (·.size) = some cells.length) (h1 : ∀ v ∈ cells, v.oneCell' = true) :
    ∃ w', (Instr.storeAt ty (.pointer (some ⟨g, o, none⟩)) (.agg cells.toArray)).run P w = .ok () w' ∧ Blk w' g T (splice cur o cells).toArray ∧ Fr (fun k => k = g) w w' := by
 have hs := run_storeCells_at (P := P) g o T cells 0 cur.toArray w hg (by simpa using ho) h1
 obtain ⟨r1, r2⟩ := setRow_blk (cs' := (cur.take o ++ (cells ++ cur.drop (o + cells.length))).toArray) hg
 refine ⟨_, ?_, r1, r2⟩
 cases hq : P.info? ty with
 | none => simp [hq] at hi
 | some i =>
  have hz : cells.length = i.size := by simp [hq] at hi; omega
  simp only [Nat.add_zero, List.append_assoc] at hs
  simp [Instr.storeAt, Instr.sureAddr, storeVar, sizeOf, typeInfo, hq, Value.cells, hz, hs, go_sem]
theorem wpList_store_part {P : Program} {w : World} {ops : Array Oper} {rest : List Oper} {o : Oper} {a : Act} {Q : Exit → Act → World → Prop} {g off : Nat} {T ty : TypeId} {cur cells : List Value} (hw : Region.wanted o (yielded ops a.tmps) = true) (x y : Operand) (ho : o.op = .store ty x y) (hx : a.eval x = .pointer (some ⟨g, off, none⟩)) (hy : a.eval y = .agg cells.toArray)
    (hg : Blk w g T cur.toArray) (hl : off + cells.length ≤ cur.length) (hi : (P.info? ty).map (·.size) = some cells.length) (h1 : ∀ v ∈ cells, v.oneCell' = true)
    (h : ∀ w', Blk w' g T (splice cur off cells).toArray → Fr (fun k => k = g) w w' → wpList P ops Q rest (a.put o.dst undef) w') : wpList P ops Q (o :: rest) a w :=
 wpList_want hw fun K hK => by
  obtain ⟨w', hrun, r1, r2⟩ := run_store_part (P := P) hg hl hi h1
  unfold Oper.wp execOp
  simp only [ho, hx, hy, Sem.run_bind, hrun, Result.andThen_ok, Sem.run_pure]
  exact hK _ _ (h w' r1 r2)
theorem mix_store {P : Program} {ops : Array Oper} {Q : Exit → Act → World → Prop} {S : World → Prop} {last i : Nat} {w : World} {o : Oper} {sc : List (Bool × Nat)} {a : Act} {T : TypeId} {g : Nat} {cs0 cs : Array Value} (hop : ops[i]? = some o) (hw : Region.wanted o (yielded ops a.tmps) = true) (x y : Operand) (ho : o.op = .store T x y) (hi : (P.info? T).map (·.size) = some cs.size) (hx : a.eval x = .pointer (some ⟨g, 0, none⟩)) (hy : a.eval y = .agg cs) (hb : Blk w g T cs0) (h0 : cs0.size = cs.size) (h1 : cs.all (·.oneCell') = true)
    (h : ∀ w', Blk w' g T cs → Fr (fun k => k = g) w w' → (i ≠ last → S w') ∧ wpMix P ops S last Q sc (a.put o.dst undef) w') : wpMix P ops S last Q ((false, i) :: sc) a w := by
 refine ⟨o, hop, ?_⟩
 rw [if_pos hw]
 obtain ⟨r1, r2⟩ := setRow_blk (cs' := cs) hb
 unfold Oper.wp execOp
 simp only [ho, hx, hy, Instr.storeAt, Instr.sureAddr, Sem.run_bind, Sem.run_pure, Result.andThen_ok, run_storeVar_row w g T T cs0 cs hb hi h0 h1]
 exact h _ r1 r2
end Go.Proofs.YtmibndkofoldkaaGreatDoor
