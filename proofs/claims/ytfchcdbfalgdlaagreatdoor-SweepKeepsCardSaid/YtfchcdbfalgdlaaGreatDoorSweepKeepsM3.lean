/- Texts of one proof, one behind the other: Sec, Rng, RngB, ShC, ShP. No condition but each one's own. -/
import Derived.Test.YtfchcdbfalgdlaaGreatDoorSweepKeepsM2
import Derived.Deep.WholeRow
import Derived.Deep.MidRow
import Derived.Stop.BytesEq
import Derived.Test.YtfchcdbfalgdlaaGreatDoorSweepKeepsM1
import Derived.RangeFuncNested
import Derived.RangeFuncBound
import Derived.RangeFuncCalls
namespace Go.Proofs.YtfchcdbfalgdlaaGreatDoor
set_option linter.unusedVariables false
set_option linter.unusedSimpArgs false
set_option linter.constructorNameAsVariable false
open Go.RowKit
def secA (s : List Int) : Array Value := (u8s s).toArray
theorem secA_size (s : List Int) : (secA s).size = s.length := by simp [secA, u8s_len]
theorem secA_one (s : List Int) : (secA s).all (·.oneCell') = true := all_oneCell_toArray (u8s_one s)
theorem secA_list (s : List Int) : (secA s).toList = u8s s := by simp [secA]
theorem u8s_inj {s t : List Int} (h : u8s s = u8s t) : s = t := by
 unfold u8s at h
 induction s generalizing t with
 | nil => cases t with
  | nil => rfl
  | cons y t => simp at h
 | cons x s ih => cases t with
  | nil => simp at h
  | cons y t =>
   simp only [List.map_cons, List.cons.injEq, Value.int.injEq, true_and] at h
   rw [h.1, ih h.2]
theorem secA_inj {s t : List Int} (h : secA s = secA t) : s = t := by
 unfold secA at h
 exact u8s_inj (by simpa using h)
def at_ (s : List Int) (i : Nat) : Int := s.getD i 0
theorem secA_get {s : List Int} {i : Nat} (h : i < s.length) : (secA s)[i]? = some (.int .u8 (at_ s i)) := by
 simp [secA, u8s, at_, h]
section
variable {P : Program} {w : World}
open Extern.Stop (cell)
theorem secA_cell {s : List Int} (hs : Byt s) : ((s.map fun x => UInt8.ofNat x.toNat).map cell).toArray = secA s := by
 unfold secA u8s
 rw [List.map_map]
 congr 1
 apply List.map_congr_left
 intro x hx
 obtain ⟨h0, h1⟩ := hs x hx
 simp only [Function.comp, cell]
 congr 1
 rw [UInt8.toNat_ofNat', Nat.mod_eq_of_lt (by omega)]
 simp only [Int.ofNat_eq_natCast]
 omega
theorem byt_inj {s t : List Int} (hs : Byt s) (ht : Byt t) : ((s.map fun x => UInt8.ofNat x.toNat) == (t.map fun x => UInt8.ofNat x.toNat)) = decide (s = t) := by
 rw [Bool.eq_iff_iff, beq_iff_eq, decide_eq_true_iff]
 constructor
 · intro h
   have := congrArg (fun l => (List.map cell l).toArray) h
   simp only [secA_cell hs, secA_cell ht] at this
   exact secA_inj this
 · rintro rfl; rfl
theorem run_equalIn_sec (d : Nat) {T e : TypeId} {n : Nat} (ht : P.underlying T = some (.array n e)) (he : P.underlying e = some (.int .u8)) (hsz : ∀ w, (sizeOf e).run P w = .ok 1 w) {s t : List Int} (hs : s.length = n) (h2 : t.length = n) (bs : Byt s) (bt : Byt t) (w : World) :
    (Op.equalIn (d + 2) T (.agg (secA s)) (.agg (secA t))).run P w = .ok (decide (s = t)) w := by
 have := run_equalIn_bytes (P := P) w d T e n ht he hsz (s.map fun x => UInt8.ofNat x.toNat) (t.map fun x => UInt8.ofNat x.toNat) (by simpa using hs) (by simpa using h2)
 rw [secA_cell bs, secA_cell bt, byt_inj bs bt] at this
 exact this
theorem Blk.range {T : TypeId} {g : Nat} {s : List Int} (hb : Blk w g T (secA s)) : w.rangeAt g 0 (u8s s) := fun j v hv => by
 rw [Nat.zero_add, hb.cell j]
 simpa [secA] using hv
theorem Blk.byte {T : TypeId} {g n : Nat} {s : List Int} (hb : Blk w g T (secA s)) (h : s.length = n) : ∀ i, i < n → w.cell? ⟨g, i, none⟩ = some (.int .u8 (at_ s i)) := fun i hi => by rw [hb.cell i, secA_get (by omega)]
theorem results_sec2 {fn : Func} {p q : Tmp} {ty e : TypeId} {n g : Nat} {s : List Int} (h : fn.results = #[.cell p ty, .tmp q]) (tmps : Array Value) (w : World) (hp : tmps.getD p undef = .pointer (some ⟨g, 0, none⟩)) (hb : Blk w g ty (secA s))
    (hu : P.underlying ty = some (.array n e)) (hi : (P.info? ty).map (·.size) = some n) (hs : s.length = n) : (results fn tmps).run P w = .ok (.tuple #[.agg (secA s), tmps.getD q undef]) w := by
 have hp' : tmps[p]?.getD undef = .pointer (some ⟨g, 0, none⟩) := by simpa using hp
 simp [results, h, hp', asAddr, run_loadVar_row w g ty ty (secA s) (0, 0) _ hb hu rfl (by rw [hi, secA_size, hs])]
section
variable {ops : Array Oper} {rest : List Oper} {o o2 : Oper} {a : Act} {Q : Exit → Act → World → Prop}
theorem wpList_load_blk {T e : TypeId} {n g : Nat} {s : List Int} (hw : Region.wanted o (yielded ops a.tmps) = true) (x : Operand) (ho : o.op = .load T x) (ht : P.underlying T = some (.array n e)) (hi : (P.info? T).map (·.size) = some n) (hx : a.eval x = .pointer (some ⟨g, 0, none⟩)) (hb : Blk w g T (secA s)) (hs : s.length = n)
    (h : wpList P ops Q rest (a.put o.dst (.agg (secA s))) w) : wpList P ops Q (o :: rest) a w :=
 wpList_want hw fun _ hK => wp_load_row T x ho g hx T (secA s) (0, 0) _ hb ht rfl (by rw [hi, secA_size, hs]) (hK _ _ h)
theorem wpList_store_blk {T : TypeId} {n g : Nat} {s s0 : List Int} (hw : Region.wanted o (yielded ops a.tmps) = true) (x y : Operand) (ho : o.op = .store T x y) (hi : (P.info? T).map (·.size) = some n) (hx : a.eval x = .pointer (some ⟨g, 0, none⟩)) (hy : a.eval y = .agg (secA s)) (hb : Blk w g T (secA s0)) (h0 : s0.length = n) (hs : s.length = n)
    (h : ∀ w', Blk w' g T (secA s) → Fr (fun k => k = g) w w' → wpList P ops Q rest (a.put o.dst undef) w') : wpList P ops Q (o :: rest) a w :=
 wpList_want hw fun K hK => by
  obtain ⟨h1, h2⟩ := setRow_blk (cs' := secA s) hb
  unfold Oper.wp execOp
  simp only [ho, hx, hy, Instr.storeAt, Instr.sureAddr, Sem.run_bind, Sem.run_pure, Result.andThen_ok, run_storeVar_row w g T T (secA s0) (secA s) hb (by rw [hi, secA_size, hs]) (by rw [secA_size, secA_size, h0, hs]) (secA_one s)]
  exact hK _ _ (h _ h1 h2)
theorem wpList_alloc_sec {T : TypeId} {n : Nat} {z : List Int} (hg : o.guard = none) (ho : o.op = .alloc T) (hZ : (P.info? T).map (fun i => (i.zero, i.size)) = some (some (.agg (secA z)), n))
    (h : wpList P ops Q rest (a.put o.dst (.pointer (some ⟨w.heap.size, 0, none⟩))) (w.alloc (.cells (secA z) T))) : wpList P ops Q (o :: rest) a w := by
 obtain ⟨z1, z2⟩ := zero_of_info hZ
 refine wpList_plain hg fun K' hK' => ?_
 have hal : (Instr.alloc T true (.tuple #[])).run P w = .ok (.pointer (some ⟨w.heap.size, 0, none⟩)) (w.alloc (.cells (secA z) T)) := by
  unfold Instr.alloc
  simp [Sem.run_bind, z1 w, newVar, newRow, go_sem, Result.andThen]
 unfold Oper.wp
 simp only [execOp, ho, hal, Result.andThen_ok, Sem.run_bind, Sem.run_pure]
 exact hK' _ _ h
theorem wpList_store_last {T : TypeId} {n : Nat} {s z : List Int} {w1 : World} (hg : o.guard = none) (x y : Operand) (ho : o.op = .store T x y) (hi : (P.info? T).map (·.size) = some n) (hz : z.length = n) (hs : s.length = n)
    (hx : a.eval x = .pointer (some ⟨w1.heap.size, 0, none⟩)) (hy : a.eval y = .agg (secA s))
    (h : wpList P ops Q rest (a.put o.dst undef) (w1.alloc (.cells (secA s) T))) : wpList P ops Q (o :: rest) a (w1.alloc (.cells (secA z) T)) := by
 refine wpList_plain hg fun K2 hK2 => ?_
 unfold Oper.wp
 have hst := run_storeAt_new (P := P) w1 T (secA z) (secA s) (by rw [hi, secA_size, hs]) (by rw [secA_size, secA_size, hz, hs]) (secA_one s)
 simp only [execOp, ho, hx, hy, hst, Result.andThen_ok, Sem.run_bind, Sem.run_pure]
 exact hK2 _ _ h
theorem wpList_load_range {T : TypeId} {d : TypeDesc} {b off : Nat} {cs : List Value} (hw : Region.wanted o (yielded ops a.tmps) = true) (x : Operand) (ho : o.op = .load T x) (hx : a.eval x = .pointer (some ⟨b, off, none⟩)) (hc : w.rangeAt b off cs) (hu : P.underlying T = some d) (hd : d.isRow = true) (hi : (P.info? T).map (·.size) = some cs.length)
    (h : wpList P ops Q rest (a.put o.dst (.agg cs.toArray)) w) : wpList P ops Q (o :: rest) a w :=
 wpList_want hw fun _ hK => wp_load_mid T x ho b off hx cs d hc hu hd hi (hK _ _ h)
theorem wpList_newvar {T : TypeId} {n : Nat} {s : List Int} {Z : Value} (hg1 : o.guard = none) (hg2 : o2.guard = none) (ho : o.op = .alloc T) (x y : Operand) (ho2 : o2.op = .store T x y) (hZ : (P.info? T).map (fun i => (i.zero, i.size)) = some (some Z, n)) (hz : Z.cells.size = n)
    (hx : (a.put o.dst (.pointer (some ⟨w.heap.size, 0, none⟩))).eval x = .pointer (some ⟨w.heap.size, 0, none⟩)) (hy : (a.put o.dst (.pointer (some ⟨w.heap.size, 0, none⟩))).eval y = .agg (secA s)) (hs : s.length = n)
    (h : wpList P ops Q rest ((a.put o.dst (.pointer (some ⟨w.heap.size, 0, none⟩))).put o2.dst undef) (w.alloc (.cells (secA s) T))) : wpList P ops Q (o :: o2 :: rest) a w := by
 obtain ⟨z1, z2⟩ := zero_of_info hZ
 refine wpList_plain hg1 fun K' hK' => ?_
 have hal : (Instr.alloc T true (.tuple #[])).run P w = .ok (.pointer (some ⟨w.heap.size, 0, none⟩)) (w.alloc (.cells Z.cells T)) := by
  unfold Instr.alloc
  simp [Sem.run_bind, z1 w, newVar, newRow, go_sem, Result.andThen]
 unfold Oper.wp
 simp only [execOp, ho, hal, Result.andThen_ok, Sem.run_bind, Sem.run_pure]
 refine hK' _ _ (wpList_plain hg2 fun K2 hK2 => ?_)
 unfold Oper.wp
 have hst := run_storeAt_new (P := P) w T Z.cells (secA s) (by rw [z2, secA_size, hs]) (by rw [hz, secA_size, hs]) (secA_one s)
 simp only [execOp, ho2, hx, hy, hst, Result.andThen_ok, Sem.run_bind, Sem.run_pure]
 exact hK2 _ _ h
end
section
variable {ops : Array Oper} {o : Oper} {a : Act} {Q : Exit → Act → World → Prop} {K : Act → World → Prop} {F : Prop}
theorem step_store_any {T : TypeId} {g : Nat} {cs0 cs : Array Value} (hw : Region.wanted o (yielded ops a.tmps) = true) (x y : Operand) (ho : o.op = .store T x y) (hi : (P.info? T).map (·.size) = some cs.size) (hx : a.eval x = .pointer (some ⟨g, 0, none⟩)) (hy : a.eval y = .agg cs) (hb : Blk w g T cs0) (h0 : cs0.size = cs.size) (h1 : cs.all (·.oneCell') = true)
    (h : ∀ w', Blk w' g T cs → Fr (fun k => k = g) w w' → K (a.put o.dst undef) w') : if Region.wanted o (yielded ops a.tmps) = true then Oper.wp P o a w K Q else F := by
 rw [if_pos hw]
 obtain ⟨r1, r2⟩ := setRow_blk (cs' := cs) hb
 unfold Oper.wp execOp
 simp only [ho, hx, hy, Instr.storeAt, Instr.sureAddr, Sem.run_bind, Sem.run_pure, Result.andThen_ok, run_storeVar_row w g T T cs0 cs hb hi h0 h1]
 exact h _ r1 r2
end
end
end Go.Proofs.YtfchcdbfalgdlaaGreatDoor
namespace Go.Proofs.YtfchcdbfalgdlaaGreatDoor
set_option linter.unusedVariables false
set_option linter.unusedSimpArgs false
set_option linter.constructorNameAsVariable false
open Go.RowKit
structure Kept (B : Nat) (W W' : World) : Prop where
 size : W.heap.size ≤ W'.heap.size
 rest : ∀ (k : Nat) (o : Obj), B ≤ k → W.heap[k]? = some o → o.isCells = false → W'.heap[k]? = some o
section
variable {B : Nat} {A W W' : World}
theorem Kept.tr (h : Kept B A W) (k : Kept B W W') : Kept B A W' := ⟨Nat.le_trans h.size k.size, fun i o hi ho hc => k.rest i o hi (h.rest i o hi ho hc) hc⟩
theorem Kept.new (h : New W W') : Kept B W W' := ⟨h.size, fun k o _ ho _ => (h.block k (Array.getElem?_eq_some_iff.1 ho).1).trans ho⟩
theorem Kept.fr {S : Nat → Prop} (h : Fr S W W') (hS : ∀ k o, B ≤ k → S k → W.heap[k]? = some o → o.isCells = true) : Kept B W W' :=
 ⟨h.size, fun k o hb ho hc => (h.block k (Array.getElem?_eq_some_iff.1 ho).1 (fun hs => by have := hS k o hb hs ho; rw [hc] at this; cases this)).trans ho⟩
end
def GivesR {α : Type} (R : List α → α → Prop) (P : Program) (gf : Nat) (lb : Array Value) (encs : α → Array Value) (Good : α → World → Prop) (Kp : World → World → Prop) (S : List α → Prop) (M : Nat) (w : World) : Prop :=
 ∀ (l : Nat) (J : List α → World → Prop) (W : World), New w W → (∀ s A B, J s A → New A B → J s B) →
  (∀ pre x W1, pre.length < M → J pre W1 → Good x W1 → R pre x → YieldAt Fence.wide 2 P l (encs x) W1 fun e W' => e = .returned (.bool true) ∧ J (pre ++ [x]) W' ∧ Kp W1 W') →
  J [] W → CallsIn Fence.wide 2 P gf (#[.func (.yield l) #[] #[]] ++ lb) W fun e W' => (∃ v, e = .returned v) ∧ ∃ xs, S xs ∧ J xs W'
def Puts (B : Nat) (W W' : World) : Prop := ∃ l o o', B ≤ l ∧ W.heap[l]? = some o ∧ o.isCells = false ∧ W' = W.putObj l o'
theorem wp_rangeR {α : Type} {R : List α → α → Prop} {P : Program} {g : Operand} {ps : Array Tmp} {assign body : Code} {Q : Exit → Act → World → Prop} {a : Act} {w : World}
    {gf : Nat} {lb : Array Value} (hg : a.eval g = .func (.func gf) #[] lb) (eg : ∀ args w, (callFunc gf args).run P w = .ok (.enter gf args) w)
    (encs : α → Array Value) (hps : ∀ x, (encs x).size = ps.size) {Good : α → World → Prop} {Kp : World → World → Prop} {S : List α → Prop} {M : Nat} (hseq : GivesR R P gf lb encs Good Kp S M w)
    (hGp : ∀ x W W', Good x W → Puts w.heap.size W W' → Good x W') (hKt : ∀ {A B C : World}, Kp A B → Kp B C → Kp A C) (hKp : ∀ W W', Puts w.heap.size W W' → Kp W W')
    (I : List α → World → Prop) (hIn : ∀ s A B, I s A → New A B → I s B) (hIp : ∀ s A B, I s A → Puts w.heap.size A B → I s B) (h0 : I [] w) (a1 : α → Act)
    (hassign : ∀ (l : Nat) (x : α) (W : World) (K : Act → World → Prop), K (a1 x) W → assign.wpIn (Fence.wide.inRound l) 2 P (Exit.then K (fun _ _ _ => False)) { tmps := (ps.zip (encs x)).foldl (fun t (p, v) => t.setIfInBounds p v) a.tmps, defers := [] } W)
    (hbody : ∀ (l : Nat) (pre : List α) (x : α) (W : World), pre.length < M → I pre W → Good x W → R pre x → body.wpIn (Fence.wide.inRound l) 2 P (fun e _ W' => e = .normal ∧ Kept w.heap.size W W' ∧ Kp W W' ∧ I (pre ++ [x]) W') (a1 x) W)
    (hdone : ∀ (D : Nat) (xs : List α) (W : World), w.heap.size ≤ D → S xs → I xs W → W.heap[D]? = some (.deferred (some [])) → Q .normal { a with defers := { target := .collected D, args := #[] } :: a.defers } W) :
    (Code.rangeFunc g ps assign body).wp P Q a w := by
 refine (wpIn_wide (n := 3)).1 ?_
 refine wpIn_rangeFunc fun fn hfn => ?_
 obtain ⟨rc, hrc⟩ : ∃ rc : LoopState → Option Code → Loop, rc = fun st pe => { state := st, pending := pe, fn, tmps := a.tmps, params := ps, assign, body, defers := w.heap.size } := ⟨_, rfl⟩
 obtain ⟨w1, hw1⟩ : ∃ w1, w1 = (w.alloc (.deferred (some []))).alloc (.loop (rc .ready none)) := ⟨_, rfl⟩
 have hn1 : New w w1 := by rw [hw1]; exact New.al (New.al (New.refl w) _) _
 have hl1 : w1.heap[w.heap.size + 1]? = some (.loop (rc .ready none)) := by
  rw [hw1]
  have := World.alloc_heap_new (w.alloc (.deferred (some []))) (.loop (rc .ready none))
  rwa [World.size_alloc] at this
 have hd1 : w1.heap[w.heap.size]? = some (.deferred (some [])) := by
  rw [hw1]
  exact (Below.heap_alloc _ _ _ (by simp)).trans (World.alloc_heap_new w _)
 refine ⟨w.heap.size + 1, [{ target := .collected w.heap.size, args := #[] }], w1, { target := .fn (.func gf) lb, args := #[.func (.yield (w.heap.size + 1)) #[] #[]] }, w1, gf, #[.func (.yield (w.heap.size + 1)) #[] #[]] ++ lb, w1, ?_, ?_, fun _ _ => trivial, ?_, fun _ => by decide, ?_⟩
 · rw [hw1, hrc]
   exact run_enterLoop_outer _ _ _ _ _
 · simp only [resolve, hg]
   simp [go_sem]
 · simp [invoke, go_sem, eg]
 have put : ∀ (W : World) (r r' : Loop), W.heap[w.heap.size + 1]? = some (.loop r) → Puts w.heap.size W (W.putObj (w.heap.size + 1) (.loop r')) := fun W r r' h => ⟨_, _, _, by omega, h, rfl, rfl⟩
 refine (hseq (w.heap.size + 1) (fun pre W => I pre W ∧ W.heap[w.heap.size + 1]? = some (.loop (rc .ready none)) ∧ W.heap[w.heap.size]? = some (.deferred (some []))) w1 hn1 ?_ ?_ ⟨hIn _ _ _ h0 hn1, hl1, hd1⟩).mono ?_
 · rintro s A B ⟨hi, hl, hd⟩ hN
   exact ⟨hIn s A B hi hN, (hN.block _ (Array.getElem?_eq_some_iff.1 hl).1).trans hl, (hN.block _ (Array.getElem?_eq_some_iff.1 hd).1).trans hd⟩
 · rintro pre x W hpl ⟨hi, hl, hd⟩ hgood hRx
   have hlt := (Array.getElem?_eq_some_iff.1 hl).1
   have hy := run_yield (P := P) (args := encs x) hl (by rw [hrc]; exact hps x)
   rw [hrc] at hy
   refine ⟨fn, _, assign, body, hy, roundIn_of_wpIn hfn (hassign _ x W _ ⟨_, run_beginRound hl (by rw [hrc]), ?_⟩)⟩
   obtain ⟨W2, hW2⟩ : ∃ W2, W2 = W.putObj (w.heap.size + 1) (.loop { rc .ready none with state := .busy }) := ⟨_, rfl⟩
   have hP2 : Puts w.heap.size W W2 := by rw [hW2]; exact put W _ _ hl
   have hl2 : W2.heap[w.heap.size + 1]? = some (.loop { rc .ready none with state := .busy }) := by rw [hW2]; exact World.putObj_heap_same hlt
   have hd2 : W2.heap[w.heap.size]? = some (.deferred (some [])) := by rw [hW2]; exact (World.putObj_heap_other (by omega)).trans hd
   rw [← hW2]
   refine wpIn_mono (hbody _ pre x W2 hpl (hIp _ _ _ hi hP2) (hGp _ _ _ hgood hP2) hRx) ?_
   rintro e a3 W3 ⟨rfl, hk3, hkp3, hi3⟩
   have hl3 := hk3.rest _ _ (by omega) hl2 rfl
   have hd3 := hk3.rest _ _ (Nat.le_refl _) hd2 rfl
   have hr := run_endRound (P := P) none hl3
   have hP3 := put W3 _ { rc .ready none with state := (if (none : Option Code).isNone then .ready else .done), pending := none } hl3
   refine ⟨_, _, hr, rfl, ⟨hIp _ _ _ hi3 hP3, ?_, (World.putObj_heap_other (by omega)).trans hd3⟩, hKt (hKp _ _ hP2) (hKt hkp3 (hKp _ _ hP3))⟩
   rw [World.putObj_heap_same (Array.getElem?_eq_some_iff.1 hl3).1, hrc]
   rfl
 · rintro e W2 ⟨⟨v, rfl⟩, xs, hS, hi, hl, hd⟩
   have hend := run_endLoop (P := P) hl (by rw [hrc]; simp)
   rw [hrc] at hend
   exact ⟨none, _, hend, hdone _ xs _ (Nat.le_refl _) hS (hIp _ _ _ hi (put W2 _ _ hl)) ((World.putObj_heap_other (by omega)).trans hd)⟩
def mk1 (D : Nat) : Deferred := { target := .collected D, args := #[] }
def Marks (B : Nat) (Ds : List Nat) (W : World) : Prop := Ds.Nodup ∧ ∀ D ∈ Ds, B ≤ D ∧ W.heap[D]? = some (.deferred (some []))
section
variable {B : Nat} {Ds : List Nat} {W W' : World}
theorem Marks.nil (B : Nat) (W : World) : Marks B [] W := ⟨List.nodup_nil, fun D h => by cases h⟩
theorem Marks.lt (h : Marks B Ds W) {D : Nat} (hD : D ∈ Ds) : D < W.heap.size := (Array.getElem?_eq_some_iff.1 (h.2 D hD).2).1
theorem Marks.cons (h : Marks B Ds W) {D : Nat} (h0 : ∀ k ∈ Ds, k < D) (hB : B ≤ D) (hd : W.heap[D]? = some (.deferred (some []))) : Marks B (D :: Ds) W :=
 ⟨List.nodup_cons.2 ⟨fun hm => by have := h0 D hm; omega, h.1⟩, fun k hk => by
  rcases List.mem_cons.1 hk with rfl | hk
  · exact ⟨hB, hd⟩
  · exact h.2 k hk⟩
structure Shut (B : Nat) (W W' : World) : Prop where
 below : Below B W W'
 cells : ∀ (k : Nat) (o : Obj), W.heap[k]? = some o → o.isCells = true → W'.heap[k]? = some o
theorem Shut.refl (B : Nat) (W : World) : Shut B W W := ⟨Below.refl _ _, fun _ _ h _ => h⟩
theorem leaves_marks {F : Fence} {n : Nat} {P : Program} {fn : Func} {tmps : Array Value} {R : Ending → World → Prop} : ∀ (Ds : List Nat) (W : World), Marks B Ds W →
    (∀ W', Shut B W W' → ∃ v, (results fn tmps).run P W' = .ok v W' ∧ R (.returned v) W') → LeavesInM F n P fn tmps R (Ds.map mk1) .returning W := by
 intro Ds
 induction Ds with
 | nil => exact fun W _ h => h W (Shut.refl B W)
 | cons D Ds ih =>
  intro W hM h
  have hD := hM.2 D (by simp)
  have hlt := hM.lt (D := D) (by simp)
  have hn := List.nodup_cons.1 hM.1
  refine ⟨by simp, .inl ⟨D, _, rfl, run_takeDeferred hD.2, ih _ ⟨hn.2, fun k hk => ⟨(hM.2 k (by simp [hk])).1, ?_⟩⟩ ?_⟩⟩
  · have hkd : k ≠ D := fun e => hn.1 (by rw [← e]; exact hk)
    exact (World.putObj_heap_other hkd).trans (hM.2 k (by simp [hk])).2
  · intro W' hS
    refine h W' ⟨((Below.refl B W).grown (grownBy_putObj' W D (.deferred none)) (by omega) (fun k e => by cases e; exact hD.1)).trans hS.below, fun k o ho hc => hS.cells k o ?_ hc⟩
    refine (World.putObj_heap_other (fun e => ?_)).trans ho
    rw [e, hD.2] at ho
    cases ho
    cases hc
end
end Go.Proofs.YtfchcdbfalgdlaaGreatDoor
namespace Go.Proofs.YtfchcdbfalgdlaaGreatDoor
set_option linter.unusedVariables false
set_option linter.unusedSimpArgs false
set_option linter.constructorNameAsVariable false
open Go.RowKit
section
variable {B : Nat} {W W' : World}
theorem Puts.keep {k : Nat} {o : Obj} (h : Puts B W W') (hk : W.heap[k]? = some o) (hc : o.isCells = true) : W'.heap[k]? = some o := by
 obtain ⟨l, o1, o', -, hl, ho, rfl⟩ := h
 refine (World.putObj_heap_other fun e => ?_).trans hk
 rw [e, hl] at hk
 injection hk with hk
 rw [hk, hc] at ho
 cases ho
theorem Puts.blk {g : Nat} {t : TypeId} {cs : Array Value} (h : Puts B W W') (hb : Blk W g t cs) : Blk W' g t cs := h.keep hb rfl
theorem Puts.fr {S : Nat → Prop} (h : Puts B W W') (hS : ∀ j, B ≤ j → S j) : Fr S W W' := by
 obtain ⟨l, o1, o', hB, hl, ho, rfl⟩ := h
 exact ⟨rfl, rfl, rfl, by simp, fun k _ hk => World.putObj_heap_other (fun e => hk (e ▸ hS _ hB))⟩
theorem Puts.own {base e size n : Nat} {v : Value} {xs : List Value} (h : Puts B W W') (ho : W.ownsRow base e size v n xs) : W'.ownsRow base e size v n xs := by
 refine ⟨ho.1, ?_⟩
 rcases ho.2 with h2 | ⟨g, cap, cur, rfl, hb, hh, rest⟩
 · exact .inl h2
 · exact .inr ⟨g, cap, cur, rfl, hb, h.keep hh rfl, rest⟩
theorem Marks.fr {B : Nat} {Ds : List Nat} {S : Nat → Prop} (h : Marks B Ds W) (hF : Fr S W W') (hS : ∀ D, S D → ¬ W.heap[D]? = some (.deferred (some []))) : Marks B Ds W' :=
 ⟨h.1, fun D hD => ⟨(h.2 D hD).1, (hF.block D (h.lt hD) (fun hs => hS D hs (h.2 D hD).2)).trans (h.2 D hD).2⟩⟩
theorem Marks.new {B : Nat} {Ds : List Nat} (h : Marks B Ds W) (hN : New W W') : Marks B Ds W' := h.fr (S := NoB) (hN.toFr _) (fun _ x => x.elim)
end
theorem not_def_blk {W : World} {k t : Nat} {cs : Array Value} (h : Blk W k t cs) : ¬ W.heap[k]? = some (.deferred (some [])) := by
 intro e
 unfold Blk at h
 rw [h] at e
 cases e
theorem wp_sw {P : Program} {c : Code} {Q : Exit → Act → World → Prop} {a : Act} {w : World} (R : Act → World → Prop) (h1 : ∀ a' w', R a' w' → Q .normal a' w')
    (h2 : ∀ K' : Act → World → Prop, (∀ a' w', R a' w' → K' a' w') → c.wp P (Exit.then K' fun _ _ _ => False) a w) : c.wp P Q a w :=
 wp_mono (h2 (fun a w => Q .normal a w) h1) fun e a' w' hq => by
  cases e <;> first | exact hq | exact hq.elim
end Go.Proofs.YtfchcdbfalgdlaaGreatDoor
namespace Go.Proofs.YtfchcdbfalgdlaaGreatDoor
set_option linter.unusedVariables false
set_option linter.unusedSimpArgs false
set_option linter.constructorNameAsVariable false
open Go.RowKit Go.Sort
def xor32 (a b : Int) : Int := bits .xor .u32 a b
def add32 (a b : Int) : Int := IntKind.u32.wrap (a + b)
def sg0 (x : Int) : Int := xor32 (xor32 (rotr x 7) (rotr x 18)) (x / 8)
def sg1 (y : Int) : Int := xor32 (xor32 (rotr y 17) (rotr y 19)) (y / 1024)
def bword (s : List Int) (t : Nat) : Int := ((at_ s (4 * t) * 256 + at_ s (4 * t + 1)) * 256 + at_ s (4 * t + 2)) * 256 + at_ s (4 * t + 3)
def sprd (s : List Int) : Nat → List Int
 | 0 => []
 | t + 1 => sprd s t ++ [if t < 16 then bword s t else add32 (add32 (add32 (at_ (sprd s t) (t - 16)) (sg0 (at_ (sprd s t) (t - 15)))) (at_ (sprd s t) (t - 7))) (sg1 (at_ (sprd s t) (t - 2)))]
theorem sprd_len (s : List Int) (t : Nat) : (sprd s t).length = t := by
 induction t with
 | zero => rfl
 | succ t ih => simp [sprd, ih]
def u32A (n : Nat) (L : List Int) : Array Value := ((L ++ List.replicate (n - L.length) 0).map fun x => Value.int .u32 x).toArray
theorem u32A_get {n : Nat} {L : List Int} {i : Nat} (h : i < L.length) : (u32A n L)[i]? = some (.int .u32 (at_ L i)) := by
 unfold u32A at_
 rw [List.getElem?_toArray, List.getElem?_map, List.getElem?_append_left h, List.getElem?_eq_getElem h]
 simp [List.getD_eq_getElem?_getD, List.getElem?_eq_getElem h]
theorem u32A_any {n : Nat} {L : List Int} {i : Nat} (h : i < n) : ∃ v, (u32A n L)[i]? = some v := by
 unfold u32A
 rw [List.getElem?_toArray, List.getElem?_map]
 have : i < (L ++ List.replicate (n - L.length) (0 : Int)).length := by simp; omega
 rw [List.getElem?_eq_getElem this]
 exact ⟨_, rfl⟩
theorem u32A_set {n : Nat} {L : List Int} (v : Int) (h : L.length < n) : (u32A n L).setIfInBounds L.length (.int .u32 v) = u32A n (L ++ [v]) := by
 unfold u32A
 rw [List.setIfInBounds_toArray]
 congr 1
 obtain ⟨m, hm⟩ : ∃ m, n - L.length = m + 1 := ⟨n - L.length - 1, by omega⟩
 have h2 : n - (L ++ [v]).length = m := by simp; omega
 rw [hm, h2, List.map_append, List.set_append_right _ _ (by simp)]
 simp [List.replicate_succ]
theorem u32A_size {n : Nat} {L : List Int} (h : L.length ≤ n) : (u32A n L).size = n := by
 simp [u32A]
 omega
theorem u32A_one (n : Nat) (L : List Int) : (u32A n L).all (·.oneCell') = true := by
 rw [Array.all_eq_true_iff_forall_mem]
 intro x hx
 unfold u32A at hx
 rw [List.mem_toArray] at hx
 obtain ⟨y, -, rfl⟩ := List.mem_map.1 hx
 rfl
theorem add32_b (a b : Int) : 0 ≤ add32 a b ∧ add32 a b < 4294967296 := by
 unfold add32
 rw [IntKind.wrap_u32]
 omega
theorem sprd_b {s : List Int} (hs : s.length = 64) (hb : Byt s) (t : Nat) : ∀ i, 0 ≤ at_ (sprd s t) i ∧ at_ (sprd s t) i < 4294967296 := by
 have key : ∀ i, 0 ≤ at_ s i ∧ at_ s i < 256 := fun i => by
  unfold at_
  rw [List.getD_eq_getElem?_getD]
  cases h : s[i]? with
  | none => simp
  | some x => exact hb x (List.mem_of_getElem? h)
 induction t with
 | zero => intro i; simp [sprd, at_]
 | succ t ih =>
  intro i
  have e : at_ (sprd s (t + 1)) i = if i < t then at_ (sprd s t) i else if i = t then (if t < 16 then bword s t else add32 (add32 (add32 (at_ (sprd s t) (t - 16)) (sg0 (at_ (sprd s t) (t - 15)))) (at_ (sprd s t) (t - 7))) (sg1 (at_ (sprd s t) (t - 2)))) else 0 := by
   have hl := sprd_len s t
   show at_ (sprd s t ++ [_]) i = _
   unfold at_
   rw [List.getD_eq_getElem?_getD]
   by_cases h : i < t
   · rw [if_pos h, List.getElem?_append_left (by omega), List.getD_eq_getElem?_getD]
   · rw [if_neg h, List.getElem?_append_right (by omega), hl]
     by_cases h2 : i = t
     · subst h2
       simp
     · rw [if_neg h2, List.getElem?_eq_none (by simp; omega)]
       rfl
  rw [e]
  split
  · exact ih i
  · split
    · split
      · unfold bword
        have h0 := key (4 * t)
        have h1 := key (4 * t + 1)
        have h2 := key (4 * t + 2)
        have h3 := key (4 * t + 3)
        omega
      · exact add32_b _ _
    · omega
theorem results_rowA {fn : Func} {p : Tmp} {ty : TypeId} {P : Program} (h : fn.results = #[.cell p ty]) (tmps : Array Value) (w : World) (g : Nat) (cs : Array Value) (d : TypeDesc)
    (hp : tmps.getD p undef = .pointer (some ⟨g, 0, none⟩)) (hg : Blk w g ty cs) (hu : P.underlying ty = some d) (hd : d.isRow = true) (hi : (P.info? ty).map (·.size) = some cs.size) :
    (results fn tmps).run P w = .ok (.agg cs) w := results_cell_row h tmps w g ty cs (0, 0) d hp hg hu (by cases d <;> first | rfl | (simp [TypeDesc.isRow] at hd)) hi
theorem slice4 (b1 t : Nat) (h : t < 16) (w : World) : (Instr.sliceAt 67 (.pointer (some ⟨b1, 0, none⟩)) (some (.int .i64 (4 * (t : Int)))) (some (.int .i64 (4 * (t : Int) + 4))) none).run Tryz.prog w = .ok (.slice (some ⟨b1, 4 * t, none⟩) 4 (64 - 4 * t)) w := by
 have hal : (Tryz.prog.arrayLen 67) = 64 := by kernel_rfl
 have hel : (Tryz.prog.elem 67) = 5 := by kernel_rfl
 have hu : Tryz.prog.underlying 67 = some (.array (Tryz.prog.arrayLen 67) (Tryz.prog.elem 67)) := by rw [hal, hel]; exact Tryz.underlying67
 have hs : (sizeOf 5).run Tryz.prog w = .ok 1 w := by
  first | exact Tryz.sizeOf5 w | simp [Tryz.sizeOf5, go_sem] | kernel_rfl
 rw [run_sliceAt_array_lh (P := Tryz.prog) w 67 ⟨b1, 0, none⟩ hu .i64 .i64 (4 * (t : Int)) (4 * (t : Int) + 4) (by omega) (by omega) (by rw [hal]; omega), hel, hal, hs]
 have e1 : (4 * (t : Int)).toNat = 4 * t := by omega
 have e2 : (4 * (t : Int) + 4).toNat = 4 * t + 4 := by omega
 simp only [Result.andThen_ok, slicedAt, e1, e2]
 rw [if_neg (by omega), add_own, Nat.mul_one]
 simp
set_option maxHeartbeats 4000000 in
set_option maxRecDepth 100000 in
theorem spread_any (s : List Int) (w : World) (hs : s.length = 64) (hb : Byt s) : Calls Tryz.prog 174 #[.agg (secA s)] w fun e w' => e = .returned (.agg (u32A 64 (sprd s 64))) ∧ New w w' := by
 have HS := Lib.hid hs
 have HB := Lib.hid hb
 clear hs hb
 go_enter Tryz.func174, Tryz.ntmps174
 go_upto_region 2 with fail
 obtain ⟨w1, hw1⟩ : ∃ w1 : World, w1 = ((w.alloc (.cells (secA s) 67)).alloc (.cells #[.int .u32 0, .int .u32 0, .int .u32 0, .int .u32 0, .int .u32 0, .int .u32 0, .int .u32 0, .int .u32 0, .int .u32 0, .int .u32 0, .int .u32 0, .int .u32 0, .int .u32 0, .int .u32 0, .int .u32 0, .int .u32 0, .int .u32 0, .int .u32 0, .int .u32 0, .int .u32 0, .int .u32 0, .int .u32 0, .int .u32 0, .int .u32 0, .int .u32 0, .int .u32 0, .int .u32 0, .int .u32 0, .int .u32 0, .int .u32 0, .int .u32 0, .int .u32 0, .int .u32 0, .int .u32 0, .int .u32 0, .int .u32 0, .int .u32 0, .int .u32 0, .int .u32 0, .int .u32 0, .int .u32 0, .int .u32 0, .int .u32 0, .int .u32 0, .int .u32 0, .int .u32 0, .int .u32 0, .int .u32 0, .int .u32 0, .int .u32 0, .int .u32 0, .int .u32 0, .int .u32 0, .int .u32 0, .int .u32 0, .int .u32 0, .int .u32 0, .int .u32 0, .int .u32 0, .int .u32 0, .int .u32 0, .int .u32 0, .int .u32 0, .int .u32 0] 250)).alloc (.cells #[.int .u32 0, .int .u32 0, .int .u32 0, .int .u32 0, .int .u32 0, .int .u32 0, .int .u32 0, .int .u32 0, .int .u32 0, .int .u32 0, .int .u32 0, .int .u32 0, .int .u32 0, .int .u32 0, .int .u32 0, .int .u32 0, .int .u32 0, .int .u32 0, .int .u32 0, .int .u32 0, .int .u32 0, .int .u32 0, .int .u32 0, .int .u32 0, .int .u32 0, .int .u32 0, .int .u32 0, .int .u32 0, .int .u32 0, .int .u32 0, .int .u32 0, .int .u32 0, .int .u32 0, .int .u32 0, .int .u32 0, .int .u32 0, .int .u32 0, .int .u32 0, .int .u32 0, .int .u32 0, .int .u32 0, .int .u32 0, .int .u32 0, .int .u32 0, .int .u32 0, .int .u32 0, .int .u32 0, .int .u32 0, .int .u32 0, .int .u32 0, .int .u32 0, .int .u32 0, .int .u32 0, .int .u32 0, .int .u32 0, .int .u32 0, .int .u32 0, .int .u32 0, .int .u32 0, .int .u32 0, .int .u32 0, .int .u32 0, .int .u32 0, .int .u32 0] 250) := ⟨_, rfl⟩
 obtain ⟨b1, hb1⟩ : ∃ b1, b1 = w.heap.size := ⟨_, rfl⟩
 obtain ⟨b2, hb2⟩ : ∃ b2, b2 = w.heap.size + 1 := ⟨_, rfl⟩
 obtain ⟨b3, hb3⟩ : ∃ b3, b3 = w.heap.size + 1 + 1 := ⟨_, rfl⟩
 have hz : (#[.int .u32 0, .int .u32 0, .int .u32 0, .int .u32 0, .int .u32 0, .int .u32 0, .int .u32 0, .int .u32 0, .int .u32 0, .int .u32 0, .int .u32 0, .int .u32 0, .int .u32 0, .int .u32 0, .int .u32 0, .int .u32 0, .int .u32 0, .int .u32 0, .int .u32 0, .int .u32 0, .int .u32 0, .int .u32 0, .int .u32 0, .int .u32 0, .int .u32 0, .int .u32 0, .int .u32 0, .int .u32 0, .int .u32 0, .int .u32 0, .int .u32 0, .int .u32 0, .int .u32 0, .int .u32 0, .int .u32 0, .int .u32 0, .int .u32 0, .int .u32 0, .int .u32 0, .int .u32 0, .int .u32 0, .int .u32 0, .int .u32 0, .int .u32 0, .int .u32 0, .int .u32 0, .int .u32 0, .int .u32 0, .int .u32 0, .int .u32 0, .int .u32 0, .int .u32 0, .int .u32 0, .int .u32 0, .int .u32 0, .int .u32 0, .int .u32 0, .int .u32 0, .int .u32 0, .int .u32 0, .int .u32 0, .int .u32 0, .int .u32 0, .int .u32 0] : Array Value) = u32A 64 [] := by rfl
 have HN1 : Hid (New w w1) := Lib.hid (by rw [hw1]; exact New.al (New.al (New.al (New.refl _) _) _) _)
 have HB1 : Hid (Blk w1 b1 67 (secA s)) := Lib.hid (by rw [hw1, hb1]; exact ((Blk.new _ _ _).alloc _).alloc _)
 have HB2 : Hid (Blk w1 b2 250 (u32A 64 [])) := Lib.hid (by rw [hw1, hb2, ← hz]; exact (Blk.new' _ _ _ (by simp)).alloc _)
 have HB3 : Hid (Blk w1 b3 250 (u32A 64 [])) := Lib.hid (by rw [hw1, hb3, ← hz]; exact Blk.new' _ _ _ (by simp))
 have HZ : Hid (b1 = w.heap.size ∧ b2 = w.heap.size + 1 ∧ b3 = w.heap.size + 2) := Lib.hid ⟨hb1, hb2, hb3⟩
 rw [← hw1, ← hb3, ← hb2, ← hb1]
 clear hw1 hb1 hb2 hb3 hz
 go_wp2_with fail
 go_loopw [7] (fun i wr => ∃ (t : Nat), t ≤ 64 ∧ i = .int .i64 t ∧ Hid (New w wr) ∧ Hid (Blk wr b1 67 (secA s)) ∧ Hid (Blk wr b2 250 (u32A 64 [])) ∧ Hid (Blk wr b3 250 (u32A 64 (sprd s t)))) (fun i _ => 64 - (intOf i).toNat)
 case atStart => exact ⟨0, Nat.zero_le _, rfl, HN1, HB1, HB2, HB3⟩
 case round =>
  clear HB1 HB2 HB3 HN1
  obtain ⟨t, ht, rfl, HN, HB1, HB2, HB3⟩ := hrel
  by_cases hlt : t < 64
  · have ht0 : (0 : Int) ≤ (t : Int) := by omega
    have ht6 : (t : Int) < 64 := by omega
    by_cases h16 : t < 16
    · have hd : decide ((t : Int) < 16) = true := decide_eq_true (by omega)
      have hsl := slice4 b1 t h16
      have hg : ∀ i, i < 64 → wr.cell? ⟨b1, i, none⟩ = some (.int .u8 (at_ s i)) := HB1.out.byte HS.out
      have hrd : Rd (fun _ => True) wr 1 (some ⟨b1, 4 * t, none⟩) 4 (u8s [at_ s (4 * t), at_ s (4 * t + 1), at_ s (4 * t + 2), at_ s (4 * t + 3)]) := by
       refine ⟨rfl, fun _ => ⟨_, rfl, trivial, HB1.out.lt, fun i u hu => ?_⟩⟩
       have hi : i < 4 := (List.getElem?_eq_some_iff.1 hu).1
       have ha : (⟨b1, 4 * t, none⟩ : Addr).add i = ⟨b1, 4 * t + i, none⟩ := by
        unfold Addr.add
        split
        · next h0 => subst h0; rfl
        · rfl
       rw [ha, hg _ (by omega)]
       rcases (by omega : i = 0 ∨ i = 1 ∨ i = 2 ∨ i = 3) with rfl | rfl | rfl | rfl <;> exact hu
      have hby : Byt [at_ s (4 * t), at_ s (4 * t + 1), at_ s (4 * t + 2), at_ s (4 * t + 3)] := by
       have key : ∀ i, i < 64 → 0 ≤ at_ s i ∧ at_ s i < 256 := fun i hi => by
        have hl : i < s.length := by rw [HS.out]; exact hi
        have e : at_ s i = s[i] := by simp [at_, List.getD_eq_getElem?_getD, List.getElem?_eq_getElem hl]
        rw [e]
        exact HB.out _ (List.getElem_mem _)
       intro x hx
       simp only [List.mem_cons, List.not_mem_nil, or_false] at hx
       rcases hx with rfl | rfl | rfl | rfl <;> exact key _ (by omega)
      have HW := Lib.hid (word_any (some ⟨b1, 4 * t, none⟩) 4 (64 - 4 * t) _ _ _ _ _ wr hrd rfl hby)
      clear hg hrd hby
      go_wp2_with fail
      refine HW.out.mono ?_
      rintro e w5 ⟨rfl, hN5⟩
      have HN5 := Lib.hid hN5
      obtain ⟨v, hv⟩ := u32A_any (n := 64) (L := sprd s t) hlt
      have c5 : w5.cell? ⟨b3, t, none⟩ = some v := ((hN5.blk HB3.out).cell t).trans hv
      have f5 : w5.frozen? ⟨b3, t, none⟩ = false := (hN5.blk HB3.out).frozen t
      have HF : Hid (Fr (fun k => k = b3) w5 (w5.setCell ⟨b3, t, none⟩ (.int .u32 (bword s t)))) := Lib.hid ((Fr.refl (fun k => k = b3) w5).setCell (p := ⟨b3, t, none⟩) (fun _ => rfl) _)
      have HN6 : Hid (New w (w5.setCell ⟨b3, t, none⟩ (.int .u32 (bword s t)))) := Lib.hid ((HN.out.tr HN5.out).fr HF.out (fun k hk => by have := HZ.out; omega))
      have HB6 : Hid (Blk (w5.setCell ⟨b3, t, none⟩ (.int .u32 (bword s t))) b3 250 (u32A 64 (sprd s (t + 1)))) := Lib.hid (by
       have := (HN5.out.blk HB3.out).set t (.int .u32 (bword s t))
       have h2 := u32A_set (n := 64) (L := sprd s t) (bword s t) (by rw [sprd_len]; exact hlt)
       rw [sprd_len] at h2
       rw [h2] at this
       simpa [sprd, h16] using this)
      have HB16 : Hid (Blk (w5.setCell ⟨b3, t, none⟩ (.int .u32 (bword s t))) b1 67 (secA s)) := Lib.hid ((HN5.out.blk HB1.out).fr HF.out (by have := HZ.out; omega))
      have HB26 : Hid (Blk (w5.setCell ⟨b3, t, none⟩ (.int .u32 (bword s t))) b2 250 (u32A 64 [])) := Lib.hid ((HN5.out.blk HB2.out).fr HF.out (by have := HZ.out; omega))
      clear hN5 hv hsl HW
      dsimp only
      have hbw : ((at_ s (4 * t) * 256 + at_ s (4 * t + 1)) * 256 + at_ s (4 * t + 2)) * 256 + at_ s (4 * t + 3) = bword s t := rfl
      rw [hbw]
      clear hbw
      go_wp2_with fail
      go_roundw
      case rel => exact ⟨t + 1, by omega, by go_num, HN6, HB16, HB26, HB6⟩
      case measure => simp [intOf]; omega
    · have hd : decide ((t : Int) < 16) = false := decide_eq_false (by omega)
      obtain ⟨xx, hxx⟩ : ∃ xx, xx = at_ (sprd s t) (t - 15) := ⟨_, rfl⟩
      obtain ⟨yy, hyy⟩ : ∃ yy, yy = at_ (sprd s t) (t - 2) := ⟨_, rfl⟩
      obtain ⟨i15, h15⟩ : ∃ i, i = t - 15 := ⟨_, rfl⟩
      obtain ⟨i2, h2⟩ : ∃ i, i = t - 2 := ⟨_, rfl⟩
      obtain ⟨i16, h16'⟩ : ∃ i, i = t - 16 := ⟨_, rfl⟩
      obtain ⟨i7, h7⟩ : ∃ i, i = t - 7 := ⟨_, rfl⟩
      have e15 : ((t : Int) - 15) = (i15 : Int) := by omega
      have e2 : ((t : Int) - 2) = (i2 : Int) := by omega
      have e16 : ((t : Int) - 16) = (i16 : Int) := by omega
      have e7 : ((t : Int) - 7) = (i7 : Int) := by omega
      have hlen : (sprd s t).length = t := sprd_len s t
      have HC15 : Hid ((u32A 64 (sprd s t))[i15]? = some (.int .u32 xx)) := Lib.hid (by rw [hxx, ← h15]; exact u32A_get (by omega))
      have HC2 : Hid ((u32A 64 (sprd s t))[i2]? = some (.int .u32 yy)) := Lib.hid (by rw [hyy, ← h2]; exact u32A_get (by omega))
      have HC16 : Hid ((u32A 64 (sprd s t))[i16]? = some (.int .u32 (at_ (sprd s t) i16))) := Lib.hid (u32A_get (by omega))
      have HC7 : Hid ((u32A 64 (sprd s t))[i7]? = some (.int .u32 (at_ (sprd s t) i7))) := Lib.hid (u32A_get (by omega))
      have hbx : 0 ≤ xx ∧ xx < 4294967296 := by rw [hxx]; exact sprd_b HS.out HB.out t _
      have hby : 0 ≤ yy ∧ yy < 4294967296 := by rw [hyy]; exact sprd_b HS.out HB.out t _
      have l15 : (i15 : Int) < 64 := by omega
      have l2 : (i2 : Int) < 64 := by omega
      have l16 : (i16 : Int) < 64 := by omega
      have l7 : (i7 : Int) < 64 := by omega
      have w15 : IntKind.i64.wrap (i15 : Int) = (i15 : Int) := IntWalk.i64_in _ (by omega)
      have w2 : IntKind.i64.wrap (i2 : Int) = (i2 : Int) := IntWalk.i64_in _ (by omega)
      have w16 : IntKind.i64.wrap (i16 : Int) = (i16 : Int) := IntWalk.i64_in _ (by omega)
      have w7 : IntKind.i64.wrap (i7 : Int) = (i7 : Int) := IntWalk.i64_in _ (by omega)
      have HXX := Lib.hid hxx
      have HYY := Lib.hid hyy
      have HI : Hid (i15 = t - 15 ∧ i2 = t - 2 ∧ i16 = t - 16 ∧ i7 = t - 7) := Lib.hid ⟨h15, h2, h16', h7⟩
      clear hlen hxx hyy h15 h2 h16' h7
      go_wp2_with fail
      refine wp_region_mixH (fun w' => Blk w' b3 250 (u32A 64 (sprd s t))) [(true, 0), (true, 1), (true, 2), (true, 3), (true, 4), (true, 5), (true, 6), (true, 7), (true, 8), (true, 9)] (by kernel_rfl) (by kernel_rfl) HB3.out (fun hne => ?_)
      have q15 : ∀ p : HW (fun w' => Blk w' b3 250 (u32A 64 (sprd s t))), p.w.cell? ⟨b3, i15, none⟩ = some (.int .u32 xx) := fun p => (p.h.cell i15).trans HC15.out
      have q2 : ∀ p : HW (fun w' => Blk w' b3 250 (u32A 64 (sprd s t))), p.w.cell? ⟨b3, i2, none⟩ = some (.int .u32 yy) := fun p => (p.h.cell i2).trans HC2.out
      iterate 10 (refine mix_take (o := ⟨_, _, _, _, _, _⟩) rfl (fun K hK => ?_); go_simp; refine hK _ ?_; clear hK K)
      clear q15 q2 hne
      refine mix_done ?_
      have c16 := cell_regrown (show (wr.drew).cell? ⟨b3, i16, none⟩ = some (.int .u32 (at_ (sprd s t) i16)) from (HB3.out.drew.cell i16).trans HC16.out)
      have c7 := cell_regrown (show (wr.drew).cell? ⟨b3, i7, none⟩ = some (.int .u32 (at_ (sprd s t) i7)) from (HB3.out.drew.cell i7).trans HC7.out)
      have cT : ∀ (x : Int) (k : Nat), (0 ≤ x ∧ x < 4294967296) → (1 ≤ k ∧ k ≤ 31) → ∀ d os, Calls Tryz.prog 175 #[.int .u32 x, .int .i64 (k : Int)] (grow (redrawn wr.drew d) os) fun e w'' => e = .returned (.int .u32 (rotr x k)) ∧ ∃ p : Regrown, w'' = grow (redrawn wr.drew p.d) p.os :=
       fun x k hx hk => calls_regrown (fun W _ => (turn_any x k W hx hk).mono fun e w' h => ⟨h.1, by rw [← h.2]; exact New.refl _⟩)
      have t1 := cT xx 7 hbx (by omega)
      have t2 := cT xx 18 hbx (by omega)
      have t3 := cT yy 17 hby (by omega)
      have t4 := cT yy 19 hby (by omega)
      clear cT
      go_wp2_with fail
      refine wp_region_tail 29 (by kernel_rfl) (by kernel_rfl) ?_
      simp only [List.take_succ_cons, List.take_zero, List.drop_succ_cons, List.drop_zero]
      repeat (quiet_step (first | exact t1 _ _ | exact t2 _ _ | exact t3 _ _ | exact t4 _ _))
      refine wpQuiet_nil ?_
      intro Wq hNq
      have HNq : Hid (New wr Wq) := Lib.hid (New.tr (New.dr (New.refl wr)) hNq)
      obtain ⟨v, hv⟩ := u32A_any (n := 64) (L := sprd s t) hlt
      have c5 : Wq.cell? ⟨b3, t, none⟩ = some v := ((HNq.out.blk HB3.out).cell t).trans hv
      have f5 : Wq.frozen? ⟨b3, t, none⟩ = false := (HNq.out.blk HB3.out).frozen t
      obtain ⟨val, hval⟩ : ∃ val, val = (add32 (add32 (add32 (at_ (sprd s t) i16) (sg0 xx)) (at_ (sprd s t) i7)) (sg1 yy)) := ⟨_, rfl⟩
      have hval2 : IntKind.u32.wrap (IntKind.u32.wrap (IntKind.u32.wrap (at_ (sprd s t) i16 + bits BinOp.xor .u32 (bits BinOp.xor .u32 (rotr xx 7) (rotr xx 18)) (xx / 8)) + at_ (sprd s t) i7) + bits BinOp.xor .u32 (bits BinOp.xor .u32 (rotr yy 17) (rotr yy 19)) (yy / 1024)) = val := hval.symm
      rw [hval2]
      have HF : Hid (Fr (fun k => k = b3) Wq (Wq.setCell ⟨b3, t, none⟩ (.int .u32 val))) := Lib.hid ((Fr.refl (fun k => k = b3) Wq).setCell (p := ⟨b3, t, none⟩) (fun _ => rfl) _)
      have HN6 : Hid (New w (Wq.setCell ⟨b3, t, none⟩ (.int .u32 val))) := Lib.hid ((HN.out.tr HNq.out).fr HF.out (fun k hk => by have := HZ.out; omega))
      have HB6 : Hid (Blk (Wq.setCell ⟨b3, t, none⟩ (.int .u32 val)) b3 250 (u32A 64 (sprd s (t + 1)))) := Lib.hid (by
       have := (HNq.out.blk HB3.out).set t (.int .u32 val)
       have h2 := u32A_set (n := 64) (L := sprd s t) val (by rw [sprd_len]; exact hlt)
       rw [sprd_len] at h2
       rw [h2, hval, HXX.out, HYY.out, HI.out.2.2.1, HI.out.2.2.2] at this
       rw [hval, HXX.out, HYY.out, HI.out.2.2.1, HI.out.2.2.2]
       simpa [sprd, h16] using this)
      have HB16 : Hid (Blk (Wq.setCell ⟨b3, t, none⟩ (.int .u32 val)) b1 67 (secA s)) := Lib.hid ((HNq.out.blk HB1.out).fr HF.out (by have := HZ.out; omega))
      have HB26 : Hid (Blk (Wq.setCell ⟨b3, t, none⟩ (.int .u32 val)) b2 250 (u32A 64 [])) := Lib.hid ((HNq.out.blk HB2.out).fr HF.out (by have := HZ.out; omega))
      clear hNq hv t1 t2 t3 t4 c16 c7 hval hval2 hbx hby
      go_wp2_with fail
      go_roundw
      case rel => exact ⟨t + 1, by omega, by go_num, HN6, HB16, HB26, HB6⟩
      case measure => simp [intOf]; omega
  · obtain rfl : t = 64 := by omega
    have hsz : (u32A 64 (sprd s 64)).size = 64 := u32A_size (by rw [sprd_len]; exact Nat.le_refl _)
    have hsz0 : (u32A 64 []).size = (u32A 64 (sprd s 64)).size := by rw [hsz]; exact u32A_size (by simp)
    go_wp2_with (first
     | ((with_reducible refine atOp ⟨some 59, .load _ _, _, _, _, _⟩ ?_); refine wpList_load_any rfl _ rfl Tryz.underlying250 rfl (by rw [hsz]; rfl) rfl HB3.out ?_)
     | ((with_reducible refine atOp ⟨none, .store 250 (.tmp 2) _, _, _, _, _⟩ ?_); refine wpList_store_any rfl (.tmp 2) (.tmp 59) rfl (by rw [hsz]; rfl) rfl rfl HB2.out hsz0 (u32A_one _ _) ?_; intro w8 hb8 hf8; have HB8 := Lib.hid hb8; have HF8 := Lib.hid hf8; clear hb8 hf8))
    refine bodyPost_ret (v := .agg (u32A 64 (sprd s 64))) (results_rowA rfl _ _ b2 _ _ rfl HB8.out Tryz.underlying250 rfl (by rw [hsz]; rfl)) rfl ⟨rfl, HN.out.fr HF8.out (fun k hk => by have := HZ.out; omega)⟩
end Go.Proofs.YtfchcdbfalgdlaaGreatDoor
namespace Go.Proofs.YtfchcdbfalgdlaaGreatDoor
set_option linter.unusedVariables false
set_option linter.unusedSimpArgs false
set_option linter.constructorNameAsVariable false
open Go.RowKit Go.Sort
def kL : List Int := [1116352408, 1899447441, 3049323471, 3921009573, 961987163, 1508970993, 2453635748, 2870763221, 3624381080, 310598401, 607225278, 1426881987, 1925078388, 2162078206, 2614888103, 3248222580, 3835390401, 4022224774, 264347078, 604807628, 770255983, 1249150122, 1555081692, 1996064986, 2554220882, 2821834349, 2952996808, 3210313671, 3336571891, 3584528711, 113926993, 338241895, 666307205, 773529912, 1294757372, 1396182291, 1695183700, 1986661051, 2177026350, 2456956037, 2730485921, 2820302411, 3259730800, 3345764771, 3516065817, 3600352804, 4094571909, 275423344, 430227734, 506948616, 659060556, 883997877, 958139571, 1322822218, 1537002063, 1747873779, 1955562222, 2024104815, 2227730452, 2361852424, 2428436474, 2756734187, 3204031479, 3329325298]
structure H8 where
 a : Int
 b : Int
 c : Int
 d : Int
 e : Int
 f : Int
 g : Int
 h : Int
def H8.arr (x : H8) : Array Value := #[.int .u32 x.a, .int .u32 x.b, .int .u32 x.c, .int .u32 x.d, .int .u32 x.e, .int .u32 x.f, .int .u32 x.g, .int .u32 x.h]
structure H8.Ok (x : H8) : Prop where
 a : 0 ≤ x.a ∧ x.a < 4294967296
 b : 0 ≤ x.b ∧ x.b < 4294967296
 c : 0 ≤ x.c ∧ x.c < 4294967296
 d : 0 ≤ x.d ∧ x.d < 4294967296
 e : 0 ≤ x.e ∧ x.e < 4294967296
 f : 0 ≤ x.f ∧ x.f < 4294967296
 g : 0 ≤ x.g ∧ x.g < 4294967296
 h : 0 ≤ x.h ∧ x.h < 4294967296
def H8.list (x : H8) : List Int := [x.a, x.b, x.c, x.d, x.e, x.f, x.g, x.h]
theorem H8.arr_list (x : H8) : x.arr = u32A 8 x.list := rfl
def iH : H8 := ⟨1779033703, 3144134277, 1013904242, 2773480762, 1359893119, 2600822924, 528734635, 1541459225⟩
theorem iH_ok : iH.Ok := by constructor <;> decide
theorem kL_b : ∀ t, 0 ≤ at_ kL t ∧ at_ kL t < 4294967296 := fun t => by
 unfold at_
 rw [List.getD_eq_getElem?_getD]
 cases h : kL[t]? with
 | none => simp
 | some x =>
  have hm : x ∈ kL := List.mem_of_getElem? h
  have key : ∀ x ∈ kL, 0 ≤ x ∧ x < 4294967296 := by decide
  exact key x hm
theorem H8.ok_b {x : H8} (h : x.Ok) : ∀ t, 0 ≤ at_ x.list t ∧ at_ x.list t < 4294967296 := fun t => by
 unfold at_
 rw [List.getD_eq_getElem?_getD]
 cases e : x.list[t]? with
 | none => simp
 | some y =>
  have hm : y ∈ x.list := List.mem_of_getElem? e
  unfold H8.list at hm
  simp only [List.mem_cons, List.not_mem_nil, or_false] at hm
  rcases hm with rfl | rfl | rfl | rfl | rfl | rfl | rfl | rfl
  · exact h.a
  · exact h.b
  · exact h.c
  · exact h.d
  · exact h.e
  · exact h.f
  · exact h.g
  · exact h.h
def and32 (a b : Int) : Int := bits .and .u32 a b
def not32 (a : Int) : Int := bits .xor .u32 (if IntKind.u32.signed = true then -1 else IntKind.u32.max) a
theorem add_m (a b : Int) : add32 a b = (a + b) % 4294967296 := by
 unfold add32
 rw [IntKind.wrap_u32]
theorem add_q (p a b : Int) : add32 p (add32 a b) = (p + (a + b)) % 4294967296 := by
 rw [add_m, add_m]
 omega
def cP (k w : Int) (x : H8) : Int := add32 (add32 (add32 (add32 x.h (xor32 (xor32 (rotr x.e 6) (rotr x.e 11)) (rotr x.e 25))) (xor32 (and32 x.e x.f) (and32 (not32 x.e) x.g))) k) w
def cQ (x : H8) : Int := add32 (xor32 (xor32 (rotr x.a 2) (rotr x.a 13)) (rotr x.a 22)) (xor32 (xor32 (and32 x.a x.b) (and32 x.a x.c)) (and32 x.b x.c))
def cR (k w : Int) (x : H8) : H8 := ⟨add32 (cP k w x) (cQ x), x.a, x.b, x.c, add32 x.d (cP k w x), x.e, x.f, x.g⟩
def rnds (K : Nat → Int) (W : List Int) (S : H8) : Nat → H8
 | 0 => S
 | t + 1 => cR (K t) (at_ W t) (rnds K W S t)
theorem cR_ok {k w : Int} {x : H8} (h : x.Ok) : (cR k w x).Ok := ⟨add32_b _ _, h.a, h.b, h.c, add32_b _ _, h.e, h.f, h.g⟩
theorem rnds_ok {K : Nat → Int} {W : List Int} {S : H8} (h : S.Ok) : ∀ t, (rnds K W S t).Ok
 | 0 => h
 | t + 1 => cR_ok (rnds_ok h t)
def H8.add (x y : H8) : H8 := ⟨add32 x.a y.a, add32 x.b y.b, add32 x.c y.c, add32 x.d y.d, add32 x.e y.e, add32 x.f y.f, add32 x.g y.g, add32 x.h y.h⟩
theorem H8.add_ok (x y : H8) : (x.add y).Ok := ⟨add32_b _ _, add32_b _ _, add32_b _ _, add32_b _ _, add32_b _ _, add32_b _ _, add32_b _ _, add32_b _ _⟩
def addTo (R S : List Int) (i : Nat) : List Int := (List.range 8).map fun j => if j < i then add32 (at_ R j) (at_ S j) else at_ R j
theorem addTo_8 (x y : H8) : u32A 8 (addTo x.list y.list 8) = (x.add y).arr := rfl
theorem addTo_len (R S : List Int) (i : Nat) : (addTo R S i).length = 8 := by simp [addTo]
theorem addTo_at {R S : List Int} {i : Nat} (h : i < 8) : at_ (addTo R S i) i = at_ R i := by
 rcases (by omega : i = 0 ∨ i = 1 ∨ i = 2 ∨ i = 3 ∨ i = 4 ∨ i = 5 ∨ i = 6 ∨ i = 7) with rfl | rfl | rfl | rfl | rfl | rfl | rfl | rfl <;> rfl
theorem addTo_set {R S : List Int} {i : Nat} (h : i < 8) : (u32A 8 (addTo R S i)).setIfInBounds i (.int .u32 (add32 (at_ R i) (at_ S i))) = u32A 8 (addTo R S (i + 1)) := by
 rcases (by omega : i = 0 ∨ i = 1 ∨ i = 2 ∨ i = 3 ∨ i = 4 ∨ i = 5 ∨ i = 6 ∨ i = 7) with rfl | rfl | rfl | rfl | rfl | rfl | rfl | rfl <;> rfl
def compr (S : H8) (s : List Int) : H8 := (rnds (fun t => at_ kL t) (sprd s 64) S 64).add S
theorem compr_ok (S : H8) (s : List Int) : (compr S s).Ok := H8.add_ok _ _
def padL (b : List Int) : List Int := b ++ [128] ++ List.replicate ((119 - b.length % 64) % 64) 0 ++ beL 8 (8 * b.length)
def comprN (p : List Int) : Nat → H8
 | 0 => iH
 | k + 1 => compr (comprN p k) ((p.drop (64 * k)).take 64)
theorem comprN_ok (p : List Int) : ∀ k, (comprN p k).Ok
 | 0 => iH_ok
 | _ + 1 => compr_ok _ _
def hsh (b : List Int) : List Int := (comprN (padL b) ((padL b).length / 64)).list.flatMap fun x => beL 4 x.toNat
theorem padL_len (b : List Int) : (padL b).length % 64 = 0 := by
 simp only [padL, List.length_append, List.length_replicate, beL_len, List.length_cons, List.length_nil]
 omega
theorem padL_byt {b : List Int} (h : Byt b) : Byt (padL b) := by
 intro x hx
 unfold padL at hx
 simp only [List.mem_append, List.mem_cons, List.not_mem_nil, or_false] at hx
 rcases hx with ((hx | rfl) | hx) | hx
 · exact h x hx
 · omega
 · have := List.eq_of_mem_replicate hx
   omega
 · exact beL_byt _ _ x hx
theorem hsh_len (b : List Int) : (hsh b).length = 32 := rfl
theorem hsh_byt (b : List Int) : Byt (hsh b) := by
 intro x hx
 unfold hsh at hx
 obtain ⟨y, -, hy⟩ := List.mem_flatMap.1 hx
 exact beL_byt _ _ x hy
end Go.Proofs.YtfchcdbfalgdlaaGreatDoor
