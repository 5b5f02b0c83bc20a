/- Texts of one proof, one behind the other: Held, Row, LkA, ShL. No condition but each one's own. -/
import Derived.Test.YteeclfejgpgooaaDoorLogPlaysM6
import Derived.OrdersHeld
import Derived.Test.YteeclfejgpgooaaDoorLogPlaysM9
import Derived.Deep.WholeRow
import Derived.Deep.MidRow
import Derived.Test.YteeclfejgpgooaaDoorLogPlaysM23
import Derived.Test.YteeclfejgpgooaaDoorLogPlaysM12
import Derived.Test.YteeclfejgpgooaaDoorRows
import Derived.Test.YteeclfejgpgooaaDoorLogPlaysM8
import Derived.SevenTiedAt
import Derived.Stop.Joined
/- Regions that draw their order, walked by scripts of one's own (paths.py, mode H): the steps of the kit's laws on what is held, and a made slice as a step. No condition. -/
namespace Go.Proofs.YteeclfejgpgooaaDoor
set_option linter.unusedVariables false
set_option linter.unusedSimpArgs false
set_option linter.constructorNameAsVariable false
open Go.RowKit

section
variable {P : Program} {md : Region.Mode} {ops : Array Oper} {Q : Exit → Act → World → Prop} {S : World → Prop}
def AllH (P : Program) (md : Region.Mode) (ops : Array Oper) (Q : Exit → Act → World → Prop) (S : World → Prop) (fuel : Nat) (listed : Array Bool) (a : Act) (w : World) (rs : List Nat) : Prop :=
  ∀ i ∈ rs, wpOp P ops Q i (fun a' w' => S w' ∧ wpAnyH P md ops Q S fuel (listed.setIfInBounds i true) a' w') a w
theorem AllH.nil {fuel : Nat} {listed : Array Bool} {a : Act} {w : World} : AllH P md ops Q S fuel listed a w [] := fun i hi => by cases hi
theorem AllH.cons {fuel : Nat} {listed : Array Bool} {a : Act} {w : World} {i : Nat} {o : Oper} {rs : List Nat} (ho : ops[i]? = some o)
    (h : ∀ K' : Act → World → Prop, Hid (∀ a w, S w → wpAnyH P md ops Q S fuel (listed.setIfInBounds i true) a w → K' a w) → if Region.wanted o (yielded ops a.tmps) = true then Oper.wp P o a w K' Q else K' (a.put o.dst undef) w)
    (hs : AllH P md ops Q S fuel listed a w rs) : AllH P md ops Q S fuel listed a w (i :: rs) := fun j hj => by
  rcases List.mem_cons.1 hj with rfl | hj
  · have := h (fun a' w' => S w' ∧ wpAnyH P md ops Q S fuel (listed.setIfInBounds j true) a' w') (Lib.hid fun a' w' h1 h2 => ⟨h1, h2⟩)
    unfold wpOp
    rw [ho]
    simp only
    split
    · next hw => rw [if_pos hw] at this; exact .inl this
    · next hw => rw [if_neg hw] at this; exact this
  · exact hs j hj
theorem wpAnyH_ready {rs : List Nat} {fuel : Nat} {listed : Array Bool} {a : Act} {w : World} (hr : Region.ready md ops listed = rs) (hne : rs ≠ []) (h : AllH P md ops Q S fuel listed a w rs) : wpAnyH P md ops Q S (fuel + 1) listed a w :=
  wpAnyH_all hr hne h
theorem wp_region_H {id : Nat} {a : Act} {w : World} (S : World → Prop) (hm : P.follows .mixedOrders = true)
    (h : wpAnyH P .any ops Q S ops.size (Array.replicate ops.size false) a w.drew) : (Code.region id ops true).wp P Q a w :=
  wp_region_held hm h
end
section
variable {P : Program} {ops : Array Oper} {o : Oper} {a : Act} {w : World} {Q : Exit → Act → World → Prop} {K : Act → World → Prop} {F : Prop}
theorem step_bs1 {t e : TypeId} {size bytes : Nat} (E : ElemOf P t e size bytes) (hs : size ≤ 16777216) (hw : Region.wanted o (yielded ops a.tmps) = true) (x : Operand)
    (ho : o.op = .buildSlice t 1 #[(0, x)]) (cs : Array Value) (hx : a.eval x = .agg cs) (hc : cs.size = size)
    (h : ∀ g w', Blk w' g e cs → New w w' → w.heap.size ≤ g → K (a.put o.dst (.slice (some ⟨g, 0, none⟩) 1 1)) w') : if Region.wanted o (yielded ops a.tmps) = true then Oper.wp P o a w K Q else F := by
  rw [if_pos hw]
  unfold Oper.wp execOp
  simp only [ho, Sem.run_bind, List.map_toArray, List.map_cons, List.map_nil, hx, run_bs1 E hs (.agg cs) hc w, Result.andThen_ok]
  exact h _ _ (Blk.new _ _ _) (New.al (New.refl _) _) (Nat.le_refl _)
theorem run_bs0 {P : Program} {t e : TypeId} {size bytes : Nat} (E : ElemOf P t e size bytes) (w : World) :
    (Instr.buildSlice t 0 #[]).run P w = .ok (.slice (some ⟨w.heap.size, 0, none⟩) 0 0) (w.alloc (.cells #[] e)) := by
  obtain ⟨i, z, hi, hz, hsize, -, hzs⟩ := E.info
  have h0 : ∀ f : Nat → Value, Array.map f (Array.range 0) = #[] := fun f => Array.eq_empty_of_size_eq_zero (by simp)
  simp [Instr.buildSlice, run_underlying E.ht, sizeOf, typeInfo, hi, newRow, Instr.fill, h0]
theorem step_bs0 {t e : TypeId} {size bytes : Nat} (E : ElemOf P t e size bytes) (hw : Region.wanted o (yielded ops a.tmps) = true)
    (ho : o.op = .buildSlice t 0 #[])
    (h : ∀ g w', Blk w' g e #[] → New w w' → w.heap.size ≤ g → K (a.put o.dst (.slice (some ⟨g, 0, none⟩) 0 0)) w') : if Region.wanted o (yielded ops a.tmps) = true then Oper.wp P o a w K Q else F := by
  rw [if_pos hw]
  unfold Oper.wp execOp
  simp only [ho, Sem.run_bind, List.map_toArray, List.map_nil, run_bs0 E w, Result.andThen_ok]
  exact h _ _ (Blk.new _ _ _) (New.al (New.refl _) _) (Nat.le_refl _)
end
end Go.Proofs.YteeclfejgpgooaaDoor
/- Structs as whole rows: read, stored, out of blocks that are known whole or out of slices; so that nothing of their cells is reckoned by the kernel. No condition. -/
namespace Go.Proofs.YteeclfejgpgooaaDoor
set_option linter.unusedVariables false
set_option linter.unusedSimpArgs false
set_option linter.constructorNameAsVariable false
open Go.RowKit

/-- Type T is a struct or an array of so many cells. -/
structure RowOf (P : Program) (T : TypeId) (size : Nat) : Prop where
  u : ∃ d, P.underlying T = some d ∧ d.isRow = true
  i : (P.info? T).map (·.size) = some size
theorem RowOf.mk' {P : Program} {T : TypeId} {size : Nat} {d : TypeDesc} (h : P.underlying T = some d) (hd : d.isRow = true) (hi : (P.info? T).map (·.size) = some size) : RowOf P T size := ⟨⟨d, h, hd⟩, hi⟩

theorem row_want {P : Program} {ops : Array Oper} {rest : List Oper} {o : Oper} {a : Act} {w : World} {Q : Exit → Act → World → Prop} (hw : Region.wanted o (yielded ops a.tmps) = true) (h : ∀ K : Act → World → Prop, (∀ a w, wpList P ops Q rest a w → K a w) → o.wp P a w K Q) : wpList P ops Q (o :: rest) a w :=
  wpList_step fun K hK => by rw [if_pos hw]; exact h K hK
theorem row_set {w : World} {g : Nat} {T : TypeId} {cs cs' : Array Value} (hb : Blk w g T cs) : Blk (w.setRow g cs') g T cs' ∧ Fr (fun k => k = g) w (w.setRow g cs') :=
  ⟨setRow_heap w g cs cs' T (0, 0) hb, ⟨rfl, rfl, rfl, by simp, fun k _ hk => setRow_other w g k cs' hk⟩⟩

section
variable {P : Program} {T : TypeId} {size : Nat} {ops : Array Oper} {rest : List Oper} {o o2 : Oper} {a : Act} {w : World} {Q : Exit → Act → World → Prop} {K : Act → World → Prop} {F : Prop}
theorem wp_row_load (R : RowOf P T size) (x : Operand) (ho : o.op = .load T x) {g : Nat} {cs : Array Value} (hx : a.eval x = .pointer (some ⟨g, 0, none⟩)) (hb : Blk w g T cs) (hc : cs.size = size)
    (h : K (a.put o.dst (.agg cs)) w) : o.wp P a w K Q := by
  obtain ⟨⟨d, hu, hd⟩, hi⟩ := R
  exact wp_load_row T x ho g hx T cs (0, 0) d hb hu (by cases d <;> first | rfl | (simp [TypeDesc.isRow] at hd)) (by rw [hi, hc]) h
theorem row_load (R : RowOf P T size) (hw : Region.wanted o (yielded ops a.tmps) = true) (x : Operand) (ho : o.op = .load T x) {g : Nat} {cs : Array Value} (hx : a.eval x = .pointer (some ⟨g, 0, none⟩)) (hb : Blk w g T cs) (hc : cs.size = size)
    (h : wpList P ops Q rest (a.put o.dst (.agg cs)) w) : wpList P ops Q (o :: rest) a w :=
  row_want hw fun _ hK => wp_row_load R x ho hx hb hc (hK _ _ h)
theorem row_load_at (R : RowOf P T size) (hw : Region.wanted o (yielded ops a.tmps) = true) (x : Operand) (ho : o.op = .load T x) {b off : Nat} {cs : List Value} (hx : a.eval x = .pointer (some ⟨b, off, none⟩)) (hr : w.rangeAt b off cs) (hc : cs.length = size)
    (h : wpList P ops Q rest (a.put o.dst (.agg cs.toArray)) w) : wpList P ops Q (o :: rest) a w := by
  obtain ⟨⟨d, hu, hd⟩, hi⟩ := R
  exact row_want hw fun _ hK => wp_load_mid T x ho b off hx cs d hr hu hd (by rw [hi, hc]) (hK _ _ h)
theorem wp_row_store (R : RowOf P T size) (x y : Operand) (ho : o.op = .store T x y) {g : Nat} {cs0 cs : Array Value} (hx : a.eval x = .pointer (some ⟨g, 0, none⟩)) (hy : a.eval y = .agg cs) (hb : Blk w g T cs0) (h0 : cs0.size = size) (hc : cs.size = size) (h1 : cs.all (·.oneCell') = true)
    (h : ∀ w', Blk w' g T cs → Fr (fun k => k = g) w w' → K (a.put o.dst undef) w') : o.wp P a w K Q := by
  obtain ⟨r1, r2⟩ := row_set (cs' := cs) hb
  unfold Oper.wp execOp
  simp only [ho, hx, hy, Instr.storeAt, Instr.sureAddr, Sem.run_bind, Sem.run_pure, Result.andThen_ok, run_storeVar_row w g T T cs0 cs hb (by rw [R.i, hc]) (by omega) h1]
  exact h _ r1 r2
theorem row_store (R : RowOf P T size) (hw : Region.wanted o (yielded ops a.tmps) = true) (x y : Operand) (ho : o.op = .store T x y) {g : Nat} {cs0 cs : Array Value} (hx : a.eval x = .pointer (some ⟨g, 0, none⟩)) (hy : a.eval y = .agg cs) (hb : Blk w g T cs0) (h0 : cs0.size = size) (hc : cs.size = size) (h1 : cs.all (·.oneCell') = true)
    (h : ∀ w', Blk w' g T cs → Fr (fun k => k = g) w w' → wpList P ops Q rest (a.put o.dst undef) w') : wpList P ops Q (o :: rest) a w :=
  row_want hw fun _ hK => wp_row_store R x y ho hx hy hb h0 hc h1 fun w' r1 r2 => hK _ _ (h w' r1 r2)
theorem step_row_store (R : RowOf P T size) (hw : Region.wanted o (yielded ops a.tmps) = true) (x y : Operand) (ho : o.op = .store T x y) {g : Nat} {cs0 cs : Array Value} (hx : a.eval x = .pointer (some ⟨g, 0, none⟩)) (hy : a.eval y = .agg cs) (hb : Blk w g T cs0) (h0 : cs0.size = size) (hc : cs.size = size) (h1 : cs.all (·.oneCell') = true)
    (h : ∀ w', Blk w' g T cs → Fr (fun k => k = g) w w' → K (a.put o.dst undef) w') : if Region.wanted o (yielded ops a.tmps) = true then Oper.wp P o a w K Q else F := by
  rw [if_pos hw]
  exact wp_row_store R x y ho hx hy hb h0 hc h1 h
/-- In a region that draws: a variable is made. -/
theorem step_row_alloc {T : TypeId} {n : Nat} {Z : Value} (hw : Region.wanted o (yielded ops a.tmps) = true) (ho : o.op = .alloc T) (hZ : (P.info? T).map (fun i => (i.zero, i.size)) = some (some Z, n))
    (h : ∀ g w', Blk w' g T Z.cells → New w w' → w.heap.size ≤ g → K (a.put o.dst (.pointer (some ⟨g, 0, none⟩))) w') : if Region.wanted o (yielded ops a.tmps) = true then Oper.wp P o a w K Q else F := by
  rw [if_pos hw]
  obtain ⟨z1, z2⟩ := zero_of_info hZ
  have hal : (Instr.alloc T true (.tuple #[])).run P w = .ok (.pointer (some ⟨w.heap.size, 0, none⟩)) (w.alloc (.cells Z.cells T)) := by
    unfold Instr.alloc
    simp [Sem.run_bind, z1 w, newVar, newRow, go_sem, Result.andThen]
  unfold Oper.wp
  simp only [execOp, ho, hal, Result.andThen_ok, Sem.run_bind, Sem.run_pure]
  exact h _ _ (Blk.new _ _ _) (New.al (New.refl _) _) (Nat.le_refl _)
/-- In a region that draws: a whole row may be read first. -/
theorem yields_row {S : World → Prop} (R : RowOf P T size) (hw : Region.wanted o (yielded ops a.tmps) = true) (x : Operand) (ho : o.op = .load T x) {b off : Nat} {cs : List Value} (hx : a.eval x = .pointer (some ⟨b, off, none⟩)) (hr : ∀ w, S w → w.rangeAt b off cs) (hc : cs.length = size) : YieldsIf P ops S o (.agg cs.toArray) a := by
  obtain ⟨⟨d, hu, hd⟩, hi⟩ := R
  exact yieldsIf_load_mid hw T x ho b off hx cs d hr hu hd (by rw [hi, hc])
end

theorem Blk.rangeW {w : World} {g : Nat} {t : TypeId} {cs : Array Value} (h : Blk w g t cs) : w.rangeAt g 0 cs.toList := fun j v hv => by
  rw [Nat.zero_add, h.cell j]
  simpa using hv
theorem New.range {w w' : World} {b o : Nat} {cs : List Value} (h : New w w') (hr : w.rangeAt b o cs) : w'.rangeAt b o cs := fun j v hv => h.cell_ (hr j v hv)
/-- An element of a slice of rows. -/
theorem rd_row {α : Type} {p : Nat → Prop} {w : World} {A : Option Addr} {n size : Nat} {f : α → List Value} {L : List α} (hf : ∀ x, (f x).length = size) (hs : 0 < size) (h : Rd p w size A n (L.flatMap f)) {i : Nat} (hi : i < n) :
    ∃ (g o : Nat) (hl : i < L.length), A = some ⟨g, o, none⟩ ∧ p g ∧ g < w.heap.size ∧ w.rangeAt g (o + i * size) (f L[i]) := by
  obtain ⟨g, o, hA, hp, hg, hc⟩ := h.out (by omega) hs
  have hlen : (L.flatMap f).length = L.length * size := by
    clear hc h
    induction L with
    | nil => simp
    | cons x L ih => simp [hf x, ih]; rw [Nat.succ_mul, Nat.add_comm]
  have hl : i < L.length := by
    have h1 := h.1
    rw [hlen] at h1
    have := Nat.eq_of_mul_eq_mul_right hs h1
    omega
  refine ⟨g, o, hl, hA, hp, hg, fun j v hv => ?_⟩
  have hj : j < size := by rw [← hf L[i]]; exact (List.getElem?_eq_some_iff.1 hv).1
  rw [Nat.add_assoc]
  exact hc (i * size + j) v (by rw [fm_get f size L i j hl (fun x _ => hf x) hj]; exact hv)
end Go.Proofs.YteeclfejgpgooaaDoor
/- The acts of the log's statements: in memory, opened; what long says of them. No condition. -/
namespace Go.Proofs.YteeclfejgpgooaaDoor
set_option linter.unusedVariables false
set_option linter.unusedSimpArgs false
set_option linter.constructorNameAsVariable false
open Go.RowKit Go.Maps Go.WideShapes Go.ChangeShapes

/-- An act. -/
structure AK where
  kind : Int
  num : Int
  A : Option Addr
  n : Nat
  c : Nat
  xs : List Int
  A2 : Option Addr
  n2 : Nat
  c2 : Nat
  keep : List Bool
def AK.cells (a : AK) : List Value := [.int .i64 a.kind, .int .i64 a.num, .slice a.A a.n a.c, .slice a.A2 a.n2 a.c2]
structure AK.Good (w : World) (a : AK) : Prop where
  kind : (Lit.int .i64 a.kind).wf = true
  num : (Lit.int .i64 a.num).wf = true
  rd : Rd (fun b => b < w.heap.size) w 1 a.A a.n (u8s a.xs)
  byt : Byt a.xs
  nn : a.n ≤ 140737488355328
  n2 : a.n2 ≤ maxLen
  rd2 : Rd (fun b => b < w.heap.size) w 1 a.A2 a.n2 (bools a.keep)
section
variable {H : Type} {enc : TypeId × Value → H} {w : World}
set_option maxRecDepth 100000 in
theorem trod_ak {m : Nat} {cs : List Value} {y : DataW H × List MemPlace} (hl : cs.length = 4) (ht : DataW.trod enc Tryd.prog w 0 (fun _ => true) true m 73 cs = some y) (hz : Sz Tryd.prog 73 y.1) :
    ∃ a : AK, a.cells = cs ∧ a.Good w := by
  match cs, hl with
  | [c0, c1, c2, c3], _ =>
    obtain ⟨_, _, t0, _⟩ := field_s (j := 0) Tryd.underlying73 ht hz rfl (by kernel_rfl) (by simp)
    obtain ⟨_, _, t1, _⟩ := field_s (j := 1) Tryd.underlying73 ht hz rfl (by kernel_rfl) (by simp)
    obtain ⟨_, _, t2, z2⟩ := field_s (j := 2) Tryd.underlying73 ht hz rfl (by kernel_rfl) (by simp)
    obtain ⟨_, _, t3, z3⟩ := field_s (j := 3) Tryd.underlying73 ht hz rfl (by kernel_rfl) (by simp)
    obtain ⟨a0, e0, _, g0⟩ := DataW.trod_int Tryd.underlying3 t0
    obtain ⟨a1, e1, _, g1⟩ := DataW.trod_int Tryd.underlying3 t1
    obtain ⟨A, n, c, xs, e2, h2, h3, h4, h5, h6, h7⟩ := trod_ints (k := .u8) Tryd.underlying43 Tryd.underlying5 (by kernel_rfl) t2 z2
    obtain ⟨A2, n2, cc2, keep, e3, hn2, hrd⟩ := trod_bools t3 z3
    simp at e0 e1 e2 e3
    subst e0 e1 e2 e3
    refine ⟨⟨a0, a1, A, n, c, xs, A2, n2, cc2, keep⟩, rfl, g0, g1, h6, fun x hx => ?_, ?_, hn2, hrd⟩
    · have := bounds_u8 (h7 x hx)
      omega
    · have hb : Tryd.prog.bytesOf 5 = 1 := by kernel_rfl
      rw [hb] at h4
      unfold reachBytes at h4
      show n ≤ _
      omega
set_option maxRecDepth 100000 in
theorem open_aks {r : Reach} {b0 : Nat} {v : Value} {d : DataW H} {p : List MemPlace} (hv : Value.okWide Tryd.prog w r b0 68 v) (h : DataW.Trod enc Tryd.prog w 0 (fun _ => true) true 68 v d p) (hz : Sz Tryd.prog 68 d) :
    ∃ (A : Option Addr) (n c : Nat) (L : List AK), v = .slice A n c ∧ n ≤ maxLen ∧ L.length = n ∧ Rd (fun b => b < w.heap.size) w 4 A n (L.flatMap AK.cells) ∧ ∀ a ∈ L, a.Good w := by
  obtain ⟨a0, n0, c0, rfl⟩ := okWide_slice Tryd.underlying68 hv
  obtain ⟨fuel, hf⟩ := h
  obtain ⟨A, n, c, L, h1, h2, h3, h4, h5, h6, h7, -⟩ := trod_slk (k := 4) Tryd.underlying68 AK.cells (by kernel_rfl) (by omega) (fun a => a.Good w) (fun cs m y hl ht hz => trod_ak hl ht hz) hf hz
  exact ⟨A, n, c, L, h1, by omega, h5, h6, h7⟩
end
def LongSays (n : Nat) (e : Ending) : Prop := ∃ b, e = .returned (.bool b) ∧ (b = false → n ≤ 30)
set_option maxHeartbeats 2000000 in
theorem long_law {p : Nat → Prop} (A : Option Addr) (n c : Nat) (L : List AK) (w : World) (h : Rd p w 4 A n (L.flatMap AK.cells)) (hL : L.length = n) (hn : n ≤ maxLen) (hb : ∀ a ∈ L, a.n ≤ 140737488355328) :
    Calls Tryd.prog 29 #[.slice A n c] w fun e w' => LongSays n e ∧ New w w' := by
  have HR := Lib.hid h
  have HL := Lib.hid hL
  have HB := Lib.hid hb
  unfold maxLen at hn
  clear h hL hb
  go_enter Tryd.func29, Tryd.ntmps29
  go_wp2_with fail
  go_loopw [3, 8] (fun s i wr => ∃ (j : Nat) (t : Int), j ≤ n ∧ i = .int .i64 j ∧ s = .int .i64 t ∧ Hid (New w wr)) (fun s i _ => n - (intOf i).toNat)
  case atStart => exact ⟨0, 0, Nat.zero_le _, rfl, rfl, Lib.hid (New.refl w)⟩
  case round =>
    obtain ⟨j, t, hj, rfl, rfl, HN⟩ := hrel
    by_cases hlt : j < n
    · obtain ⟨g, o, hl, rfl, -, -, hrg⟩ := rd_row (f := AK.cells) (L := L) (fun _ => rfl) (by omega) (HN.out.rd HR.out) hlt
      have c0 : wr.cell? ⟨g, o + j * 4, none⟩ = some (.int .i64 L[j].kind) := hrg 0 _ rfl
      have c1 := hrg 1 _ rfl
      have c2 := hrg 2 _ rfl
      have c3 := hrg 3 _ rfl
      have HN1 := fun (o : Obj) => Lib.hid (New.al HN.out o)
      generalize L[j] = a at c0 c1 c2 c3
      obtain ⟨kd, nm, xA, xn, xc, xs, yA, yn, yc, ys⟩ := a
      dsimp only at c0 c1 c2 c3
      have hj0 : (0 : Int) ≤ (j : Int) := by omega
      have hjn : (j : Int) < (n : Int) := by omega
      clear hrg hl
      go_wp2_with fail
      go_roundw
      case rel => exact ⟨j + 1, _, by omega, by go_num, rfl, HN1 _⟩
      case measure => simp [intOf]; omega
    · obtain rfl : j = n := by omega
      by_cases h30 : 30 < j
      · have hq : decide ((30 : Int) < (j : Int)) = true := decide_eq_true (by omega)
        have hq2 : (30 : Int) < (j : Int) := by omega
        go_wp2_with fail
        go_ret
        exact ⟨⟨true, rfl, fun h => by cases h⟩, HN.out⟩
      · have hq : decide ((30 : Int) < (j : Int)) = false := decide_eq_false (by omega)
        have hq2 : ¬ (30 : Int) < (j : Int) := by omega
        go_wp2_with fail
        go_ret
        exact ⟨⟨_, rfl, fun _ => by omega⟩, HN.out⟩
end Go.Proofs.YteeclfejgpgooaaDoor
/- sha's tables, out of the row's list of laid variables. No condition. -/
namespace Go.Proofs.YteeclfejgpgooaaDoor
set_option linter.unusedVariables false
set_option linter.unusedSimpArgs false
set_option linter.constructorNameAsVariable false
open Go.RowKit Go.Sort Go.ChangeShapes Go.WideShapes Go.ChangeAt

theorem laid_u32 {W : World} {n : String} {d : DataW Unit} {r : List (String × DataW Unit)} {ps : List MemPlace} {g t N : Nat} (L : List Int) (h : DataW.LaidVars Tryd.prog W ((n, d) :: r) ps) (hg : Tryd.prog.globalNamed n = some g) (ht : (Tryd.prog.globals[g]?).map (·.type) = some t) (hu : Tryd.prog.underlying t = some (.array N 23)) (hd : d = .agg (L.map fun x => .lit (.int .u32 x))) (hl : L.length = N) :
    (∀ j, j < N → W.cell? ⟨g, j, none⟩ = some (.int .u32 (at_ L j))) ∧ ∃ ps', DataW.LaidVars Tryd.prog W r ps' := by
  obtain ⟨g', t', cs, fuel, p, q, hg', ht', hv, hd', hr, _⟩ := h
  obtain rfl := Option.some.inj (hg.symm.trans hg')
  obtain rfl := Option.some.inj (ht.symm.trans ht')
  refine ⟨fun j hj => ?_, _, hr⟩
  obtain ⟨xs, m, _, ex, _, hxl, hel⟩ := DataW.trod_array hu hd'
  have c5 : Tryd.prog.cellsOf 23 = 1 := by kernel_rfl
  have hE := hel j hj
  rw [c5, Nat.mul_one, List.getElem?_eq_getElem (by omega)] at hE
  obtain ⟨z, e1, e2, _⟩ := DataW.trod_int Tryd.underlying23 hE
  have e3 : (xs.map (·.1)) = L.map fun n => .lit (.int .u32 n) := by
    have h0 := (Prod.mk.inj ex).1
    rw [hd] at h0
    exact (DataW.agg.inj h0).symm
  have e4 : (xs.map (·.1))[j]? = (L.map fun n => (DataW.lit (.int .u32 n) : DataW Unit))[j]? := by rw [e3]
  rw [List.getElem?_map, List.getElem?_map, List.getElem?_eq_getElem (by omega : j < xs.length), List.getElem?_eq_getElem (by omega : j < L.length), e2] at e4
  have hz : z = at_ L j := by
    simp only [Option.map_some, Option.some.injEq, DataW.lit.injEq, Lit.int.injEq, true_and] at e4
    unfold at_
    rw [e4, List.getD, List.getElem?_eq_getElem (by omega : j < L.length)]
    rfl
  rw [World.var?_cell hg hv j, ← hz]
  have : cs.toList[j]? = some (.int .u32 z) := by
    have h0 : ((cs.toList.drop j).take 1)[0]? = some (.int .u32 z) := by rw [e1]; rfl
    simpa using h0
  simpa using this
theorem range_iH {W : World} {g : Nat} (h : ∀ j, j < 8 → W.cell? ⟨g, j, none⟩ = some (.int .u32 (at_ iH.list j))) : W.rangeAt g 0 iH.arr.toList := fun j v hv => by
  have hj : j < 8 := by
    have := (List.getElem?_eq_some_iff.1 hv).1
    exact this
  rw [Nat.zero_add, h j hj, ← hv]
  rcases (by omega : j = 0 ∨ j = 1 ∨ j = 2 ∨ j = 3 ∨ j = 4 ∨ j = 5 ∨ j = 6 ∨ j = 7) with rfl | rfl | rfl | rfl | rfl | rfl | rfl | rfl <;> rfl
theorem sha_both {W : World} (h : laidMetH Tryd.prog [("entrust/entrustref02.Constants", Rows.laid_entrust_entrustref02_Constants), ("entrust/entrustref02.Initials", Rows.laid_entrust_entrustref02_Initials), ("entrust/sha.constants", Rows.laid_entrust_sha_constants), ("entrust/sha.initials", Rows.laid_entrust_sha_initials)] W) : RShaIn 1 0 W ∧ ShaIn 3 2 W := by
  rw [MakeChecks.laidMetH_plain _ _ _ (by kernel_rfl)] at h
  obtain ⟨ps, h, -, -⟩ := h
  obtain ⟨h1, ps1, h⟩ := laid_u32 kL h (by kernel_rfl) (by kernel_rfl) Tryd.underlying139 rfl rfl
  obtain ⟨h2, ps2, h⟩ := laid_u32 iH.list h (by kernel_rfl) (by kernel_rfl) Tryd.underlying134 rfl rfl
  obtain ⟨h3, ps3, h⟩ := laid_u32 kL h (by kernel_rfl) (by kernel_rfl) Tryd.underlying139 rfl rfl
  obtain ⟨h4, ps4, h⟩ := laid_u32 iH.list h (by kernel_rfl) (by kernel_rfl) Tryd.underlying134 rfl rfl
  exact ⟨⟨h1, range_iH h2⟩, ⟨h3, range_iH h4⟩⟩
theorem sha_live {W : World} (h : laidMetH Tryd.prog [("entrust/sha.constants", Rows.laid_entrust_sha_constants), ("entrust/sha.initials", Rows.laid_entrust_sha_initials)] W) : ShaIn 3 2 W := by
  rw [MakeChecks.laidMetH_plain _ _ _ (by kernel_rfl)] at h
  obtain ⟨ps, h, -, -⟩ := h
  obtain ⟨h3, ps3, h⟩ := laid_u32 kL h (by kernel_rfl) (by kernel_rfl) Tryd.underlying139 rfl rfl
  obtain ⟨h4, ps4, h⟩ := laid_u32 iH.list h (by kernel_rfl) (by kernel_rfl) Tryd.underlying134 rfl rfl
  exact ⟨h3, range_iH h4⟩
end Go.Proofs.YteeclfejgpgooaaDoor
