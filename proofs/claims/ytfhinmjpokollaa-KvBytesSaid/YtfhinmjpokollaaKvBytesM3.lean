/- Texts of one proof, one behind the other: Open, Row, Qb, KvP. No condition but each one's own. -/
import Derived.Test.YtfhinmjpokollaaKvBytesM1
import Derived.Deep.Slices
import Derived.Deep.Fields
import Derived.OpenShut
import Derived.Test.YtfhinmjpokollaaKvBytesM2
import Derived.Deep.WholeRow
import Derived.Deep.MidRow
import Derived.Lib.QuietBelowIn
import Derived.Sort.QuietTacIn
import Derived.RangeFuncCalls
import Derived.StringKeys
/- Arguments opened: a slice of elements of whatever type comes as a list of them, its cells laid end to end. No condition. -/
namespace Go.Proofs.Ytfhinmjpokollaa
set_option linter.unusedVariables false
set_option linter.unusedSimpArgs false
set_option linter.constructorNameAsVariable false
open Go.RowKit Go.ChangeShapes Go.WideShapes Go.Deep

theorem fm_len {α : Type} (f : α → List Value) (k : Nat) : ∀ L : List α, (∀ x ∈ L, (f x).length = k) → (L.flatMap f).length = L.length * k
  | [], _ => by simp
  | x :: L, h => by
    rw [List.flatMap_cons, List.length_append, h x (by simp), fm_len f k L (fun y hy => h y (by simp [hy])), List.length_cons, Nat.succ_mul]; omega
theorem fm_get {α : Type} (f : α → List Value) (k : Nat) : ∀ (L : List α) (i j : Nat) (hi : i < L.length), (∀ x ∈ L, (f x).length = k) → j < k → (L.flatMap f)[i * k + j]? = (f L[i])[j]?
  | [], i, j, hi, _, _ => by simp at hi
  | x :: L, 0, j, hi, h, hj => by
    rw [List.flatMap_cons, Nat.zero_mul, Nat.zero_add, List.getElem?_append_left (by rw [h x (by simp)]; exact hj)]; rfl
  | x :: L, i + 1, j, hi, h, hj => by
    have hx := h x (by simp)
    rw [List.flatMap_cons, List.getElem?_append_right (by rw [hx, Nat.succ_mul]; omega), hx]
    have : (i + 1) * k + j - k = i * k + j := by rw [Nat.succ_mul]; omega
    rw [this, fm_get f k L i j (by simpa using hi) (fun y hy => h y (by simp [hy])) hj]; rfl
theorem fm_out {α : Type} (f : α → List Value) (k : Nat) (hk : 0 < k) (L : List α) (h : ∀ x ∈ L, (f x).length = k) (q : Nat) (u : Value) (hu : (L.flatMap f)[q]? = some u) : ∃ (i j : Nat) (hi : i < L.length), j < k ∧ q = i * k + j ∧ (f L[i])[j]? = some u := by
  have hl := fm_len f k L h
  have hq : q < L.length * k := by rw [← hl]; exact (List.getElem?_eq_some_iff.1 hu).1
  have hd : q / k < L.length := Nat.div_lt_of_lt_mul (by rwa [Nat.mul_comm] at hq)
  have hm : q % k < k := Nat.mod_lt _ hk
  have he : q = q / k * k + q % k := by rw [Nat.mul_comm]; exact (Nat.div_add_mod q k).symm
  refine ⟨q / k, q % k, hd, hm, he, ?_⟩
  rw [← fm_get f k L (q / k) (q % k) hd h hm, ← he, hu]
theorem list_of {α : Type} {Q : Nat → α → Prop} : ∀ n, (∀ i, i < n → ∃ x, Q i x) → ∃ L : List α, L.length = n ∧ ∀ i (hi : i < L.length), Q i L[i]
  | 0, _ => ⟨[], rfl, fun i hi => by simp at hi⟩
  | n + 1, h => by
    obtain ⟨L, hl, hL⟩ := list_of n fun i hi => h i (by omega)
    obtain ⟨x, hx⟩ := h n (by omega)
    refine ⟨L ++ [x], by simp [hl], fun i hi => ?_⟩
    by_cases hin : i < L.length
    · rw [List.getElem_append_left hin]; exact hL i hin
    · have : i = n := by simp at hi; omega
      subst this
      rw [List.getElem_append_right (by omega)]
      simpa [hl] using hx

section
variable {H : Type} {enc : TypeId × Value → H} {P : Program} {w : World}
theorem open_slk {t e : TypeId} (ht : P.underlying t = some (.slice e)) {α : Type} (f : α → List Value) (k : Nat) (hk : P.cellsOf e = k) (hpos : 0 < k) (Good : α → Prop)
    (hel : ∀ (cs : List Value) (m : Nat) (y : DataW H × List MemPlace), cs.length = k → DataW.trod enc P w 0 (fun _ => true) true m e cs = some y → ∃ x : α, f x = cs ∧ Good x)
    {r : Reach} {b0 : Nat} {v : Value} {d : DataW H} {p : List MemPlace} (hv : Value.okWide P w r b0 t v) (h : DataW.Trod enc P w 0 (fun _ => true) true t v d p) :
    ∃ (A : Option Addr) (n c : Nat) (L : List α), v = .slice A n c ∧ n ≤ c ∧ c ≤ maxLen ∧ L.length = n ∧ Rd (fun b => b < w.heap.size) w k A n (L.flatMap f) ∧ (∀ x ∈ L, Good x) ∧ (∀ x ∈ L, (f x).length = k) := by
  obtain ⟨a0, n0, c0, rfl⟩ := okWide_slice ht hv
  obtain ⟨fuel, hf⟩ := h
  rcases open_slice ht hf with ⟨hcs, _⟩ | ⟨a, len, cap, m, n, D, Pl, hcs, _, hl, hm, hmm, _, hi⟩
  · simp [Value.cells] at hcs
    obtain ⟨rfl, rfl, rfl⟩ := hcs
    exact ⟨none, 0, 0, [], rfl, Nat.le_refl _, Nat.zero_le _, rfl, Rd.nil, by simp, by simp⟩
  · simp [Value.cells] at hcs
    obtain ⟨rfl, rfl, rfl⟩ := hcs
    simp at hmm
    subst hmm
    have key : ∀ i, i < n0 → ∃ x : α, Good x ∧ (f x).length = k ∧ ∀ j, j < k → w.cell? (a.add (i * k + j)) = (f x)[j]? := by
      intro i hin
      obtain ⟨cs', hc, htr⟩ := hi i (by omega)
      rw [hk] at hc
      obtain ⟨_, hcl, hat⟩ := World.cells?_some hc
      obtain ⟨x, hx, hg⟩ := hel cs' n (D i, Pl i) hcl htr
      refine ⟨x, hg, by rw [hx]; exact hcl, fun j hj => ?_⟩
      rw [hx, ← hat j hj, add_add']
    obtain ⟨L, hL, hQ⟩ := list_of n0 key
    have hlen : ∀ x ∈ L, (f x).length = k := fun x hx => by obtain ⟨i, hi, rfl⟩ := List.getElem_of_mem hx; exact (hQ i hi).2.1
    refine ⟨some a, n0, _, L, rfl, hl, hm, hL, ⟨by rw [fm_len f k L hlen, hL], fun hn => ⟨a, rfl, ?_, ?_, ?_⟩⟩, fun x hx => by obtain ⟨i, hi, rfl⟩ := List.getElem_of_mem hx; exact (hQ i hi).1, hlen⟩
    · have h0 := (hQ 0 (by omega)).2.2 0 hpos
      have hs : (f (L[0]'(by omega)))[0]? = some ((f (L[0]'(by omega)))[0]'(by rw [hlen _ (List.getElem_mem _)]; exact hpos)) := List.getElem?_eq_getElem _
      rw [hs] at h0
      have := World.block_lt_of_cell? w _ h0
      rwa [add_block] at this
    · have h0 := (hQ 0 (by omega)).2.2 0 hpos
      have hs : (f (L[0]'(by omega)))[0]? = some ((f (L[0]'(by omega)))[0]'(by rw [hlen _ (List.getElem_mem _)]; exact hpos)) := List.getElem?_eq_getElem _
      rw [hs] at h0
      have := World.block_lt_of_cell? w _ h0
      rwa [add_block] at this
    · intro q u hu
      obtain ⟨i, j, hil, hj, rfl, hu'⟩ := fm_out f k hpos L hlen q u hu
      rw [(hQ i hil).2.2 j hj, hu']

/-- A field of one cell, out of a struct's reading. -/
theorem field_at {ts : TypeId} {fs : Array Field} (hs : P.underlying ts = some (.struct fs)) {sp : Nat → Bool} {base : Nat} {held : Bool} {m : Nat} {cs : List Value} {y : DataW H × List MemPlace} (h : DataW.trod enc P w base sp held m ts cs = some y) {j : Nat} {fd : Field} (hf : fs[j]? = some fd) (hc : P.cellsOf fd.type = 1) (hlt : fd.offset < cs.length) :
    ∃ n z, DataW.trod enc P w base sp held n fd.type [cs[fd.offset]] = some z := by
  obtain ⟨xs, n, _, _, _, hlen, hg⟩ := DataW.trod_struct hs h
  have := hg j fd hf
  rw [hc, List.drop_eq_getElem_cons hlt] at this
  have hj : j < xs.length := by rw [hlen]; exact (Array.getElem?_eq_some_iff.1 hf).1
  rw [List.getElem?_eq_getElem hj] at this
  exact ⟨n, _, this⟩
end
end Go.Proofs.Ytfhinmjpokollaa
/- Structs as whole rows: read, stored, out of blocks that are known whole or out of slices; so that nothing of their cells is reckoned by the kernel. No condition. -/
namespace Go.Proofs.Ytfhinmjpokollaa
set_option linter.unusedVariables false
set_option linter.unusedSimpArgs false
set_option linter.constructorNameAsVariable false
open Go.RowKit

/-- Type T is a struct or an array of so many cells. -/
structure RowOf (P : Program) (T : TypeId) (size : Nat) : Prop where
  u : ∃ d, P.underlying T = some d ∧ d.isRow = true
  i : (P.info? T).map (·.size) = some size
theorem RowOf.mk' {P : Program} {T : TypeId} {size : Nat} {d : TypeDesc} (h : P.underlying T = some d) (hd : d.isRow = true) (hi : (P.info? T).map (·.size) = some size) : RowOf P T size := ⟨⟨d, h, hd⟩, hi⟩

theorem row_want {P : Program} {ops : Array Oper} {rest : List Oper} {o : Oper} {a : Act} {w : World} {Q : Exit → Act → World → Prop} (hw : Region.wanted o (yielded ops a.tmps) = true) (h : ∀ K : Act → World → Prop, (∀ a w, wpList P ops Q rest a w → K a w) → o.wp P a w K Q) : wpList P ops Q (o :: rest) a w :=
  wpList_step fun K hK => by rw [if_pos hw]; exact h K hK
theorem row_set {w : World} {g : Nat} {T : TypeId} {cs cs' : Array Value} (hb : Blk w g T cs) : Blk (w.setRow g cs') g T cs' ∧ Fr (fun k => k = g) w (w.setRow g cs') :=
  ⟨setRow_heap w g cs cs' T (0, 0) hb, ⟨rfl, rfl, rfl, by simp, fun k _ hk => setRow_other w g k cs' hk⟩⟩

section
variable {P : Program} {T : TypeId} {size : Nat} {ops : Array Oper} {rest : List Oper} {o o2 : Oper} {a : Act} {w : World} {Q : Exit → Act → World → Prop} {K : Act → World → Prop} {F : Prop}
theorem wp_row_load (R : RowOf P T size) (x : Operand) (ho : o.op = .load T x) {g : Nat} {cs : Array Value} (hx : a.eval x = .pointer (some ⟨g, 0, none⟩)) (hb : Blk w g T cs) (hc : cs.size = size)
    (h : K (a.put o.dst (.agg cs)) w) : o.wp P a w K Q := by
  obtain ⟨⟨d, hu, hd⟩, hi⟩ := R
  exact wp_load_row T x ho g hx T cs (0, 0) d hb hu (by cases d <;> first | rfl | (simp [TypeDesc.isRow] at hd)) (by rw [hi, hc]) h
theorem row_load (R : RowOf P T size) (hw : Region.wanted o (yielded ops a.tmps) = true) (x : Operand) (ho : o.op = .load T x) {g : Nat} {cs : Array Value} (hx : a.eval x = .pointer (some ⟨g, 0, none⟩)) (hb : Blk w g T cs) (hc : cs.size = size)
    (h : wpList P ops Q rest (a.put o.dst (.agg cs)) w) : wpList P ops Q (o :: rest) a w :=
  row_want hw fun _ hK => wp_row_load R x ho hx hb hc (hK _ _ h)
theorem row_load_at (R : RowOf P T size) (hw : Region.wanted o (yielded ops a.tmps) = true) (x : Operand) (ho : o.op = .load T x) {b off : Nat} {cs : List Value} (hx : a.eval x = .pointer (some ⟨b, off, none⟩)) (hr : w.rangeAt b off cs) (hc : cs.length = size)
    (h : wpList P ops Q rest (a.put o.dst (.agg cs.toArray)) w) : wpList P ops Q (o :: rest) a w := by
  obtain ⟨⟨d, hu, hd⟩, hi⟩ := R
  exact row_want hw fun _ hK => wp_load_mid T x ho b off hx cs d hr hu hd (by rw [hi, hc]) (hK _ _ h)
theorem wp_row_store (R : RowOf P T size) (x y : Operand) (ho : o.op = .store T x y) {g : Nat} {cs0 cs : Array Value} (hx : a.eval x = .pointer (some ⟨g, 0, none⟩)) (hy : a.eval y = .agg cs) (hb : Blk w g T cs0) (h0 : cs0.size = size) (hc : cs.size = size) (h1 : cs.all (·.oneCell') = true)
    (h : ∀ w', Blk w' g T cs → Fr (fun k => k = g) w w' → K (a.put o.dst undef) w') : o.wp P a w K Q := by
  obtain ⟨r1, r2⟩ := row_set (cs' := cs) hb
  unfold Oper.wp execOp
  simp only [ho, hx, hy, Instr.storeAt, Instr.sureAddr, Sem.run_bind, Sem.run_pure, Result.andThen_ok, run_storeVar_row w g T T cs0 cs hb (by rw [R.i, hc]) (by omega) h1]
  exact h _ r1 r2
theorem row_store (R : RowOf P T size) (hw : Region.wanted o (yielded ops a.tmps) = true) (x y : Operand) (ho : o.op = .store T x y) {g : Nat} {cs0 cs : Array Value} (hx : a.eval x = .pointer (some ⟨g, 0, none⟩)) (hy : a.eval y = .agg cs) (hb : Blk w g T cs0) (h0 : cs0.size = size) (hc : cs.size = size) (h1 : cs.all (·.oneCell') = true)
    (h : ∀ w', Blk w' g T cs → Fr (fun k => k = g) w w' → wpList P ops Q rest (a.put o.dst undef) w') : wpList P ops Q (o :: rest) a w :=
  row_want hw fun _ hK => wp_row_store R x y ho hx hy hb h0 hc h1 fun w' r1 r2 => hK _ _ (h w' r1 r2)
theorem step_row_store (R : RowOf P T size) (hw : Region.wanted o (yielded ops a.tmps) = true) (x y : Operand) (ho : o.op = .store T x y) {g : Nat} {cs0 cs : Array Value} (hx : a.eval x = .pointer (some ⟨g, 0, none⟩)) (hy : a.eval y = .agg cs) (hb : Blk w g T cs0) (h0 : cs0.size = size) (hc : cs.size = size) (h1 : cs.all (·.oneCell') = true)
    (h : ∀ w', Blk w' g T cs → Fr (fun k => k = g) w w' → K (a.put o.dst undef) w') : if Region.wanted o (yielded ops a.tmps) = true then Oper.wp P o a w K Q else F := by
  rw [if_pos hw]
  exact wp_row_store R x y ho hx hy hb h0 hc h1 h
/-- In a region that draws: a variable is made. -/
theorem step_row_alloc {T : TypeId} {n : Nat} {Z : Value} (hw : Region.wanted o (yielded ops a.tmps) = true) (ho : o.op = .alloc T) (hZ : (P.info? T).map (fun i => (i.zero, i.size)) = some (some Z, n))
    (h : ∀ g w', Blk w' g T Z.cells → New w w' → w.heap.size ≤ g → K (a.put o.dst (.pointer (some ⟨g, 0, none⟩))) w') : if Region.wanted o (yielded ops a.tmps) = true then Oper.wp P o a w K Q else F := by
  rw [if_pos hw]
  obtain ⟨z1, z2⟩ := zero_of_info hZ
  have hal : (Instr.alloc T true (.tuple #[])).run P w = .ok (.pointer (some ⟨w.heap.size, 0, none⟩)) (w.alloc (.cells Z.cells T)) := by
    unfold Instr.alloc
    simp [Sem.run_bind, z1 w, newVar, newRow, go_sem, Result.andThen]
  unfold Oper.wp
  simp only [execOp, ho, hal, Result.andThen_ok, Sem.run_bind, Sem.run_pure]
  exact h _ _ (Blk.new _ _ _) (New.al (New.refl _) _) (Nat.le_refl _)
/-- In a region that draws: a whole row may be read first. -/
theorem yields_row {S : World → Prop} (R : RowOf P T size) (hw : Region.wanted o (yielded ops a.tmps) = true) (x : Operand) (ho : o.op = .load T x) {b off : Nat} {cs : List Value} (hx : a.eval x = .pointer (some ⟨b, off, none⟩)) (hr : ∀ w, S w → w.rangeAt b off cs) (hc : cs.length = size) : YieldsIf P ops S o (.agg cs.toArray) a := by
  obtain ⟨⟨d, hu, hd⟩, hi⟩ := R
  exact yieldsIf_load_mid hw T x ho b off hx cs d hr hu hd (by rw [hi, hc])
end

theorem Blk.range {w : World} {g : Nat} {t : TypeId} {cs : Array Value} (h : Blk w g t cs) : w.rangeAt g 0 cs.toList := fun j v hv => by
  rw [Nat.zero_add, h.cell j]
  simpa using hv
theorem New.range {w w' : World} {b o : Nat} {cs : List Value} (h : New w w') (hr : w.rangeAt b o cs) : w'.rangeAt b o cs := fun j v hv => h.cell_ (hr j v hv)
/-- An element of a slice of rows. -/
theorem rd_row {α : Type} {p : Nat → Prop} {w : World} {A : Option Addr} {n size : Nat} {f : α → List Value} {L : List α} (hf : ∀ x, (f x).length = size) (hs : 0 < size) (h : Rd p w size A n (L.flatMap f)) {i : Nat} (hi : i < n) :
    ∃ (g o : Nat) (hl : i < L.length), A = some ⟨g, o, none⟩ ∧ p g ∧ g < w.heap.size ∧ w.rangeAt g (o + i * size) (f L[i]) := by
  obtain ⟨g, o, hA, hp, hg, hc⟩ := h.out (by omega) hs
  have hlen : (L.flatMap f).length = L.length * size := by
    clear hc h
    induction L with
    | nil => simp
    | cons x L ih => simp [hf x, ih]; rw [Nat.succ_mul, Nat.add_comm]
  have hl : i < L.length := by
    have h1 := h.1
    rw [hlen] at h1
    have := Nat.eq_of_mul_eq_mul_right hs h1
    omega
  refine ⟨g, o, hl, hA, hp, hg, fun j v hv => ?_⟩
  have hj : j < size := by rw [← hf L[i]]; exact (List.getElem?_eq_some_iff.1 hv).1
  rw [Nat.add_assoc]
  exact hc (i * size + j) v (by rw [fm_get f size L i j hl (fun x _ => hf x) hj]; exact hv)
end Go.Proofs.Ytfhinmjpokollaa
/- A region that draws its order, whose operations only read and whose callees may make memory: walked once, in a round of a range over a function too. After the kit's laws (Derived/Lib/QuietBelow.lean, QuietBelowIn.lean). No condition. -/
namespace Go.Proofs.Ytfhinmjpokollaa
set_option linter.unusedVariables false
set_option linter.unusedSimpArgs false
set_option linter.constructorNameAsVariable false
open Go.RowKit Go.Sort

def noDefer (o : Oper) : Bool := match o.op with | .defer _ => false | _ => true
theorem noDefer_spec {o : Oper} (h : noDefer o = true) : ∀ c, o.op ≠ .defer c := by
  intro c e
  unfold noDefer at h
  rw [e] at h
  cases h
section
variable {F : Fence} {n : Nat} {P : Program} {ops : Array Oper} {md : Region.Mode} {Q : Exit → Act → World → Prop}
theorem wpIn_in_round (r : Nat) (hro : F.round = none) {o : Oper} {a : Act} {w : World} {K : Act → World → Prop} (hd : noDefer o = true) (h : o.wpIn F n P a w K Q) : o.wpIn (F.inRound r) n P a w K Q := by
  unfold Oper.wpIn at *
  refine ⟨h.1, ?_⟩
  have h2 := h.2
  rw [hro, Oper.semAt_none] at h2
  rw [Oper.semAt_eq _ _ _ (noDefer_spec hd)]
  exact h2
theorem wpAnyIn_in_round (r : Nat) (hro : F.round = none) (hd : ∀ (i : Nat) (o : Oper), ops[i]? = some o → noDefer o = true) : ∀ (fuel : Nat) (listed : Array Bool) (a : Act) (w : World), wpAnyIn F n P md ops Q fuel listed a w → wpAnyIn (F.inRound r) n P md ops Q fuel listed a w
  | 0, _, _, _, h => h
  | fuel + 1, listed, a, w, h => by
    refine ⟨h.1, fun i hi => ?_⟩
    have h1 := wpOpIn_mono (fun a w => wpAnyIn_in_round r hro hd fuel _ a w) (h.2 i hi)
    unfold wpOpIn at h1 ⊢
    cases ho : ops[i]? with
    | none => simpa [ho] using h1
    | some o =>
      simp only [ho] at h1 ⊢
      by_cases hw : Region.wanted o (yielded ops a.tmps) = true
      · rw [if_pos hw] at h1 ⊢
        exact wpIn_in_round r hro (hd i o ho) h1
      · rw [if_neg hw] at h1 ⊢
        exact h1
theorem wpIn_region_below_round {id : Nat} {a : Act} {w : World} {l : List Oper} (r : Nat) (hro : F.round = none) (hm : P.follows .mixedOrders = true) (hB : Region.lexB .any l.toArray = true) (hd : l.all noDefer = true)
    (h : wpQuietIn F n P l.toArray (fun w' => ∃ p : Regrown, w' = grow (redrawn w p.d) p.os) (fun a' => ∀ w', (∃ p : Regrown, w' = grow (redrawn w p.d) p.os) → Q .normal a' w') l a) : (Code.region id l.toArray true).wpIn (F.inRound r) n P Q a w := by
  have hB' := hB
  simp only [Region.lexB, Bool.and_eq_true] at hB'
  refine wpIn_region_any hm (wpAnyIn_in_round r hro ?_ _ _ _ _ (wpAnyIn_of_quiet (C := fun w' => ∃ p : Regrown, w' = grow (redrawn w p.d) p.os) (Q := fun a' => ∀ w', (∃ p : Regrown, w' = grow (redrawn w p.d) p.os) → Q .normal a' w') hro (fun _ w' hw' h => h w' hw') _ _ _ _ ⟨⟨w.drawn + 1, #[]⟩, by rw [grow_empty]; rfl⟩ ?_))
  · intro i o ho
    have ho' : l[i]? = some o := by simpa using ho
    exact List.all_eq_true.1 hd o (List.mem_of_getElem? ho')
  · have := wpAnyQIn_lex (F := F) (n := n) (C := fun w' => ∃ p : Regrown, w' = grow (redrawn w p.d) p.os) (md := .any) hB'.1 l 0 (Array.replicate l.toArray.size false) a (by simp) (by simpa using hB'.2) h
    simpa using this
end
/-- What a callee's contract (its end: 'New') gives in each world of the class. -/
theorem calls_regrown {P : Program} {f : FuncId} {args : Array Value} {w : World} {v : Value} (h : ∀ W, New w W → Calls P f args W fun e w' => e = .returned v ∧ New W w') :
    ∀ d os, Calls P f args (grow (redrawn w d) os) fun e w'' => e = .returned v ∧ ∃ p : Regrown, w'' = grow (redrawn w p.d) p.os :=
  fun d os => Calls.regrown_of (h _ (below_regrown w d os))
theorem callsIn_regrown {P : Program} {f : FuncId} {args : Array Value} {w : World} {v : Value} {n : Nat} (h : ∀ W, New w W → Calls P f args W fun e w' => e = .returned v ∧ New W w') :
    ∀ d os, CallsIn Fence.wide n P f args (grow (redrawn w d) os) fun e w'' => e = .returned v ∧ ∃ p : Regrown, w'' = grow (redrawn w p.d) p.os :=
  fun d os => callsIn_wide.2 (calls_regrown h d os)
end Go.Proofs.Ytfhinmjpokollaa
/- Changes: in memory, in plain words; which are right. No condition but that they can be read. -/
namespace Go.Proofs.Ytfhinmjpokollaa
set_option linter.unusedVariables false
set_option linter.unusedSimpArgs false
set_option linter.constructorNameAsVariable false
open Go.RowKit Go.Maps

/-- Bytes: where they lie, and what they are. -/
structure Fm where
  A : Option Addr
  n : Nat
  c : Nat
  xs : List Int
def Fm.val (x : Fm) : Value := .slice x.A x.n x.c
structure Fm.In (P : Nat → Prop) (w : World) (x : Fm) : Prop where
  rd : Rd P w 1 x.A x.n (u8s x.xs)
  byt : Byt x.xs
theorem Fm.In.len {P : Nat → Prop} {w : World} {x : Fm} (h : x.In P w) : x.xs.length = x.n := by have := h.rd.1; rw [u8s_len] at this; omega
/-- A change. -/
structure Ch where
  k : Fm
  v : Fm
  d : Bool
def Ch.cells (c : Ch) : List Value := [.slice c.k.A c.k.n c.k.c, .slice c.v.A c.v.n c.v.c, .bool c.d]
structure Ch.In (P : Nat → Prop) (w : World) (c : Ch) : Prop where
  k : c.k.In P w
  v : c.v.In P w
theorem Ch.In.new {P : Nat → Prop} {w w' : World} {c : Ch} (h : c.In P w) (hN : New w w') : c.In P w' := ⟨⟨hN.rd h.k.rd, h.k.byt⟩, ⟨hN.rd h.v.rd, h.v.byt⟩⟩
def chOk (c : Ch) : Bool := decide (1 ≤ c.k.n) && decide (c.k.n ≤ 16) && decide (c.v.n ≤ 16384) && !(c.d && decide (0 < c.v.n))
def chsOk (L : List Ch) : Bool := decide (1 ≤ L.length) && decide (L.length ≤ 600) && L.all chOk

theorem rb {a b : Bool} (h : a = b) : Ending.returned (.bool a) = Ending.returned (.bool b) := by rw [h]
theorem right_any (c : Ch) (w : World) (hk : c.k.n ≤ maxLen) (hv : c.v.n ≤ maxLen) : Calls Try.prog 37 #[.agg c.cells.toArray] w fun e w' => e = .returned (.bool (chOk c)) ∧ New w w' := by
  obtain ⟨⟨kA, kn, kc, ks⟩, ⟨vA, vn, vc, vs⟩, d⟩ := c
  unfold maxLen at hk hv
  dsimp only at hk hv
  unfold Ch.cells
  dsimp only
  go_enter Try.func37, Try.ntmps37
  go_wp2_with fail
  all_goals
    go_ret
    refine ⟨rb ?_, New.al (New.refl _) _⟩
    try subst d
    unfold chOk
    dsimp only
    first
      | (rw [decide_eq_true (by omega : 1 ≤ kn), decide_eq_true (by omega : kn ≤ 16), decide_eq_true (by omega : vn ≤ 16384)]; simp; done)
      | (rw [decide_eq_true (by omega : 1 ≤ kn), decide_eq_true (by omega : kn ≤ 16), decide_eq_false (by omega : ¬ vn ≤ 16384)]; simp; done)
      | (rw [decide_eq_true (by omega : 1 ≤ kn), decide_eq_false (by omega : ¬ kn ≤ 16)]; simp; done)
      | (rw [decide_eq_false (by omega : ¬ 1 ≤ kn)]; simp; done)
theorem odd_any (c : Ch) (w : World) (hk : c.k.n ≤ maxLen) (hv : c.v.n ≤ maxLen) : Calls Try.prog 36 #[.agg c.cells.toArray] w fun e w' => e = .returned (.bool (!chOk c)) ∧ New w w' := by
  have hr := fun w => right_any c w hk hv
  obtain ⟨b, hb⟩ : ∃ b, b = chOk c := ⟨_, rfl⟩
  rw [← hb] at hr ⊢
  have HR := Lib.hid hr
  clear hb hr
  obtain ⟨⟨kA, kn, kc, ks⟩, ⟨vA, vn, vc, vs⟩, d⟩ := c
  clear hk hv
  unfold Ch.cells at HR ⊢
  dsimp only at HR ⊢
  go_enter Try.func36, Try.ntmps36
  go_wp2_with fail
  refine (HR.out _).mono ?_
  rintro e w1 ⟨rfl, hN1⟩
  have HN1 := Lib.hid hN1
  clear hN1
  go_wp2_with fail
  go_ret
  exact ⟨rfl, (New.al (New.refl _) _).tr HN1.out⟩
/-- What IndexFunc answers: below 0 just where all are right. -/
def IdxSays (L : List Ch) (e : Ending) : Prop := ∃ r : Int, e = .returned (.int .i64 r) ∧ (L.all chOk = true → r = -1) ∧ (L.all chOk = false → 0 ≤ r)
theorem all_take {L : List Ch} {k : Nat} (h : k < L.length) : (L.take (k + 1)).all chOk = ((L.take k).all chOk && chOk L[k]) := by
  rw [List.take_succ_eq_append_getElem h, List.all_append]
  simp
set_option maxRecDepth 100000 in
set_option maxHeartbeats 2000000 in
theorem ifunc_any {P : Nat → Prop} (A : Option Addr) (n c : Nat) (L : List Ch) (w : World) (h : Rd P w 3 A n (L.flatMap Ch.cells)) (hL : L.length = n) (hn : n ≤ 100000000) (hb : ∀ c ∈ L, c.k.n ≤ maxLen ∧ c.v.n ≤ maxLen) :
    Calls Try.prog 61 #[.slice A n c, .func (.func 36) #[] #[]] w fun e w' => IdxSays L e ∧ New w w' := by
  have HR := Lib.hid h
  have HL := Lib.hid hL
  have HB := Lib.hid hb
  clear h hL hb
  go_enter Try.func61, Try.ntmps61
  go_wp2_with fail
  go_loopw [8] (fun i wr => ∃ j : Nat, j ≤ n ∧ i = .int .i64 j ∧ Hid ((L.take j).all chOk = true) ∧ Hid (New w wr)) (fun i _ => n - (intOf i).toNat)
  case atStart => exact ⟨0, Nat.zero_le _, rfl, Lib.hid (by simp), Lib.hid (New.refl w)⟩
  case round =>
    obtain ⟨j, hj, rfl, HS, HN⟩ := hrel
    by_cases hlt : j < n
    · as_aux_lemma =>
      obtain ⟨g, o, hl, rfl, -, -, hrg⟩ := rd_row (f := Ch.cells) (L := L) (fun _ => rfl) (by omega) (HN.out.rd HR.out) hlt
      have c0 : wr.cell? ⟨g, o + j * 3, none⟩ = some (.slice L[j].k.A L[j].k.n L[j].k.c) := hrg 0 _ rfl
      have c1 : wr.cell? ⟨g, o + j * 3 + 1, none⟩ = some (.slice L[j].v.A L[j].v.n L[j].v.c) := hrg 1 _ rfl
      have c2 : wr.cell? ⟨g, o + j * 3 + 2, none⟩ = some (.bool L[j].d) := hrg 2 _ rfl
      have hbd := HB.out L[j] (List.getElem_mem _)
      have HO := Lib.hid (fun w => odd_any L[j] w hbd.1 hbd.2)
      have hst := all_take hl
      have hmem : L[j] ∈ L := List.getElem_mem _
      generalize L[j] = x at c0 c1 c2 HO hst hmem
      obtain ⟨⟨kA, kn, kc, ks⟩, ⟨vA, vn, vc, vs⟩, d⟩ := x
      unfold Ch.cells at HO
      dsimp only at c0 c1 c2 HO
      have HST := Lib.hid hst
      have HM := Lib.hid hmem
      have hj0 : (0 : Int) ≤ (j : Int) := by omega
      have hjn : (j : Int) < (n : Int) := by omega
      clear hrg hl hst hbd hmem
      go_wp2_with fail
      refine (HO.out _).mono ?_
      rintro e w1 ⟨rfl, hN1⟩
      have HN1 := Lib.hid (HN.out.tr hN1)
      clear hN1 HO c0 c1 c2
      cases hok : chOk ⟨⟨kA, kn, kc, ks⟩, ⟨vA, vn, vc, vs⟩, d⟩
      · have HOK := Lib.hid hok
        clear hok
        go_wp2_with fail
        go_ret
        refine ⟨⟨j, rfl, fun h => ?_, fun _ => by omega⟩, HN1.out⟩
        have := List.all_eq_true.1 h _ HM.out
        rw [HOK.out] at this
        cases this
      · have HOK := Lib.hid hok
        clear hok
        go_wp2_with fail
        go_roundw
        case rel => exact ⟨j + 1, by omega, by go_num, Lib.hid (by rw [HST.out, HS.out, HOK.out]; rfl), HN1⟩
        case measure => simp [intOf]; omega
    · as_aux_lemma =>
      obtain rfl : j = n := by omega
      go_wp2_with fail
      go_ret
      have hs := HS.out
      rw [List.take_of_length_le (by rw [HL.out]; exact Nat.le_refl _)] at hs
      exact ⟨⟨-1, rfl, fun _ => rfl, fun h => by rw [hs] at h; cases h⟩, HN.out⟩
theorem cfunc_any {P : Nat → Prop} (A : Option Addr) (n c : Nat) (L : List Ch) (w : World) (h : Rd P w 3 A n (L.flatMap Ch.cells)) (hL : L.length = n) (hn : n ≤ 100000000) (hb : ∀ c ∈ L, c.k.n ≤ maxLen ∧ c.v.n ≤ maxLen) :
    Calls Try.prog 38 #[.slice A n c, .func (.func 36) #[] #[]] w fun e w' => e = .returned (.bool (!L.all chOk)) ∧ New w w' := by
  have HI := Lib.hid (ifunc_any A n c L w h hL hn hb)
  clear h hL hb hn
  go_enter Try.func38, Try.ntmps38
  go_wp2_with fail
  refine HI.out.mono ?_
  rintro e w1 ⟨⟨r, rfl, h1, h2⟩, hN1⟩
  have HN1 := Lib.hid hN1
  have H1 := Lib.hid h1
  have H2 := Lib.hid h2
  clear hN1 h1 h2 HI
  go_wp2_with fail
  go_ret
  refine ⟨rb ?_, HN1.out⟩
  cases ha : L.all chOk
  · have := H2.out ha
    simp; omega
  · have := H1.out ha
    simp; omega
theorem rights_any {P : Nat → Prop} (A : Option Addr) (n c : Nat) (L : List Ch) (w : World) (h : Rd P w 3 A n (L.flatMap Ch.cells)) (hL : L.length = n) (hn : n ≤ 100000000) (hb : ∀ c ∈ L, c.k.n ≤ maxLen ∧ c.v.n ≤ maxLen) :
    Calls Try.prog 17 #[.slice A n c] w fun e w' => e = .returned (.bool (chsOk L)) ∧ New w w' := by
  have HC := Lib.hid (fun (w' : World) (hN : New w w') => cfunc_any A n c L w' (hN.rd h) hL hn hb)
  clear h hb
  have HL := Lib.hid hL
  clear hL
  go_enter Try.func17, Try.ntmps17
  go_wp2_with fail
  · refine (HC.out _ (New.refl _)).mono ?_
    rintro e w1 ⟨rfl, hN1⟩
    have HN1 := Lib.hid hN1
    clear hN1 HC
    obtain ⟨b, hb⟩ : ∃ b, b = L.all chOk := ⟨_, rfl⟩
    rw [← hb]
    have HBB := Lib.hid hb
    clear hb
    go_wp2_with fail
    go_ret
    refine ⟨rb ?_, HN1.out⟩
    unfold chsOk
    rw [HL.out, ← HBB.out, decide_eq_true (by omega : 1 ≤ n), decide_eq_true (by omega : n ≤ 600)]
    simp
  all_goals
    go_ret
    refine ⟨rb ?_, New.refl _⟩
    unfold chsOk
    rw [HL.out]
    first
      | (rw [decide_eq_true (by omega : 1 ≤ n), decide_eq_false (by omega : ¬ n ≤ 600)]; simp; done)
      | (rw [decide_eq_false (by omega : ¬ 1 ≤ n)]; simp; done)
end Go.Proofs.Ytfhinmjpokollaa
