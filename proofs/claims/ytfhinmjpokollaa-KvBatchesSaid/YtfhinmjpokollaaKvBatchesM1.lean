/- Texts of one proof, one behind the other: Mem, App, New, Bytes, Map. No condition but each one's own. -/
import Derived.WalkKit
import Derived.ProofKit
import Derived.Deep.AppendLies
import Derived.Deep.Draws
import Derived.Maps.AppendAt
import Derived.Laws.AppendOwnNone
import Derived.Lib.Hide
import Derived.WalkSpells
import Derived.WalkLawsBesides
import Derived.Deep.LoopGhost
import Derived.Deep.QuietTactic
import Derived.BigQuiet
import Derived.Deep.RegionWith
import Derived.Deep.RegionHeld3
import Derived.Deep.RegionLaw
import Derived.BigGuardPart
import Derived.Deep.Light
import Derived.Deep.DeepCutAuto
import Derived.Deep.DeepMust
import Derived.Test.YtfhinmjpokollaaRows
import Derived.Laws.BytesArg
import Derived.Maps.OwnOps
import Derived.Maps.OwnSet
import Derived.Maps.Views
/- Words for memory, for all proofs of this family: a frame with a set of blocks that may be written ('Fr'), a block known whole ('Blk'), a slice that reads as a list of cells ('Rd'). No condition. -/
namespace Go.Proofs.Ytfhinmjpokollaa
set_option linter.unusedVariables false
set_option linter.unusedSimpArgs false
set_option linter.constructorNameAsVariable false
open Go.RowKit

/-- A halt in a walk. -/
structure Halt (p : Prop) : Prop where
  out : p
theorem stopHere {p : Prop} (h : Halt p) : p := h.out
/-- w' is w with new blocks, and with writes to blocks of S alone. -/
structure Fr (S : Nat → Prop) (w w' : World) : Prop where
  os : w'.os = w.os
  tape : w'.tape = w.tape
  output : w'.output = w.output
  size : w.heap.size ≤ w'.heap.size
  block : ∀ k, k < w.heap.size → ¬ S k → w'.heap[k]? = w.heap[k]?

def NoB : Nat → Prop := fun _ => False

section
variable {S T : Nat → Prop} {w w' w'' : World}
theorem Fr.refl (S : Nat → Prop) (w : World) : Fr S w w := ⟨rfl, rfl, rfl, Nat.le_refl _, fun _ _ _ => rfl⟩
theorem Fr.trans' (h : Fr S w w') (k : Fr T w' w'') (hT : ∀ b, b < w.heap.size → T b → S b) : Fr S w w'' :=
  ⟨k.os.trans h.os, k.tape.trans h.tape, k.output.trans h.output, Nat.le_trans h.size k.size, fun i hi hs =>
    (k.block i (Nat.lt_of_lt_of_le hi h.size) (fun ht => hs (hT i hi ht))).trans (h.block i hi hs)⟩
theorem Fr.trans (h : Fr S w w') (k : Fr S w' w'') : Fr S w w'' := h.trans' k fun _ _ x => x
theorem Fr.mono (h : Fr S w w') (hS : ∀ b, b < w.heap.size → S b → T b) : Fr T w w' :=
  ⟨h.os, h.tape, h.output, h.size, fun i hi hs => h.block i hi fun x => hs (hS i hi x)⟩
theorem Fr.drew (h : Fr S w w') : Fr S w w'.drew := ⟨h.os, h.tape, h.output, h.size, h.block⟩
theorem Fr.drewN (h : Fr S w w') (n : Nat) : Fr S w (w'.drewN n) := ⟨h.os, h.tape, h.output, h.size, h.block⟩
theorem Fr.ofDrew (h : Fr S w.drew w') : Fr S w w' := ⟨h.os, h.tape, h.output, h.size, h.block⟩
theorem Fr.ofDrewN {n : Nat} (h : Fr S (w.drewN n) w') : Fr S w w' := ⟨h.os, h.tape, h.output, h.size, h.block⟩
theorem Fr.alloc (h : Fr S w w') (o : Obj) : Fr S w (w'.alloc o) :=
  h.trans ⟨rfl, rfl, rfl, by simp, fun k hk _ => Below.heap_alloc _ _ _ hk⟩
theorem Fr.setCell (h : Fr S w w') {p : Addr} (hp : p.block < w.heap.size → S p.block) (u : Value) : Fr S w (w'.setCell p u) :=
  h.trans' (T := fun k => k = p.block) ⟨rfl, rfl, rfl, by simp [World.setCell], fun k _ hs => Below.heap_setCell _ _ _ _ hs⟩ fun b hb e => by subst e; exact hp hb
theorem Fr.grown {row : Option Nat} (h : Fr S w w') (hg : w'.grownBy w'' row) (hr : ∀ k, k < w.heap.size → row = some k → S k) : Fr S w w'' :=
  h.trans' (T := fun k => row = some k) ⟨hg.os, hg.tape, hg.output, hg.size, fun k hk hs => hg.block k hk fun e => hs e.symm⟩ hr
theorem Fr.below {B : Nat} (h : Below B w w') : Fr (fun k => B ≤ k) w w' := ⟨h.os, h.tape, h.output, h.size, fun k _ hs => h.block k (by omega)⟩
theorem Fr.ofNew (h : Below w.heap.size w w') : Fr S w w' := ⟨h.os, h.tape, h.output, h.size, fun k hk _ => h.block k hk⟩
theorem Fr.toBelow {B : Nat} (h : Fr S w w') (hB : B ≤ w.heap.size) (hS : ∀ k, k < B → ¬ S k) : Below B w w' :=
  ⟨h.os, h.tape, h.output, h.size, fun k hk => h.block k (by omega) (hS k hk)⟩
theorem Fr.cell (h : Fr S w w') {p : Addr} (hp : p.block < w.heap.size) (hs : ¬ S p.block) : w'.cell? p = w.cell? p := World.cell?_of_block (w := w) (h.block p.block hp hs)
theorem Fr.frozen (h : Fr S w w') {p : Addr} (hp : p.block < w.heap.size) (hs : ¬ S p.block) : w'.frozen? p = w.frozen? p := World.frozen?_of_block (w := w) (h.block p.block hp hs)
theorem Fr.cell_some (h : Fr S w w') {p : Addr} {v : Value} (hv : w.cell? p = some v) (hs : ¬ S p.block) : w'.cell? p = some v := (h.cell (World.block_lt_of_cell? w p hv) hs).trans hv
end

/-- Block g is just the cells cs of type t, none of them frozen. -/
def Blk (w : World) (g : Nat) (t : TypeId) (cs : Array Value) : Prop := w.heap[g]? = some (.cells cs t (0, 0))

section
variable {w w' : World} {g : Nat} {t : TypeId} {cs : Array Value}
theorem Blk.lt (h : Blk w g t cs) : g < w.heap.size := lt_of_block h
theorem Blk.cell (h : Blk w g t cs) (i : Nat) : w.cell? ⟨g, i, none⟩ = cs[i]? := cell_of_row w g i cs t (0, 0) h
theorem Blk.frozen (h : Blk w g t cs) (i : Nat) : w.frozen? ⟨g, i, none⟩ = false := frozen_of_row w g i cs t h
theorem Blk.new (w : World) (t : TypeId) (cs : Array Value) : Blk (w.alloc (.cells cs t)) w.heap.size t cs := heap_alloc_new w _
theorem Blk.set (h : Blk w g t cs) (i : Nat) (u : Value) : Blk (w.setCell ⟨g, i, none⟩ u) g t (cs.setIfInBounds i u) := heap_setCell_same w g i cs t u h
theorem Blk.fr {S : Nat → Prop} (h : Blk w g t cs) (hf : Fr S w w') (hs : ¬ S g) : Blk w' g t cs := (hf.block g h.lt hs).trans h
theorem Blk.far (h : Blk w g t cs) {p : Addr} (hp : g ≠ p.block) (u : Value) : Blk (w.setCell p u) g t cs := (Below.heap_setCell w p u g hp).trans h
theorem Blk.alloc (h : Blk w g t cs) (o : Obj) : Blk (w.alloc o) g t cs := (Below.heap_alloc w o g h.lt).trans h
theorem Blk.grown {row : Option Nat} (h : Blk w g t cs) (hb : w.grownBy w' row) (hg : row ≠ some g) : Blk w' g t cs := (hb.block g h.lt fun e => hg e.symm).trans h
theorem Blk.ne_ {g' : Nat} {t' : TypeId} {cs' : Array Value} (h : Blk w g t cs) (h' : Blk w g' t' cs') (hne : t ≠ t') : g ≠ g' := by
  rintro rfl
  unfold Blk at h h'
  rw [h] at h'
  injection h' with h'
  injection h' with _ ht
  exact hne ht
end

section
variable {w w' : World} {base : Nat} {e : TypeId} {size n : Nat} {v : Value} {xs : List Value}
theorem own_ne {g : Nat} {t : TypeId} {cs : Array Value} (h : w.ownsRow base e size v n xs) (hg : Blk w g t cs) (hne : e ≠ t) : v.ownBlock ≠ some g := by
  rcases h.2 with ⟨rfl, _⟩ | ⟨g', cap, cur, rfl, _, hh, _⟩
  · simp [Value.ownBlock]
  · intro he
    have : g' = g := by simpa [Value.ownBlock] using he
    subst this
    exact Blk.ne_ (t := e) hh hg hne rfl
theorem own_fr {S : Nat → Prop} (h : w.ownsRow base e size v n xs) (hf : Fr S w w') (hs : ∀ k, v.ownBlock = some k → ¬ S k) : w'.ownsRow base e size v n xs := by
  refine ⟨h.1, ?_⟩
  rcases h.2 with h0 | ⟨g, cap, cur, rfl, hb, hh, hr⟩
  · exact .inl h0
  · exact .inr ⟨g, cap, cur, rfl, hb, (hf.block g (lt_of_block hh) (hs g rfl)).trans hh, hr⟩
theorem own_base {b : Nat} (h : w.ownsRow base e size v n xs) (hb : ∀ k, v.ownBlock = some k → b ≤ k) : w.ownsRow b e size v n xs := by
  refine ⟨h.1, ?_⟩
  rcases h.2 with h0 | ⟨g, cap, cur, rfl, _, hh, hr⟩
  · exact .inl h0
  · exact .inr ⟨g, cap, cur, rfl, hb g rfl, hh, hr⟩
theorem own_lt (h : w.ownsRow base e size v n xs) : ∀ k, v.ownBlock = some k → base ≤ k ∧ k < w.heap.size := h.lt
theorem own_form (h : w.ownsRow base e size v n xs) (hn : 0 < n) : ∃ g cap, v = .slice (some ⟨g, 0, none⟩) n cap ∧ n ≤ cap ∧ cap ≤ maxLen := by
  rcases h.2 with ⟨_, h0⟩ | ⟨g, cap, cur, rfl, _, _, h1, h2, _⟩
  · omega
  · exact ⟨g, cap, rfl, h1, h2⟩
theorem own_shape (h : w.ownsRow base e size v n xs) : ∃ A cap, v = .slice A n cap ∧ n ≤ cap ∧ cap ≤ maxLen ∧ (A = none → n = 0 ∧ cap = 0) ∧ ∀ a, A = some a → a = ⟨a.block, 0, none⟩ := by
  rcases h.2 with ⟨rfl, rfl⟩ | ⟨g, cap, cur, rfl, _, _, h1, h2, _⟩
  · exact ⟨none, 0, rfl, Nat.le_refl _, Nat.zero_le _, fun _ => ⟨rfl, rfl⟩, fun a ha => by cases ha⟩
  · exact ⟨_, cap, rfl, h1, h2, (by intro h; cases h), (by intro a ha; injection ha with ha; subst ha; rfl)⟩
end

theorem add_block (a : Addr) (n : Nat) : (a.add n).block = a.block := by unfold Addr.add; split <;> rfl
theorem add_add' (a : Addr) (i j : Nat) : (a.add i).add j = a.add (i + j) := by
  unfold Addr.add
  by_cases hi : i = 0 <;> by_cases hj : j = 0 <;> simp [hi, hj, Nat.add_assoc]
theorem add_own (g j : Nat) : (⟨g, 0, none⟩ : Addr).add j = ⟨g, j, none⟩ := by
  unfold Addr.add
  by_cases hj : j = 0 <;> simp [hj]

/-- The slice of n elements at A (whatever, where n is 0) holds the cells xs, 'size' an element; its block is one of p. -/
def Rd (p : Nat → Prop) (w : World) (size : Nat) (A : Option Addr) (n : Nat) (xs : List Value) : Prop :=
  xs.length = n * size ∧ (0 < n → ∃ ad, A = some ad ∧ p ad.block ∧ ad.block < w.heap.size ∧ ∀ j u, xs[j]? = some u → w.cell? (ad.add j) = some u)

section
variable {p q S : Nat → Prop} {w w' : World} {size n : Nat} {A : Option Addr} {xs : List Value}
theorem Rd.nil : Rd p w size A 0 [] := ⟨by simp, fun h => absurd h (by omega)⟩
theorem Rd.at_ (h : Rd p w size A n xs) (hn : 0 < n) : ∃ ad, A = some ad ∧ p ad.block ∧ ad.block < w.heap.size ∧ ∀ j, j < n * size → w.cell? (ad.add j) = some (xs.getD j undef) := by
  obtain ⟨ad, e, hp, hb, hc⟩ := h.2 hn
  refine ⟨ad, e, hp, hb, fun j hj => ?_⟩
  have hl : j < xs.length := by have := h.1; omega
  rw [hc j _ (List.getElem?_eq_getElem hl), List.getD_eq_getElem?_getD, List.getElem?_eq_getElem hl]; rfl
/-- The same, the address written out. -/
theorem Rd.out (h : Rd p w size A n xs) (hn : 0 < n) (hs : 0 < size) : ∃ g o, A = some ⟨g, o, none⟩ ∧ p g ∧ g < w.heap.size ∧ ∀ j u, xs[j]? = some u → w.cell? ⟨g, o + j, none⟩ = some u := by
  obtain ⟨⟨g, o, sp⟩, e, hp, hb, hc⟩ := h.2 hn
  have hl : 0 < xs.length := by rw [h.1]; exact Nat.mul_pos hn hs
  have h0 := hc 0 _ (List.getElem?_eq_getElem hl)
  have hsp : sp = none := by
    cases sp with
    | none => rfl
    | some x =>
      simp only [Addr.add, if_true, World.cell?] at h0
      split at h0 <;> simp at h0
  subst hsp
  refine ⟨g, o, e, hp, hb, fun j u hu => ?_⟩
  have := hc j u hu
  unfold Addr.add at this
  split at this
  · next hj => subst hj; exact this
  · exact this
theorem Rd.fr (h : Rd p w size A n xs) (hf : Fr S w w') (hs : ∀ k, p k → ¬ S k) : Rd p w' size A n xs :=
  ⟨h.1, fun hn => by
    obtain ⟨ad, e, hp, hb, hc⟩ := h.2 hn
    exact ⟨ad, e, hp, Nat.lt_of_lt_of_le hb hf.size, fun j u hu => by
      have := hc j u hu
      rwa [← hf.cell (p := ad.add j) (by rw [add_block]; exact hb) (by rw [add_block]; exact hs _ hp)] at this⟩⟩
theorem Rd.imp (h : Rd p w size A n xs) (hq : ∀ k, p k → q k) : Rd q w size A n xs :=
  ⟨h.1, fun hn => by obtain ⟨ad, e, hp, r⟩ := h.2 hn; exact ⟨ad, e, hq _ hp, r⟩⟩
theorem Rd.own {base : Nat} {e : TypeId} {v : Value} (h : w.ownsRow base e size v n xs) {c : Nat} (hv : v = .slice A n c) : Rd (fun k => v.ownBlock = some k) w size A n xs := by
  refine ⟨h.1, fun hn => ?_⟩
  obtain ⟨g, cap, hv', _⟩ := own_form h hn
  subst hv'
  injection hv with hA
  subst hA
  exact ⟨_, rfl, rfl, (own_lt h g rfl).2, h.cells (g := g) rfl⟩
/-- The slice from element k on. -/
theorem Rd.drop (h : Rd p w size A n xs) {k cap : Nat} (hk : k ≤ n) (hc : n ≤ cap) : Rd p w size (if cap = k then A else A.map (·.add (k * size))) (n - k) (xs.drop (k * size)) := by
  refine ⟨by rw [List.length_drop, h.1, Nat.sub_mul], fun hn => ?_⟩
  obtain ⟨ad, rfl, hp, hb, hcell⟩ := h.2 (by omega)
  rw [if_neg (by omega)]
  refine ⟨ad.add (k * size), rfl, by rw [add_block]; exact hp, by rw [add_block]; exact hb, fun j u hu => ?_⟩
  rw [add_add']
  exact hcell _ u (by rw [← hu, List.getElem?_drop])
end

end Go.Proofs.Ytfhinmjpokollaa
/- Laws for append in the words of the memory text: one bundle of an element type's facts, one law for a plain region, one for a region that draws its order. No condition. -/
namespace Go.Proofs.Ytfhinmjpokollaa
set_option linter.unusedVariables false
set_option linter.unusedSimpArgs false
set_option linter.constructorNameAsVariable false
open Go.RowKit

/-- The slice type t has elements of type e: so many cells, so many bytes. -/
structure ElemOf (P : Program) (t e : TypeId) (size bytes : Nat) : Prop where
  ht : P.underlying t = some (.slice e)
  info : ∃ i z, P.info? e = some i ∧ i.zero = some z ∧ i.size = size ∧ i.bytes = bytes ∧ z.cells.size = size
  pos : 0 < size

theorem ElemOf.mk' {P : Program} {t e : TypeId} {z : Value} {size bytes : Nat} (ht : P.underlying t = some (.slice e)) (h : (P.info? e).map (fun i => (i.zero, i.size, i.bytes)) = some (some z, size, bytes))
    (hz : z.cells.size = size) (hp : 0 < size) : ElemOf P t e size bytes := by
  obtain ⟨i, h1, h2, h3, h4⟩ := info_parts h
  exact ⟨ht, ⟨i, z, h1, h2, h3, h4, hz⟩, hp⟩

theorem run_append_nothing {P : Program} (w : World) (base : Nat) (t ty e : TypeId) (i : TypeInfo) (size : Nat) (ht : P.underlying t = some (.slice e)) (hi : P.info? e = some i)
    (v : Value) (n : Nat) (xs : List Value) (hown : w.ownsRow base e size v n xs) (c : Nat) : (Builtin.append_ #[t, t] ty #[v, .slice none 0 c]).run P w = .ok v w := by
  rcases hown.2 with ⟨rfl, rfl⟩ | ⟨g, cap, cur, rfl, _, _, hnc, _⟩
  · simp [Builtin.append_, run_underlying ht, sizeOf, typeInfo, hi, Builtin.lenOf, Builtin.firstCells]
  · simp [Builtin.append_, run_underlying ht, sizeOf, typeInfo, hi, Builtin.lenOf, Builtin.firstCells, hnc, storeCells]

theorem run_app {P : Program} {t e : TypeId} {size bytes : Nat} (E : ElemOf P t e size bytes) (w : World) (base : Nat) (ty : TypeId)
    (v : Value) (n : Nat) (xs : List Value) (hown : w.ownsRow base e size v n xs)
    {p : Nat → Prop} (X : Option Addr) (m c : Nat) (news : List Value) (hr : Rd p w size X m news) (h1 : ∀ u ∈ news, u.oneCell' = true)
    (h63 : n + m ≤ maxLen) (hbytes : (n + m) * bytes ≤ 140737488355328) (hbase : base ≤ w.heap.size) :
    ∃ A' c' w', (Builtin.append_ #[t, t] ty #[v, .slice X m c]).run P w = .ok (.slice A' (n + m) c') w' ∧ w'.ownsRow base e size (.slice A' (n + m) c') (n + m) (xs ++ news) ∧
      Fr (fun k => v.ownBlock = some k) w w' ∧ (∀ k, (Value.slice A' (n + m) c').ownBlock = some k → v.ownBlock = some k ∨ w.heap.size ≤ k) := by
  obtain ⟨i, z, hi, hz, hsize, hby, hzs⟩ := E.info
  have key : ∃ v' w', (Builtin.append_ #[t, t] ty #[v, .slice X m c]).run P w = .ok v' w' ∧ w'.ownsRow base e size v' (n + m) (xs ++ news) ∧ w.grownBy w' v.ownBlock ∧
      (v'.ownBlock = v.ownBlock ∨ v'.ownBlock = some w.heap.size) := by
    rcases X with _ | ad
    · have hm : m = 0 := by
        rcases Nat.eq_zero_or_pos m with h0 | h0
        · exact h0
        · obtain ⟨ad, h, _⟩ := hr.2 h0
          cases h
      subst hm
      have hn : news = [] := List.eq_nil_of_length_eq_zero (by simpa using hr.1)
      subst hn
      exact ⟨v, w, run_append_nothing w base t ty e i size E.ht hi v n xs hown c, by simpa using hown, World.grownBy.refl w _, .inl rfl⟩
    · have hcells : ∀ j u, news[j]? = some u → w.cell? (ad.add j) = some u := by
        intro j u hu
        rcases Nat.eq_zero_or_pos m with h0 | h0
        · subst h0
          have hn : news = [] := List.eq_nil_of_length_eq_zero (by simpa using hr.1)
          subst hn
          simp at hu
        · obtain ⟨ad', h, _, _, hc⟩ := hr.2 h0
          injection h with h
          subst h
          exact hc j u hu
      obtain ⟨v', w', hrun, h2, h3, _, h5⟩ := run_append_own_at (P := P) w base t ty e i z size bytes E.ht hi hz hsize hby hzs E.pos v n xs hown ad m c news hr.1 hcells h1 h63 hbytes hbase
      exact ⟨v', w', hrun, h2, h3, h5⟩
  obtain ⟨v', w', hrun, h2, h3, h5⟩ := key
  obtain ⟨A', c', rfl, _⟩ := own_shape h2
  refine ⟨A', c', w', hrun, h2, (Fr.refl _ _).grown h3 (fun k _ hk => hk), fun k hk => ?_⟩
  rcases h5 with h5 | h5
  · exact .inl (by rw [← h5]; exact hk)
  · rw [h5] at hk
    injection hk with hk
    exact .inr (by omega)

theorem wp_app {P : Program} {t e : TypeId} {size bytes : Nat} (E : ElemOf P t e size bytes) (w : World) {o : Oper} {a : Act} {K : Act → World → Prop} {Q : Exit → Act → World → Prop} (s x : Operand)
    (ho : o.op = .call { callee := .builtin .append, args := #[s, x], argTypes := #[t, t] })
    (base : Nat) (v : Value) (n : Nat) (xs : List Value) (hs : a.eval s = v) (hown : w.ownsRow base e size v n xs)
    {p : Nat → Prop} (X : Option Addr) (m c : Nat) (news : List Value) (hx : a.eval x = .slice X m c) (hr : Rd p w size X m news) (h1 : ∀ u ∈ news, u.oneCell' = true)
    (h63 : n + m ≤ maxLen) (hbytes : (n + m) * bytes ≤ 140737488355328) (hbase : base ≤ w.heap.size)
    (h : ∀ A' c' w', w'.ownsRow base e size (.slice A' (n + m) c') (n + m) (xs ++ news) → Fr (fun k => v.ownBlock = some k) w w' →
      (∀ k, (Value.slice A' (n + m) c').ownBlock = some k → v.ownBlock = some k ∨ w.heap.size ≤ k) → K (a.put o.dst (.slice A' (n + m) c')) w') : o.wp P a w K Q := by
  obtain ⟨A', c', w', hrun, h2, h3, h4⟩ := run_app E w base o.type v n xs hown X m c news hr h1 h63 hbytes hbase
  unfold Oper.wp execOp
  simp only [ho, resolve, invoke, builtin, Sem.run_bind, Sem.run_pure, Result.andThen_ok, List.map_toArray, List.map_cons, List.map_nil, hs, hx, hrun]
  exact h A' c' w' h2 h3 h4

theorem wpList_app {P : Program} {t e : TypeId} {size bytes : Nat} (E : ElemOf P t e size bytes) (w : World) {ops : Array Oper} {rest : List Oper} {o : Oper} {a : Act} {Q : Exit → Act → World → Prop} (hgd : o.guard = none) (s x : Operand)
    (ho : o.op = .call { callee := .builtin .append, args := #[s, x], argTypes := #[t, t] })
    (base : Nat) (v : Value) (n : Nat) (xs : List Value) (hs : a.eval s = v) (hown : w.ownsRow base e size v n xs)
    {p : Nat → Prop} (X : Option Addr) (m c : Nat) (news : List Value) (hx : a.eval x = .slice X m c) (hr : Rd p w size X m news) (h1 : ∀ u ∈ news, u.oneCell' = true)
    (h63 : n + m ≤ maxLen) (hbytes : (n + m) * bytes ≤ 140737488355328) (hbase : base ≤ w.heap.size)
    (h : ∀ A' c' w', w'.ownsRow base e size (.slice A' (n + m) c') (n + m) (xs ++ news) → Fr (fun k => v.ownBlock = some k) w w' →
      (∀ k, (Value.slice A' (n + m) c').ownBlock = some k → v.ownBlock = some k ∨ w.heap.size ≤ k) → wpList P ops Q rest (a.put o.dst (.slice A' (n + m) c')) w') : wpList P ops Q (o :: rest) a w :=
  wpList_plain hgd fun _ hK => wp_app E w s x ho base v n xs hs hown X m c news hx hr h1 h63 hbytes hbase fun A' c' w' h2 h3 h4 => hK _ _ (h A' c' w' h2 h3 h4)

theorem step_app {P : Program} {t e : TypeId} {size bytes : Nat} (E : ElemOf P t e size bytes) (w : World) {ops : Array Oper} {o : Oper} {a : Act} {K : Act → World → Prop} {Q : Exit → Act → World → Prop} {F : Prop} (hgd : o.guard = none) (s x : Operand)
    (ho : o.op = .call { callee := .builtin .append, args := #[s, x], argTypes := #[t, t] })
    (base : Nat) (v : Value) (n : Nat) (xs : List Value) (hs : a.eval s = v) (hown : w.ownsRow base e size v n xs)
    {p : Nat → Prop} (X : Option Addr) (m c : Nat) (news : List Value) (hx : a.eval x = .slice X m c) (hr : Rd p w size X m news) (h1 : ∀ u ∈ news, u.oneCell' = true)
    (h63 : n + m ≤ maxLen) (hbytes : (n + m) * bytes ≤ 140737488355328) (hbase : base ≤ w.heap.size)
    (h : ∀ A' c' w', w'.ownsRow base e size (.slice A' (n + m) c') (n + m) (xs ++ news) → Fr (fun k => v.ownBlock = some k) w w' →
      (∀ k, (Value.slice A' (n + m) c').ownBlock = some k → v.ownBlock = some k ∨ w.heap.size ≤ k) → K (a.put o.dst (.slice A' (n + m) c')) w') :
    if Region.wanted o (yielded ops a.tmps) = true then Oper.wp P o a w K Q else F := by
  have hw : Region.wanted o (yielded ops a.tmps) = true := by simp [Region.wanted, hgd]
  rw [if_pos hw]
  exact wp_app E w s x ho base v n xs hs hown X m c news hx hr h1 h63 hbytes hbase h

/-- A new block read as a slice of m elements. -/
theorem Rd.new {p : Nat → Prop} (w : World) (cs : Array Value) (t : TypeId) (size m : Nat) (hm : cs.size = m * size) (hp : p w.heap.size) : Rd p (w.alloc (.cells cs t)) size (some ⟨w.heap.size, 0, none⟩) m cs.toList :=
  ⟨by simpa using hm, fun _ => ⟨_, rfl, hp, by simp, fun j u hu => by rw [add_own]; rw [(Blk.new w t cs).cell j]; simpa using hu⟩⟩
theorem Rd.ofBlk {p : Nat → Prop} {w : World} {g : Nat} {cs : Array Value} {t : TypeId} (h : Blk w g t cs) (size m : Nat) (hm : cs.size = m * size) (hp : p g) : Rd p w size (some ⟨g, 0, none⟩) m cs.toList :=
  ⟨by simpa using hm, fun _ => ⟨_, rfl, hp, h.lt, fun j u hu => by rw [add_own]; rw [h.cell j]; simpa using hu⟩⟩
end Go.Proofs.Ytfhinmjpokollaa
/- A world that has new blocks and is else as another one was ('New'), with its laws; rows that are made empty; small words for the ends of walks. No condition. -/
namespace Go.Proofs.Ytfhinmjpokollaa
set_option linter.unusedVariables false
set_option linter.unusedSimpArgs false
set_option linter.constructorNameAsVariable false
open Go.RowKit

abbrev New (w w' : World) : Prop := Below w.heap.size w w'

section
variable {w w' w'' : World}
theorem New.refl (w : World) : New w w := Below.refl _ _
theorem New.tr (h : New w w') (k : New w' w'') : New w w'' := Below.trans h (Below.mono k h.size)
theorem New.al (h : New w w') (o : Obj) : New w (w'.alloc o) := Below.alloc h h.size o
theorem New.dr (h : New w w') : New w w'.drew := h.drew
theorem New.dn (h : New w w') (n : Nat) : New w (w'.drewN n) := ⟨h.os, h.tape, h.output, h.size, h.block⟩
theorem New.fr {S : Nat → Prop} (h : New w w') (hf : Fr S w' w'') (hS : ∀ k, S k → w.heap.size ≤ k) : New w w'' :=
  ⟨hf.os.trans h.os, hf.tape.trans h.tape, hf.output.trans h.output, Nat.le_trans h.size hf.size, fun i hi =>
    (hf.block i (Nat.lt_of_lt_of_le hi h.size) (fun hs => by have := hS i hs; omega)).trans (h.block i hi)⟩
theorem New.toFr (S : Nat → Prop) (h : New w w') : Fr S w w' := ⟨h.os, h.tape, h.output, h.size, fun k hk _ => h.block k hk⟩
theorem New.cell_ (h : New w w') {p : Addr} {v : Value} (hv : w.cell? p = some v) : w'.cell? p = some v :=
  (World.cell?_of_block (w := w) (h.block p.block (World.block_lt_of_cell? w p hv))).trans hv
theorem New.blk (h : New w w') {g : Nat} {t : TypeId} {cs : Array Value} (hb : Blk w g t cs) : Blk w' g t cs := (h.block g hb.lt).trans hb
theorem New.own (h : New w w') {base e size n : Nat} {v : Value} {xs : List Value} (ho : w.ownsRow base e size v n xs) : w'.ownsRow base e size v n xs :=
  own_fr ho (h.toFr NoB) (fun _ _ x => x)
theorem New.rd (h : New w w') {p : Nat → Prop} {size n : Nat} {A : Option Addr} {xs : List Value} (hr : Rd p w size A n xs) : Rd p w' size A n xs :=
  hr.fr (h.toFr NoB) (fun _ _ x => x)
theorem New.set (h : New w w') {p : Addr} (hp : w.heap.size ≤ p.block) (u : Value) : New w (w'.setCell p u) := Below.setCell h hp u
end

theorem Blk.drew {w : World} {g : Nat} {t : TypeId} {cs : Array Value} (h : Blk w g t cs) : Blk w.drew g t cs := h
theorem Blk.drewN {w : World} {g : Nat} {t : TypeId} {cs : Array Value} (h : Blk w g t cs) (n : Nat) : Blk (w.drewN n) g t cs := h
theorem Blk.new' {g : Nat} (w : World) (t : TypeId) (cs : Array Value) (h : g = w.heap.size) : Blk (w.alloc (.cells cs t)) g t cs := h ▸ Blk.new w t cs
theorem Blk.eqn {w : World} {g g' : Nat} {t : TypeId} {cs : Array Value} (h : Blk w g t cs) (e : g' = g) : Blk w g' t cs := e ▸ h
theorem Fr.set2 {S : Nat → Prop} {w w2 : World} {g : Nat} (h : Fr S w w2) (hg : g < w.heap.size → S g) (X Y : Value) : Fr S w ((w2.setCell ⟨g, 0, none⟩ X).setCell ⟨g, 1, none⟩ Y) := (h.setCell (p := ⟨g, 0, none⟩) hg X).setCell (p := ⟨g, 1, none⟩) hg Y
theorem blk_set2 {w : World} {g : Nat} {t : TypeId} {a b : Value} (h : Blk w g t #[a, b]) (X Y : Value) : Blk ((w.setCell ⟨g, 0, none⟩ X).setCell ⟨g, 1, none⟩ Y) g t #[X, Y] := by
  have := (h.set 0 X).set 1 Y
  simpa using this

/-- A row that was made empty. -/
theorem own_lit {P : Nat} {w : World} {g : Nat} {t : TypeId} {size : Nat} (h : Blk w g t #[]) (hP : P ≤ g) : w.ownsRow P t size (.slice (some ⟨g, 0, none⟩) 0 0) 0 [] :=
  ⟨by simp, .inr ⟨g, 0, #[], rfl, hP, h, Nat.le_refl _, Nat.zero_le _, by simp, by simp⟩⟩
end Go.Proofs.Ytfhinmjpokollaa
/- Slices of bytes: as strings, held against each other, cloned. No condition but that they can be read. -/
namespace Go.Proofs.Ytfhinmjpokollaa
set_option linter.unusedVariables false
set_option linter.unusedSimpArgs false
set_option linter.constructorNameAsVariable false
open Go.RowKit

def u8s (xs : List Int) : List Value := xs.map (Value.int .u8)
theorem u8s_len (xs : List Int) : (u8s xs).length = xs.length := by simp [u8s]
theorem u8s_one (xs : List Int) : ∀ u ∈ u8s xs, u.oneCell' = true := by
  intro u hu
  simp only [u8s, List.mem_map] at hu
  obtain ⟨x, _, rfl⟩ := hu
  rfl
def Byt (xs : List Int) : Prop := ∀ x ∈ xs, 0 ≤ x ∧ x < 256
theorem elB : ElemOf Try.prog 39 5 1 1 := ElemOf.mk' (z := .int .u8 0) Try.underlying39 (by kernel_rfl) rfl (by decide)

theorem str_inj {xs ys : List Int} (hx : Byt xs) (hy : Byt ys) : ((strOfNums xs).toList == (strOfNums ys).toList) = decide (xs = ys) := by
  rw [ByteArray.toList_eq, ByteArray.toList_eq, strOfNums_data, strOfNums_data, Bool.eq_iff_iff, decide_eq_true_iff, beq_iff_eq]
  constructor
  · intro h2
    induction xs generalizing ys with
    | nil => cases ys <;> simp at h2 ⊢
    | cons x xs ih =>
      cases ys with
      | nil => simp at h2
      | cons y ys =>
        simp only [List.map_cons, List.cons.injEq] at h2
        obtain ⟨hx0, hx1⟩ := hx x (by simp)
        obtain ⟨hy0, hy1⟩ := hy y (by simp)
        have e : x = y := by
          have := congrArg UInt8.toNat h2.1
          simp [UInt8.toNat_ofNat'] at this
          omega
        rw [e, ih (fun z hz => hx z (by simp [hz])) (fun z hz => hy z (by simp [hz])) h2.2]
  · rintro rfl
    rfl

/-- The bytes as a string. -/
theorem run_conv {p : Nat → Prop} {w : World} {A : Option Addr} {n c : Nat} {xs : List Int} (h : Rd p w 1 A n (u8s xs)) : (convert 39 9 (.slice A n c)).run Try.prog w = .ok (.string (strOfNums xs)) w := by
  have hl : xs.length = n := by have := h.1; rw [u8s_len] at this; omega
  rcases Nat.eq_zero_or_pos n with h0 | h0
  · subst h0
    have hz : xs = [] := List.eq_nil_of_length_eq_zero hl
    subst hz
    rcases A with _ | ad
    · exact run_convert_bytes_nil w 39 5 Try.underlying39 Try.underlying5 0 c 9 Try.underlying9
    · rw [run_convert_bytes_string w 39 9 5 _ 0 c Try.underlying39 Try.underlying5 Try.underlying9, run_bytesToString w ad 0 c [] rfl]
      rfl
  · obtain ⟨g, o, rfl, -, -, hc⟩ := h.out h0 (by omega)
    refine run_convert_bytes_arg w 39 5 Try.underlying39 Try.underlying5 g o n c xs hl (fun i hi => ?_) 9 Try.underlying9
    refine hc i _ ?_
    have hi' : i < xs.length := by omega
    simp [u8s, hi']

theorem bytes_any {p q : Nat → Prop} (A B : Option Addr) (n m c d : Nat) (xs ys : List Int) (w : World) (hx : Rd p w 1 A n (u8s xs)) (hy : Rd q w 1 B m (u8s ys)) (bx : Byt xs) (by_ : Byt ys) :
    Calls Try.prog 21 #[.slice A n c, .slice B m d] w fun e w' => e = .returned (.bool (decide (xs = ys))) ∧ w = w' := by
  have h1 := run_conv (c := c) hx
  have h2 := run_conv (c := d) hy
  have h3 := str_inj bx by_
  generalize strOfNums xs = s1 at h1 h3
  generalize strOfNums ys = s2 at h2 h3
  generalize decide (xs = ys) = r at h3 ⊢
  clear hx hy bx by_
  go_enter Try.func21, Try.ntmps21
  go_wp2_with fail
  go_ret
  exact ⟨rfl, rfl⟩
theorem equal_any {p q : Nat → Prop} (A B : Option Addr) (n m c d : Nat) (xs ys : List Int) (w : World) (hx : Rd p w 1 A n (u8s xs)) (hy : Rd q w 1 B m (u8s ys)) (bx : Byt xs) (by_ : Byt ys) :
    Calls Try.prog 35 #[.slice A n c, .slice B m d] w fun e w' => e = .returned (.bool (decide (xs = ys))) ∧ w = w' := by
  have h1 := run_conv (c := c) hx
  have h2 := run_conv (c := d) hy
  have h3 := str_inj bx by_
  generalize strOfNums xs = s1 at h1 h3
  generalize strOfNums ys = s2 at h2 h3
  generalize decide (xs = ys) = r at h3 ⊢
  clear hx hy bx by_
  go_enter Try.func35, Try.ntmps35
  go_wp2_with fail
  go_ret
  exact ⟨rfl, rfl⟩
theorem bclone_any (A : Option Addr) (n c : Nat) (xs : List Int) (w : World) (hO : Rd (fun b => b < w.heap.size) w 1 A n (u8s xs)) (hn : n ≤ 1000000) :
    Calls Try.prog 39 #[.slice A n c] w fun e w' => (∃ A' c', e = .returned (.slice A' n c') ∧ w'.ownsRow w.heap.size 5 1 (.slice A' n c') n (u8s xs)) ∧ New w w' := by
  have HR := Lib.hid hO
  rcases A with _ | ad
  · have h0 : n = 0 := by
      rcases Nat.eq_zero_or_pos n with h | h
      · exact h
      · obtain ⟨ad, h', _⟩ := hO.2 h
        cases h'
    subst h0
    have hz : xs = [] := List.eq_nil_of_length_eq_zero (by have := hO.1; rw [u8s_len] at this; omega)
    subst hz
    clear hO
    have hen := fun w => Lib.run_eql_slice_nil (P := Try.prog) w 39 5 none 0 c 0 0 Try.underlying39
    go_enter Try.func39, Try.ntmps39
    go_wp2_with fail
    go_ret
    exact ⟨⟨none, 0, rfl, World.ownsRow_nil _ _ _ _⟩, New.refl w⟩
  · clear hO
    have hen := fun w => Lib.run_eql_slice_nil (P := Try.prog) w 39 5 (some ad) n c 0 0 Try.underlying39
    go_enter Try.func39, Try.ntmps39
    go_wp2_with (at_builtin; refine wpList_app elB _ rfl (.tmp 5) (.tmp 6) rfl w.heap.size (.slice (some ⟨w.heap.size, 0, none⟩) 0 0) 0 [] rfl (own_lit (Blk.new w 5 #[]) (Nat.le_refl _)) (some ad) n c (u8s xs) rfl (New.rd (New.al (New.refl w) _) HR.out) (u8s_one xs) (by unfold maxLen; omega) (by omega) (by simp) ?_; intro A1 d1 w3 hO3 hF3 hA3; rw [Nat.zero_add]; rw [Nat.zero_add, List.nil_append] at hO3; have HO3 := Lib.hid hO3; have HN3 : Hid (New w w3) := Lib.hid ((New.al (New.refl w) _).fr hF3 (by intro k hk; simp [Value.ownBlock] at hk; omega)); clear hO3 hF3 hA3)
    go_ret
    exact ⟨⟨A1, d1, rfl, HO3.out⟩, HN3.out⟩
end Go.Proofs.Ytfhinmjpokollaa
/- Maps that a call makes, with elements of whatever type: a map is told by a function from its keys to values. No condition. -/
namespace Go.Proofs.Ytfhinmjpokollaa
set_option linter.unusedVariables false
set_option linter.unusedSimpArgs false
set_option linter.constructorNameAsVariable false
open Go.RowKit Go.Maps

/-- An element as itself. -/
def Rv (v : Value) : Option (DataW Value × List MemPlace) := some (.held v, [])
def valOf : DataW Value → Value | .held v => v | _ => undef

/-- f, but v at key kl. -/
def putF (f : Lit → Option Value) (kl : Lit) (v : Option Value) : Lit → Option Value := fun x => if x.sameKey kl then v else f x
theorem putF_same {f : Lit → Option Value} {kl : Lit} (hk : WideAt.IsKeyLit kl) (v : Option Value) : putF f kl v kl = v := by
  unfold putF
  rw [if_pos (by cases kl <;> simp_all [Lit.sameKey, WideAt.IsKeyLit])]
theorem putF_other {f : Lit → Option Value} {kl x : Lit} (h : x ≠ kl) (v : Option Value) : putF f kl v x = f x := by
  unfold putF
  rw [if_neg (by rw [Maps.sameKey_ne h]; simp)]
theorem putF_int {f : Lit → Option Value} {q : IntKind} (a b : Int) (v : Option Value) : putF f (.int q a) v (.int q b) = if b = a then v else f (.int q b) := by
  by_cases h : b = a
  · subst h; rw [if_pos rfl]; exact putF_same (kl := .int q b) trivial v
  · rw [if_neg h]; exact putF_other (by simpa using h) v

/-- Block b is a map of at most n entries: f says of each key what it holds. -/
def MapAt (w : World) (P : Program) (k : TypeId) (b n : Nat) (f : Lit → Option Value) : Prop :=
  ∃ D : DataW Value, w.ownsMap P k Rv b n D ∧ ∀ kl, f kl = if Maps.has D kl then some (valOf (D.atKey kl (.held undef))) else none

section
variable {P : Program} {k : TypeId} {w w' : World} {b n : Nat} {f : Lit → Option Value}
theorem MapAt.lt (h : MapAt w P k b n f) : b < w.heap.size := by obtain ⟨D, hD, _⟩ := h; exact hD.lt
theorem MapAt.mono (h : MapAt w P k b n f) {m : Nat} (hm : n ≤ m) : MapAt w P k b m f := by obtain ⟨D, hD, hf⟩ := h; exact ⟨D, hD.mono hm, hf⟩
theorem MapAt.fr {S : Nat → Prop} (h : MapAt w P k b n f) (hf : Fr S w w') (hs : ¬ S b) : MapAt w' P k b n f := by
  obtain ⟨D, hD, h2⟩ := h
  have hlt := hD.lt
  obtain ⟨es, clock, hb, F, hsz, e⟩ := hD
  exact ⟨D, ⟨es, clock, (hf.block b hlt hs).trans hb, F, hsz, e⟩, h2⟩
theorem MapAt.alloc (h : MapAt w P k b n f) (o : Obj) : MapAt (w.alloc o) P k b n f := h.fr (S := NoB) ((Fr.refl _ _).alloc _) (fun x => x)
theorem MapAt.made (w : World) (P : Program) (k : TypeId) : MapAt (w.alloc (.map #[] 0)) P k w.heap.size 0 (fun _ => none) :=
  ⟨.map [], World.ownsMap_made w P k Rv, fun kl => by simp [Maps.has]⟩

/-- What a look-up finds. -/
theorem MapAt.look {t e : TypeId} (h : MapAt w P k b n f) (K : Keyed P k) (ht : P.underlying t = some (.map k e)) {z : Value} (hz : (zeroValue e).run P w = .ok z w) {key : Value} {kl : Lit} (hkey : keyOf P k key = some kl) :
    (Instr.lookup t (.map (some b)) key true).run P w = .ok (.tuple #[(f kl).getD z, .bool (f kl).isSome]) w ∧ (Instr.lookup t (.map (some b)) key false).run P w = .ok ((f kl).getD z) w := by
  obtain ⟨D, hD, hf⟩ := h
  obtain ⟨es, clock, hb, F, _, rfl⟩ := hD
  rcases Maps.fit_look true K ht hz hb F hkey with ⟨hrun, _, hat⟩ | ⟨e0, y, _, _, hrun, hRv, hat, _⟩
  · have hh := Maps.has_false_of_atKey hat
    rcases Maps.fit_look false K ht hz hb F hkey with ⟨hrun', _, hat'⟩ | ⟨e0', y', _, _, hrun', hRv', hat', _⟩
    · rw [hf kl, hh]; exact ⟨hrun, hrun'⟩
    · exact absurd (Maps.has_true_of_atKey hat') (by rw [hh]; simp)
  · have hh := Maps.has_true_of_atKey hat
    have hy : y = (.held e0.val, []) := by unfold Rv at hRv; injection hRv with hRv; exact hRv.symm
    rcases Maps.fit_look false K ht hz hb F hkey with ⟨hrun', _, hat'⟩ | ⟨e0', y', _, _, hrun', hRv', hat', _⟩
    · exact absurd (Maps.has_false_of_atKey hat') (by rw [hh]; simp)
    · have hy' : y' = (.held e0'.val, []) := by unfold Rv at hRv'; injection hRv' with hRv'; exact hRv'.symm
      have e1 := hat (.held undef)
      have e2 := hat' (.held undef)
      rw [e1, hy, hy'] at e2
      injection e2 with e2
      rw [hf kl, hh, if_pos rfl, e1, hy]
      refine ⟨hrun, ?_⟩
      rw [hrun', ← e2]; rfl

/-- What a store leaves. -/
theorem MapAt.store {t e : TypeId} (h : MapAt w P k b n f) (K : Keyed P k) (ht : P.underlying t = some (.map k e)) (hn : n < maxLen) {key : Value} {kl : Lit} (hkey : keyOf P k key = some kl) (val : Value) :
    ∃ w', (Instr.mapUpdate t (.map (some b)) key val).run P w = .ok () w' ∧ MapAt w' P k b (n + 1) (putF f kl (some val)) ∧ Fr (fun j => j = b) w w' := by
  obtain ⟨D, hD, hf⟩ := h
  obtain ⟨w', hrun, h1, h2⟩ := hD.update K ht hn hkey (show Rv val = some (.held val, []) from rfl)
  refine ⟨w', hrun, ⟨_, h1, fun x => ?_⟩, (Fr.refl _ _).grown h2 (fun j _ hj => by injection hj with hj; exact hj.symm)⟩
  by_cases hx : x = kl
  · subst hx
    rw [putF_same (K.key hkey), Maps.has_put_same hD.isMap (K.key hkey), Maps.atKey_put_same hD.isMap (K.key hkey)]
    rfl
  · rw [putF_other hx, Maps.has_put_other hx, Maps.atKey_put_other hx, hf x]

/-- What a delete leaves. -/
theorem MapAt.drop {t e : TypeId} (h : MapAt w P k b n f) (K : Keyed P k) (ht : P.underlying t = some (.map k e)) {key : Value} {kl : Lit} (hkey : keyOf P k key = some kl) (ty : TypeId) :
    ∃ w', (Builtin.delete_ #[t, k] ty #[.map (some b), key]).run P w = .ok (.tuple #[]) w' ∧ MapAt w' P k b n (putF f kl none) ∧ Fr (fun j => j = b) w w' := by
  obtain ⟨D, hD, hf⟩ := h
  obtain ⟨w', hrun, h1, h2⟩ := hD.drop K ht hkey ty
  refine ⟨w', hrun, ⟨_, h1, fun x => ?_⟩, (Fr.refl _ _).grown h2.grown (fun j _ hj => by injection hj with hj; exact hj.symm)⟩
  by_cases hx : x = kl
  · subst hx
    rw [putF_same (K.key hkey), Maps.has_del_same]; rfl
  · rw [putF_other hx, Maps.has_del_other hx, Maps.atKey_del_other hx, hf x]
end

section
variable {P : Program} {w : World} {ops : Array Oper} {rest : List Oper} {o : Oper} {a : Act} {Q : Exit → Act → World → Prop} {b n : Nat} {f : Lit → Option Value}
/-- 'v, ok := m[k]' at the operation: 'v', 'ok' written out by whoever calls. -/
theorem wpList_mlook2 {k e t : TypeId} (hM : MapAt w P k b n f) (K : Keyed P k) (ht : P.underlying t = some (.map k e)) {z : Value} (hz : (zeroValue e).run P w = .ok z w) (hg : o.guard = none) (m x : Operand) (hop : o.op = Op.lookup t m x true)
    (hm : a.eval m = .map (some b)) (key : Value) (kl : Lit) (hx : a.eval x = key) (hkey : keyOf P k key = some kl) (v : Value) (ok : Bool) (hv : (f kl).getD z = v) (hok : (f kl).isSome = ok)
    (hK : wpList P ops Q rest (a.put o.dst (.tuple #[v, .bool ok])) w) : wpList P ops Q (o :: rest) a w := by
  refine wpList_plain hg fun K' hK' => ?_
  have hrun := (hM.look K ht hz hkey).1
  rw [hv, hok] at hrun
  unfold Oper.wp
  simp [execOp, hop, hm, hx, hrun, Result.andThen]
  exact hK' _ _ hK
theorem wpList_mlook1 {k e t : TypeId} (hM : MapAt w P k b n f) (K : Keyed P k) (ht : P.underlying t = some (.map k e)) {z : Value} (hz : (zeroValue e).run P w = .ok z w) (hg : o.guard = none) (m x : Operand) (hop : o.op = Op.lookup t m x false)
    (hm : a.eval m = .map (some b)) (key : Value) (kl : Lit) (hx : a.eval x = key) (hkey : keyOf P k key = some kl) (v : Value) (hv : (f kl).getD z = v)
    (hK : wpList P ops Q rest (a.put o.dst v) w) : wpList P ops Q (o :: rest) a w := by
  refine wpList_plain hg fun K' hK' => ?_
  have hrun := (hM.look K ht hz hkey).2
  rw [hv] at hrun
  unfold Oper.wp
  simp [execOp, hop, hm, hx, hrun, Result.andThen]
  exact hK' _ _ hK
theorem wpList_mstore {k e t : TypeId} (hM : MapAt w P k b n f) (K : Keyed P k) (ht : P.underlying t = some (.map k e)) (hn : n < maxLen) (hg : o.guard = none) (m x v : Operand) (hop : o.op = Op.mapUpdate t m x v)
    (hm : a.eval m = .map (some b)) (key val : Value) (kl : Lit) (hx : a.eval x = key) (hv : a.eval v = val) (hkey : keyOf P k key = some kl)
    (hK : ∀ w', MapAt w' P k b (n + 1) (putF f kl (some val)) → Fr (fun j => j = b) w w' → wpList P ops Q rest (a.put o.dst undef) w') : wpList P ops Q (o :: rest) a w := by
  refine wpList_plain hg fun K' hK' => ?_
  obtain ⟨w', hrun, r1, r2⟩ := hM.store K ht hn hkey val
  unfold Oper.wp
  simp [execOp, hop, hm, hx, hv, hrun, Result.andThen]
  exact hK' _ _ (hK w' r1 r2)
theorem wpList_mdel {k e t : TypeId} (hM : MapAt w P k b n f) (K : Keyed P k) (ht : P.underlying t = some (.map k e)) (hg : o.guard = none) (m x : Operand) (hop : o.op = Op.call { callee := Callee.builtin Builtin.delete, args := #[m, x], argTypes := #[t, k] })
    (hm : a.eval m = .map (some b)) (key : Value) (kl : Lit) (hx : a.eval x = key) (hkey : keyOf P k key = some kl)
    (hK : ∀ w', MapAt w' P k b n (putF f kl none) → Fr (fun j => j = b) w w' → wpList P ops Q rest (a.put o.dst (.tuple #[])) w') : wpList P ops Q (o :: rest) a w := by
  refine wpList_plain hg fun K' hK' => ?_
  obtain ⟨w', hrun, r1, r2⟩ := hM.drop K ht hkey o.type
  unfold Oper.wp
  simp [execOp, hop, resolve, invoke, builtin, hm, hx, hrun, Result.andThen]
  exact hK' _ _ (hK w' r1 r2)
theorem step_mstore {k e t : TypeId} {K : Act → World → Prop} {F : Prop} (hM : MapAt w P k b n f) (KK : Keyed P k) (ht : P.underlying t = some (.map k e)) (hn : n < maxLen) (hg : o.guard = none) (m x v : Operand) (hop : o.op = Op.mapUpdate t m x v)
    (hm : a.eval m = .map (some b)) (key val : Value) (kl : Lit) (hx : a.eval x = key) (hv : a.eval v = val) (hkey : keyOf P k key = some kl)
    (hK : ∀ w', MapAt w' P k b (n + 1) (putF f kl (some val)) → Fr (fun j => j = b) w w' → K (a.put o.dst undef) w') :
    if Region.wanted o (yielded ops a.tmps) = true then Oper.wp P o a w K Q else F := by
  have hw : Region.wanted o (yielded ops a.tmps) = true := by simp [Region.wanted, hg]
  rw [if_pos hw]
  obtain ⟨w', hrun, r1, r2⟩ := hM.store KK ht hn hkey val
  unfold Oper.wp
  simp [execOp, hop, hm, hx, hv, hrun, Result.andThen]
  exact hK w' r1 r2
end
end Go.Proofs.Ytfhinmjpokollaa
