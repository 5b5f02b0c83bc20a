/- Texts of one proof, one behind the other: Mem, App, New, Qb, Qt, Num, ShA, OcA, Last, Mx, Bytes, ShB, Whole, Sec, Rng, RngB, ShC, ShP. No condition but each one's own. -/
import Derived.WalkKit
import Derived.ProofKit
import Derived.Deep.AppendLies
import Derived.Deep.Draws
import Derived.Maps.AppendAt
import Derived.Laws.AppendOwnNone
import Derived.Lib.Hide
import Derived.WalkSpells
import Derived.WalkLawsBesides
import Derived.Deep.LoopGhost
import Derived.Deep.QuietTactic
import Derived.BigQuiet
import Derived.Deep.RegionWith
import Derived.Deep.RegionHeld3
import Derived.Deep.RegionLaw
import Derived.BigGuardPart
import Derived.Deep.Light
import Derived.Deep.DeepCutAuto
import Derived.Deep.DeepMust
import Derived.Lib.QuietBelowIn
import Derived.Sort.QuietTacIn
import Derived.RangeFuncCalls
import Derived.StillTail
import Derived.Test.YtmibndkofoldkaaGreatDoorRows
import Derived.OrdersHeld
import Derived.Laws.BytesArg
import Derived.Deep.WholeRow
import Derived.Deep.MidRow
import Derived.Stop.BytesEq
import Derived.RangeFuncNested
import Derived.RangeFuncBound
namespace Go.Proofs.YtmibndkofoldkaaGreatDoor
set_option linter.unusedVariables false
set_option linter.unusedSimpArgs false
set_option linter.constructorNameAsVariable false
open Go.RowKit
structure Fr (S : Nat → Prop) (w w' : World) : Prop where
 os : w'.os = w.os
 tape : w'.tape = w.tape
 output : w'.output = w.output
 size : w.heap.size ≤ w'.heap.size
 block : ∀ k, k < w.heap.size → ¬ S k → w'.heap[k]? = w.heap[k]?
def NoB : Nat → Prop := fun _ => False
section
variable {S T : Nat → Prop} {w w' w'' : World}
theorem Fr.refl (S : Nat → Prop) (w : World) : Fr S w w := ⟨rfl, rfl, rfl, Nat.le_refl _, fun _ _ _ => rfl⟩
theorem Fr.trans' (h : Fr S w w') (k : Fr T w' w'') (hT : ∀ b, b < w.heap.size → T b → S b) : Fr S w w'' :=
 ⟨k.os.trans h.os, k.tape.trans h.tape, k.output.trans h.output, Nat.le_trans h.size k.size, fun i hi hs =>
  (k.block i (Nat.lt_of_lt_of_le hi h.size) (fun ht => hs (hT i hi ht))).trans (h.block i hi hs)⟩
theorem Fr.trans (h : Fr S w w') (k : Fr S w' w'') : Fr S w w'' := h.trans' k fun _ _ x => x
theorem Fr.mono (h : Fr S w w') (hS : ∀ b, b < w.heap.size → S b → T b) : Fr T w w' :=
 ⟨h.os, h.tape, h.output, h.size, fun i hi hs => h.block i hi fun x => hs (hS i hi x)⟩
theorem Fr.drew (h : Fr S w w') : Fr S w w'.drew := ⟨h.os, h.tape, h.output, h.size, h.block⟩
theorem Fr.ofDrew (h : Fr S w.drew w') : Fr S w w' := ⟨h.os, h.tape, h.output, h.size, h.block⟩
theorem Fr.alloc (h : Fr S w w') (o : Obj) : Fr S w (w'.alloc o) :=
 h.trans ⟨rfl, rfl, rfl, by simp, fun k hk _ => Below.heap_alloc _ _ _ hk⟩
theorem Fr.setCell (h : Fr S w w') {p : Addr} (hp : p.block < w.heap.size → S p.block) (u : Value) : Fr S w (w'.setCell p u) :=
 h.trans' (T := fun k => k = p.block) ⟨rfl, rfl, rfl, by simp [World.setCell], fun k _ hs => Below.heap_setCell _ _ _ _ hs⟩ fun b hb e => by subst e; exact hp hb
theorem Fr.grown {row : Option Nat} (h : Fr S w w') (hg : w'.grownBy w'' row) (hr : ∀ k, k < w.heap.size → row = some k → S k) : Fr S w w'' :=
 h.trans' (T := fun k => row = some k) ⟨hg.os, hg.tape, hg.output, hg.size, fun k hk hs => hg.block k hk fun e => hs e.symm⟩ hr
theorem Fr.cell (h : Fr S w w') {p : Addr} (hp : p.block < w.heap.size) (hs : ¬ S p.block) : w'.cell? p = w.cell? p := World.cell?_of_block (w := w) (h.block p.block hp hs)
theorem Fr.cell_some (h : Fr S w w') {p : Addr} {v : Value} (hv : w.cell? p = some v) (hs : ¬ S p.block) : w'.cell? p = some v := (h.cell (World.block_lt_of_cell? w p hv) hs).trans hv
end
def Blk (w : World) (g : Nat) (t : TypeId) (cs : Array Value) : Prop := w.heap[g]? = some (.cells cs t (0, 0))
section
variable {w w' : World} {g : Nat} {t : TypeId} {cs : Array Value}
theorem Blk.lt (h : Blk w g t cs) : g < w.heap.size := lt_of_block h
theorem Blk.cell (h : Blk w g t cs) (i : Nat) : w.cell? ⟨g, i, none⟩ = cs[i]? := cell_of_row w g i cs t (0, 0) h
theorem Blk.frozen (h : Blk w g t cs) (i : Nat) : w.frozen? ⟨g, i, none⟩ = false := frozen_of_row w g i cs t h
theorem Blk.new (w : World) (t : TypeId) (cs : Array Value) : Blk (w.alloc (.cells cs t)) w.heap.size t cs := heap_alloc_new w _
theorem Blk.set (h : Blk w g t cs) (i : Nat) (u : Value) : Blk (w.setCell ⟨g, i, none⟩ u) g t (cs.setIfInBounds i u) := heap_setCell_same w g i cs t u h
theorem Blk.fr {S : Nat → Prop} (h : Blk w g t cs) (hf : Fr S w w') (hs : ¬ S g) : Blk w' g t cs := (hf.block g h.lt hs).trans h
theorem Blk.far (h : Blk w g t cs) {p : Addr} (hp : g ≠ p.block) (u : Value) : Blk (w.setCell p u) g t cs := (Below.heap_setCell w p u g hp).trans h
theorem Blk.alloc (h : Blk w g t cs) (o : Obj) : Blk (w.alloc o) g t cs := (Below.heap_alloc w o g h.lt).trans h
theorem Blk.ne_ {g' : Nat} {t' : TypeId} {cs' : Array Value} (h : Blk w g t cs) (h' : Blk w g' t' cs') (hne : t ≠ t') : g ≠ g' := by
 rintro rfl
 unfold Blk at h h'
 rw [h] at h'
 injection h' with h'
 injection h' with _ ht
 exact hne ht
end
section
variable {w w' : World} {base : Nat} {e : TypeId} {size n : Nat} {v : Value} {xs : List Value}
theorem own_ne {g : Nat} {t : TypeId} {cs : Array Value} (h : w.ownsRow base e size v n xs) (hg : Blk w g t cs) (hne : e ≠ t) : v.ownBlock ≠ some g := by
 rcases h.2 with ⟨rfl, _⟩ | ⟨g', cap, cur, rfl, _, hh, _⟩
 · simp [Value.ownBlock]
 · intro he
   have : g' = g := by simpa [Value.ownBlock] using he
   subst this
   exact Blk.ne_ (t := e) hh hg hne rfl
theorem own_fr {S : Nat → Prop} (h : w.ownsRow base e size v n xs) (hf : Fr S w w') (hs : ∀ k, v.ownBlock = some k → ¬ S k) : w'.ownsRow base e size v n xs := by
 refine ⟨h.1, ?_⟩
 rcases h.2 with h0 | ⟨g, cap, cur, rfl, hb, hh, hr⟩
 · exact .inl h0
 · exact .inr ⟨g, cap, cur, rfl, hb, (hf.block g (lt_of_block hh) (hs g rfl)).trans hh, hr⟩
theorem own_base {b : Nat} (h : w.ownsRow base e size v n xs) (hb : ∀ k, v.ownBlock = some k → b ≤ k) : w.ownsRow b e size v n xs := by
 refine ⟨h.1, ?_⟩
 rcases h.2 with h0 | ⟨g, cap, cur, rfl, _, hh, hr⟩
 · exact .inl h0
 · exact .inr ⟨g, cap, cur, rfl, hb g rfl, hh, hr⟩
theorem own_lt (h : w.ownsRow base e size v n xs) : ∀ k, v.ownBlock = some k → base ≤ k ∧ k < w.heap.size := h.lt
theorem own_form (h : w.ownsRow base e size v n xs) (hn : 0 < n) : ∃ g cap, v = .slice (some ⟨g, 0, none⟩) n cap ∧ n ≤ cap ∧ cap ≤ maxLen := by
 rcases h.2 with ⟨_, h0⟩ | ⟨g, cap, cur, rfl, _, _, h1, h2, _⟩
 · omega
 · exact ⟨g, cap, rfl, h1, h2⟩
theorem own_shape (h : w.ownsRow base e size v n xs) : ∃ A cap, v = .slice A n cap ∧ n ≤ cap ∧ cap ≤ maxLen ∧ (A = none → n = 0 ∧ cap = 0) ∧ ∀ a, A = some a → a = ⟨a.block, 0, none⟩ := by
 rcases h.2 with ⟨rfl, rfl⟩ | ⟨g, cap, cur, rfl, _, _, h1, h2, _⟩
 · exact ⟨none, 0, rfl, Nat.le_refl _, Nat.zero_le _, fun _ => ⟨rfl, rfl⟩, fun a ha => by cases ha⟩
 · exact ⟨_, cap, rfl, h1, h2, (by intro h; cases h), (by intro a ha; injection ha with ha; subst ha; rfl)⟩
end
theorem add_block (a : Addr) (n : Nat) : (a.add n).block = a.block := by unfold Addr.add; split <;> rfl
theorem add_add' (a : Addr) (i j : Nat) : (a.add i).add j = a.add (i + j) := by
 unfold Addr.add
 by_cases hi : i = 0 <;> by_cases hj : j = 0 <;> simp [hi, hj, Nat.add_assoc]
theorem add_own (g j : Nat) : (⟨g, 0, none⟩ : Addr).add j = ⟨g, j, none⟩ := by
 unfold Addr.add
 by_cases hj : j = 0 <;> simp [hj]
def Rd (p : Nat → Prop) (w : World) (size : Nat) (A : Option Addr) (n : Nat) (xs : List Value) : Prop :=
 xs.length = n * size ∧ (0 < n → ∃ ad, A = some ad ∧ p ad.block ∧ ad.block < w.heap.size ∧ ∀ j u, xs[j]? = some u → w.cell? (ad.add j) = some u)
section
variable {p q S : Nat → Prop} {w w' : World} {size n : Nat} {A : Option Addr} {xs : List Value}
theorem Rd.nil : Rd p w size A 0 [] := ⟨by simp, fun h => absurd h (by omega)⟩
theorem Rd.out (h : Rd p w size A n xs) (hn : 0 < n) (hs : 0 < size) : ∃ g o, A = some ⟨g, o, none⟩ ∧ p g ∧ g < w.heap.size ∧ ∀ j u, xs[j]? = some u → w.cell? ⟨g, o + j, none⟩ = some u := by
 obtain ⟨⟨g, o, sp⟩, e, hp, hb, hc⟩ := h.2 hn
 have hl : 0 < xs.length := by rw [h.1]; exact Nat.mul_pos hn hs
 have h0 := hc 0 _ (List.getElem?_eq_getElem hl)
 have hsp : sp = none := by
  cases sp with
  | none => rfl
  | some x =>
   simp only [Addr.add, if_true, World.cell?] at h0
   split at h0 <;> simp at h0
 subst hsp
 refine ⟨g, o, e, hp, hb, fun j u hu => ?_⟩
 have := hc j u hu
 unfold Addr.add at this
 split at this
 · next hj => subst hj; exact this
 · exact this
theorem Rd.fr (h : Rd p w size A n xs) (hf : Fr S w w') (hs : ∀ k, p k → ¬ S k) : Rd p w' size A n xs :=
 ⟨h.1, fun hn => by
  obtain ⟨ad, e, hp, hb, hc⟩ := h.2 hn
  exact ⟨ad, e, hp, Nat.lt_of_lt_of_le hb hf.size, fun j u hu => by
   have := hc j u hu
   rwa [← hf.cell (p := ad.add j) (by rw [add_block]; exact hb) (by rw [add_block]; exact hs _ hp)] at this⟩⟩
theorem Rd.imp (h : Rd p w size A n xs) (hq : ∀ k, p k → q k) : Rd q w size A n xs :=
 ⟨h.1, fun hn => by obtain ⟨ad, e, hp, r⟩ := h.2 hn; exact ⟨ad, e, hq _ hp, r⟩⟩
theorem Rd.own {base : Nat} {e : TypeId} {v : Value} (h : w.ownsRow base e size v n xs) {c : Nat} (hv : v = .slice A n c) : Rd (fun k => v.ownBlock = some k) w size A n xs := by
 refine ⟨h.1, fun hn => ?_⟩
 obtain ⟨g, cap, hv', _⟩ := own_form h hn
 subst hv'
 injection hv with hA
 subst hA
 exact ⟨_, rfl, rfl, (own_lt h g rfl).2, h.cells (g := g) rfl⟩
theorem Rd.drop (h : Rd p w size A n xs) {k cap : Nat} (hk : k ≤ n) (hc : n ≤ cap) : Rd p w size (if cap = k then A else A.map (·.add (k * size))) (n - k) (xs.drop (k * size)) := by
 refine ⟨by rw [List.length_drop, h.1, Nat.sub_mul], fun hn => ?_⟩
 obtain ⟨ad, rfl, hp, hb, hcell⟩ := h.2 (by omega)
 rw [if_neg (by omega)]
 refine ⟨ad.add (k * size), rfl, by rw [add_block]; exact hp, by rw [add_block]; exact hb, fun j u hu => ?_⟩
 rw [add_add']
 exact hcell _ u (by rw [← hu, List.getElem?_drop])
end
end Go.Proofs.YtmibndkofoldkaaGreatDoor
namespace Go.Proofs.YtmibndkofoldkaaGreatDoor
set_option linter.unusedVariables false
set_option linter.unusedSimpArgs false
set_option linter.constructorNameAsVariable false
open Go.RowKit
structure ElemOf (P : Program) (t e : TypeId) (size bytes : Nat) : Prop where
 ht : P.underlying t = some (.slice e)
 info : ∃ i z, P.info? e = some i ∧ i.zero = some z ∧ i.size = size ∧ i.bytes = bytes ∧ z.cells.size = size
 pos : 0 < size
theorem ElemOf.mk' {P : Program} {t e : TypeId} {z : Value} {size bytes : Nat} (ht : P.underlying t = some (.slice e)) (h : (P.info? e).map (fun i => (i.zero, i.size, i.bytes)) = some (some z, size, bytes))
    (hz : z.cells.size = size) (hp : 0 < size) : ElemOf P t e size bytes := by
 obtain ⟨i, h1, h2, h3, h4⟩ := info_parts h
 exact ⟨ht, ⟨i, z, h1, h2, h3, h4, hz⟩, hp⟩
theorem run_append_nothing {P : Program} (w : World) (base : Nat) (t ty e : TypeId) (i : TypeInfo) (size : Nat) (ht : P.underlying t = some (.slice e)) (hi : P.info? e = some i)
    (v : Value) (n : Nat) (xs : List Value) (hown : w.ownsRow base e size v n xs) (c : Nat) : (Builtin.append_ #[t, t] ty #[v, .slice none 0 c]).run P w = .ok v w := by
 rcases hown.2 with ⟨rfl, rfl⟩ | ⟨g, cap, cur, rfl, _, _, hnc, _⟩
 · simp [Builtin.append_, run_underlying ht, sizeOf, typeInfo, hi, Builtin.lenOf, Builtin.firstCells]
 · simp [Builtin.append_, run_underlying ht, sizeOf, typeInfo, hi, Builtin.lenOf, Builtin.firstCells, hnc, storeCells]
theorem run_app {P : Program} {t e : TypeId} {size bytes : Nat} (E : ElemOf P t e size bytes) (w : World) (base : Nat) (ty : TypeId)
    (v : Value) (n : Nat) (xs : List Value) (hown : w.ownsRow base e size v n xs)
    {p : Nat → Prop} (X : Option Addr) (m c : Nat) (news : List Value) (hr : Rd p w size X m news) (h1 : ∀ u ∈ news, u.oneCell' = true)
    (h63 : n + m ≤ maxLen) (hbytes : (n + m) * bytes ≤ 140737488355328) (hbase : base ≤ w.heap.size) :
    ∃ A' c' w', (Builtin.append_ #[t, t] ty #[v, .slice X m c]).run P w = .ok (.slice A' (n + m) c') w' ∧ w'.ownsRow base e size (.slice A' (n + m) c') (n + m) (xs ++ news) ∧
     Fr (fun k => v.ownBlock = some k) w w' ∧ (∀ k, (Value.slice A' (n + m) c').ownBlock = some k → v.ownBlock = some k ∨ w.heap.size ≤ k) := by
 obtain ⟨i, z, hi, hz, hsize, hby, hzs⟩ := E.info
 have key : ∃ v' w', (Builtin.append_ #[t, t] ty #[v, .slice X m c]).run P w = .ok v' w' ∧ w'.ownsRow base e size v' (n + m) (xs ++ news) ∧ w.grownBy w' v.ownBlock ∧
     (v'.ownBlock = v.ownBlock ∨ v'.ownBlock = some w.heap.size) := by
  rcases X with _ | ad
  · have hm : m = 0 := by
     rcases Nat.eq_zero_or_pos m with h0 | h0
     · exact h0
     · obtain ⟨ad, h, _⟩ := hr.2 h0
       cases h
    subst hm
    have hn : news = [] := List.eq_nil_of_length_eq_zero (by simpa using hr.1)
    subst hn
    exact ⟨v, w, run_append_nothing w base t ty e i size E.ht hi v n xs hown c, by simpa using hown, World.grownBy.refl w _, .inl rfl⟩
  · have hcells : ∀ j u, news[j]? = some u → w.cell? (ad.add j) = some u := by
     intro j u hu
     rcases Nat.eq_zero_or_pos m with h0 | h0
     · subst h0
       have hn : news = [] := List.eq_nil_of_length_eq_zero (by simpa using hr.1)
       subst hn
       simp at hu
     · obtain ⟨ad', h, _, _, hc⟩ := hr.2 h0
       injection h with h
       subst h
       exact hc j u hu
    obtain ⟨v', w', hrun, h2, h3, _, h5⟩ := run_append_own_at (P := P) w base t ty e i z size bytes E.ht hi hz hsize hby hzs E.pos v n xs hown ad m c news hr.1 hcells h1 h63 hbytes hbase
    exact ⟨v', w', hrun, h2, h3, h5⟩
 obtain ⟨v', w', hrun, h2, h3, h5⟩ := key
 obtain ⟨A', c', rfl, _⟩ := own_shape h2
 refine ⟨A', c', w', hrun, h2, (Fr.refl _ _).grown h3 (fun k _ hk => hk), fun k hk => ?_⟩
 rcases h5 with h5 | h5
 · exact .inl (by rw [← h5]; exact hk)
 · rw [h5] at hk
   injection hk with hk
   exact .inr (by omega)
theorem wp_app {P : Program} {t e : TypeId} {size bytes : Nat} (E : ElemOf P t e size bytes) (w : World) {o : Oper} {a : Act} {K : Act → World → Prop} {Q : Exit → Act → World → Prop} (s x : Operand)
    (ho : o.op = .call { callee := .builtin .append, args := #[s, x], argTypes := #[t, t] })
    (base : Nat) (v : Value) (n : Nat) (xs : List Value) (hs : a.eval s = v) (hown : w.ownsRow base e size v n xs)
    {p : Nat → Prop} (X : Option Addr) (m c : Nat) (news : List Value) (hx : a.eval x = .slice X m c) (hr : Rd p w size X m news) (h1 : ∀ u ∈ news, u.oneCell' = true)
    (h63 : n + m ≤ maxLen) (hbytes : (n + m) * bytes ≤ 140737488355328) (hbase : base ≤ w.heap.size)
    (h : ∀ A' c' w', w'.ownsRow base e size (.slice A' (n + m) c') (n + m) (xs ++ news) → Fr (fun k => v.ownBlock = some k) w w' →
     (∀ k, (Value.slice A' (n + m) c').ownBlock = some k → v.ownBlock = some k ∨ w.heap.size ≤ k) → K (a.put o.dst (.slice A' (n + m) c')) w') : o.wp P a w K Q := by
 obtain ⟨A', c', w', hrun, h2, h3, h4⟩ := run_app E w base o.type v n xs hown X m c news hr h1 h63 hbytes hbase
 unfold Oper.wp execOp
 simp only [ho, resolve, invoke, builtin, Sem.run_bind, Sem.run_pure, Result.andThen_ok, List.map_toArray, List.map_cons, List.map_nil, hs, hx, hrun]
 exact h A' c' w' h2 h3 h4
theorem wpList_app {P : Program} {t e : TypeId} {size bytes : Nat} (E : ElemOf P t e size bytes) (w : World) {ops : Array Oper} {rest : List Oper} {o : Oper} {a : Act} {Q : Exit → Act → World → Prop} (hgd : o.guard = none) (s x : Operand)
    (ho : o.op = .call { callee := .builtin .append, args := #[s, x], argTypes := #[t, t] })
    (base : Nat) (v : Value) (n : Nat) (xs : List Value) (hs : a.eval s = v) (hown : w.ownsRow base e size v n xs)
    {p : Nat → Prop} (X : Option Addr) (m c : Nat) (news : List Value) (hx : a.eval x = .slice X m c) (hr : Rd p w size X m news) (h1 : ∀ u ∈ news, u.oneCell' = true)
    (h63 : n + m ≤ maxLen) (hbytes : (n + m) * bytes ≤ 140737488355328) (hbase : base ≤ w.heap.size)
    (h : ∀ A' c' w', w'.ownsRow base e size (.slice A' (n + m) c') (n + m) (xs ++ news) → Fr (fun k => v.ownBlock = some k) w w' →
     (∀ k, (Value.slice A' (n + m) c').ownBlock = some k → v.ownBlock = some k ∨ w.heap.size ≤ k) → wpList P ops Q rest (a.put o.dst (.slice A' (n + m) c')) w') : wpList P ops Q (o :: rest) a w :=
 wpList_plain hgd fun _ hK => wp_app E w s x ho base v n xs hs hown X m c news hx hr h1 h63 hbytes hbase fun A' c' w' h2 h3 h4 => hK _ _ (h A' c' w' h2 h3 h4)
theorem step_app {P : Program} {t e : TypeId} {size bytes : Nat} (E : ElemOf P t e size bytes) (w : World) {ops : Array Oper} {o : Oper} {a : Act} {K : Act → World → Prop} {Q : Exit → Act → World → Prop} {F : Prop} (hgd : o.guard = none) (s x : Operand)
    (ho : o.op = .call { callee := .builtin .append, args := #[s, x], argTypes := #[t, t] })
    (base : Nat) (v : Value) (n : Nat) (xs : List Value) (hs : a.eval s = v) (hown : w.ownsRow base e size v n xs)
    {p : Nat → Prop} (X : Option Addr) (m c : Nat) (news : List Value) (hx : a.eval x = .slice X m c) (hr : Rd p w size X m news) (h1 : ∀ u ∈ news, u.oneCell' = true)
    (h63 : n + m ≤ maxLen) (hbytes : (n + m) * bytes ≤ 140737488355328) (hbase : base ≤ w.heap.size)
    (h : ∀ A' c' w', w'.ownsRow base e size (.slice A' (n + m) c') (n + m) (xs ++ news) → Fr (fun k => v.ownBlock = some k) w w' →
     (∀ k, (Value.slice A' (n + m) c').ownBlock = some k → v.ownBlock = some k ∨ w.heap.size ≤ k) → K (a.put o.dst (.slice A' (n + m) c')) w') :
    if Region.wanted o (yielded ops a.tmps) = true then Oper.wp P o a w K Q else F := by
 have hw : Region.wanted o (yielded ops a.tmps) = true := by simp [Region.wanted, hgd]
 rw [if_pos hw]
 exact wp_app E w s x ho base v n xs hs hown X m c news hx hr h1 h63 hbytes hbase h
theorem Rd.ofBlk {p : Nat → Prop} {w : World} {g : Nat} {cs : Array Value} {t : TypeId} (h : Blk w g t cs) (size m : Nat) (hm : cs.size = m * size) (hp : p g) : Rd p w size (some ⟨g, 0, none⟩) m cs.toList :=
 ⟨by simpa using hm, fun _ => ⟨_, rfl, hp, h.lt, fun j u hu => by rw [add_own]; rw [h.cell j]; simpa using hu⟩⟩
end Go.Proofs.YtmibndkofoldkaaGreatDoor
namespace Go.Proofs.YtmibndkofoldkaaGreatDoor
set_option linter.unusedVariables false
set_option linter.unusedSimpArgs false
set_option linter.constructorNameAsVariable false
open Go.RowKit
abbrev New (w w' : World) : Prop := Below w.heap.size w w'
section
variable {w w' w'' : World}
theorem New.refl (w : World) : New w w := Below.refl _ _
theorem New.tr (h : New w w') (k : New w' w'') : New w w'' := Below.trans h (Below.mono k h.size)
theorem New.al (h : New w w') (o : Obj) : New w (w'.alloc o) := Below.alloc h h.size o
theorem New.dr (h : New w w') : New w w'.drew := h.drew
theorem New.dn (h : New w w') (n : Nat) : New w (w'.drewN n) := ⟨h.os, h.tape, h.output, h.size, h.block⟩
theorem New.fr {S : Nat → Prop} (h : New w w') (hf : Fr S w' w'') (hS : ∀ k, S k → w.heap.size ≤ k) : New w w'' :=
 ⟨hf.os.trans h.os, hf.tape.trans h.tape, hf.output.trans h.output, Nat.le_trans h.size hf.size, fun i hi =>
  (hf.block i (Nat.lt_of_lt_of_le hi h.size) (fun hs => by have := hS i hs; omega)).trans (h.block i hi)⟩
theorem New.toFr (S : Nat → Prop) (h : New w w') : Fr S w w' := ⟨h.os, h.tape, h.output, h.size, fun k hk _ => h.block k hk⟩
theorem New.cell_ (h : New w w') {p : Addr} {v : Value} (hv : w.cell? p = some v) : w'.cell? p = some v :=
 (World.cell?_of_block (w := w) (h.block p.block (World.block_lt_of_cell? w p hv))).trans hv
theorem New.blk (h : New w w') {g : Nat} {t : TypeId} {cs : Array Value} (hb : Blk w g t cs) : Blk w' g t cs := (h.block g hb.lt).trans hb
theorem New.own (h : New w w') {base e size n : Nat} {v : Value} {xs : List Value} (ho : w.ownsRow base e size v n xs) : w'.ownsRow base e size v n xs :=
 own_fr ho (h.toFr NoB) (fun _ _ x => x)
theorem New.rd (h : New w w') {p : Nat → Prop} {size n : Nat} {A : Option Addr} {xs : List Value} (hr : Rd p w size A n xs) : Rd p w' size A n xs :=
 hr.fr (h.toFr NoB) (fun _ _ x => x)
theorem New.set (h : New w w') {p : Addr} (hp : w.heap.size ≤ p.block) (u : Value) : New w (w'.setCell p u) := Below.setCell h hp u
end
theorem Blk.drew {w : World} {g : Nat} {t : TypeId} {cs : Array Value} (h : Blk w g t cs) : Blk w.drew g t cs := h
theorem Blk.new' {g : Nat} (w : World) (t : TypeId) (cs : Array Value) (h : g = w.heap.size) : Blk (w.alloc (.cells cs t)) g t cs := h ▸ Blk.new w t cs
theorem own_lit {P : Nat} {w : World} {g : Nat} {t : TypeId} {size : Nat} (h : Blk w g t #[]) (hP : P ≤ g) : w.ownsRow P t size (.slice (some ⟨g, 0, none⟩) 0 0) 0 [] :=
 ⟨by simp, .inr ⟨g, 0, #[], rfl, hP, h, Nat.le_refl _, Nat.zero_le _, by simp, by simp⟩⟩
end Go.Proofs.YtmibndkofoldkaaGreatDoor
namespace Go.Proofs.YtmibndkofoldkaaGreatDoor
set_option linter.unusedVariables false
set_option linter.unusedSimpArgs false
set_option linter.constructorNameAsVariable false
open Go.RowKit Go.Sort
def noDefer (o : Oper) : Bool := match o.op with | .defer _ => false | _ => true
theorem noDefer_spec {o : Oper} (h : noDefer o = true) : ∀ c, o.op ≠ .defer c := by
 intro c e
 unfold noDefer at h
 rw [e] at h
 cases h
section
variable {F : Fence} {n : Nat} {P : Program} {ops : Array Oper} {md : Region.Mode} {Q : Exit → Act → World → Prop}
theorem wpIn_in_round (r : Nat) (hro : F.round = none) {o : Oper} {a : Act} {w : World} {K : Act → World → Prop} (hd : noDefer o = true) (h : o.wpIn F n P a w K Q) : o.wpIn (F.inRound r) n P a w K Q := by
 unfold Oper.wpIn at *
 refine ⟨h.1, ?_⟩
 have h2 := h.2
 rw [hro, Oper.semAt_none] at h2
 rw [Oper.semAt_eq _ _ _ (noDefer_spec hd)]
 exact h2
theorem wpAnyIn_in_round (r : Nat) (hro : F.round = none) (hd : ∀ (i : Nat) (o : Oper), ops[i]? = some o → noDefer o = true) : ∀ (fuel : Nat) (listed : Array Bool) (a : Act) (w : World), wpAnyIn F n P md ops Q fuel listed a w → wpAnyIn (F.inRound r) n P md ops Q fuel listed a w
 | 0, _, _, _, h => h
 | fuel + 1, listed, a, w, h => by
  refine ⟨h.1, fun i hi => ?_⟩
  have h1 := wpOpIn_mono (fun a w => wpAnyIn_in_round r hro hd fuel _ a w) (h.2 i hi)
  unfold wpOpIn at h1 ⊢
  cases ho : ops[i]? with
  | none => simpa [ho] using h1
  | some o =>
   simp only [ho] at h1 ⊢
   by_cases hw : Region.wanted o (yielded ops a.tmps) = true
   · rw [if_pos hw] at h1 ⊢
     exact wpIn_in_round r hro (hd i o ho) h1
   · rw [if_neg hw] at h1 ⊢
     exact h1
end
theorem calls_regrown {P : Program} {f : FuncId} {args : Array Value} {w : World} {v : Value} (h : ∀ W, New w W → Calls P f args W fun e w' => e = .returned v ∧ New W w') :
    ∀ d os, Calls P f args (grow (redrawn w d) os) fun e w'' => e = .returned v ∧ ∃ p : Regrown, w'' = grow (redrawn w p.d) p.os :=
 fun d os => Calls.regrown_of (h _ (below_regrown w d os))
end Go.Proofs.YtmibndkofoldkaaGreatDoor
namespace Go.Proofs.YtmibndkofoldkaaGreatDoor
set_option linter.unusedVariables false
set_option linter.unusedSimpArgs false
set_option linter.constructorNameAsVariable false
open Go.RowKit Go.Sort
section
variable {P : Program} {ops : Array Oper} {md : Region.Mode} {C : World → Prop}
def wpAnyLQ (P : Program) (md : Region.Mode) (ops : Array Oper) (C : World → Prop) (n : Nat) (L : Array Bool → Act → Prop) : Nat → Array Bool → Act → Prop
 | 0, listed, a => L listed a
 | f + 1, listed, a => Region.ready md ops listed ≠ [] ∧ ∀ i ∈ Region.ready md ops listed, i < n ∧ qOp P ops C i (wpAnyLQ P md ops C n L f (listed.setIfInBounds i true)) a
theorem wpAny_of_headQ {n g : Nat} {L : Array Bool → Act → Prop} {Q' : Exit → Act → World → Prop} (hL : ∀ listed a w, C w → L listed a → wpAny P md ops Q' g listed a w) :
    ∀ (f : Nat) (listed : Array Bool) (a : Act) (w : World), C w → wpAnyLQ P md ops C n L f listed a → wpAny P md ops Q' (f + g) listed a w
 | 0, listed, a, w, hw, h => by rw [Nat.zero_add]; exact hL _ _ _ hw h
 | f + 1, listed, a, w, hw, h => by
  rw [show f + 1 + g = (f + g) + 1 by omega]
  exact ⟨fun h0 => absurd h0 h.1, fun i hi => wpOp_of_qOp hw (fun a' w' hw' h' => wpAny_of_headQ hL f _ a' w' hw' h') (h.2 i hi).2⟩
theorem wpAnyLQ_first {n i : Nat} {oi : Oper} {v : Value} {L : Array Bool → Act → Prop} (hi : ops[i]? = some oi) (hsel : ∀ (j : Nat) (o : Oper) cs b, ops[j]? = some o → o.op ≠ .select cs b)
    (hs : Region.sinkB md ops n = true) (hc : Region.chainB md ops n = true) (hn : n < ops.size) (hin : i < n)
    (hdone : ∀ listed a, L listed a → ∀ j ∈ Region.ready md ops listed, n ≤ j) :
    ∀ (f : Nat) (listed : Array Bool) (a : Act), HeadInv md ops n listed →
     (∀ j oj, ops[j]? = some oj → j ≠ i → listed.getD j true = false → (∀ e ∈ oj.after, Region.binds md e = true → e.on ≠ i) → oi.apart ops oj = true) →
     i ∈ Region.ready md ops listed → YieldsIn P ops C oi v a →
     wpAnyLQ P md ops C n L f (listed.setIfInBounds i true) (a.put oi.dst v) → wpAnyLQ P md ops C n L (f + 1) listed a := by
 intro f
 induction f with
 | zero =>
  intro listed a inv _ hr hy H
  have hun := (mem_ready.1 hr).1
  refine ⟨fun h => (by rw [h] at hr; cases hr), fun j hj => ?_⟩
  have hjn : j < n := by
   rcases Nat.lt_or_ge j n with h | h
   · exact h
   · exact absurd hj (tail_waits hs hc hn inv _ i rfl hin hun j h)
  refine ⟨hjn, ?_⟩
  by_cases hji : j = i
  · subst hji; exact hy.qOp hi H
  · have := hdone _ _ H j (ready_mono hj hji)
    omega
 | succ f ih =>
  intro listed a inv hfree hr hy H
  have hun := (mem_ready.1 hr).1
  refine ⟨fun h => (by rw [h] at hr; cases hr), fun j hj => ?_⟩
  have hjn : j < n := by
   rcases Nat.lt_or_ge j n with h | h
   · exact h
   · exact absurd hj (tail_waits hs hc hn inv _ i rfl hin hun j h)
  refine ⟨hjn, ?_⟩
  by_cases hji : j = i
  · subst hji; exact hy.qOp hi H
  · have h1 := (H.2 j (ready_mono hj hji)).2
    obtain ⟨hjun, oj, hoj, hall⟩ := mem_ready.1 hj
    have hnot : ∀ e ∈ oj.after, Region.binds md e = true → e.on ≠ i := fun e he hb heq => by
     have h1 := hall e he hb
     rw [heq, getD_both hun] at h1
     cases h1
    have h2 := qOp_put hoj (hfree j oj hoj hji hjun hnot) (fun cs b => hsel i oi cs b hi) (fun cs b => hsel j oj cs b hoj) hy h1
    have hfree' : ∀ k ok, ops[k]? = some ok → k ≠ i → (listed.setIfInBounds j true).getD k true = false →
        (∀ e ∈ ok.after, Region.binds md e = true → e.on ≠ i) → oi.apart ops ok = true := fun k ok hk hki hun hno => by
     refine hfree k ok hk hki ?_ hno
     by_cases hjk : j = k
     · subst hjk; exact hjun
     · rw [getD_set_ne true hjk] at hun; exact hun
    refine qOp_mono (fun a' h3 => ih (listed.setIfInBounds j true) a' (inv.set hj hjn) hfree' (ready_mono hr (Ne.symm hji)) h3.1 ?_) h2
    rw [Array.setIfInBounds_comm _ _ hji]
    exact h3.2
theorem wpAnyLQ_lex {n g : Nat} {Lq : Act → Prop} (hsel : Region.noSelect ops = true) (hs : Region.sinkB md ops n = true) (hc : Region.chainB md ops n = true) (hn : n < ops.size) :
    ∀ (l : List Oper) (k : Nat) (listed : Array Bool) (a : Act), (∀ j, j < l.length → l[j]? = ops[k + j]?) → k + l.length = n → HeadInv md ops n listed →
    Region.lexHead md ops g l.length k listed = true → wpQuiet P ops C Lq l a →
    wpAnyLQ P md ops C n (fun listed' a' => Region.seqB md ops g n listed' = true ∧ Lq a') l.length listed a
 | [], k, listed, a, _, hk, _, hB, h => by
  have : k = n := by simpa using hk
  subst this
  exact ⟨by simpa [Region.lexHead] using hB, h⟩
 | o :: l, k, listed, a, hl, hk, inv, hB, h => by
  have h0 : ops[k]? = some o := by simpa using (hl 0 (by simp)).symm
  simp only [List.length_cons, Region.lexHead, Bool.and_eq_true] at hB
  obtain ⟨⟨hr, hf⟩, hB'⟩ := hB
  have hkn : k < n := by simp only [List.length_cons] at hk; omega
  have hr' : k ∈ Region.ready md ops listed := by simpa using hr
  have hst : qOp P ops C k (wpQuiet P ops C Lq l) a := by unfold qOp; simp only [h0]; exact h
  obtain ⟨v, hy, hK⟩ := yieldsIn_of_qOp h0 hst
  exact wpAnyLQ_first h0 (Region.noSelect_spec hsel) hs hc hn hkn (fun listed' a' hL => seqB_ready hL.1) l.length listed a inv (Region.free_spec h0 hf) hr' hy
   (wpAnyLQ_lex hsel hs hc hn l (k + 1) _ _ (fun j hj => by have := hl (j + 1) (by simp; omega); simpa [Nat.add_assoc, Nat.add_comm 1 j] using this) (by simp only [List.length_cons] at hk; omega) (inv.set hr' hkn) hB' hK)
theorem wp_region_tail {id : Nat} {Q : Exit → Act → World → Prop} {a : Act} {w : World} {l : List Oper} (n : Nat) (hm : P.follows .mixedOrders = true) (hB : Region.lexTailB .any l.toArray n = true)
    (h : wpQuiet P l.toArray (fun w' => ∃ p : Regrown, w' = grow (redrawn w p.d) p.os) (fun a' => ∀ w', New w w' → wpList P l.toArray Q (l.drop n) a' w') (l.take n) a) : (Code.region id l.toArray true).wp P Q a w := by
 simp only [Region.lexTailB, Bool.and_eq_true, decide_eq_true_eq] at hB
 obtain ⟨⟨⟨⟨hsel, hn⟩, hs⟩, hc⟩, hlex⟩ := hB
 have hn' : n < l.length := by simpa using hn
 have htl : (l.take n).length = n := by rw [List.length_take]; omega
 have hdl : (l.drop n).length = l.toArray.size - n := by simp
 have inv0 : HeadInv .any l.toArray n (Array.replicate l.toArray.size false) :=
  ⟨by simp, fun j oj _ hl => (by rw [getD_replicate_false] at hl; cases hl), fun t _ ht => getD_in (by simpa using ht) (getD_replicate_false _ _)⟩
 have H := wpAnyLQ_lex (md := .any) (g := l.toArray.size - n) hsel hs hc hn (l.take n) 0 _ a (fun j hj => by
  have hj' : j < n := by rw [htl] at hj; exact hj
  simp [hj']) (by simpa using htl) inv0 (by rw [htl]; exact hlex) h
 refine wp_region_any hm ?_
 have := wpAny_of_headQ (Q' := Q) (g := l.toArray.size - n) (C := fun w' => ∃ p : Regrown, w' = grow (redrawn w p.d) p.os) (fun listed a' w' hw' hL => by
  have hN : New w w' := by
   obtain ⟨p, rfl⟩ := hw'
   exact below_regrown w p.d p.os
  have := wpAny_of_seq (md := .any) (Q' := Q) (l.drop n) n listed a' w' (fun j => by simp [List.getElem?_drop]) (by rw [hdl]; exact hL.1) (hL.2 w' hN)
  rwa [hdl] at this) _ _ _ _ ⟨⟨w.drawn + 1, #[]⟩, by rw [grow_empty] <;> rfl⟩ H
 rw [htl, show n + (l.toArray.size - n) = l.toArray.size by omega] at this
 exact this
end
end Go.Proofs.YtmibndkofoldkaaGreatDoor
namespace Go.Proofs.YtmibndkofoldkaaGreatDoor
set_option linter.unusedVariables false
set_option linter.unusedSimpArgs false
set_option linter.constructorNameAsVariable false
open Go.RowKit
theorem ta_errno (n : Int) (w : World) : (Instr.typeAssert (.iface 55 (.int .i64 n)) 43 55 true).run Tryz.prog w = .ok (.tuple #[.int .i64 n, .bool true]) w := by
 simp [Instr.typeAssert, run_underlying Tryz.underlying55]
theorem num_some (n : Int) (w : World) (h1 : 1 ≤ n) : Calls Tryz.prog 14 #[.iface 55 (.int .i64 n)] w fun e w' => e = .returned (.int .i64 n) ∧ w = w' := by
 have ta := ta_errno n w
 have hz : (n != 0) = true := by simp; omega
 go_enter Tryz.func14, Tryz.ntmps14
 go_wp2_with fail
 go_ret
 exact ⟨rfl, rfl⟩
theorem is_some (n m : Int) (w : World) (h1 : 1 ≤ n) : Calls Tryz.prog 19 #[.iface 55 (.int .i64 n), .int .i64 m] w fun e w' => e = .returned (.bool (n == m)) ∧ w = w' := by
 go_enter Tryz.func19, Tryz.ntmps19
 go_wp2_with fail
 refine (num_some n _ h1).mono ?_
 rintro e w1 ⟨rfl, rfl⟩
 go_wp2_with fail
 go_ret
 exact ⟨rfl, rfl⟩
end Go.Proofs.YtmibndkofoldkaaGreatDoor
namespace Go.Proofs.YtmibndkofoldkaaGreatDoor
set_option linter.unusedVariables false
set_option linter.unusedSimpArgs false
set_option linter.constructorNameAsVariable false
open Go.RowKit
def rotr (x : Int) (k : Nat) : Int := bits .or .u32 (x / 2 ^ k) (x * 2 ^ (32 - k) % 4294967296)
theorem and31 (k : Nat) (hk : 1 ≤ k ∧ k ≤ 31) : bits .and .u64 (18446744073709551616 - (k : Int)) 31 = 32 - (k : Int) := by
 have h : ∀ k : Fin 32, 1 ≤ k.val → bits .and .u64 (18446744073709551616 - (k.val : Int)) 31 = 32 - (k.val : Int) := by decide
 exact h ⟨k, by omega⟩ hk.1
theorem rotl_any (x : Int) (k : Nat) (w : World) (hx : 0 ≤ x ∧ x < 4294967296) (hk : 1 ≤ k ∧ k ≤ 31) : Calls Tryz.prog 257 #[.int .u32 x, .int .i64 (-(k : Int))] w fun e w' => e = .returned (.int .u32 (bits .or .u32 (x * 2 ^ (32 - k) % 4294967296) (x / 2 ^ k))) ∧ w = w' := by
 have h1 : IntKind.u64.wrap (-(k : Int)) = 18446744073709551616 - (k : Int) := by
  unfold IntKind.wrap
  simp [IntKind.bits, IntKind.signed]
  omega
 have h2 := and31 k hk
 go_enter Tryz.func257, Tryz.ntmps257
 go_wp2_with fail
 have h3 : 32 - (32 - k) = k := by omega
 go_ret
 rw [h3]
 exact ⟨rfl, rfl⟩
theorem bits_or_comm (k : IntKind) (a b : Int) : bits .or k a b = bits .or k b a := by
 unfold bits
 simp only [BitVec.or_comm]
theorem turn_any (x : Int) (k : Nat) (w : World) (hx : 0 ≤ x ∧ x < 4294967296) (hk : 1 ≤ k ∧ k ≤ 31) : Calls Tryz.prog 241 #[.int .u32 x, .int .i64 (k : Int)] w fun e w' => e = .returned (.int .u32 (rotr x k)) ∧ w = w' := by
 go_enter Tryz.func241, Tryz.ntmps241
 go_wp2_with fail
 refine (rotl_any x k w hx hk).mono ?_
 rintro e w' ⟨rfl, rfl⟩
 go_wp2_with fail
 go_ret
 rw [bits_or_comm]
 exact ⟨rfl, rfl⟩
end Go.Proofs.YtmibndkofoldkaaGreatDoor
namespace Go.Proofs.YtmibndkofoldkaaGreatDoor
set_option linter.unusedVariables false
set_option linter.unusedSimpArgs false
set_option linter.constructorNameAsVariable false
def byteAt (n i : Nat) : Nat := n / 256 ^ i % 256
def beL (size n : Nat) : List Int := (List.range size).map fun j => ((byteAt n (size - 1 - j) : Nat) : Int)
theorem beL_len (size n : Nat) : (beL size n).length = size := by simp [beL]
theorem byteAt_lt (n i : Nat) : byteAt n i < 256 := Nat.mod_lt _ (by decide)
theorem beL_byt (size n : Nat) : ∀ x ∈ beL size n, 0 ≤ x ∧ x < 256 := by
 intro x hx
 obtain ⟨j, _, rfl⟩ := List.mem_map.1 hx
 have := byteAt_lt n (size - 1 - j)
 omega
theorem beL_succ (size n : Nat) : beL (size + 1) n = beL size (n / 256) ++ [((n % 256 : Nat) : Int)] := by
 unfold beL
 rw [List.range_succ, List.map_append, List.map_singleton]
 congr 1
 · refine List.map_congr_left fun j hj => ?_
   have hj := List.mem_range.1 hj
   have e : size + 1 - 1 - j = (size - 1 - j) + 1 := by omega
   rw [e]
   unfold byteAt
   rw [Nat.pow_succ, Nat.mul_comm, ← Nat.div_div_eq_div_mul]
 · simp [byteAt]
theorem beL_get (size n j : Nat) (h : j < (beL size n).length) : (beL size n)[j] = ((byteAt n (size - 1 - j) : Nat) : Int) := by simp [beL]
theorem beL_take (size n i : Nat) (hi : i < size) : (beL size n).take (size - i) = (beL size n).take (size - (i + 1)) ++ [((byteAt n i : Nat) : Int)] := by
 have hl : size - (i + 1) < (beL size n).length := by rw [beL_len]; omega
 have := List.take_succ_eq_append_getElem hl
 rw [show size - (i + 1) + 1 = size - i by omega] at this
 rw [this, beL_get, show size - 1 - (size - (i + 1)) = i by omega]
def valL (xs : List Int) : Nat := xs.foldl (fun n x => n * 256 + x.toNat) 0
theorem valL_snoc (xs : List Int) (x : Int) : valL (xs ++ [x]) = valL xs * 256 + x.toNat := by simp [valL]
theorem valL_take {xs : List Int} {k : Nat} (h : k < xs.length) : valL (xs.take (k + 1)) = valL (xs.take k) * 256 + (xs[k]).toNat := by
 rw [List.take_succ_eq_append_getElem h, valL_snoc]
theorem valL_lt {xs : List Int} (h : ∀ x ∈ xs, 0 ≤ x ∧ x < 256) : valL xs < 256 ^ xs.length := by
 suffices h2 : ∀ k, k ≤ xs.length → valL (xs.take k) < 256 ^ k by
  have := h2 xs.length (Nat.le_refl _)
  rwa [List.take_length] at this
 intro k
 induction k with
 | zero => intro _; simp [valL]
 | succ k ih =>
  intro hk
  have := ih (by omega)
  rw [valL_take (by omega), Nat.pow_succ]
  have := h xs[k] (List.getElem_mem _)
  omega
theorem valL_beL (size n : Nat) (h : n < 256 ^ size) : valL (beL size n) = n := by
 induction size generalizing n with
 | zero => simp at h; subst h; rfl
 | succ s ih =>
  rw [beL_succ, valL_snoc, ih _ (by rw [Nat.pow_succ] at h; omega)]
  omega
structure Rs where
 xs : List Int
 e : Nat
def Rs.left (s : Rs) : Nat := if s.e = 0 then s.xs.length else 0
def Rs.bad (s : Rs) (code : Nat) : Rs := if s.e = 0 then ⟨s.xs, code⟩ else s
def Rs.raw (s : Rs) (n : Nat) : List Int × Rs := if s.left < n then ([], s.bad 2) else (s.xs.take n, ⟨s.xs.drop n, s.e⟩)
def Rs.num (s : Rs) (size : Nat) : Nat × Rs := (valL (s.raw size).1, (s.raw size).2)
def Rs.fin (s : Rs) : Nat := if s.e ≠ 0 then s.e else if 0 < s.xs.length then 2 else 0
end Go.Proofs.YtmibndkofoldkaaGreatDoor
namespace Go.Proofs.YtmibndkofoldkaaGreatDoor
set_option linter.unusedVariables false
set_option linter.unusedSimpArgs false
set_option linter.constructorNameAsVariable false
open Go.RowKit
section
variable {P : Program} {md : Region.Mode} {ops : Array Oper} {Q : Exit → Act → World → Prop} {S : World → Prop} {last : Nat}
def wpAnyT (P : Program) (md : Region.Mode) (ops : Array Oper) (Q : Exit → Act → World → Prop) (S : World → Prop) (last : Nat) : Nat → Array Bool → Act → World → Prop
 | 0, listed, a, w => Region.ready md ops listed = [] ∧ Q .normal a w
 | fuel + 1, listed, a, w =>
  (Region.ready md ops listed = [] → Q .normal a w) ∧
  ∀ i ∈ Region.ready md ops listed, wpOp P ops Q i (fun a' w' => (i ≠ last → S w') ∧ wpAnyT P md ops Q S last fuel (listed.setIfInBounds i true) a' w') a w
theorem wpAny_of_T : ∀ (fuel : Nat) (listed : Array Bool) (a : Act) (w : World), wpAnyT P md ops Q S last fuel listed a w → wpAny P md ops Q fuel listed a w
 | 0, _, _, _, h => h
 | fuel + 1, _, _, _, h => ⟨h.1, fun i hi => wpOp_mono (fun a' w' h' => wpAny_of_T fuel _ a' w' h'.2) (h.2 i hi)⟩
def waitsOn (md : Region.Mode) (ops : Array Oper) (k i : Nat) : Bool := match ops[k]? with | some o => o.after.any (fun e => Region.binds md e && e.on == i) | none => false
theorem wpAnyT_first {i : Nat} {oi : Oper} {v : Value} (hi : ops[i]? = some oi) (hsel : ∀ (j : Nat) (o : Oper) cs b, ops[j]? = some o → o.op ≠ .select cs b)
    (hQ : ∀ c a w, Q (.panic c) (a.put oi.dst v) w → Q (.panic c) a w) (hlast : waitsOn md ops last i = true) :
    ∀ (fuel : Nat) (listed : Array Bool) (a : Act) (w : World),
     (∀ j oj, ops[j]? = some oj → j ≠ i → listed.getD j true = false → (∀ e ∈ oj.after, Region.binds md e = true → e.on ≠ i) → oi.apart ops oj = true) →
     i ∈ Region.ready md ops listed → YieldsIf P ops S oi v a → S w →
     wpAnyT P md ops Q S last fuel (listed.setIfInBounds i true) (a.put oi.dst v) w → wpAnyT P md ops Q S last (fuel + 1) listed a w := by
 intro fuel
 induction fuel with
 | zero =>
  intro listed a w _ hr hy hS H
  refine ⟨fun h => (by rw [h] at hr; cases hr), fun j hj => ?_⟩
  by_cases hji : j = i
  · subst hji; exact hy.wpOp hi hS ⟨fun _ => hS, H⟩
  · have := ready_mono hj hji
    rw [H.1] at this
    cases this
 | succ fuel ih =>
  intro listed a w hfree hr hy hS H
  refine ⟨fun h => (by rw [h] at hr; cases hr), fun j hj => ?_⟩
  by_cases hji : j = i
  · subst hji; exact hy.wpOp hi hS ⟨fun _ => hS, H⟩
  · have h1 := H.2 j (ready_mono hj hji)
    obtain ⟨hjun, oj, hoj, hall⟩ := mem_ready.1 hj
    have hnot : ∀ e ∈ oj.after, Region.binds md e = true → e.on ≠ i := fun e he hb heq => by
     have h1 := hall e he hb
     have h0 := (mem_ready.1 hr).1
     rw [heq] at h1
     rcases Nat.lt_or_ge i listed.size with h' | h'
     · simp [h'] at h0 h1; rw [h0] at h1; cases h1
     · simp [Array.getElem?_eq_none h'] at h1
    have hjl : j ≠ last := fun e => by
     subst e
     simp only [waitsOn, hoj, Array.any_eq_true] at hlast
     obtain ⟨n, hn, hb⟩ := hlast
     simp only [Bool.and_eq_true, beq_iff_eq] at hb
     exact hnot _ (Array.getElem_mem hn) hb.1 hb.2
    have h2 := wpOp_putIf hoj (hfree j oj hoj hji hjun hnot) (fun cs b => hsel i oi cs b hi) (fun cs b => hsel j oj cs b hoj) hQ hy h1
    have hfree' : ∀ k ok, ops[k]? = some ok → k ≠ i → (listed.setIfInBounds j true).getD k true = false →
        (∀ e ∈ ok.after, Region.binds md e = true → e.on ≠ i) → oi.apart ops ok = true := fun k ok hk hki hun hno => by
     refine hfree k ok hk hki ?_ hno
     by_cases hjk : j = k
     · subst hjk; exact hjun
     · rw [getD_set_ne true hjk] at hun; exact hun
    refine wpOp_mono (fun a' w' h3 => ⟨h3.2.1, ih (listed.setIfInBounds j true) a' w' hfree' (ready_mono hr (Ne.symm hji)) h3.1 (h3.2.1 hjl) ?_⟩) h2
    rw [Array.setIfInBounds_comm _ _ hji]
    exact h3.2.2
theorem wpAnyT_take {i : Nat} {oi : Oper} {v : Value} {fuel : Nat} {listed : Array Bool} {a : Act} {w : World} (hi : ops[i]? = some oi)
    (hs : Region.noSelect ops = true) (hf : Region.free md ops listed i = true) (hr : (Region.ready md ops listed).contains i = true) (hl : waitsOn md ops last i = true)
    (hQ : ∀ c a w, Q (.panic c) (a.put oi.dst v) w → Q (.panic c) a w) (hy : YieldsIf P ops S oi v a) (hS : S w)
    (h : wpAnyT P md ops Q S last fuel (listed.setIfInBounds i true) (a.put oi.dst v) w) : wpAnyT P md ops Q S last (fuel + 1) listed a w :=
 wpAnyT_first hi (Region.noSelect_spec hs) hQ hl fuel listed a w (Region.free_spec hi hf) (by simpa using hr) hy hS h
def AllT (P : Program) (md : Region.Mode) (ops : Array Oper) (Q : Exit → Act → World → Prop) (S : World → Prop) (last fuel : Nat) (listed : Array Bool) (a : Act) (w : World) (rs : List Nat) : Prop :=
 ∀ i ∈ rs, wpOp P ops Q i (fun a' w' => (i ≠ last → S w') ∧ wpAnyT P md ops Q S last fuel (listed.setIfInBounds i true) a' w') a w
theorem AllT.nil {fuel : Nat} {listed : Array Bool} {a : Act} {w : World} : AllT P md ops Q S last fuel listed a w [] := fun i hi => by cases hi
theorem AllT.cons {fuel : Nat} {listed : Array Bool} {a : Act} {w : World} {i : Nat} {o : Oper} {rs : List Nat} (ho : ops[i]? = some o)
    (h : ∀ K' : Act → World → Prop, Hid (∀ a w, (i ≠ last → S w) → wpAnyT P md ops Q S last fuel (listed.setIfInBounds i true) a w → K' a w) → if Region.wanted o (yielded ops a.tmps) = true then Oper.wp P o a w K' Q else K' (a.put o.dst undef) w)
    (hs : AllT P md ops Q S last fuel listed a w rs) : AllT P md ops Q S last fuel listed a w (i :: rs) := fun j hj => by
 rcases List.mem_cons.1 hj with rfl | hj
 · have := h (fun a' w' => (j ≠ last → S w') ∧ wpAnyT P md ops Q S last fuel (listed.setIfInBounds j true) a' w') (Lib.hid fun a' w' h1 h2 => ⟨h1, h2⟩)
   unfold wpOp
   rw [ho]
   simp only
   split
   · next hw => rw [if_pos hw] at this; exact .inl this
   · next hw => rw [if_neg hw] at this; exact this
 · exact hs j hj
theorem wpAnyT_ready {rs : List Nat} {fuel : Nat} {listed : Array Bool} {a : Act} {w : World} (hr : Region.ready md ops listed = rs) (hne : rs ≠ []) (h : AllT P md ops Q S last fuel listed a w rs) : wpAnyT P md ops Q S last (fuel + 1) listed a w :=
 ⟨fun h0 => absurd (hr ▸ h0) hne, hr ▸ h⟩
theorem wpAnyT_done {listed : Array Bool} {a : Act} {w : World} (hr : Region.ready md ops listed = []) (h : Q .normal a w) : ∀ fuel, wpAnyT P md ops Q S last fuel listed a w
 | 0 => ⟨hr, h⟩
 | _ + 1 => ⟨fun _ => h, by rw [hr]; simp⟩
theorem wp_region_T {id : Nat} {a : Act} {w : World} (S : World → Prop) (last : Nat) (hm : P.follows .mixedOrders = true)
    (h : wpAnyT P .any ops Q S last ops.size (Array.replicate ops.size false) a w.drew) : (Code.region id ops true).wp P Q a w :=
 wp_region_any hm (wpAny_of_T _ _ _ _ h)
end
end Go.Proofs.YtmibndkofoldkaaGreatDoor
namespace Go.Proofs.YtmibndkofoldkaaGreatDoor
set_option linter.unusedVariables false
set_option linter.unusedSimpArgs false
set_option linter.constructorNameAsVariable false
open Go.RowKit
structure HW (S : World → Prop) where
 w : World
 h : S w
section
variable {P : Program} {md : Region.Mode} {ops : Array Oper} {Q : Exit → Act → World → Prop} {S : World → Prop} {last : Nat}
def mixB (md : Region.Mode) (ops : Array Oper) (last : Nat) : List (Bool × Nat) → Array Bool → Bool
 | [], listed => (Region.ready md ops listed).isEmpty
 | (true, i) :: sc, listed => (Region.ready md ops listed).contains i && Region.free md ops listed i && (waitsOn md ops last i || decide (Region.ready md ops listed = [i])) && decide (i ≠ last) && mixB md ops last sc (listed.setIfInBounds i true)
 | (false, i) :: sc, listed => decide (Region.ready md ops listed = [i]) && (decide (i ≠ last) || sc.isEmpty) && mixB md ops last sc (listed.setIfInBounds i true)
def wpMix (P : Program) (ops : Array Oper) (S : World → Prop) (last : Nat) (Q : Exit → Act → World → Prop) : List (Bool × Nat) → Act → World → Prop
 | [], a, w => Q .normal a w
 | (true, i) :: sc, a, w => ∃ o, ops[i]? = some o ∧ (if Region.wanted o (yielded ops a.tmps) = true then ∃ v, (∀ p : HW S, (execOp a.eval o).run P p.w = .ok (.value v) p.w) ∧ wpMix P ops S last Q sc (a.put o.dst v) w else wpMix P ops S last Q sc (a.put o.dst undef) w)
 | (false, i) :: sc, a, w => ∃ o, ops[i]? = some o ∧ (if Region.wanted o (yielded ops a.tmps) = true then o.wp P a w (fun a' w' => (i ≠ last → S w') ∧ wpMix P ops S last Q sc a' w') Q else wpMix P ops S last Q sc (a.put o.dst undef) w)
theorem wpAnyT_of_mix (hs : Region.noSelect ops = true) (hQ : ∀ c a d v w, Q (.panic c) (a.put d v) w → Q (.panic c) a w) : ∀ (sc : List (Bool × Nat)) (listed : Array Bool) (a : Act) (w : World), mixB md ops last sc listed = true → (sc ≠ [] → S w) → wpMix P ops S last Q sc a w → wpAnyT P md ops Q S last sc.length listed a w
 | [], listed, a, w, hB, _, h => wpAnyT_done (by simpa [mixB] using hB) h _
 | (true, i) :: sc, listed, a, w, hB, hS, h => by
  simp only [mixB, Bool.and_eq_true] at hB
  obtain ⟨⟨⟨⟨h1, h2⟩, h3⟩, -⟩, h5⟩ := hB
  obtain ⟨o, ho, h⟩ := h
  have hSw := hS (by simp)
  have key : ∀ v, YieldsIf P ops S o v a → wpMix P ops S last Q sc (a.put o.dst v) w → wpAnyT P md ops Q S last ((true, i) :: sc).length listed a w := fun v hy h => by
   rw [Bool.or_eq_true, decide_eq_true_eq] at h3
   rcases h3 with h3 | h3
   · exact wpAnyT_take ho hs h2 h1 h3 (fun c a w => hQ c a _ _ w) hy hSw (wpAnyT_of_mix hs hQ sc _ _ _ h5 (fun _ => hSw) h)
   · refine wpAnyT_ready (rs := [i]) h3 (by simp) ?_
     intro j hj
     rw [List.mem_singleton] at hj
     subst hj
     exact hy.wpOp ho hSw ⟨fun _ => hSw, wpAnyT_of_mix hs hQ sc _ _ _ h5 (fun _ => hSw) h⟩
  by_cases hw : Region.wanted o (yielded ops a.tmps) = true
  · rw [if_pos hw] at h
    obtain ⟨v, hv, h⟩ := h
    exact key v (.inl ⟨hw, fun w hw => hv ⟨w, hw⟩⟩) h
  · rw [if_neg hw] at h
    exact key undef (.inr ⟨by simpa using hw, rfl⟩) h
 | (false, i) :: sc, listed, a, w, hB, hS, h => by
  simp only [mixB, Bool.and_eq_true, Bool.or_eq_true, decide_eq_true_eq] at hB
  obtain ⟨⟨h1, h2⟩, h3⟩ := hB
  obtain ⟨o, ho, h⟩ := h
  have hne : ∀ w', (i ≠ last → S w') → sc ≠ [] → S w' := fun w' h hsc => by
   rcases h2 with h2 | h2
   · exact h h2
   · exact absurd (List.isEmpty_iff.1 h2) hsc
  refine wpAnyT_ready (rs := [i]) h1 (by simp) (AllT.cons ho (fun K' hK => ?_) AllT.nil)
  by_cases hw : Region.wanted o (yielded ops a.tmps) = true
  · rw [if_pos hw] at h ⊢
    exact Oper.wp_mono (fun a' w' h' => hK.out a' w' h'.1 (wpAnyT_of_mix hs hQ sc _ _ _ h3 (hne w' h'.1) h'.2)) h
  · rw [if_neg hw] at h ⊢
    exact hK.out _ _ (fun _ => hS (by simp)) (wpAnyT_of_mix hs hQ sc _ _ _ h3 (fun _ => hS (by simp)) h)
def NoPan (Q : Exit → Act → World → Prop) (e : Exit) (a : Act) (w : World) : Prop := match e with | .panic _ => False | e => Q e a w
theorem NoPan.imp {Q : Exit → Act → World → Prop} (e : Exit) (a : Act) (w : World) (h : NoPan Q e a w) : Q e a w := by
 cases e <;> first | exact h | exact h.elim
theorem wp_region_mix {id : Nat} {a : Act} {w : World} {l : List Oper} (S : World → Prop) (last : Nat) (sc : List (Bool × Nat)) (hm : P.follows .mixedOrders = true)
    (hB : (Region.noSelect l.toArray && decide (sc.length = l.toArray.size) && mixB .any l.toArray last sc (Array.replicate l.toArray.size false)) = true) (hS : S w.drew)
    (h : Nonempty (HW S) → wpMix P l.toArray S last (NoPan Q) sc a w.drew) : (Code.region id l.toArray true).wp P Q a w := by
 simp only [Bool.and_eq_true, decide_eq_true_eq] at hB
 obtain ⟨⟨h1, h2⟩, h3⟩ := hB
 refine wp_mono (Q := NoPan Q) (wp_region_T S last hm ?_) NoPan.imp
 have := wpAnyT_of_mix (Q := NoPan Q) h1 (fun _ _ _ _ _ h => h) sc _ _ _ h3 (fun _ => hS) (h ⟨⟨_, hS⟩⟩)
 rwa [h2] at this
def mixBH (md : Region.Mode) (ops : Array Oper) : List (Bool × Nat) → Array Bool → Bool
 | [], listed => (Region.ready md ops listed).isEmpty
 | (true, i) :: sc, listed => (Region.ready md ops listed).contains i && Region.free md ops listed i && mixBH md ops sc (listed.setIfInBounds i true)
 | (false, i) :: sc, listed => decide (Region.ready md ops listed = [i]) && mixBH md ops sc (listed.setIfInBounds i true)
theorem wpAnyH_of_mix (hl : last = ops.size) (hs : Region.noSelect ops = true) (hQ : ∀ c a d v w, Q (.panic c) (a.put d v) w → Q (.panic c) a w) : ∀ (sc : List (Bool × Nat)) (listed : Array Bool) (a : Act) (w : World), mixBH md ops sc listed = true → S w → wpMix P ops S last Q sc a w → wpAnyH P md ops Q S sc.length listed a w
 | [], listed, a, w, hB, _, h => ⟨by simpa [mixBH] using hB, h⟩
 | (true, i) :: sc, listed, a, w, hB, hSw, h => by
  simp only [mixBH, Bool.and_eq_true] at hB
  obtain ⟨⟨h1, h2⟩, h5⟩ := hB
  obtain ⟨o, ho, h⟩ := h
  have key : ∀ v, YieldsIf P ops S o v a → wpMix P ops S last Q sc (a.put o.dst v) w → wpAnyH P md ops Q S ((true, i) :: sc).length listed a w := fun v hy h =>
   wpAnyH_first ho (Region.noSelect_spec hs) (fun c a w => hQ c a _ _ w) _ listed a w (Region.free_spec ho h2) (by simpa using h1) hy hSw (wpAnyH_of_mix hl hs hQ sc _ _ _ h5 hSw h)
  by_cases hw : Region.wanted o (yielded ops a.tmps) = true
  · rw [if_pos hw] at h
    obtain ⟨v, hv, h⟩ := h
    exact key v (.inl ⟨hw, fun w hw => hv ⟨w, hw⟩⟩) h
  · rw [if_neg hw] at h
    exact key undef (.inr ⟨by simpa using hw, rfl⟩) h
 | (false, i) :: sc, listed, a, w, hB, hS, h => by
  simp only [mixBH, Bool.and_eq_true, decide_eq_true_eq] at hB
  obtain ⟨h1, h3⟩ := hB
  obtain ⟨o, ho, h⟩ := h
  have hil : i ≠ last := by
   have := (Array.getElem?_eq_some_iff.1 ho).1
   omega
  refine ⟨fun h0 => (by rw [h1] at h0; cases h0), fun j hj => ?_⟩
  rw [h1, List.mem_singleton] at hj
  subst hj
  unfold wpOp
  simp only [ho]
  by_cases hw : Region.wanted o (yielded ops a.tmps) = true
  · rw [if_pos hw] at h
    simp only [hw, if_true]
    exact .inl (Oper.wp_mono (fun a' w' h' => ⟨h'.1 hil, wpAnyH_of_mix hl hs hQ sc _ _ _ h3 (h'.1 hil) h'.2⟩) h)
  · rw [if_neg hw] at h
    simp only [hw]
    exact ⟨hS, wpAnyH_of_mix hl hs hQ sc _ _ _ h3 hS h⟩
theorem wp_region_mixH {id : Nat} {a : Act} {w : World} {l : List Oper} (S : World → Prop) (sc : List (Bool × Nat)) (hm : P.follows .mixedOrders = true)
    (hB : (Region.noSelect l.toArray && decide (sc.length = l.toArray.size) && mixBH .any l.toArray sc (Array.replicate l.toArray.size false)) = true) (hS : S w.drew)
    (h : Nonempty (HW S) → wpMix P l.toArray S l.toArray.size (NoPan Q) sc a w.drew) : (Code.region id l.toArray true).wp P Q a w := by
 simp only [Bool.and_eq_true, decide_eq_true_eq] at hB
 obtain ⟨⟨h1, h2⟩, h3⟩ := hB
 refine wp_mono (Q := NoPan Q) (wp_region_held (S := S) hm ?_) NoPan.imp
 have := wpAnyH_of_mix (Q := NoPan Q) rfl h1 (fun _ _ _ _ _ h => h) sc _ _ _ h3 hS (h ⟨⟨_, hS⟩⟩)
 rwa [h2] at this
theorem mix_take {i : Nat} {o : Oper} {sc : List (Bool × Nat)} {a : Act} {w : World} (ho : ops[i]? = some o)
    (h : ∀ K : Act → Prop, (∀ a, wpMix P ops S last Q sc a w → K a) → if Region.wanted o (yielded ops a.tmps) = true then ∃ v, (∀ p : HW S, (execOp a.eval o).run P p.w = .ok (.value v) p.w) ∧ K (a.put o.dst v) else K (a.put o.dst undef)) : wpMix P ops S last Q ((true, i) :: sc) a w :=
 ⟨o, ho, h _ fun _ h => h⟩
theorem mix_act {i : Nat} {o : Oper} {sc : List (Bool × Nat)} {a : Act} {w : World} (ho : ops[i]? = some o)
    (h : ∀ K : Act → World → Prop, Hid (∀ a w, (i ≠ last → S w) → wpMix P ops S last Q sc a w → K a w) → if Region.wanted o (yielded ops a.tmps) = true then o.wp P a w K Q else K (a.put o.dst undef) w) (hS : Region.wanted o (yielded ops a.tmps) = true ∨ S w) : wpMix P ops S last Q ((false, i) :: sc) a w := by
 refine ⟨o, ho, ?_⟩
 have := h (fun a' w' => (i ≠ last → S w') ∧ wpMix P ops S last Q sc a' w') (Lib.hid fun a w h1 h2 => ⟨h1, h2⟩)
 by_cases hw : Region.wanted o (yielded ops a.tmps) = true
 · rw [if_pos hw] at this ⊢
   exact this
 · rw [if_neg hw] at this ⊢
   exact this.2
def CellIs (a : Addr) (v : Value) (w : World) : Prop := w.cell? a = some v
theorem CellIs.all (a : Addr) (v : Value) (p : HW (CellIs a v)) : p.w.cell? a = some v := p.h
theorem mix_done {a : Act} {w : World} (h : Q .normal a w) : wpMix P ops S last (NoPan Q) [] a w := h
end
end Go.Proofs.YtmibndkofoldkaaGreatDoor
namespace Go.Proofs.YtmibndkofoldkaaGreatDoor
set_option linter.unusedVariables false
set_option linter.unusedSimpArgs false
set_option linter.constructorNameAsVariable false
open Go.RowKit
def u8s (xs : List Int) : List Value := xs.map (Value.int .u8)
theorem u8s_len (xs : List Int) : (u8s xs).length = xs.length := by simp [u8s]
theorem u8s_one (xs : List Int) : ∀ u ∈ u8s xs, u.oneCell' = true := by
 intro u hu
 simp only [u8s, List.mem_map] at hu
 obtain ⟨x, _, rfl⟩ := hu
 rfl
def Byt (xs : List Int) : Prop := ∀ x ∈ xs, 0 ≤ x ∧ x < 256
theorem elB : ElemOf Tryz.prog 84 5 1 1 := ElemOf.mk' (z := .int .u8 0) Tryz.underlying84 (by kernel_rfl) rfl (by decide)
theorem bclone_any (A : Option Addr) (n c : Nat) (xs : List Int) (w : World) (hO : Rd (fun b => b < w.heap.size) w 1 A n (u8s xs)) (hn : n ≤ 1000000) :
    Calls Tryz.prog 171 #[.slice A n c] w fun e w' => (∃ A' c', e = .returned (.slice A' n c') ∧ w'.ownsRow w.heap.size 5 1 (.slice A' n c') n (u8s xs)) ∧ New w w' := by
 have HR := Lib.hid hO
 rcases A with _ | ad
 · have h0 : n = 0 := by
    rcases Nat.eq_zero_or_pos n with h | h
    · exact h
    · obtain ⟨ad, h', _⟩ := hO.2 h
      cases h'
   subst h0
   have hz : xs = [] := List.eq_nil_of_length_eq_zero (by have := hO.1; rw [u8s_len] at this; omega)
   subst hz
   clear hO
   have hen := fun w => Lib.run_eql_slice_nil (P := Tryz.prog) w 84 5 none 0 c 0 0 Tryz.underlying84
   go_enter Tryz.func171, Tryz.ntmps171
   go_wp2_with fail
   go_ret
   exact ⟨⟨none, 0, rfl, World.ownsRow_nil _ _ _ _⟩, New.refl w⟩
 · clear hO
   have hen := fun w => Lib.run_eql_slice_nil (P := Tryz.prog) w 84 5 (some ad) n c 0 0 Tryz.underlying84
   go_enter Tryz.func171, Tryz.ntmps171
   go_wp2_with (at_builtin; refine wpList_app elB _ rfl (.tmp 5) (.tmp 6) rfl w.heap.size (.slice (some ⟨w.heap.size, 0, none⟩) 0 0) 0 [] rfl (own_lit (Blk.new w 5 #[]) (Nat.le_refl _)) (some ad) n c (u8s xs) rfl (New.rd (New.al (New.refl w) _) HR.out) (u8s_one xs) (by unfold maxLen; omega) (by omega) (by simp) ?_; intro A1 d1 w3 hO3 hF3 hA3; rw [Nat.zero_add]; rw [Nat.zero_add, List.nil_append] at hO3; have HO3 := Lib.hid hO3; have HN3 : Hid (New w w3) := Lib.hid ((New.al (New.refl w) _).fr hF3 (by intro k hk; simp [Value.ownBlock] at hk; omega)); clear hO3 hF3 hA3)
   go_ret
   exact ⟨⟨A1, d1, rfl, HO3.out⟩, HN3.out⟩
end Go.Proofs.YtmibndkofoldkaaGreatDoor
namespace Go.Proofs.YtmibndkofoldkaaGreatDoor
set_option linter.unusedVariables false
set_option linter.unusedSimpArgs false
set_option linter.constructorNameAsVariable false
open Go.RowKit
theorem u32_in (x : Int) (h0 : 0 ≤ x) (h1 : x < 4294967296) : IntKind.u32.wrap x = x := by rw [IntKind.wrap_u32]; omega
theorem word_eq {b0 b1 b2 b3 : Int} (h0 : 0 ≤ b0 ∧ b0 < 256) (h1 : 0 ≤ b1 ∧ b1 < 256) (h2 : 0 ≤ b2 ∧ b2 < 256) (h3 : 0 ≤ b3 ∧ b3 < 256) :
    bits .or .u32 (bits .or .u32 (bits .or .u32 (IntKind.u32.wrap (IntKind.u32.wrap b0 * 16777216)) (IntKind.u32.wrap (IntKind.u32.wrap b1 * 65536))) (IntKind.u32.wrap (IntKind.u32.wrap b2 * 256))) (IntKind.u32.wrap b3) = ((b0 * 256 + b1) * 256 + b2) * 256 + b3 := by
 have hk : ∀ n : Int, 0 ≤ n → n < 2 ^ 32 → IntKind.u32.wrap n = n := fun n h0 h1 => u32_in n h0 (by omega)
 rw [u32_in b0 (by omega) (by omega), u32_in b1 (by omega) (by omega), u32_in b2 (by omega) (by omega), u32_in b3 (by omega) (by omega), u32_in (b0 * 16777216) (by omega) (by omega), u32_in (b1 * 65536) (by omega) (by omega), u32_in (b2 * 256) (by omega) (by omega)]
 have j1 : bits .or .u32 (b0 * 16777216) (b1 * 65536) = b0 * 16777216 + b1 * 65536 := bits_join .u32 32 (by decide) hk 24 _ _ (by omega) (by omega) (by omega) (by omega) (by omega) (by omega)
 have j2 : bits .or .u32 (b0 * 16777216 + b1 * 65536) (b2 * 256) = b0 * 16777216 + b1 * 65536 + b2 * 256 := bits_join .u32 32 (by decide) hk 16 _ _ (by omega) (by omega) (by omega) (by omega) (by omega) (by omega)
 have j3 : bits .or .u32 (b0 * 16777216 + b1 * 65536 + b2 * 256) b3 = b0 * 16777216 + b1 * 65536 + b2 * 256 + b3 := bits_join .u32 32 (by decide) hk 8 _ _ (by omega) (by omega) (by omega) (by omega) (by omega) (by omega)
 rw [j1, j2, j3]
 omega
theorem word_any {p : Nat → Prop} (A : Option Addr) (n c : Nat) (xs : List Int) (b0 b1 b2 b3 : Int) (w : World) (h : Rd p w 1 A n (u8s xs)) (hx : xs = [b0, b1, b2, b3]) (hb : Byt xs) : Calls Tryz.prog 256 #[.slice A n c] w fun e w' => e = .returned (.int .u32 (((b0 * 256 + b1) * 256 + b2) * 256 + b3)) ∧ New w w' := by
 subst hx
 have hn : n = 4 := by have := h.1; rw [u8s_len] at this; simpa using this.symm
 subst hn
 obtain ⟨g, o, rfl, -, -, hc⟩ := h.out (by omega) (by omega)
 have c0 : ∀ p : HW (New w), p.w.cell? ⟨g, o, none⟩ = some (.int .u8 b0) := fun p => p.h.cell_ (hc 0 _ rfl)
 have c1 : ∀ p : HW (New w), p.w.cell? ⟨g, o + 1, none⟩ = some (.int .u8 b1) := fun p => p.h.cell_ (hc 1 _ rfl)
 have c2 : ∀ p : HW (New w), p.w.cell? ⟨g, o + 2, none⟩ = some (.int .u8 b2) := fun p => p.h.cell_ (hc 2 _ rfl)
 have c3 : ∀ p : HW (New w), p.w.cell? ⟨g, o + 3, none⟩ = some (.int .u8 b3) := fun p => p.h.cell_ (hc 3 _ rfl)
 have h0 := hb b0 (by simp)
 have h1 := hb b1 (by simp)
 have h2 := hb b2 (by simp)
 have h3 := hb b3 (by simp)
 clear hc
 go_enter Tryz.func256, Tryz.ntmps256
 go_wp2_with fail
 refine wp_region_mixH (New w) [(true, 0), (true, 1), (true, 2), (true, 3), (true, 4), (true, 5), (true, 6), (true, 7), (true, 8), (true, 9), (true, 10), (true, 11), (true, 12), (true, 13), (true, 14), (true, 15), (true, 16), (true, 17), (true, 18), (true, 19), (true, 20), (true, 21), (true, 22)] (by kernel_rfl) (by kernel_rfl) (New.dr (New.refl w)) (fun hne => ?_)
 iterate 23 (refine mix_take (o := ⟨_, _, _, _, _, _⟩) rfl (fun K hK => ?_); go_simp; refine hK _ ?_; clear hK K)
 refine mix_done ?_
 go_wp2_with fail
 go_ret
 rw [word_eq h0 h1 h2 h3]
 exact ⟨rfl, New.dr (New.refl w)⟩
end Go.Proofs.YtmibndkofoldkaaGreatDoor
namespace Go.Proofs.YtmibndkofoldkaaGreatDoor
set_option linter.unusedVariables false
set_option linter.unusedSimpArgs false
set_option linter.constructorNameAsVariable false
open Go.RowKit
section
variable {P : Program} {w : World} {ops : Array Oper} {rest : List Oper} {o o2 : Oper} {a : Act} {Q : Exit → Act → World → Prop}
theorem atOp (o : Oper) (h : wpList P ops Q (o :: rest) a w) : wpList P ops Q (o :: rest) a w := h
theorem wpList_want (hw : Region.wanted o (yielded ops a.tmps) = true) (h : ∀ K : Act → World → Prop, (∀ a w, wpList P ops Q rest a w → K a w) → o.wp P a w K Q) : wpList P ops Q (o :: rest) a w :=
 wpList_step fun K hK => by rw [if_pos hw]; exact h K hK
theorem setRow_blk {g : Nat} {T : TypeId} {cs cs' : Array Value} (hb : Blk w g T cs) : Blk (w.setRow g cs') g T cs' ∧ Fr (fun k => k = g) w (w.setRow g cs') :=
 ⟨setRow_heap w g cs cs' T (0, 0) hb, ⟨rfl, rfl, rfl, by simp, fun k _ hk => setRow_other w g k cs' hk⟩⟩
theorem wpList_load_any {T : TypeId} {d : TypeDesc} {g : Nat} {cs : Array Value} (hw : Region.wanted o (yielded ops a.tmps) = true) (x : Operand) (ho : o.op = .load T x) (hu : P.underlying T = some d) (hd : d.isRow = true) (hi : (P.info? T).map (·.size) = some cs.size) (hx : a.eval x = .pointer (some ⟨g, 0, none⟩)) (hb : Blk w g T cs)
    (h : wpList P ops Q rest (a.put o.dst (.agg cs)) w) : wpList P ops Q (o :: rest) a w :=
 wpList_want hw fun _ hK => wp_load_row T x ho g hx T cs (0, 0) _ hb hu (by cases d <;> first | rfl | (simp [TypeDesc.isRow] at hd)) hi (hK _ _ h)
theorem wpList_store_any {T : TypeId} {g : Nat} {cs0 cs : Array Value} (hw : Region.wanted o (yielded ops a.tmps) = true) (x y : Operand) (ho : o.op = .store T x y) (hi : (P.info? T).map (·.size) = some cs.size) (hx : a.eval x = .pointer (some ⟨g, 0, none⟩)) (hy : a.eval y = .agg cs) (hb : Blk w g T cs0) (h0 : cs0.size = cs.size) (h1 : cs.all (·.oneCell') = true)
    (h : ∀ w', Blk w' g T cs → Fr (fun k => k = g) w w' → wpList P ops Q rest (a.put o.dst undef) w') : wpList P ops Q (o :: rest) a w :=
 wpList_want hw fun K hK => by
  obtain ⟨r1, r2⟩ := setRow_blk (cs' := cs) hb
  unfold Oper.wp execOp
  simp only [ho, hx, hy, Instr.storeAt, Instr.sureAddr, Sem.run_bind, Sem.run_pure, Result.andThen_ok, run_storeVar_row w g T T cs0 cs hb hi h0 h1]
  exact hK _ _ (h _ r1 r2)
end
end Go.Proofs.YtmibndkofoldkaaGreatDoor
namespace Go.Proofs.YtmibndkofoldkaaGreatDoor
set_option linter.unusedVariables false
set_option linter.unusedSimpArgs false
set_option linter.constructorNameAsVariable false
open Go.RowKit
def secA (s : List Int) : Array Value := (u8s s).toArray
theorem secA_size (s : List Int) : (secA s).size = s.length := by simp [secA, u8s_len]
theorem secA_one (s : List Int) : (secA s).all (·.oneCell') = true := all_oneCell_toArray (u8s_one s)
theorem secA_list (s : List Int) : (secA s).toList = u8s s := by simp [secA]
theorem u8s_inj {s t : List Int} (h : u8s s = u8s t) : s = t := by
 unfold u8s at h
 induction s generalizing t with
 | nil => cases t with
  | nil => rfl
  | cons y t => simp at h
 | cons x s ih => cases t with
  | nil => simp at h
  | cons y t =>
   simp only [List.map_cons, List.cons.injEq, Value.int.injEq, true_and] at h
   rw [h.1, ih h.2]
theorem secA_inj {s t : List Int} (h : secA s = secA t) : s = t := by
 unfold secA at h
 exact u8s_inj (by simpa using h)
def at_ (s : List Int) (i : Nat) : Int := s.getD i 0
theorem secA_get {s : List Int} {i : Nat} (h : i < s.length) : (secA s)[i]? = some (.int .u8 (at_ s i)) := by
 simp [secA, u8s, at_, h]
section
variable {P : Program} {w : World}
open Extern.Stop (cell)
theorem secA_cell {s : List Int} (hs : Byt s) : ((s.map fun x => UInt8.ofNat x.toNat).map cell).toArray = secA s := by
 unfold secA u8s
 rw [List.map_map]
 congr 1
 apply List.map_congr_left
 intro x hx
 obtain ⟨h0, h1⟩ := hs x hx
 simp only [Function.comp, cell]
 congr 1
 rw [UInt8.toNat_ofNat', Nat.mod_eq_of_lt (by omega)]
 simp only [Int.ofNat_eq_natCast]
 omega
theorem byt_inj {s t : List Int} (hs : Byt s) (ht : Byt t) : ((s.map fun x => UInt8.ofNat x.toNat) == (t.map fun x => UInt8.ofNat x.toNat)) = decide (s = t) := by
 rw [Bool.eq_iff_iff, beq_iff_eq, decide_eq_true_iff]
 constructor
 · intro h
   have := congrArg (fun l => (List.map cell l).toArray) h
   simp only [secA_cell hs, secA_cell ht] at this
   exact secA_inj this
 · rintro rfl; rfl
theorem run_equalIn_sec (d : Nat) {T e : TypeId} {n : Nat} (ht : P.underlying T = some (.array n e)) (he : P.underlying e = some (.int .u8)) (hsz : ∀ w, (sizeOf e).run P w = .ok 1 w) {s t : List Int} (hs : s.length = n) (h2 : t.length = n) (bs : Byt s) (bt : Byt t) (w : World) :
    (Op.equalIn (d + 2) T (.agg (secA s)) (.agg (secA t))).run P w = .ok (decide (s = t)) w := by
 have := run_equalIn_bytes (P := P) w d T e n ht he hsz (s.map fun x => UInt8.ofNat x.toNat) (t.map fun x => UInt8.ofNat x.toNat) (by simpa using hs) (by simpa using h2)
 rw [secA_cell bs, secA_cell bt, byt_inj bs bt] at this
 exact this
theorem run_neq_sec {T e : TypeId} {n : Nat} (ht : P.underlying T = some (.array n e)) (he : P.underlying e = some (.int .u8)) (hsz : ∀ w, (sizeOf e).run P w = .ok 1 w) {s t : List Int} (hs : s.length = n) (h2 : t.length = n) (bs : Byt s) (bt : Byt t) (w : World) :
    (binOp .neq T (.agg (secA s)) (.agg (secA t))).run P w = .ok (.bool (!decide (s = t))) w := by
 rw [run_neq_struct, run_equalIn_sec 9998 ht he hsz hs h2 bs bt w]
 rfl
theorem Blk.range {T : TypeId} {g : Nat} {s : List Int} (hb : Blk w g T (secA s)) : w.rangeAt g 0 (u8s s) := fun j v hv => by
 rw [Nat.zero_add, hb.cell j]
 simpa [secA] using hv
theorem Blk.byte {T : TypeId} {g n : Nat} {s : List Int} (hb : Blk w g T (secA s)) (h : s.length = n) : ∀ i, i < n → w.cell? ⟨g, i, none⟩ = some (.int .u8 (at_ s i)) := fun i hi => by rw [hb.cell i, secA_get (by omega)]
theorem results_sec2 {fn : Func} {p q : Tmp} {ty e : TypeId} {n g : Nat} {s : List Int} (h : fn.results = #[.cell p ty, .tmp q]) (tmps : Array Value) (w : World) (hp : tmps.getD p undef = .pointer (some ⟨g, 0, none⟩)) (hb : Blk w g ty (secA s))
    (hu : P.underlying ty = some (.array n e)) (hi : (P.info? ty).map (·.size) = some n) (hs : s.length = n) : (results fn tmps).run P w = .ok (.tuple #[.agg (secA s), tmps.getD q undef]) w := by
 have hp' : tmps[p]?.getD undef = .pointer (some ⟨g, 0, none⟩) := by simpa using hp
 simp [results, h, hp', asAddr, run_loadVar_row w g ty ty (secA s) (0, 0) _ hb hu rfl (by rw [hi, secA_size, hs])]
section
variable {ops : Array Oper} {rest : List Oper} {o o2 : Oper} {a : Act} {Q : Exit → Act → World → Prop}
theorem wpList_load_blk {T e : TypeId} {n g : Nat} {s : List Int} (hw : Region.wanted o (yielded ops a.tmps) = true) (x : Operand) (ho : o.op = .load T x) (ht : P.underlying T = some (.array n e)) (hi : (P.info? T).map (·.size) = some n) (hx : a.eval x = .pointer (some ⟨g, 0, none⟩)) (hb : Blk w g T (secA s)) (hs : s.length = n)
    (h : wpList P ops Q rest (a.put o.dst (.agg (secA s))) w) : wpList P ops Q (o :: rest) a w :=
 wpList_want hw fun _ hK => wp_load_row T x ho g hx T (secA s) (0, 0) _ hb ht rfl (by rw [hi, secA_size, hs]) (hK _ _ h)
theorem wpList_store_blk {T : TypeId} {n g : Nat} {s s0 : List Int} (hw : Region.wanted o (yielded ops a.tmps) = true) (x y : Operand) (ho : o.op = .store T x y) (hi : (P.info? T).map (·.size) = some n) (hx : a.eval x = .pointer (some ⟨g, 0, none⟩)) (hy : a.eval y = .agg (secA s)) (hb : Blk w g T (secA s0)) (h0 : s0.length = n) (hs : s.length = n)
    (h : ∀ w', Blk w' g T (secA s) → Fr (fun k => k = g) w w' → wpList P ops Q rest (a.put o.dst undef) w') : wpList P ops Q (o :: rest) a w :=
 wpList_want hw fun K hK => by
  obtain ⟨h1, h2⟩ := setRow_blk (cs' := secA s) hb
  unfold Oper.wp execOp
  simp only [ho, hx, hy, Instr.storeAt, Instr.sureAddr, Sem.run_bind, Sem.run_pure, Result.andThen_ok, run_storeVar_row w g T T (secA s0) (secA s) hb (by rw [hi, secA_size, hs]) (by rw [secA_size, secA_size, h0, hs]) (secA_one s)]
  exact hK _ _ (h _ h1 h2)
theorem wpList_alloc_sec {T : TypeId} {n : Nat} {z : List Int} (hg : o.guard = none) (ho : o.op = .alloc T) (hZ : (P.info? T).map (fun i => (i.zero, i.size)) = some (some (.agg (secA z)), n))
    (h : wpList P ops Q rest (a.put o.dst (.pointer (some ⟨w.heap.size, 0, none⟩))) (w.alloc (.cells (secA z) T))) : wpList P ops Q (o :: rest) a w := by
 obtain ⟨z1, z2⟩ := zero_of_info hZ
 refine wpList_plain hg fun K' hK' => ?_
 have hal : (Instr.alloc T true (.tuple #[])).run P w = .ok (.pointer (some ⟨w.heap.size, 0, none⟩)) (w.alloc (.cells (secA z) T)) := by
  unfold Instr.alloc
  simp [Sem.run_bind, z1 w, newVar, newRow, go_sem, Result.andThen]
 unfold Oper.wp
 simp only [execOp, ho, hal, Result.andThen_ok, Sem.run_bind, Sem.run_pure]
 exact hK' _ _ h
theorem wpList_store_last {T : TypeId} {n : Nat} {s z : List Int} {w1 : World} (hg : o.guard = none) (x y : Operand) (ho : o.op = .store T x y) (hi : (P.info? T).map (·.size) = some n) (hz : z.length = n) (hs : s.length = n)
    (hx : a.eval x = .pointer (some ⟨w1.heap.size, 0, none⟩)) (hy : a.eval y = .agg (secA s))
    (h : wpList P ops Q rest (a.put o.dst undef) (w1.alloc (.cells (secA s) T))) : wpList P ops Q (o :: rest) a (w1.alloc (.cells (secA z) T)) := by
 refine wpList_plain hg fun K2 hK2 => ?_
 unfold Oper.wp
 have hst := run_storeAt_new (P := P) w1 T (secA z) (secA s) (by rw [hi, secA_size, hs]) (by rw [secA_size, secA_size, hz, hs]) (secA_one s)
 simp only [execOp, ho, hx, hy, hst, Result.andThen_ok, Sem.run_bind, Sem.run_pure]
 exact hK2 _ _ h
theorem wpList_newrow {T : TypeId} {n : Nat} {C : Array Value} {Z : Value} (hg1 : o.guard = none) (hg2 : o2.guard = none) (ho : o.op = .alloc T) (x y : Operand) (ho2 : o2.op = .store T x y) (hZ : (P.info? T).map (fun i => (i.zero, i.size)) = some (some Z, n)) (hz : Z.cells.size = n)
    (hx : (a.put o.dst (.pointer (some ⟨w.heap.size, 0, none⟩))).eval x = .pointer (some ⟨w.heap.size, 0, none⟩)) (hy : (a.put o.dst (.pointer (some ⟨w.heap.size, 0, none⟩))).eval y = .agg C) (hs : C.size = n) (h1 : C.all (·.oneCell') = true)
    (h : wpList P ops Q rest ((a.put o.dst (.pointer (some ⟨w.heap.size, 0, none⟩))).put o2.dst undef) (w.alloc (.cells C T))) : wpList P ops Q (o :: o2 :: rest) a w := by
 obtain ⟨z1, z2⟩ := zero_of_info hZ
 refine wpList_plain hg1 fun K' hK' => ?_
 have hal : (Instr.alloc T true (.tuple #[])).run P w = .ok (.pointer (some ⟨w.heap.size, 0, none⟩)) (w.alloc (.cells Z.cells T)) := by
  unfold Instr.alloc
  simp [Sem.run_bind, z1 w, newVar, newRow, go_sem, Result.andThen]
 unfold Oper.wp
 simp only [execOp, ho, hal, Result.andThen_ok, Sem.run_bind, Sem.run_pure]
 refine hK' _ _ (wpList_plain hg2 fun K2 hK2 => ?_)
 unfold Oper.wp
 have hst := run_storeAt_new (P := P) w T Z.cells C (by rw [z2, hs]) (by rw [hz, hs]) h1
 simp only [execOp, ho2, hx, hy, hst, Result.andThen_ok, Sem.run_bind, Sem.run_pure]
 exact hK2 _ _ h
theorem wpList_load_range {T : TypeId} {d : TypeDesc} {b off : Nat} {cs : List Value} (hw : Region.wanted o (yielded ops a.tmps) = true) (x : Operand) (ho : o.op = .load T x) (hx : a.eval x = .pointer (some ⟨b, off, none⟩)) (hc : w.rangeAt b off cs) (hu : P.underlying T = some d) (hd : d.isRow = true) (hi : (P.info? T).map (·.size) = some cs.length)
    (h : wpList P ops Q rest (a.put o.dst (.agg cs.toArray)) w) : wpList P ops Q (o :: rest) a w :=
 wpList_want hw fun _ hK => wp_load_mid T x ho b off hx cs d hc hu hd hi (hK _ _ h)
theorem wpList_newvar {T : TypeId} {n : Nat} {s : List Int} {Z : Value} (hg1 : o.guard = none) (hg2 : o2.guard = none) (ho : o.op = .alloc T) (x y : Operand) (ho2 : o2.op = .store T x y) (hZ : (P.info? T).map (fun i => (i.zero, i.size)) = some (some Z, n)) (hz : Z.cells.size = n)
    (hx : (a.put o.dst (.pointer (some ⟨w.heap.size, 0, none⟩))).eval x = .pointer (some ⟨w.heap.size, 0, none⟩)) (hy : (a.put o.dst (.pointer (some ⟨w.heap.size, 0, none⟩))).eval y = .agg (secA s)) (hs : s.length = n)
    (h : wpList P ops Q rest ((a.put o.dst (.pointer (some ⟨w.heap.size, 0, none⟩))).put o2.dst undef) (w.alloc (.cells (secA s) T))) : wpList P ops Q (o :: o2 :: rest) a w := by
 obtain ⟨z1, z2⟩ := zero_of_info hZ
 refine wpList_plain hg1 fun K' hK' => ?_
 have hal : (Instr.alloc T true (.tuple #[])).run P w = .ok (.pointer (some ⟨w.heap.size, 0, none⟩)) (w.alloc (.cells Z.cells T)) := by
  unfold Instr.alloc
  simp [Sem.run_bind, z1 w, newVar, newRow, go_sem, Result.andThen]
 unfold Oper.wp
 simp only [execOp, ho, hal, Result.andThen_ok, Sem.run_bind, Sem.run_pure]
 refine hK' _ _ (wpList_plain hg2 fun K2 hK2 => ?_)
 unfold Oper.wp
 have hst := run_storeAt_new (P := P) w T Z.cells (secA s) (by rw [z2, secA_size, hs]) (by rw [hz, secA_size, hs]) (secA_one s)
 simp only [execOp, ho2, hx, hy, hst, Result.andThen_ok, Sem.run_bind, Sem.run_pure]
 exact hK2 _ _ h
end
section
variable {ops : Array Oper} {o : Oper} {a : Act} {Q : Exit → Act → World → Prop} {K : Act → World → Prop} {F : Prop}
theorem step_allocn {T : TypeId} {n : Nat} {Z : Value} (hw : Region.wanted o (yielded ops a.tmps) = true) (ho : o.op = .alloc T) (hZ : (P.info? T).map (fun i => (i.zero, i.size)) = some (some Z, n))
    (h : ∀ g w', Blk w' g T Z.cells → New w w' → w.heap.size ≤ g → K (a.put o.dst (.pointer (some ⟨g, 0, none⟩))) w') : if Region.wanted o (yielded ops a.tmps) = true then Oper.wp P o a w K Q else F := by
 rw [if_pos hw]
 obtain ⟨z1, z2⟩ := zero_of_info hZ
 have hal : (Instr.alloc T true (.tuple #[])).run P w = .ok (.pointer (some ⟨w.heap.size, 0, none⟩)) (w.alloc (.cells Z.cells T)) := by
  unfold Instr.alloc
  simp [Sem.run_bind, z1 w, newVar, newRow, go_sem, Result.andThen]
 unfold Oper.wp
 simp only [execOp, ho, hal, Result.andThen_ok, Sem.run_bind, Sem.run_pure]
 exact h _ _ (Blk.new _ _ _) (New.al (New.refl _) _) (Nat.le_refl _)
theorem step_store_any {T : TypeId} {g : Nat} {cs0 cs : Array Value} (hw : Region.wanted o (yielded ops a.tmps) = true) (x y : Operand) (ho : o.op = .store T x y) (hi : (P.info? T).map (·.size) = some cs.size) (hx : a.eval x = .pointer (some ⟨g, 0, none⟩)) (hy : a.eval y = .agg cs) (hb : Blk w g T cs0) (h0 : cs0.size = cs.size) (h1 : cs.all (·.oneCell') = true)
    (h : ∀ w', Blk w' g T cs → Fr (fun k => k = g) w w' → K (a.put o.dst undef) w') : if Region.wanted o (yielded ops a.tmps) = true then Oper.wp P o a w K Q else F := by
 rw [if_pos hw]
 obtain ⟨r1, r2⟩ := setRow_blk (cs' := cs) hb
 unfold Oper.wp execOp
 simp only [ho, hx, hy, Instr.storeAt, Instr.sureAddr, Sem.run_bind, Sem.run_pure, Result.andThen_ok, run_storeVar_row w g T T cs0 cs hb hi h0 h1]
 exact h _ r1 r2
end
end
end Go.Proofs.YtmibndkofoldkaaGreatDoor
namespace Go.Proofs.YtmibndkofoldkaaGreatDoor
set_option linter.unusedVariables false
set_option linter.unusedSimpArgs false
set_option linter.constructorNameAsVariable false
open Go.RowKit
structure Kept (B : Nat) (W W' : World) : Prop where
 size : W.heap.size ≤ W'.heap.size
 rest : ∀ (k : Nat) (o : Obj), B ≤ k → W.heap[k]? = some o → o.isCells = false → W'.heap[k]? = some o
section
variable {B : Nat} {A W W' : World}
theorem Kept.fr {S : Nat → Prop} (h : Fr S W W') (hS : ∀ k o, B ≤ k → S k → W.heap[k]? = some o → o.isCells = true) : Kept B W W' :=
 ⟨h.size, fun k o hb ho hc => (h.block k (Array.getElem?_eq_some_iff.1 ho).1 (fun hs => by have := hS k o hb hs ho; rw [hc] at this; cases this)).trans ho⟩
end
def GivesR {α : Type} (R : List α → α → Prop) (P : Program) (gf : Nat) (lb : Array Value) (encs : α → Array Value) (Good : α → World → Prop) (Kp : World → World → Prop) (S : List α → Prop) (M : Nat) (w : World) : Prop :=
 ∀ (l : Nat) (J : List α → World → Prop) (W : World), New w W → (∀ s A B, J s A → New A B → J s B) →
  (∀ pre x W1, pre.length < M → J pre W1 → Good x W1 → R pre x → YieldAt Fence.wide 2 P l (encs x) W1 fun e W' => e = .returned (.bool true) ∧ J (pre ++ [x]) W' ∧ Kp W1 W') →
  J [] W → CallsIn Fence.wide 2 P gf (#[.func (.yield l) #[] #[]] ++ lb) W fun e W' => (∃ v, e = .returned v) ∧ ∃ xs, S xs ∧ J xs W'
def Puts (B : Nat) (W W' : World) : Prop := ∃ l o o', B ≤ l ∧ W.heap[l]? = some o ∧ o.isCells = false ∧ W' = W.putObj l o'
theorem wp_rangeR {α : Type} {R : List α → α → Prop} {P : Program} {g : Operand} {ps : Array Tmp} {assign body : Code} {Q : Exit → Act → World → Prop} {a : Act} {w : World}
    {gf : Nat} {lb : Array Value} (hg : a.eval g = .func (.func gf) #[] lb) (eg : ∀ args w, (callFunc gf args).run P w = .ok (.enter gf args) w)
    (encs : α → Array Value) (hps : ∀ x, (encs x).size = ps.size) {Good : α → World → Prop} {Kp : World → World → Prop} {S : List α → Prop} {M : Nat} (hseq : GivesR R P gf lb encs Good Kp S M w)
    (hGp : ∀ x W W', Good x W → Puts w.heap.size W W' → Good x W') (hKt : ∀ {A B C : World}, Kp A B → Kp B C → Kp A C) (hKp : ∀ W W', Puts w.heap.size W W' → Kp W W')
    (I : List α → World → Prop) (hIn : ∀ s A B, I s A → New A B → I s B) (hIp : ∀ s A B, I s A → Puts w.heap.size A B → I s B) (h0 : I [] w) (a1 : α → Act)
    (hassign : ∀ (l : Nat) (x : α) (W : World) (K : Act → World → Prop), K (a1 x) W → assign.wpIn (Fence.wide.inRound l) 2 P (Exit.then K (fun _ _ _ => False)) { tmps := (ps.zip (encs x)).foldl (fun t (p, v) => t.setIfInBounds p v) a.tmps, defers := [] } W)
    (hbody : ∀ (l : Nat) (pre : List α) (x : α) (W : World), pre.length < M → I pre W → Good x W → R pre x → body.wpIn (Fence.wide.inRound l) 2 P (fun e _ W' => e = .normal ∧ Kept w.heap.size W W' ∧ Kp W W' ∧ I (pre ++ [x]) W') (a1 x) W)
    (hdone : ∀ (D : Nat) (xs : List α) (W : World), w.heap.size ≤ D → S xs → I xs W → W.heap[D]? = some (.deferred (some [])) → Q .normal { a with defers := { target := .collected D, args := #[] } :: a.defers } W) :
    (Code.rangeFunc g ps assign body).wp P Q a w := by
 refine (wpIn_wide (n := 3)).1 ?_
 refine wpIn_rangeFunc fun fn hfn => ?_
 obtain ⟨rc, hrc⟩ : ∃ rc : LoopState → Option Code → Loop, rc = fun st pe => { state := st, pending := pe, fn, tmps := a.tmps, params := ps, assign, body, defers := w.heap.size } := ⟨_, rfl⟩
 obtain ⟨w1, hw1⟩ : ∃ w1, w1 = (w.alloc (.deferred (some []))).alloc (.loop (rc .ready none)) := ⟨_, rfl⟩
 have hn1 : New w w1 := by rw [hw1]; exact New.al (New.al (New.refl w) _) _
 have hl1 : w1.heap[w.heap.size + 1]? = some (.loop (rc .ready none)) := by
  rw [hw1]
  have := World.alloc_heap_new (w.alloc (.deferred (some []))) (.loop (rc .ready none))
  rwa [World.size_alloc] at this
 have hd1 : w1.heap[w.heap.size]? = some (.deferred (some [])) := by
  rw [hw1]
  exact (Below.heap_alloc _ _ _ (by simp)).trans (World.alloc_heap_new w _)
 refine ⟨w.heap.size + 1, [{ target := .collected w.heap.size, args := #[] }], w1, { target := .fn (.func gf) lb, args := #[.func (.yield (w.heap.size + 1)) #[] #[]] }, w1, gf, #[.func (.yield (w.heap.size + 1)) #[] #[]] ++ lb, w1, ?_, ?_, fun _ _ => trivial, ?_, fun _ => by decide, ?_⟩
 · rw [hw1, hrc]
   exact run_enterLoop_outer _ _ _ _ _
 · simp only [resolve, hg]
   simp [go_sem]
 · simp [invoke, go_sem, eg]
 have put : ∀ (W : World) (r r' : Loop), W.heap[w.heap.size + 1]? = some (.loop r) → Puts w.heap.size W (W.putObj (w.heap.size + 1) (.loop r')) := fun W r r' h => ⟨_, _, _, by omega, h, rfl, rfl⟩
 refine (hseq (w.heap.size + 1) (fun pre W => I pre W ∧ W.heap[w.heap.size + 1]? = some (.loop (rc .ready none)) ∧ W.heap[w.heap.size]? = some (.deferred (some []))) w1 hn1 ?_ ?_ ⟨hIn _ _ _ h0 hn1, hl1, hd1⟩).mono ?_
 · rintro s A B ⟨hi, hl, hd⟩ hN
   exact ⟨hIn s A B hi hN, (hN.block _ (Array.getElem?_eq_some_iff.1 hl).1).trans hl, (hN.block _ (Array.getElem?_eq_some_iff.1 hd).1).trans hd⟩
 · rintro pre x W hpl ⟨hi, hl, hd⟩ hgood hRx
   have hlt := (Array.getElem?_eq_some_iff.1 hl).1
   have hy := run_yield (P := P) (args := encs x) hl (by rw [hrc]; exact hps x)
   rw [hrc] at hy
   refine ⟨fn, _, assign, body, hy, roundIn_of_wpIn hfn (hassign _ x W _ ⟨_, run_beginRound hl (by rw [hrc]), ?_⟩)⟩
   obtain ⟨W2, hW2⟩ : ∃ W2, W2 = W.putObj (w.heap.size + 1) (.loop { rc .ready none with state := .busy }) := ⟨_, rfl⟩
   have hP2 : Puts w.heap.size W W2 := by rw [hW2]; exact put W _ _ hl
   have hl2 : W2.heap[w.heap.size + 1]? = some (.loop { rc .ready none with state := .busy }) := by rw [hW2]; exact World.putObj_heap_same hlt
   have hd2 : W2.heap[w.heap.size]? = some (.deferred (some [])) := by rw [hW2]; exact (World.putObj_heap_other (by omega)).trans hd
   rw [← hW2]
   refine wpIn_mono (hbody _ pre x W2 hpl (hIp _ _ _ hi hP2) (hGp _ _ _ hgood hP2) hRx) ?_
   rintro e a3 W3 ⟨rfl, hk3, hkp3, hi3⟩
   have hl3 := hk3.rest _ _ (by omega) hl2 rfl
   have hd3 := hk3.rest _ _ (Nat.le_refl _) hd2 rfl
   have hr := run_endRound (P := P) none hl3
   have hP3 := put W3 _ { rc .ready none with state := (if (none : Option Code).isNone then .ready else .done), pending := none } hl3
   refine ⟨_, _, hr, rfl, ⟨hIp _ _ _ hi3 hP3, ?_, (World.putObj_heap_other (by omega)).trans hd3⟩, hKt (hKp _ _ hP2) (hKt hkp3 (hKp _ _ hP3))⟩
   rw [World.putObj_heap_same (Array.getElem?_eq_some_iff.1 hl3).1, hrc]
   rfl
 · rintro e W2 ⟨⟨v, rfl⟩, xs, hS, hi, hl, hd⟩
   have hend := run_endLoop (P := P) hl (by rw [hrc]; simp)
   rw [hrc] at hend
   exact ⟨none, _, hend, hdone _ xs _ (Nat.le_refl _) hS (hIp _ _ _ hi (put W2 _ _ hl)) ((World.putObj_heap_other (by omega)).trans hd)⟩
def mk1 (D : Nat) : Deferred := { target := .collected D, args := #[] }
def Marks (B : Nat) (Ds : List Nat) (W : World) : Prop := Ds.Nodup ∧ ∀ D ∈ Ds, B ≤ D ∧ W.heap[D]? = some (.deferred (some []))
section
variable {B : Nat} {Ds : List Nat} {W W' : World}
theorem Marks.nil (B : Nat) (W : World) : Marks B [] W := ⟨List.nodup_nil, fun D h => by cases h⟩
theorem Marks.lt (h : Marks B Ds W) {D : Nat} (hD : D ∈ Ds) : D < W.heap.size := (Array.getElem?_eq_some_iff.1 (h.2 D hD).2).1
theorem Marks.cons (h : Marks B Ds W) {D : Nat} (h0 : ∀ k ∈ Ds, k < D) (hB : B ≤ D) (hd : W.heap[D]? = some (.deferred (some []))) : Marks B (D :: Ds) W :=
 ⟨List.nodup_cons.2 ⟨fun hm => by have := h0 D hm; omega, h.1⟩, fun k hk => by
  rcases List.mem_cons.1 hk with rfl | hk
  · exact ⟨hB, hd⟩
  · exact h.2 k hk⟩
structure Shut (B : Nat) (W W' : World) : Prop where
 below : Below B W W'
 cells : ∀ (k : Nat) (o : Obj), W.heap[k]? = some o → o.isCells = true → W'.heap[k]? = some o
theorem Shut.refl (B : Nat) (W : World) : Shut B W W := ⟨Below.refl _ _, fun _ _ h _ => h⟩
theorem leaves_marks {F : Fence} {n : Nat} {P : Program} {fn : Func} {tmps : Array Value} {R : Ending → World → Prop} : ∀ (Ds : List Nat) (W : World), Marks B Ds W →
    (∀ W', Shut B W W' → ∃ v, (results fn tmps).run P W' = .ok v W' ∧ R (.returned v) W') → LeavesInM F n P fn tmps R (Ds.map mk1) .returning W := by
 intro Ds
 induction Ds with
 | nil => exact fun W _ h => h W (Shut.refl B W)
 | cons D Ds ih =>
  intro W hM h
  have hD := hM.2 D (by simp)
  have hlt := hM.lt (D := D) (by simp)
  have hn := List.nodup_cons.1 hM.1
  refine ⟨by simp, .inl ⟨D, _, rfl, run_takeDeferred hD.2, ih _ ⟨hn.2, fun k hk => ⟨(hM.2 k (by simp [hk])).1, ?_⟩⟩ ?_⟩⟩
  · have hkd : k ≠ D := fun e => hn.1 (by rw [← e]; exact hk)
    exact (World.putObj_heap_other hkd).trans (hM.2 k (by simp [hk])).2
  · intro W' hS
    refine h W' ⟨((Below.refl B W).grown (grownBy_putObj' W D (.deferred none)) (by omega) (fun k e => by cases e; exact hD.1)).trans hS.below, fun k o ho hc => hS.cells k o ?_ hc⟩
    refine (World.putObj_heap_other (fun e => ?_)).trans ho
    rw [e, hD.2] at ho
    cases ho
    cases hc
end
end Go.Proofs.YtmibndkofoldkaaGreatDoor
namespace Go.Proofs.YtmibndkofoldkaaGreatDoor
set_option linter.unusedVariables false
set_option linter.unusedSimpArgs false
set_option linter.constructorNameAsVariable false
open Go.RowKit
section
variable {B : Nat} {W W' : World}
theorem Puts.keep {k : Nat} {o : Obj} (h : Puts B W W') (hk : W.heap[k]? = some o) (hc : o.isCells = true) : W'.heap[k]? = some o := by
 obtain ⟨l, o1, o', -, hl, ho, rfl⟩ := h
 refine (World.putObj_heap_other fun e => ?_).trans hk
 rw [e, hl] at hk
 injection hk with hk
 rw [hk, hc] at ho
 cases ho
theorem Puts.blk {g : Nat} {t : TypeId} {cs : Array Value} (h : Puts B W W') (hb : Blk W g t cs) : Blk W' g t cs := h.keep hb rfl
theorem Puts.fr {S : Nat → Prop} (h : Puts B W W') (hS : ∀ j, B ≤ j → S j) : Fr S W W' := by
 obtain ⟨l, o1, o', hB, hl, ho, rfl⟩ := h
 exact ⟨rfl, rfl, rfl, by simp, fun k _ hk => World.putObj_heap_other (fun e => hk (e ▸ hS _ hB))⟩
theorem Marks.fr {B : Nat} {Ds : List Nat} {S : Nat → Prop} (h : Marks B Ds W) (hF : Fr S W W') (hS : ∀ D, S D → ¬ W.heap[D]? = some (.deferred (some []))) : Marks B Ds W' :=
 ⟨h.1, fun D hD => ⟨(h.2 D hD).1, (hF.block D (h.lt hD) (fun hs => hS D hs (h.2 D hD).2)).trans (h.2 D hD).2⟩⟩
theorem Marks.new {B : Nat} {Ds : List Nat} (h : Marks B Ds W) (hN : New W W') : Marks B Ds W' := h.fr (S := NoB) (hN.toFr _) (fun _ x => x.elim)
end
theorem not_def_blk {W : World} {k t : Nat} {cs : Array Value} (h : Blk W k t cs) : ¬ W.heap[k]? = some (.deferred (some [])) := by
 intro e
 unfold Blk at h
 rw [h] at e
 cases e
theorem wp_sw {P : Program} {c : Code} {Q : Exit → Act → World → Prop} {a : Act} {w : World} (R : Act → World → Prop) (h1 : ∀ a' w', R a' w' → Q .normal a' w')
    (h2 : ∀ K' : Act → World → Prop, (∀ a' w', R a' w' → K' a' w') → c.wp P (Exit.then K' fun _ _ _ => False) a w) : c.wp P Q a w :=
 wp_mono (h2 (fun a w => Q .normal a w) h1) fun e a' w' hq => by
  cases e <;> first | exact hq | exact hq.elim
end Go.Proofs.YtmibndkofoldkaaGreatDoor
namespace Go.Proofs.YtmibndkofoldkaaGreatDoor
set_option linter.unusedVariables false
set_option linter.unusedSimpArgs false
set_option linter.constructorNameAsVariable false
open Go.RowKit Go.Sort
def xor32 (a b : Int) : Int := bits .xor .u32 a b
def add32 (a b : Int) : Int := IntKind.u32.wrap (a + b)
def sg0 (x : Int) : Int := xor32 (xor32 (rotr x 7) (rotr x 18)) (x / 8)
def sg1 (y : Int) : Int := xor32 (xor32 (rotr y 17) (rotr y 19)) (y / 1024)
def bword (s : List Int) (t : Nat) : Int := ((at_ s (4 * t) * 256 + at_ s (4 * t + 1)) * 256 + at_ s (4 * t + 2)) * 256 + at_ s (4 * t + 3)
def sprd (s : List Int) : Nat → List Int
 | 0 => []
 | t + 1 => sprd s t ++ [if t < 16 then bword s t else add32 (add32 (add32 (at_ (sprd s t) (t - 16)) (sg0 (at_ (sprd s t) (t - 15)))) (at_ (sprd s t) (t - 7))) (sg1 (at_ (sprd s t) (t - 2)))]
theorem sprd_len (s : List Int) (t : Nat) : (sprd s t).length = t := by
 induction t with
 | zero => rfl
 | succ t ih => simp [sprd, ih]
def u32A (n : Nat) (L : List Int) : Array Value := ((L ++ List.replicate (n - L.length) 0).map fun x => Value.int .u32 x).toArray
theorem u32A_get {n : Nat} {L : List Int} {i : Nat} (h : i < L.length) : (u32A n L)[i]? = some (.int .u32 (at_ L i)) := by
 unfold u32A at_
 rw [List.getElem?_toArray, List.getElem?_map, List.getElem?_append_left h, List.getElem?_eq_getElem h]
 simp [List.getD_eq_getElem?_getD, List.getElem?_eq_getElem h]
theorem u32A_any {n : Nat} {L : List Int} {i : Nat} (h : i < n) : ∃ v, (u32A n L)[i]? = some v := by
 unfold u32A
 rw [List.getElem?_toArray, List.getElem?_map]
 have : i < (L ++ List.replicate (n - L.length) (0 : Int)).length := by simp; omega
 rw [List.getElem?_eq_getElem this]
 exact ⟨_, rfl⟩
theorem u32A_set {n : Nat} {L : List Int} (v : Int) (h : L.length < n) : (u32A n L).setIfInBounds L.length (.int .u32 v) = u32A n (L ++ [v]) := by
 unfold u32A
 rw [List.setIfInBounds_toArray]
 congr 1
 obtain ⟨m, hm⟩ : ∃ m, n - L.length = m + 1 := ⟨n - L.length - 1, by omega⟩
 have h2 : n - (L ++ [v]).length = m := by simp; omega
 rw [hm, h2, List.map_append, List.set_append_right _ _ (by simp)]
 simp [List.replicate_succ]
theorem u32A_size {n : Nat} {L : List Int} (h : L.length ≤ n) : (u32A n L).size = n := by
 simp [u32A]
 omega
theorem u32A_one (n : Nat) (L : List Int) : (u32A n L).all (·.oneCell') = true := by
 rw [Array.all_eq_true_iff_forall_mem]
 intro x hx
 unfold u32A at hx
 rw [List.mem_toArray] at hx
 obtain ⟨y, -, rfl⟩ := List.mem_map.1 hx
 rfl
theorem add32_b (a b : Int) : 0 ≤ add32 a b ∧ add32 a b < 4294967296 := by
 unfold add32
 rw [IntKind.wrap_u32]
 omega
theorem sprd_b {s : List Int} (hs : s.length = 64) (hb : Byt s) (t : Nat) : ∀ i, 0 ≤ at_ (sprd s t) i ∧ at_ (sprd s t) i < 4294967296 := by
 have key : ∀ i, 0 ≤ at_ s i ∧ at_ s i < 256 := fun i => by
  unfold at_
  rw [List.getD_eq_getElem?_getD]
  cases h : s[i]? with
  | none => simp
  | some x => exact hb x (List.mem_of_getElem? h)
 induction t with
 | zero => intro i; simp [sprd, at_]
 | succ t ih =>
  intro i
  have e : at_ (sprd s (t + 1)) i = if i < t then at_ (sprd s t) i else if i = t then (if t < 16 then bword s t else add32 (add32 (add32 (at_ (sprd s t) (t - 16)) (sg0 (at_ (sprd s t) (t - 15)))) (at_ (sprd s t) (t - 7))) (sg1 (at_ (sprd s t) (t - 2)))) else 0 := by
   have hl := sprd_len s t
   show at_ (sprd s t ++ [_]) i = _
   unfold at_
   rw [List.getD_eq_getElem?_getD]
   by_cases h : i < t
   · rw [if_pos h, List.getElem?_append_left (by omega), List.getD_eq_getElem?_getD]
   · rw [if_neg h, List.getElem?_append_right (by omega), hl]
     by_cases h2 : i = t
     · subst h2
       simp
     · rw [if_neg h2, List.getElem?_eq_none (by simp; omega)]
       rfl
  rw [e]
  split
  · exact ih i
  · split
    · split
      · unfold bword
        have h0 := key (4 * t)
        have h1 := key (4 * t + 1)
        have h2 := key (4 * t + 2)
        have h3 := key (4 * t + 3)
        omega
      · exact add32_b _ _
    · omega
theorem results_rowA {fn : Func} {p : Tmp} {ty : TypeId} {P : Program} (h : fn.results = #[.cell p ty]) (tmps : Array Value) (w : World) (g : Nat) (cs : Array Value) (d : TypeDesc)
    (hp : tmps.getD p undef = .pointer (some ⟨g, 0, none⟩)) (hg : Blk w g ty cs) (hu : P.underlying ty = some d) (hd : d.isRow = true) (hi : (P.info? ty).map (·.size) = some cs.size) :
    (results fn tmps).run P w = .ok (.agg cs) w := results_cell_row h tmps w g ty cs (0, 0) d hp hg hu (by cases d <;> first | rfl | (simp [TypeDesc.isRow] at hd)) hi
theorem slice4 (b1 t : Nat) (h : t < 16) (w : World) : (Instr.sliceAt 153 (.pointer (some ⟨b1, 0, none⟩)) (some (.int .i64 (4 * (t : Int)))) (some (.int .i64 (4 * (t : Int) + 4))) none).run Tryz.prog w = .ok (.slice (some ⟨b1, 4 * t, none⟩) 4 (64 - 4 * t)) w := by
 have hal : (Tryz.prog.arrayLen 153) = 64 := by kernel_rfl
 have hel : (Tryz.prog.elem 153) = 5 := by kernel_rfl
 have hu : Tryz.prog.underlying 153 = some (.array (Tryz.prog.arrayLen 153) (Tryz.prog.elem 153)) := by rw [hal, hel]; exact Tryz.underlying153
 have hs : (sizeOf 5).run Tryz.prog w = .ok 1 w := by
  first | exact Tryz.sizeOf5 w | simp [Tryz.sizeOf5, go_sem] | kernel_rfl
 rw [run_sliceAt_array_lh (P := Tryz.prog) w 153 ⟨b1, 0, none⟩ hu .i64 .i64 (4 * (t : Int)) (4 * (t : Int) + 4) (by omega) (by omega) (by rw [hal]; omega), hel, hal, hs]
 have e1 : (4 * (t : Int)).toNat = 4 * t := by omega
 have e2 : (4 * (t : Int) + 4).toNat = 4 * t + 4 := by omega
 simp only [Result.andThen_ok, slicedAt, e1, e2]
 rw [if_neg (by omega), add_own, Nat.mul_one]
 simp
set_option maxHeartbeats 4000000 in
set_option maxRecDepth 100000 in
theorem spread_any (s : List Int) (w : World) (hs : s.length = 64) (hb : Byt s) : Calls Tryz.prog 240 #[.agg (secA s)] w fun e w' => e = .returned (.agg (u32A 64 (sprd s 64))) ∧ New w w' := by
 have HS := Lib.hid hs
 have HB := Lib.hid hb
 clear hs hb
 go_enter Tryz.func240, Tryz.ntmps240
 go_upto_region 2 with fail
 have hz : (#[.int .u32 0, .int .u32 0, .int .u32 0, .int .u32 0, .int .u32 0, .int .u32 0, .int .u32 0, .int .u32 0, .int .u32 0, .int .u32 0, .int .u32 0, .int .u32 0, .int .u32 0, .int .u32 0, .int .u32 0, .int .u32 0, .int .u32 0, .int .u32 0, .int .u32 0, .int .u32 0, .int .u32 0, .int .u32 0, .int .u32 0, .int .u32 0, .int .u32 0, .int .u32 0, .int .u32 0, .int .u32 0, .int .u32 0, .int .u32 0, .int .u32 0, .int .u32 0, .int .u32 0, .int .u32 0, .int .u32 0, .int .u32 0, .int .u32 0, .int .u32 0, .int .u32 0, .int .u32 0, .int .u32 0, .int .u32 0, .int .u32 0, .int .u32 0, .int .u32 0, .int .u32 0, .int .u32 0, .int .u32 0, .int .u32 0, .int .u32 0, .int .u32 0, .int .u32 0, .int .u32 0, .int .u32 0, .int .u32 0, .int .u32 0, .int .u32 0, .int .u32 0, .int .u32 0, .int .u32 0, .int .u32 0, .int .u32 0, .int .u32 0, .int .u32 0] : Array Value) = u32A 64 [] := rfl
 rw [hz]
 obtain ⟨w1, hw1⟩ : ∃ w1 : World, w1 = ((w.alloc (.cells (secA s) 153)).alloc (.cells (u32A 64 []) 366)).alloc (.cells (u32A 64 []) 366) := ⟨_, rfl⟩
 obtain ⟨b1, hb1⟩ : ∃ b1, b1 = w.heap.size := ⟨_, rfl⟩
 obtain ⟨b2, hb2⟩ : ∃ b2, b2 = w.heap.size + 1 := ⟨_, rfl⟩
 obtain ⟨b3, hb3⟩ : ∃ b3, b3 = w.heap.size + 1 + 1 := ⟨_, rfl⟩
 have HN1 : Hid (New w w1) := Lib.hid (by rw [hw1]; exact New.al (New.al (New.al (New.refl _) _) _) _)
 have HB1 : Hid (Blk w1 b1 153 (secA s)) := Lib.hid (by rw [hw1, hb1]; exact ((Blk.new _ _ _).alloc _).alloc _)
 have HB2 : Hid (Blk w1 b2 366 (u32A 64 [])) := Lib.hid (by rw [hw1, hb2, ← hz]; exact (Blk.new' _ _ _ (by simp)).alloc _)
 have HB3 : Hid (Blk w1 b3 366 (u32A 64 [])) := Lib.hid (by rw [hw1, hb3, ← hz]; exact Blk.new' _ _ _ (by simp))
 have HZ : Hid (b1 = w.heap.size ∧ b2 = w.heap.size + 1 ∧ b3 = w.heap.size + 2) := Lib.hid ⟨hb1, hb2, hb3⟩
 rw [← hw1, ← hb3, ← hb2, ← hb1]
 clear hw1 hb1 hb2 hb3 hz
 go_wp2_with fail
 go_loopw [7] (fun i wr => ∃ (t : Nat), t ≤ 64 ∧ i = .int .i64 t ∧ Hid (New w wr) ∧ Hid (Blk wr b1 153 (secA s)) ∧ Hid (Blk wr b2 366 (u32A 64 [])) ∧ Hid (Blk wr b3 366 (u32A 64 (sprd s t)))) (fun i _ => 64 - (intOf i).toNat)
 case atStart => exact ⟨0, Nat.zero_le _, rfl, HN1, HB1, HB2, HB3⟩
 case round =>
  clear HB1 HB2 HB3 HN1
  obtain ⟨t, ht, rfl, HN, HB1, HB2, HB3⟩ := hrel
  by_cases hlt : t < 64
  · have ht0 : (0 : Int) ≤ (t : Int) := by omega
    have ht6 : (t : Int) < 64 := by omega
    by_cases h16 : t < 16
    · have hd : decide ((t : Int) < 16) = true := decide_eq_true (by omega)
      have hsl := slice4 b1 t h16
      have hg : ∀ i, i < 64 → wr.cell? ⟨b1, i, none⟩ = some (.int .u8 (at_ s i)) := HB1.out.byte HS.out
      have hrd : Rd (fun _ => True) wr 1 (some ⟨b1, 4 * t, none⟩) 4 (u8s [at_ s (4 * t), at_ s (4 * t + 1), at_ s (4 * t + 2), at_ s (4 * t + 3)]) := by
       refine ⟨rfl, fun _ => ⟨_, rfl, trivial, HB1.out.lt, fun i u hu => ?_⟩⟩
       have hi : i < 4 := (List.getElem?_eq_some_iff.1 hu).1
       have ha : (⟨b1, 4 * t, none⟩ : Addr).add i = ⟨b1, 4 * t + i, none⟩ := by
        unfold Addr.add
        split
        · next h0 => subst h0; rfl
        · rfl
       rw [ha, hg _ (by omega)]
       rcases (by omega : i = 0 ∨ i = 1 ∨ i = 2 ∨ i = 3) with rfl | rfl | rfl | rfl <;> exact hu
      have hby : Byt [at_ s (4 * t), at_ s (4 * t + 1), at_ s (4 * t + 2), at_ s (4 * t + 3)] := by
       have key : ∀ i, i < 64 → 0 ≤ at_ s i ∧ at_ s i < 256 := fun i hi => by
        have hl : i < s.length := by rw [HS.out]; exact hi
        have e : at_ s i = s[i] := by simp [at_, List.getD_eq_getElem?_getD, List.getElem?_eq_getElem hl]
        rw [e]
        exact HB.out _ (List.getElem_mem _)
       intro x hx
       simp only [List.mem_cons, List.not_mem_nil, or_false] at hx
       rcases hx with rfl | rfl | rfl | rfl <;> exact key _ (by omega)
      have HW := Lib.hid (word_any (some ⟨b1, 4 * t, none⟩) 4 (64 - 4 * t) _ _ _ _ _ wr hrd rfl hby)
      clear hg hrd hby
      go_wp2_with fail
      refine HW.out.mono ?_
      rintro e w5 ⟨rfl, hN5⟩
      have HN5 := Lib.hid hN5
      obtain ⟨v, hv⟩ := u32A_any (n := 64) (L := sprd s t) hlt
      have c5 : w5.cell? ⟨b3, t, none⟩ = some v := ((hN5.blk HB3.out).cell t).trans hv
      have f5 : w5.frozen? ⟨b3, t, none⟩ = false := (hN5.blk HB3.out).frozen t
      have HF : Hid (Fr (fun k => k = b3) w5 (w5.setCell ⟨b3, t, none⟩ (.int .u32 (bword s t)))) := Lib.hid ((Fr.refl (fun k => k = b3) w5).setCell (p := ⟨b3, t, none⟩) (fun _ => rfl) _)
      have HN6 : Hid (New w (w5.setCell ⟨b3, t, none⟩ (.int .u32 (bword s t)))) := Lib.hid ((HN.out.tr HN5.out).fr HF.out (fun k hk => by have := HZ.out; omega))
      have HB6 : Hid (Blk (w5.setCell ⟨b3, t, none⟩ (.int .u32 (bword s t))) b3 366 (u32A 64 (sprd s (t + 1)))) := Lib.hid (by
       have := (HN5.out.blk HB3.out).set t (.int .u32 (bword s t))
       have h2 := u32A_set (n := 64) (L := sprd s t) (bword s t) (by rw [sprd_len]; exact hlt)
       rw [sprd_len] at h2
       rw [h2] at this
       simpa [sprd, h16] using this)
      have HB16 : Hid (Blk (w5.setCell ⟨b3, t, none⟩ (.int .u32 (bword s t))) b1 153 (secA s)) := Lib.hid ((HN5.out.blk HB1.out).fr HF.out (by have := HZ.out; omega))
      have HB26 : Hid (Blk (w5.setCell ⟨b3, t, none⟩ (.int .u32 (bword s t))) b2 366 (u32A 64 [])) := Lib.hid ((HN5.out.blk HB2.out).fr HF.out (by have := HZ.out; omega))
      clear hN5 hv hsl HW
      dsimp only
      have hbw : ((at_ s (4 * t) * 256 + at_ s (4 * t + 1)) * 256 + at_ s (4 * t + 2)) * 256 + at_ s (4 * t + 3) = bword s t := rfl
      rw [hbw]
      clear hbw
      go_wp2_with fail
      go_roundw
      case rel => exact ⟨t + 1, by omega, by go_num, HN6, HB16, HB26, HB6⟩
      case measure => simp [intOf]; omega
    · have hd : decide ((t : Int) < 16) = false := decide_eq_false (by omega)
      obtain ⟨xx, hxx⟩ : ∃ xx, xx = at_ (sprd s t) (t - 15) := ⟨_, rfl⟩
      obtain ⟨yy, hyy⟩ : ∃ yy, yy = at_ (sprd s t) (t - 2) := ⟨_, rfl⟩
      obtain ⟨i15, h15⟩ : ∃ i, i = t - 15 := ⟨_, rfl⟩
      obtain ⟨i2, h2⟩ : ∃ i, i = t - 2 := ⟨_, rfl⟩
      obtain ⟨i16, h16'⟩ : ∃ i, i = t - 16 := ⟨_, rfl⟩
      obtain ⟨i7, h7⟩ : ∃ i, i = t - 7 := ⟨_, rfl⟩
      have e15 : ((t : Int) - 15) = (i15 : Int) := by omega
      have e2 : ((t : Int) - 2) = (i2 : Int) := by omega
      have e16 : ((t : Int) - 16) = (i16 : Int) := by omega
      have e7 : ((t : Int) - 7) = (i7 : Int) := by omega
      have hlen : (sprd s t).length = t := sprd_len s t
      have HC15 : Hid ((u32A 64 (sprd s t))[i15]? = some (.int .u32 xx)) := Lib.hid (by rw [hxx, ← h15]; exact u32A_get (by omega))
      have HC2 : Hid ((u32A 64 (sprd s t))[i2]? = some (.int .u32 yy)) := Lib.hid (by rw [hyy, ← h2]; exact u32A_get (by omega))
      have HC16 : Hid ((u32A 64 (sprd s t))[i16]? = some (.int .u32 (at_ (sprd s t) i16))) := Lib.hid (u32A_get (by omega))
      have HC7 : Hid ((u32A 64 (sprd s t))[i7]? = some (.int .u32 (at_ (sprd s t) i7))) := Lib.hid (u32A_get (by omega))
      have hbx : 0 ≤ xx ∧ xx < 4294967296 := by rw [hxx]; exact sprd_b HS.out HB.out t _
      have hby : 0 ≤ yy ∧ yy < 4294967296 := by rw [hyy]; exact sprd_b HS.out HB.out t _
      have l15 : (i15 : Int) < 64 := by omega
      have l2 : (i2 : Int) < 64 := by omega
      have l16 : (i16 : Int) < 64 := by omega
      have l7 : (i7 : Int) < 64 := by omega
      have w15 : IntKind.i64.wrap (i15 : Int) = (i15 : Int) := IntWalk.i64_in _ (by omega)
      have w2 : IntKind.i64.wrap (i2 : Int) = (i2 : Int) := IntWalk.i64_in _ (by omega)
      have w16 : IntKind.i64.wrap (i16 : Int) = (i16 : Int) := IntWalk.i64_in _ (by omega)
      have w7 : IntKind.i64.wrap (i7 : Int) = (i7 : Int) := IntWalk.i64_in _ (by omega)
      have HXX := Lib.hid hxx
      have HYY := Lib.hid hyy
      have HI : Hid (i15 = t - 15 ∧ i2 = t - 2 ∧ i16 = t - 16 ∧ i7 = t - 7) := Lib.hid ⟨h15, h2, h16', h7⟩
      clear hlen hxx hyy h15 h2 h16' h7
      go_wp2_with fail
      refine wp_region_mixH (fun w' => Blk w' b3 366 (u32A 64 (sprd s t))) [(true, 0), (true, 1), (true, 2), (true, 3), (true, 4), (true, 5), (true, 6), (true, 7), (true, 8), (true, 9)] (by kernel_rfl) (by kernel_rfl) HB3.out (fun hne => ?_)
      have q15 : ∀ p : HW (fun w' => Blk w' b3 366 (u32A 64 (sprd s t))), p.w.cell? ⟨b3, i15, none⟩ = some (.int .u32 xx) := fun p => (p.h.cell i15).trans HC15.out
      have q2 : ∀ p : HW (fun w' => Blk w' b3 366 (u32A 64 (sprd s t))), p.w.cell? ⟨b3, i2, none⟩ = some (.int .u32 yy) := fun p => (p.h.cell i2).trans HC2.out
      iterate 10 (refine mix_take (o := ⟨_, _, _, _, _, _⟩) rfl (fun K hK => ?_); go_simp; refine hK _ ?_; clear hK K)
      clear q15 q2 hne
      refine mix_done ?_
      have c16 := cell_regrown (show (wr.drew).cell? ⟨b3, i16, none⟩ = some (.int .u32 (at_ (sprd s t) i16)) from (HB3.out.drew.cell i16).trans HC16.out)
      have c7 := cell_regrown (show (wr.drew).cell? ⟨b3, i7, none⟩ = some (.int .u32 (at_ (sprd s t) i7)) from (HB3.out.drew.cell i7).trans HC7.out)
      have cT : ∀ (x : Int) (k : Nat), (0 ≤ x ∧ x < 4294967296) → (1 ≤ k ∧ k ≤ 31) → ∀ d os, Calls Tryz.prog 241 #[.int .u32 x, .int .i64 (k : Int)] (grow (redrawn wr.drew d) os) fun e w'' => e = .returned (.int .u32 (rotr x k)) ∧ ∃ p : Regrown, w'' = grow (redrawn wr.drew p.d) p.os :=
       fun x k hx hk => calls_regrown (fun W _ => (turn_any x k W hx hk).mono fun e w' h => ⟨h.1, by rw [← h.2]; exact New.refl _⟩)
      have t1 := cT xx 7 hbx (by omega)
      have t2 := cT xx 18 hbx (by omega)
      have t3 := cT yy 17 hby (by omega)
      have t4 := cT yy 19 hby (by omega)
      clear cT
      go_wp2_with fail
      refine wp_region_tail 29 (by kernel_rfl) (by kernel_rfl) ?_
      simp only [List.take_succ_cons, List.take_zero, List.drop_succ_cons, List.drop_zero]
      repeat (quiet_step (first | exact t1 _ _ | exact t2 _ _ | exact t3 _ _ | exact t4 _ _))
      refine wpQuiet_nil ?_
      intro Wq hNq
      have HNq : Hid (New wr Wq) := Lib.hid (New.tr (New.dr (New.refl wr)) hNq)
      obtain ⟨v, hv⟩ := u32A_any (n := 64) (L := sprd s t) hlt
      have c5 : Wq.cell? ⟨b3, t, none⟩ = some v := ((HNq.out.blk HB3.out).cell t).trans hv
      have f5 : Wq.frozen? ⟨b3, t, none⟩ = false := (HNq.out.blk HB3.out).frozen t
      obtain ⟨val, hval⟩ : ∃ val, val = (add32 (add32 (add32 (at_ (sprd s t) i16) (sg0 xx)) (at_ (sprd s t) i7)) (sg1 yy)) := ⟨_, rfl⟩
      have hval2 : IntKind.u32.wrap (IntKind.u32.wrap (IntKind.u32.wrap (at_ (sprd s t) i16 + bits BinOp.xor .u32 (bits BinOp.xor .u32 (rotr xx 7) (rotr xx 18)) (xx / 8)) + at_ (sprd s t) i7) + bits BinOp.xor .u32 (bits BinOp.xor .u32 (rotr yy 17) (rotr yy 19)) (yy / 1024)) = val := hval.symm
      rw [hval2]
      have HF : Hid (Fr (fun k => k = b3) Wq (Wq.setCell ⟨b3, t, none⟩ (.int .u32 val))) := Lib.hid ((Fr.refl (fun k => k = b3) Wq).setCell (p := ⟨b3, t, none⟩) (fun _ => rfl) _)
      have HN6 : Hid (New w (Wq.setCell ⟨b3, t, none⟩ (.int .u32 val))) := Lib.hid ((HN.out.tr HNq.out).fr HF.out (fun k hk => by have := HZ.out; omega))
      have HB6 : Hid (Blk (Wq.setCell ⟨b3, t, none⟩ (.int .u32 val)) b3 366 (u32A 64 (sprd s (t + 1)))) := Lib.hid (by
       have := (HNq.out.blk HB3.out).set t (.int .u32 val)
       have h2 := u32A_set (n := 64) (L := sprd s t) val (by rw [sprd_len]; exact hlt)
       rw [sprd_len] at h2
       rw [h2, hval, HXX.out, HYY.out, HI.out.2.2.1, HI.out.2.2.2] at this
       rw [hval, HXX.out, HYY.out, HI.out.2.2.1, HI.out.2.2.2]
       simpa [sprd, h16] using this)
      have HB16 : Hid (Blk (Wq.setCell ⟨b3, t, none⟩ (.int .u32 val)) b1 153 (secA s)) := Lib.hid ((HNq.out.blk HB1.out).fr HF.out (by have := HZ.out; omega))
      have HB26 : Hid (Blk (Wq.setCell ⟨b3, t, none⟩ (.int .u32 val)) b2 366 (u32A 64 [])) := Lib.hid ((HNq.out.blk HB2.out).fr HF.out (by have := HZ.out; omega))
      clear hNq hv t1 t2 t3 t4 c16 c7 hval hval2 hbx hby
      go_wp2_with fail
      go_roundw
      case rel => exact ⟨t + 1, by omega, by go_num, HN6, HB16, HB26, HB6⟩
      case measure => simp [intOf]; omega
  · obtain rfl : t = 64 := by omega
    have hsz : (u32A 64 (sprd s 64)).size = 64 := u32A_size (by rw [sprd_len]; exact Nat.le_refl _)
    have hsz0 : (u32A 64 []).size = (u32A 64 (sprd s 64)).size := by rw [hsz]; exact u32A_size (by simp)
    go_wp2_with (first
     | ((with_reducible refine atOp ⟨some 59, .load _ _, _, _, _, _⟩ ?_); refine wpList_load_any rfl _ rfl Tryz.underlying366 rfl (by rw [hsz]; rfl) rfl HB3.out ?_)
     | ((with_reducible refine atOp ⟨none, .store 366 (.tmp 2) _, _, _, _, _⟩ ?_); refine wpList_store_any rfl (.tmp 2) (.tmp 59) rfl (by rw [hsz]; rfl) rfl rfl HB2.out hsz0 (u32A_one _ _) ?_; intro w8 hb8 hf8; have HB8 := Lib.hid hb8; have HF8 := Lib.hid hf8; clear hb8 hf8))
    refine bodyPost_ret (v := .agg (u32A 64 (sprd s 64))) (results_rowA rfl _ _ b2 _ _ rfl HB8.out Tryz.underlying366 rfl (by rw [hsz]; rfl)) rfl ⟨rfl, HN.out.fr HF8.out (fun k hk => by have := HZ.out; omega)⟩
end Go.Proofs.YtmibndkofoldkaaGreatDoor
namespace Go.Proofs.YtmibndkofoldkaaGreatDoor
set_option linter.unusedVariables false
set_option linter.unusedSimpArgs false
set_option linter.constructorNameAsVariable false
open Go.RowKit Go.Sort
def kL : List Int := [1116352408, 1899447441, 3049323471, 3921009573, 961987163, 1508970993, 2453635748, 2870763221, 3624381080, 310598401, 607225278, 1426881987, 1925078388, 2162078206, 2614888103, 3248222580, 3835390401, 4022224774, 264347078, 604807628, 770255983, 1249150122, 1555081692, 1996064986, 2554220882, 2821834349, 2952996808, 3210313671, 3336571891, 3584528711, 113926993, 338241895, 666307205, 773529912, 1294757372, 1396182291, 1695183700, 1986661051, 2177026350, 2456956037, 2730485921, 2820302411, 3259730800, 3345764771, 3516065817, 3600352804, 4094571909, 275423344, 430227734, 506948616, 659060556, 883997877, 958139571, 1322822218, 1537002063, 1747873779, 1955562222, 2024104815, 2227730452, 2361852424, 2428436474, 2756734187, 3204031479, 3329325298]
structure H8 where
 a : Int
 b : Int
 c : Int
 d : Int
 e : Int
 f : Int
 g : Int
 h : Int
def H8.arr (x : H8) : Array Value := #[.int .u32 x.a, .int .u32 x.b, .int .u32 x.c, .int .u32 x.d, .int .u32 x.e, .int .u32 x.f, .int .u32 x.g, .int .u32 x.h]
structure H8.Ok (x : H8) : Prop where
 a : 0 ≤ x.a ∧ x.a < 4294967296
 b : 0 ≤ x.b ∧ x.b < 4294967296
 c : 0 ≤ x.c ∧ x.c < 4294967296
 d : 0 ≤ x.d ∧ x.d < 4294967296
 e : 0 ≤ x.e ∧ x.e < 4294967296
 f : 0 ≤ x.f ∧ x.f < 4294967296
 g : 0 ≤ x.g ∧ x.g < 4294967296
 h : 0 ≤ x.h ∧ x.h < 4294967296
def H8.list (x : H8) : List Int := [x.a, x.b, x.c, x.d, x.e, x.f, x.g, x.h]
theorem H8.arr_list (x : H8) : x.arr = u32A 8 x.list := rfl
def iH : H8 := ⟨1779033703, 3144134277, 1013904242, 2773480762, 1359893119, 2600822924, 528734635, 1541459225⟩
theorem iH_ok : iH.Ok := by constructor <;> decide
theorem kL_b : ∀ t, 0 ≤ at_ kL t ∧ at_ kL t < 4294967296 := fun t => by
 unfold at_
 rw [List.getD_eq_getElem?_getD]
 cases h : kL[t]? with
 | none => simp
 | some x =>
  have hm : x ∈ kL := List.mem_of_getElem? h
  have key : ∀ x ∈ kL, 0 ≤ x ∧ x < 4294967296 := by decide
  exact key x hm
theorem H8.ok_b {x : H8} (h : x.Ok) : ∀ t, 0 ≤ at_ x.list t ∧ at_ x.list t < 4294967296 := fun t => by
 unfold at_
 rw [List.getD_eq_getElem?_getD]
 cases e : x.list[t]? with
 | none => simp
 | some y =>
  have hm : y ∈ x.list := List.mem_of_getElem? e
  unfold H8.list at hm
  simp only [List.mem_cons, List.not_mem_nil, or_false] at hm
  rcases hm with rfl | rfl | rfl | rfl | rfl | rfl | rfl | rfl
  · exact h.a
  · exact h.b
  · exact h.c
  · exact h.d
  · exact h.e
  · exact h.f
  · exact h.g
  · exact h.h
def and32 (a b : Int) : Int := bits .and .u32 a b
def not32 (a : Int) : Int := bits .xor .u32 (if IntKind.u32.signed = true then -1 else IntKind.u32.max) a
theorem add_m (a b : Int) : add32 a b = (a + b) % 4294967296 := by
 unfold add32
 rw [IntKind.wrap_u32]
theorem add_q (p a b : Int) : add32 p (add32 a b) = (p + (a + b)) % 4294967296 := by
 rw [add_m, add_m]
 omega
def cP (k w : Int) (x : H8) : Int := add32 (add32 (add32 (add32 x.h (xor32 (xor32 (rotr x.e 6) (rotr x.e 11)) (rotr x.e 25))) (xor32 (and32 x.e x.f) (and32 (not32 x.e) x.g))) k) w
def cQ (x : H8) : Int := add32 (xor32 (xor32 (rotr x.a 2) (rotr x.a 13)) (rotr x.a 22)) (xor32 (xor32 (and32 x.a x.b) (and32 x.a x.c)) (and32 x.b x.c))
def cR (k w : Int) (x : H8) : H8 := ⟨add32 (cP k w x) (cQ x), x.a, x.b, x.c, add32 x.d (cP k w x), x.e, x.f, x.g⟩
def rnds (K : Nat → Int) (W : List Int) (S : H8) : Nat → H8
 | 0 => S
 | t + 1 => cR (K t) (at_ W t) (rnds K W S t)
theorem cR_ok {k w : Int} {x : H8} (h : x.Ok) : (cR k w x).Ok := ⟨add32_b _ _, h.a, h.b, h.c, add32_b _ _, h.e, h.f, h.g⟩
theorem rnds_ok {K : Nat → Int} {W : List Int} {S : H8} (h : S.Ok) : ∀ t, (rnds K W S t).Ok
 | 0 => h
 | t + 1 => cR_ok (rnds_ok h t)
def H8.add (x y : H8) : H8 := ⟨add32 x.a y.a, add32 x.b y.b, add32 x.c y.c, add32 x.d y.d, add32 x.e y.e, add32 x.f y.f, add32 x.g y.g, add32 x.h y.h⟩
theorem H8.add_ok (x y : H8) : (x.add y).Ok := ⟨add32_b _ _, add32_b _ _, add32_b _ _, add32_b _ _, add32_b _ _, add32_b _ _, add32_b _ _, add32_b _ _⟩
def addTo (R S : List Int) (i : Nat) : List Int := (List.range 8).map fun j => if j < i then add32 (at_ R j) (at_ S j) else at_ R j
theorem addTo_8 (x y : H8) : u32A 8 (addTo x.list y.list 8) = (x.add y).arr := rfl
theorem addTo_len (R S : List Int) (i : Nat) : (addTo R S i).length = 8 := by simp [addTo]
theorem addTo_at {R S : List Int} {i : Nat} (h : i < 8) : at_ (addTo R S i) i = at_ R i := by
 rcases (by omega : i = 0 ∨ i = 1 ∨ i = 2 ∨ i = 3 ∨ i = 4 ∨ i = 5 ∨ i = 6 ∨ i = 7) with rfl | rfl | rfl | rfl | rfl | rfl | rfl | rfl <;> rfl
theorem addTo_set {R S : List Int} {i : Nat} (h : i < 8) : (u32A 8 (addTo R S i)).setIfInBounds i (.int .u32 (add32 (at_ R i) (at_ S i))) = u32A 8 (addTo R S (i + 1)) := by
 rcases (by omega : i = 0 ∨ i = 1 ∨ i = 2 ∨ i = 3 ∨ i = 4 ∨ i = 5 ∨ i = 6 ∨ i = 7) with rfl | rfl | rfl | rfl | rfl | rfl | rfl | rfl <;> rfl
def compr (S : H8) (s : List Int) : H8 := (rnds (fun t => at_ kL t) (sprd s 64) S 64).add S
theorem compr_ok (S : H8) (s : List Int) : (compr S s).Ok := H8.add_ok _ _
def padL (b : List Int) : List Int := b ++ [128] ++ List.replicate ((119 - b.length % 64) % 64) 0 ++ beL 8 (8 * b.length)
def comprN (p : List Int) : Nat → H8
 | 0 => iH
 | k + 1 => compr (comprN p k) ((p.drop (64 * k)).take 64)
theorem comprN_ok (p : List Int) : ∀ k, (comprN p k).Ok
 | 0 => iH_ok
 | _ + 1 => compr_ok _ _
def hsh (b : List Int) : List Int := (comprN (padL b) ((padL b).length / 64)).list.flatMap fun x => beL 4 x.toNat
theorem padL_len (b : List Int) : (padL b).length % 64 = 0 := by
 simp only [padL, List.length_append, List.length_replicate, beL_len, List.length_cons, List.length_nil]
 omega
theorem padL_byt {b : List Int} (h : Byt b) : Byt (padL b) := by
 intro x hx
 unfold padL at hx
 simp only [List.mem_append, List.mem_cons, List.not_mem_nil, or_false] at hx
 rcases hx with ((hx | rfl) | hx) | hx
 · exact h x hx
 · omega
 · have := List.eq_of_mem_replicate hx
   omega
 · exact beL_byt _ _ x hx
theorem hsh_len (b : List Int) : (hsh b).length = 32 := rfl
theorem hsh_byt (b : List Int) : Byt (hsh b) := by
 intro x hx
 unfold hsh at hx
 obtain ⟨y, -, hy⟩ := List.mem_flatMap.1 hx
 exact beL_byt _ _ x hy
end Go.Proofs.YtmibndkofoldkaaGreatDoor
