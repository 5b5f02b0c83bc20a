/- Texts of one proof, one behind the other: KvW, KvBa, AppIn. No condition but each one's own. -/
import Derived.Test.YtfchcdbfalgdlaaGreatDoorSweepKeepsM21
import Derived.Test.YtfchcdbfalgdlaaGreatDoorSweepKeepsM3
import Derived.Test.YtfchcdbfalgdlaaGreatDoorSweepKeepsM1
import Derived.Test.YtfchcdbfalgdlaaGreatDoorSweepKeepsM4
import Derived.OwnWalkIn
import Derived.TacticsInMore
namespace Go.Proofs.YtfchcdbfalgdlaaGreatDoor
set_option linter.unusedVariables false
set_option linter.unusedSimpArgs false
set_option linter.constructorNameAsVariable false
open Go.RowKit Go.Maps Go.Sort
theorem raw_app (xs rest : List Int) : (⟨xs ++ rest, 0⟩ : Rs).raw xs.length = (xs, ⟨rest, 0⟩) := by
 have hl : (⟨xs ++ rest, 0⟩ : Rs).left = xs.length + rest.length := by
  unfold Rs.left
  simp
 unfold Rs.raw
 rw [hl, if_neg (by omega)]
 simp
theorem num_app (size n : Nat) (rest : List Int) (h : n < 256 ^ size) : (⟨beL size n ++ rest, 0⟩ : Rs).num size = (n, ⟨rest, 0⟩) := by
 unfold Rs.num
 have := raw_app (beL size n) rest
 rw [beL_len] at this
 rw [this, valL_beL size n h]
theorem bytes_app (m most : Nat) (ys rest : List Int) (hm : ys.length = m) (h1 : m ≤ most) (h2 : m < 65536) : (⟨beL 2 m ++ (ys ++ rest), 0⟩ : Rs).bytes most = (ys, ⟨rest, 0⟩) := by
 have hl : (⟨beL 2 m ++ (ys ++ rest), 0⟩ : Rs).left = 2 + m + rest.length := by
  unfold Rs.left
  simp [beL_len, hm]
  omega
 have htk : (beL 2 m ++ (ys ++ rest)).take 2 = beL 2 m := by
  have := List.take_left (l₁ := beL 2 m) (l₂ := ys ++ rest)
  rwa [beL_len] at this
 unfold Rs.bytes
 rw [hl, if_neg (by omega)]
 dsimp only
 rw [htk, valL_beL 2 m (by omega), if_neg (by omega)]
 have h3 := raw_app (beL 2 m) (ys ++ rest)
 rw [beL_len] at h3
 rw [h3]
 dsimp only
 have h4 := raw_app ys rest
 rwa [hm] at h4
theorem flag_app (b : Bool) (rest : List Int) : (⟨[if b then 1 else 0] ++ rest, 0⟩ : Rs).flag = (b, ⟨rest, 0⟩) := by
 unfold Rs.flag Rs.num Rs.raw Rs.left
 cases b <;> simp [valL]
theorem step_app_c {c : Ch} (hk : c.k.xs.length = c.k.n) (hv : c.v.xs.length = c.v.n) (hok : chOk c = true) (rest : List Int) : prsStep ⟨chB c ++ rest, 0⟩ = (pcOf c, ⟨rest, 0⟩) := by
 obtain ⟨⟨kA, kn, kc, ks⟩, ⟨vA, vn, vc, vs⟩, d⟩ := c
 dsimp only at hk hv
 simp only [chOk, Bool.and_eq_true, decide_eq_true_eq, Bool.not_eq_true', Bool.and_eq_false_iff, decide_eq_false_iff_not] at hok
 obtain ⟨⟨⟨h1, h2⟩, h3⟩, h4⟩ := hok
 unfold prsStep chB pcOf
 dsimp only
 cases d
 · have e : [if !false then (1 : Int) else 0] ++ beL 2 kn ++ ks ++ (if false = true then [] else beL 2 vn ++ vs) ++ rest = [if !false then (1 : Int) else 0] ++ (beL 2 kn ++ (ks ++ (beL 2 vn ++ (vs ++ rest)))) := by simp
   rw [e, flag_app]
   dsimp only
   rw [bytes_app kn 16 ks _ hk h2 (by omega), bytes_app vn 16384 vs rest hv h3 (by omega)]
   rfl
 · have hvn : vn = 0 := by
    rcases h4 with h4 | h4
    · cases h4
    · omega
   have hvs : vs = [] := List.eq_nil_of_length_eq_zero (by rw [hv, hvn])
   have e : [if !true then (1 : Int) else 0] ++ beL 2 kn ++ ks ++ (if true = true then [] else beL 2 vn ++ vs) ++ rest = [if !true then (1 : Int) else 0] ++ (beL 2 kn ++ (ks ++ rest)) := by simp
   rw [e, flag_app]
   dsimp only
   rw [bytes_app kn 16 ks _ hk h2 (by omega), hvs]
   rfl
def LenOk (L : List Ch) : Prop := ∀ c ∈ L, c.k.xs.length = c.k.n ∧ c.v.xs.length = c.v.n
theorem RTb.lens {w : World} {A : Option Addr} {n : Nat} {L : List Ch} (h : RTb w A n L) : LenOk L := fun c hc => ⟨(h.el c hc).k.len, (h.el c hc).v.len⟩
theorem prs_app (L : List Ch) (hl : LenOk L) (hok : ∀ c ∈ L, chOk c = true) (out : List PC) (rest : List Int) : prs L.length ⟨L.flatMap chB ++ rest, 0⟩ out = (out ++ L.map pcOf, ⟨rest, 0⟩) := by
 induction L generalizing out with
 | nil => simp [prs]
 | cons c L ih =>
  have hc := hl c (List.mem_cons_self ..)
  have hoc := hok c (List.mem_cons_self ..)
  rw [List.length_cons]
  unfold prs
  rw [List.flatMap_cons, List.append_assoc, step_app_c hc.1 hc.2 hoc]
  have hne : (pcOf c).k ≠ [] := by
   intro e
   have h1 : c.k.xs = [] := e
   have h2 := hc.1
   rw [h1] at h2
   simp only [chOk, Bool.and_eq_true, decide_eq_true_eq] at hoc
   simp at h2
   omega
  rw [if_neg hne]
  dsimp only
  rw [ih (fun c hc => hl c (List.mem_cons_of_mem _ hc)) (fun c hc => hok c (List.mem_cons_of_mem _ hc))]
  simp
theorem pcOk_len {c : Ch} (hk : c.k.xs.length = c.k.n) (hv : c.v.xs.length = c.v.n) : pcOk (pcOf c) = chOk c := by
 unfold pcOk chOk pcOf
 simp only [hk, hv]
theorem pcsOk_len {L : List Ch} (h : LenOk L) : pcsOk (L.map pcOf) = chsOk L := by
 unfold pcsOk chsOk
 have hlen : (L.map pcOf).length = L.length := by simp
 have e : (L.map pcOf).all pcOk = L.all chOk := by
  clear hlen
  induction L with
  | nil => rfl
  | cons c L ih => rw [List.map_cons, List.all_cons, List.all_cons, pcOk_len (h c (List.mem_cons_self ..)).1 (h c (List.mem_cons_self ..)).2, ih fun c hc => h c (List.mem_cons_of_mem _ hc)]
 rw [hlen, e]
theorem chsOk_all {L : List Ch} (h : chsOk L = true) : ∀ c ∈ L, chOk c = true := by
 unfold chsOk at h
 simp only [Bool.and_eq_true] at h
 exact List.all_eq_true.1 h.2
theorem parse_put {L : List Ch} (hl : LenOk L) (hok : chsOk L = true) : parseB (putB L) = some (L.map pcOf) := by
 have hsp := chsOk_spec hok
 unfold parseB putB
 have h1 := num_app 2 L.length (L.flatMap chB) (by omega)
 rw [h1]
 dsimp only
 have h2 := prs_app L hl (chsOk_all hok) [] []
 rw [List.append_nil, List.nil_append] at h2
 rw [h2]
 dsimp only
 rw [if_pos ⟨rfl, by rw [pcsOk_len hl]; exact hok⟩]
end Go.Proofs.YtfchcdbfalgdlaaGreatDoor
namespace Go.Proofs.YtfchcdbfalgdlaaGreatDoor
set_option linter.unusedVariables false
set_option linter.unusedSimpArgs false
set_option linter.constructorNameAsVariable false
open Go.RowKit Go.Maps Go.Sort
section
variable {α : Type}
def spS (f : α → Nat) : Option (List (List α) × List α) → α → Option (List (List α) × List α)
 | none, y => some ([], [y])
 | some (C, l), y => if l.length < 600 ∧ (l.map f).sum + f y ≤ 8190 then some (C, l ++ [y]) else some (C ++ [l], [y])
def spl (f : α → Nat) (L : List α) : Option (List (List α) × List α) := L.foldl (spS f) none
def rws : Option (List (List α) × List α) → List (List α)
 | none => []
 | some (C, l) => C ++ [l]
theorem spl_snoc (f : α → Nat) (L : List α) (y : α) : spl f (L ++ [y]) = spS f (spl f L) y := by simp [spl]
theorem spS_map {β : Type} (g : α → β) (f : β → Nat) (s : Option (List (List α) × List α)) (y : α) :
    spS f (s.map fun x => (x.1.map (List.map g), x.2.map g)) (g y) = (spS (fun a => f (g a)) s y).map fun x => (x.1.map (List.map g), x.2.map g) := by
 rcases s with _ | ⟨C, l⟩
 · simp [spS]
 · have he : (List.map f (List.map g l)).sum = (List.map (fun a => f (g a)) l).sum := by rw [List.map_map]; rfl
   simp only [spS, Option.map_some, List.length_map, he]
   by_cases h : l.length < 600 ∧ (l.map fun a => f (g a)).sum + f (g y) ≤ 8190
   · rw [if_pos h, if_pos h]; simp
   · rw [if_neg h, if_neg h]; simp
theorem spl_map {β : Type} (g : α → β) (f : β → Nat) (L : List α) : spl f (L.map g) = (spl (fun a => f (g a)) L).map fun x => (x.1.map (List.map g), x.2.map g) := by
 suffices h : ∀ s : Option (List (List α) × List α), (L.map g).foldl (spS f) (s.map fun x => (x.1.map (List.map g), x.2.map g)) = (L.foldl (spS fun a => f (g a)) s).map fun x => (x.1.map (List.map g), x.2.map g) from h none
 induction L with
 | nil => intro s; rfl
 | cons y L ih => intro s; rw [List.map_cons, List.foldl_cons, List.foldl_cons, spS_map, ih]
theorem rws_map {β : Type} (g : α → β) (s : Option (List (List α) × List α)) : rws (s.map fun x => (x.1.map (List.map g), x.2.map g)) = (rws s).map (List.map g) := by
 rcases s with _ | ⟨C, l⟩ <;> simp [rws]
theorem spl_flat (f : α → Nat) (L : List α) : (rws (spl f L)).flatten = L := by
 suffices h : ∀ (s : Option (List (List α) × List α)), (rws (L.foldl (spS f) s)).flatten = (rws s).flatten ++ L from (h none).trans (by simp [rws])
 induction L with
 | nil => intro s; simp
 | cons y L ih =>
  intro s
  rw [List.foldl_cons, ih]
  rcases s with _ | ⟨C, l⟩
  · simp [spS, rws]
  · simp only [spS]
    by_cases h : l.length < 600 ∧ (l.map f).sum + f y ≤ 8190
    · rw [if_pos h]; simp [rws]
    · rw [if_neg h]; simp [rws]
theorem spl_rows (f : α → Nat) (L : List α) : ∀ l ∈ rws (spl f L), 1 ≤ l.length ∧ l.length ≤ 600 := by
 suffices h : ∀ (s : Option (List (List α) × List α)), (∀ l ∈ rws s, 1 ≤ l.length ∧ l.length ≤ 600) → ∀ l ∈ rws (L.foldl (spS f) s), 1 ≤ l.length ∧ l.length ≤ 600 from h none (by simp [rws])
 induction L with
 | nil => intro s h; exact h
 | cons y L ih =>
  intro s h
  rw [List.foldl_cons]
  refine ih _ ?_
  rcases s with _ | ⟨C, l⟩
  · simp [spS, rws]
  · simp only [spS]
    have hl := h l (by simp [rws])
    have hC : ∀ x ∈ C, 1 ≤ x.length ∧ x.length ≤ 600 := fun x hx => h x (by simp [rws, hx])
    split
    · next hc =>
      intro x hx
      simp only [rws, List.mem_append, List.mem_singleton] at hx
      rcases hx with hx | rfl
      · exact hC x hx
      · simp; omega
    · intro x hx
      simp only [rws, List.mem_append, List.mem_singleton] at hx
      rcases hx with (hx | rfl) | rfl
      · exact hC x hx
      · exact hl
      · simp
end
def szc (c : Ch) : Nat := 5 + c.k.xs.length + c.v.xs.length
section
variable {B : Nat} {W W' : World}
theorem Puts.cell {p : Addr} {v : Value} (h : Puts B W W') (hc : W.cell? p = some v) : W'.cell? p = some v := by
 have hlt := World.block_lt_of_cell? W p hc
 refine (World.cell?_of_block (w := W) ?_).trans hc
 have ho : W.heap[p.block]? = some W.heap[p.block] := Array.getElem?_eq_getElem hlt
 refine (h.keep ho ?_).trans ho.symm
 generalize W.heap[p.block] = o at ho
 unfold World.cell? at hc
 rw [ho] at hc
 cases o <;> first | rfl | simp at hc
theorem Puts.rd {p : Nat → Prop} {size n : Nat} {A : Option Addr} {xs : List Value} (h : Puts B W W') (hr : Rd p W size A n xs) : Rd p W' size A n xs :=
 ⟨hr.1, fun hn => by
  obtain ⟨ad, e, hp, hb, hc⟩ := hr.2 hn
  have hz : W.heap.size ≤ W'.heap.size := by
   obtain ⟨l, o, o', -, -, -, rfl⟩ := h
   simp
  exact ⟨ad, e, hp, Nat.lt_of_lt_of_le hb hz, fun j u hu => h.cell (hc j u hu)⟩⟩
end
theorem Rd.lts {p : Nat → Prop} {w : World} {s n : Nat} {A : Option Addr} {xs : List Value} (h : Rd p w s A n xs) : Rd (fun b => p b ∧ b < w.heap.size) w s A n xs :=
 ⟨h.1, fun hn => by obtain ⟨ad, e, hp, hb, hc⟩ := h.2 hn; exact ⟨ad, e, ⟨hp, hb⟩, hb, hc⟩⟩
theorem Ch.In.lts {p : Nat → Prop} {w : World} {c : Ch} (h : c.In p w) : c.In (fun b => p b ∧ b < w.heap.size) w := ⟨⟨h.k.rd.lts, h.k.byt⟩, ⟨h.v.rd.lts, h.v.byt⟩⟩
theorem Ch.In.imp {p q : Nat → Prop} {w : World} {c : Ch} (h : c.In p w) (hq : ∀ k, p k → q k) : c.In q w := ⟨⟨h.k.rd.imp hq, h.k.byt⟩, ⟨h.v.rd.imp hq, h.v.byt⟩⟩
theorem Ch.In.frq {p S : Nat → Prop} {w w' : World} {c : Ch} (h : c.In p w) (hF : Fr S w w') (hS : ∀ k, p k → ¬ S k) : c.In p w' := ⟨⟨h.k.rd.fr hF hS, h.k.byt⟩, ⟨h.v.rd.fr hF hS, h.v.byt⟩⟩
theorem own_set {w : World} {base n c g i : Nat} {e : TypeId} {xs : List Value} (h : w.ownsRow base e 1 (.slice (some ⟨g, 0, none⟩) n c) n xs) (hi : i < n) (u : Value) : (w.setCell ⟨g, i, none⟩ u).ownsRow base e 1 (.slice (some ⟨g, 0, none⟩) n c) n (xs.set i u) := by
 refine ⟨by rw [List.length_set]; exact h.1, ?_⟩
 rcases h.2 with ⟨h0, -⟩ | ⟨g', cap, cur, hv, hb, hh, h1, h2, h3, h4⟩
 · injection h0 with h0; cases h0
 · injection hv with hA hn hc
   injection hA with hA
   injection hA with hA
   subst hA hc
   refine .inr ⟨g, c, cur.setIfInBounds i u, rfl, hb, heap_setCell_same w g i cur e u hh, h1, h2, by simpa using h3, ?_⟩
   rw [Array.toList_setIfInBounds, ← h4, List.take_set]
theorem own_own_ne {w : World} {b1 b2 s1 s2 n1 n2 : Nat} {e1 e2 : TypeId} {v1 v2 : Value} {x1 x2 : List Value} (h1 : w.ownsRow b1 e1 s1 v1 n1 x1) (h2 : w.ownsRow b2 e2 s2 v2 n2 x2) (he : e1 ≠ e2) {k : Nat} (hk : v1.ownBlock = some k) : v2.ownBlock ≠ some k :=
 fun hk2 => IsT.not_own h1 he hk (own_isT h2 hk2)
structure Nst (tr te : TypeId) (q : Nat → Prop) (base lo : Nat) (W : World) (A : Option Addr) (n c : Nat) (C : List Sl) (l : Sl) : Prop where
 ne : tr ≠ te
 qb : ∀ j, base ≤ j → q j
 nn : n = C.length + 1
 out : W.ownsRow base tr 1 (.slice A n c) n ((C ++ [l]).flatMap Sl.cells)
 blo : base ≤ lo
 los : lo ≤ W.heap.size
 last : W.ownsRow lo te 3 (.slice l.A l.n l.c) l.n (l.L.flatMap Ch.cells)
 ll : l.L.length = l.n
 cl : ∀ x ∈ C, x.L.length = x.n ∧ Rd (fun j => q j ∧ j < lo ∧ (Value.slice A n c).ownBlock ≠ some j) W 3 x.A x.n (x.L.flatMap Ch.cells)
 el : ∀ x ∈ C ++ [l], ∀ y ∈ x.L, y.In (fun j => q j ∧ (Value.slice A n c).ownBlock ≠ some j ∧ (Value.slice l.A l.n l.c).ownBlock ≠ some j) W
section
variable {R : List Sl} {tr te : TypeId} {q S : Nat → Prop} {base lo : Nat} {W W' : World} {A : Option Addr} {n c : Nat} {C : List Sl} {l : Sl}
theorem Nst.fr (h : Nst tr te q base lo W A n c C l) (hF : Fr S W W') (hS : ∀ j, S j → ¬ q j) : Nst tr te q base lo W' A n c C l :=
 ⟨h.ne, h.qb, h.nn, own_fr h.out hF (fun k hk hs => hS k hs (h.qb k (own_lt h.out k hk).1)), h.blo, Nat.le_trans h.los hF.size,
  own_fr h.last hF (fun k hk hs => hS k hs (h.qb k (Nat.le_trans h.blo (own_lt h.last k hk).1))), h.ll,
  fun x hx => ⟨(h.cl x hx).1, (h.cl x hx).2.fr hF (fun k hk hs => hS k hs hk.1)⟩,
  fun x hx y hy => (h.el x hx y hy).frq hF (fun k hk hs => hS k hs hk.1)⟩
theorem Nst.new (h : Nst tr te q base lo W A n c C l) (hN : New W W') : Nst tr te q base lo W' A n c C l := h.fr (hN.toFr NoB) (fun _ x => x.elim)
theorem Nst.puts {B : Nat} (h : Nst tr te q base lo W A n c C l) (hp : Puts B W W') : Nst tr te q base lo W' A n c C l :=
 ⟨h.ne, h.qb, h.nn, hp.own h.out, h.blo, Nat.le_trans h.los (by obtain ⟨l, o, o', -, -, -, rfl⟩ := hp; simp), hp.own h.last, h.ll, fun x hx => ⟨(h.cl x hx).1, hp.rd (h.cl x hx).2⟩,
  fun x hx y hy => ⟨⟨hp.rd (h.el x hx y hy).k.rd, (h.el x hx y hy).k.byt⟩, ⟨hp.rd (h.el x hx y hy).v.rd, (h.el x hx y hy).v.byt⟩⟩⟩
theorem Nst.first (hne : tr ≠ te) (hq : ∀ j, base ≤ j → q j) {l : Sl} {W0 : World} (ho : W.ownsRow base tr 1 (.slice A 1 c) 1 l.cells) (hl : W0.ownsRow lo te 3 (.slice l.A l.n l.c) l.n (l.L.flatMap Ch.cells)) (h2 : base ≤ lo) (h3 : lo ≤ W.heap.size) (hF : New W0 W) (hll : l.L.length = l.n)
    (hel : ∀ y ∈ l.L, y.In (fun j => q j ∧ (Value.slice A 1 c).ownBlock ≠ some j ∧ (Value.slice l.A l.n l.c).ownBlock ≠ some j) W) : Nst tr te q base lo W A 1 c [] l :=
 ⟨hne, hq, rfl, by simpa using ho, h2, h3, hF.own hl, hll, fun x hx => (by cases hx), fun x hx y hy => by
  have : x = l := by simpa using hx
  subst this
  exact hel y hy⟩
theorem Nst.open_ (h : Nst tr te q base lo W A n c C l) {l' : Sl} {lo' c' : Nat} {A' : Option Addr} (hlo : W.heap.size ≤ lo') (hlo2 : lo' ≤ W'.heap.size)
    (ho : W'.ownsRow base tr 1 (.slice A' (n + 1) c') (n + 1) ((C ++ [l]).flatMap Sl.cells ++ l'.cells)) (hF : Fr (fun k => (Value.slice A n c).ownBlock = some k) W W')
    (hk : ∀ k, (Value.slice A' (n + 1) c').ownBlock = some k → (Value.slice A n c).ownBlock = some k ∨ W.heap.size ≤ k)
    (hl : W'.ownsRow lo' te 3 (.slice l'.A l'.n l'.c) l'.n (l'.L.flatMap Ch.cells)) (hll : l'.L.length = l'.n)
    (hel : ∀ y ∈ l'.L, y.In (fun j => q j ∧ (Value.slice A' (n + 1) c').ownBlock ≠ some j ∧ (Value.slice l'.A l'.n l'.c).ownBlock ≠ some j) W') :
    Nst tr te q base lo' W' A' (n + 1) c' (C ++ [l]) l' := by
 have hnk : ∀ k, k < W.heap.size → (Value.slice A n c).ownBlock ≠ some k → (Value.slice A' (n + 1) c').ownBlock ≠ some k := fun k h1 h2 h3 => by
  rcases hk k h3 with h4 | h4
  · exact h2 h4
  · omega
 have hlast : ∀ k, k < W.heap.size → (Value.slice l'.A l'.n l'.c).ownBlock ≠ some k := fun k h1 h3 => by
  have := (own_lt hl k h3).1
  omega
 refine ⟨h.ne, h.qb, by have := h.nn; simp; omega, by simpa using ho, Nat.le_trans h.blo (Nat.le_trans h.los hlo), hlo2, hl, hll, fun x hx => ?_, fun x hx y hy => ?_⟩
 · rcases List.mem_append.1 hx with hx | hx
   · obtain ⟨h1, h2⟩ := h.cl x hx
     refine ⟨h1, (h2.lts.imp (q := fun j => (q j ∧ j < lo' ∧ (Value.slice A' (n + 1) c').ownBlock ≠ some j) ∧ (Value.slice A n c).ownBlock ≠ some j) (fun k hk => ⟨⟨hk.1.1, by omega, hnk k hk.2 hk.1.2.2⟩, hk.1.2.2⟩)).fr hF (fun k hk hs => hk.2 hs) |>.imp (fun k hk => hk.1)⟩
   · have : x = l := by simpa using hx
     subst this
     have hr := Rd.own h.last rfl
     refine ⟨h.ll, (hr.imp (q := fun j => (q j ∧ j < lo' ∧ (Value.slice A' (n + 1) c').ownBlock ≠ some j) ∧ (Value.slice A n c).ownBlock ≠ some j) (fun k hk => ?_)).fr hF (fun k hk hs => hk.2 hs) |>.imp (fun k hk => hk.1)⟩
     have h1 := own_lt h.last k hk
     have h2 := own_own_ne h.last h.out h.ne.symm hk
     exact ⟨⟨h.qb k (Nat.le_trans h.blo h1.1), by omega, hnk k h1.2 h2⟩, h2⟩
 · rcases List.mem_append.1 hx with hx | hx
   · refine ((h.el x hx y hy).lts.imp (q := fun j => (q j ∧ (Value.slice A' (n + 1) c').ownBlock ≠ some j ∧ (Value.slice l'.A l'.n l'.c).ownBlock ≠ some j) ∧ (Value.slice A n c).ownBlock ≠ some j) (fun k hk => ⟨⟨hk.1.1, hnk k hk.2 hk.1.2.1, hlast k hk.2⟩, hk.1.2.1⟩)).frq hF (fun k hk hs => hk.2 hs) |>.imp (fun k hk => hk.1)
   · have : x = l' := by simpa using hx
     subst this
     exact hel y hy
theorem Nst.push {g : Nat} (h : Nst tr te q base lo W (some ⟨g, 0, none⟩) n c C l) {c' : Nat} {A' : Option Addr} {y : Ch}
    (hl : W'.ownsRow lo te 3 (.slice A' (l.n + 1) c') (l.n + 1) (l.L.flatMap Ch.cells ++ y.cells)) (hF : Fr (fun k => (Value.slice l.A l.n l.c).ownBlock = some k) W W')
    (hk : ∀ k, (Value.slice A' (l.n + 1) c').ownBlock = some k → (Value.slice l.A l.n l.c).ownBlock = some k ∨ W.heap.size ≤ k)
    (hy : y.In (fun j => q j ∧ g ≠ j ∧ (Value.slice l.A l.n l.c).ownBlock ≠ some j) W) {i : Nat} (hi : i = n - 1) :
    Nst tr te q base lo (W'.setCell ⟨g, i, none⟩ (.slice A' (l.n + 1) c')) (some ⟨g, 0, none⟩) n c C ⟨A', l.n + 1, c', l.L ++ [y]⟩ := by
 subst hi
 have hnn := h.nn
 have hob : (Value.slice (some ⟨g, 0, none⟩) n c).ownBlock = some g := rfl
 have hlg : (Value.slice l.A l.n l.c).ownBlock ≠ some g := own_own_ne h.out h.last h.ne hob
 have hgw := own_lt h.out g hob
 have hout : W'.ownsRow base tr 1 (.slice (some ⟨g, 0, none⟩) n c) n ((C ++ [l]).flatMap Sl.cells) := own_fr h.out hF (fun k hk hs => by
  rw [hob] at hk
  injection hk with hk
  exact hlg (hk ▸ hs))
 have hA' : (Value.slice A' (l.n + 1) c').ownBlock ≠ some g := own_own_ne hout hl h.ne hob
 have hFs : Fr (fun k => k = g) W' (W'.setCell ⟨g, n - 1, none⟩ (.slice A' (l.n + 1) c')) := (Fr.refl (fun k => k = g) W').setCell (p := ⟨g, n - 1, none⟩) (fun _ => rfl) _
 have hnk : ∀ k, k < W.heap.size → (Value.slice l.A l.n l.c).ownBlock ≠ some k → (Value.slice A' (l.n + 1) c').ownBlock ≠ some k := fun k h1 h2 h3 => by
  rcases hk k h3 with h4 | h4
  · exact h2 h4
  · omega
 have hel : ∀ z : Ch, z.In (fun j => q j ∧ (Value.slice (some ⟨g, 0, none⟩) n c).ownBlock ≠ some j ∧ (Value.slice l.A l.n l.c).ownBlock ≠ some j) W →
     z.In (fun j => q j ∧ (Value.slice (some ⟨g, 0, none⟩) n c).ownBlock ≠ some j ∧ (Value.slice A' (l.n + 1) c').ownBlock ≠ some j) (W'.setCell ⟨g, n - 1, none⟩ (.slice A' (l.n + 1) c')) := fun z hz =>
  (((hz.lts.imp (q := fun j => (q j ∧ (Value.slice (some ⟨g, 0, none⟩) n c).ownBlock ≠ some j ∧ (Value.slice A' (l.n + 1) c').ownBlock ≠ some j) ∧ (Value.slice l.A l.n l.c).ownBlock ≠ some j) (fun k hk => ⟨⟨hk.1.1, hk.1.2.1, hnk k hk.2 hk.1.2.2⟩, hk.1.2.2⟩)).frq hF (fun k hk hs => hk.2 hs)).imp (fun k hk => hk.1)).frq hFs (fun k hk hs => hk.2.1 (by rw [hob, hs]))
 refine ⟨h.ne, h.qb, h.nn, ?_, h.blo, Nat.le_trans h.los (Nat.le_trans hF.size hFs.size), own_fr (by simpa using hl) hFs (fun k hk hs => hA' (hs ▸ hk)), by simp [h.ll], fun x hx => ?_, fun x hx z hz => ?_⟩
 · have := own_set hout (i := n - 1) (by omega) (.slice A' (l.n + 1) c')
   rw [List.flatMap_append] at this ⊢
   have hCl : (C.flatMap Sl.cells).length = C.length := by
    clear this hout hel h hFs hnn
    induction C with
    | nil => rfl
    | cons x C ih => simp [Sl.cells, ih]
   rw [List.set_append_right _ _ (by omega)] at this
   have e : n - 1 - (C.flatMap Sl.cells).length = 0 := by omega
   rw [e] at this
   simpa [Sl.cells] using this
 · obtain ⟨h1, h2⟩ := h.cl x hx
   refine ⟨h1, ((h2.lts).fr hF (fun k hk hs => ?_)).fr hFs (fun k hk hs => hk.1.2.2 (by rw [hob, hs])) |>.imp (fun k hk => hk.1)⟩
   have := (own_lt h.last k hs).1
   have := hk.1.2.1
   omega
 · rcases List.mem_append.1 hx with hx | hx
   · exact hel z (h.el x (List.mem_append_left _ hx) z hz)
   · have : x = ⟨A', l.n + 1, c', l.L ++ [y]⟩ := by simpa using hx
     subst this
     rcases List.mem_append.1 hz with hz | hz
     · exact hel z (h.el l (by simp) z hz)
     · have : z = y := by simpa using hz
       subst this
       exact hel z (hy.imp fun k hk => ⟨hk.1, by rw [hob]; exact fun e => hk.2.1 (by injection e), hk.2.2⟩)
structure Bts (W : World) (A : Option Addr) (n : Nat) (R : List Sl) : Prop where
 rd : Rd (fun b => b < W.heap.size) W 1 A n (R.flatMap Sl.cells)
 len : R.length = n
 el : ∀ x ∈ R, RTb W x.A x.n x.L
theorem Bts.nil (W : World) : Bts W none 0 [] := ⟨Rd.nil, rfl, fun x h => by cases h⟩
theorem Nst.bts (h : Nst tr te q base lo W A n c C l) : Bts W A n (C ++ [l]) :=
 ⟨rd_szs (Rd.own h.out rfl), by have := h.nn; simp; omega, fun x hx => by
  refine ⟨?_, ?_, fun y hy => Ch.In.szs (h.el x hx y hy)⟩
  · rcases List.mem_append.1 hx with hx | hx
    · exact rd_szs (h.cl x hx).2
    · have : x = l := by simpa using hx
      subst this
      exact rd_szs (Rd.own h.last rfl)
  · rcases List.mem_append.1 hx with hx | hx
    · exact (h.cl x hx).1
    · have : x = l := by simpa using hx
      subst this
      exact h.ll⟩
structure BtsN (B D : Nat) (W : World) (A : Option Addr) (n : Nat) (R : List Sl) : Prop where
 rd : Rd (fun b => B ≤ b ∧ b < D) W 1 A n (R.flatMap Sl.cells)
 len : R.length = n
 el : ∀ x ∈ R, x.L.length = x.n ∧ Rd (fun b => B ≤ b ∧ b < D) W 3 x.A x.n (x.L.flatMap Ch.cells) ∧ ∀ y ∈ x.L, y.In (fun b => B ≤ b ∧ b < D) W
theorem BtsN.fr {B D : Nat} {R : List Sl} (h : BtsN B D W A n R) (hF : Fr S W W') (hS : ∀ k, S k → k < B ∨ D ≤ k) : BtsN B D W' A n R := by
 have key_l19 : ∀ k, (B ≤ k ∧ k < D) → ¬ S k := fun k hk hs => by have := hS k hs; omega
 exact ⟨h.rd.fr hF key_l19, h.len, fun x hx => ⟨(h.el x hx).1, (h.el x hx).2.1.fr hF key_l19, fun y hy => ⟨⟨((h.el x hx).2.2 y hy).k.rd.fr hF key_l19, ((h.el x hx).2.2 y hy).k.byt⟩, ⟨((h.el x hx).2.2 y hy).v.rd.fr hF key_l19, ((h.el x hx).2.2 y hy).v.byt⟩⟩⟩⟩
theorem BtsN.new {B D : Nat} {R : List Sl} (h : BtsN B D W A n R) (hN : New W W') : BtsN B D W' A n R :=
 ⟨hN.rd h.rd, h.len, fun x hx => ⟨(h.el x hx).1, hN.rd (h.el x hx).2.1, fun y hy => ((h.el x hx).2.2 y hy).new hN⟩⟩
theorem BtsN.row {B D : Nat} {R : List Sl} (h : BtsN B D W A n R) {x : Sl} (hx : x ∈ R) : RTb W x.A x.n x.L :=
 ⟨rd_szs (h.el x hx).2.1, (h.el x hx).1, fun y hy => Ch.In.szs ((h.el x hx).2.2 y hy)⟩
theorem BtsN.nil (B D : Nat) (W : World) : BtsN B D W none 0 [] := ⟨Rd.nil, rfl, fun x h => by cases h⟩
theorem Rd.low {p : Nat → Prop} {s : Nat} {xs : List Value} {B : Nat} (h : Rd p W s A n xs) (hp : ∀ k, p k → B ≤ k) : Rd (fun b => B ≤ b ∧ b < W.heap.size) W s A n xs :=
 ⟨h.1, fun hn => by
  obtain ⟨ad, e, h1, h2, h3⟩ := h.2 hn
  exact ⟨ad, e, ⟨hp _ h1, h2⟩, h2, h3⟩⟩
theorem Nst.btsN (h : Nst tr te q base lo W A n c C l) {B : Nat} (hq : ∀ j, q j → B ≤ j) : BtsN B W.heap.size W A n (C ++ [l]) := by
 have hb : B ≤ base := hq _ (h.qb _ (Nat.le_refl _))
 refine ⟨Rd.low (Rd.own h.out rfl) (fun k hk => Nat.le_trans hb (own_lt h.out k hk).1), by have := h.nn; simp; omega, fun x hx => ?_⟩
 have hel : ∀ y ∈ x.L, y.In (fun b => B ≤ b ∧ b < W.heap.size) W := fun y hy =>
  ⟨⟨Rd.low (h.el x hx y hy).k.rd (fun k hk => hq k hk.1), (h.el x hx y hy).k.byt⟩, ⟨Rd.low (h.el x hx y hy).v.rd (fun k hk => hq k hk.1), (h.el x hx y hy).v.byt⟩⟩
 rcases List.mem_append.1 hx with hx | hx
 · exact ⟨(h.cl x hx).1, Rd.low (h.cl x hx).2 (fun k hk => hq k hk.1), hel⟩
 · have : x = l := by simpa using hx
   subst this
   exact ⟨h.ll, Rd.low (Rd.own h.last rfl) (fun k hk => by have := (own_lt h.last k hk).1; have := h.blo; omega), hel⟩
end
end Go.Proofs.YtfchcdbfalgdlaaGreatDoor
namespace Go.Proofs.YtfchcdbfalgdlaaGreatDoor
set_option linter.unusedVariables false
set_option linter.unusedSimpArgs false
set_option linter.constructorNameAsVariable false
open Go.RowKit
theorem wpListIn_app {F : Fence} {n' : Nat} {P : Program} {t e : TypeId} {size bytes : Nat} (E : ElemOf P t e size bytes) (w : World) {ops : Array Oper} {rest : List Oper} {o : Oper} {a : Act} {Q : Exit → Act → World → Prop} (hgd : o.guard = none) (s x : Operand)
    (ho : o.op = .call { callee := .builtin .append, args := #[s, x], argTypes := #[t, t] })
    (base : Nat) (v : Value) (n : Nat) (xs : List Value) (hs : a.eval s = v) (hown : w.ownsRow base e size v n xs)
    {p : Nat → Prop} (X : Option Addr) (m c : Nat) (news : List Value) (hx : a.eval x = .slice X m c) (hr : Rd p w size X m news) (h1 : ∀ u ∈ news, u.oneCell' = true)
    (h63 : n + m ≤ maxLen) (hbytes : (n + m) * bytes ≤ 140737488355328) (hbase : base ≤ w.heap.size)
    (h : ∀ A' c' w', w'.ownsRow base e size (.slice A' (n + m) c') (n + m) (xs ++ news) → Fr (fun k => v.ownBlock = some k) w w' →
     (∀ k, (Value.slice A' (n + m) c').ownBlock = some k → v.ownBlock = some k ∨ w.heap.size ≤ k) → wpListIn F n' P ops Q rest (a.put o.dst (.slice A' (n + m) c')) w') : wpListIn F n' P ops Q (o :: rest) a w := by
 refine wpListIn_plain hgd fun K hK' => ?_
 obtain ⟨A', c', w', hrun, h2, h3, h4⟩ := run_app E w base o.type v n xs hown X m c news hr h1 h63 hbytes hbase
 unfold Oper.wpIn
 refine ⟨?_, ?_⟩
 · simp [Oper.about, ho, resolve, Target.leads, Sem.run_pure]
 · rw [Oper.semAt_plain F _ _ (by rw [ho]; intro c hc'; cases hc')]
   simp [execOp, ho, resolve, invoke, builtin, hs, hx, hrun, Result.andThen]
   exact hK' _ _ (h A' c' w' h2 h3 h4)
end Go.Proofs.YtfchcdbfalgdlaaGreatDoor
