/- What a net is in memory, and in plain words. No condition. -/
import Derived.Test.YtajoahhjgloefaaBytes
import Derived.Test.YtajoahhjgloefaaTyp
import Derived.Test.YtajoahhjgloefaaMap
import Derived.Test.YtajoahhjgloefaaNew
import Derived.Test.YtajoahhjgloefaaDel
import Derived.Test.YtajoahhjgloefaaBs
import Derived.StringKeys
namespace Go.Proofs.Ytajoahhjgloefaa
open Go.RowKit Go.Maps

/-- A frame: where its bytes lie, and what they are. -/
structure Fm where
  A : Option Addr
  n : Nat
  c : Nat
  xs : List Int
def Fm.val (x : Fm) : Value := .slice x.A x.n x.c
/-- A lane. -/
structure Ln where
  v : Value
  L : List Fm
  b : Nat
  m : Nat
  f : Lit → Option Value
  lost : List Int → Int
def vals (L : List Fm) : List Value := L.map Fm.val
theorem vals_len (L : List Fm) : (vals L).length = L.length := by simp [vals]
theorem vals_one (L : List Fm) : ∀ u ∈ vals L, u.oneCell' = true := by
  intro u hu
  obtain ⟨x, _, rfl⟩ := List.mem_map.1 hu
  rfl
def key (xs : List Int) : Lit := .string (strOfNums xs).data.toList
theorem key_inj {xs ys : List Int} (hx : Byt xs) (hy : Byt ys) (h : key xs = key ys) : xs = ys := by
  have := str_inj hx hy
  unfold key at h
  injection h with h
  have e : (strOfNums xs).toList = (strOfNums ys).toList := by
    have : strOfNums xs = strOfNums ys := by
      have : (strOfNums xs).data = (strOfNums ys).data := Array.toList_inj.1 h
      exact ByteArray.ext this
    rw [this]
  simpa [e] using this
theorem elL : ElemOf Try.prog 50 33 1 24 := ElemOf.mk' (z := .slice none 0 0) Try.underlying50 (by kernel_rfl) rfl (by decide)
theorem keyS : Keyed Try.prog 9 := string_keyed Try.underlying9
theorem key_of {xs : List Int} (h : xs.length ≤ 1000000) : keyOf Try.prog 9 (.string (strOfNums xs)) = some (key xs) :=
  Go.WideMaps.keyOf_string_mk Try.underlying9 (by rw [strOfNums_size]; unfold maxLen; omega)

structure LnIn (X : Nat → Prop) (w : World) (base : Nat) (l : Ln) : Prop where
  own : w.ownsRow base 33 1 l.v l.L.length (vals l.L)
  map : MapAt w Try.prog 9 l.b l.m l.f
  lb : base ≤ l.b
  reads : ∀ x ∈ l.L, Rd X w 1 x.A x.n (u8s x.xs) ∧ Byt x.xs ∧ x.n ≤ 1000
  len : l.L.length ≤ 256
  cnt : ∀ xs, Byt xs → (l.f (key xs)).getD (.int .i64 0) = .int .i64 (l.lost xs)
  low : ∀ xs, 0 ≤ l.lost xs ∧ l.lost xs < 64
/-- A lane's own blocks. -/
def Lo (l : Ln) (k : Nat) : Prop := k = l.b ∨ l.v.ownBlock = some k
section
variable {X Y : Nat → Prop} {w w' : World} {base : Nat} {l : Ln} {S : Nat → Prop}
theorem LnIn.fr (h : LnIn X w base l) (hf : Fr S w w') (h1 : ∀ k, S k → ¬ Lo l k) (h2 : ∀ k, S k → ¬ X k) : LnIn X w' base l :=
  ⟨own_fr h.own hf (fun k hk hs => h1 k hs (.inr hk)), h.map.fr hf (fun hs => h1 _ hs (.inl rfl)), h.lb, fun x hx => ⟨(h.reads x hx).1.fr hf (fun k hk hs => h2 k hs hk), (h.reads x hx).2⟩, h.len, h.cnt, h.low⟩
theorem LnIn.new (h : LnIn X w base l) (hN : New w w') : LnIn X w' base l := h.fr (hN.toFr NoB) (fun _ x => x.elim) (fun _ x => x.elim)
theorem LnIn.imp (h : LnIn X w base l) (hX : ∀ k, X k → Y k) : LnIn Y w base l :=
  ⟨h.own, h.map, h.lb, fun x hx => ⟨(h.reads x hx).1.imp hX, (h.reads x hx).2⟩, h.len, h.cnt, h.low⟩
theorem LnIn.ours (h : LnIn X w base l) {k : Nat} (hk : Lo l k) : base ≤ k ∧ k < w.heap.size := by
  rcases hk with rfl | hk
  · exact ⟨h.lb, h.map.lt⟩
  · exact own_lt h.own k hk
theorem LnIn.not (h : LnIn X w base l) {k : Nat} (hk : Lo l k) : ¬ IsT 5 w k := by
  rcases hk with rfl | hk
  · exact IsT.not_map h.map
  · exact IsT.not_own h.own (by decide) hk
theorem LnIn.blk {g : Nat} {cs : Array Value} (h : LnIn X w base l) (hb : Blk w g 71 cs) : ¬ Lo l g := by
  rintro (e | e)
  · obtain ⟨D, ⟨es, clock, hx, _⟩, _⟩ := h.map
    unfold Blk at hb
    rw [e, hx] at hb
    cases hb
  · exact own_ne h.own hb (by decide) e
end
/-- A net at block g. -/
structure Nt (X : Nat → Prop) (w : World) (base g : Nat) (p : Int) (l1 l2 : Ln) (N : Nat) : Prop where
  blk : Blk w g 71 #[.int .i64 p, l1.v, .map (some l1.b), l2.v, .map (some l2.b)]
  gb : base ≤ g
  p1 : 1 ≤ p
  p2 : p ≤ 64
  one : LnIn X w base l1
  two : LnIn X w base l2
  m1 : l1.m ≤ N
  m2 : l2.m ≤ N
  apart : ∀ k, Lo l1 k → ¬ Lo l2 k
  xs : ∀ k, X k → base ≤ k ∧ IsT 5 w k
/-- A net's own blocks, without its frames' bytes. -/
def No (g : Nat) (l1 l2 : Ln) (k : Nat) : Prop := k = g ∨ Lo l1 k ∨ Lo l2 k
section
variable {X : Nat → Prop} {w w' : World} {base g : Nat} {p : Int} {l1 l2 : Ln} {N : Nat} {S : Nat → Prop}
theorem Nt.fr (h : Nt X w base g p l1 l2 N) (hf : Fr S w w') (h1 : ∀ k, S k → ¬ No g l1 l2 k) (h2 : ∀ k, S k → ¬ X k) : Nt X w' base g p l1 l2 N :=
  ⟨h.blk.fr hf (fun hs => h1 _ hs (.inl rfl)), h.gb, h.p1, h.p2, h.one.fr hf (fun k hs hk => h1 k hs (.inr (.inl hk))) h2, h.two.fr hf (fun k hs hk => h1 k hs (.inr (.inr hk))) h2, h.m1, h.m2, h.apart,
    fun k hk => ⟨(h.xs k hk).1, (h.xs k hk).2.fr hf (fun hs => h2 k hs hk)⟩⟩
theorem Nt.new (h : Nt X w base g p l1 l2 N) (hN : New w w') : Nt X w' base g p l1 l2 N := h.fr (hN.toFr NoB) (fun _ x => x.elim) (fun _ x => x.elim)
theorem Nt.ours (h : Nt X w base g p l1 l2 N) {k : Nat} (hk : No g l1 l2 k) : base ≤ k ∧ k < w.heap.size := by
  rcases hk with rfl | hk | hk
  · exact ⟨h.gb, h.blk.lt⟩
  · exact h.one.ours hk
  · exact h.two.ours hk
theorem Nt.not (h : Nt X w base g p l1 l2 N) {k : Nat} (hk : No g l1 l2 k) : ¬ X k := by
  intro hx
  have hT := (h.xs k hx).2
  rcases hk with rfl | hk | hk
  · exact IsT.not_blk h.blk (by decide) hT
  · exact h.one.not hk hT
  · exact h.two.not hk hT
end
/-- The lane of a way; the net with that lane changed. -/
def sel (i : Bool) (l1 l2 : Ln) : Ln := if i then l2 else l1
def put1 (i : Bool) (l1 l : Ln) : Ln := if i then l1 else l
def put2 (i : Bool) (l2 l : Ln) : Ln := if i then l else l2
def off (i : Bool) : Nat := if i then 3 else 1
def wayI (i : Bool) : Int := if i then 2 else 1
def slots (p : Int) (l1 l2 : Ln) : Array Value := #[.int .i64 p, l1.v, .map (some l1.b), l2.v, .map (some l2.b)]
end Go.Proofs.Ytajoahhjgloefaa
