/- A world that has new blocks and is else as another one was ('New'), with its laws; rows that are made empty; small words for the ends of walks. No condition. -/
import Derived.Test.YtfhinmjpokollaaApp
namespace Go.Proofs.Ytfhinmjpokollaa
set_option linter.unusedVariables false
set_option linter.unusedSimpArgs false
set_option linter.constructorNameAsVariable false
open Go.RowKit

abbrev New (w w' : World) : Prop := Below w.heap.size w w'

section
variable {w w' w'' : World}
theorem New.refl (w : World) : New w w := Below.refl _ _
theorem New.tr (h : New w w') (k : New w' w'') : New w w'' := Below.trans h (Below.mono k h.size)
theorem New.al (h : New w w') (o : Obj) : New w (w'.alloc o) := Below.alloc h h.size o
theorem New.dr (h : New w w') : New w w'.drew := h.drew
theorem New.dn (h : New w w') (n : Nat) : New w (w'.drewN n) := ⟨h.os, h.tape, h.output, h.size, h.block⟩
theorem New.fr {S : Nat → Prop} (h : New w w') (hf : Fr S w' w'') (hS : ∀ k, S k → w.heap.size ≤ k) : New w w'' :=
  ⟨hf.os.trans h.os, hf.tape.trans h.tape, hf.output.trans h.output, Nat.le_trans h.size hf.size, fun i hi =>
    (hf.block i (Nat.lt_of_lt_of_le hi h.size) (fun hs => by have := hS i hs; omega)).trans (h.block i hi)⟩
theorem New.toFr (S : Nat → Prop) (h : New w w') : Fr S w w' := ⟨h.os, h.tape, h.output, h.size, fun k hk _ => h.block k hk⟩
theorem New.cell_ (h : New w w') {p : Addr} {v : Value} (hv : w.cell? p = some v) : w'.cell? p = some v :=
  (World.cell?_of_block (w := w) (h.block p.block (World.block_lt_of_cell? w p hv))).trans hv
theorem New.blk (h : New w w') {g : Nat} {t : TypeId} {cs : Array Value} (hb : Blk w g t cs) : Blk w' g t cs := (h.block g hb.lt).trans hb
theorem New.own (h : New w w') {base e size n : Nat} {v : Value} {xs : List Value} (ho : w.ownsRow base e size v n xs) : w'.ownsRow base e size v n xs :=
  own_fr ho (h.toFr NoB) (fun _ _ x => x)
theorem New.rd (h : New w w') {p : Nat → Prop} {size n : Nat} {A : Option Addr} {xs : List Value} (hr : Rd p w size A n xs) : Rd p w' size A n xs :=
  hr.fr (h.toFr NoB) (fun _ _ x => x)
theorem New.set (h : New w w') {p : Addr} (hp : w.heap.size ≤ p.block) (u : Value) : New w (w'.setCell p u) := Below.setCell h hp u
end

theorem Blk.drew {w : World} {g : Nat} {t : TypeId} {cs : Array Value} (h : Blk w g t cs) : Blk w.drew g t cs := h
theorem Blk.drewN {w : World} {g : Nat} {t : TypeId} {cs : Array Value} (h : Blk w g t cs) (n : Nat) : Blk (w.drewN n) g t cs := h
theorem Blk.new' {g : Nat} (w : World) (t : TypeId) (cs : Array Value) (h : g = w.heap.size) : Blk (w.alloc (.cells cs t)) g t cs := h ▸ Blk.new w t cs
theorem Blk.eqn {w : World} {g g' : Nat} {t : TypeId} {cs : Array Value} (h : Blk w g t cs) (e : g' = g) : Blk w g' t cs := e ▸ h
theorem Fr.set2 {S : Nat → Prop} {w w2 : World} {g : Nat} (h : Fr S w w2) (hg : g < w.heap.size → S g) (X Y : Value) : Fr S w ((w2.setCell ⟨g, 0, none⟩ X).setCell ⟨g, 1, none⟩ Y) := (h.setCell (p := ⟨g, 0, none⟩) hg X).setCell (p := ⟨g, 1, none⟩) hg Y
theorem blk_set2 {w : World} {g : Nat} {t : TypeId} {a b : Value} (h : Blk w g t #[a, b]) (X Y : Value) : Blk ((w.setCell ⟨g, 0, none⟩ X).setCell ⟨g, 1, none⟩ Y) g t #[X, Y] := by
  have := (h.set 0 X).set 1 Y
  simpa using this

/-- A row that was made empty. -/
theorem own_lit {P : Nat} {w : World} {g : Nat} {t : TypeId} {size : Nat} (h : Blk w g t #[]) (hP : P ≤ g) : w.ownsRow P t size (.slice (some ⟨g, 0, none⟩) 0 0) 0 [] :=
  ⟨by simp, .inr ⟨g, 0, #[], rfl, hP, h, Nat.le_refl _, Nat.zero_le _, by simp, by simp⟩⟩
end Go.Proofs.Ytfhinmjpokollaa
