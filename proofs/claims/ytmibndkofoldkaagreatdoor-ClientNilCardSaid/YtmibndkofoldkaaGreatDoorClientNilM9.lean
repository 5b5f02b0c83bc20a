/- Texts of one proof, one behind the other: TiC, TiD. No condition but each one's own. -/
import Derived.Test.YtmibndkofoldkaaGreatDoorClientNilM7
import Derived.Test.YtmibndkofoldkaaGreatDoorClientNilM8
import Derived.Test.YtmibndkofoldkaaGreatDoorClientNilM6
namespace Go.Proofs.YtmibndkofoldkaaGreatDoor
set_option linter.unusedVariables false
set_option linter.unusedSimpArgs false
set_option linter.constructorNameAsVariable false
open Go.RowKit Go.Sort
structure Om where
 o : Od
 A : Option Addr
 n : Nat
 c : Nat
 B : Option Addr
 m : Nat
 d : Nat
def Om.cells (x : Om) : List Value := [.int .i64 x.o.kind, .slice x.A x.n x.c, .slice x.B x.m x.d, .int .u64 x.o.blocks]
structure Om.In (P Q : Nat → Prop) (w : World) (x : Om) : Prop where
 ok : x.o.Ok
 idx : Rd P w 1 x.A x.n (n64s x.o.idx)
 sl : Rd Q w 49 x.B x.m (x.o.sl.flatMap Sd.cells)
 nn : x.n ≤ 100000000
 mm : x.m ≤ 100000000
section
variable {P Q : Nat → Prop} {w w' : World} {x : Om}
theorem Om.In.new (h : x.In P Q w) (hN : New w w') : x.In P Q w' := ⟨h.ok, hN.rd h.idx, hN.rd h.sl, h.nn, h.mm⟩
theorem Om.In.lm (h : x.In P Q w) : x.o.sl.length = x.m := by
 have h1 := h.sl.1
 rw [flen_mem fun y hy => Sd.len (h.ok.sl y hy)] at h1
 omega
end
def SaysIf (R : Prop) (e : Ending) : Prop := ∃ r, e = .returned (.bool r) ∧ (r = true ↔ R)
set_option maxHeartbeats 2000000
set_option maxRecDepth 100000
end Go.Proofs.YtmibndkofoldkaaGreatDoor
namespace Go.Proofs.YtmibndkofoldkaaGreatDoor
set_option linter.unusedVariables false
set_option linter.unusedSimpArgs false
set_option linter.constructorNameAsVariable false
open Go.RowKit Go.Sort
structure Tm where
 prev : Nat
 epoch : Nat
 o : Om
 tag : List Int
def Tm.tk (x : Tm) : Tk := ⟨x.prev, x.epoch, x.o.o, x.tag⟩
def Tm.cells (x : Tm) : List Value := .int .u64 x.prev :: .int .u64 x.epoch :: (x.o.cells ++ u8s x.tag)
structure Tm.In (P Q : Nat → Prop) (w : World) (x : Tm) : Prop where
 ok : x.tk.Ok
 o : x.o.In P Q w
section
variable {P Q : Nat → Prop} {w w' : World} {x : Tm}
theorem Tm.In.new (h : x.In P Q w) (hN : New w w') : x.In P Q w' := ⟨h.ok, h.o.new hN⟩
theorem Tm.In.len (h : x.In P Q w) : x.cells.length = 22 := by
 have := h.ok.tag
 simp only [Tm.cells, Om.cells, List.length_cons, List.length_append, List.length_nil, u8s_len]
 simp only [Tm.tk] at this
 omega
theorem Tm.one (x : Tm) : x.cells.toArray.all (·.oneCell') = true := by
 unfold Tm.cells Om.cells
 refine all_oneCell_toArray fun v hv => ?_
 simp only [List.mem_cons, List.mem_append, List.not_mem_nil, or_false] at hv
 rcases hv with rfl | rfl | (rfl | rfl | rfl | rfl) | hv
 · rfl
 · rfl
 · rfl
 · rfl
 · rfl
 · rfl
 · exact u8s_one _ v hv
theorem Tm.oRange {b T : Nat} (hb : Blk w b T x.cells.toArray) : w.rangeAt b 2 x.o.cells := fun j v hv => by
 rw [hb.cell, List.getElem?_toArray]
 unfold Tm.cells
 rw [show 2 + j = j + 1 + 1 by omega, List.getElem?_cons_succ, List.getElem?_cons_succ, List.getElem?_append_left (List.getElem?_eq_some_iff.1 hv).1]
 exact hv
theorem Tm.tagRange {b T : Nat} (hb : Blk w b T x.cells.toArray) {j : Nat} : x.cells[6 + j]? = (u8s x.tag)[j]? := by
 unfold Tm.cells Om.cells
 rw [show 6 + j = j + 1 + 1 + 1 + 1 + 1 + 1 by omega]
 rfl
end
set_option maxHeartbeats 2000000
set_option maxRecDepth 100000
end Go.Proofs.YtmibndkofoldkaaGreatDoor
