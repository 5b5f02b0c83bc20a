/- Texts of one proof, one behind the other: SeP, TiP. No condition but each one's own. -/
import Derived.Test.YtmibndkofoldkaaGreatDoorClientNilM3
import Derived.Test.YtmibndkofoldkaaGreatDoorClientNilM4
namespace Go.Proofs.YtmibndkofoldkaaGreatDoor
set_option linter.unusedVariables false
set_option linter.unusedSimpArgs false
set_option linter.constructorNameAsVariable false
open Go.RowKit Go.Sort
structure Sd where
 e : Nat
 d : List Int
 t : List Int
structure Sd.Ok (x : Sd) : Prop where
 e : x.e < 18446744073709551616
 d : x.d.length = 32
 db : Byt x.d
 t : x.t.length = 16
 tb : Byt x.t
def Sd.cells (x : Sd) : List Value := Value.int .u64 x.e :: (u8s x.d ++ u8s x.t)
theorem Sd.len {x : Sd} (h : x.Ok) : x.cells.length = 49 := by simp [Sd.cells, u8s_len, h.d, h.t]
theorem Sd.get0 (x : Sd) : x.cells[0]? = some (Value.int .u64 x.e) := rfl
end Go.Proofs.YtmibndkofoldkaaGreatDoor
namespace Go.Proofs.YtmibndkofoldkaaGreatDoor
set_option linter.unusedVariables false
set_option linter.unusedSimpArgs false
set_option linter.constructorNameAsVariable false
open Go.RowKit Go.Sort
def n64s (L : List Nat) : List Value := L.map fun x : Nat => Value.int .u64 (x : Int)
theorem n64s_len (L : List Nat) : (n64s L).length = L.length := by simp [n64s]
theorem n64s_get? (L : List Nat) (i : Nat) : (n64s L)[i]? = (L[i]?).map fun x : Nat => Value.int .u64 (x : Int) := by simp [n64s]
structure Od where
 kind : Int
 idx : List Nat
 sl : List Sd
 blocks : Nat
structure Od.Ok (o : Od) : Prop where
 kind : (Lit.int .i64 o.kind).wf = true
 idx : ∀ x ∈ o.idx, x < 18446744073709551616
 sl : ∀ x ∈ o.sl, x.Ok
 blocks : o.blocks < 18446744073709551616
structure Tk where
 prev : Nat
 epoch : Nat
 o : Od
 tag : List Int
structure Tk.Ok (t : Tk) : Prop where
 prev : t.prev < 18446744073709551616
 epoch : t.epoch < 18446744073709551616
 o : t.o.Ok
 tag : t.tag.length = 16
 tb : Byt t.tag
end Go.Proofs.YtmibndkofoldkaaGreatDoor
