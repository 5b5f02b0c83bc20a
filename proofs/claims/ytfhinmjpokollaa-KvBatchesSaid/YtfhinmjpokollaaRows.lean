/-
  No cell of these rows narrows 'for every input' (looked for: loops, veiled, ifaces, maps, wideKeys, modest, calm, conditions, laid).
  DERIVED. THE GIVEN ROWS OF THIS SEAT. 5 by the template 'for every input the law returns true; each argument reads behind the call as it read before'; 0 by the template 'total and deterministic' (their statements: YtfhinmjpokollaaTotals.lean).
  GIVEN WITH THE SEED: the statements are not yours to turn. If you find one false, say at which input.
  Laid BY PROGRAM, IN A SANDBOX (cutbox-rows.mjs): the forced cells as the released guide's own fill.sh prints them over the translation 0ee5277a920d8464… (all of the seat's roots in one cut). By AI agents, Wed Nov 11 2026. No macro, syntax, notation, axiom, sorry.
-/
import Derived.Test.YtfhinmjpokollaaChecked
import GoSem.Claim
import GoSem.ClaimJoined
import GoSem.ClaimMapViews
import Derived.JoinedTies
import Derived.KernelRfl
namespace Go.Proofs.Ytfhinmjpokollaa
/- THE CELL 'sum', in the pinned program and in every row, IS THE sha256 OF THE DUMP (.gsa) THAT YtfhinmjpokollaaProg.lean LOADS. Nothing in Lean hashes anything: it is a label: what it is worth is what the hold of that sum in a sandbox is worth. -/
noncomputable def Try.pinned : Pinned := { name := "ytfhinmjpokollaa", sum := "0ee5277a920d8464daccb20e3866185b387760b7c9efa539fa70b94f8465b101", checked := Try.checked }
namespace Rows
def none {H : Type} : Left H := { results := [], args := [] }

/-- 'entrustlaw19.KvPlays': WHATEVER THE INPUT: true; the input reads as it did. -/
def kvPlaysSpec : ChangeSpec := { name := "kvPlays", fn := fun _ => fun
  | [d] => { results := [.lit (.bool true)], args := [d] }
  | _ => none }
def kvPlaysRow : OpenClaim := { program := "ytfhinmjpokollaa", sum := "0ee5277a920d8464daccb20e3866185b387760b7c9efa539fa70b94f8465b101", func := "entrust/entrustlaw19.KvPlays", spec := "kvPlays", inPlace := ["maps.clone"], unfollowed := true, recurses := true, apart := false }
def KvPlaysSaid : Prop := kvPlaysRow.holds Try.pinned (OpenSpec.ofChange kvPlaysSpec)

/-- ITS FALSE NEIGHBOUR: 'it returns false'. Refute it at one input. -/
def kvPlaysWrong : ChangeSpec := { name := "kvPlays", fn := fun _ => fun
  | [d] => { results := [.lit (.bool false)], args := [d] }
  | _ => none }
def KvPlaysWrongFalsely : Prop := kvPlaysRow.holds Try.pinned (OpenSpec.ofChange kvPlaysWrong)

/-- 'entrustlaw19.KvBatches': WHATEVER THE INPUT: true; the input reads as it did. -/
def kvBatchesSpec : ChangeSpec := { name := "kvBatches", fn := fun _ => fun
  | [d] => { results := [.lit (.bool true)], args := [d] }
  | _ => none }
def kvBatchesRow : OpenClaim := { program := "ytfhinmjpokollaa", sum := "0ee5277a920d8464daccb20e3866185b387760b7c9efa539fa70b94f8465b101", func := "entrust/entrustlaw19.KvBatches", spec := "kvBatches", unfollowed := true, recurses := true, apart := false }
def KvBatchesSaid : Prop := kvBatchesRow.holds Try.pinned (OpenSpec.ofChange kvBatchesSpec)

/-- ITS FALSE NEIGHBOUR: 'it returns false'. Refute it at one input. -/
def kvBatchesWrong : ChangeSpec := { name := "kvBatches", fn := fun _ => fun
  | [d] => { results := [.lit (.bool false)], args := [d] }
  | _ => none }
def KvBatchesWrongFalsely : Prop := kvBatchesRow.holds Try.pinned (OpenSpec.ofChange kvBatchesWrong)

/-- 'entrustlaw19.KvNil': WHATEVER THE INPUT: true; the input reads as it did. -/
def kvNilSpec : ChangeSpec := { name := "kvNil", fn := fun _ => fun
  | [d] => { results := [.lit (.bool true)], args := [d] }
  | _ => none }
def kvNilRow : OpenClaim := { program := "ytfhinmjpokollaa", sum := "0ee5277a920d8464daccb20e3866185b387760b7c9efa539fa70b94f8465b101", func := "entrust/entrustlaw19.KvNil", spec := "kvNil", inPlace := ["maps.clone"], unfollowed := true, recurses := true, apart := false }
def KvNilSaid : Prop := kvNilRow.holds Try.pinned (OpenSpec.ofChange kvNilSpec)

/-- ITS FALSE NEIGHBOUR: 'it returns false'. Refute it at one input. -/
def kvNilWrong : ChangeSpec := { name := "kvNil", fn := fun _ => fun
  | [d] => { results := [.lit (.bool false)], args := [d] }
  | _ => none }
def KvNilWrongFalsely : Prop := kvNilRow.holds Try.pinned (OpenSpec.ofChange kvNilWrong)

/-- 'entrustlaw19.KvBytes': WHATEVER THE INPUT: true; the input reads as it did. -/
def kvBytesSpec : ChangeSpec := { name := "kvBytes", fn := fun _ => fun
  | [d1, d2] => { results := [.lit (.bool true)], args := [d1, d2] }
  | _ => none }
def kvBytesRow : OpenClaim := { program := "ytfhinmjpokollaa", sum := "0ee5277a920d8464daccb20e3866185b387760b7c9efa539fa70b94f8465b101", func := "entrust/entrustlaw19.KvBytes", spec := "kvBytes", unfollowed := true, recurses := true, apart := false }
def KvBytesSaid : Prop := kvBytesRow.holds Try.pinned (OpenSpec.ofChange kvBytesSpec)

/-- ITS FALSE NEIGHBOUR: 'it returns false'. Refute it at one input. -/
def kvBytesWrong : ChangeSpec := { name := "kvBytes", fn := fun _ => fun
  | [d1, d2] => { results := [.lit (.bool false)], args := [d1, d2] }
  | _ => none }
def KvBytesWrongFalsely : Prop := kvBytesRow.holds Try.pinned (OpenSpec.ofChange kvBytesWrong)

/-- 'entrustlaw19.KvBack': WHATEVER THE INPUT: true; the input reads as it did. -/
def kvBackSpec : ChangeSpec := { name := "kvBack", fn := fun _ => fun
  | [d1, d2] => { results := [.lit (.bool true)], args := [d1, d2] }
  | _ => none }
def kvBackRow : OpenClaim := { program := "ytfhinmjpokollaa", sum := "0ee5277a920d8464daccb20e3866185b387760b7c9efa539fa70b94f8465b101", func := "entrust/entrustlaw19.KvBack", spec := "kvBack", inPlace := ["maps.clone"], unfollowed := true, recurses := true, apart := false }
def KvBackSaid : Prop := kvBackRow.holds Try.pinned (OpenSpec.ofChange kvBackSpec)

/-- ITS FALSE NEIGHBOUR: 'it returns false'. Refute it at one input. -/
def kvBackWrong : ChangeSpec := { name := "kvBack", fn := fun _ => fun
  | [d1, d2] => { results := [.lit (.bool false)], args := [d1, d2] }
  | _ => none }
def KvBackWrongFalsely : Prop := kvBackRow.holds Try.pinned (OpenSpec.ofChange kvBackWrong)

/- THE SECOND FORM. 'bulk': how many values and letters a reading holds, each counted each time it is reached (what is shared counts as often as it is met; a slice's spare places count too). A statement '..UptoSaid' is the law's where the arguments, and the package variables that the reading takes, are together of bulk at most 1048576: NARROWER than '..Said'. Prove '..Said' where nothing that the law and all that it calls make is longer than what came in: it says more and counts as full. Else prove '..UptoSaid'. A law counts once. -/
mutual
def uptoBulk {H : Type} : DataW H → Nat
  | .lit (.string bytes) => bytes.length + 1
  | .lit _ => 1
  | .nil => 1
  | .ptr d => uptoBulk d + 1
  | .slice elems spare => uptoBulkAll elems + uptoBulkAll spare + 1
  | .agg parts => uptoBulkAll parts + 1
  | .iface _ d => uptoBulk d + 1
  | .map entries => uptoBulkEntries entries + 1
  | .held _ => 1
def uptoBulkAll {H : Type} : List (DataW H) → Nat
  | [] => 0
  | d :: r => uptoBulk d + uptoBulkAll r
def uptoBulkEntries {H : Type} : List (Lit × DataW H) → Nat
  | [] => 0
  | x :: r => uptoBulkEntry x + uptoBulkEntries r
def uptoBulkEntry {H : Type} : Lit × DataW H → Nat
  | (.string bytes, d) => bytes.length + uptoBulk d + 1
  | (_, d) => uptoBulk d + 1
 end
def uptoSmall : (H : Type) → List (DataW H) → Bool := fun _ ds => decide (uptoBulkAll ds ≤ 1048576)
def OpenSpec.upto (s : _root_.Go.ChangeSpec) : _root_.Go.OpenSpec := { _root_.Go.OpenSpec.ofChange s with cond := some uptoSmall }

/-- 'entrustlaw19.KvPlays', WHERE WHAT IT READS IS OF BULK AT MOST 1048576: true; the input reads as it did. -/
def kvPlaysUptoRow : OpenClaim := { program := "ytfhinmjpokollaa", sum := "0ee5277a920d8464daccb20e3866185b387760b7c9efa539fa70b94f8465b101", func := "entrust/entrustlaw19.KvPlays", spec := "kvPlays", inPlace := ["maps.clone"], unfollowed := true, recurses := true, apart := false, narrowed := true }
def KvPlaysUptoSaid : Prop := kvPlaysUptoRow.holds Try.pinned (OpenSpec.upto kvPlaysSpec)

/-- 'entrustlaw19.KvBatches', WHERE WHAT IT READS IS OF BULK AT MOST 1048576: true; the input reads as it did. -/
def kvBatchesUptoRow : OpenClaim := { program := "ytfhinmjpokollaa", sum := "0ee5277a920d8464daccb20e3866185b387760b7c9efa539fa70b94f8465b101", func := "entrust/entrustlaw19.KvBatches", spec := "kvBatches", unfollowed := true, recurses := true, apart := false, narrowed := true }
def KvBatchesUptoSaid : Prop := kvBatchesUptoRow.holds Try.pinned (OpenSpec.upto kvBatchesSpec)

/-- 'entrustlaw19.KvNil', WHERE WHAT IT READS IS OF BULK AT MOST 1048576: true; the input reads as it did. -/
def kvNilUptoRow : OpenClaim := { program := "ytfhinmjpokollaa", sum := "0ee5277a920d8464daccb20e3866185b387760b7c9efa539fa70b94f8465b101", func := "entrust/entrustlaw19.KvNil", spec := "kvNil", inPlace := ["maps.clone"], unfollowed := true, recurses := true, apart := false, narrowed := true }
def KvNilUptoSaid : Prop := kvNilUptoRow.holds Try.pinned (OpenSpec.upto kvNilSpec)

/-- 'entrustlaw19.KvBytes', WHERE WHAT IT READS IS OF BULK AT MOST 1048576: true; the input reads as it did. -/
def kvBytesUptoRow : OpenClaim := { program := "ytfhinmjpokollaa", sum := "0ee5277a920d8464daccb20e3866185b387760b7c9efa539fa70b94f8465b101", func := "entrust/entrustlaw19.KvBytes", spec := "kvBytes", unfollowed := true, recurses := true, apart := false, narrowed := true }
def KvBytesUptoSaid : Prop := kvBytesUptoRow.holds Try.pinned (OpenSpec.upto kvBytesSpec)

/-- 'entrustlaw19.KvBack', WHERE WHAT IT READS IS OF BULK AT MOST 1048576: true; the input reads as it did. -/
def kvBackUptoRow : OpenClaim := { program := "ytfhinmjpokollaa", sum := "0ee5277a920d8464daccb20e3866185b387760b7c9efa539fa70b94f8465b101", func := "entrust/entrustlaw19.KvBack", spec := "kvBack", inPlace := ["maps.clone"], unfollowed := true, recurses := true, apart := false, narrowed := true }
def KvBackUptoSaid : Prop := kvBackUptoRow.holds Try.pinned (OpenSpec.upto kvBackSpec)

end Rows
end Go.Proofs.Ytfhinmjpokollaa
