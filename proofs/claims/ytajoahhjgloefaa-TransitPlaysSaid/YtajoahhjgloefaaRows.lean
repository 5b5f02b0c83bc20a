/-
  No cell of these rows narrows 'for every input' (looked for: loops, veiled, ifaces, maps, wideKeys, modest, calm, conditions, laid).
  DERIVED. THE GIVEN ROWS OF THIS SEAT. 4 by the template 'for every input the law returns true; each argument reads behind the call as it read before'; 0 by the template 'total and deterministic' (their statements: YtajoahhjgloefaaTotals.lean).
  GIVEN WITH THE SEED: the statements are not yours to turn. If you find one false, say at which input.
  Laid BY PROGRAM, IN A SANDBOX (cutbox-rows.mjs): the forced cells as the released guide's own fill.sh prints them over the translation 43d48b99ac3cc9e2… (all of the seat's roots in one cut). By AI agents, Wed Nov 11 2026. No macro, syntax, notation, axiom, sorry.
-/
import Derived.Test.YtajoahhjgloefaaChecked
import GoSem.Claim
import GoSem.ClaimJoined
import GoSem.ClaimMapViews
import Derived.JoinedTies
import Derived.KernelRfl
namespace Go.Proofs.Ytajoahhjgloefaa
/- THE CELL 'sum', in the pinned program and in every row, IS THE sha256 OF THE DUMP (.gsa) THAT YtajoahhjgloefaaProg.lean LOADS. Nothing in Lean hashes anything: it is a label: what it is worth is what the hold of that sum in a sandbox is worth. -/
noncomputable def Try.pinned : Pinned := { name := "ytajoahhjgloefaa", sum := "43d48b99ac3cc9e2ab8de3cb506b577b4f0bb0cb8e786595cf508ca6ea7c7cdd", checked := Try.checked }
namespace Rows
def none {H : Type} : Left H := { results := [], args := [] }

/-- 'entrustlaw29.TransitFair': WHATEVER THE INPUT: true; the input reads as it did. -/
def transitFairSpec : ChangeSpec := { name := "transitFair", fn := fun _ => fun
  | [d1, d2] => { results := [.lit (.bool true)], args := [d1, d2] }
  | _ => none }
def transitFairRow : OpenClaim := { program := "ytajoahhjgloefaa", sum := "43d48b99ac3cc9e2ab8de3cb506b577b4f0bb0cb8e786595cf508ca6ea7c7cdd", func := "entrust/entrustlaw29.TransitFair", spec := "transitFair", unfollowed := true, recurses := true, apart := false }
def TransitFairSaid : Prop := transitFairRow.holds Try.pinned (OpenSpec.ofChange transitFairSpec)

/-- ITS FALSE NEIGHBOUR: 'it returns false'. Refute it at one input. -/
def transitFairWrong : ChangeSpec := { name := "transitFair", fn := fun _ => fun
  | [d1, d2] => { results := [.lit (.bool false)], args := [d1, d2] }
  | _ => none }
def TransitFairWrongFalsely : Prop := transitFairRow.holds Try.pinned (OpenSpec.ofChange transitFairWrong)

/-- 'entrustlaw29.TransitKeeps': WHATEVER THE INPUT: true; the input reads as it did. -/
def transitKeepsSpec : ChangeSpec := { name := "transitKeeps", fn := fun _ => fun
  | [d] => { results := [.lit (.bool true)], args := [d] }
  | _ => none }
def transitKeepsRow : OpenClaim := { program := "ytajoahhjgloefaa", sum := "43d48b99ac3cc9e2ab8de3cb506b577b4f0bb0cb8e786595cf508ca6ea7c7cdd", func := "entrust/entrustlaw29.TransitKeeps", spec := "transitKeeps", unfollowed := true, recurses := true, apart := false }
def TransitKeepsSaid : Prop := transitKeepsRow.holds Try.pinned (OpenSpec.ofChange transitKeepsSpec)

/-- ITS FALSE NEIGHBOUR: 'it returns false'. Refute it at one input. -/
def transitKeepsWrong : ChangeSpec := { name := "transitKeeps", fn := fun _ => fun
  | [d] => { results := [.lit (.bool false)], args := [d] }
  | _ => none }
def TransitKeepsWrongFalsely : Prop := transitKeepsRow.holds Try.pinned (OpenSpec.ofChange transitKeepsWrong)

/-- 'entrustlaw29.TransitPlays': WHATEVER THE INPUT: true; the input reads as it did. -/
def transitPlaysSpec : ChangeSpec := { name := "transitPlays", fn := fun _ => fun
  | [d1, d2] => { results := [.lit (.bool true)], args := [d1, d2] }
  | _ => none }
def transitPlaysRow : OpenClaim := { program := "ytajoahhjgloefaa", sum := "43d48b99ac3cc9e2ab8de3cb506b577b4f0bb0cb8e786595cf508ca6ea7c7cdd", func := "entrust/entrustlaw29.TransitPlays", spec := "transitPlays", inPlace := ["maps.clone"], unfollowed := true, recurses := true, apart := false }
def TransitPlaysSaid : Prop := transitPlaysRow.holds Try.pinned (OpenSpec.ofChange transitPlaysSpec)

/-- ITS FALSE NEIGHBOUR: 'it returns false'. Refute it at one input. -/
def transitPlaysWrong : ChangeSpec := { name := "transitPlays", fn := fun _ => fun
  | [d1, d2] => { results := [.lit (.bool false)], args := [d1, d2] }
  | _ => none }
def TransitPlaysWrongFalsely : Prop := transitPlaysRow.holds Try.pinned (OpenSpec.ofChange transitPlaysWrong)

/-- 'entrustlaw29.TransitNil': WHATEVER THE INPUT: true; the input reads as it did. -/
def transitNilSpec : ChangeSpec := { name := "transitNil", fn := fun _ => fun
  | [d1, d2, d3] => { results := [.lit (.bool true)], args := [d1, d2, d3] }
  | _ => none }
def transitNilRow : OpenClaim := { program := "ytajoahhjgloefaa", sum := "43d48b99ac3cc9e2ab8de3cb506b577b4f0bb0cb8e786595cf508ca6ea7c7cdd", func := "entrust/entrustlaw29.TransitNil", spec := "transitNil", inPlace := ["maps.clone"], unfollowed := true, recurses := true, apart := false }
def TransitNilSaid : Prop := transitNilRow.holds Try.pinned (OpenSpec.ofChange transitNilSpec)

/-- ITS FALSE NEIGHBOUR: 'it returns false'. Refute it at one input. -/
def transitNilWrong : ChangeSpec := { name := "transitNil", fn := fun _ => fun
  | [d1, d2, d3] => { results := [.lit (.bool false)], args := [d1, d2, d3] }
  | _ => none }
def TransitNilWrongFalsely : Prop := transitNilRow.holds Try.pinned (OpenSpec.ofChange transitNilWrong)

/- THE SECOND FORM. 'bulk': how many values and letters a reading holds, each counted each time it is reached (what is shared counts as often as it is met; a slice's spare places count too). A statement '..UptoSaid' is the law's where the arguments, and the package variables that the reading takes, are together of bulk at most 1048576: NARROWER than '..Said'. Prove '..Said' where nothing that the law and all that it calls make is longer than what came in: it says more and counts as full. Else prove '..UptoSaid'. A law counts once. -/
mutual
def uptoBulk {H : Type} : DataW H → Nat
  | .lit (.string bytes) => bytes.length + 1
  | .lit _ => 1
  | .nil => 1
  | .ptr d => uptoBulk d + 1
  | .slice elems spare => uptoBulkAll elems + uptoBulkAll spare + 1
  | .agg parts => uptoBulkAll parts + 1
  | .iface _ d => uptoBulk d + 1
  | .map entries => uptoBulkEntries entries + 1
  | .held _ => 1
def uptoBulkAll {H : Type} : List (DataW H) → Nat
  | [] => 0
  | d :: r => uptoBulk d + uptoBulkAll r
def uptoBulkEntries {H : Type} : List (Lit × DataW H) → Nat
  | [] => 0
  | x :: r => uptoBulkEntry x + uptoBulkEntries r
def uptoBulkEntry {H : Type} : Lit × DataW H → Nat
  | (.string bytes, d) => bytes.length + uptoBulk d + 1
  | (_, d) => uptoBulk d + 1
 end
def uptoSmall : (H : Type) → List (DataW H) → Bool := fun _ ds => decide (uptoBulkAll ds ≤ 1048576)
def OpenSpec.upto (s : _root_.Go.ChangeSpec) : _root_.Go.OpenSpec := { _root_.Go.OpenSpec.ofChange s with cond := some uptoSmall }

/-- 'entrustlaw29.TransitFair', WHERE WHAT IT READS IS OF BULK AT MOST 1048576: true; the input reads as it did. -/
def transitFairUptoRow : OpenClaim := { program := "ytajoahhjgloefaa", sum := "43d48b99ac3cc9e2ab8de3cb506b577b4f0bb0cb8e786595cf508ca6ea7c7cdd", func := "entrust/entrustlaw29.TransitFair", spec := "transitFair", unfollowed := true, recurses := true, apart := false, narrowed := true }
def TransitFairUptoSaid : Prop := transitFairUptoRow.holds Try.pinned (OpenSpec.upto transitFairSpec)

/-- 'entrustlaw29.TransitKeeps', WHERE WHAT IT READS IS OF BULK AT MOST 1048576: true; the input reads as it did. -/
def transitKeepsUptoRow : OpenClaim := { program := "ytajoahhjgloefaa", sum := "43d48b99ac3cc9e2ab8de3cb506b577b4f0bb0cb8e786595cf508ca6ea7c7cdd", func := "entrust/entrustlaw29.TransitKeeps", spec := "transitKeeps", unfollowed := true, recurses := true, apart := false, narrowed := true }
def TransitKeepsUptoSaid : Prop := transitKeepsUptoRow.holds Try.pinned (OpenSpec.upto transitKeepsSpec)

/-- 'entrustlaw29.TransitPlays', WHERE WHAT IT READS IS OF BULK AT MOST 1048576: true; the input reads as it did. -/
def transitPlaysUptoRow : OpenClaim := { program := "ytajoahhjgloefaa", sum := "43d48b99ac3cc9e2ab8de3cb506b577b4f0bb0cb8e786595cf508ca6ea7c7cdd", func := "entrust/entrustlaw29.TransitPlays", spec := "transitPlays", inPlace := ["maps.clone"], unfollowed := true, recurses := true, apart := false, narrowed := true }
def TransitPlaysUptoSaid : Prop := transitPlaysUptoRow.holds Try.pinned (OpenSpec.upto transitPlaysSpec)

/-- 'entrustlaw29.TransitNil', WHERE WHAT IT READS IS OF BULK AT MOST 1048576: true; the input reads as it did. -/
def transitNilUptoRow : OpenClaim := { program := "ytajoahhjgloefaa", sum := "43d48b99ac3cc9e2ab8de3cb506b577b4f0bb0cb8e786595cf508ca6ea7c7cdd", func := "entrust/entrustlaw29.TransitNil", spec := "transitNil", inPlace := ["maps.clone"], unfollowed := true, recurses := true, apart := false, narrowed := true }
def TransitNilUptoSaid : Prop := transitNilUptoRow.holds Try.pinned (OpenSpec.upto transitNilSpec)

end Rows
end Go.Proofs.Ytajoahhjgloefaa
