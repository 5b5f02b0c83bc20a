/-
  No cell of these rows narrows 'for every input' (looked for: loops, veiled, ifaces, maps, wideKeys, modest, calm, conditions, laid).
  DERIVED. THE GIVEN ROWS OF THIS SEAT. 5 by the template 'for every input the law returns true; each argument reads behind the call as it read before'; 0 by the template 'total and deterministic' (their statements: YtejdekagejdepaaTotals.lean).
  GIVEN WITH THE SEED: the statements are not yours to turn. If you find one false, say at which input.
  Laid BY PROGRAM, IN A SANDBOX (cutbox-rows.mjs): the forced cells as the released guide's own fill.sh prints them over the translation a59ace26c8d0f803… (all of the seat's roots in one cut). By AI agents, Wed Nov 11 2026. No macro, syntax, notation, axiom, sorry.
-/
import Derived.Test.YtejdekagejdepaaChecked
import GoSem.Claim
import GoSem.ClaimJoined
import GoSem.ClaimMapViews
import Derived.JoinedTies
import Derived.KernelRfl
namespace Go.Proofs.Ytejdekagejdepaa
/- THE CELL 'sum', in the pinned program and in every row, IS THE sha256 OF THE DUMP (.gsa) THAT YtejdekagejdepaaProg.lean LOADS. Nothing in Lean hashes anything: it is a label: what it is worth is what the hold of that sum in a sandbox is worth. -/
noncomputable def Try.pinned : Pinned := { name := "ytejdekagejdepaa", sum := "a59ace26c8d0f803eddc1a0ec042696169c3c6d90edd6d011d037f66556c5d74", checked := Try.checked }
namespace Rows
def none {H : Type} : Left H := { results := [], args := [] }

/-- 'entrustlaw18.RatioShares': WHATEVER THE INPUT: true; the input reads as it did. -/
def ratioSharesSpec : ChangeSpec := { name := "ratioShares", fn := fun _ => fun
  | [d1, d2] => { results := [.lit (.bool true)], args := [d1, d2] }
  | _ => none }
def ratioSharesRow : OpenClaim := { program := "ytejdekagejdepaa", sum := "a59ace26c8d0f803eddc1a0ec042696169c3c6d90edd6d011d037f66556c5d74", func := "entrust/entrustlaw18.RatioShares", spec := "ratioShares", inPlace := ["math.Float64frombits", "math.Float64bits"], apart := false }
def RatioSharesSaid : Prop := ratioSharesRow.holds Try.pinned (OpenSpec.ofChange ratioSharesSpec)

/-- ITS FALSE NEIGHBOUR: 'it returns false'. Refute it at one input. -/
def ratioSharesWrong : ChangeSpec := { name := "ratioShares", fn := fun _ => fun
  | [d1, d2] => { results := [.lit (.bool false)], args := [d1, d2] }
  | _ => none }
def RatioSharesWrongFalsely : Prop := ratioSharesRow.holds Try.pinned (OpenSpec.ofChange ratioSharesWrong)

/-- 'entrustlaw18.RatioOrders': WHATEVER THE INPUT: true; the input reads as it did. -/
def ratioOrdersSpec : ChangeSpec := { name := "ratioOrders", fn := fun _ => fun
  | [d1, d2, d3] => { results := [.lit (.bool true)], args := [d1, d2, d3] }
  | _ => none }
def ratioOrdersRow : OpenClaim := { program := "ytejdekagejdepaa", sum := "a59ace26c8d0f803eddc1a0ec042696169c3c6d90edd6d011d037f66556c5d74", func := "entrust/entrustlaw18.RatioOrders", spec := "ratioOrders", inPlace := ["math.Float64frombits", "math.Float64bits"], apart := false }
def RatioOrdersSaid : Prop := ratioOrdersRow.holds Try.pinned (OpenSpec.ofChange ratioOrdersSpec)

/-- ITS FALSE NEIGHBOUR: 'it returns false'. Refute it at one input. -/
def ratioOrdersWrong : ChangeSpec := { name := "ratioOrders", fn := fun _ => fun
  | [d1, d2, d3] => { results := [.lit (.bool false)], args := [d1, d2, d3] }
  | _ => none }
def RatioOrdersWrongFalsely : Prop := ratioOrdersRow.holds Try.pinned (OpenSpec.ofChange ratioOrdersWrong)

/-- 'entrustlaw18.RatioLeast': WHATEVER THE INPUT: true; the input reads as it did. -/
def ratioLeastSpec : ChangeSpec := { name := "ratioLeast", fn := fun _ => fun
  | [d] => { results := [.lit (.bool true)], args := [d] }
  | _ => none }
def ratioLeastRow : OpenClaim := { program := "ytejdekagejdepaa", sum := "a59ace26c8d0f803eddc1a0ec042696169c3c6d90edd6d011d037f66556c5d74", func := "entrust/entrustlaw18.RatioLeast", spec := "ratioLeast", inPlace := ["math.Float64frombits", "math.Float64bits"], apart := false }
def RatioLeastSaid : Prop := ratioLeastRow.holds Try.pinned (OpenSpec.ofChange ratioLeastSpec)

/-- ITS FALSE NEIGHBOUR: 'it returns false'. Refute it at one input. -/
def ratioLeastWrong : ChangeSpec := { name := "ratioLeast", fn := fun _ => fun
  | [d] => { results := [.lit (.bool false)], args := [d] }
  | _ => none }
def RatioLeastWrongFalsely : Prop := ratioLeastRow.holds Try.pinned (OpenSpec.ofChange ratioLeastWrong)

/-- 'entrustlaw18.RatioMeans': WHATEVER THE INPUT: true; the input reads as it did. -/
def ratioMeansSpec : ChangeSpec := { name := "ratioMeans", fn := fun _ => fun
  | [d1, d2, d3] => { results := [.lit (.bool true)], args := [d1, d2, d3] }
  | _ => none }
def ratioMeansRow : OpenClaim := { program := "ytejdekagejdepaa", sum := "a59ace26c8d0f803eddc1a0ec042696169c3c6d90edd6d011d037f66556c5d74", func := "entrust/entrustlaw18.RatioMeans", spec := "ratioMeans", inPlace := ["math.Float64frombits", "math.Float64bits"], apart := false }
def RatioMeansSaid : Prop := ratioMeansRow.holds Try.pinned (OpenSpec.ofChange ratioMeansSpec)

/-- ITS FALSE NEIGHBOUR: 'it returns false'. Refute it at one input. -/
def ratioMeansWrong : ChangeSpec := { name := "ratioMeans", fn := fun _ => fun
  | [d1, d2, d3] => { results := [.lit (.bool false)], args := [d1, d2, d3] }
  | _ => none }
def RatioMeansWrongFalsely : Prop := ratioMeansRow.holds Try.pinned (OpenSpec.ofChange ratioMeansWrong)

/-- 'entrustlaw18.RatioTicks': WHATEVER THE INPUT: true; the input reads as it did. -/
def ratioTicksSpec : ChangeSpec := { name := "ratioTicks", fn := fun _ => fun
  | [d1, d2, d3] => { results := [.lit (.bool true)], args := [d1, d2, d3] }
  | _ => none }
def ratioTicksRow : OpenClaim := { program := "ytejdekagejdepaa", sum := "a59ace26c8d0f803eddc1a0ec042696169c3c6d90edd6d011d037f66556c5d74", func := "entrust/entrustlaw18.RatioTicks", spec := "ratioTicks", inPlace := ["math.Float64frombits", "math.Float64bits", "math.archCeil", "math.archFloor", "math.archTrunc"], apart := false }
def RatioTicksSaid : Prop := ratioTicksRow.holds Try.pinned (OpenSpec.ofChange ratioTicksSpec)

/-- ITS FALSE NEIGHBOUR: 'it returns false'. Refute it at one input. -/
def ratioTicksWrong : ChangeSpec := { name := "ratioTicks", fn := fun _ => fun
  | [d1, d2, d3] => { results := [.lit (.bool false)], args := [d1, d2, d3] }
  | _ => none }
def RatioTicksWrongFalsely : Prop := ratioTicksRow.holds Try.pinned (OpenSpec.ofChange ratioTicksWrong)

/- THE SECOND FORM. 'bulk': how many values and letters a reading holds, each counted each time it is reached (what is shared counts as often as it is met; a slice's spare places count too). A statement '..UptoSaid' is the law's where the arguments, and the package variables that the reading takes, are together of bulk at most 1048576: NARROWER than '..Said'. Prove '..Said' where nothing that the law and all that it calls make is longer than what came in: it says more and counts as full. Else prove '..UptoSaid'. A law counts once. -/
mutual
def uptoBulk {H : Type} : DataW H → Nat
  | .lit (.string bytes) => bytes.length + 1
  | .lit _ => 1
  | .nil => 1
  | .ptr d => uptoBulk d + 1
  | .slice elems spare => uptoBulkAll elems + uptoBulkAll spare + 1
  | .agg parts => uptoBulkAll parts + 1
  | .iface _ d => uptoBulk d + 1
  | .map entries => uptoBulkEntries entries + 1
  | .held _ => 1
def uptoBulkAll {H : Type} : List (DataW H) → Nat
  | [] => 0
  | d :: r => uptoBulk d + uptoBulkAll r
def uptoBulkEntries {H : Type} : List (Lit × DataW H) → Nat
  | [] => 0
  | x :: r => uptoBulkEntry x + uptoBulkEntries r
def uptoBulkEntry {H : Type} : Lit × DataW H → Nat
  | (.string bytes, d) => bytes.length + uptoBulk d + 1
  | (_, d) => uptoBulk d + 1
 end
def uptoSmall : (H : Type) → List (DataW H) → Bool := fun _ ds => decide (uptoBulkAll ds ≤ 1048576)
def OpenSpec.upto (s : _root_.Go.ChangeSpec) : _root_.Go.OpenSpec := { _root_.Go.OpenSpec.ofChange s with cond := some uptoSmall }

/-- 'entrustlaw18.RatioShares', WHERE WHAT IT READS IS OF BULK AT MOST 1048576: true; the input reads as it did. -/
def ratioSharesUptoRow : OpenClaim := { program := "ytejdekagejdepaa", sum := "a59ace26c8d0f803eddc1a0ec042696169c3c6d90edd6d011d037f66556c5d74", func := "entrust/entrustlaw18.RatioShares", spec := "ratioShares", inPlace := ["math.Float64frombits", "math.Float64bits"], apart := false, narrowed := true }
def RatioSharesUptoSaid : Prop := ratioSharesUptoRow.holds Try.pinned (OpenSpec.upto ratioSharesSpec)

/-- 'entrustlaw18.RatioOrders', WHERE WHAT IT READS IS OF BULK AT MOST 1048576: true; the input reads as it did. -/
def ratioOrdersUptoRow : OpenClaim := { program := "ytejdekagejdepaa", sum := "a59ace26c8d0f803eddc1a0ec042696169c3c6d90edd6d011d037f66556c5d74", func := "entrust/entrustlaw18.RatioOrders", spec := "ratioOrders", inPlace := ["math.Float64frombits", "math.Float64bits"], apart := false, narrowed := true }
def RatioOrdersUptoSaid : Prop := ratioOrdersUptoRow.holds Try.pinned (OpenSpec.upto ratioOrdersSpec)

/-- 'entrustlaw18.RatioLeast', WHERE WHAT IT READS IS OF BULK AT MOST 1048576: true; the input reads as it did. -/
def ratioLeastUptoRow : OpenClaim := { program := "ytejdekagejdepaa", sum := "a59ace26c8d0f803eddc1a0ec042696169c3c6d90edd6d011d037f66556c5d74", func := "entrust/entrustlaw18.RatioLeast", spec := "ratioLeast", inPlace := ["math.Float64frombits", "math.Float64bits"], apart := false, narrowed := true }
def RatioLeastUptoSaid : Prop := ratioLeastUptoRow.holds Try.pinned (OpenSpec.upto ratioLeastSpec)

/-- 'entrustlaw18.RatioMeans', WHERE WHAT IT READS IS OF BULK AT MOST 1048576: true; the input reads as it did. -/
def ratioMeansUptoRow : OpenClaim := { program := "ytejdekagejdepaa", sum := "a59ace26c8d0f803eddc1a0ec042696169c3c6d90edd6d011d037f66556c5d74", func := "entrust/entrustlaw18.RatioMeans", spec := "ratioMeans", inPlace := ["math.Float64frombits", "math.Float64bits"], apart := false, narrowed := true }
def RatioMeansUptoSaid : Prop := ratioMeansUptoRow.holds Try.pinned (OpenSpec.upto ratioMeansSpec)

/-- 'entrustlaw18.RatioTicks', WHERE WHAT IT READS IS OF BULK AT MOST 1048576: true; the input reads as it did. -/
def ratioTicksUptoRow : OpenClaim := { program := "ytejdekagejdepaa", sum := "a59ace26c8d0f803eddc1a0ec042696169c3c6d90edd6d011d037f66556c5d74", func := "entrust/entrustlaw18.RatioTicks", spec := "ratioTicks", inPlace := ["math.Float64frombits", "math.Float64bits", "math.archCeil", "math.archFloor", "math.archTrunc"], apart := false, narrowed := true }
def RatioTicksUptoSaid : Prop := ratioTicksUptoRow.holds Try.pinned (OpenSpec.upto ratioTicksSpec)

end Rows
end Go.Proofs.Ytejdekagejdepaa
