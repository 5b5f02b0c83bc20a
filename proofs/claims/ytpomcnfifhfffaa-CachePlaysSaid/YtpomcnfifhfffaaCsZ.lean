/- CachePlays' law on opened arguments. No condition. -/
import Derived.Test.YtpomcnfifhfffaaCsW
import Derived.Test.YtpomcnfifhfffaaCaR
namespace Go.Proofs.Ytpomcnfifhfffaa
open Go.RowKit Go.WideShapes Go.ChangeShapes
theorem plays_law {v0 v1 : Value} {w : World} (o0 : ∃ (A : Option Addr) (n c : Nat) (L : List AB), v0 = .slice A n c ∧ n ≤ maxLen ∧ L.length = n ∧ Rd (fun b => b < w.heap.size) w 5 A n ((L.map AB.av).flatMap AV.cells) ∧ ∀ a ∈ L, a.Good w)
    (o1 : ∃ a : AB, v1 = .agg a.av.cells.toArray ∧ a.Good w) : Calls Try.prog 4 #[v0, v1] w fun e w' => e = .returned (.bool true) ∧ Below w.heap.size w w' := by
  obtain ⟨A, n, c, L, rfl, hn, hL, hR, hg⟩ := o0
  obtain ⟨a, rfl, ha⟩ := o1
  exact plays_walk A n c L a w hL hn hR hg ha
end Go.Proofs.Ytpomcnfifhfffaa
