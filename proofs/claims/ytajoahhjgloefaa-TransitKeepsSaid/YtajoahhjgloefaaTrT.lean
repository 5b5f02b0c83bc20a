/- TransitKeeps, as its statement's row wants it. No condition. -/
import Derived.Test.YtajoahhjgloefaaTrS
namespace Go.Proofs.Ytajoahhjgloefaa
open Go.RowKit Go.Maps

theorem keeps_law {v : Value} {w : World}
    (o : ∃ (A : Option Addr) (n c : Nat) (L : List Ac), v = .slice A n c ∧ n ≤ maxLen ∧ L.length = n ∧ Rd (fun b => b < w.heap.size) w 4 A n (L.flatMap Ac.cells) ∧ ∀ a ∈ L, a.Good w) :
    Calls Try.prog 4 #[v] w fun e w' => e = .returned (.bool true) ∧ Below w.heap.size w w' := by
  obtain ⟨A, n, c, L, rfl, hn, hL, hR, hg⟩ := o
  exact keeps_walk A n c L w hn hL hR hg
end Go.Proofs.Ytajoahhjgloefaa
