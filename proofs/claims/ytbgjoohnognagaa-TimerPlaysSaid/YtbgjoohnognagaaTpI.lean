/- TimerPlays, as its statement's row wants it. -/
import Derived.Test.YtbgjoohnognagaaTpH
import Derived.Test.YtbgjoohnognagaaOpenA
namespace Go.Proofs.Ytbgjoohnognagaa
open Go.RowKit

theorem plays_law {v0 v1 : Value} {w : World}
    (o0 : ∃ a b c : Int, v0 = .agg #[.int .i64 a, .int .i64 b, .int .i64 c] ∧ (Lit.int .i64 a).wf = true ∧ (Lit.int .i64 b).wf = true ∧ (Lit.int .i64 c).wf = true)
    (o1 : ∃ (A : Option Addr) (n c : Nat) (L : List A3), v1 = .slice A n c ∧ n ≤ c ∧ c ≤ maxLen ∧ L.length = n ∧ Rd (fun b => b < w.heap.size) w 3 A n (L.flatMap A3.cells) ∧ ∀ a ∈ L, (Lit.int .u64 a.n).wf = true) :
    Calls Try.prog 5 #[v0, v1] w fun e w' => e = .returned (.bool true) ∧ Below w.heap.size w w' := by
  obtain ⟨a, b, c, rfl, -⟩ := o0
  obtain ⟨A, n, k, L, rfl, hn, hk, hL, hR, -⟩ := o1
  exact (plays_walk a b c A n k L w (by omega) hL hR).mono fun e w' h => ⟨h.1, h.2⟩
end Go.Proofs.Ytbgjoohnognagaa
