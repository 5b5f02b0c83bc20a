/- The arguments of the window's statements, opened. No condition. -/
import Derived.Test.YthhgepnneaehhaaRows
import Derived.Test.YthhgepnneaehhaaOpen
namespace Go.Proofs.Ythhgepnneaehhaa
open Go.RowKit

/-- An act of the script, as it lies in memory. -/
structure ActR where
  kind : Int
  n : Int
  x : Int
def ActR.cells (a : ActR) : List Value := [.int .i64 a.kind, .int .u64 a.n, .int .i64 a.x]
def ActR.Good (a : ActR) : Prop := (Lit.int .i64 a.kind).wf = true ∧ (Lit.int .u64 a.n).wf = true ∧ (Lit.int .i64 a.x).wf = true

section
open Go.ChangeShapes Go.WideShapes
variable {H : Type} {enc : TypeId × Value → H} {w : World}
theorem open_strs' {r : Reach} {b0 : Nat} {v : Value} {d : DataW H} {p : List MemPlace} (hv : Value.okWide Try.prog w r b0 22 v) (h : DataW.Trod enc Try.prog w 0 (fun _ => true) true 22 v d p) :
    ∃ (A : Option Addr) (n c : Nat) (L : List ByteArray), v = .slice A n c ∧ n ≤ c ∧ c ≤ maxLen ∧ L.length = n ∧ Rd (fun b => b < w.heap.size) w 1 A n (L.flatMap fun s => [.string s]) := by
  obtain ⟨A, n, c, L, h1, h2, h3, h4, h5, _⟩ := open_slk (k := 1) Try.underlying22 (fun s : ByteArray => [Value.string s]) (by kernel_rfl) (by omega) (fun _ => True) (fun cs m y hl ht => by
    obtain ⟨s, rfl, _⟩ := DataW.trod_string Try.underlying9 ht
    exact ⟨s, rfl, trivial⟩) hv h
  exact ⟨A, n, c, L, h1, h2, h3, h4, h5⟩
theorem open_acts {r : Reach} {b0 : Nat} {v : Value} {d : DataW H} {p : List MemPlace} (hv : Value.okWide Try.prog w r b0 23 v) (h : DataW.Trod enc Try.prog w 0 (fun _ => true) true 23 v d p) :
    ∃ (A : Option Addr) (n c : Nat) (L : List ActR), v = .slice A n c ∧ n ≤ c ∧ c ≤ maxLen ∧ L.length = n ∧ Rd (fun b => b < w.heap.size) w 3 A n (L.flatMap ActR.cells) ∧ ∀ a ∈ L, a.Good := by
  obtain ⟨A, n, c, L, h1, h2, h3, h4, h5, h6, _⟩ := open_slk (k := 3) Try.underlying23 ActR.cells (by kernel_rfl) (by omega) ActR.Good (fun cs m y hl ht => by
    match cs, hl with
    | [c0, c1, c2], _ =>
      obtain ⟨_, _, t0⟩ := field_at (j := 0) Try.underlying35 ht rfl (by kernel_rfl) (by simp)
      obtain ⟨_, _, t1⟩ := field_at (j := 1) Try.underlying35 ht rfl (by kernel_rfl) (by simp)
      obtain ⟨_, _, t2⟩ := field_at (j := 2) Try.underlying35 ht rfl (by kernel_rfl) (by simp)
      obtain ⟨a0, e0, _, g0⟩ := DataW.trod_int Try.underlying3 t0
      obtain ⟨a1, e1, _, g1⟩ := DataW.trod_int Try.underlying31 t1
      obtain ⟨a2, e2, _, g2⟩ := DataW.trod_int Try.underlying3 t2
      simp at e0 e1 e2
      subst e0 e1 e2
      exact ⟨⟨a0, a1, a2⟩, rfl, g0, g1, g2⟩) hv h
  exact ⟨A, n, c, L, h1, h2, h3, h4, h5, h6⟩
end
end Go.Proofs.Ythhgepnneaehhaa
