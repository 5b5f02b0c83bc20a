/- TransitNil, as its statement's row wants it. No condition. -/
import Derived.Test.YtajoahhjgloefaaTrG
import Derived.Test.YtajoahhjgloefaaTrB
import Derived.Test.YtajoahhjgloefaaOpen
import Derived.Test.YtajoahhjgloefaaOpenA
namespace Go.Proofs.Ytajoahhjgloefaa
open Go.RowKit Go.Maps Go.WideShapes Go.ChangeShapes

section
variable {H : Type} {enc : TypeId × Value → H} {w : World}
theorem open_bytes {r : Reach} {b0 : Nat} {v : Value} {d : DataW H} {p : List MemPlace} (hv : Value.okWide Try.prog w r b0 33 v) (h : DataW.Trod enc Try.prog w 0 (fun _ => true) true 33 v d p) :
    ∃ (A : Option Addr) (n c : Nat) (L : List Int), v = .slice A n c ∧ n ≤ c ∧ c ≤ maxLen ∧ L.length = n ∧ Rd (fun b => b < w.heap.size) w 1 A n (u8s L) ∧ Byt L := by
  obtain ⟨A, n, c, L, h1, h2, h3, h4, h5, h6, _⟩ := open_slk (k := 1) Try.underlying33 (fun x : Int => [.int .u8 x]) (by kernel_rfl) (by omega) (fun x => 0 ≤ x ∧ x < 256) (fun cs m y hl ht => by
    match cs, hl with
    | [c0], _ =>
      obtain ⟨a, e, _, g⟩ := DataW.trod_int Try.underlying5 ht
      simp at e
      subst e
      have := bounds_u8 g
      exact ⟨a, rfl, by omega, by omega⟩) hv h
  have e : L.flatMap (fun x : Int => [Value.int .u8 x]) = u8s L := by
    unfold u8s
    rw [List.map_eq_flatMap]
  rw [e] at h5
  exact ⟨A, n, c, L, h1, h2, h3, h4, h5, h6⟩
end

theorem nil_law (a : Int) (wa : (Lit.int .i64 a).wf = true) (k : Int) (wk : (Lit.int .u64 k).wf = true) {v : Value} {w : World}
    (o : ∃ (A : Option Addr) (n c : Nat) (L : List Int), v = .slice A n c ∧ n ≤ c ∧ c ≤ maxLen ∧ L.length = n ∧ Rd (fun b => b < w.heap.size) w 1 A n (u8s L) ∧ Byt L) :
    Calls Try.prog 6 #[.int .i64 a, .int .u64 k, v] w fun e w' => e = .returned (.bool true) ∧ Below w.heap.size w w' := by
  obtain ⟨A, n, c, L, rfl, hn, hc, -⟩ := o
  exact nil_walk alive_any a k A n c (by omega) w
end Go.Proofs.Ytajoahhjgloefaa
