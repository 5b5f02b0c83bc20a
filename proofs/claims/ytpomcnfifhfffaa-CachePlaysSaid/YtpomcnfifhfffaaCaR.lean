/- The cache's acts opened, with their bytes; CacheFinds' law on them. No condition. -/
import Derived.Test.YtpomcnfifhfffaaCaN
import Derived.Test.YtpomcnfifhfffaaOpenS
namespace Go.Proofs.Ytpomcnfifhfffaa
open Go.RowKit Go.WideShapes Go.ChangeShapes

section
variable {H : Type} {enc : TypeId × Value → H} {w : World}
theorem trod_bytes {fuel : Nat} {v : Value} {y : DataW H × List MemPlace} (h : DataW.trod enc Try.prog w 0 (fun _ => true) true fuel 24 [v] = some y) (hs : Sz Try.prog 24 y.1) :
    ∃ (A : Option Addr) (n c : Nat) (xs : List Int), v = .slice A n c ∧ n ≤ 140737488355328 ∧ Rd (fun b => b < w.heap.size) w 1 A n (u8s xs) ∧ Byt xs := by
  obtain ⟨A, n, c, xs, h1, h2, h3, h4, h5, h6, h7⟩ := trod_ints (k := .u8) Try.underlying24 Try.underlying5 (by kernel_rfl) h hs
  refine ⟨A, n, c, xs, h1, ?_, h6, fun x hx => ?_⟩
  · have hb : Try.prog.bytesOf 5 = 1 := by kernel_rfl
    rw [hb] at h4
    unfold reachBytes at h4
    omega
  · have := bounds_u8 (h7 x hx)
    omega
theorem trod_act {m : Nat} {cs : List Value} {y : DataW H × List MemPlace} (hl : cs.length = 5) (ht : DataW.trod enc Try.prog w 0 (fun _ => true) true m 26 cs = some y) (hz : Sz Try.prog 26 y.1) :
    ∃ a : AB, a.av.cells = cs ∧ a.Good w := by
  match cs, hl with
  | [c0, c1, c2, c3, c4], _ =>
    obtain ⟨_, _, t0, _⟩ := field_s (j := 0) Try.underlying26 ht hz rfl (by kernel_rfl) (by simp)
    obtain ⟨_, _, t1, _⟩ := field_s (j := 1) Try.underlying26 ht hz rfl (by kernel_rfl) (by simp)
    obtain ⟨_, _, t2, z2⟩ := field_s (j := 2) Try.underlying26 ht hz rfl (by kernel_rfl) (by simp)
    obtain ⟨_, _, t3, z3⟩ := field_s (j := 3) Try.underlying26 ht hz rfl (by kernel_rfl) (by simp)
    obtain ⟨_, _, t4, _⟩ := field_s (j := 4) Try.underlying26 ht hz rfl (by kernel_rfl) (by simp)
    obtain ⟨a0, e0, _, g0⟩ := DataW.trod_int Try.underlying23 t0
    obtain ⟨a1, e1, _, g1⟩ := DataW.trod_int Try.underlying23 t1
    obtain ⟨A, n, c, xs, e2, n2, r2, b2⟩ := trod_bytes t2 z2
    obtain ⟨B, k, d, ys, e3, n3, r3, b3⟩ := trod_bytes t3 z3
    obtain ⟨b, e4, _⟩ := DataW.trod_bool Try.underlying4 t4
    simp at e0 e1 e2 e3 e4
    subst e0 e1 e2 e3 e4
    have q0 := bounds_u64 g0
    have q1 := bounds_u64 g1
    have r0 : a0 < 18446744073709551616 := by omega
    have r1 : a1 < 18446744073709551616 := by omega
    exact ⟨⟨⟨a0, a1, A, n, c, B, k, d, b⟩, xs, ys⟩, rfl, ⟨⟨q0.1, r0⟩, ⟨q1.1, r1⟩, r2, r3, b2, b3, n2, n3⟩⟩
theorem open_act_s {r : Reach} {b0 : Nat} {v : Value} {d : DataW H} {p : List MemPlace} (hv : Value.okWide Try.prog w r b0 26 v) (h : DataW.Trod enc Try.prog w 0 (fun _ => true) true 26 v d p) (hz : Sz Try.prog 26 d) :
    ∃ a : AB, v = .agg a.av.cells.toArray ∧ a.Good w := by
  unfold Value.okWide at hv
  rw [Try.underlying26] at hv
  obtain ⟨cs, rfl, hsz, -⟩ := hv
  obtain ⟨m, ht⟩ := h
  replace ht : DataW.trod enc Try.prog w 0 (fun _ => true) true m 26 cs.toList = some (d, p) := ht
  obtain ⟨cs⟩ := cs
  have hl : cs.length = 5 := by
    have : Try.prog.cellsOf 26 = 5 := by kernel_rfl
    simpa [this] using hsz
  obtain ⟨a, ha, hg⟩ := trod_act hl ht hz
  exact ⟨a, by rw [ha], hg⟩
theorem open_acts_s {r : Reach} {b0 : Nat} {v : Value} {d : DataW H} {p : List MemPlace} (hv : Value.okWide Try.prog w r b0 22 v) (h : DataW.Trod enc Try.prog w 0 (fun _ => true) true 22 v d p) (hz : Sz Try.prog 22 d) :
    ∃ (A : Option Addr) (n c : Nat) (L : List AB), v = .slice A n c ∧ n ≤ maxLen ∧ L.length = n ∧ Rd (fun b => b < w.heap.size) w 5 A n ((L.map AB.av).flatMap AV.cells) ∧ ∀ a ∈ L, a.Good w := by
  obtain ⟨a0, n0, c0, rfl⟩ := okWide_slice Try.underlying22 hv
  obtain ⟨fuel, hf⟩ := h
  obtain ⟨A, n, c, L, h1, h2, h3, h4, h5, h6, h7, -⟩ := trod_slk (k := 5) Try.underlying22 (fun a : AB => a.av.cells) (by kernel_rfl) (by omega) (fun a => a.Good w) (fun cs m y hl ht hz => trod_act hl ht hz) hf hz
  refine ⟨A, n, c, L, h1, by omega, h5, ?_, h7⟩
  rwa [show L.flatMap (fun a => a.av.cells) = (L.map AB.av).flatMap AV.cells from by rw [List.flatMap_map]] at h6
end
theorem finds_law {v0 v1 : Value} {w : World} (o0 : ∃ (A : Option Addr) (n c : Nat) (L : List AB), v0 = .slice A n c ∧ n ≤ maxLen ∧ L.length = n ∧ Rd (fun b => b < w.heap.size) w 5 A n ((L.map AB.av).flatMap AV.cells) ∧ ∀ a ∈ L, a.Good w)
    (o1 : ∃ a : AB, v1 = .agg a.av.cells.toArray ∧ a.Good w) : Calls Try.prog 3 #[v0, v1] w fun e w' => e = .returned (.bool true) ∧ Below w.heap.size w w' := by
  obtain ⟨A, n, c, L, rfl, hn, hL, hR, hg⟩ := o0
  obtain ⟨a, rfl, ha⟩ := o1
  exact finds_walk A n c L a w hL hn hR hg ha
end Go.Proofs.Ytpomcnfifhfffaa
