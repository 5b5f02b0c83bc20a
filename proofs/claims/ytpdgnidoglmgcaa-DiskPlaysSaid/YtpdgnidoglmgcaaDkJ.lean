/- The disk's acts, opened. No condition. -/
import Derived.Test.YtpdgnidoglmgcaaDkI
import Derived.Test.YtpdgnidoglmgcaaOpenS
import Derived.Test.YtpdgnidoglmgcaaOpenA
namespace Go.Proofs.Ytpdgnidoglmgcaa
open Go.RowKit Go.WideShapes Go.ChangeShapes

/-- An act as it lies in memory. -/
structure AC where
  kind : Int
  pos : Int
  s : List Int
  A : Option Addr
  n : Nat
  c : Nat
  keep : List Bool
def AC.cells (a : AC) : List Value := [.int .i64 a.kind, .int .i64 a.pos] ++ u8s a.s ++ [.slice a.A a.n a.c]
structure AC.Good (w : World) (a : AC) : Prop where
  kind : (Lit.int .i64 a.kind).wf = true
  pos : (Lit.int .i64 a.pos).wf = true
  s : SecOk a.s
  n : a.n ≤ maxLen
  rd : Rd (fun b => b < w.heap.size) w 1 a.A a.n (bools a.keep)
theorem AC.len {a : AC} (h : SecOk a.s) : a.cells.length = 67 := by simp [AC.cells, u8s_len, h.1]
theorem AC.one (a : AC) : ∀ u ∈ a.cells, u.oneCell' = true := by
  intro u hu
  simp only [AC.cells, List.mem_append, List.mem_cons, List.not_mem_nil, or_false] at hu
  rcases hu with ((rfl | rfl) | hu) | rfl
  · rfl
  · rfl
  · exact u8s_one _ u hu
  · rfl
theorem AC.at0 (a : AC) : a.cells[0]? = some (.int .i64 a.kind) := rfl
theorem AC.at1 (a : AC) : a.cells[1]? = some (.int .i64 a.pos) := rfl
theorem AC.atS {a : AC} (j : Nat) (u : Value) (h : (u8s a.s)[j]? = some u) : a.cells[2 + j]? = some u := by
  have hj : j < (u8s a.s).length := (List.getElem?_eq_some_iff.1 h).1
  unfold AC.cells
  rw [List.append_assoc, List.getElem?_append_right (by simp), List.getElem?_append_left (by simp; omega)]
  simpa using h
theorem AC.at66 {a : AC} (h : SecOk a.s) : a.cells[66]? = some (.slice a.A a.n a.c) := by
  unfold AC.cells
  rw [List.getElem?_append_right (by simp [u8s_len, h.1])]
  simp [u8s_len, h.1]

section
variable {H : Type} {enc : TypeId × Value → H} {w : World}
theorem trod_secs {m : Nat} {cs : List Value} {y : DataW H × List MemPlace} (hl : cs.length = 64) (ht : DataW.trod enc Try.prog w 0 (fun _ => true) true m 31 cs = some y) : ∃ s, cs = u8s s ∧ SecOk s := by
  obtain ⟨xs, m', _, _, _, hx, hg⟩ := DataW.trod_array Try.underlying31 ht
  have hc : Try.prog.cellsOf 5 = 1 := by kernel_rfl
  have key : ∀ k, k ≤ 64 → ∃ s : List Int, cs.take k = u8s s ∧ Byt s := by
    intro k
    induction k with
    | zero => exact fun _ => ⟨[], rfl, fun x hx => by cases hx⟩
    | succ k ih =>
      intro hk
      obtain ⟨s, hs, hb⟩ := ih (by omega)
      have h1 := hg k (by omega)
      rw [hc, Nat.mul_one] at h1
      have hlt : k < cs.length := by omega
      rw [List.drop_eq_getElem_cons hlt, List.getElem?_eq_getElem (by omega)] at h1
      obtain ⟨a, e, _, g⟩ := DataW.trod_int Try.underlying5 h1
      rw [List.take_succ_cons, List.take_zero] at e
      injection e with e _
      have := bounds_u8 g
      refine ⟨s ++ [a], by rw [List.take_succ_eq_append_getElem hlt, hs, e]; simp [u8s], fun z hz => ?_⟩
      rcases List.mem_append.1 hz with hz | hz
      · exact hb z hz
      · simp at hz; omega
  obtain ⟨s, hs, hb⟩ := key 64 (by omega)
  rw [List.take_of_length_le (by omega)] at hs
  exact ⟨s, hs, by rw [← hl, hs, u8s_len], hb⟩
theorem trod_bools {fuel : Nat} {v : Value} {y : DataW H × List MemPlace} (h : DataW.trod enc Try.prog w 0 (fun _ => true) true fuel 23 [v] = some y) (hs : Sz Try.prog 23 y.1) :
    ∃ (A : Option Addr) (n c : Nat) (xs : List Bool), v = .slice A n c ∧ n ≤ maxLen ∧ Rd (fun b => b < w.heap.size) w 1 A n (bools xs) := by
  obtain ⟨A, n, c, L, h1, h2, h3, h4, h5, h6, h7, -⟩ := trod_slk (k := 1) Try.underlying23 (fun x : Bool => [Value.bool x]) (by kernel_rfl) (by omega) (fun _ => True) (fun cs m y hl ht' _ => by
    obtain ⟨a, rfl, _⟩ := DataW.trod_bool Try.underlying4 ht'
    exact ⟨a, rfl, trivial⟩) h hs
  refine ⟨A, n, c, L, h1, by omega, ?_⟩
  rwa [show L.flatMap (fun x => [Value.bool x]) = bools L from List.map_eq_flatMap.symm] at h6
theorem trod_act {m : Nat} {cs : List Value} {y : DataW H × List MemPlace} (hl : cs.length = 67) (ht : DataW.trod enc Try.prog w 0 (fun _ => true) true m 33 cs = some y) (hz : Sz Try.prog 33 y.1) :
    ∃ a : AC, a.cells = cs ∧ a.Good w := by
  obtain ⟨_, _, t0, _⟩ := field_s (j := 0) Try.underlying33 ht hz rfl (by kernel_rfl) (by simp [hl])
  obtain ⟨_, _, t1, _⟩ := field_s (j := 1) Try.underlying33 ht hz rfl (by kernel_rfl) (by simp [hl])
  obtain ⟨_, _, t3, z3⟩ := field_s (j := 3) Try.underlying33 ht hz rfl (by kernel_rfl) (by simp [hl])
  obtain ⟨xs, n', _, rfl, _, hlen, hg⟩ := DataW.trod_struct Try.underlying33 ht
  have t2 := hg 2 _ rfl
  have hc : Try.prog.cellsOf 31 = 64 := by kernel_rfl
  obtain ⟨x2, hx2⟩ : ∃ x2, xs[2]? = some x2 := ⟨_, List.getElem?_eq_getElem (by rw [hlen]; decide)⟩
  rw [hx2] at t2
  obtain ⟨s, hs, hok⟩ := trod_secs (by simp [hc, hl]) t2
  obtain ⟨a0, e0, _, g0⟩ := DataW.trod_int Try.underlying3 t0
  obtain ⟨a1, e1, _, g1⟩ := DataW.trod_int Try.underlying3 t1
  obtain ⟨A, n, c, keep, e3, hn, hr⟩ := trod_bools t3 z3
  refine ⟨⟨a0, a1, s, A, n, c, keep⟩, ?_, ⟨g0, g1, hok, hn, hr⟩⟩
  have hs' : (cs.drop 2).take (Try.prog.cellsOf 31) = u8s s := hs
  rw [hc] at hs'
  simp at e0 e1 e3
  unfold AC.cells
  apply List.ext_getElem?
  intro i
  by_cases h0 : i = 0
  · subst h0; rw [List.getElem?_eq_getElem (by omega : 0 < cs.length), ← e0]; rfl
  by_cases h1 : i = 1
  · subst h1; rw [List.getElem?_eq_getElem (by omega : 1 < cs.length), ← e1]; rfl
  by_cases h2 : i < 66
  · have hcs : cs[i]? = ((cs.drop 2).take 64)[i - 2]? := by
      rw [List.getElem?_take, if_pos (by omega), List.getElem?_drop]
      congr 1
      omega
    rw [hcs, hs', List.append_assoc, List.getElem?_append_right (by simp; omega), List.getElem?_append_left (by simp [u8s_len, hok.1]; omega)]
    congr 1
  · by_cases h3 : i = 66
    · subst h3
      rw [List.getElem?_append_right (by simp [u8s_len, hok.1]), List.getElem?_eq_getElem (by omega : 66 < cs.length)]
      simp [u8s_len, hok.1]
      exact e3.symm
    · rw [List.getElem?_eq_none (by simp [u8s_len, hok.1]; omega), List.getElem?_eq_none (by omega)]
theorem open_acts {r : Reach} {b0 : Nat} {v : Value} {d : DataW H} {p : List MemPlace} (hv : Value.okWide Try.prog w r b0 22 v) (h : DataW.Trod enc Try.prog w 0 (fun _ => true) true 22 v d p) (hz : Sz Try.prog 22 d) :
    ∃ (A : Option Addr) (n c : Nat) (L : List AC), v = .slice A n c ∧ n ≤ maxLen ∧ L.length = n ∧ Rd (fun b => b < w.heap.size) w 67 A n (L.flatMap AC.cells) ∧ ∀ a ∈ L, a.Good w := by
  obtain ⟨a0, n0, c0, rfl⟩ := okWide_slice Try.underlying22 hv
  obtain ⟨fuel, hf⟩ := h
  obtain ⟨A, n, c, L, h1, h2, h3, h4, h5, h6, h7, -⟩ := trod_slk (k := 67) Try.underlying22 AC.cells (by kernel_rfl) (by omega) (fun a => a.Good w) (fun cs m y hl ht hz => trod_act hl ht hz) hf hz
  exact ⟨A, n, c, L, h1, by omega, h5, h6, h7⟩
theorem open_bools {r : Reach} {b0 : Nat} {v : Value} {d : DataW H} {p : List MemPlace} (hv : Value.okWide Try.prog w r b0 23 v) (h : DataW.Trod enc Try.prog w 0 (fun _ => true) true 23 v d p) (hz : Sz Try.prog 23 d) :
    ∃ (A : Option Addr) (n c : Nat) (xs : List Bool), v = .slice A n c ∧ n ≤ maxLen ∧ Rd (fun b => b < w.heap.size) w 1 A n (bools xs) := by
  obtain ⟨a0, n0, c0, rfl⟩ := okWide_slice Try.underlying23 hv
  obtain ⟨fuel, hf⟩ := h
  exact trod_bools hf hz
end
/-- An act of a script. -/
theorem rd_act {p : Nat → Prop} {w : World} {A : Option Addr} {n : Nat} {L : List AC} (h : Rd p w 67 A n (L.flatMap AC.cells)) (hL : L.length = n) (hg : ∀ a ∈ L, SecOk a.s) {i : Nat} (hi : i < n) :
    ∃ (g o : Nat) (hl : i < L.length), A = some ⟨g, o, none⟩ ∧ g < w.heap.size ∧ w.rangeAt g (o + i * 67) (L[i].cells) := by
  obtain ⟨g, o, hA, hp, hgs, hc⟩ := h.out (by omega) (by omega)
  have hl : i < L.length := by omega
  refine ⟨g, o, hl, hA, hgs, fun j v hv => ?_⟩
  have hj : j < 67 := by
    have := (List.getElem?_eq_some_iff.1 hv).1
    rwa [AC.len (hg _ (List.getElem_mem _))] at this
  have := fm_get AC.cells 67 L i j hl (fun x hx => AC.len (hg x hx)) hj
  rw [Nat.add_assoc]
  exact hc (i * 67 + j) v (by rw [this, hv])
end Go.Proofs.Ytpdgnidoglmgcaa
