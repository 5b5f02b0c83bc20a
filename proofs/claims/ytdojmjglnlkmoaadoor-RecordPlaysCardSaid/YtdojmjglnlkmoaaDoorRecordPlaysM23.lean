/- Texts of one proof, one behind the other: OpenA, DkJ, RcI, RdG. No condition but each one's own. -/
import Derived.Test.YtdojmjglnlkmoaaDoorRecordPlaysM11
import Derived.OpenShut
import Derived.Test.YtdojmjglnlkmoaaDoorRecordPlaysM13
import Derived.Test.YtdojmjglnlkmoaaDoorRecordPlaysM9
/- Arrays and structs that come by value, opened. No condition. -/
namespace Go.Proofs.YtdojmjglnlkmoaaDoor
set_option linter.unusedVariables false
set_option linter.unusedSimpArgs false
set_option linter.constructorNameAsVariable false
open Go.RowKit Go.WideShapes Go.ChangeShapes

section
variable {P : Program} {H : Type} {enc : TypeId × Value → H} {w : World}
theorem okWide_array {r : Reach} {b0 : Nat} {t e : TypeId} {n : Nat} {v : Value} (ht : P.underlying t = some (.array n e)) (h : Value.okWide P w r b0 t v) : ∃ cs : Array Value, v = .agg cs ∧ cs.size = P.cellsOf t := by
  unfold Value.okWide at h
  rw [ht] at h
  obtain ⟨cs, h1, h2, _⟩ := h
  exact ⟨cs, h1, h2⟩
/-- An array of one-cell elements: its cells, each as it reads. -/
theorem open_array {r : Reach} {b0 : Nat} {t e : TypeId} {n : Nat} {v : Value} {d : DataW H} {p : List MemPlace} (ht : P.underlying t = some (.array n e)) (hc : P.cellsOf t = n) (he : P.cellsOf e = 1)
    (hv : Value.okWide P w r b0 t v) (h : DataW.Trod enc P w 0 (fun _ => true) true t v d p) :
    ∃ cs : List Value, v = .agg cs.toArray ∧ cs.length = n ∧ ∀ (i : Nat) (hi : i < cs.length), ∃ m y, DataW.trod enc P w 0 (fun _ => true) true m e [cs[i]] = some y := by
  obtain ⟨a, rfl, hsz⟩ := okWide_array ht hv
  obtain ⟨fuel, hf⟩ := h
  obtain ⟨xs, m, _, _, _, hl, hg⟩ := DataW.trod_array ht hf
  refine ⟨a.toList, by simp, by simp [hsz, hc], fun i hi => ?_⟩
  have hi' : i < n := by simp at hi; omega
  have := hg i hi'
  rw [he, Nat.mul_one] at this
  have hx : i < xs.length := by omega
  rw [List.getElem?_eq_getElem hx, show (Value.agg a).cells.toList = a.toList from rfl, List.drop_eq_getElem_cons hi] at this
  exact ⟨m, _, this⟩
end
end Go.Proofs.YtdojmjglnlkmoaaDoor
/- The disk's acts, opened. No condition. -/
namespace Go.Proofs.YtdojmjglnlkmoaaDoor
set_option linter.unusedVariables false
set_option linter.unusedSimpArgs false
set_option linter.constructorNameAsVariable false
open Go.RowKit Go.WideShapes Go.ChangeShapes

/-- An act as it lies in memory. -/
structure AC where
  kind : Int
  pos : Int
  s : List Int
  A : Option Addr
  n : Nat
  c : Nat
  keep : List Bool
def AC.cells (a : AC) : List Value := [.int .i64 a.kind, .int .i64 a.pos] ++ u8s a.s ++ [.slice a.A a.n a.c]
structure AC.Good (w : World) (a : AC) : Prop where
  kind : (Lit.int .i64 a.kind).wf = true
  pos : (Lit.int .i64 a.pos).wf = true
  s : SecOk a.s
  n : a.n ≤ maxLen
  rd : Rd (fun b => b < w.heap.size) w 1 a.A a.n (bools a.keep)
theorem AC.len {a : AC} (h : SecOk a.s) : a.cells.length = 67 := by simp [AC.cells, u8s_len, h.1]
theorem AC.one (a : AC) : ∀ u ∈ a.cells, u.oneCell' = true := by
  intro u hu
  simp only [AC.cells, List.mem_append, List.mem_cons, List.not_mem_nil, or_false] at hu
  rcases hu with ((rfl | rfl) | hu) | rfl
  · rfl
  · rfl
  · exact u8s_one _ u hu
  · rfl
theorem AC.at0 (a : AC) : a.cells[0]? = some (.int .i64 a.kind) := rfl
theorem AC.at1 (a : AC) : a.cells[1]? = some (.int .i64 a.pos) := rfl
theorem AC.atS {a : AC} (j : Nat) (u : Value) (h : (u8s a.s)[j]? = some u) : a.cells[2 + j]? = some u := by
  have hj : j < (u8s a.s).length := (List.getElem?_eq_some_iff.1 h).1
  unfold AC.cells
  rw [List.append_assoc, List.getElem?_append_right (by simp), List.getElem?_append_left (by simp; omega)]
  simpa using h
theorem AC.at66 {a : AC} (h : SecOk a.s) : a.cells[66]? = some (.slice a.A a.n a.c) := by
  unfold AC.cells
  rw [List.getElem?_append_right (by simp [u8s_len, h.1])]
  simp [u8s_len, h.1]

section
variable {H : Type} {enc : TypeId × Value → H} {w : World}
set_option maxRecDepth 100000 in
theorem trod_secs {m : Nat} {cs : List Value} {y : DataW H × List MemPlace} (hl : cs.length = 64) (ht : DataW.trod enc Tryd.prog w 0 (fun _ => true) true m 23 cs = some y) : ∃ s, cs = u8s s ∧ SecOk s := by
  obtain ⟨xs, m', _, _, _, hx, hg⟩ := DataW.trod_array Tryd.underlying23 ht
  have hc : Tryd.prog.cellsOf 5 = 1 := by kernel_rfl
  have key : ∀ k, k ≤ 64 → ∃ s : List Int, cs.take k = u8s s ∧ Byt s := by
    intro k
    induction k with
    | zero => exact fun _ => ⟨[], rfl, fun x hx => by cases hx⟩
    | succ k ih =>
      intro hk
      obtain ⟨s, hs, hb⟩ := ih (by omega)
      have h1 := hg k (by omega)
      rw [hc, Nat.mul_one] at h1
      have hlt : k < cs.length := by omega
      rw [List.drop_eq_getElem_cons hlt, List.getElem?_eq_getElem (by omega)] at h1
      obtain ⟨a, e, _, g⟩ := DataW.trod_int Tryd.underlying5 h1
      rw [List.take_succ_cons, List.take_zero] at e
      injection e with e _
      have := bounds_u8 g
      refine ⟨s ++ [a], by rw [List.take_succ_eq_append_getElem hlt, hs, e]; simp [u8s], fun z hz => ?_⟩
      rcases List.mem_append.1 hz with hz | hz
      · exact hb z hz
      · simp at hz; omega
  obtain ⟨s, hs, hb⟩ := key 64 (by omega)
  rw [List.take_of_length_le (by omega)] at hs
  exact ⟨s, hs, by rw [← hl, hs, u8s_len], hb⟩
set_option maxRecDepth 100000 in
theorem trod_bools {fuel : Nat} {v : Value} {y : DataW H × List MemPlace} (h : DataW.trod enc Tryd.prog w 0 (fun _ => true) true fuel 72 [v] = some y) (hs : Sz Tryd.prog 72 y.1) :
    ∃ (A : Option Addr) (n c : Nat) (xs : List Bool), v = .slice A n c ∧ n ≤ maxLen ∧ Rd (fun b => b < w.heap.size) w 1 A n (bools xs) := by
  obtain ⟨A, n, c, L, h1, h2, h3, h4, h5, h6, h7, -⟩ := trod_slk (k := 1) Tryd.underlying72 (fun x : Bool => [Value.bool x]) (by kernel_rfl) (by omega) (fun _ => True) (fun cs m y hl ht' _ => by
    obtain ⟨a, rfl, _⟩ := DataW.trod_bool Tryd.underlying4 ht'
    exact ⟨a, rfl, trivial⟩) h hs
  refine ⟨A, n, c, L, h1, by omega, ?_⟩
  rwa [show L.flatMap (fun x => [Value.bool x]) = bools L from List.map_eq_flatMap.symm] at h6
set_option maxRecDepth 100000 in
theorem open_bools {r : Reach} {b0 : Nat} {v : Value} {d : DataW H} {p : List MemPlace} (hv : Value.okWide Tryd.prog w r b0 72 v) (h : DataW.Trod enc Tryd.prog w 0 (fun _ => true) true 72 v d p) (hz : Sz Tryd.prog 72 d) :
    ∃ (A : Option Addr) (n c : Nat) (xs : List Bool), v = .slice A n c ∧ n ≤ maxLen ∧ Rd (fun b => b < w.heap.size) w 1 A n (bools xs) := by
  obtain ⟨a0, n0, c0, rfl⟩ := okWide_slice Tryd.underlying72 hv
  obtain ⟨fuel, hf⟩ := h
  exact trod_bools hf hz
end
/-- An act of a script. -/
theorem rd_act {p : Nat → Prop} {w : World} {A : Option Addr} {n : Nat} {L : List AC} (h : Rd p w 67 A n (L.flatMap AC.cells)) (hL : L.length = n) (hg : ∀ a ∈ L, SecOk a.s) {i : Nat} (hi : i < n) :
    ∃ (g o : Nat) (hl : i < L.length), A = some ⟨g, o, none⟩ ∧ g < w.heap.size ∧ w.rangeAt g (o + i * 67) (L[i].cells) := by
  obtain ⟨g, o, hA, hp, hgs, hc⟩ := h.out (by omega) (by omega)
  have hl : i < L.length := by omega
  refine ⟨g, o, hl, hA, hgs, fun j v hv => ?_⟩
  have hj : j < 67 := by
    have := (List.getElem?_eq_some_iff.1 hv).1
    rwa [AC.len (hg _ (List.getElem_mem _))] at this
  have := fm_get AC.cells 67 L i j hl (fun x hx => AC.len (hg x hx)) hj
  rw [Nat.add_assoc]
  exact hc (i * 67 + j) v (by rw [this, hv])
end Go.Proofs.YtdojmjglnlkmoaaDoor
/- Records that come as arguments, opened. No condition. -/
namespace Go.Proofs.YtdojmjglnlkmoaaDoor
set_option linter.unusedVariables false
set_option linter.unusedSimpArgs false
set_option linter.constructorNameAsVariable false
open Go.RowKit Go.ChangeShapes Go.WideShapes
set_option maxRecDepth 100000

section
variable {H : Type} {enc : TypeId × Value → H} {w : World}

theorem trod_hash {m : Nat} {cs : List Value} {y : DataW H × List MemPlace} (hl : cs.length = 32) (ht : DataW.trod enc Tryd.prog w 0 (fun _ => true) true m 43 cs = some y) : ∃ s, cs = u8s s ∧ s.length = 32 ∧ Byt s := by
  obtain ⟨xs, m', _, _, _, hx, hg⟩ := DataW.trod_array Tryd.underlying43 ht
  have hc : Tryd.prog.cellsOf 5 = 1 := by kernel_rfl
  have key : ∀ k, k ≤ 32 → ∃ s : List Int, cs.take k = u8s s ∧ Byt s := by
    intro k
    induction k with
    | zero => exact fun _ => ⟨[], rfl, fun x hx => by cases hx⟩
    | succ k ih =>
      intro hk
      obtain ⟨s, hs, hb⟩ := ih (by omega)
      have h1 := hg k (by omega)
      rw [hc, Nat.mul_one] at h1
      have hlt : k < cs.length := by omega
      rw [List.drop_eq_getElem_cons hlt, List.getElem?_eq_getElem (by omega)] at h1
      obtain ⟨a, e, _, g⟩ := DataW.trod_int Tryd.underlying5 h1
      rw [List.take_succ_cons, List.take_zero] at e
      injection e with e _
      have := bounds_u8 g
      refine ⟨s ++ [a], by rw [List.take_succ_eq_append_getElem hlt, hs, e]; simp [u8s], fun z hz => ?_⟩
      rcases List.mem_append.1 hz with hz | hz
      · exact hb z hz
      · simp at hz; omega
  obtain ⟨s, hs, hb⟩ := key 32 (by omega)
  rw [List.take_of_length_le (by omega)] at hs
  exact ⟨s, hs, by rw [← hl, hs, u8s_len], hb⟩

theorem trod_rec {m : Nat} {cs : List Value} {y : DataW H × List MemPlace} (hl : cs.length = 37) (ht : DataW.trod enc Tryd.prog w 0 (fun _ => true) true m 48 cs = some y) (hz : Sz Tryd.prog 48 y.1) :
    ∃ r : Rc, r.cells.toList = cs ∧ r.Ok := by
  obtain ⟨_, _, t1, _⟩ := field_s (j := 1) Tryd.underlying48 ht hz rfl (by kernel_rfl) (by simp [hl])
  obtain ⟨_, _, t2, _⟩ := field_s (j := 2) Tryd.underlying48 ht hz rfl (by kernel_rfl) (by simp [hl])
  obtain ⟨_, _, t3, _⟩ := field_s (j := 3) Tryd.underlying48 ht hz rfl (by kernel_rfl) (by simp [hl])
  obtain ⟨_, _, t4, _⟩ := field_s (j := 4) Tryd.underlying48 ht hz rfl (by kernel_rfl) (by simp [hl])
  obtain ⟨_, _, t5, _⟩ := field_s (j := 5) Tryd.underlying48 ht hz rfl (by kernel_rfl) (by simp [hl])
  obtain ⟨xs, n', _, rfl, _, hlen, hg⟩ := DataW.trod_struct Tryd.underlying48 ht
  have t0 := hg 0 _ rfl
  have hc : Tryd.prog.cellsOf 43 = 32 := by kernel_rfl
  obtain ⟨x0, hx0⟩ : ∃ x0, xs[0]? = some x0 := ⟨_, List.getElem?_eq_getElem (by rw [hlen]; decide)⟩
  rw [hx0] at t0
  obtain ⟨s, hs, hsl, hsb⟩ := trod_hash (by simp [hc, hl]) t0
  obtain ⟨a1, e1, _, g1⟩ := DataW.trod_int Tryd.underlying41 t1
  obtain ⟨a2, e2, _, g2⟩ := DataW.trod_int Tryd.underlying41 t2
  obtain ⟨a3, e3, _, g3⟩ := DataW.trod_int Tryd.underlying41 t3
  obtain ⟨a4, e4, _, g4⟩ := DataW.trod_int Tryd.underlying41 t4
  obtain ⟨a5, e5, _, g5⟩ := DataW.trod_int Tryd.underlying41 t5
  have q1 := bounds_u64 g1
  have q2 := bounds_u64 g2
  have q3 := bounds_u64 g3
  have q4 := bounds_u64 g4
  have q5 := bounds_u64 g5
  obtain ⟨b1, rfl⟩ := Int.eq_ofNat_of_zero_le q1.1
  obtain ⟨b2, rfl⟩ := Int.eq_ofNat_of_zero_le q2.1
  obtain ⟨b3, rfl⟩ := Int.eq_ofNat_of_zero_le q3.1
  obtain ⟨b4, rfl⟩ := Int.eq_ofNat_of_zero_le q4.1
  obtain ⟨b5, rfl⟩ := Int.eq_ofNat_of_zero_le q5.1
  have r1 : b1 < 18446744073709551616 := by have := q1.2; omega
  have r2 : b2 < 18446744073709551616 := by have := q2.2; omega
  have r3 : b3 < 18446744073709551616 := by have := q3.2; omega
  have r4 : b4 < 18446744073709551616 := by have := q4.2; omega
  have r5 : b5 < 18446744073709551616 := by have := q5.2; omega
  refine ⟨⟨s, b1, b2, b3, b4, b5⟩, ?_, ⟨hsl, hsb, r1, r2, r3, r4, r5⟩⟩
  have hs' : (cs.drop 0).take (Tryd.prog.cellsOf 43) = u8s s := hs
  rw [hc, List.drop_zero] at hs'
  simp at e1 e2 e3 e4 e5
  show u8s s ++ [Value.int .u64 b1, .int .u64 b2, .int .u64 b3, .int .u64 b4, .int .u64 b5] = cs
  rw [← hs', ← e1, ← e2, ← e3, ← e4, ← e5]
  have d := List.take_append_drop 32 cs
  conv => rhs; rw [← d]
  congr 1
  rw [List.drop_eq_getElem_cons (by omega), List.drop_eq_getElem_cons (by omega), List.drop_eq_getElem_cons (by omega), List.drop_eq_getElem_cons (by omega), List.drop_eq_getElem_cons (by omega), List.drop_of_length_le (by omega)]
theorem open_rec {r : Reach} {b0 : Nat} {v : Value} {d : DataW H} {p : List MemPlace} (hv : Value.okWide Tryd.prog w r b0 48 v) (h : DataW.Trod enc Tryd.prog w 0 (fun _ => true) true 48 v d p) (hz : Sz Tryd.prog 48 d) :
    ∃ r : Rc, v = .agg r.cells ∧ r.Ok := by
  unfold Value.okWide at hv
  rw [Tryd.underlying48] at hv
  obtain ⟨cs, rfl, hsz, -⟩ := hv
  obtain ⟨m, ht⟩ := h
  replace ht : DataW.trod enc Tryd.prog w 0 (fun _ => true) true m 48 cs.toList = some (d, p) := ht
  obtain ⟨cs⟩ := cs
  have hl : cs.length = 37 := by
    have : Tryd.prog.cellsOf 48 = 37 := by kernel_rfl
    simpa [this] using hsz
  obtain ⟨a, ha, hg⟩ := trod_rec hl ht hz
  exact ⟨a, by rw [← ha], hg⟩
theorem open_recs {r : Reach} {b0 : Nat} {v : Value} {d : DataW H} {p : List MemPlace} (hv : Value.okWide Tryd.prog w r b0 65 v) (h : DataW.Trod enc Tryd.prog w 0 (fun _ => true) true 65 v d p) (hz : Sz Tryd.prog 65 d) :
    ∃ (A : Option Addr) (n c : Nat) (L : List Rc), v = .slice A n c ∧ n ≤ maxLen ∧ L.length = n ∧ Rd (fun b => b < w.heap.size) w 37 A n (L.flatMap fun r => r.cells.toList) ∧ ∀ a ∈ L, a.Ok := by
  obtain ⟨a0, n0, c0, rfl⟩ := okWide_slice Tryd.underlying65 hv
  obtain ⟨fuel, hf⟩ := h
  obtain ⟨A, n, c, L, h1, h2, h3, h4, h5, h6, h7, -⟩ := trod_slk (k := 37) Tryd.underlying65 (fun r : Rc => r.cells.toList) (by kernel_rfl) (by omega) (fun a => a.Ok) (fun cs m y hl ht hz => trod_rec hl ht hz) hf hz
  exact ⟨A, n, c, L, h1, by omega, h5, h6, h7⟩
theorem open_five {r : Reach} {b0 : Nat} {v : Value} {d : DataW H} {p : List MemPlace} (hv : Value.okWide Tryd.prog w r b0 66 v) (h : DataW.Trod enc Tryd.prog w 0 (fun _ => true) true 66 v d p) :
    ∃ a b c d e : Int, v = .agg #[.int .i64 a, .int .i64 b, .int .i64 c, .int .i64 d, .int .i64 e] ∧ (Lit.int .i64 a).wf = true ∧ (Lit.int .i64 b).wf = true ∧ (Lit.int .i64 c).wf = true ∧ (Lit.int .i64 d).wf = true ∧ (Lit.int .i64 e).wf = true := by
  obtain ⟨cs, rfl, hl, hg⟩ := open_array Tryd.underlying66 (by kernel_rfl) (by kernel_rfl) hv h
  match cs, hl with
  | [c0, c1, c2, c3, c4], _ =>
    obtain ⟨_, _, t0⟩ := hg 0 (by simp)
    obtain ⟨_, _, t1⟩ := hg 1 (by simp)
    obtain ⟨_, _, t2⟩ := hg 2 (by simp)
    obtain ⟨_, _, t3⟩ := hg 3 (by simp)
    obtain ⟨_, _, t4⟩ := hg 4 (by simp)
    obtain ⟨a0, e0, _, g0⟩ := DataW.trod_int Tryd.underlying3 t0
    obtain ⟨a1, e1, _, g1⟩ := DataW.trod_int Tryd.underlying3 t1
    obtain ⟨a2, e2, _, g2⟩ := DataW.trod_int Tryd.underlying3 t2
    obtain ⟨a3, e3, _, g3⟩ := DataW.trod_int Tryd.underlying3 t3
    obtain ⟨a4, e4, _, g4⟩ := DataW.trod_int Tryd.underlying3 t4
    simp at e0 e1 e2 e3 e4
    subst e0 e1 e2 e3 e4
    exact ⟨a0, a1, a2, a3, a4, rfl, g0, g1, g2, g3, g4⟩
end
/-- A record of a row. -/
theorem rd_rec {p : Nat → Prop} {w : World} {A : Option Addr} {n : Nat} {L : List Rc} (h : Rd p w 37 A n (L.flatMap fun r => r.cells.toList)) (hL : L.length = n) (hg : ∀ a ∈ L, a.Ok) {i : Nat} (hi : i < n) :
    ∃ (g o : Nat) (hl : i < L.length), A = some ⟨g, o, none⟩ ∧ g < w.heap.size ∧ w.rangeAt g (o + i * 37) (L[i].cells.toList) := by
  obtain ⟨g, o, hA, hp, hgs, hc⟩ := h.out (by omega) (by omega)
  have hl : i < L.length := by omega
  have h37 : ∀ x ∈ L, x.cells.toList.length = 37 := fun x hx => by rw [Array.length_toList, Rc.size (hg x hx).len]
  refine ⟨g, o, hl, hA, hgs, fun j v hv => ?_⟩
  have hj : j < 37 := by
    have := (List.getElem?_eq_some_iff.1 hv).1
    rwa [h37 _ (List.getElem_mem _)] at this
  have := fm_get (fun r : Rc => r.cells.toList) 37 L i j hl h37 hj
  rw [Nat.add_assoc]
  exact hc (i * 37 + j) v (by rw [this, hv])
end Go.Proofs.YtdojmjglnlkmoaaDoor
/- The acts of RecordPlays' script, opened. No condition. -/
namespace Go.Proofs.YtdojmjglnlkmoaaDoor
set_option linter.unusedVariables false
set_option linter.unusedSimpArgs false
set_option linter.constructorNameAsVariable false
open Go.RowKit Go.ChangeShapes Go.WideShapes
set_option maxRecDepth 100000

/-- An act in plain words. -/
structure AR where
  kind : Int
  num : Int
  r : Rc
  A : Option Addr
  n : Nat
  c : Nat
  keep : List Bool
def AR.cells (a : AR) : List Value := [.int .i64 a.kind, .int .i64 a.num] ++ a.r.cells.toList ++ [.slice a.A a.n a.c]
structure AR.Good (w : World) (a : AR) : Prop where
  kind : (Lit.int .i64 a.kind).wf = true
  num : (Lit.int .i64 a.num).wf = true
  r : a.r.Ok
  n : a.n ≤ maxLen
  keep : Rd (fun b => b < w.heap.size) w 1 a.A a.n (bools a.keep)
theorem AR.len {a : AR} (h : a.r.Ok) : a.cells.length = 40 := by simp [AR.cells, Rc.size h.len]
theorem AR.one (a : AR) : ∀ u ∈ a.cells, u.oneCell' = true := by
  intro u hu
  unfold AR.cells at hu
  simp only [List.mem_append, List.mem_cons, List.not_mem_nil, or_false] at hu
  rcases hu with ((rfl | rfl) | hu) | rfl
  · rfl
  · rfl
  · have := Array.all_eq_true'.1 (Rc.one a.r) u (by simpa using hu); exact this
  · rfl
theorem AR.at0 (a : AR) : a.cells[0]? = some (.int .i64 a.kind) := rfl
theorem AR.at1 (a : AR) : a.cells[1]? = some (.int .i64 a.num) := rfl
theorem AR.at39 {a : AR} (h : a.r.Ok) : a.cells[39]? = some (.slice a.A a.n a.c) := by
  unfold AR.cells
  rw [List.getElem?_append_right (by simp [Rc.size h.len])]
  simp [Rc.size h.len]
section
variable {H : Type} {enc : TypeId × Value → H} {w : World}
theorem trod_ar {m : Nat} {cs : List Value} {y : DataW H × List MemPlace} (hl : cs.length = 40) (ht : DataW.trod enc Tryd.prog w 0 (fun _ => true) true m 74 cs = some y) (hz : Sz Tryd.prog 74 y.1) :
    ∃ a : AR, a.cells = cs ∧ a.Good w := by
  obtain ⟨_, _, t0, _⟩ := field_s (j := 0) Tryd.underlying74 ht hz rfl (by kernel_rfl) (by simp [hl])
  obtain ⟨_, _, t1, _⟩ := field_s (j := 1) Tryd.underlying74 ht hz rfl (by kernel_rfl) (by simp [hl])
  obtain ⟨_, _, t3, z3⟩ := field_s (j := 3) Tryd.underlying74 ht hz rfl (by kernel_rfl) (by simp [hl])
  obtain ⟨xs, n', _, rfl, _, hlen, hg⟩ := DataW.trod_struct Tryd.underlying74 ht
  have t2 := hg 2 _ rfl
  have hc : Tryd.prog.cellsOf 48 = 37 := by kernel_rfl
  obtain ⟨x2, hx2⟩ : ∃ x2, xs[2]? = some x2 := ⟨_, List.getElem?_eq_getElem (by rw [hlen]; decide)⟩
  rw [hx2] at t2
  have z2 : Sz Tryd.prog 48 x2.1 := hz.struct Tryd.underlying74 (j := 2) rfl (by simp [hx2])
  obtain ⟨r, hr, hok⟩ := trod_rec (by simp [hc, hl]) t2 z2
  obtain ⟨a0, e0, _, g0⟩ := DataW.trod_int Tryd.underlying3 t0
  obtain ⟨a1, e1, _, g1⟩ := DataW.trod_int Tryd.underlying3 t1
  obtain ⟨A, n, c, keep, e3, hn, hrd⟩ := trod_bools t3 z3
  refine ⟨⟨a0, a1, r, A, n, c, keep⟩, ?_, ⟨g0, g1, hok, hn, hrd⟩⟩
  have hs' : r.cells.toList = (cs.drop 2).take (Tryd.prog.cellsOf 48) := hr
  rw [hc] at hs'
  simp at e0 e1 e3
  show [Value.int .i64 a0, .int .i64 a1] ++ r.cells.toList ++ [.slice A n c] = cs
  rw [hs', ← e0, ← e1, ← e3]
  have d1 := List.take_append_drop 37 (cs.drop 2)
  have d0 : cs = cs[0] :: cs[1] :: cs.drop 2 := by
    conv => lhs; rw [← List.drop_zero (l := cs), List.drop_eq_getElem_cons (by omega), List.drop_eq_getElem_cons (by omega)]
  have d2 : (cs.drop 2).drop 37 = [cs[39]] := by
    rw [List.drop_drop, List.drop_eq_getElem_cons (by omega), List.drop_of_length_le (by omega)]
  conv => rhs; rw [d0, ← d1, d2]
  simp
theorem open_ars {r : Reach} {b0 : Nat} {v : Value} {d : DataW H} {p : List MemPlace} (hv : Value.okWide Tryd.prog w r b0 71 v) (h : DataW.Trod enc Tryd.prog w 0 (fun _ => true) true 71 v d p) (hz : Sz Tryd.prog 71 d) :
    ∃ (A : Option Addr) (n c : Nat) (L : List AR), v = .slice A n c ∧ n ≤ maxLen ∧ L.length = n ∧ Rd (fun b => b < w.heap.size) w 40 A n (L.flatMap AR.cells) ∧ ∀ a ∈ L, a.Good w := by
  obtain ⟨a0, n0, c0, rfl⟩ := okWide_slice Tryd.underlying71 hv
  obtain ⟨fuel, hf⟩ := h
  obtain ⟨A, n, c, L, h1, h2, h3, h4, h5, h6, h7, -⟩ := trod_slk (k := 40) Tryd.underlying71 AR.cells (by kernel_rfl) (by omega) (fun a => a.Good w) (fun cs m y hl ht hz => trod_ar hl ht hz) hf hz
  exact ⟨A, n, c, L, h1, by omega, h5, h6, h7⟩
end
theorem rd_ar {p : Nat → Prop} {w : World} {A : Option Addr} {n : Nat} {L : List AR} (h : Rd p w 40 A n (L.flatMap AR.cells)) (hL : L.length = n) (hg : ∀ a ∈ L, a.r.Ok) {i : Nat} (hi : i < n) :
    ∃ (g o : Nat) (hl : i < L.length), A = some ⟨g, o, none⟩ ∧ g < w.heap.size ∧ w.rangeAt g (o + i * 40) (L[i].cells) := by
  obtain ⟨g, o, hA, hp, hgs, hc⟩ := h.out (by omega) (by omega)
  have hl : i < L.length := by omega
  refine ⟨g, o, hl, hA, hgs, fun j v hv => ?_⟩
  have hj : j < 40 := by
    have := (List.getElem?_eq_some_iff.1 hv).1
    rwa [AR.len (hg _ (List.getElem_mem _))] at this
  have := fm_get AR.cells 40 L i j hl (fun x hx => AR.len (hg x hx)) hj
  rw [Nat.add_assoc]
  exact hc (i * 40 + j) v (by rw [this, hv])
end Go.Proofs.YtdojmjglnlkmoaaDoor
