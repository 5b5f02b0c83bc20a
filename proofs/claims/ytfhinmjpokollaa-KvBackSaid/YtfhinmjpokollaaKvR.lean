/- The changes of kv's statements: opened; what Long says of them. No condition. -/
import Derived.Test.YtfhinmjpokollaaKvQ
import Derived.Test.YtfhinmjpokollaaOpenS
import Derived.Test.YtfhinmjpokollaaOpenA
namespace Go.Proofs.Ytfhinmjpokollaa
set_option linter.unusedVariables false
set_option linter.unusedSimpArgs false
set_option linter.constructorNameAsVariable false
open Go.RowKit Go.Maps Go.Sort Go.WideShapes Go.ChangeShapes

/-- A change that was handed in. -/
structure Ch.Good (w : World) (c : Ch) : Prop where
  inn : c.In (fun b => b < w.heap.size) w
  kn : c.k.n ≤ 140737488355328
  vn : c.v.n ≤ 140737488355328
theorem Ch.Good.new {w w' : World} {c : Ch} (h : c.Good w) (hN : New w w') : c.Good w' := ⟨Ch.In.szs (h.inn.new hN), h.kn, h.vn⟩
section
variable {H : Type} {enc : TypeId × Value → H} {w : World}
theorem trod_ch {m : Nat} {cs : List Value} {y : DataW H × List MemPlace} (hl : cs.length = 3) (ht : DataW.trod enc Try.prog w 0 (fun _ => true) true m 41 cs = some y) (hz : Sz Try.prog 41 y.1) :
    ∃ a : Ch, a.cells = cs ∧ a.Good w := by
  match cs, hl with
  | [c0, c1, c2], _ =>
    obtain ⟨_, _, t0, z0⟩ := field_s (j := 0) Try.underlying41 ht hz rfl (by kernel_rfl) (by simp)
    obtain ⟨_, _, t1, z1⟩ := field_s (j := 1) Try.underlying41 ht hz rfl (by kernel_rfl) (by simp)
    obtain ⟨_, _, t2, _⟩ := field_s (j := 2) Try.underlying41 ht hz rfl (by kernel_rfl) (by simp)
    obtain ⟨A, n, c, xs, e0, h2, h3, h4, h5, h6, h7⟩ := trod_ints (k := .u8) Try.underlying39 Try.underlying5 (by kernel_rfl) t0 z0
    obtain ⟨B, m, d, ys, e1, k2, k3, k4, k5, k6, k7⟩ := trod_ints (k := .u8) Try.underlying39 Try.underlying5 (by kernel_rfl) t1 z1
    obtain ⟨b, e2, _⟩ := DataW.trod_bool Try.underlying4 t2
    simp at e0 e1 e2
    subst e0 e1 e2
    have hb : Try.prog.bytesOf 5 = 1 := by kernel_rfl
    rw [hb] at h4 k4
    unfold reachBytes at h4 k4
    refine ⟨⟨⟨A, n, c, xs⟩, ⟨B, m, d, ys⟩, b⟩, rfl, ⟨⟨h6, fun x hx => ?_⟩, ⟨k6, fun x hx => ?_⟩⟩, ?_, ?_⟩
    · have := bounds_u8 (h7 x hx)
      omega
    · have := bounds_u8 (k7 x hx)
      omega
    · show n ≤ _
      omega
    · show m ≤ _
      omega
theorem open_chs {m : Nat} {v : Value} {y : DataW H × List MemPlace} (h : DataW.trod enc Try.prog w 0 (fun _ => true) true m 28 [v] = some y) (hz : Sz Try.prog 28 y.1) :
    ∃ (A : Option Addr) (n c : Nat) (L : List Ch), v = .slice A n c ∧ n ≤ maxLen ∧ L.length = n ∧ Rd (fun b => b < w.heap.size) w 3 A n (L.flatMap Ch.cells) ∧ ∀ a ∈ L, a.Good w := by
  obtain ⟨A, n, c, L, h1, h2, h3, h4, h5, h6, h7, -⟩ := trod_slk (k := 3) Try.underlying28 Ch.cells (by kernel_rfl) (by omega) (fun a => a.Good w) (fun cs m y hl ht hz => trod_ch hl ht hz) h hz
  exact ⟨A, n, c, L, h1, by omega, h5, h6, h7⟩
/-- A slice of changes that was handed in. -/
structure Sl where
  A : Option Addr
  n : Nat
  c : Nat
  L : List Ch
structure Sl.Good (w : World) (x : Sl) : Prop where
  nn : x.n ≤ maxLen
  tb : RTb w x.A x.n x.L
  gd : ∀ a ∈ x.L, a.Good w
theorem Sl.Good.new {w w' : World} {c : Sl} (h : c.Good w) (hN : New w w') : c.Good w' := ⟨h.nn, h.tb.new hN, fun a ha => (h.gd a ha).new hN⟩
def Sl.cells (x : Sl) : List Value := [.slice x.A x.n x.c]
set_option maxRecDepth 100000 in
theorem open_sl {r : Reach} {b0 : Nat} {v : Value} {d : DataW H} {p : List MemPlace} (hv : Value.okWide Try.prog w r b0 28 v) (h : DataW.Trod enc Try.prog w 0 (fun _ => true) true 28 v d p) (hz : Sz Try.prog 28 d) :
    ∃ x : Sl, v = .slice x.A x.n x.c ∧ x.Good w := by
  obtain ⟨a0, n0, c0, rfl⟩ := okWide_slice Try.underlying28 hv
  obtain ⟨fuel, hf⟩ := h
  obtain ⟨A, n, c, L, h1, h2, h3, h4, h5⟩ := open_chs hf hz
  exact ⟨⟨A, n, c, L⟩, h1, h2, ⟨h4, h3, fun a ha => (h5 a ha).inn⟩, h5⟩
set_option maxRecDepth 100000 in
theorem open_sls {r : Reach} {b0 : Nat} {v : Value} {d : DataW H} {p : List MemPlace} (hv : Value.okWide Try.prog w r b0 22 v) (h : DataW.Trod enc Try.prog w 0 (fun _ => true) true 22 v d p) (hz : Sz Try.prog 22 d) :
    ∃ (A : Option Addr) (n c : Nat) (L : List Sl), v = .slice A n c ∧ n ≤ maxLen ∧ L.length = n ∧ Rd (fun b => b < w.heap.size) w 1 A n (L.flatMap Sl.cells) ∧ ∀ a ∈ L, a.Good w := by
  obtain ⟨a0, n0, c0, rfl⟩ := okWide_slice Try.underlying22 hv
  obtain ⟨fuel, hf⟩ := h
  obtain ⟨A, n, c, L, h1, h2, h3, h4, h5, h6, h7, -⟩ := trod_slk (k := 1) Try.underlying22 Sl.cells (by kernel_rfl) (by omega) (fun a => a.Good w) (fun cs m y hl ht hz => by
    match cs, hl with
    | [c0], _ =>
      obtain ⟨A, n, c, L, e, h2, h3, h4, h5⟩ := open_chs ht hz
      exact ⟨⟨A, n, c, L⟩, by rw [e]; rfl, h2, ⟨h4, h3, fun a ha => (h5 a ha).inn⟩, h5⟩) hf hz
  exact ⟨A, n, c, L, h1, by omega, h5, h6, h7⟩
end
def chSum (L : List Ch) : Nat := (L.map fun c => c.k.n + c.v.n).sum
theorem chSum_take {L : List Ch} {k : Nat} (h : k < L.length) : chSum (L.take (k + 1)) = chSum (L.take k) + (L[k].k.n + L[k].v.n) := by
  unfold chSum
  rw [List.take_succ_eq_append_getElem h, List.map_append, List.sum_append]
  simp only [List.map_cons, List.map_nil, List.sum_cons, List.sum_nil, Nat.add_zero]
theorem chSum_le {L : List Ch} (h : ∀ c ∈ L, c.k.n ≤ 140737488355328 ∧ c.v.n ≤ 140737488355328) (k : Nat) (hk : k ≤ L.length) : chSum (L.take k) ≤ k * 281474976710656 := by
  induction k with
  | zero => simp [chSum]
  | succ k ih =>
    rw [chSum_take (by omega)]
    have := h L[k] (List.getElem_mem _)
    have := ih (by omega)
    omega
theorem chSum_mem {L : List Ch} {c : Ch} (h : c ∈ L) : c.k.n + c.v.n ≤ chSum L := by
  unfold chSum
  induction L with
  | nil => cases h
  | cons x L ih =>
    rw [List.map_cons, List.sum_cons]
    rcases List.mem_cons.1 h with rfl | h
    · omega
    · have := ih h
      omega
/-- What Long says. -/
def LongSays (L : List Ch) (e : Ending) : Prop := ∃ b, e = .returned (.bool b) ∧ (b = false → L.length ≤ 700 ∧ chSum L ≤ 20000)
set_option maxHeartbeats 2000000 in
set_option maxRecDepth 100000 in
theorem long_any (A : Option Addr) (n c : Nat) (L : List Ch) (w : World) (h : RTb w A n L) (hn : n ≤ maxLen) (hb : ∀ c ∈ L, c.k.n ≤ 140737488355328 ∧ c.v.n ≤ 140737488355328) :
    Calls Try.prog 10 #[.slice A n c] w fun e w' => LongSays L e ∧ New w w' := by
  have H := Lib.hid h
  have HB := Lib.hid hb
  unfold maxLen at hn
  clear h hb
  by_cases hbig : n ≤ 700
  · go_enter Try.func10, Try.ntmps10
    go_wp2_with fail
    go_loopw [3, 8] (fun s i wr => ∃ (j : Nat), j ≤ n ∧ i = .int .i64 j ∧ s = .int .i64 (chSum (L.take j)) ∧ Hid (New w wr)) (fun s i _ => n - (intOf i).toNat)
    case atStart => exact ⟨0, Nat.zero_le _, rfl, by simp [chSum], Lib.hid (New.refl w)⟩
    case round =>
      obtain ⟨j, hj, rfl, rfl, HN⟩ := hrel
      have hle := chSum_le HB.out j (by rw [H.out.len]; exact hj)
      by_cases hlt : j < n
      · as_aux_lemma =>
        obtain ⟨g, o, hl, rfl, -, -, hrg⟩ := rd_row (f := Ch.cells) (L := L) (fun _ => rfl) (by omega) (HN.out.rd H.out.rd) hlt
        have c0 : wr.cell? ⟨g, o + j * 3, none⟩ = some (.slice L[j].k.A L[j].k.n L[j].k.c) := hrg 0 _ rfl
        have c1 : wr.cell? ⟨g, o + j * 3 + 1, none⟩ = some (.slice L[j].v.A L[j].v.n L[j].v.c) := hrg 1 _ rfl
        have c2 : wr.cell? ⟨g, o + j * 3 + 2, none⟩ = some (.bool L[j].d) := hrg 2 _ rfl
        have hbd := HB.out L[j] (List.getElem_mem _)
        have hst := chSum_take hl
        generalize L[j] = x at c0 c1 c2 hbd hst
        generalize chSum (L.take j) = s at hst hle ⊢
        obtain ⟨⟨kA, kn, kc, ks⟩, ⟨vA, vn, vc, vs⟩, d⟩ := x
        dsimp only at c0 c1 c2 hbd hst
        have HST := Lib.hid hst
        obtain ⟨hb1, hb2⟩ := hbd
        have hs : s ≤ 197032483697459200 := by omega
        have hj0 : (0 : Int) ≤ (j : Int) := by omega
        have hjn : (j : Int) < (n : Int) := by omega
        have HN1 := fun (o : Obj) => Lib.hid (New.al HN.out o)
        clear hrg hl hst hle
        go_wp2_with fail
        go_roundw
        case rel =>
          refine ⟨j + 1, by omega, by go_num, ?_, HN1 _⟩
          rw [HST.out]
          go_num
        case measure => simp [intOf]; omega
      · as_aux_lemma =>
        obtain rfl : j = n := by omega
        have ht : L.take j = L := by rw [← H.out.len, List.take_length]
        rw [ht] at hle ⊢
        have HL : Hid (L.length = j) := Lib.hid H.out.len
        obtain ⟨s, hs⟩ : ∃ s, s = chSum L := ⟨_, rfl⟩
        rw [← hs] at hle ⊢
        have HS := Lib.hid hs
        clear hs ht
        have hs7 : s ≤ 197032483697459200 := by omega
        go_wp2_with fail
        all_goals
          go_ret
          refine ⟨⟨_, rfl, fun h => ?_⟩, HN.out⟩
          first
            | (cases h; done)
            | (rw [HL.out, ← HS.out]
               exact ⟨hbig, by omega⟩)
  · have hn7 : 700 < n := by omega
    clear hbig
    go_enter Try.func10, Try.ntmps10
    go_wp2_with fail
    go_loopw [3, 8] (fun s i wr => ∃ (j : Nat) (v : Int), j ≤ n ∧ i = .int .i64 j ∧ s = .int .i64 v ∧ Hid (New w wr)) (fun s i _ => n - (intOf i).toNat)
    case atStart => exact ⟨0, 0, Nat.zero_le _, rfl, rfl, Lib.hid (New.refl w)⟩
    case round =>
      obtain ⟨j, v, hj, rfl, rfl, HN⟩ := hrel
      by_cases hlt : j < n
      · as_aux_lemma =>
        obtain ⟨g, o, hl, rfl, -, -, hrg⟩ := rd_row (f := Ch.cells) (L := L) (fun _ => rfl) (by omega) (HN.out.rd H.out.rd) hlt
        have c0 : wr.cell? ⟨g, o + j * 3, none⟩ = some (.slice L[j].k.A L[j].k.n L[j].k.c) := hrg 0 _ rfl
        have c1 : wr.cell? ⟨g, o + j * 3 + 1, none⟩ = some (.slice L[j].v.A L[j].v.n L[j].v.c) := hrg 1 _ rfl
        have c2 : wr.cell? ⟨g, o + j * 3 + 2, none⟩ = some (.bool L[j].d) := hrg 2 _ rfl
        have hbd := HB.out L[j] (List.getElem_mem _)
        generalize L[j] = x at c0 c1 c2 hbd
        obtain ⟨⟨kA, kn, kc, ks⟩, ⟨vA, vn, vc, vs⟩, d⟩ := x
        dsimp only at c0 c1 c2 hbd
        obtain ⟨hb1, hb2⟩ := hbd
        have hj0 : (0 : Int) ≤ (j : Int) := by omega
        have hjn : (j : Int) < (n : Int) := by omega
        have HN1 := fun (o : Obj) => Lib.hid (New.al HN.out o)
        clear hrg hl
        go_wp2_with fail
        go_roundw
        case rel => exact ⟨j + 1, _, by omega, by go_num, rfl, HN1 _⟩
        case measure => simp [intOf]; omega
      · as_aux_lemma =>
        obtain rfl : j = n := by omega
        by_cases hv : 20000 < v
        · go_wp2_with fail
          go_ret
          exact ⟨⟨true, rfl, fun h => by cases h⟩, HN.out⟩
        · go_wp2_with fail
          go_ret
          exact ⟨⟨decide (700 < (j : Int)), rfl, fun h => by have := of_decide_eq_false h; omega⟩, HN.out⟩
end Go.Proofs.Ytfhinmjpokollaa
