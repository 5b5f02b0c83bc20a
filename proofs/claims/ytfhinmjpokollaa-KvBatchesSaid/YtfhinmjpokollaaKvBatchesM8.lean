/- Texts of one proof, one behind the other: KvR, OcA, Mx, OcW, KvU. No condition but each one's own. -/
import Derived.Test.YtfhinmjpokollaaKvBatchesM7
import Derived.Test.YtfhinmjpokollaaKvBatchesM1
import Derived.Test.YtfhinmjpokollaaKvBatchesM4
import Derived.Lib.Hide
import Derived.Test.YtfhinmjpokollaaKvBatchesM3
import Derived.IntWalk
import Derived.Test.YtfhinmjpokollaaKvBatchesM2
/- The changes of kv's statements: opened; what Long says of them. No condition. -/
namespace Go.Proofs.Ytfhinmjpokollaa
set_option linter.unusedVariables false
set_option linter.unusedSimpArgs false
set_option linter.constructorNameAsVariable false
open Go.RowKit Go.Maps Go.Sort Go.WideShapes Go.ChangeShapes

/-- A change that was handed in. -/
structure Ch.Good (w : World) (c : Ch) : Prop where
  inn : c.In (fun b => b < w.heap.size) w
  kn : c.k.n ≤ 140737488355328
  vn : c.v.n ≤ 140737488355328
theorem Ch.Good.new {w w' : World} {c : Ch} (h : c.Good w) (hN : New w w') : c.Good w' := ⟨Ch.In.szs (h.inn.new hN), h.kn, h.vn⟩
section
variable {H : Type} {enc : TypeId × Value → H} {w : World}
theorem trod_ch {m : Nat} {cs : List Value} {y : DataW H × List MemPlace} (hl : cs.length = 3) (ht : DataW.trod enc Try.prog w 0 (fun _ => true) true m 41 cs = some y) (hz : Sz Try.prog 41 y.1) :
    ∃ a : Ch, a.cells = cs ∧ a.Good w := by
  match cs, hl with
  | [c0, c1, c2], _ =>
    obtain ⟨_, _, t0, z0⟩ := field_s (j := 0) Try.underlying41 ht hz rfl (by kernel_rfl) (by simp)
    obtain ⟨_, _, t1, z1⟩ := field_s (j := 1) Try.underlying41 ht hz rfl (by kernel_rfl) (by simp)
    obtain ⟨_, _, t2, _⟩ := field_s (j := 2) Try.underlying41 ht hz rfl (by kernel_rfl) (by simp)
    obtain ⟨A, n, c, xs, e0, h2, h3, h4, h5, h6, h7⟩ := trod_ints (k := .u8) Try.underlying39 Try.underlying5 (by kernel_rfl) t0 z0
    obtain ⟨B, m, d, ys, e1, k2, k3, k4, k5, k6, k7⟩ := trod_ints (k := .u8) Try.underlying39 Try.underlying5 (by kernel_rfl) t1 z1
    obtain ⟨b, e2, _⟩ := DataW.trod_bool Try.underlying4 t2
    simp at e0 e1 e2
    subst e0 e1 e2
    have hb : Try.prog.bytesOf 5 = 1 := by kernel_rfl
    rw [hb] at h4 k4
    unfold reachBytes at h4 k4
    refine ⟨⟨⟨A, n, c, xs⟩, ⟨B, m, d, ys⟩, b⟩, rfl, ⟨⟨h6, fun x hx => ?_⟩, ⟨k6, fun x hx => ?_⟩⟩, ?_, ?_⟩
    · have := bounds_u8 (h7 x hx)
      omega
    · have := bounds_u8 (k7 x hx)
      omega
    · show n ≤ _
      omega
    · show m ≤ _
      omega
theorem open_chs {m : Nat} {v : Value} {y : DataW H × List MemPlace} (h : DataW.trod enc Try.prog w 0 (fun _ => true) true m 28 [v] = some y) (hz : Sz Try.prog 28 y.1) :
    ∃ (A : Option Addr) (n c : Nat) (L : List Ch), v = .slice A n c ∧ n ≤ maxLen ∧ L.length = n ∧ Rd (fun b => b < w.heap.size) w 3 A n (L.flatMap Ch.cells) ∧ ∀ a ∈ L, a.Good w := by
  obtain ⟨A, n, c, L, h1, h2, h3, h4, h5, h6, h7, -⟩ := trod_slk (k := 3) Try.underlying28 Ch.cells (by kernel_rfl) (by omega) (fun a => a.Good w) (fun cs m y hl ht hz => trod_ch hl ht hz) h hz
  exact ⟨A, n, c, L, h1, by omega, h5, h6, h7⟩
/-- A slice of changes that was handed in. -/
structure Sl where
  A : Option Addr
  n : Nat
  c : Nat
  L : List Ch
structure Sl.Good (w : World) (x : Sl) : Prop where
  nn : x.n ≤ maxLen
  tb : RTb w x.A x.n x.L
  gd : ∀ a ∈ x.L, a.Good w
theorem Sl.Good.new {w w' : World} {c : Sl} (h : c.Good w) (hN : New w w') : c.Good w' := ⟨h.nn, h.tb.new hN, fun a ha => (h.gd a ha).new hN⟩
def Sl.cells (x : Sl) : List Value := [.slice x.A x.n x.c]
set_option maxRecDepth 100000 in
theorem open_sl {r : Reach} {b0 : Nat} {v : Value} {d : DataW H} {p : List MemPlace} (hv : Value.okWide Try.prog w r b0 28 v) (h : DataW.Trod enc Try.prog w 0 (fun _ => true) true 28 v d p) (hz : Sz Try.prog 28 d) :
    ∃ x : Sl, v = .slice x.A x.n x.c ∧ x.Good w := by
  obtain ⟨a0, n0, c0, rfl⟩ := okWide_slice Try.underlying28 hv
  obtain ⟨fuel, hf⟩ := h
  obtain ⟨A, n, c, L, h1, h2, h3, h4, h5⟩ := open_chs hf hz
  exact ⟨⟨A, n, c, L⟩, h1, h2, ⟨h4, h3, fun a ha => (h5 a ha).inn⟩, h5⟩
set_option maxRecDepth 100000 in
theorem open_sls {r : Reach} {b0 : Nat} {v : Value} {d : DataW H} {p : List MemPlace} (hv : Value.okWide Try.prog w r b0 22 v) (h : DataW.Trod enc Try.prog w 0 (fun _ => true) true 22 v d p) (hz : Sz Try.prog 22 d) :
    ∃ (A : Option Addr) (n c : Nat) (L : List Sl), v = .slice A n c ∧ n ≤ maxLen ∧ L.length = n ∧ Rd (fun b => b < w.heap.size) w 1 A n (L.flatMap Sl.cells) ∧ ∀ a ∈ L, a.Good w := by
  obtain ⟨a0, n0, c0, rfl⟩ := okWide_slice Try.underlying22 hv
  obtain ⟨fuel, hf⟩ := h
  obtain ⟨A, n, c, L, h1, h2, h3, h4, h5, h6, h7, -⟩ := trod_slk (k := 1) Try.underlying22 Sl.cells (by kernel_rfl) (by omega) (fun a => a.Good w) (fun cs m y hl ht hz => by
    match cs, hl with
    | [c0], _ =>
      obtain ⟨A, n, c, L, e, h2, h3, h4, h5⟩ := open_chs ht hz
      exact ⟨⟨A, n, c, L⟩, by rw [e]; rfl, h2, ⟨h4, h3, fun a ha => (h5 a ha).inn⟩, h5⟩) hf hz
  exact ⟨A, n, c, L, h1, by omega, h5, h6, h7⟩
end
def chSum (L : List Ch) : Nat := (L.map fun c => c.k.n + c.v.n).sum
theorem chSum_take {L : List Ch} {k : Nat} (h : k < L.length) : chSum (L.take (k + 1)) = chSum (L.take k) + (L[k].k.n + L[k].v.n) := by
  unfold chSum
  rw [List.take_succ_eq_append_getElem h, List.map_append, List.sum_append]
  simp only [List.map_cons, List.map_nil, List.sum_cons, List.sum_nil, Nat.add_zero]
theorem chSum_le {L : List Ch} (h : ∀ c ∈ L, c.k.n ≤ 140737488355328 ∧ c.v.n ≤ 140737488355328) (k : Nat) (hk : k ≤ L.length) : chSum (L.take k) ≤ k * 281474976710656 := by
  induction k with
  | zero => simp [chSum]
  | succ k ih =>
    rw [chSum_take (by omega)]
    have := h L[k] (List.getElem_mem _)
    have := ih (by omega)
    omega
theorem chSum_mem {L : List Ch} {c : Ch} (h : c ∈ L) : c.k.n + c.v.n ≤ chSum L := by
  unfold chSum
  induction L with
  | nil => cases h
  | cons x L ih =>
    rw [List.map_cons, List.sum_cons]
    rcases List.mem_cons.1 h with rfl | h
    · omega
    · have := ih h
      omega
/-- What Long says. -/
def LongSays (L : List Ch) (e : Ending) : Prop := ∃ b, e = .returned (.bool b) ∧ (b = false → L.length ≤ 700 ∧ chSum L ≤ 20000)
set_option maxHeartbeats 2000000 in
set_option maxRecDepth 100000 in
theorem long_any (A : Option Addr) (n c : Nat) (L : List Ch) (w : World) (h : RTb w A n L) (hn : n ≤ maxLen) (hb : ∀ c ∈ L, c.k.n ≤ 140737488355328 ∧ c.v.n ≤ 140737488355328) :
    Calls Try.prog 10 #[.slice A n c] w fun e w' => LongSays L e ∧ New w w' := by
  have H := Lib.hid h
  have HB := Lib.hid hb
  unfold maxLen at hn
  clear h hb
  by_cases hbig : n ≤ 700
  · go_enter Try.func10, Try.ntmps10
    go_wp2_with fail
    go_loopw [3, 8] (fun s i wr => ∃ (j : Nat), j ≤ n ∧ i = .int .i64 j ∧ s = .int .i64 (chSum (L.take j)) ∧ Hid (New w wr)) (fun s i _ => n - (intOf i).toNat)
    case atStart => exact ⟨0, Nat.zero_le _, rfl, by simp [chSum], Lib.hid (New.refl w)⟩
    case round =>
      obtain ⟨j, hj, rfl, rfl, HN⟩ := hrel
      have hle := chSum_le HB.out j (by rw [H.out.len]; exact hj)
      by_cases hlt : j < n
      · as_aux_lemma =>
        obtain ⟨g, o, hl, rfl, -, -, hrg⟩ := rd_row (f := Ch.cells) (L := L) (fun _ => rfl) (by omega) (HN.out.rd H.out.rd) hlt
        have c0 : wr.cell? ⟨g, o + j * 3, none⟩ = some (.slice L[j].k.A L[j].k.n L[j].k.c) := hrg 0 _ rfl
        have c1 : wr.cell? ⟨g, o + j * 3 + 1, none⟩ = some (.slice L[j].v.A L[j].v.n L[j].v.c) := hrg 1 _ rfl
        have c2 : wr.cell? ⟨g, o + j * 3 + 2, none⟩ = some (.bool L[j].d) := hrg 2 _ rfl
        have hbd := HB.out L[j] (List.getElem_mem _)
        have hst := chSum_take hl
        generalize L[j] = x at c0 c1 c2 hbd hst
        generalize chSum (L.take j) = s at hst hle ⊢
        obtain ⟨⟨kA, kn, kc, ks⟩, ⟨vA, vn, vc, vs⟩, d⟩ := x
        dsimp only at c0 c1 c2 hbd hst
        have HST := Lib.hid hst
        obtain ⟨hb1, hb2⟩ := hbd
        have hs : s ≤ 197032483697459200 := by omega
        have hj0 : (0 : Int) ≤ (j : Int) := by omega
        have hjn : (j : Int) < (n : Int) := by omega
        have HN1 := fun (o : Obj) => Lib.hid (New.al HN.out o)
        clear hrg hl hst hle
        go_wp2_with fail
        go_roundw
        case rel =>
          refine ⟨j + 1, by omega, by go_num, ?_, HN1 _⟩
          rw [HST.out]
          go_num
        case measure => simp [intOf]; omega
      · as_aux_lemma =>
        obtain rfl : j = n := by omega
        have ht : L.take j = L := by rw [← H.out.len, List.take_length]
        rw [ht] at hle ⊢
        have HL : Hid (L.length = j) := Lib.hid H.out.len
        obtain ⟨s, hs⟩ : ∃ s, s = chSum L := ⟨_, rfl⟩
        rw [← hs] at hle ⊢
        have HS := Lib.hid hs
        clear hs ht
        have hs7 : s ≤ 197032483697459200 := by omega
        go_wp2_with fail
        all_goals
          go_ret
          refine ⟨⟨_, rfl, fun h => ?_⟩, HN.out⟩
          first
            | (cases h; done)
            | (rw [HL.out, ← HS.out]
               exact ⟨hbig, by omega⟩)
  · have hn7 : 700 < n := by omega
    clear hbig
    go_enter Try.func10, Try.ntmps10
    go_wp2_with fail
    go_loopw [3, 8] (fun s i wr => ∃ (j : Nat) (v : Int), j ≤ n ∧ i = .int .i64 j ∧ s = .int .i64 v ∧ Hid (New w wr)) (fun s i _ => n - (intOf i).toNat)
    case atStart => exact ⟨0, 0, Nat.zero_le _, rfl, rfl, Lib.hid (New.refl w)⟩
    case round =>
      obtain ⟨j, v, hj, rfl, rfl, HN⟩ := hrel
      by_cases hlt : j < n
      · as_aux_lemma =>
        obtain ⟨g, o, hl, rfl, -, -, hrg⟩ := rd_row (f := Ch.cells) (L := L) (fun _ => rfl) (by omega) (HN.out.rd H.out.rd) hlt
        have c0 : wr.cell? ⟨g, o + j * 3, none⟩ = some (.slice L[j].k.A L[j].k.n L[j].k.c) := hrg 0 _ rfl
        have c1 : wr.cell? ⟨g, o + j * 3 + 1, none⟩ = some (.slice L[j].v.A L[j].v.n L[j].v.c) := hrg 1 _ rfl
        have c2 : wr.cell? ⟨g, o + j * 3 + 2, none⟩ = some (.bool L[j].d) := hrg 2 _ rfl
        have hbd := HB.out L[j] (List.getElem_mem _)
        generalize L[j] = x at c0 c1 c2 hbd
        obtain ⟨⟨kA, kn, kc, ks⟩, ⟨vA, vn, vc, vs⟩, d⟩ := x
        dsimp only at c0 c1 c2 hbd
        obtain ⟨hb1, hb2⟩ := hbd
        have hj0 : (0 : Int) ≤ (j : Int) := by omega
        have hjn : (j : Int) < (n : Int) := by omega
        have HN1 := fun (o : Obj) => Lib.hid (New.al HN.out o)
        clear hrg hl
        go_wp2_with fail
        go_roundw
        case rel => exact ⟨j + 1, _, by omega, by go_num, rfl, HN1 _⟩
        case measure => simp [intOf]; omega
      · as_aux_lemma =>
        obtain rfl : j = n := by omega
        by_cases hv : 20000 < v
        · go_wp2_with fail
          go_ret
          exact ⟨⟨true, rfl, fun h => by cases h⟩, HN.out⟩
        · go_wp2_with fail
          go_ret
          exact ⟨⟨decide (700 < (j : Int)), rfl, fun h => by have := of_decide_eq_false h; omega⟩, HN.out⟩
end Go.Proofs.Ytfhinmjpokollaa
/- Numbers as bytes, the highest first, and back: plain words for the octets of both sides. No condition. -/
namespace Go.Proofs.Ytfhinmjpokollaa
set_option linter.unusedVariables false
set_option linter.unusedSimpArgs false
set_option linter.constructorNameAsVariable false

/-- A number's byte at place i from the end. -/
def byteAt (n i : Nat) : Nat := n / 256 ^ i % 256
/-- A number's bytes, so many, the highest first. -/
def beL (size n : Nat) : List Int := (List.range size).map fun j => ((byteAt n (size - 1 - j) : Nat) : Int)
theorem beL_len (size n : Nat) : (beL size n).length = size := by simp [beL]
theorem byteAt_lt (n i : Nat) : byteAt n i < 256 := Nat.mod_lt _ (by decide)
theorem beL_byt (size n : Nat) : ∀ x ∈ beL size n, 0 ≤ x ∧ x < 256 := by
  intro x hx
  obtain ⟨j, _, rfl⟩ := List.mem_map.1 hx
  have := byteAt_lt n (size - 1 - j)
  omega
theorem beL_zero (n : Nat) : beL 0 n = [] := rfl
theorem beL_succ (size n : Nat) : beL (size + 1) n = beL size (n / 256) ++ [((n % 256 : Nat) : Int)] := by
  unfold beL
  rw [List.range_succ, List.map_append, List.map_singleton]
  congr 1
  · refine List.map_congr_left fun j hj => ?_
    have hj := List.mem_range.1 hj
    have e : size + 1 - 1 - j = (size - 1 - j) + 1 := by omega
    rw [e]
    unfold byteAt
    rw [Nat.pow_succ, Nat.mul_comm, ← Nat.div_div_eq_div_mul]
  · simp [byteAt]
theorem beL_cons (size n : Nat) : beL (size + 1) n = ((byteAt n size : Nat) : Int) :: beL size n := by
  unfold beL
  rw [List.range_succ_eq_map, List.map_cons, List.map_map]
  congr 1
  refine List.map_congr_left fun j hj => ?_
  have hj := List.mem_range.1 hj
  show ((byteAt n (size + 1 - 1 - (j + 1)) : Nat) : Int) = _
  rw [show size + 1 - 1 - (j + 1) = size - 1 - j by omega]
theorem beL_get (size n j : Nat) (h : j < (beL size n).length) : (beL size n)[j] = ((byteAt n (size - 1 - j) : Nat) : Int) := by simp [beL]
/-- What has been written when places size - 1 .. i are done. -/
theorem beL_take (size n i : Nat) (hi : i < size) : (beL size n).take (size - i) = (beL size n).take (size - (i + 1)) ++ [((byteAt n i : Nat) : Int)] := by
  have hl : size - (i + 1) < (beL size n).length := by rw [beL_len]; omega
  have := List.take_succ_eq_append_getElem hl
  rw [show size - (i + 1) + 1 = size - i by omega] at this
  rw [this, beL_get, show size - 1 - (size - (i + 1)) = i by omega]
/-- The number of bytes. -/
def valL (xs : List Int) : Nat := xs.foldl (fun n x => n * 256 + x.toNat) 0
theorem valL_snoc (xs : List Int) (x : Int) : valL (xs ++ [x]) = valL xs * 256 + x.toNat := by simp [valL]
theorem valL_nil : valL [] = 0 := rfl
theorem valL_take {xs : List Int} {k : Nat} (h : k < xs.length) : valL (xs.take (k + 1)) = valL (xs.take k) * 256 + (xs[k]).toNat := by
  rw [List.take_succ_eq_append_getElem h, valL_snoc]
theorem valL_lt {xs : List Int} (h : ∀ x ∈ xs, 0 ≤ x ∧ x < 256) : valL xs < 256 ^ xs.length := by
  suffices h2 : ∀ k, k ≤ xs.length → valL (xs.take k) < 256 ^ k by
    have := h2 xs.length (Nat.le_refl _)
    rwa [List.take_length] at this
  intro k
  induction k with
  | zero => intro _; simp [valL]
  | succ k ih =>
    intro hk
    have := ih (by omega)
    rw [valL_take (by omega), Nat.pow_succ]
    have := h xs[k] (List.getElem_mem _)
    omega
theorem valL_beL (size n : Nat) (h : n < 256 ^ size) : valL (beL size n) = n := by
  induction size generalizing n with
  | zero => simp at h; subst h; rfl
  | succ s ih =>
    rw [beL_succ, valL_snoc, ih _ (by rw [Nat.pow_succ] at h; omega)]
    omega
theorem beL_valL (xs : List Int) (h : ∀ x ∈ xs, 0 ≤ x ∧ x < 256) : beL xs.length (valL xs) = xs := by
  suffices h2 : ∀ k, k ≤ xs.length → beL k (valL (xs.take k)) = xs.take k by
    have := h2 xs.length (Nat.le_refl _)
    rwa [List.take_length] at this
  intro k
  induction k with
  | zero => intro _; rfl
  | succ k ih =>
    intro hk
    have hx := h xs[k] (List.getElem_mem _)
    rw [valL_take (by omega), beL_succ, List.take_succ_eq_append_getElem (by omega)]
    congr 1
    · rw [show (valL (xs.take k) * 256 + (xs[k]).toNat) / 256 = valL (xs.take k) by omega]
      exact ih (by omega)
    · congr 1
      omega

/-- A reader in plain words: what is left, an error's number (0: none). -/
structure Rs where
  xs : List Int
  e : Nat
def Rs.left (s : Rs) : Nat := if s.e = 0 then s.xs.length else 0
def Rs.bad (s : Rs) (code : Nat) : Rs := if s.e = 0 then ⟨s.xs, code⟩ else s
def Rs.raw (s : Rs) (n : Nat) : List Int × Rs := if s.left < n then ([], s.bad 2) else (s.xs.take n, ⟨s.xs.drop n, s.e⟩)
def Rs.num (s : Rs) (size : Nat) : Nat × Rs := (valL (s.raw size).1, (s.raw size).2)
def Rs.bytes (s : Rs) (most : Nat) : List Int × Rs :=
  if s.left < 2 then ([], s.bad 2)
  else if most < valL (s.xs.take 2) ∨ s.left - 2 < valL (s.xs.take 2) then ([], s.bad 2)
  else (s.raw 2).2.raw (valL (s.xs.take 2))
def Rs.flag (s : Rs) : Bool × Rs :=
  if s.left < 1 ∨ 1 < s.xs.headD 0 then (false, s.bad 2) else (decide ((s.num 1).1 = 1), (s.num 1).2)
def Rs.fin (s : Rs) : Nat := if s.e ≠ 0 then s.e else if 0 < s.xs.length then 2 else 0
end Go.Proofs.Ytfhinmjpokollaa
/- A region that draws its order, by a script: what only reads is taken first (in every world that meets S it yields the same), what acts on the world comes up alone; S may be broken by the last one. One walk. After XLast. No condition. -/
namespace Go.Proofs.Ytfhinmjpokollaa
set_option linter.unusedVariables false
set_option linter.unusedSimpArgs false
set_option linter.constructorNameAsVariable false
open Go.RowKit

/-- A world that meets S. -/
structure HW (S : World → Prop) where
  w : World
  h : S w
section
variable {P : Program} {md : Region.Mode} {ops : Array Oper} {Q : Exit → Act → World → Prop} {S : World → Prop} {last : Nat}
/-- The script: (true, i): number i is taken first; (false, i): number i comes up, alone. -/
def mixB (md : Region.Mode) (ops : Array Oper) (last : Nat) : List (Bool × Nat) → Array Bool → Bool
  | [], listed => (Region.ready md ops listed).isEmpty
  | (true, i) :: sc, listed => (Region.ready md ops listed).contains i && Region.free md ops listed i && (waitsOn md ops last i || decide (Region.ready md ops listed = [i])) && decide (i ≠ last) && mixB md ops last sc (listed.setIfInBounds i true)
  | (false, i) :: sc, listed => decide (Region.ready md ops listed = [i]) && (decide (i ≠ last) || sc.isEmpty) && mixB md ops last sc (listed.setIfInBounds i true)
def wpMix (P : Program) (ops : Array Oper) (S : World → Prop) (last : Nat) (Q : Exit → Act → World → Prop) : List (Bool × Nat) → Act → World → Prop
  | [], a, w => Q .normal a w
  | (true, i) :: sc, a, w => ∃ o, ops[i]? = some o ∧ (if Region.wanted o (yielded ops a.tmps) = true then ∃ v, (∀ p : HW S, (execOp a.eval o).run P p.w = .ok (.value v) p.w) ∧ wpMix P ops S last Q sc (a.put o.dst v) w else wpMix P ops S last Q sc (a.put o.dst undef) w)
  | (false, i) :: sc, a, w => ∃ o, ops[i]? = some o ∧ (if Region.wanted o (yielded ops a.tmps) = true then o.wp P a w (fun a' w' => (i ≠ last → S w') ∧ wpMix P ops S last Q sc a' w') Q else wpMix P ops S last Q sc (a.put o.dst undef) w)
theorem wpAnyT_of_mix (hs : Region.noSelect ops = true) (hQ : ∀ c a d v w, Q (.panic c) (a.put d v) w → Q (.panic c) a w) : ∀ (sc : List (Bool × Nat)) (listed : Array Bool) (a : Act) (w : World), mixB md ops last sc listed = true → (sc ≠ [] → S w) → wpMix P ops S last Q sc a w → wpAnyT P md ops Q S last sc.length listed a w
  | [], listed, a, w, hB, _, h => wpAnyT_done (by simpa [mixB] using hB) h _
  | (true, i) :: sc, listed, a, w, hB, hS, h => by
    simp only [mixB, Bool.and_eq_true] at hB
    obtain ⟨⟨⟨⟨h1, h2⟩, h3⟩, -⟩, h5⟩ := hB
    obtain ⟨o, ho, h⟩ := h
    have hSw := hS (by simp)
    have key : ∀ v, YieldsIf P ops S o v a → wpMix P ops S last Q sc (a.put o.dst v) w → wpAnyT P md ops Q S last ((true, i) :: sc).length listed a w := fun v hy h => by
      rw [Bool.or_eq_true, decide_eq_true_eq] at h3
      rcases h3 with h3 | h3
      · exact wpAnyT_take ho hs h2 h1 h3 (fun c a w => hQ c a _ _ w) hy hSw (wpAnyT_of_mix hs hQ sc _ _ _ h5 (fun _ => hSw) h)
      · refine wpAnyT_ready (rs := [i]) h3 (by simp) ?_
        intro j hj
        rw [List.mem_singleton] at hj
        subst hj
        exact hy.wpOp ho hSw ⟨fun _ => hSw, wpAnyT_of_mix hs hQ sc _ _ _ h5 (fun _ => hSw) h⟩
    by_cases hw : Region.wanted o (yielded ops a.tmps) = true
    · rw [if_pos hw] at h
      obtain ⟨v, hv, h⟩ := h
      exact key v (.inl ⟨hw, fun w hw => hv ⟨w, hw⟩⟩) h
    · rw [if_neg hw] at h
      exact key undef (.inr ⟨by simpa using hw, rfl⟩) h
  | (false, i) :: sc, listed, a, w, hB, hS, h => by
    simp only [mixB, Bool.and_eq_true, Bool.or_eq_true, decide_eq_true_eq] at hB
    obtain ⟨⟨h1, h2⟩, h3⟩ := hB
    obtain ⟨o, ho, h⟩ := h
    have hne : ∀ w', (i ≠ last → S w') → sc ≠ [] → S w' := fun w' h hsc => by
      rcases h2 with h2 | h2
      · exact h h2
      · exact absurd (List.isEmpty_iff.1 h2) hsc
    refine wpAnyT_ready (rs := [i]) h1 (by simp) (AllT.cons ho (fun K' hK => ?_) AllT.nil)
    by_cases hw : Region.wanted o (yielded ops a.tmps) = true
    · rw [if_pos hw] at h ⊢
      exact Oper.wp_mono (fun a' w' h' => hK.out a' w' h'.1 (wpAnyT_of_mix hs hQ sc _ _ _ h3 (hne w' h'.1) h'.2)) h
    · rw [if_neg hw] at h ⊢
      exact hK.out _ _ (fun _ => hS (by simp)) (wpAnyT_of_mix hs hQ sc _ _ _ h3 (fun _ => hS (by simp)) h)
/-- The same exits, no panic among them. -/
def NoPan (Q : Exit → Act → World → Prop) (e : Exit) (a : Act) (w : World) : Prop := match e with | .panic _ => False | e => Q e a w
theorem NoPan.imp {Q : Exit → Act → World → Prop} (e : Exit) (a : Act) (w : World) (h : NoPan Q e a w) : Q e a w := by
  cases e <;> first | exact h | exact h.elim
theorem wp_region_mix {id : Nat} {a : Act} {w : World} {l : List Oper} (S : World → Prop) (last : Nat) (sc : List (Bool × Nat)) (hm : P.follows .mixedOrders = true)
    (hB : (Region.noSelect l.toArray && decide (sc.length = l.toArray.size) && mixB .any l.toArray last sc (Array.replicate l.toArray.size false)) = true) (hS : S w.drew)
    (h : Nonempty (HW S) → wpMix P l.toArray S last (NoPan Q) sc a w.drew) : (Code.region id l.toArray true).wp P Q a w := by
  simp only [Bool.and_eq_true, decide_eq_true_eq] at hB
  obtain ⟨⟨h1, h2⟩, h3⟩ := hB
  refine wp_mono (Q := NoPan Q) (wp_region_T S last hm ?_) NoPan.imp
  have := wpAnyT_of_mix (Q := NoPan Q) h1 (fun _ _ _ _ _ h => h) sc _ _ _ h3 (fun _ => hS) (h ⟨⟨_, hS⟩⟩)
  rwa [h2] at this
/-- The script where S is kept by all. -/
def mixBH (md : Region.Mode) (ops : Array Oper) : List (Bool × Nat) → Array Bool → Bool
  | [], listed => (Region.ready md ops listed).isEmpty
  | (true, i) :: sc, listed => (Region.ready md ops listed).contains i && Region.free md ops listed i && mixBH md ops sc (listed.setIfInBounds i true)
  | (false, i) :: sc, listed => decide (Region.ready md ops listed = [i]) && mixBH md ops sc (listed.setIfInBounds i true)
theorem wpAnyH_of_mix (hl : last = ops.size) (hs : Region.noSelect ops = true) (hQ : ∀ c a d v w, Q (.panic c) (a.put d v) w → Q (.panic c) a w) : ∀ (sc : List (Bool × Nat)) (listed : Array Bool) (a : Act) (w : World), mixBH md ops sc listed = true → S w → wpMix P ops S last Q sc a w → wpAnyH P md ops Q S sc.length listed a w
  | [], listed, a, w, hB, _, h => ⟨by simpa [mixBH] using hB, h⟩
  | (true, i) :: sc, listed, a, w, hB, hSw, h => by
    simp only [mixBH, Bool.and_eq_true] at hB
    obtain ⟨⟨h1, h2⟩, h5⟩ := hB
    obtain ⟨o, ho, h⟩ := h
    have key : ∀ v, YieldsIf P ops S o v a → wpMix P ops S last Q sc (a.put o.dst v) w → wpAnyH P md ops Q S ((true, i) :: sc).length listed a w := fun v hy h =>
      wpAnyH_first ho (Region.noSelect_spec hs) (fun c a w => hQ c a _ _ w) _ listed a w (Region.free_spec ho h2) (by simpa using h1) hy hSw (wpAnyH_of_mix hl hs hQ sc _ _ _ h5 hSw h)
    by_cases hw : Region.wanted o (yielded ops a.tmps) = true
    · rw [if_pos hw] at h
      obtain ⟨v, hv, h⟩ := h
      exact key v (.inl ⟨hw, fun w hw => hv ⟨w, hw⟩⟩) h
    · rw [if_neg hw] at h
      exact key undef (.inr ⟨by simpa using hw, rfl⟩) h
  | (false, i) :: sc, listed, a, w, hB, hS, h => by
    simp only [mixBH, Bool.and_eq_true, decide_eq_true_eq] at hB
    obtain ⟨h1, h3⟩ := hB
    obtain ⟨o, ho, h⟩ := h
    have hil : i ≠ last := by
      have := (Array.getElem?_eq_some_iff.1 ho).1
      omega
    refine ⟨fun h0 => (by rw [h1] at h0; cases h0), fun j hj => ?_⟩
    rw [h1, List.mem_singleton] at hj
    subst hj
    unfold wpOp
    simp only [ho]
    by_cases hw : Region.wanted o (yielded ops a.tmps) = true
    · rw [if_pos hw] at h
      simp only [hw, if_true]
      exact .inl (Oper.wp_mono (fun a' w' h' => ⟨h'.1 hil, wpAnyH_of_mix hl hs hQ sc _ _ _ h3 (h'.1 hil) h'.2⟩) h)
    · rw [if_neg hw] at h
      simp only [hw]
      exact ⟨hS, wpAnyH_of_mix hl hs hQ sc _ _ _ h3 hS h⟩
theorem wp_region_mixH {id : Nat} {a : Act} {w : World} {l : List Oper} (S : World → Prop) (sc : List (Bool × Nat)) (hm : P.follows .mixedOrders = true)
    (hB : (Region.noSelect l.toArray && decide (sc.length = l.toArray.size) && mixBH .any l.toArray sc (Array.replicate l.toArray.size false)) = true) (hS : S w.drew)
    (h : Nonempty (HW S) → wpMix P l.toArray S l.toArray.size (NoPan Q) sc a w.drew) : (Code.region id l.toArray true).wp P Q a w := by
  simp only [Bool.and_eq_true, decide_eq_true_eq] at hB
  obtain ⟨⟨h1, h2⟩, h3⟩ := hB
  refine wp_mono (Q := NoPan Q) (wp_region_held (S := S) hm ?_) NoPan.imp
  have := wpAnyH_of_mix (Q := NoPan Q) rfl h1 (fun _ _ _ _ _ h => h) sc _ _ _ h3 hS (h ⟨⟨_, hS⟩⟩)
  rwa [h2] at this
theorem mix_take {i : Nat} {o : Oper} {sc : List (Bool × Nat)} {a : Act} {w : World} (ho : ops[i]? = some o)
    (h : ∀ K : Act → Prop, (∀ a, wpMix P ops S last Q sc a w → K a) → if Region.wanted o (yielded ops a.tmps) = true then ∃ v, (∀ p : HW S, (execOp a.eval o).run P p.w = .ok (.value v) p.w) ∧ K (a.put o.dst v) else K (a.put o.dst undef)) : wpMix P ops S last Q ((true, i) :: sc) a w :=
  ⟨o, ho, h _ fun _ h => h⟩
theorem mix_act {i : Nat} {o : Oper} {sc : List (Bool × Nat)} {a : Act} {w : World} (ho : ops[i]? = some o)
    (h : ∀ K : Act → World → Prop, Hid (∀ a w, (i ≠ last → S w) → wpMix P ops S last Q sc a w → K a w) → if Region.wanted o (yielded ops a.tmps) = true then o.wp P a w K Q else K (a.put o.dst undef) w) (hS : Region.wanted o (yielded ops a.tmps) = true ∨ S w) : wpMix P ops S last Q ((false, i) :: sc) a w := by
  refine ⟨o, ho, ?_⟩
  have := h (fun a' w' => (i ≠ last → S w') ∧ wpMix P ops S last Q sc a' w') (Lib.hid fun a w h1 h2 => ⟨h1, h2⟩)
  by_cases hw : Region.wanted o (yielded ops a.tmps) = true
  · rw [if_pos hw] at this ⊢
    exact this
  · rw [if_neg hw] at this ⊢
    exact this.2
/-- A cell's value, as what is held. -/
def CellIs (a : Addr) (v : Value) (w : World) : Prop := w.cell? a = some v
theorem CellIs.all (a : Addr) (v : Value) (p : HW (CellIs a v)) : p.w.cell? a = some v := p.h
theorem mix_done {a : Act} {w : World} (h : Q .normal a w) : wpMix P ops S last (NoPan Q) [] a w := h
end
end Go.Proofs.Ytfhinmjpokollaa
/- The program's writer of octets, as long as nothing is refused: what it has written. No condition but that what is written can be read. -/
namespace Go.Proofs.Ytfhinmjpokollaa
set_option linter.unusedVariables false
set_option linter.unusedSimpArgs false
set_option linter.constructorNameAsVariable false
open Go.RowKit Go.Maps

theorem rd_szs' {p : Nat → Prop} {w : World} {s n : Nat} {A : Option Addr} {xs : List Value} (h : Rd p w s A n xs) : Rd (fun b => b < w.heap.size) w s A n xs :=
  ⟨h.1, fun hn => by obtain ⟨ad, e, _, hb, hc⟩ := h.2 hn; exact ⟨ad, e, hb, hb, hc⟩⟩
/-- slices.Clone of bytes. -/
theorem sclone_any {p : Nat → Prop} (A : Option Addr) (n c : Nat) (xs : List Int) (w : World) (hO : Rd p w 1 A n (u8s xs)) (hn : n ≤ 140737488355328) :
    Calls Try.prog 67 #[.slice A n c] w fun e w' => (∃ A' c', e = .returned (.slice A' n c') ∧ w'.ownsRow w.heap.size 5 1 (.slice A' n c') n (u8s xs)) ∧ New w w' := by
  have HR := Lib.hid hO
  rcases A with _ | ad
  · have h0 : n = 0 := by
      rcases Nat.eq_zero_or_pos n with h | h
      · exact h
      · obtain ⟨ad, h', _⟩ := hO.2 h
        cases h'
    subst h0
    have hz : xs = [] := List.eq_nil_of_length_eq_zero (by have := hO.1; rw [u8s_len] at this; omega)
    subst hz
    clear hO
    have hen := fun w => Lib.run_eql_slice_nil (P := Try.prog) w 39 5 none 0 c 0 0 Try.underlying39
    go_enter Try.func67, Try.ntmps67
    go_wp2_with fail
    go_ret
    exact ⟨⟨none, 0, rfl, World.ownsRow_nil _ _ _ _⟩, New.refl w⟩
  · clear hO
    have hen := fun w => Lib.run_eql_slice_nil (P := Try.prog) w 39 5 (some ad) n c 0 0 Try.underlying39
    go_enter Try.func67, Try.ntmps67
    go_wp2_with (at_builtin; refine wpList_app elB _ rfl (.tmp 5) (.tmp 6) rfl w.heap.size (.slice (some ⟨w.heap.size, 0, none⟩) 0 0) 0 [] rfl (own_lit (Blk.new w 5 #[]) (Nat.le_refl _)) (some ad) n c (u8s xs) rfl (New.rd (New.al (New.refl w) _) HR.out) (u8s_one xs) (by unfold maxLen; omega) (by omega) (by simp) ?_; intro A1 d1 w3 hO3 hF3 hA3; rw [Nat.zero_add]; rw [Nat.zero_add, List.nil_append] at hO3; have HO3 := Lib.hid hO3; have HN3 : Hid (New w w3) := Lib.hid ((New.al (New.refl w) _).fr hF3 (by intro k hk; simp [Value.ownBlock] at hk; omega)); clear hO3 hF3 hA3)
    go_ret
    exact ⟨⟨A1, d1, rfl, HO3.out⟩, HN3.out⟩

/-- A writer's own blocks: itself, and rows of bytes that came behind it. -/
def WS (base g : Nat) (w : World) (k : Nat) : Prop := k = g ∨ (base ≤ k ∧ IsT 5 w k)
/-- A writer that has refused nothing. -/
structure WrIn (w : World) (base g : Nat) (xs : List Int) : Prop where
  st : ∃ A c, Blk w g 86 #[.nilIface, .slice A xs.length c] ∧ w.ownsRow base 5 1 (.slice A xs.length c) xs.length (u8s xs)
  gb : base ≤ g
  byt : Byt xs
def FW (base g : Nat) (w w' : World) : Prop := Fr (WS base g w) w w'
section
variable {base g : Nat} {w w' w'' : World} {xs : List Int}
theorem FW.refl : FW base g w w := Fr.refl _ _
theorem FW.tr (h : FW base g w w') (k : FW base g w' w'') : FW base g w w'' := by
  refine ⟨k.os.trans h.os, k.tape.trans h.tape, k.output.trans h.output, Nat.le_trans h.size k.size, fun j hj hn => ?_⟩
  have e := h.block j hj hn
  refine (k.block j (Nat.lt_of_lt_of_le hj h.size) (fun hs => hn ?_)).trans e
  rcases hs with hs | ⟨hs, cs, fz, hx⟩
  · exact .inl hs
  · exact .inr ⟨hs, cs, fz, e.symm.trans hx⟩
theorem FW.new (h : New w w') : FW base g w w' := h.toFr _
theorem WrIn.lt (h : WrIn w base g xs) : g < w.heap.size := by obtain ⟨A, c, hb, _⟩ := h.st; exact hb.lt
theorem WrIn.base_le (h : WrIn w base g xs) : base ≤ w.heap.size := by have := h.lt; have := h.gb; omega
theorem WrIn.new (h : WrIn w base g xs) (hN : New w w') : WrIn w' base g xs := by
  obtain ⟨A, c, hb, ho⟩ := h.st
  exact ⟨⟨A, c, hN.blk hb, hN.own ho⟩, h.gb, h.byt⟩
/-- What a writer's step leaves of other blocks. -/
theorem FW.blk (h : FW base g w w') {k t : Nat} {cs : Array Value} (hb : Blk w k t cs) (ht : t ≠ 5) (hk : k ≠ g) : Blk w' k t cs :=
  hb.fr h (fun hs => hs.elim hk (fun x => IsT.not_blk hb ht x.2))
theorem FW.toNew (h : FW base g w w') {w0 : World} (hN : New w0 w) (hb : w0.heap.size ≤ base) (hg : base ≤ g) : New w0 w' := hN.fr h (fun k hk => hk.elim (fun x => by omega) (fun x => by omega))
end
theorem sized_yes (n : Int) (h : n = 1 ∨ n = 2 ∨ n = 4 ∨ n = 8) (w : World) : Calls Try.prog 64 #[.int .i64 n] w fun e w' => e = .returned (.bool true) ∧ w = w' := by
  rcases h with rfl | rfl | rfl | rfl
  all_goals
    go_enter Try.func64, Try.ntmps64
    go_wp2_with fail
    go_ret
    exact ⟨rfl, rfl⟩
theorem own_isT' {w : World} {base e s n k : Nat} {v : Value} {xs : List Value} (h : w.ownsRow base e s v n xs) (hk : v.ownBlock = some k) : IsT e w k := by
  rcases h.2 with ⟨rfl, _⟩ | ⟨g', cap, cur, rfl, _, hh, _⟩
  · simp [Value.ownBlock] at hk
  · have : g' = k := by simpa [Value.ownBlock] using hk
    subst this
    exact ⟨_, _, hh⟩
/-- An append to what was written, and its store. -/
theorem wr_step {base g : Nat} {w w3 w5 : World} {xs ys : List Int} {A A1 : Option Addr} {n m c d1 : Nat} (H : WrIn w base g xs) (hB : Blk w g 86 #[.nilIface, .slice A n c]) (hO : w.ownsRow base 5 1 (.slice A n c) n (u8s xs)) (hn : n = xs.length) (hN : New w w3)
    (hF5 : Fr (fun k => (Value.slice A n c).ownBlock = some k) w3 w5) (hO5 : w5.ownsRow base 5 1 (.slice A1 (n + m) d1) (n + m) (u8s xs ++ u8s ys)) (hm : ys.length = m) (hb : Byt ys) :
    WrIn (w5.setCell ⟨g, 1, none⟩ (.slice A1 (n + m) d1)) base g (xs ++ ys) ∧ FW base g w (w5.setCell ⟨g, 1, none⟩ (.slice A1 (n + m) d1)) := by
  have hne : (Value.slice A n c).ownBlock ≠ some g := own_ne hO hB (by decide)
  have hB5 : Blk w5 g 86 #[.nilIface, .slice A n c] := (hN.blk hB).fr hF5 (fun hk => hne hk)
  have hFs : Fr (fun k => k = g) w5 (w5.setCell ⟨g, 1, none⟩ (.slice A1 (n + m) d1)) := (Fr.refl (fun k => k = g) w5).setCell (p := ⟨g, 1, none⟩) (fun _ => rfl) _
  have hBs : Blk (w5.setCell ⟨g, 1, none⟩ (.slice A1 (n + m) d1)) g 86 #[.nilIface, .slice A1 (n + m) d1] := by
    have := hB5.set 1 (.slice A1 (n + m) d1)
    simpa using this
  have hne1 : ∀ k, (Value.slice A1 (n + m) d1).ownBlock = some k → ¬ k = g := fun k hk e => by
    subst e
    exact own_ne hO5 hB5 (by decide) hk
  refine ⟨⟨⟨A1, d1, ?_, ?_⟩, H.gb, fun x hx => ?_⟩, ?_⟩
  · rw [List.length_append, ← hn, hm]
    exact hBs
  · rw [List.length_append, ← hn, hm]
    have e : u8s (xs ++ ys) = u8s xs ++ u8s ys := by simp [u8s]
    rw [e]
    exact own_fr hO5 hFs (fun k hk => hne1 k hk)
  · rcases List.mem_append.1 hx with hx | hx
    · exact H.byt x hx
    · exact hb x hx
  · have hF : FW base g w w3 := FW.new hN
    have hF2 : FW base g w3 w5 := hF5.mono (fun k _ hk => .inr ⟨(own_lt hO k hk).1, own_isT' (hN.own hO) hk⟩)
    exact (hF.tr hF2).tr (hFs.mono (fun k _ hk => .inl hk))
theorem wraw_any {base g : Nat} {w : World} {xs : List Int} {p : Nat → Prop} (h : WrIn w base g xs) (B : Option Addr) (m d : Nat) (ys : List Int) (hR : Rd p w 1 B m (u8s ys)) (hb : Byt ys) (hl : xs.length + m ≤ 140737488355328) :
    Calls Try.prog 66 #[.pointer (some ⟨g, 0, none⟩), .slice B m d] w fun e w' => e = .returned (.pointer (some ⟨g, 0, none⟩)) ∧ WrIn w' base g (xs ++ ys) ∧ FW base g w w' := by
  obtain ⟨A, c, hB, hO⟩ := h.st
  have hm : ys.length = m := by have := hR.1; rw [u8s_len] at this; omega
  have H := Lib.hid h
  have HB := Lib.hid hB
  have HO := Lib.hid hO
  have HR := Lib.hid hR
  have HY := Lib.hid hb
  have HM := Lib.hid hm
  have hne : (Value.slice A xs.length c).ownBlock ≠ some g := own_ne hO hB (by decide)
  have HNE := Lib.hid hne
  obtain ⟨n, hn⟩ : ∃ n, n = xs.length := ⟨_, rfl⟩
  rw [← hn] at HB HO HNE hl
  have HNL := Lib.hid hn
  clear h hb hB hO hR hm hne hn
  have c1 : w.cell? ⟨g, 1, none⟩ = some (.slice A n c) := HB.out.cell 1
  go_enter Try.func66, Try.ntmps66
  go_wp2_with (at_builtin; refine wpList_app (o := ⟨some 13, _, _, _, _, _⟩) elB _ rfl (.tmp 11) (.tmp 12) rfl base (.slice A n c) n (u8s xs) rfl HO.out B m d (u8s ys) rfl HR.out (u8s_one ys) (by unfold maxLen; omega) (by omega) H.out.base_le ?_; intro A1 d1 w3 hO3 hF3 hA3; have HB3 : Hid (Blk w3 g 86 #[.nilIface, .slice A n c]) := Lib.hid (HB.out.fr hF3 (fun hk => HNE.out hk)); have f3 := HB3.out.frozen 1; have c3 : w3.cell? ⟨g, 1, none⟩ = some (.slice A n c) := HB3.out.cell 1; have HO3 := Lib.hid hO3; have HF3 := Lib.hid hF3; have HA3 := Lib.hid hA3; clear hO3 hF3 hA3)
  go_ret
  have hst := wr_step (ys := ys) H.out HB.out HO.out HNL.out (New.refl w) HF3.out HO3.out HM.out HY.out
  exact ⟨rfl, hst.1, hst.2⟩
theorem step_bs1v {P : Program} {ops : Array Oper} {o : Oper} {a : Act} {K : Act → World → Prop} {Q : Exit → Act → World → Prop} {w : World} {F : Prop} {t e : TypeId} {bytes : Nat} (E : ElemOf P t e 1 bytes) (hw : Region.wanted o (yielded ops a.tmps) = true) (x : Operand)
    (ho : o.op = .buildSlice t 1 #[(0, x)]) (v : Value) (hx : a.eval x = v) (hv : v.cells.size = 1)
    (h : ∀ g w', Blk w' g e v.cells → New w w' → w.heap.size ≤ g → K (a.put o.dst (.slice (some ⟨g, 0, none⟩) 1 1)) w') : if Region.wanted o (yielded ops a.tmps) = true then Oper.wp P o a w K Q else F := by
  rw [if_pos hw]
  unfold Oper.wp execOp
  simp only [ho, Sem.run_bind, List.map_toArray, List.map_cons, List.map_nil, hx, run_bs1 E (by decide) v hv w, Result.andThen_ok]
  exact h _ _ (Blk.new _ _ _) (New.al (New.refl _) _) (Nat.le_refl _)
theorem shr_int (n k : Nat) : (n : Int) / 2 ^ (8 * (k : Int)).toNat = ((n / 256 ^ k : Nat) : Int) := by
  have e1 : (8 * (k : Int)).toNat = 8 * k := by omega
  have e2 : (2 : Nat) ^ (8 * k) = 256 ^ k := by rw [Nat.pow_mul]
  rw [e1, Int.natCast_ediv, ← e2, Int.natCast_pow]
  rfl
theorem u8_wrap (m : Nat) : IntKind.u8.wrap (m : Int) = ((m % 256 : Nat) : Int) := by
  simp [IntKind.wrap, IntKind.signed, IntKind.bits]
set_option maxRecDepth 100000 in
set_option maxHeartbeats 4000000 in
theorem wnum_any {base g : Nat} {w : World} {xs : List Int} (h : WrIn w base g xs) (n size : Nat) (hs : size = 1 ∨ size = 2 ∨ size = 4 ∨ size = 8) (hn : n < 256 ^ size) (hl : xs.length + 8 ≤ 140737488355328) :
    Calls Try.prog 46 #[.pointer (some ⟨g, 0, none⟩), .int .u64 n, .int .i64 size] w fun e w' => e = .returned (.pointer (some ⟨g, 0, none⟩)) ∧ WrIn w' base g (xs ++ beL size n) ∧ FW base g w w' := by
  have H := Lib.hid h
  have hsz := fun w => sized_yes size (by omega) w
  have hs8 : size ≤ 8 := by omega
  have hs1 : 1 ≤ size := by omega
  clear h
  go_enter Try.func46, Try.ntmps46
  go_wp2_with fail
  refine (hsz w).mono ?_
  rintro e w0 ⟨rfl, rfl⟩
  have hsh := shr_int n size
  rw [Nat.div_eq_of_lt hn] at hsh
  clear hsz
  by_cases h8 : size < 8
  all_goals
    have hd8 : decide ((size : Int) < 8) = decide (size < 8) := decide_eq_decide.2 (by omega)
    go_wp2_with fail
    clear hsh hd8
    go_loopw [7] (fun i wr => ∃ j : Nat, j ≤ size ∧ i = .int .i64 ((j : Int) - 1) ∧ Hid (WrIn wr base g (xs ++ (beL size n).take (size - j))) ∧ Hid (FW base g w wr)) (fun i _ => (intOf i + 1).toNat)
    case atStart => exact ⟨size, Nat.le_refl _, rfl, Lib.hid (by simpa using H.out), Lib.hid FW.refl⟩
    case round =>
      obtain ⟨j, hj, rfl, HR, HF⟩ := hrel
      rcases Nat.eq_zero_or_pos j with h0 | h0
      · subst h0
        go_wp2_with fail
        go_ret
        have hR := HR.out
        rw [Nat.sub_zero, List.take_of_length_le (by rw [beL_len]; exact Nat.le_refl _)] at hR
        exact ⟨rfl, hR, HF.out⟩
      · obtain ⟨k, rfl⟩ : ∃ k, j = k + 1 := ⟨j - 1, by omega⟩
        have hk : (((k + 1 : Nat) : Int) - 1) = (k : Int) := by omega
        rw [hk]
        obtain ⟨A, c, hB, hO⟩ := HR.out.st
        have hlen : (xs ++ (beL size n).take (size - (k + 1))).length = xs.length + (size - (k + 1)) := by
          rw [List.length_append, List.length_take, beL_len]
          omega
        rw [hlen] at hB hO
        have HB := Lib.hid hB
        have HO := Lib.hid hO
        clear hB hO hlen hk
        go_wp2_with fail
        have c1 : wr.cell? ⟨g, 1, none⟩ = some (.slice A (xs.length + (size - (k + 1))) c) := HB.out.cell 1
        refine wp_region_mix (CellIs ⟨g, 1, none⟩ (.slice A (xs.length + (size - (k + 1))) c)) 14 [(true, 0), (true, 1), (true, 2), (true, 3), (true, 4), (true, 5), (true, 6), (true, 7), (true, 8), (true, 9), (false, 10), (false, 11), (true, 12), (true, 13), (false, 14)] (by kernel_rfl) (by kernel_rfl) c1 (fun hne => ?_)
        have cp := CellIs.all ⟨g, 1, none⟩ (.slice A (xs.length + (size - (k + 1))) c)
        have hsh := shr_int n k
        have hbw : IntKind.u8.wrap ((n : Int) / 256 ^ k) = ((byteAt n k : Nat) : Int) := by
          rw [show (n : Int) / 256 ^ k = ((n / 256 ^ k : Nat) : Int) from by simp, u8_wrap]
          rfl
        have hwr : IntKind.i64.wrap (8 * (k : Int)) = 8 * k := IntWalk.i64_in _ (by omega)
        have hk0 : (0 : Int) ≤ 8 * (k : Int) := by omega
        have hk64 : 8 * (k : Int) ≤ 64 := by omega
        iterate 10 (refine mix_take (o := ⟨_, _, _, _, _, _⟩) rfl (fun K hK => ?_); go_simp; refine hK _ ?_; clear hK K)
        refine mix_act (o := ⟨_, _, _, _, _, _⟩) rfl (fun K hK => ?_) (.inl rfl)
        refine step_bs1v elB rfl (.tmp 45) rfl (.int .u8 (byteAt n k : Nat)) (by rfl) rfl ?_
        intro gb w3 hB3 hN3 hl3
        simp only [Act.put, List.setIfInBounds_toArray, List.set_cons_zero, List.set_cons_succ]
        have hN3 : New wr w3 := New.tr (New.dr (New.refl _)) hN3
        have c3 : w3.cell? ⟨g, 1, none⟩ = some (.slice A (xs.length + (size - (k + 1))) c) := hN3.cell_ c1
        refine hK.out _ _ (fun _ => c3) ?_
        clear hK K
        clear hbw hsh hwr
        have HN3 : Hid (New wr w3) := Lib.hid hN3
        have HB3 : Hid (Blk w3 gb 5 #[.int .u8 (byteAt n k : Nat)]) := Lib.hid hB3
        clear hN3 hB3
        refine mix_act (o := ⟨_, _, _, _, _, _⟩) rfl (fun K hK => ?_) (.inl rfl)
        refine step_app elB _ (by rfl) (.tmp 40) (.tmp 46) (by rfl) base (.slice A (xs.length + (size - (k + 1))) c) (xs.length + (size - (k + 1))) _ (by rfl) (HN3.out.own HO.out) (some ⟨gb, 0, none⟩) 1 1 [.int .u8 (byteAt n k : Nat)] (by rfl) (Rd.ofBlk (p := fun _ => True) HB3.out 1 1 rfl trivial) (by simp [Value.oneCell']) (by unfold maxLen; omega) (by omega) (Nat.le_trans HR.out.base_le HN3.out.size) ?_
        intro A4 d4 w5 hO5 hF5 hA5
        simp only [Act.put, List.setIfInBounds_toArray, List.set_cons_zero, List.set_cons_succ]
        have HNE : Hid ((Value.slice A (xs.length + (size - (k + 1))) c).ownBlock ≠ some g) := Lib.hid (own_ne HO.out HB.out (by decide))
        have c5 : w5.cell? ⟨g, 1, none⟩ = some (.slice A (xs.length + (size - (k + 1))) c) := hF5.cell_some c3 (fun hk => HNE.out hk)
        have HB5 : Hid (Blk w5 g 86 #[.nilIface, .slice A (xs.length + (size - (k + 1))) c]) := Lib.hid ((HN3.out.blk HB.out).fr hF5 (fun hk => HNE.out hk))
        have f5 := HB5.out.frozen 1
        have HF5 := Lib.hid hF5
        have HO5 := Lib.hid hO5
        have HA5 := Lib.hid hA5
        clear hF5 hO5 hA5
        refine hK.out _ _ (fun _ => c5) ?_
        clear hK K
        iterate 2 (refine mix_take (o := ⟨_, _, _, _, _, _⟩) rfl (fun K hK => ?_); go_simp; refine hK _ ?_; clear hK K)
        refine mix_act (o := ⟨_, _, _, _, _, _⟩) rfl (fun K hK => ?_) (.inl rfl)
        go_simp
        refine hK.out _ _ (fun h => absurd rfl h) ?_
        clear hK K
        refine mix_done ?_
        go_wp2_with fail
        go_roundw
        case rel =>
          have hst := wr_step (ys := [((byteAt n k : Nat) : Int)]) HR.out HB.out HO.out (by rw [List.length_append, List.length_take, beL_len]; omega) HN3.out HF5.out HO5.out rfl (fun x hx => by
            rw [List.mem_singleton] at hx
            subst hx
            have := byteAt_lt n k
            omega)
          rw [List.append_assoc, ← beL_take size n k (by omega)] at hst
          exact ⟨k, by omega, rfl, Lib.hid hst.1, Lib.hid (HF.out.tr hst.2)⟩
        case measure => simp [intOf]
theorem wflag_any {base g : Nat} {w : World} {xs : List Int} (h : WrIn w base g xs) (b : Bool) (hl : xs.length + 8 ≤ 140737488355328) :
    Calls Try.prog 47 #[.pointer (some ⟨g, 0, none⟩), .bool b] w fun e w' => e = .returned (.pointer (some ⟨g, 0, none⟩)) ∧ WrIn w' base g (xs ++ [if b then 1 else 0]) ∧ FW base g w w' := by
  cases b
  · have HN := Lib.hid (wnum_any h 0 1 (by omega) (by omega) hl)
    clear h
    go_enter Try.func47, Try.ntmps47
    go_wp2_with fail
    refine HN.out.mono ?_
    rintro e w1 ⟨rfl, h1, h2⟩
    have H1 := Lib.hid h1
    have H2 := Lib.hid h2
    clear h1 h2 HN
    go_wp2_with fail
    go_ret
    exact ⟨rfl, H1.out, H2.out⟩
  · have HN := Lib.hid (wnum_any h 1 1 (by omega) (by omega) hl)
    clear h
    go_enter Try.func47, Try.ntmps47
    go_wp2_with fail
    refine HN.out.mono ?_
    rintro e w1 ⟨rfl, h1, h2⟩
    have H1 := Lib.hid h1
    have H2 := Lib.hid h2
    clear h1 h2 HN
    go_wp2_with fail
    go_ret
    exact ⟨rfl, H1.out, H2.out⟩
theorem wbytes_any {base g : Nat} {w : World} {xs : List Int} {p : Nat → Prop} (h : WrIn w base g xs) (B : Option Addr) (m d : Nat) (ys : List Int) (hR : Rd p w 1 B m (u8s ys)) (hb : Byt ys) (hm : m ≤ 65535) (hl : xs.length + m + 8 ≤ 140737488355328) (hp : ∀ k, p k → k ≠ g ∧ (k < base ∨ ¬ IsT 5 w k)) :
    Calls Try.prog 48 #[.pointer (some ⟨g, 0, none⟩), .slice B m d] w fun e w' => e = .returned (.pointer (some ⟨g, 0, none⟩)) ∧ WrIn w' base g (xs ++ beL 2 m ++ ys) ∧ FW base g w w' := by
  have HN := Lib.hid (wnum_any h m 2 (by omega) (by omega) (by omega))
  have HR := Lib.hid hR
  have HB := Lib.hid hb
  have HP := Lib.hid hp
  clear h hR hb hp
  go_enter Try.func48, Try.ntmps48
  go_wp2_with fail
  refine HN.out.mono ?_
  rintro e w1 ⟨rfl, h1, h2⟩
  have H1 := Lib.hid h1
  have H2 := Lib.hid h2
  clear h1 h2 HN
  go_wp2_with fail
  refine (wraw_any H1.out B m d ys (HR.out.fr H2.out (fun k hk hs => by
    have := HP.out k hk
    rcases hs with hs | hs
    · exact this.1 hs
    · rcases this.2 with h | h
      · omega
      · exact h hs.2)) HB.out (by rw [List.length_append, beL_len]; omega)).mono ?_
  rintro e w2 ⟨rfl, h1, h2⟩
  have H3 := Lib.hid h1
  have H4 := Lib.hid h2
  clear h1 h2
  go_wp2_with fail
  go_ret
  exact ⟨rfl, H3.out, H2.out.tr H4.out⟩
theorem wdone_any {base g : Nat} {w : World} {xs : List Int} (h : WrIn w base g xs) (hl : xs.length ≤ 140737488355328) :
    Calls Try.prog 49 #[.pointer (some ⟨g, 0, none⟩)] w fun e w' => (∃ A c, e = .returned (.tuple #[.slice A xs.length c, .nilIface]) ∧ w'.ownsRow w.heap.size 5 1 (.slice A xs.length c) xs.length (u8s xs)) ∧ New w w' := by
  obtain ⟨A, c, hB, hO⟩ := h.st
  have HB := Lib.hid hB
  have HC := Lib.hid (sclone_any A xs.length c xs w (Rd.own hO rfl) hl)
  have c0 : w.cell? ⟨g, 0, none⟩ = some .nilIface := hB.cell 0
  have c1 : w.cell? ⟨g, 1, none⟩ = some (.slice A xs.length c) := hB.cell 1
  clear h hB hO
  go_enter Try.func49, Try.ntmps49
  go_wp2_with fail
  refine HC.out.mono ?_
  rintro e w1 ⟨⟨A1, d1, rfl, hO1⟩, hN1⟩
  have HO1 := Lib.hid hO1
  have HN1 := Lib.hid hN1
  clear hO1 hN1
  go_wp2_with fail
  go_ret2
  exact ⟨⟨A1, d1, rfl, HO1.out⟩, HN1.out⟩
end Go.Proofs.Ytfhinmjpokollaa
/- A batch's bytes. No condition but that the changes can be read. -/
namespace Go.Proofs.Ytfhinmjpokollaa
set_option linter.unusedVariables false
set_option linter.unusedSimpArgs false
set_option linter.constructorNameAsVariable false
open Go.RowKit Go.Maps Go.Sort

/-- A change's bytes; a batch's. -/
def chB (c : Ch) : List Int := [if !c.d then 1 else 0] ++ beL 2 c.k.n ++ c.k.xs ++ (if c.d then [] else beL 2 c.v.n ++ c.v.xs)
def putB (L : List Ch) : List Int := beL 2 L.length ++ L.flatMap chB
theorem chB_len {c : Ch} (hk : c.k.xs.length = c.k.n) (hv : c.v.xs.length = c.v.n) : (chB c).length ≤ 5 + c.k.n + c.v.n := by
  unfold chB
  simp only [List.length_append, List.length_singleton, beL_len, hk]
  split
  · simp; omega
  · simp [beL_len, hv]; omega
theorem putB_take {L : List Ch} {k : Nat} (h : k < L.length) : (L.take (k + 1)).flatMap chB = (L.take k).flatMap chB ++ chB L[k] := by
  rw [List.take_succ_eq_append_getElem h, List.flatMap_append]
  simp
theorem flat_len {L : List Ch} (h : ∀ c ∈ L, (chB c).length ≤ 40000) (j : Nat) (hj : j ≤ L.length) : ((L.take j).flatMap chB).length ≤ j * 40000 := by
  induction j with
  | zero => simp
  | succ j ih =>
    rw [putB_take (by omega), List.length_append]
    have := ih (by omega)
    have := h L[j] (List.getElem_mem _)
    omega
theorem put_bad (A : Option Addr) (n c : Nat) (L : List Ch) (w : World) (h : RTb w A n L) (hn : n ≤ 100000000) (hb : ∀ c ∈ L, c.k.n ≤ maxLen ∧ c.v.n ≤ maxLen) (hbad : chsOk L = false) :
    Calls Try.prog 30 #[.slice A n c] w fun e w' => e = .returned (.tuple #[.slice none 0 0, .iface 36 (.int .i64 2)]) ∧ New w w' := by
  have HC := Lib.hid (rights_any A n c L w h.rd h.len hn hb)
  rw [hbad] at HC
  clear h hn hb hbad
  go_enter Try.func30, Try.ntmps30
  go_wp2_with fail
  refine HC.out.mono ?_
  rintro e w1 ⟨rfl, hN1⟩
  have HN1 := Lib.hid hN1
  clear hN1 HC
  go_wp2_with fail
  go_ret2
  exact ⟨rfl, HN1.out⟩
/-- What stands in a round of Put. -/
def PutI (w : World) (g j n : Nat) (L : List Ch) (wr : World) : Prop := New w wr ∧ w.heap.size ≤ g ∧ WrIn wr g g (beL 2 n ++ (L.take j).flatMap chB)
def BoxS (b : Nat) (k v d : Value) (w : World) : Prop := w.cell? ⟨b, 0, none⟩ = some k ∧ w.cell? ⟨b, 1, none⟩ = some v ∧ w.cell? ⟨b, 2, none⟩ = some d
theorem BoxS.of {W : World} {b : Nat} {k v d : Value} (h : Blk W b 41 #[k, v, d]) : BoxS b k v d W := ⟨h.cell 0, h.cell 1, h.cell 2⟩
set_option maxHeartbeats 8000000 in
set_option maxRecDepth 100000 in
theorem put_any (A : Option Addr) (n c : Nat) (L : List Ch) (w : World) (h : RTb w A n L) (hok : chsOk L = true) :
    Calls Try.prog 30 #[.slice A n c] w fun e w' => (∃ A' c' base, e = .returned (.tuple #[.slice A' (putB L).length c', .nilIface]) ∧ w.heap.size ≤ base ∧ w'.ownsRow base 5 1 (.slice A' (putB L).length c') (putB L).length (u8s (putB L))) ∧ New w w' := by
  obtain ⟨hl1, hl2, hch⟩ := chsOk_spec hok
  have hn6 : n ≤ 600 := by have := h.len; omega
  have HC := Lib.hid (rights_any A n c L w h.rd h.len (by omega) (fun c hc => by have := hch c hc; unfold maxLen; omega))
  rw [hok] at HC
  have hcl : ∀ c ∈ L, (chB c).length ≤ 40000 := fun c hc => by
    have h1 := chB_len (h.el c hc).k.len (h.el c hc).v.len
    have := hch c hc
    omega
  have HCL := Lib.hid hcl
  have H := Lib.hid h
  have HCH := Lib.hid hch
  clear h hok hl1 hl2 hch hcl
  go_enter Try.func30, Try.ntmps30
  go_wp2_with fail
  refine HC.out.mono ?_
  rintro e w1 ⟨rfl, hN1⟩
  have HN1 := Lib.hid hN1
  clear hN1 HC
  go_upto_region 4 with fail
  obtain ⟨w2, hw2⟩ : ∃ w2 : World, w2 = w1.alloc (.cells #[.nilIface, .slice none 0 0] 86) := ⟨_, rfl⟩
  obtain ⟨g, hg⟩ : ∃ g, g = w1.heap.size := ⟨_, rfl⟩
  have HN2 : Hid (New w w2) := Lib.hid (by rw [hw2]; exact New.al HN1.out _)
  have HW2 : Hid (WrIn w2 g g []) := Lib.hid ⟨⟨none, 0, by rw [hw2, hg]; exact Blk.new _ _ _, World.ownsRow_nil _ _ _ _⟩, Nat.le_refl _, fun x hx => nomatch hx⟩
  have HZ : Hid (w.heap.size ≤ g) := Lib.hid (by rw [hg]; exact HN1.out.size)
  rw [← hw2, ← hg]
  clear hw2 hg HN1
  go_wp2_with fail
  refine (wnum_any HW2.out n 2 (by omega) (by omega) (by simp)).mono ?_
  rintro e w3 ⟨rfl, hW3, hF3⟩
  have HI : Hid (PutI w g 0 n L w3) := Lib.hid ⟨hF3.toNew HN2.out HZ.out (Nat.le_refl _), HZ.out, by simpa using hW3⟩
  clear hW3 hF3 HW2 HN2
  go_wp2_with fail
  go_loopw [20] (fun i wr => ∃ (j : Nat), j ≤ n ∧ i = .int .i64 j ∧ Hid (PutI w g j n L wr)) (fun i _ => n - (intOf i).toNat)
  case atStart => exact ⟨0, Nat.zero_le _, rfl, HI⟩
  case round =>
    obtain ⟨j, hj, rfl, HR⟩ := hrel
    clear HI
    have hlen : (beL 2 n ++ (L.take j).flatMap chB).length ≤ 100000000 := by
      rw [List.length_append, beL_len]
      have := flat_len HCL.out j (by rw [H.out.len]; exact hj)
      omega
    have HLEN := Lib.hid hlen
    clear hlen
    by_cases hlt : j < n
    · as_aux_lemma =>
      obtain ⟨gA, o, hl, rfl, -, -, hrg⟩ := rd_row (f := Ch.cells) (L := L) (fun _ => rfl) (by omega) (HR.out.1.rd H.out.rd) hlt
      have c0 : wr.cell? ⟨gA, o + j * 3, none⟩ = some (.slice L[j].k.A L[j].k.n L[j].k.c) := hrg 0 _ rfl
      have c1 : wr.cell? ⟨gA, o + j * 3 + 1, none⟩ = some (.slice L[j].v.A L[j].v.n L[j].v.c) := hrg 1 _ rfl
      have c2 : wr.cell? ⟨gA, o + j * 3 + 2, none⟩ = some (.bool L[j].d) := hrg 2 _ rfl
      have hin := H.out.el L[j] (List.getElem_mem _)
      have hch := HCH.out L[j] (List.getElem_mem _)
      have hst := putB_take hl
      generalize L[j] = x at c0 c1 c2 hin hch hst
      obtain ⟨⟨kA, kn, kc, ks⟩, ⟨vA, vn, vc, vs⟩, d⟩ := x
      dsimp only at c0 c1 c2 hch
      have HIN := Lib.hid hin
      have HST := Lib.hid hst
      have hj0 : (0 : Int) ≤ (j : Int) := by omega
      have hjn : (j : Int) < (n : Int) := by omega
      clear hrg hl hin hst
      go_upto_region 8 with fail
      obtain ⟨w4, hw4⟩ : ∃ w4 : World, w4 = wr.alloc (.cells #[.slice kA kn kc, .slice vA vn vc, .bool d] 41) := ⟨_, rfl⟩
      obtain ⟨b6, hb6⟩ : ∃ b6, b6 = wr.heap.size := ⟨_, rfl⟩
      have HN4 : Hid (New wr w4) := Lib.hid (by rw [hw4]; exact New.al (New.refl _) _)
      have HB4 : Hid (Blk w4 b6 41 #[.slice kA kn kc, .slice vA vn vc, .bool d]) := Lib.hid (by rw [hw4, hb6]; exact Blk.new _ _ _)
      have HW4 := Lib.hid (HR.out.2.2.new HN4.out)
      have hgb : b6 ≠ g := by have := HR.out.2.2.lt; omega
      rw [← hw4, ← hb6]
      clear hw4 hb6 c0 c1 c2
      obtain ⟨xs, hxs⟩ : ∃ xs, xs = beL 2 n ++ (L.take j).flatMap chB := ⟨_, rfl⟩
      rw [← hxs] at HW4 HLEN
      have HXS := Lib.hid hxs
      clear hxs
      have hS0 : BoxS b6 (.slice kA kn kc) (.slice vA vn vc) (.bool d) w4.drew := BoxS.of HB4.out
      refine wp_region_mixH (BoxS b6 (.slice kA kn kc) (.slice vA vn vc) (.bool d)) [(true, 0), (true, 1), (true, 2), (true, 3), (true, 5), (true, 6), (false, 4), (false, 7)] (by kernel_rfl) (by kernel_rfl) hS0 (fun hne => ?_)
      have q0 : ∀ p : HW (BoxS b6 (.slice kA kn kc) (.slice vA vn vc) (.bool d)), p.w.cell? ⟨b6, 0, none⟩ = some (.slice kA kn kc) := fun p => p.h.1
      have q2 : ∀ p : HW (BoxS b6 (.slice kA kn kc) (.slice vA vn vc) (.bool d)), p.w.cell? ⟨b6, 2, none⟩ = some (.bool d) := fun p => p.h.2.2
      iterate 6 (refine mix_take (o := ⟨_, _, _, _, _, _⟩) rfl (fun K hK => ?_); go_simp; refine hK _ ?_; clear hK K)
      clear q0 q2 hne
      refine mix_act (o := ⟨_, _, _, _, _, _⟩) rfl (fun K hK => ?_) (.inl rfl)
      go_simp
      refine (wflag_any (HW4.out.new (New.dr (New.refl _))) (!d) (by have := HLEN.out; omega)).mono ?_
      rintro e w5 ⟨rfl, hW5, hF5⟩
      have HF5 : Hid (FW g g w4 w5) := Lib.hid ((FW.new (New.dr (New.refl _))).tr hF5)
      have HW5 := Lib.hid hW5
      have HB5 : Hid (Blk w5 b6 41 #[.slice kA kn kc, .slice vA vn vc, .bool d]) := Lib.hid (HF5.out.blk HB4.out (by decide) hgb)
      clear hW5 hF5
      refine hK.out _ _ (fun _ => BoxS.of HB5.out) ?_
      clear hK K
      have HN5 : Hid (New w w5) := Lib.hid (HF5.out.toNew (HR.out.1.tr HN4.out) HR.out.2.1 (Nat.le_refl _))
      refine mix_act (o := ⟨_, _, _, _, _, _⟩) rfl (fun K hK => ?_) (.inl rfl)
      go_simp
      refine (wbytes_any HW5.out kA kn kc ks (HN5.out.rd HIN.out.k.rd) HIN.out.k.byt (by omega) (by rw [List.length_append, List.length_singleton]; have := HLEN.out; omega) (fun k hk => ⟨by have := HR.out.2.1; omega, .inl (by have := HR.out.2.1; omega)⟩)).mono ?_
      rintro e w6 ⟨rfl, hW6, hF6⟩
      have HF6 : Hid (FW g g w4 w6) := Lib.hid (HF5.out.tr hF6)
      have HW6 := Lib.hid hW6
      have HB6 : Hid (Blk w6 b6 41 #[.slice kA kn kc, .slice vA vn vc, .bool d]) := Lib.hid (hF6.blk HB5.out (by decide) hgb)
      have HN6 : Hid (New w w6) := Lib.hid (hF6.toNew HN5.out HR.out.2.1 (Nat.le_refl _))
      clear hW6 hF6
      refine hK.out _ _ (fun _ => BoxS.of HB6.out) ?_
      clear hK K
      refine mix_done ?_
      have e1 : w6.cell? ⟨b6, 1, none⟩ = some (.slice vA vn vc) := HB6.out.cell 1
      have e2 : w6.cell? ⟨b6, 2, none⟩ = some (.bool d) := HB6.out.cell 2
      cases d
      · go_wp2_with fail
        refine (wbytes_any HW6.out vA vn vc vs (HN6.out.rd HIN.out.v.rd) HIN.out.v.byt (by omega) (by simp only [List.length_append, List.length_singleton, beL_len]; have := HLEN.out; have := HIN.out.k.len; dsimp only at this; omega) (fun k hk => ⟨by have := HR.out.2.1; omega, .inl (by have := HR.out.2.1; omega)⟩)).mono ?_
        rintro e w7 ⟨rfl, hW7, hF7⟩
        have HW7 := Lib.hid hW7
        have HN7 : Hid (New w w7) := Lib.hid (hF7.toNew HN6.out HR.out.2.1 (Nat.le_refl _))
        clear hW7 hF7 e1 e2
        go_wp2_with fail
        go_roundw
        case rel =>
          refine ⟨j + 1, by omega, by go_num, Lib.hid ⟨HN7.out, HR.out.2.1, ?_⟩⟩
          rw [HST.out]
          have := HW7.out
          rw [HXS.out] at this
          simpa [chB] using this
        case measure => simp [intOf]; omega
      · go_wp2_with fail
        go_roundw
        case rel =>
          refine ⟨j + 1, by omega, by go_num, Lib.hid ⟨HN6.out, HR.out.2.1, ?_⟩⟩
          rw [HST.out]
          have := HW6.out
          rw [HXS.out] at this
          simpa [chB] using this
        case measure => simp [intOf]; omega
    · as_aux_lemma =>
      obtain rfl : j = n := by omega
      have hp : beL 2 j ++ (L.take j).flatMap chB = putB L := by
        unfold putB
        rw [← H.out.len, List.take_length]
      have hW := HR.out.2.2
      have hlen := HLEN.out
      rw [hp] at hW hlen
      have HD := Lib.hid (wdone_any hW (by omega))
      clear hW hp hlen
      go_wp2_with fail
      refine HD.out.mono ?_
      rintro e w3 ⟨⟨A3, c3, rfl, hO3⟩, hN3⟩
      have HO3 := Lib.hid hO3
      have HN3 := Lib.hid hN3
      clear hO3 hN3 HD
      generalize hpl : (putB L).length = pl at *
      go_wp2_with fail
      go_ret2
      rw [hpl]
      exact ⟨⟨A3, c3, wr.heap.size, rfl, HR.out.1.size, HO3.out⟩, HR.out.1.tr HN3.out⟩
end Go.Proofs.Ytfhinmjpokollaa
