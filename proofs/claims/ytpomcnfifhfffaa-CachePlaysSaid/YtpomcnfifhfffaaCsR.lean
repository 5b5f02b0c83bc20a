/- The document's cache in memory; its Len and Drop. No condition. -/
import Derived.Test.YtpomcnfifhfffaaCsP
import Derived.Test.YtpomcnfifhfffaaTyp
import Derived.Test.YtpomcnfifhfffaaBs
import Derived.Test.YtpomcnfifhfffaaCaH
namespace Go.Proofs.Ytpomcnfifhfffaa
open Go.RowKit Go.Maps

/-- A reply that was kept, with the rows of its bytes. -/
structure GC where
  kv : KV
  A : Option Addr
  n : Nat
  c : Nat
  B : Option Addr
  k : Nat
  d : Nat
def GC.cells (a : GC) : List Value := [.int .u64 a.kv.id, .int .u64 a.kv.seq, .slice a.A a.n a.c, .slice a.B a.k a.d]
structure GC.Good (w : World) (a : GC) : Prop where
  id : 0 ≤ a.kv.id ∧ a.kv.id < 18446744073709551616
  seq : 0 ≤ a.kv.seq ∧ a.kv.seq < 18446744073709551616
  rdq : Rd (fun b => b < w.heap.size) w 1 a.A a.n (u8s a.kv.req)
  rdp : Rd (fun b => b < w.heap.size) w 1 a.B a.k (u8s a.kv.rep)
  bq : Byt a.kv.req
  bp : Byt a.kv.rep
  nq : a.n ≤ 1000000
  np : a.k ≤ 1000000
def flatG (L : List GC) : List Value := L.flatMap GC.cells
theorem flatG_app (L M : List GC) : flatG (L ++ M) = flatG L ++ flatG M := by simp [flatG]
theorem flatG_one (a : GC) : flatG [a] = a.cells := by simp [flatG]
theorem flatG_len (L : List GC) : (flatG L).length = L.length * 4 := by
  induction L with
  | nil => rfl
  | cons a L ih => simp [flatG, GC.cells] at ih ⊢; omega
theorem GC.one (a : GC) : ∀ u ∈ a.cells, u.oneCell' = true := by simp [GC.cells, Value.oneCell']
theorem flatG_cell (L : List GC) : ∀ u ∈ flatG L, u.oneCell' = true := fun u hu => by
  obtain ⟨a, _, h⟩ := List.mem_flatMap.1 hu
  exact a.one u h
theorem elG : ElemOf Try.prog 39 45 4 64 := ElemOf.mk' (z := .agg #[.int .u64 0, .int .u64 0, .slice none 0 0, .slice none 0 0]) Try.underlying39 (by kernel_rfl) rfl (by decide)
theorem rd_gc {p : Nat → Prop} {w : World} {A : Option Addr} {n : Nat} {L : List GC} (h : Rd p w 4 A n (flatG L)) (hL : L.length = n) {i : Nat} (hi : i < n) :
    ∃ (g o : Nat) (hl : i < L.length), A = some ⟨g, o, none⟩ ∧ p g ∧ g < w.heap.size ∧ w.cell? ⟨g, o + i * 4, none⟩ = some (.int .u64 L[i].kv.id) ∧ w.cell? ⟨g, o + i * 4 + 1, none⟩ = some (.int .u64 L[i].kv.seq) ∧
      w.cell? ⟨g, o + i * 4 + 2, none⟩ = some (.slice L[i].A L[i].n L[i].c) ∧ w.cell? ⟨g, o + i * 4 + 3, none⟩ = some (.slice L[i].B L[i].k L[i].d) := by
  obtain ⟨g, o, hA, hp, hg, hc⟩ := h.out (by omega) (by omega)
  have hl : i < L.length := by omega
  have key : ∀ j, j < 4 → (flatG L)[i * 4 + j]? = (L[i].cells)[j]? := fun j hj => fm_get GC.cells 4 L i j hl (fun _ _ => rfl) hj
  refine ⟨g, o, hl, hA, hp, hg, ?_, ?_, ?_, ?_⟩
  · exact hc (i * 4) _ (by have := key 0 (by omega); rw [Nat.add_zero] at this; rw [this]; rfl)
  · rw [Nat.add_assoc]; exact hc (i * 4 + 1) _ (by rw [key 1 (by omega)]; rfl)
  · rw [Nat.add_assoc]; exact hc (i * 4 + 2) _ (by rw [key 2 (by omega)]; rfl)
  · rw [Nat.add_assoc]; exact hc (i * 4 + 3) _ (by rw [key 3 (by omega)]; rfl)
def kvs (L : List GC) : List KV := L.map GC.kv
theorem cnt_take {L : List GC} {j : Nat} (hj : j < L.length) (a : Int) : cnt (kvs (L.take (j + 1))) a = cnt (kvs (L.take j)) a + if L[j].kv.id == a then 1 else 0 := by
  rw [List.take_succ_eq_append_getElem hj]
  unfold cnt kvs
  rw [List.map_append, List.filter_append, List.length_append]
  congr 1
  by_cases h : L[j].kv.id = a
  · simp [h]
  · simp [h]
theorem cnt_le (L : List KV) (a : Int) : cnt L a ≤ L.length := List.length_filter_le _ _

set_option maxHeartbeats 4000000 in
/-- Len. -/
theorem rlen_any {q : Nat → Prop} (A : Option Addr) (n c : Nat) (L : List GC) (a : Int) (w : World) (h : Rd q w 4 A n (flatG L)) (hL : L.length = n) (hn : n ≤ 1000000) (ha : 0 ≤ a ∧ a < 18446744073709551616) :
    Calls Try.prog 15 #[.slice A n c, .int .u64 a] w fun e w' => e = .returned (.int .i64 (cnt (kvs L) a)) ∧ w = w' := by
  have HR := Lib.hid h
  have HL := Lib.hid hL
  clear h hL
  go_enter Try.func15, Try.ntmps15
  go_wp2_with fail
  go_loopw [5, 6] (fun m i wr => ∃ (j : Nat), j ≤ n ∧ i = .int .i64 j ∧ m = .int .i64 (cnt (kvs (L.take j)) a) ∧ wr = w) (fun _ i _ => n - (intOf i).toNat)
  case atStart => exact ⟨0, Nat.zero_le _, rfl, rfl, rfl⟩
  case round =>
    obtain ⟨j, hj, rfl, rfl, rfl⟩ := hrel
    by_cases hlt : j < n
    · as_aux_lemma =>
      obtain ⟨gA, oA, hl, rfl, -, -, c0, -⟩ := rd_gc HR.out HL.out hlt
      have hst := cnt_take hl a
      have hle : cnt (kvs (L.take j)) a ≤ j := Nat.le_trans (cnt_le _ _) (by simp [kvs]; omega)
      generalize cnt (kvs (L.take j)) a = m at hst hle ⊢
      generalize L[j].kv.id = b at c0 hst
      by_cases hb : b = a
      · subst hb
        have HST := Lib.hid hst
        clear hst
        go_wp2_with fail
        go_roundw
        case rel => exact ⟨j + 1, by omega, by go_num, by rw [HST.out]; simp, trivial⟩
        case measure => simp [intOf]; omega
      · have hbn : (b == a) = false := by simpa using hb
        have HST := Lib.hid hst
        clear hst hb
        go_wp2_with fail
        go_roundw
        case rel => exact ⟨j + 1, by omega, by go_num, by rw [HST.out, hbn]; simp, trivial⟩
        case measure => simp [intOf]; omega
    · as_aux_lemma =>
      obtain rfl : j = n := by omega
      go_wp2_with fail
      go_ret
      rw [List.take_of_length_le (by rw [HL.out]; omega)]
      exact ⟨rfl, rfl⟩

/-- A list that is being made, in a slice of its own. -/
structure GI (base : Nat) (w0 : World) (M : List GC) (v : Value) (wr : World) : Prop where
  own : wr.ownsRow base 45 4 v M.length (flatG M)
  new : New w0 wr
theorem GI.nil (w : World) : GI w.heap.size w [] (.slice none 0 0) w := ⟨World.ownsRow_nil _ _ _ _, New.refl _⟩
/-- What the document's functions hand back. -/
def GEnd (w w' : World) (L : List GC) (e : Ending) : Prop := ∃ A c, e = .returned (.slice A L.length c) ∧ w'.ownsRow w.heap.size 45 4 (.slice A L.length c) L.length (flatG L)
theorem take_filter {L : List GC} {j : Nat} (hj : j < L.length) (p : GC → Bool) : (L.take (j + 1)).filter p = if p L[j] = true then (L.take j).filter p ++ [L[j]] else (L.take j).filter p := by
  rw [List.take_succ_eq_append_getElem hj, List.filter_append]
  split
  · next h => rw [List.filter_cons_of_pos h]; rfl
  · next h => rw [List.filter_cons_of_neg h]; simp
set_option maxHeartbeats 8000000 in
/-- Drop. -/
theorem rdrop_any (A : Option Addr) (n c : Nat) (L : List GC) (a : Int) (w : World) (h : RdT 45 w 4 A n (flatG L)) (hL : L.length = n) (hn : n ≤ 1000000) (ha : 0 ≤ a ∧ a < 18446744073709551616) :
    Calls Try.prog 16 #[.slice A n c, .int .u64 a] w fun e w' => GEnd w w' (L.filter fun x => x.kv.id != a) e ∧ New w w' := by
  have HR := Lib.hid h
  have HL := Lib.hid hL
  clear h hL
  go_enter Try.func16, Try.ntmps16
  go_wp2_with fail
  go_loopw [5, 6] (fun v i wr => ∃ (j : Nat), j ≤ n ∧ i = .int .i64 j ∧ Hid (GI w.heap.size w ((L.take j).filter fun x => x.kv.id != a) v wr)) (fun _ i _ => n - (intOf i).toNat)
  case atStart => exact ⟨0, Nat.zero_le _, rfl, Lib.hid (GI.nil w)⟩
  case round =>
    obtain ⟨j, hj, rfl, HI⟩ := hrel
    by_cases hlt : j < n
    · as_aux_lemma =>
      obtain ⟨gA, oA, hl, rfl, -, -, c0, c1, c2, c3⟩ := rd_gc (New.rd HI.out.new HR.out) HL.out hlt
      have hst := take_filter hl (fun x => x.kv.id != a)
      have hlen : ((L.take j).filter fun x => x.kv.id != a).length ≤ j := Nat.le_trans (List.length_filter_le _ _) (List.length_take_le _ _)
      obtain ⟨A2, d2, rfl, hnc, hcm, -, -⟩ := own_shape HI.out.own
      have HST := Lib.hid hst
      have HO := Lib.hid HI.out.own
      have HN := Lib.hid HI.out.new
      generalize ((L.take j).filter fun x => x.kv.id != a) = M at HST HO hlen hnc ⊢
      generalize L[j] = x at c0 c1 c2 c3 HST
      have hws : w.heap.size ≤ wr.heap.size := HN.out.size
      clear hst HI
      by_cases hb : x.kv.id = a
      · have hbn : (x.kv.id != a) = false := by simp [hb]
        go_wp2_with fail
        go_roundw
        case rel => exact ⟨j + 1, by omega, by go_num, Lib.hid ⟨by rw [HST.out, if_neg (by simp [hb])]; exact HO.out, HN.out⟩⟩
        case measure => simp [intOf]; omega
      · have hbn : (x.kv.id != a) = true := by simpa using hb
        have hbm : (x.kv.id == a) = false := by simpa using hb
        go_wp2_with (first | ((with_reducible refine atOpS ⟨some 25, .buildSlice _ _ _, _, _, _, _⟩ ?_); refine wpList_bs1 elG (by decide) rfl (.tmp 24) rfl x.cells.toArray rfl rfl ?_) | (at_builtin; refine wpList_app elG _ rfl (.tmp 20) (.tmp 25) rfl w.heap.size (.slice A2 M.length d2) M.length (flatG M) rfl (New.own (New.al (New.refl wr) _) HO.out) (some ⟨wr.heap.size, 0, none⟩) 1 1 x.cells rfl (Rd.ofBlk (p := fun _ => True) (t := 45) (cs := x.cells.toArray) (Blk.new' _ _ _ rfl) 4 1 rfl trivial) x.one (by unfold maxLen; omega) (by omega) (by simp; omega) ?_; intro A3 c3' w3 hO3 hF3 hA3; have HO3 := Lib.hid hO3; have HF3 := Lib.hid hF3; clear hO3 hF3 hA3))
        go_roundw
        case rel =>
          refine ⟨j + 1, by omega, by go_num, Lib.hid ⟨?_, ?_⟩⟩
          · rw [HST.out, if_pos hbn, List.length_append, flatG_app, flatG_one]
            exact HO3.out
          · exact ((HN.out).al _).fr HF3.out (fun q hq => (own_lt HO.out q hq).1)
        case measure => simp [intOf]; omega
    · as_aux_lemma =>
      obtain rfl : j = n := by omega
      have ht : L.take j = L := List.take_of_length_le (by rw [HL.out]; omega)
      rw [ht] at HI
      obtain ⟨A2, d2, rfl, hnc, hcm, -, -⟩ := own_shape HI.out.own
      clear ht
      go_wp2_with fail
      go_ret
      exact ⟨⟨A2, d2, rfl, HI.out.own⟩, HI.out.new⟩
end Go.Proofs.Ytpomcnfifhfffaa
