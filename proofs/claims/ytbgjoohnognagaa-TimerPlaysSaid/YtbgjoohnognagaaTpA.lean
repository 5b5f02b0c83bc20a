/- The document's timer: Tick, Place, Interval, Start. No condition but that its list can be read. -/
import Derived.Test.YtbgjoohnognagaaTmG
import Derived.Test.YtbgjoohnognagaaTyp
namespace Go.Proofs.Ytbgjoohnognagaa
open Go.RowKit

theorem rowT : RowOf Try.prog 48 5 := RowOf.mk' Try.underlying48 rfl (by kernel_rfl)
theorem rowQ : RowOf Try.prog 76 5 := RowOf.mk' Try.underlying76 rfl (by kernel_rfl)
theorem elQ : ElemOf Try.prog 46 76 5 40 := ElemOf.mk' (z := .agg #[.int .u64 0, .int .i64 0, .int .i64 0, .int .i64 0, .int .i64 0]) Try.underlying46 (by kernel_rfl) rfl (by decide)
/-- The document's timer as a value. -/
structure RT where
  lt : Int
  mt : Int
  lm : Int
  mean : Nat
  A : Option Addr
  n : Nat
  c : Nat
def RT.arr (t : RT) : Array Value := #[.int .i64 t.lt, .int .i64 t.mt, .int .i64 t.lm, .float .f64 t.mean, .slice t.A t.n t.c]
theorem RT.one (t : RT) : t.arr.all (·.oneCell') = true := by simp [RT.arr, Value.oneCell']
/-- Its list, where it lies. -/
structure RIn (w : World) (t : RT) (L : List Rn) : Prop where
  rd : RdT 76 w 5 t.A t.n (flat L)
  len : L.length = t.n
  le : t.n ≤ 1000
  nc : t.n ≤ t.c
theorem RIn.new {w w' : World} {t : RT} {L : List Rn} (h : RIn w t L) (hN : New w w') : RIn w' t L := ⟨h.rd.new hN, h.len, h.le, h.nc⟩
theorem RIn.fr {S : Nat → Prop} {w w' : World} {t : RT} {L : List Rn} (h : RIn w t L) (hf : Fr S w w') (hs : ∀ k, S k → ¬ IsT 76 w k) : RIn w' t L := ⟨h.rd.fr hf hs, h.len, h.le, h.nc⟩

theorem rtick_any (n : Int) (w : World) : Calls Try.prog 35 #[.int .i64 n] w fun e w' => e = .returned (.int .i64 (tickZ n)) ∧ w = w' := by
  by_cases h1 : n < 0
  · have HZ : Hid (tickZ n = 0) := Lib.hid (by unfold tickZ; rw [if_pos h1]; rfl)
    go_enter Try.func35, Try.ntmps35
    go_wp2_with fail
    go_ret
    exact ⟨by rw [HZ.out]; rfl, rfl⟩
  · by_cases h2 : 1099511627776 < n
    · have HZ : Hid (tickZ n = 1099511627776) := Lib.hid (by unfold tickZ; rw [if_neg h1, if_pos h2])
      go_enter Try.func35, Try.ntmps35
      go_wp2_with fail
      go_ret
      exact ⟨by rw [HZ.out]; rfl, rfl⟩
    · have HZ : Hid (tickZ n = n) := Lib.hid (by unfold tickZ; rw [if_neg h1, if_neg h2])
      go_enter Try.func35, Try.ntmps35
      go_wp2_with fail
      go_ret
      exact ⟨by rw [HZ.out]; rfl, rfl⟩

set_option maxHeartbeats 2000000 in
theorem rplace_any (t : RT) (L : List Rn) (a : Int) (w : World) (h : RIn w t L) :
    Calls Try.prog 34 #[.agg #[.int .i64 t.lt, .int .i64 t.mt, .int .i64 t.lm, .float .f64 t.mean, .slice t.A t.n t.c], .int .u64 a] w fun e w' => e = .returned (.int .i64 (placeI L a)) ∧ New w w' := by
  have HL := Lib.hid h.len
  have hle := h.le
  have HR := Lib.hid h.rd
  obtain ⟨lt, mt, lm, mean, A, n, c⟩ := t
  dsimp only at hle HL HR ⊢
  clear h
  go_enter Try.func34, Try.ntmps34
  go_wp2_with fail
  obtain ⟨w0, hw0⟩ : ∃ w0 : World, w0 = w.alloc (.cells #[.int .i64 lt, .int .i64 mt, .int .i64 lm, .float .f64 mean, .slice A n c] 48) := ⟨_, rfl⟩
  have HN0 : Hid (New w w0) := Lib.hid (by rw [hw0]; exact (New.refl w).al _)
  have hB0 : Blk w0 w.heap.size 48 #[.int .i64 lt, .int .i64 mt, .int .i64 lm, .float .f64 mean, .slice A n c] := by rw [hw0]; exact Blk.new _ _ _
  have b4 : w0.cell? ⟨w.heap.size, 4, none⟩ = some (.slice A n c) := hB0.cell 4
  have HR0 := Lib.hid (HR.out.new HN0.out)
  try rw [← hw0]
  clear hw0 hB0
  go_loop [5] (fun i => ∃ k : Nat, k ≤ n ∧ i = .int .i64 k ∧ Hid (∀ j, (hj : j < L.length) → j < k → L[j].n ≠ a)) (fun i => n - (intOf i).toNat)
  case atStart => exact ⟨0, Nat.zero_le _, rfl, Lib.hid (fun j _ h => absurd h (by omega))⟩
  case round =>
    obtain ⟨k, hk, rfl, hprev⟩ := hrel
    by_cases hlt : k < n
    · as_aux_lemma =>
      obtain ⟨g, o, hl, rfl, -, -, c0, -⟩ := rd_elem HR0.out hlt
      by_cases heq : L[k].n = a
      · have hq : (L[k].n == a) = true := by simpa using heq
        have HF := Lib.hid (placeI_some (place_some hl heq fun j hj => hprev.out j (by omega) hj))
        have HE := Lib.hid heq
        clear heq
        go_wp2_with fail
        go_ret
        exact ⟨by rw [HF.out]; rfl, HN0.out⟩
      · have hq : (L[k].n == a) = false := by simpa using heq
        have HE := Lib.hid heq
        clear heq
        go_wp2_with fail
        go_round
        case rel =>
          refine ⟨k + 1, by omega, by go_num, Lib.hid fun j h1 h2 => ?_⟩
          rcases Nat.lt_or_ge j k with h3 | h3
          · exact hprev.out j h1 h3
          · obtain rfl : j = k := by omega
            exact HE.out
        case measure => simp [intOf]; omega
    · as_aux_lemma =>
      obtain rfl : k = n := by omega
      have hfin : placeI L a = -1 := placeI_none (place_none fun j hj => hprev.out j hj (by have := HL.out; omega))
      have HF := Lib.hid hfin
      clear hfin
      go_wp2_with fail
      go_ret
      exact ⟨by rw [HF.out]; rfl, HN0.out⟩

set_option maxHeartbeats 8000000 in
theorem rinterval_any (t : RT) (r : Int) (w : World) (hr : TickR t.mean t.lt t.mt r) :
    Calls Try.prog 36 #[.agg #[.int .i64 t.lt, .int .i64 t.mt, .int .i64 t.lm, .float .f64 t.mean, .slice t.A t.n t.c]] w fun e w' => e = .returned (.int .i64 r) ∧ New w w' := by
  obtain ⟨lt, mt, lm, mean, A, n, c⟩ := t
  dsimp only at hr ⊢
  obtain ⟨w0, hw0⟩ : ∃ w0 : World, w0 = w.alloc (.cells #[.int .i64 lt, .int .i64 mt, .int .i64 lm, .float .f64 mean, .slice A n c] 48) := ⟨_, rfl⟩
  have HN0 : Hid (New w w0) := Lib.hid (by rw [hw0]; exact (New.refl w).al _)
  obtain ⟨x, w3, hr3, hg3, hb3⟩ := run_flt (P := Try.prog) .mul (by simp) 40 4611686018427387904 mean w0
  have HR := Lib.hid ((hr.1 x hg3).2)
  have HB : Hid (New w0 w3) := Lib.hid hb3
  have hB0 : Blk w0 w.heap.size 48 #[.int .i64 lt, .int .i64 mt, .int .i64 lm, .float .f64 mean, .slice A n c] := by rw [hw0]; exact Blk.new _ _ _
  have hB3 := HB.out.blk hB0
  have b3 : w0.cell? ⟨w.heap.size, 3, none⟩ = some (.float .f64 mean) := hB0.cell 3
  have e0 : w3.cell? ⟨w.heap.size, 0, none⟩ = some (.int .i64 lt) := hB3.cell 0
  have e1 : w3.cell? ⟨w.heap.size, 1, none⟩ = some (.int .i64 mt) := hB3.cell 1
  have HW0 := Lib.hid hw0
  clear hr hg3 hb3 hB0 hB3 hw0
  go_enter Try.func36, Try.ntmps36
  go_upto_region 1 with fail
  rw [← HW0.out]
  go_wp2_with fail
  refine (HR.out _).mono ?_
  rintro e w4 ⟨rfl, hN4⟩
  have HN4 : Hid (New w3 w4) := Lib.hid hN4
  clear hN4
  go_wp2_with fail
  go_ret
  exact ⟨rfl, (HN0.out.tr HB.out).tr HN4.out⟩
end Go.Proofs.Ytbgjoohnognagaa
