/- The program's reader of octets: numbers, bytes, flags, the end. No condition but that what is read can be read. -/
import Derived.Test.YtfhinmjpokollaaOcR
import Derived.Laws.BitsAllLaws
namespace Go.Proofs.Ytfhinmjpokollaa
set_option linter.unusedVariables false
set_option linter.unusedSimpArgs false
set_option linter.constructorNameAsVariable false
open Go.RowKit Go.Maps

theorem or_shl (v y : Nat) (hv : v < 256 ^ 7) (hy : y < 256) : bits .or .u64 ((v : Int) * 256) (y : Int) = ((v * 256 + y : Nat) : Int) := by
  rw [show (v : Int) * 256 = ((v * 256 : Nat) : Int) by simp, u64_or_nat _ _ (by omega) (by omega)]
  congr 1
  rw [show v * 256 = v <<< 8 by rw [Nat.shiftLeft_eq], Nat.shiftLeft_add_eq_or_of_lt (by omega)]
theorem raw_le (s : Rs) (n : Nat) : (s.raw n).1.length ≤ n := by
  unfold Rs.raw
  split
  · simp
  · simp; omega
theorem raw_byt {s : Rs} (h : Byt s.xs) (n : Nat) : Byt (s.raw n).1 := by
  unfold Rs.raw
  split
  · intro x hx; cases hx
  · exact fun x hx => h x (List.mem_of_mem_take hx)
set_option maxHeartbeats 2000000 in
theorem rnum_any {g : Nat} {s : Rs} {w : World} (h : RdIn w g s) (size : Nat) (hs : size = 1 ∨ size = 2 ∨ size = 4 ∨ size = 8) :
    Calls Try.prog 51 #[.pointer (some ⟨g, 0, none⟩), .int .i64 size] w fun x w' => x = .returned (.int .u64 (s.num size).1) ∧ RdIn w' g (s.num size).2 ∧ Fr (fun k => k = g) w w' := by
  have HS := Lib.hid (fun w => sized_yes size (by omega) w)
  have HW := Lib.hid (rraw_any h size (by omega))
  have hle := raw_le s size
  have hby := raw_byt h.byt size
  unfold Rs.num
  dsimp only
  obtain ⟨bs, hbs⟩ : ∃ bs, bs = (s.raw size).1 := ⟨_, rfl⟩
  rw [← hbs] at HW hle hby ⊢
  obtain ⟨m, hm⟩ : ∃ m, m = bs.length := ⟨_, rfl⟩
  rw [← hm] at HW hle
  have hm8 : m ≤ 8 := by omega
  have HM := Lib.hid hm
  have HBY := Lib.hid hby
  clear hbs hm hby h hs
  go_enter Try.func51, Try.ntmps51
  go_wp2_with fail
  refine (HS.out _).mono ?_
  rintro e w1 ⟨rfl, rfl⟩
  go_wp2_with fail
  refine HW.out.mono ?_
  rintro e w2 ⟨⟨A, c, rfl, hO⟩, hR, hF⟩
  have HO := Lib.hid hO
  have HR := Lib.hid hR
  have HF := Lib.hid hF
  clear hO hR hF HW HS
  go_wp2_with fail
  go_loop [5, 18] (fun n i => ∃ j : Nat, j ≤ m ∧ i = .int .i64 j ∧ n = .int .u64 (valL (bs.take j))) (fun n i => m - (intOf i).toNat)
  case atStart => exact ⟨0, Nat.zero_le _, rfl, rfl⟩
  case round =>
    obtain ⟨j, hj, rfl, rfl⟩ := hrel
    by_cases hlt : j < m
    · obtain ⟨gA, o, rfl, -, -, hq⟩ := (Rd.own HO.out rfl).out (by omega) (by omega)
      have hjl : j < bs.length := by rw [← HM.out]; exact hlt
      have hcell : w2.cell? ⟨gA, o + j, none⟩ = some (.int .u8 bs[j]) := hq j _ (by simp [u8s, hjl])
      have hst := valL_take hjl
      have hb := HBY.out bs[j] (List.getElem_mem _)
      have hv := valL_lt (xs := bs.take j) (fun x hx => HBY.out x (List.mem_of_mem_take hx))
      rw [List.length_take, Nat.min_eq_left (by omega)] at hv
      have hv7 : valL (bs.take j) < 256 ^ 7 := Nat.lt_of_lt_of_le hv (Nat.pow_le_pow_right (by decide) (by omega))
      generalize bs[j] = x at hcell hst hb
      generalize valL (bs.take j) = v at hst hv7 ⊢
      obtain ⟨y, rfl⟩ : ∃ y : Nat, x = (y : Int) := ⟨x.toNat, by omega⟩
      have HST := Lib.hid hst
      have hy : y < 256 := by omega
      have hj0 : (0 : Int) ≤ (j : Int) := by omega
      have hjm : (j : Int) < (m : Int) := by omega
      clear hst hq hv hb hjl
      go_wp2_with fail
      refine ⟨⟨j + 1, by omega, by go_num, ?_⟩, by simp [intOf]; omega⟩
      rw [HST.out, or_shl v y hv7 hy]
      simp
    · obtain rfl : j = m := by omega
      go_wp2_with fail
      go_ret
      rw [List.take_of_length_le (by rw [← HM.out]; exact Nat.le_refl _)]
      exact ⟨rfl, HR.out, HF.out⟩
theorem or_i64 (x y : Nat) (hx : x < 256) (hy : y < 256) : bits .or .i64 ((x : Int) * 256) (y : Int) = ((x * 256 + y : Nat) : Int) := by
  rw [bits_join .i64 63 (by decide) (fun n h0 h1 => IntWalk.i64_in n (by omega)) 8 _ _ (by omega) (by omega) (by omega) (by omega) (by omega) (by omega)]
  simp
theorem val2 {xs : List Int} (hb : Byt xs) (h : 2 ≤ xs.length) : ∃ x y : Nat, x < 256 ∧ y < 256 ∧ xs[0]? = some (x : Int) ∧ xs[1]? = some (y : Int) ∧ valL (xs.take 2) = x * 256 + y := by
  match xs, h with
  | a :: b :: r, _ =>
    have ha := hb a (by simp)
    have hbb := hb b (by simp)
    refine ⟨a.toNat, b.toNat, by omega, by omega, by simp; omega, by simp; omega, by simp [valL]⟩
theorem RdIn.left1 {g : Nat} {s : Rs} {w : World} (h : RdIn w g s) (hl : 0 < s.left) : ∃ gA o c, Blk w g 115 #[.nilIface, .slice (some ⟨gA, o, none⟩) s.xs.length c] ∧ (∀ j x, s.xs[j]? = some x → w.cell? ⟨gA, o + j, none⟩ = some (.int .u8 x)) ∧ s.left = s.xs.length := by
  obtain ⟨he, hle⟩ := left_zero hl
  obtain ⟨A, c, hb, hr, hc⟩ := h.st
  obtain ⟨gA, o, rfl, -, -, hq⟩ := Rd.out hr (by omega) (by omega)
  rw [he, errV_zero] at hb
  refine ⟨gA, o, c, hb, fun j x hx => hq j _ ?_, hle⟩
  unfold u8s
  rw [List.getElem?_map, hx]
  rfl
set_option maxHeartbeats 4000000 in
theorem rbytes_any {g : Nat} {s : Rs} {w : World} (h : RdIn w g s) (most : Nat) (hmost : most ≤ 140737488355328) :
    Calls Try.prog 53 #[.pointer (some ⟨g, 0, none⟩), .int .i64 most] w fun x w' => (∃ A c, x = .returned (.slice A (s.bytes most).1.length c) ∧ ∃ base, w.heap.size ≤ base ∧ w'.ownsRow base 5 1 (.slice A (s.bytes most).1.length c) (s.bytes most).1.length (u8s (s.bytes most).1)) ∧ RdIn w' g (s.bytes most).2 ∧ Fr (fun k => k = g) w w' := by
  have HL := Lib.hid (rleft_any h)
  have HFL := Lib.hid (rfail_any h 2 (by omega))
  have hll := left_le s
  have hlen := h.len
  by_cases hl2 : s.left < 2
  · have hx : s.bytes most = ([], s.bad 2) := by unfold Rs.bytes; rw [if_pos hl2]
    rw [hx]
    generalize s.left = l at *
    clear hx
    have hd : decide ((l : Int) < 2) = true := decide_eq_true (by omega)
    go_enter Try.func53, Try.ntmps53
    go_wp2_with fail
    refine HL.out.mono ?_
    rintro e w1 ⟨rfl, rfl⟩
    go_wp2_with fail
    refine HFL.out.mono ?_
    rintro e w2 ⟨rfl, hR2, hF2⟩
    have HR2 := Lib.hid hR2
    have HF2 := Lib.hid hF2
    clear hR2 hF2
    go_wp2_with fail
    go_ret
    exact ⟨⟨none, 0, rfl, w.heap.size, Nat.le_refl _, World.ownsRow_nil _ _ _ _⟩, HR2.out, HF2.out⟩
  · obtain ⟨gA, o, c, hb, hq, hle⟩ := h.left1 (by omega)
    obtain ⟨x, y, hx, hy, h0, h1, hv⟩ := val2 h.byt (by omega)
    have k0 : w.cell? ⟨gA, o, none⟩ = some (.int .u8 x) := hq 0 _ h0
    have k1 : w.cell? ⟨gA, o + 1, none⟩ = some (.int .u8 y) := hq 1 _ h1
    have c1 : w.cell? ⟨g, 1, none⟩ = some (.slice (some ⟨gA, o, none⟩) s.xs.length c) := hb.cell 1
    have hor := or_i64 x y hx hy
    obtain ⟨v, hvv⟩ : ∃ v, v = x * 256 + y := ⟨_, rfl⟩
    rw [← hvv] at hv hor
    have hv16 : v < 65536 := by omega
    have hlx : s.xs.length = s.left := hle.symm
    rw [hlx] at c1
    have hR2 := rraw_any h 2 (by omega)
    have H := Lib.hid h
    by_cases hbad : most < v ∨ s.left - 2 < v
    · have hxb : s.bytes most = ([], s.bad 2) := by unfold Rs.bytes; rw [if_neg hl2, hv, if_pos hbad]
      rw [hxb]
      have hlb : s.left ≤ 140737488355328 := by omega
      clear hxb hR2 hlx hle hll
      obtain ⟨l, hl⟩ : ∃ l, l = s.left := ⟨_, rfl⟩
      rw [← hl] at HL c1 hl2 hbad hlb
      have HL2 := Lib.hid hl.symm
      clear hl
      have hd : decide ((l : Int) < 2) = false := decide_eq_false (by omega)
      clear hvv h h0 h1 hq hb hv
      by_cases hb1 : most < v
      · have hdb : decide (most < v) = true := decide_eq_true (by omega)
        go_enter Try.func53, Try.ntmps53
        go_wp2_with fail
        refine HL.out.mono ?_
        rintro e w1 ⟨rfl, rfl⟩
        go_wp2_with fail
        go_quiet (fail)
        obtain ⟨wq, hwq⟩ : ∃ wq : World, wq = w.drewN nq := ⟨_, rfl⟩
        have HNQ : Hid (New w wq) := Lib.hid (by rw [hwq]; exact New.dn (New.refl _) _)
        have HFQ := Lib.hid (rfail_any (H.out.new HNQ.out) 2 (by omega))
        rw [← hwq]
        clear hwq k0 k1 c1 hor
        go_wp2_with fail
        refine HFQ.out.mono ?_
        rintro e w2 ⟨rfl, hR3, hF3⟩
        have HR3 := Lib.hid hR3
        have HF3 := Lib.hid ((HNQ.out.toFr _).trans hF3)
        clear hR3 hF3
        go_wp2_with fail
        go_ret
        exact ⟨⟨none, 0, rfl, w.heap.size, Nat.le_refl _, World.ownsRow_nil _ _ _ _⟩, HR3.out, HF3.out⟩
      · have hdb : decide (most < v) = false := decide_eq_false (by omega)
        have hdc : decide ((l : Int) - 2 < (v : Int)) = true := decide_eq_true (by omega)
        go_enter Try.func53, Try.ntmps53
        go_wp2_with fail
        refine HL.out.mono ?_
        rintro e w1 ⟨rfl, rfl⟩
        go_wp2_with fail
        go_quiet (fail)
        obtain ⟨wq, hwq⟩ : ∃ wq : World, wq = w.drewN nq := ⟨_, rfl⟩
        have HNQ : Hid (New w wq) := Lib.hid (by rw [hwq]; exact New.dn (New.refl _) _)
        have HFQ := Lib.hid (rfail_any (H.out.new HNQ.out) 2 (by omega))
        have HLQ := rleft_any (H.out.new HNQ.out)
        rw [HL2.out] at HLQ
        have HLQ := Lib.hid HLQ
        rw [← hwq]
        clear hwq k0 k1 c1 hor
        go_wp2_with fail
        refine HLQ.out.mono ?_
        rintro e w1 ⟨rfl, rfl⟩
        go_wp2_with fail
        refine HFQ.out.mono ?_
        rintro e w2 ⟨rfl, hR3, hF3⟩
        have HR3 := Lib.hid hR3
        have HF3 := Lib.hid ((HNQ.out.toFr _).trans hF3)
        clear hR3 hF3
        go_wp2_with fail
        go_ret
        exact ⟨⟨none, 0, rfl, w.heap.size, Nat.le_refl _, World.ownsRow_nil _ _ _ _⟩, HR3.out, HF3.out⟩
    · have hxb : s.bytes most = (s.raw 2).2.raw v := by unfold Rs.bytes; rw [if_neg hl2, hv, if_neg hbad]
      rw [hxb]
      obtain ⟨s2, hs2⟩ : ∃ s2, s2 = (s.raw 2).2 := ⟨_, rfl⟩
      rw [← hs2]
      obtain ⟨m3, hm3⟩ : ∃ m3, m3 = (s2.raw v).1.length := ⟨_, rfl⟩
      rw [← hm3]
      have HS2 := Lib.hid hs2
      have HM3 := Lib.hid hm3
      clear hs2 hm3
      have hlb : s.left ≤ 140737488355328 := by omega
      clear hxb hR2 hlx hle hll
      obtain ⟨l, hl⟩ : ∃ l, l = s.left := ⟨_, rfl⟩
      rw [← hl] at HL c1 hl2 hbad hlb
      have HL2 := Lib.hid hl.symm
      clear hl
      have hd : decide ((l : Int) < 2) = false := decide_eq_false (by omega)
      clear hvv h h0 h1 hq hb hv
      have hdb : decide (most < v) = false := decide_eq_false (by omega)
      have hdc : decide ((l : Int) - 2 < (v : Int)) = false := decide_eq_false (by omega)
      clear hbad
      go_enter Try.func53, Try.ntmps53
      go_wp2_with fail
      refine HL.out.mono ?_
      rintro e w1 ⟨rfl, rfl⟩
      go_wp2_with fail
      go_quiet (fail)
      obtain ⟨wq, hwq⟩ : ∃ wq : World, wq = w.drewN nq := ⟨_, rfl⟩
      have HNQ : Hid (New w wq) := Lib.hid (by rw [hwq]; exact New.dn (New.refl _) _)
      have HLQ := rleft_any (H.out.new HNQ.out)
      rw [HL2.out] at HLQ
      have HLQ := Lib.hid HLQ
      rw [← hwq]
      clear hwq k0 k1 c1 hor
      go_wp2_with fail
      refine HLQ.out.mono ?_
      rintro e w1 ⟨rfl, rfl⟩
      go_wp2_with fail
      refine (rraw_any (H.out.new HNQ.out) 2 (by omega)).mono ?_
      rintro e w2 ⟨⟨A2, c2, rfl, -⟩, hR3, hF3⟩
      have HR3 := Lib.hid hR3
      have HF3 : Hid (Fr (fun k => k = g) w w2) := Lib.hid ((HNQ.out.toFr _).trans hF3)
      clear hR3 hF3
      rw [← HS2.out] at HR3
      generalize (s.raw 2).1.length = m2
      have HW3 := Lib.hid (rraw_any HR3.out v (by omega))
      rw [← HM3.out] at HW3
      go_wp2_with fail
      refine HW3.out.mono ?_
      rintro e w3 ⟨⟨A3, c3, rfl, hO3⟩, hR4, hF4⟩
      have HO3 := Lib.hid hO3
      have HR4 := Lib.hid hR4
      have HF4 := Lib.hid (HF3.out.trans hF4)
      clear hO3 hR4 hF4
      go_wp2_with fail
      go_ret
      exact ⟨⟨A3, c3, rfl, w2.heap.size, HF3.out.size, HO3.out⟩, HR4.out, HF4.out⟩
theorem rend_any {g : Nat} {s : Rs} {w : World} (h : RdIn w g s) :
    Calls Try.prog 55 #[.pointer (some ⟨g, 0, none⟩)] w fun x w' => x = .returned (errV s.fin) ∧ w = w' := by
  obtain ⟨A, c, hb, hr, hc⟩ := h.st
  have c0 : w.cell? ⟨g, 0, none⟩ = some (errV s.e) := hb.cell 0
  have c1 : w.cell? ⟨g, 1, none⟩ = some (.slice A s.xs.length c) := hb.cell 1
  unfold Rs.fin
  clear hb hr hc h
  by_cases h0 : s.e = 0
  · rw [h0, errV_zero] at c0
    rw [if_neg (by omega)]
    obtain ⟨n, hn⟩ : ∃ n, n = s.xs.length := ⟨_, rfl⟩
    rw [← hn] at c1 ⊢
    clear hn h0
    by_cases hn : 0 < n
    · have hd : decide ((0 : Int) < (n : Int)) = true := decide_eq_true (by omega)
      rw [if_pos hn, errV_pos (by omega)]
      go_enter Try.func55, Try.ntmps55
      go_wp2_with fail
      go_ret
      exact ⟨rfl, rfl⟩
    · have hd : decide ((0 : Int) < (n : Int)) = false := decide_eq_false (by omega)
      rw [if_neg hn, errV_zero]
      go_enter Try.func55, Try.ntmps55
      go_wp2_with fail
      go_ret
      exact ⟨rfl, rfl⟩
  · rw [if_pos h0]
    rw [errV_pos h0] at c0 ⊢
    clear h0
    go_enter Try.func55, Try.ntmps55
    go_wp2_with fail
    go_ret
    exact ⟨rfl, rfl⟩
set_option maxHeartbeats 2000000 in
theorem rflag_any {g : Nat} {s : Rs} {w : World} (h : RdIn w g s) :
    Calls Try.prog 52 #[.pointer (some ⟨g, 0, none⟩)] w fun x w' => x = .returned (.bool s.flag.1) ∧ RdIn w' g s.flag.2 ∧ Fr (fun k => k = g) w w' := by
  have HL := Lib.hid (rleft_any h)
  have HFL := Lib.hid (rfail_any h 2 (by omega))
  have HN := Lib.hid (rnum_any h 1 (by omega))
  by_cases hl1 : s.left < 1
  · have hx : s.flag = (false, s.bad 2) := by unfold Rs.flag; rw [if_pos (.inl hl1)]
    rw [hx]
    generalize s.left = l at *
    clear hx h
    have hd : decide ((l : Int) < 1) = true := decide_eq_true (by omega)
    go_enter Try.func52, Try.ntmps52
    go_wp2_with fail
    refine HL.out.mono ?_
    rintro e w1 ⟨rfl, rfl⟩
    go_wp2_with fail
    refine HFL.out.mono ?_
    rintro e w2 ⟨rfl, hR2, hF2⟩
    have HR2 := Lib.hid hR2
    have HF2 := Lib.hid hF2
    clear hR2 hF2
    go_wp2_with fail
    go_ret
    exact ⟨rfl, HR2.out, HF2.out⟩
  · obtain ⟨gA, o, c, hb, hq, hle⟩ := h.left1 (by omega)
    have hxl : 0 < s.xs.length := by omega
    have h0 : s.xs[0]? = some s.xs[0] := List.getElem?_eq_getElem hxl
    have hby := h.byt s.xs[0] (List.getElem_mem _)
    have hhd : s.xs.headD 0 = s.xs[0] := by
      obtain ⟨xs, e⟩ := s
      match xs, hxl with
      | a :: r, _ => rfl
    have k0 : w.cell? ⟨gA, o, none⟩ = some (.int .u8 s.xs[0]) := hq 0 _ h0
    have c1 : w.cell? ⟨g, 1, none⟩ = some (.slice (some ⟨gA, o, none⟩) s.xs.length c) := hb.cell 1
    have hd : decide ((s.left : Int) < 1) = false := decide_eq_false (by omega)
    have hf : s.flag = if (1 : Int) < s.xs[0] then (false, s.bad 2) else (decide ((s.num 1).1 = 1), (s.num 1).2) := by
      unfold Rs.flag
      rw [hhd]
      by_cases h1 : (1 : Int) < s.xs[0]
      · rw [if_pos (.inr h1), if_pos h1]
      · rw [if_neg (by rintro (h | h) <;> omega), if_neg h1]
    rw [hf]
    rw [hle] at HL hd
    generalize s.xs[0] = x at *
    generalize s.xs.length = l at *
    clear hq hb hhd hf h0 hle hl1 h
    by_cases h1 : 1 < x
    · have hd1 : decide (1 < x) = true := decide_eq_true h1
      rw [if_pos h1]
      go_enter Try.func52, Try.ntmps52
      go_wp2_with fail
      refine HL.out.mono ?_
      rintro e w1 ⟨rfl, rfl⟩
      go_wp2_with fail
      refine HFL.out.mono ?_
      rintro e w2 ⟨rfl, hR2, hF2⟩
      have HR2 := Lib.hid hR2
      have HF2 := Lib.hid hF2
      clear hR2 hF2
      go_wp2_with fail
      go_ret
      exact ⟨rfl, HR2.out, HF2.out⟩
    · have hd1 : decide (1 < x) = false := decide_eq_false h1
      rw [if_neg h1]
      generalize (s.num 1).1 = v at *
      go_enter Try.func52, Try.ntmps52
      go_wp2_with fail
      refine HL.out.mono ?_
      rintro e w1 ⟨rfl, rfl⟩
      go_wp2_with fail
      refine HN.out.mono ?_
      rintro e w2 ⟨rfl, hR2, hF2⟩
      have HR2 := Lib.hid hR2
      have HF2 := Lib.hid hF2
      clear hR2 hF2
      go_wp2_with fail
      go_ret
      refine ⟨?_, HR2.out, HF2.out⟩
      congr 2
      by_cases hv : v = 1
      · subst hv; rfl
      · rw [decide_eq_false hv]
        simp
        omega
end Go.Proofs.Ytfhinmjpokollaa
