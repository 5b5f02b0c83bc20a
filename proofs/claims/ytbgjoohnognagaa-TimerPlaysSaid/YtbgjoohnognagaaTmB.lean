/- Timers: New, Interval, Start, Len, Mean, Sent. No condition but the timer's own. -/
import Derived.Test.YtbgjoohnognagaaTmA
import Derived.Deep.RegionWith
namespace Go.Proofs.Ytbgjoohnognagaa
open Go.RowKit

theorem new_bad (least most limit : Int) (w : World) (h : least < 1 ∨ most < least ∨ 65536 < most ∨ limit < 1 ∨ 1000 < limit) :
    Calls Try.prog 7 #[.int .i64 least, .int .i64 most, .int .i64 limit] w fun e w' => e = .returned (.tuple #[.pointer none, .iface 45 (.int .i64 1)]) ∧ w = w' := by
  by_cases h1 : least < 1
  · clear h
    go_enter Try.func7, Try.ntmps7
    go_wp2_with fail
    go_ret2
    exact ⟨rfl, rfl⟩
  have d1 : decide (least < 1) = false := decide_eq_false h1
  by_cases h2 : most < least
  · clear h h1
    go_enter Try.func7, Try.ntmps7
    go_wp2_with fail
    go_ret2
    exact ⟨rfl, rfl⟩
  have d2 : decide (most < least) = false := decide_eq_false h2
  by_cases h3 : 65536 < most
  · clear h h1 h2
    go_enter Try.func7, Try.ntmps7
    go_wp2_with fail
    go_ret2
    exact ⟨rfl, rfl⟩
  have d3 : decide (65536 < most) = false := decide_eq_false h3
  by_cases h4 : limit < 1
  · clear h h1 h2 h3
    go_enter Try.func7, Try.ntmps7
    go_wp2_with fail
    go_ret2
    exact ⟨rfl, rfl⟩
  have d4 : decide (limit < 1) = false := decide_eq_false h4
  have h5 : 1000 < limit := by omega
  clear h h1 h2 h3 h4
  go_enter Try.func7, Try.ntmps7
  go_wp2_with fail
  go_ret2
  exact ⟨rfl, rfl⟩
theorem new_any (least most limit : Int) (base : Nat) (w : World) (h1 : 1 ≤ least) (h2 : least ≤ most) (h3 : most ≤ 65536) (h4 : 1 ≤ limit) (h5 : limit ≤ 1000) (hb : base ≤ w.heap.size) :
    Calls Try.prog 7 #[.int .i64 least, .int .i64 most, .int .i64 limit] w fun e w' => e = .returned (.tuple #[.pointer (some ⟨w.heap.size, 0, none⟩), .nilIface]) ∧
      Tm w' base w.heap.size (.slice none 0 0) [] least most limit 9221120237041090561 ∧ New w w' := by
  have d1 : decide (least < 1) = false := decide_eq_false (by omega)
  have d2 : decide (most < least) = false := decide_eq_false (by omega)
  have d3 : decide (65536 < most) = false := decide_eq_false (by omega)
  have d4 : decide (limit < 1) = false := decide_eq_false (by omega)
  have d5 : decide (1000 < limit) = false := decide_eq_false (by omega)
  clear h1 h2 h3 h4 h5
  go_enter Try.func7, Try.ntmps7
  go_wp2_with (go_at_call 18; refine (nan_any _).mono ?_; rintro e w1 ⟨rfl, rfl⟩)
  go_ret2
  exact ⟨rfl, ⟨hb, Blk.new _ _ _, World.ownsRow_nil _ _ _ _, by simp⟩, New.al (New.refl _) _⟩

theorem len_nil (w : World) : Calls Try.prog 10 #[.pointer none] w fun e w' => e = .returned (.int .i64 0) ∧ w = w' := by
  go_enter Try.func10, Try.ntmps10
  go_wp2_with fail
  go_ret
  exact ⟨rfl, rfl⟩
theorem len_any (base g : Nat) (v : Value) (L : List Rn) (least most limit : Int) (mean : Nat) (w : World) (hT : Tm w base g v L least most limit mean) :
    Calls Try.prog 10 #[.pointer (some ⟨g, 0, none⟩)] w fun e w' => e = .returned (.int .i64 L.length) ∧ w = w' := by
  obtain ⟨A, c, rfl, hnc, hcm, -, -⟩ := own_shape hT.2.2.1
  have h4 : w.cell? ⟨g, 4, none⟩ = some (.slice A L.length c) := hT.2.1.cell 4
  clear hT
  go_enter Try.func10, Try.ntmps10
  go_wp2_with fail
  go_ret
  exact ⟨rfl, rfl⟩
theorem mean_nil (w : World) : Calls Try.prog 13 #[.pointer none] w fun e w' => e = .returned (.float .f64 9221120237041090561) ∧ w = w' := by
  go_enter Try.func13, Try.ntmps13
  go_wp2_with (go_at_call 18; refine (nan_any _).mono ?_; rintro e w1 ⟨rfl, rfl⟩)
  go_ret
  exact ⟨rfl, rfl⟩
theorem tmean_any (base g : Nat) (v : Value) (L : List Rn) (least most limit : Int) (mean : Nat) (w : World) (hT : Tm w base g v L least most limit mean) :
    Calls Try.prog 13 #[.pointer (some ⟨g, 0, none⟩)] w fun e w' => e = .returned (.float .f64 mean) ∧ w = w' := by
  have h4 : w.cell? ⟨g, 3, none⟩ = some (.float .f64 mean) := hT.2.1.cell 3
  clear hT
  go_enter Try.func13, Try.ntmps13
  go_wp2_with fail
  go_ret
  exact ⟨rfl, rfl⟩
theorem sent_nil (a : Int) (w : World) : Calls Try.prog 11 #[.pointer none, .int .u64 a] w fun e w' => e = .returned (.int .i64 0) ∧ New w w' := by
  go_enter Try.func11, Try.ntmps11
  go_wp2_with fail
  refine (place_nil a w).mono ?_
  rintro e w1 ⟨rfl, hb1⟩
  go_wp2_with fail
  go_ret
  exact ⟨rfl, hb1⟩
def sentOf (L : List Rn) (a : Int) : Int := match place L a with | some i => (L[i]?.map Rn.s).getD 0 | none => 0
theorem sent_any (base g : Nat) (v : Value) (L : List Rn) (least most limit : Int) (mean : Nat) (a : Int) (w : World) (hT : Tm w base g v L least most limit mean) :
    Calls Try.prog 11 #[.pointer (some ⟨g, 0, none⟩), .int .u64 a] w fun e w' => e = .returned (.int .i64 (sentOf L a)) ∧ New w w' := by
  have HT := Lib.hid hT
  rcases hp : place L a with _ | i
  · have HS : Hid (sentOf L a = 0) := Lib.hid (by simp [sentOf, hp])
    have HQ := Lib.hid (placeI_none hp)
    clear hp hT
    go_enter Try.func11, Try.ntmps11
    go_wp2_with fail
    refine (place_any base g v L least most limit mean a w HT.out).mono ?_
    rw [HQ.out]
    rintro e w1 ⟨rfl, hb1⟩
    go_wp2_with fail
    go_ret
    exact ⟨by rw [HS.out]; rfl, hb1⟩
  · obtain ⟨hi, _⟩ := place_lt hp
    have HS : Hid (sentOf L a = L[i].s) := Lib.hid (by simp [sentOf, hp, hi])
    have HQ := Lib.hid (placeI_some hp)
    obtain ⟨A, c, rfl, hnc, hcm, -, -⟩ := own_shape hT.2.2.1
    obtain ⟨g', o, hl, rfl, -, -, -, -, -, -, k4⟩ := rd_elem (Rd.own hT.2.2.1 rfl) hi
    have h4 : w.cell? ⟨g, 4, none⟩ = some (.slice (some ⟨g', o, none⟩) L.length c) := hT.2.1.cell 4
    clear hp hT
    go_enter Try.func11, Try.ntmps11
    go_wp2_with fail
    refine (place_any base g _ L least most limit mean a w HT.out).mono ?_
    rw [HQ.out]
    rintro e w1 ⟨rfl, hb1⟩
    have j4 := New.cell_ hb1 k4
    have i4 := New.cell_ hb1 h4
    go_wp2_with fail
    go_ret
    exact ⟨by rw [HS.out]; rfl, hb1⟩

/-- Ticks of what is no number. -/
theorem ticks_nan (x : Nat) (least most : Int) (hx : x < 18446744073709551616) (hn : nanB x = true) (hk : ¬ most < least) (hl : least.natAbs ≤ 9223372036854775808) :
    (∀ w : World, Calls Try.prog 31 #[.float .f64 x, .int .i64 least, .int .i64 most] w fun e w' => e = .returned (.int .i64 least) ∧ Below w.heap.size w w') ∧
      (∀ w : World, Calls Try.prog 45 #[.float .f64 x, .int .i64 least, .int .i64 most] w fun e w' => e = .returned (.int .i64 least) ∧ Below w.heap.size w w') := by
  obtain ⟨l1, l2, _, _⟩ := key_int least
  have hz : (if nanB x then floatOfInt .f64 least else x) = floatOfInt .f64 least := by rw [hn]; rfl
  obtain ⟨_, hkey⟩ := ceil_int least hl
  have hkey : key (ceilN (floatOfInt .f64 least)) = key (floatOfInt .f64 least) := hkey
  obtain ⟨u1, u2, _⟩ := ceil_good l1 l2
  obtain ⟨tl, _, tg⟩ := ord_tests u1 l1 u2 l2
  have hcl : decide (key (ceilN (floatOfInt .f64 least)) ≤ key (floatOfInt .f64 least)) = true := decide_eq_true (by omega)
  have hcg : decide (key (floatOfInt .f64 least) < key (ceilN (floatOfInt .f64 least))) = false := decide_eq_false (by omega)
  exact ⟨ticks_low x least most least hx (if_neg hk) (.inl hn), rticks_at x _ _ least most least hx hz l1 l2 rfl _ _ _ false (decide_eq_false hk) (tg.trans hcg) (tl.trans hcl) rfl (.inr (.inr (.inl ⟨rfl, rfl, rfl, rfl⟩)))⟩

/-- The interval that a mean makes. -/
def TickR (mean : Nat) (least most r : Int) : Prop :=
  (∀ x, Gives .mul 4611686018427387904 mean x → (∀ w : World, Calls Try.prog 31 #[.float .f64 x, .int .i64 least, .int .i64 most] w fun e w' => e = .returned (.int .i64 r) ∧ Below w.heap.size w w') ∧
    (∀ w : World, Calls Try.prog 45 #[.float .f64 x, .int .i64 least, .int .i64 most] w fun e w' => e = .returned (.int .i64 r) ∧ Below w.heap.size w w')) ∧ least ≤ r ∧ r ≤ most
theorem tickR_ex (mean : Nat) (least most : Int) (h1 : 1 ≤ least) (h2 : least ≤ most) (h3 : most ≤ 65536) : ∃ r, TickR mean least most r := by
  rcases hf : floatBits .mul .f64 4611686018427387904 mean with _ | q
  · refine ⟨least, fun x hx => ?_, Int.le_refl _, h2⟩
    have hn : nanB x = true := by have := hx.2; rw [hf] at this; exact this
    exact ticks_nan x least most hx.1 hn (by omega) (by omega)
  · by_cases hq : q < 18446744073709551616
    · obtain ⟨r, a, b, c, d⟩ := ticks_both q least most hq (by omega) (by omega)
      refine ⟨r, fun x hx => ?_, by omega, c⟩
      have e : x = q := by have := hx.2; rw [hf] at this; exact this
      subst e
      exact ⟨a, b⟩
    · refine ⟨least, fun x hx => ?_, Int.le_refl _, h2⟩
      have e : x = q := by have := hx.2; rw [hf] at this; exact this
      exact absurd hx.1 (by rw [e]; exact hq)

theorem interval_nil (w : World) : Calls Try.prog 16 #[.pointer none] w fun e w' => e = .returned (.int .i64 0) ∧ New w w' := by
  go_enter Try.func16, Try.ntmps16
  go_wp2_with fail
  go_ret
  exact ⟨rfl, New.refl w⟩
set_option maxHeartbeats 8000000 in
theorem interval_any (base g : Nat) (v : Value) (L : List Rn) (least most limit : Int) (mean : Nat) (r : Int) (w : World) (hT : Tm w base g v L least most limit mean) (hr : TickR mean least most r) :
    Calls Try.prog 16 #[.pointer (some ⟨g, 0, none⟩)] w fun e w' => e = .returned (.int .i64 r) ∧ New w w' := by
  have h0 : w.cell? ⟨g, 0, none⟩ = some (.int .i64 least) := hT.2.1.cell 0
  have h1 : w.cell? ⟨g, 1, none⟩ = some (.int .i64 most) := hT.2.1.cell 1
  have h3 : w.cell? ⟨g, 3, none⟩ = some (.float .f64 mean) := hT.2.1.cell 3
  have d0 : w.drew.cell? ⟨g, 0, none⟩ = some (.int .i64 least) := h0
  have d1 : w.drew.cell? ⟨g, 1, none⟩ = some (.int .i64 most) := h1
  have d3 : w.drew.cell? ⟨g, 3, none⟩ = some (.float .f64 mean) := h3
  obtain ⟨x, w3, hr3, hg3, hb3⟩ := run_flt (P := Try.prog) .mul (by simp) 40 4611686018427387904 mean w.drew
  have HR := Lib.hid ((hr.1 x hg3).1)
  have HB : Hid (New w.drew w3) := Lib.hid hb3
  have e0 := New.cell_ HB.out d0
  have e1 := New.cell_ HB.out d1
  clear hT hr hg3 hb3
  go_enter Try.func16, Try.ntmps16
  go_wp2_with fail
  go_region_with (go_at_call 31; refine (HR.out _).mono ?_; rintro e w4 ⟨rfl, hN4⟩; have HN4 : Hid (New w3 w4) := Lib.hid hN4; clear hN4)
  all_goals
    go_wp2_with fail
    go_ret
    exact ⟨rfl, ((New.dr (New.refl w)).tr HB.out).tr HN4.out⟩
end Go.Proofs.Ytbgjoohnognagaa
