/- Ceil, Ticks, the reference's Ticks, RatioTicks' walk. No condition. -/
import Derived.Test.YtbgjoohnognagaaOrders
import Derived.Test.YtbgjoohnognagaaFloatF
namespace Go.Proofs.Ytbgjoohnognagaa
open Go.RowKit Ieee

/-- The ceiling of a double that is a number. -/
def ceilN (x : Nat) : Nat := double.write ((double.read x).integral .up)

theorem run_arch (x : Nat) (hx : x < 18446744073709551616) (w : World) : ∃ u w', (callFunc 50 #[.float .f64 x]).run Try.prog w = .ok (.value (.float .f64 u)) w' ∧ (nanB x = false → u = ceilN x) ∧ Below w.heap.size w w' := by
  have e : (callFunc 50 #[.float .f64 x]).run Try.prog w = (do pure (Next.value (← Extern.MathFloor.toIntegral "math.archCeil" .up #[.float .f64 x])) : Sem Next).run Try.prog w := by kernel_rfl
  rw [e]
  conv in Extern.MathFloor.toIntegral _ _ _ => whnf
  have hd : FloatKind.f64.decode x = double.read x := rfl
  rw [hd]
  cases hn : nanB x
  · refine ⟨ceilN x, w, ?_, fun _ => rfl, Below.refl _ _⟩
    rcases fin_or x with h | h | h
    · obtain ⟨m, a, e, _, _⟩ := read_fin x hx (of_decide_eq_true h)
      unfold ceilN
      rw [e]
      simp [FloatKind.encode]
      rfl
    · have e := read_inf x hx h
      unfold ceilN
      rw [e]
      simp [FloatKind.encode]
      rfl
    · rw [hn] at h; cases h
  · obtain ⟨t, e⟩ := read_of_nan hx hn
    rw [e]
    simp only
    by_cases hq : FloatKind.f64.format.quiet t = t
    · rw [if_pos hq]
      exact ⟨x, w, by simp, (fun h => absurd h (by simp)), Below.refl _ _⟩
    · rw [if_neg hq]
      apply Exists.intro
      refine ⟨w.drew, ?_, ?_, ?_⟩
      · simp [choose]
        rfl
      · exact fun h => absurd h (by simp)
      · exact (Below.refl _ _).drew

def Ceils (x : Nat) (w : World) (e : Ending) (w' : World) : Prop := ∃ u, e = .returned (.float .f64 u) ∧ (nanB x = false → u = ceilN x) ∧ Below w.heap.size w w'
theorem ceil_any (x : Nat) (hx : x < 18446744073709551616) (w : World) : Calls Try.prog 43 #[.float .f64 x] w (Ceils x w) := by
  obtain ⟨u, w1, hrun, hu, hb⟩ := run_arch x hx w
  have HU := Lib.hid hu
  clear hu hx
  go_enter Try.func43, Try.ntmps43
  go_wp2_with fail
  go_ret
  exact ⟨u, rfl, HU.out, hb⟩

theorem run_minI (a b : Int) (w : World) : (Builtin.min_ #[3, 3] 3 #[.int .i64 a, .int .i64 b]).run Try.prog w = .ok (.int .i64 (if b < a then b else a)) w := by
  by_cases h : b < a <;> simp [Builtin.min_, Builtin.min2, h]
/-- What Ticks of a number answers, or Ticks of what is none. -/
theorem ticks_low (x : Nat) (least most r : Int) (hx : x < 18446744073709551616) (hr : (if most < least then most else least) = r)
    (h : nanB x = true ∨ (nanB x = false ∧ (FloatKind.f64.format.order (ceilN x) (floatOfInt .f64 least) == some .lt || FloatKind.f64.format.order (ceilN x) (floatOfInt .f64 least) == some .eq) = true)) (w : World) :
    Calls Try.prog 31 #[.float .f64 x, .int .i64 least, .int .i64 most] w fun e w' => e = .returned (.int .i64 r) ∧ Below w.heap.size w w' := by
  have hm := fun w => run_minI least most w
  rw [hr] at hm
  have HX := Lib.hid hx
  clear hr hx
  rcases h with h | ⟨h, hc⟩
  · have HN := Lib.hid h
    clear h
    go_enter Try.func31, Try.ntmps31
    go_wp2_with fail
    refine (ceil_any x HX.out w).mono ?_
    rintro e w1 ⟨u, rfl, hu, b1⟩
    have HU := Lib.hid hu
    clear hu
    go_wp2_with fail
    refine (isnan_any x HX.out w1).mono ?_
    rw [HN.out]
    rintro e w2 ⟨rfl, rfl⟩
    go_wp2_with fail
    go_ret
    exact ⟨rfl, b1⟩
  · have HN := Lib.hid h
    clear h
    go_enter Try.func31, Try.ntmps31
    go_wp2_with fail
    refine (ceil_any x HX.out w).mono ?_
    rintro e w1 ⟨u, rfl, hu, b1⟩
    obtain rfl := hu HN.out
    clear hu
    go_wp2_with fail
    refine (isnan_any x HX.out w1).mono ?_
    rw [HN.out]
    rintro e w2 ⟨rfl, rfl⟩
    go_wp2_with fail
    go_ret
    exact ⟨rfl, b1⟩
theorem ticks_most (x : Nat) (least most : Int) (hx : x < 18446744073709551616) (h : nanB x = false)
    (hc : (FloatKind.f64.format.order (ceilN x) (floatOfInt .f64 least) == some .lt || FloatKind.f64.format.order (ceilN x) (floatOfInt .f64 least) == some .eq) = false)
    (hd : (FloatKind.f64.format.order (ceilN x) (floatOfInt .f64 most) == some .gt || FloatKind.f64.format.order (ceilN x) (floatOfInt .f64 most) == some .eq) = true) (w : World) :
    Calls Try.prog 31 #[.float .f64 x, .int .i64 least, .int .i64 most] w fun e w' => e = .returned (.int .i64 most) ∧ Below w.heap.size w w' := by
  have HX := Lib.hid hx
  have HN := Lib.hid h
  clear h hx
  go_enter Try.func31, Try.ntmps31
  go_wp2_with fail
  refine (ceil_any x HX.out w).mono ?_
  rintro e w1 ⟨u, rfl, hu, b1⟩
  obtain rfl := hu HN.out
  clear hu
  go_wp2_with fail
  refine (isnan_any x HX.out w1).mono ?_
  rw [HN.out]
  rintro e w2 ⟨rfl, rfl⟩
  go_wp2_with fail
  go_ret
  exact ⟨rfl, b1⟩
theorem ticks_mid (x : Nat) (least most n : Int) (hx : x < 18446744073709551616) (h : nanB x = false)
    (hc : (FloatKind.f64.format.order (ceilN x) (floatOfInt .f64 least) == some .lt || FloatKind.f64.format.order (ceilN x) (floatOfInt .f64 least) == some .eq) = false)
    (hd : (FloatKind.f64.format.order (ceilN x) (floatOfInt .f64 most) == some .gt || FloatKind.f64.format.order (ceilN x) (floatOfInt .f64 most) == some .eq) = false)
    (hn : floatToIntVal .f64 (ceilN x) .i64 = some n) (w : World) :
    Calls Try.prog 31 #[.float .f64 x, .int .i64 least, .int .i64 most] w fun e w' => e = .returned (.int .i64 n) ∧ Below w.heap.size w w' := by
  have HX := Lib.hid hx
  have HN := Lib.hid h
  have hv := fun w => run_convert_float_int (P := Try.prog) w 40 3 .f64 .i64 (ceilN x) n (by kernel_rfl) Try.underlying3 hn
  clear h hx hn
  go_enter Try.func31, Try.ntmps31
  go_wp2_with fail
  refine (ceil_any x HX.out w).mono ?_
  rintro e w1 ⟨u, rfl, hu, b1⟩
  obtain rfl := hu HN.out
  clear hu
  go_wp2_with fail
  refine (isnan_any x HX.out w1).mono ?_
  rw [HN.out]
  rintro e w2 ⟨rfl, rfl⟩
  go_wp2_with fail
  go_ret
  exact ⟨rfl, b1⟩

/-- The reference's Ticks: where the ceiling's place is known. -/
theorem rticks_at (x z u : Nat) (least most r : Int) (hx : x < 18446744073709551616) (hz : (if nanB x then floatOfInt .f64 least else x) = z) (hzl : z < 18446744073709551616) (hzn : nanB z = false) (hu : ceilN z = u) (cl cm cg ck : Bool) (hkk : decide (most < least) = ck)
    (hg : (FloatKind.f64.format.order u (floatOfInt .f64 least) == some .gt) = cg)
    (hc : (FloatKind.f64.format.order u (floatOfInt .f64 least) == some .lt || FloatKind.f64.format.order u (floatOfInt .f64 least) == some .eq) = cl)
    (hd : (FloatKind.f64.format.order u (floatOfInt .f64 most) == some .gt || FloatKind.f64.format.order u (floatOfInt .f64 most) == some .eq) = cm)
    (hk : (ck = true ∧ r = most) ∨ (ck = false ∧ cg = true ∧ cm = true ∧ r = most) ∨ (ck = false ∧ cg = false ∧ cl = true ∧ r = least) ∨ (ck = false ∧ cg = true ∧ cm = false ∧ cl = false ∧ floatToIntVal .f64 u .i64 = some r)) (w : World) :
    Calls Try.prog 45 #[.float .f64 x, .int .i64 least, .int .i64 most] w fun e w' => e = .returned (.int .i64 r) ∧ Below w.heap.size w w' := by
  have HX := Lib.hid hx
  have HZL := Lib.hid hzl
  have HZN := Lib.hid hzn
  have HU := Lib.hid hu
  have hv : floatToIntVal .f64 u .i64 = some r → ∀ w, (convert 40 3 (.float .f64 u)).run Try.prog w = .ok (.int .i64 r) w := fun hn w => run_convert_float_int (P := Try.prog) w 40 3 .f64 .i64 u r (by kernel_rfl) Try.underlying3 hn
  have HV := Lib.hid hv
  clear hx hzl hzn hu hv
  cases hn : nanB x
  all_goals
    rw [hn] at hz
    simp only [Bool.false_eq_true, if_false, if_true] at hz
    have HM := Lib.hid hn
    clear hn
    subst hz
    rcases hk with ⟨rfl, rfl⟩ | ⟨rfl, rfl, rfl, rfl⟩ | ⟨rfl, rfl, rfl, rfl⟩ | ⟨rfl, rfl, rfl, rfl, hq⟩
  all_goals
    first
      | (have hv := HV.out hq; clear hq)
      | skip
    go_enter Try.func45, Try.ntmps45
    go_wp2_with fail
    refine (rnan_any x HX.out w).mono ?_
    rw [HM.out]
    rintro e w1 ⟨rfl, rfl⟩
    go_wp2_with fail
    refine (ceil_any _ HZL.out w).mono ?_
    rintro e w1 ⟨u', rfl, hu, b1⟩
    obtain rfl := (hu HZN.out).trans HU.out
    clear hu
    go_wp2_with fail
    go_ret
    exact ⟨rfl, b1⟩

theorem ord_tests {u v : Nat} (hu : u < 18446744073709551616) (hv : v < 18446744073709551616) (nu : nanB u = false) (nv : nanB v = false) :
    (FloatKind.f64.format.order u v == some .lt || FloatKind.f64.format.order u v == some .eq) = decide (key u ≤ key v) ∧
    (FloatKind.f64.format.order u v == some .gt || FloatKind.f64.format.order u v == some .eq) = decide (key v ≤ key u) ∧
    (FloatKind.f64.format.order u v == some .gt) = decide (key v < key u) := by
  rcases Int.lt_trichotomy (key u) (key v) with h | h | h
  · rw [ord_lt hu hv nu nv h, decide_eq_true (show key u ≤ key v by omega), decide_eq_false (show ¬ key v ≤ key u by omega), decide_eq_false (show ¬ key v < key u by omega)]
    exact ⟨rfl, rfl, rfl⟩
  · rw [ord_eq hu hv nu nv h, decide_eq_true (show key u ≤ key v by omega), decide_eq_true (show key v ≤ key u by omega), decide_eq_false (show ¬ key v < key u by omega)]
    exact ⟨rfl, rfl, rfl⟩
  · rw [ord_gt hu hv nu nv h, decide_eq_false (show ¬ key u ≤ key v by omega), decide_eq_true (show key v ≤ key u by omega), decide_eq_true (show key v < key u by omega)]
    exact ⟨rfl, rfl, rfl⟩

theorem ceil_good {x : Nat} (hx : x < 18446744073709551616) (hn : nanB x = false) : ceilN x < 18446744073709551616 ∧ nanB (ceilN x) = false ∧ (key (ceilN x) = 9218868437227405312 ∨ key (ceilN x) = -9218868437227405312 ∨
    ∃ (s : Bool) (c q k : Nat), ceilN x = double.word s (rungW s c) ∧ c = q * 2 ^ k ∧ q < 9007199254740992) := by
  rcases fin_or x with h | h | h
  · obtain ⟨c, q, k, e, h1, h2, _⟩ := ceil_fin hx h
    have e' : ceilN x = _ := e
    obtain ⟨k1, k2, _⟩ := key_sgn_word (neg63 x) c
    rw [e']
    exact ⟨k1, k2, .inr (.inr ⟨_, c, q, k, rfl, h1, h2⟩)⟩
  · have e : ceilN x = double.word (neg63 x) 9218868437227405312 := by
      unfold ceilN
      rw [read_inf x hx h]
      rfl
    rw [e]
    cases neg63 x
    · exact ⟨by decide +kernel, by decide +kernel, .inl (by decide +kernel)⟩
    · exact ⟨by decide +kernel, by decide +kernel, .inr (.inl (by decide +kernel))⟩
  · rw [hn] at h; cases h

theorem rung_63 (s : Bool) : rungW s 9223372036854775808 = 4890909195324358656 := by cases s <;> decide +kernel
theorem rung_64 (s : Bool) : rungW s 18446744073709551616 = 4895412794951729152 := by cases s <;> decide +kernel
theorem key_range {n : Int} (h : n.natAbs ≤ 9223372036854775808) : -4890909195324358656 ≤ key (floatOfInt .f64 n) ∧ key (floatOfInt .f64 n) ≤ 4890909195324358656 := by
  rw [(key_int n).2.2.2]
  have := rungW_mono (decide (n < 0)) (decide (n < 0)) h
  rw [rung_63] at this
  unfold sgn
  split <;> omega

/-- Between two whole numbers' doubles a ceiling is a whole number between the two. -/
theorem ceil_mid {x : Nat} {least most : Int} (hx : x < 18446744073709551616) (hn : nanB x = false) (h1 : least.natAbs ≤ 9223372036854775808) (h2 : most.natAbs ≤ 9223372036854775808) (hl : -9223372036854775808 ≤ least) (hm : most ≤ 9223372036854775807)
    (hL : key (floatOfInt .f64 least) < key (ceilN x)) (hM : key (ceilN x) < key (floatOfInt .f64 most)) : ∃ n, floatToIntVal .f64 (ceilN x) .i64 = some n ∧ least ≤ n ∧ n ≤ most := by
  have r1 := key_range h1
  have r2 := key_range h2
  obtain ⟨_, _, h⟩ := ceil_good hx hn
  rcases h with h | h | ⟨s, c, q, k, e, hc, hq⟩
  · omega
  · omega
  · have hk := key_whole s c
    rw [← e] at hk
    have hb : c < 18446744073709551616 := by
      rcases Nat.lt_or_ge c 18446744073709551616 with h | h
      · exact h
      · have := rungW_mono s s h
        rw [rung_64] at this
        have hks := (key_sgn_word s c).2.2
        rw [← e] at hks
        unfold sgn at hks
        split at hks <;> omega
    have hlog : c.log2 ≤ 900 := by
      by_cases h0 : c = 0
      · rw [h0]; decide
      · have : c.log2 < 64 := (Nat.log2_lt h0).2 hb
        omega
    have hi := int_of s hq hc hlog
    rw [← e] at hi
    have a1 : least ≤ sgn s c := by
      rcases Int.lt_or_le (sgn s c) least with h | h
      · have := key_mono (Int.le_of_lt h); omega
      · exact h
    have a2 : sgn s c ≤ most := by
      rcases Int.lt_or_le most (sgn s c) with h | h
      · have := key_mono (Int.le_of_lt h); omega
      · exact h
    refine ⟨sgn s c, ?_, a1, a2⟩
    unfold floatToIntVal
    have hd : FloatKind.f64.decode (ceilN x) = double.read (ceilN x) := rfl
    rw [hd, hi]
    simp only
    rw [if_pos ⟨show (-9223372036854775808 : Int) ≤ _ by omega, show _ ≤ (9223372036854775807 : Int) by omega⟩]

theorem ticks_both (x : Nat) (least most : Int) (hx : x < 18446744073709551616) (hl : -9223372036854775808 ≤ least ∧ least ≤ 9223372036854775807) (hm : -9223372036854775808 ≤ most ∧ most ≤ 9223372036854775807) :
    ∃ r : Int, (∀ w : World, Calls Try.prog 31 #[.float .f64 x, .int .i64 least, .int .i64 most] w fun e w' => e = .returned (.int .i64 r) ∧ Below w.heap.size w w') ∧
      (∀ w : World, Calls Try.prog 45 #[.float .f64 x, .int .i64 least, .int .i64 most] w fun e w' => e = .returned (.int .i64 r) ∧ Below w.heap.size w w') ∧ r ≤ most ∧ (least ≤ r ∨ most < least) := by
  obtain ⟨l1, l2, _, _⟩ := key_int least
  obtain ⟨m1, m2, _, _⟩ := key_int most
  cases hn : nanB x
  · obtain ⟨u1, u2, _⟩ := ceil_good hx hn
    obtain ⟨tl, _, tg⟩ := ord_tests u1 l1 u2 l2
    obtain ⟨_, tm, _⟩ := ord_tests u1 m1 u2 m2
    have hz : (if nanB x then floatOfInt .f64 least else x) = x := by rw [hn]; rfl
    by_cases hU : key (ceilN x) ≤ key (floatOfInt .f64 least)
    · have hcl : decide (key (ceilN x) ≤ key (floatOfInt .f64 least)) = true := decide_eq_true hU
      have hcg : decide (key (floatOfInt .f64 least) < key (ceilN x)) = false := decide_eq_false (by omega)
      by_cases hk : most < least
      · refine ⟨most, ticks_low x least most most hx (if_pos hk) (.inr ⟨hn, tl.trans hcl⟩), rticks_at x x _ least most most hx hz hx hn rfl _ _ _ true (decide_eq_true hk) rfl rfl rfl (.inl ⟨rfl, rfl⟩), Int.le_refl _, .inr hk⟩
      · refine ⟨least, ticks_low x least most least hx (if_neg hk) (.inr ⟨hn, tl.trans hcl⟩), rticks_at x x _ least most least hx hz hx hn rfl _ _ _ false (decide_eq_false hk) (tg.trans hcg) (tl.trans hcl) rfl (.inr (.inr (.inl ⟨rfl, rfl, rfl, rfl⟩))), by omega, .inl (Int.le_refl _)⟩
    · have hcl : decide (key (ceilN x) ≤ key (floatOfInt .f64 least)) = false := decide_eq_false hU
      have hcg : decide (key (floatOfInt .f64 least) < key (ceilN x)) = true := decide_eq_true (by omega)
      by_cases hM : key (floatOfInt .f64 most) ≤ key (ceilN x)
      · have hcm : decide (key (floatOfInt .f64 most) ≤ key (ceilN x)) = true := decide_eq_true hM
        by_cases hk : most < least
        · exact ⟨most, ticks_most x least most hx hn (tl.trans hcl) (tm.trans hcm), rticks_at x x _ least most most hx hz hx hn rfl _ _ _ true (decide_eq_true hk) rfl rfl rfl (.inl ⟨rfl, rfl⟩), Int.le_refl _, .inr hk⟩
        · exact ⟨most, ticks_most x least most hx hn (tl.trans hcl) (tm.trans hcm), rticks_at x x _ least most most hx hz hx hn rfl _ _ _ false (decide_eq_false hk) (tg.trans hcg) rfl (tm.trans hcm) (.inr (.inl ⟨rfl, rfl, rfl, rfl⟩)), Int.le_refl _, .inl (by omega)⟩
      · have hcm : decide (key (floatOfInt .f64 most) ≤ key (ceilN x)) = false := decide_eq_false hM
        obtain ⟨n, h1, h2, h3⟩ := ceil_mid (least := least) (most := most) hx hn (by omega) (by omega) hl.1 hm.2 (by omega) (by omega)
        have hk : ¬ most < least := by omega
        exact ⟨n, ticks_mid x least most n hx hn (tl.trans hcl) (tm.trans hcm) h1, rticks_at x x _ least most n hx hz hx hn rfl _ _ _ false (decide_eq_false hk) (tg.trans hcg) (tl.trans hcl) (tm.trans hcm) (.inr (.inr (.inr ⟨rfl, rfl, rfl, rfl, h1⟩))), h3, .inl h2⟩
  · have hz : (if nanB x then floatOfInt .f64 least else x) = floatOfInt .f64 least := by rw [hn]; rfl
    obtain ⟨_, hkey⟩ := ceil_int least (by omega)
    have hkey : key (ceilN (floatOfInt .f64 least)) = key (floatOfInt .f64 least) := hkey
    obtain ⟨u1, u2, _⟩ := ceil_good l1 l2
    obtain ⟨tl, _, tg⟩ := ord_tests u1 l1 u2 l2
    have hcl : decide (key (ceilN (floatOfInt .f64 least)) ≤ key (floatOfInt .f64 least)) = true := decide_eq_true (by omega)
    have hcg : decide (key (floatOfInt .f64 least) < key (ceilN (floatOfInt .f64 least))) = false := decide_eq_false (by omega)
    by_cases hk : most < least
    · exact ⟨most, ticks_low x least most most hx (if_pos hk) (.inl hn), rticks_at x _ _ least most most hx hz l1 l2 rfl _ _ _ true (decide_eq_true hk) rfl rfl rfl (.inl ⟨rfl, rfl⟩), Int.le_refl _, .inr hk⟩
    · exact ⟨least, ticks_low x least most least hx (if_neg hk) (.inl hn), rticks_at x _ _ least most least hx hz l1 l2 rfl _ _ _ false (decide_eq_false hk) (tg.trans hcg) (tl.trans hcl) rfl (.inr (.inr (.inl ⟨rfl, rfl, rfl, rfl⟩))), by omega, .inl (Int.le_refl _)⟩

theorem i64_of {a : Int} (h : (Lit.int .i64 a).wf = true) : -9223372036854775808 ≤ a ∧ a ≤ 9223372036854775807 := by
  simpa [Lit.wf, IntKind.min, IntKind.max, IntKind.signed, IntKind.bits] using h
end Go.Proofs.Ytbgjoohnognagaa
