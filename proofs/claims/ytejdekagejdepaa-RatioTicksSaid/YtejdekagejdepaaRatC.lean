/- Compare, and the reference's Rank. No condition. -/
import Derived.Test.YtejdekagejdepaaRat
namespace Go.Proofs.Ytejdekagejdepaa
open Go.RowKit Ieee

theorem key_lo {x : Nat} (h : x < 9223372036854775808) : key x = x ∧ neg63 x = false := by
  have h1 : neg63 x = false := by unfold neg63; simp; omega
  refine ⟨?_, h1⟩
  unfold key rung; rw [h1, if_neg (by simp)]; omega
theorem key_hi {x : Nat} (h : 9223372036854775808 ≤ x) (hx : x < 18446744073709551616) : key x = -((x : Int) - 9223372036854775808) ∧ neg63 x = true := by
  have h1 : neg63 x = true := by unfold neg63; exact decide_eq_true h
  refine ⟨?_, h1⟩
  unfold key rung; rw [h1, if_pos rfl]; omega

theorem signbit_any (x : Nat) (hx : x < 18446744073709551616) (w : World) : Calls Try.prog 37 #[.float .f64 x] w fun e w' => e = .returned (.bool (neg63 x)) ∧ w = w' := by
  have ht := run_tob x
  by_cases h : x < 9223372036854775808
  · have hk := (key_lo h).2
    have hw : IntKind.i64.wrap (x : Int) = x := IntWalk.i64_in _ (by omega)
    have hd : decide ((x : Int) < 0) = false := by simp
    rw [hk]
    go_enter Try.func37, Try.ntmps37
    go_wp2_with fail
    go_ret
    exact ⟨rfl, rfl⟩
  · have hk := (key_hi (by omega) hx).2
    have hw : IntKind.i64.wrap (x : Int) = (x : Int) - 18446744073709551616 := by rw [IntKind.wrap_i64]; omega
    have hd : decide ((x : Int) - 18446744073709551616 < 0) = true := by simp; omega
    rw [hk]
    go_enter Try.func37, Try.ntmps37
    go_wp2_with fail
    go_ret
    exact ⟨rfl, rfl⟩
theorem sign_any (x : Nat) (hx : x < 18446744073709551616) (w : World) : Calls Try.prog 32 #[.float .f64 x] w fun e w' => e = .returned (.int .i64 (if neg63 x then 0 else 1)) ∧ w = w' := by
  cases hn : neg63 x
  all_goals
    go_enter Try.func32, Try.ntmps32
    go_wp2_with fail
    refine (signbit_any x hx w).mono ?_
    rintro e w1 ⟨rfl, rfl⟩
    go_wp2_with fail
    go_ret
    exact ⟨rfl, rfl⟩
/-- The sign of a difference. -/
def cmp3 (a b : Int) : Int := if a < b then -1 else if b < a then 1 else 0
theorem cmpf_any (x y : Nat) (hx : x < 18446744073709551616) (hy : y < 18446744073709551616) (nx : nanB x = false) (ny : nanB y = false) (w : World) :
    Calls Try.prog 33 #[.float .f64 x, .float .f64 y] w fun e w' => e = .returned (.int .i64 (cmp3 (key x) (key y))) ∧ w = w' := by
  rcases Int.lt_trichotomy (key x) (key y) with h | h | h
  · have ho := ord_lt hx hy nx ny h
    have hc : cmp3 (key x) (key y) = -1 := by unfold cmp3; rw [if_pos h]
    rw [hc]
    clear hc h
    go_enter Try.func33, Try.ntmps33
    go_wp2_with fail
    refine (cnan_any x hx w).mono ?_
    rintro e w1 ⟨rfl, rfl⟩
    go_wp2_with fail
    refine (cnan_any y hy w).mono ?_
    rintro e w1 ⟨rfl, rfl⟩
    go_wp2_with fail
    go_ret
    exact ⟨rfl, rfl⟩
  · have ho := ord_eq hx hy nx ny h
    have hc : cmp3 (key x) (key y) = 0 := by unfold cmp3; rw [if_neg (by omega), if_neg (by omega)]
    rw [hc]
    clear hc h
    go_enter Try.func33, Try.ntmps33
    go_wp2_with fail
    refine (cnan_any x hx w).mono ?_
    rintro e w1 ⟨rfl, rfl⟩
    go_wp2_with fail
    refine (cnan_any y hy w).mono ?_
    rintro e w1 ⟨rfl, rfl⟩
    go_wp2_with fail
    go_ret
    exact ⟨rfl, rfl⟩
  · have ho := ord_gt hx hy nx ny h
    have hc : cmp3 (key x) (key y) = 1 := by unfold cmp3; rw [if_neg (by omega), if_pos h]
    rw [hc]
    clear hc h
    go_enter Try.func33, Try.ntmps33
    go_wp2_with fail
    refine (cnan_any x hx w).mono ?_
    rintro e w1 ⟨rfl, rfl⟩
    go_wp2_with fail
    refine (cnan_any y hy w).mono ?_
    rintro e w1 ⟨rfl, rfl⟩
    go_wp2_with fail
    go_ret
    exact ⟨rfl, rfl⟩

/-- Where a number stands: the reference's Rank. -/
def rankN (x : Nat) : Nat := if nanB x then 18446744073709551615 else if 9223372036854775808 ≤ x then 18446744073709551615 - x else x + 9223372036854775808

theorem rnan_any (x : Nat) (hx : x < 18446744073709551616) (w : World) : Calls Try.prog 15 #[.float .f64 x] w fun e w' => e = .returned (.bool (nanB x)) ∧ w = w' := by
  cases hn : nanB x
  · have ho := ord_eq hx hx hn hn rfl
    go_enter Try.func15, Try.ntmps15
    go_wp2_with fail
    go_ret
    exact ⟨rfl, rfl⟩
  · have ho := ord_nan hx hx (Or.inl hn)
    go_enter Try.func15, Try.ntmps15
    go_wp2_with fail
    go_ret
    exact ⟨rfl, rfl⟩
theorem rank_any (x : Nat) (hx : x < 18446744073709551616) (w : World) : Calls Try.prog 13 #[.float .f64 x] w fun e w' => e = .returned (.int .u64 (rankN x : Nat)) ∧ w = w' := by
  have ht := run_tob x
  have HX := Lib.hid hx
  cases hn : nanB x
  · by_cases h : 9223372036854775808 ≤ x
    · have hr : ((rankN x : Nat) : Int) = 18446744073709551615 - (x : Int) := by unfold rankN; rw [hn]; simp [h]; omega
      have hd : decide ((9223372036854775808 : Int) ≤ (x : Int)) = true := by simp; omega
      have hw : IntKind.u64.wrap (18446744073709551615 - (x : Int)) = 18446744073709551615 - (x : Int) := IntWalk.u64_in _ (by omega)
      rw [hr]
      clear hr hx h
      go_enter Try.func13, Try.ntmps13
      go_wp2_with fail
      refine (rnan_any x HX.out w).mono ?_
      rw [hn]
      rintro e w1 ⟨rfl, rfl⟩
      go_wp2_with fail
      go_ret
      exact ⟨rfl, rfl⟩
    · have hr : ((rankN x : Nat) : Int) = (x : Int) + 9223372036854775808 := by unfold rankN; rw [hn]; simp [h]
      have hd : decide ((9223372036854775808 : Int) ≤ (x : Int)) = false := by simp; omega
      have hw : IntKind.u64.wrap ((x : Int) + 9223372036854775808) = (x : Int) + 9223372036854775808 := IntWalk.u64_in _ (by omega)
      rw [hr]
      clear hr hx h
      go_enter Try.func13, Try.ntmps13
      go_wp2_with fail
      refine (rnan_any x HX.out w).mono ?_
      rw [hn]
      rintro e w1 ⟨rfl, rfl⟩
      go_wp2_with fail
      go_ret
      exact ⟨rfl, rfl⟩
  · have hr : ((rankN x : Nat) : Int) = 18446744073709551615 := by unfold rankN; rw [hn]; rfl
    rw [hr]
    clear hr hx
    go_enter Try.func13, Try.ntmps13
    go_wp2_with fail
    refine (rnan_any x HX.out w).mono ?_
    rw [hn]
    rintro e w1 ⟨rfl, rfl⟩
    go_wp2_with fail
    go_ret
    exact ⟨rfl, rfl⟩

theorem cmp3_congr {a b c d : Int} (h1 : a < b ↔ c < d) (h2 : b < a ↔ d < c) : cmp3 a b = cmp3 c d := by unfold cmp3; simp only [h1, h2]
theorem rank_hi {x : Nat} (n : nanB x = false) (h : 9223372036854775808 ≤ x) (hx : x < 18446744073709551616) : ((rankN x : Nat) : Int) = 18446744073709551615 - x := by
  unfold rankN; rw [n]; simp [h]; omega
theorem rank_lo {x : Nat} (n : nanB x = false) (h : x < 9223372036854775808) : ((rankN x : Nat) : Int) = x + 9223372036854775808 := by
  unfold rankN; rw [n, if_neg (by simp), if_neg (by omega)]; omega
theorem z64 : 0 < 18446744073709551616 := Nat.succ_pos _
theorem nan0 : nanB 0 = false := by decide +kernel
theorem key0 : key 0 = 0 := by decide +kernel
/-- What Compare answers. -/
def cmpN (x y : Nat) : Int := cmp3 (rankN x) (rankN y)

theorem compare_any (x y : Nat) (hx : x < 18446744073709551616) (hy : y < 18446744073709551616) (w : World) :
    Calls Try.prog 14 #[.float .f64 x, .float .f64 y] w fun e w' => e = .returned (.int .i64 (cmpN x y)) ∧ w = w' := by
  have HX := Lib.hid hx
  have HY := Lib.hid hy
  cases nx : nanB x
  · cases ny : nanB y
    · by_cases h0 : key x = 0 ∧ key y = 0
      · obtain ⟨kx, ky⟩ := h0
        have o1 : FloatKind.f64.format.order x 0 = some .eq := ord_eq hx z64 nx nan0 (kx.trans key0.symm)
        have o2 : FloatKind.f64.format.order y 0 = some .eq := ord_eq hy z64 ny nan0 (ky.trans key0.symm)
        have hc : cmpN x y = (if neg63 x then 0 else 1) - (if neg63 y then 0 else 1) := by
          unfold cmpN cmp3 rankN
          rw [nx, ny]
          by_cases h1 : 9223372036854775808 ≤ x <;> by_cases h2 : 9223372036854775808 ≤ y
          · have e1 := key_hi h1 hx; have e2 := key_hi h2 hy
            rw [e1.2, e2.2]; simp [h1, h2]; omega
          · have e1 := key_hi h1 hx; have e2 := key_lo (show y < _ by omega)
            rw [e1.2, e2.2]; simp [h1, h2]; omega
          · have e1 := key_lo (show x < _ by omega); have e2 := key_hi h2 hy
            rw [e1.2, e2.2]; simp [h1, h2]; omega
          · have e1 := key_lo (show x < _ by omega); have e2 := key_lo (show y < _ by omega)
            rw [e1.2, e2.2]; simp [h1, h2]; omega
        rw [hc]
        clear hc hx hy kx ky
        cases sx : neg63 x <;> cases sy : neg63 y
        all_goals
          go_enter Try.func14, Try.ntmps14
          go_wp2_with fail
          refine (isnan_any x HX.out w).mono ?_
          rw [nx]
          rintro e w1 ⟨rfl, rfl⟩
          go_wp2_with fail
          refine (isnan_any y HY.out w).mono ?_
          rw [ny]
          rintro e w1 ⟨rfl, rfl⟩
          go_wp2_with fail
          refine (sign_any x HX.out w).mono ?_
          rw [sx]
          rintro e w1 ⟨rfl, rfl⟩
          go_wp2_with fail
          refine (sign_any y HY.out w).mono ?_
          rw [sy]
          rintro e w1 ⟨rfl, rfl⟩
          go_wp2_with fail
          go_ret
          exact ⟨rfl, rfl⟩
      · have hc : cmpN x y = cmp3 (key x) (key y) := by
          unfold cmpN
          by_cases h1 : 9223372036854775808 ≤ x <;> by_cases h2 : 9223372036854775808 ≤ y
          · have e1 := (key_hi h1 hx).1; have e2 := (key_hi h2 hy).1; have r1 := rank_hi nx h1 hx; have r2 := rank_hi ny h2 hy
            exact cmp3_congr (by omega) (by omega)
          · have e1 := (key_hi h1 hx).1; have e2 := (key_lo (show y < _ by omega)).1; have r1 := rank_hi nx h1 hx; have r2 := rank_lo ny (show y < _ by omega)
            exact cmp3_congr (by omega) (by omega)
          · have e1 := (key_lo (show x < _ by omega)).1; have e2 := (key_hi h2 hy).1; have r1 := rank_lo nx (show x < _ by omega); have r2 := rank_hi ny h2 hy
            exact cmp3_congr (by omega) (by omega)
          · have e1 := (key_lo (show x < _ by omega)).1; have e2 := (key_lo (show y < _ by omega)).1; have r1 := rank_lo nx (show x < _ by omega); have r2 := rank_lo ny (show y < _ by omega)
            exact cmp3_congr (by omega) (by omega)
        rw [hc]
        clear hc
        have HN := Lib.hid h0
        have fin : ∀ (o : Ordering) (p : Ordering), (FloatKind.f64.format.order x 0 = some o) → (FloatKind.f64.format.order y 0 = some p) → ((some o == some Ordering.eq) && (some p == some Ordering.eq)) = false →
            Calls Try.prog 14 #[.float .f64 x, .float .f64 y] w fun e w' => e = .returned (.int .i64 (cmp3 (key x) (key y))) ∧ w = w' := by
          intro o p o1 o2 hop
          clear h0 hx hy
          cases o <;> cases p <;> first | (cases hop; done) | skip
          all_goals
            clear hop
            go_enter Try.func14, Try.ntmps14
            go_wp2_with fail
            refine (isnan_any x HX.out w).mono ?_
            rw [nx]
            rintro e w1 ⟨rfl, rfl⟩
            go_wp2_with fail
            refine (isnan_any y HY.out w).mono ?_
            rw [ny]
            rintro e w1 ⟨rfl, rfl⟩
            go_wp2_with fail
            refine (cmpf_any x y HX.out HY.out nx ny w).mono ?_
            rintro e w1 ⟨rfl, rfl⟩
            go_wp2_with fail
            go_ret
            exact ⟨rfl, rfl⟩
        have hox : ∃ o, FloatKind.f64.format.order x 0 = some o ∧ (o = .eq ↔ key x = 0) := by
          rcases Int.lt_trichotomy (key x) 0 with h | h | h
          · exact ⟨_, ord_lt hx z64 nx nan0 (by rw [key0]; exact h), by simp; omega⟩
          · exact ⟨_, ord_eq hx z64 nx nan0 (by rw [key0]; exact h), by simp [h]⟩
          · exact ⟨_, ord_gt hx z64 nx nan0 (by rw [key0]; exact h), by simp; omega⟩
        have hoy : ∃ o, FloatKind.f64.format.order y 0 = some o ∧ (o = .eq ↔ key y = 0) := by
          rcases Int.lt_trichotomy (key y) 0 with h | h | h
          · exact ⟨_, ord_lt hy z64 ny nan0 (by rw [key0]; exact h), by simp; omega⟩
          · exact ⟨_, ord_eq hy z64 ny nan0 (by rw [key0]; exact h), by simp [h]⟩
          · exact ⟨_, ord_gt hy z64 ny nan0 (by rw [key0]; exact h), by simp; omega⟩
        obtain ⟨o, h1, h2⟩ := hox
        obtain ⟨p, h3, h4⟩ := hoy
        refine fin o p h1 h3 ?_
        by_cases ho : o = .eq
        · have hp : ¬ p = .eq := fun hp => h0 ⟨h2.1 ho, h4.1 hp⟩
          cases p <;> simp_all
        · cases o <;> simp_all
    · have hc : cmpN x y = -1 := by
        have hny : x % 9223372036854775808 ≤ 9218868437227405312 := by have := of_decide_eq_false nx; unfold rung at this; omega
        unfold cmpN cmp3 rankN
        rw [nx, ny]
        by_cases h1 : 9223372036854775808 ≤ x <;> simp [h1] <;> omega
      have nn : ¬ nanB x = true := by rw [nx]; simp
      rw [hc]
      clear hc hx hy
      go_enter Try.func14, Try.ntmps14
      go_wp2_with fail
      refine (isnan_any x HX.out w).mono ?_
      rw [nx]
      rintro e w1 ⟨rfl, rfl⟩
      go_wp2_with fail
      refine (isnan_any y HY.out w).mono ?_
      rw [ny]
      rintro e w1 ⟨rfl, rfl⟩
      go_wp2_with fail
      go_ret
      exact ⟨rfl, rfl⟩
  · cases ny : nanB y
    · have hc : cmpN x y = 1 := by
        have hny : y % 9223372036854775808 ≤ 9218868437227405312 := by have := of_decide_eq_false ny; unfold rung at this; omega
        unfold cmpN cmp3 rankN
        rw [nx, ny]
        by_cases h1 : 9223372036854775808 ≤ y <;> simp [h1] <;> omega
      rw [hc]
      clear hc hx hy
      go_enter Try.func14, Try.ntmps14
      go_wp2_with fail
      refine (isnan_any x HX.out w).mono ?_
      rw [nx]
      rintro e w1 ⟨rfl, rfl⟩
      go_wp2_with fail
      refine (isnan_any y HY.out w).mono ?_
      rw [ny]
      rintro e w1 ⟨rfl, rfl⟩
      go_wp2_with fail
      go_ret
      exact ⟨rfl, rfl⟩
    · have hc : cmpN x y = 0 := by
        unfold cmpN cmp3 rankN
        rw [nx, ny]
        simp
      rw [hc]
      clear hc hx hy
      go_enter Try.func14, Try.ntmps14
      go_wp2_with fail
      refine (isnan_any x HX.out w).mono ?_
      rw [nx]
      rintro e w1 ⟨rfl, rfl⟩
      go_wp2_with fail
      refine (isnan_any y HY.out w).mono ?_
      rw [ny]
      rintro e w1 ⟨rfl, rfl⟩
      go_wp2_with fail
      go_ret
      exact ⟨rfl, rfl⟩
end Go.Proofs.Ytejdekagejdepaa
