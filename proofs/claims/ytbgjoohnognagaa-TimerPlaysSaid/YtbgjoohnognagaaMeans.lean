/- Hold, Mean, Due, the reference's Hold, Finite and Mean. No condition. -/
import Derived.Test.YtbgjoohnognagaaShareL
import Derived.Test.YtbgjoohnognagaaFloatD
namespace Go.Proofs.Ytbgjoohnognagaa
open Go.RowKit Ieee

theorem z64b : 4607182418800017408 < 18446744073709551616 := by decide
theorem nan1 : nanB 4607182418800017408 = false := by decide +kernel
theorem key1 : key 4607182418800017408 = 4607182418800017408 := by decide +kernel
/-- What Hold answers. -/
def holdN (x : Nat) : Nat := if nanB x then 0 else if 4607182418800017408 ≤ key x then 4607182418800017408 else if 0 < key x then x else 0

theorem key_inj_pos {x : Nat} (hx : x < 18446744073709551616) (k : Nat) (hk : 0 < k) (h : key x = k) : x = k := by
  unfold key rung neg63 at h
  by_cases h1 : 9223372036854775808 ≤ x
  · rw [decide_eq_true h1] at h; simp at h; omega
  · rw [decide_eq_false h1] at h; simp at h; omega

theorem run_min (x y : Nat) (o : Ordering) (h : FloatKind.f64.format.order x y = some o) (w : World) :
    (Builtin.min_ #[40, 40] 40 #[.float .f64 x, .float .f64 y]).run Try.prog w = .ok (.float .f64 (match o with | .lt => x | .gt => y | .eq => if (FloatKind.f64.decode x).neg then x else y)) w := by
  cases o <;> simp [Builtin.min_, Builtin.min2, h]
theorem run_min1 (w : World) : (Builtin.min_ #[40, 40] 40 #[.float .f64 4607182418800017408, .float .f64 4607182418800017408]).run Try.prog w = .ok (.float .f64 4607182418800017408) w := by kernel_rfl
theorem hold_any (x : Nat) (hx : x < 18446744073709551616) (w : World) : Calls Try.prog 42 #[.float .f64 x] w fun e w' => e = .returned (.float .f64 (holdN x)) ∧ w = w' := by
  cases hn : nanB x
  · rcases Int.lt_trichotomy (key x) 0 with h | h | h
    · have ho := ord_lt hx z64 hn nan0 (by rw [key0]; exact h)
      have hc : holdN x = 0 := by unfold holdN; rw [hn, if_neg (by simp), if_neg (by omega), if_neg (by omega)]
      rw [hc]
      clear hc h hx hn
      go_enter Try.func42, Try.ntmps42
      go_wp2_with fail
      go_ret
      exact ⟨rfl, rfl⟩
    · have ho := ord_eq hx z64 hn nan0 (by rw [key0]; exact h)
      have hc : holdN x = 0 := by unfold holdN; rw [hn, if_neg (by simp), if_neg (by omega), if_neg (by omega)]
      rw [hc]
      clear hc h hx hn
      go_enter Try.func42, Try.ntmps42
      go_wp2_with fail
      go_ret
      exact ⟨rfl, rfl⟩
    · have ho := ord_gt hx z64 hn nan0 (by rw [key0]; exact h)
      rcases Int.lt_trichotomy (key x) 4607182418800017408 with h1 | h1 | h1
      · have ho1 := ord_lt hx z64b hn nan1 (by rw [key1]; exact h1)
        have hc : holdN x = x := by unfold holdN; rw [hn, if_neg (by simp), if_neg (by omega), if_pos h]
        rw [hc]
        have hm := run_min x 4607182418800017408 _ ho1 w
        simp only at hm
        clear hc h h1 hx hn
        go_enter Try.func42, Try.ntmps42
        go_wp2_with fail
        go_ret
        exact ⟨rfl, rfl⟩
      · have hxe := key_inj_pos hx 4607182418800017408 (by omega) h1
        subst hxe
        have ho1 := ord_eq hx z64b hn nan1 rfl
        have hc : holdN 4607182418800017408 = 4607182418800017408 := by decide +kernel
        rw [hc]
        have hm := run_min1 w
        clear hc h h1 hx hn
        go_enter Try.func42, Try.ntmps42
        go_wp2_with fail
        go_ret
        exact ⟨rfl, rfl⟩
      · have ho1 := ord_gt hx z64b hn nan1 (by rw [key1]; exact h1)
        have hc : holdN x = 4607182418800017408 := by unfold holdN; rw [hn, if_neg (by simp), if_pos (by omega)]
        rw [hc]
        have hm := run_min x 4607182418800017408 _ ho1 w
        simp only at hm
        clear hc h h1 hx hn
        go_enter Try.func42, Try.ntmps42
        go_wp2_with fail
        go_ret
        exact ⟨rfl, rfl⟩
  · have ho := ord_nan hx z64 (Or.inl hn)
    have hc : holdN x = 0 := by unfold holdN; rw [hn, if_pos rfl]
    rw [hc]
    clear hc hx hn
    go_enter Try.func42, Try.ntmps42
    go_wp2_with fail
    go_ret
    exact ⟨rfl, rfl⟩
theorem rhold_any (x : Nat) (hx : x < 18446744073709551616) (w : World) : Calls Try.prog 47 #[.float .f64 x] w fun e w' => e = .returned (.float .f64 (holdN x)) ∧ w = w' := by
  have key : ∀ (o p : Option Ordering) (r : Nat), FloatKind.f64.format.order x 4607182418800017408 = o → FloatKind.f64.format.order x 0 = p → holdN x = r →
      (r = if o = some .gt ∨ o = some .eq then 4607182418800017408 else if p = some .gt then x else 0) → Calls Try.prog 47 #[.float .f64 x] w fun e w' => e = .returned (.float .f64 r) ∧ w = w' := by
    intro o p r ho hp hc hr
    clear hc
    subst hr
    clear hx
    rcases o with _ | (_ | _ | _) <;> rcases p with _ | (_ | _ | _)
    all_goals
      go_enter Try.func47, Try.ntmps47
      go_wp2_with fail
      go_ret
      exact ⟨by simp, rfl⟩
  cases hn : nanB x
  · rcases Int.lt_trichotomy (Go.Proofs.Ytbgjoohnognagaa.key x) 4607182418800017408 with h1 | h1 | h1
    · have ho1 := ord_lt hx z64b hn nan1 (by rw [key1]; exact h1)
      rcases Int.lt_trichotomy (Go.Proofs.Ytbgjoohnognagaa.key x) 0 with h | h | h
      · have ho := ord_lt hx z64 hn nan0 (by rw [key0]; exact h)
        exact key _ _ _ ho1 ho rfl (by unfold holdN; rw [hn, if_neg (by simp), if_neg (by omega), if_neg (by omega)]; simp)
      · have ho := ord_eq hx z64 hn nan0 (by rw [key0]; exact h)
        exact key _ _ _ ho1 ho rfl (by unfold holdN; rw [hn, if_neg (by simp), if_neg (by omega), if_neg (by omega)]; simp)
      · have ho := ord_gt hx z64 hn nan0 (by rw [key0]; exact h)
        exact key _ _ _ ho1 ho rfl (by unfold holdN; rw [hn, if_neg (by simp), if_neg (by omega), if_pos h]; simp)
    · have ho1 := ord_eq hx z64b hn nan1 (by rw [key1]; exact h1)
      exact key _ _ _ ho1 rfl rfl (by unfold holdN; rw [hn, if_neg (by simp), if_pos (by omega)]; simp)
    · have ho1 := ord_gt hx z64b hn nan1 (by rw [key1]; exact h1)
      exact key _ _ _ ho1 rfl rfl (by unfold holdN; rw [hn, if_neg (by simp), if_pos (by omega)]; simp)
  · exact key _ _ _ (ord_nan hx z64b (Or.inl hn)) (ord_nan hx z64 (Or.inl hn)) rfl (by unfold holdN; rw [hn, if_pos rfl]; simp)

theorem finite_any (x : Nat) (hx : x < 18446744073709551616) (w : World) : Calls Try.prog 46 #[.float .f64 x] w fun e w' => e = .returned (.bool (finB x)) ∧ Below w.heap.size w w' := by
  obtain ⟨r, w1, hrun, hg, hb⟩ := run_flt (P := Try.prog) .sub (by simp) 40 x x w
  have ho : FloatKind.f64.format.order r 0 = if finB x then some .eq else none := by
    cases hf : finB x
    · have := hg.2
      simp only [floatBits] at this
      rw [show FloatKind.f64.format.sub x x = none from sub_self_not hx hf] at this
      exact ord_nan hg.1 z64 (Or.inl this)
    · have := hg.2
      simp only [floatBits] at this
      rw [show FloatKind.f64.format.sub x x = some 0 from sub_self_fin hx hf] at this
      simp only at this
      subst this
      exact ord_eq hg.1 z64 nan0 nan0 rfl
  clear hg hx
  cases hf : finB x
  all_goals
    rw [hf] at ho
    simp only [Bool.false_eq_true, if_false, if_true] at ho
    go_enter Try.func46, Try.ntmps46
    go_wp2_with fail
    go_ret
    exact ⟨rfl, hb⟩

theorem andNot63 (x : Nat) (hx : x < 18446744073709551616) : bits BinOp.andNot .u64 (x : Int) 9223372036854775808 = ((rung x : Nat) : Int) := by
  have h : ((BitVec.ofInt 64 (x : Int)) &&& ~~~(BitVec.ofInt 64 9223372036854775808)).toNat = rung x := by
    rw [BitVec.toNat_and]
    have e1 : (BitVec.ofInt 64 (x : Int)).toNat = x := by
      rw [BitVec.ofInt_natCast, BitVec.toNat_ofNat]; exact Nat.mod_eq_of_lt hx
    have e2 : (~~~(BitVec.ofInt 64 9223372036854775808)).toNat = 2 ^ 63 - 1 := by decide
    rw [e1, e2, Nat.and_two_pow_sub_one_eq_mod]
    rfl
  show IntKind.u64.wrap (((BitVec.ofInt 64 (x : Int)) &&& ~~~(BitVec.ofInt 64 9223372036854775808)).toNat : Nat) = _
  rw [h]
  exact IntWalk.u64_in _ (by unfold rung; omega)
theorem abs_any (x : Nat) (hx : x < 18446744073709551616) (w : World) : Calls Try.prog 53 #[.float .f64 x] w fun e w' => e = .returned (.float .f64 (rung x)) ∧ w = w' := by
  have ht := run_tob x
  have hf := run_fromb ((rung x : Nat) : Int)
  rw [Int.toNat_natCast] at hf
  have hb := andNot63 x hx
  clear hx
  go_enter Try.func53, Try.ntmps53
  go_wp2_with fail
  go_ret
  exact ⟨rfl, rfl⟩
theorem zmax : 9218868437227405311 < 18446744073709551616 := by decide
theorem nanmax : nanB 9218868437227405311 = false := by decide +kernel
theorem keymax : key 9218868437227405311 = 9218868437227405311 := by decide +kernel
theorem rung_lt (x : Nat) : rung x < 9223372036854775808 := Nat.mod_lt _ (by omega)
theorem rung_rung (x : Nat) : rung (rung x) = rung x := Nat.mod_mod _ _
theorem key_rung (x : Nat) : key (rung x) = (rung x : Nat) := by rw [(key_lo (rung_lt x)).1]
theorem isinf_any (x : Nat) (hx : x < 18446744073709551616) (hn : nanB x = false) (w : World) : Calls Try.prog 49 #[.float .f64 x, .int .i64 0] w fun e w' => e = .returned (.bool (!finB x)) ∧ w = w' := by
  have hr : rung x < 18446744073709551616 := Nat.lt_trans (rung_lt x) (by decide)
  have hnr : nanB (rung x) = false := by unfold nanB; rw [rung_rung]; exact hn
  have HX := Lib.hid hx
  cases hf : finB x
  · have h : 9218868437227405312 ≤ rung x := Nat.not_lt.1 (of_decide_eq_false hf)
    have ho := ord_gt hr zmax hnr nanmax (by rw [key_rung, keymax]; omega)
    clear hx hr hnr hn h
    go_enter Try.func49, Try.ntmps49
    go_wp2_with fail
    refine (abs_any x HX.out w).mono ?_
    rintro e w1 ⟨rfl, rfl⟩
    go_wp2_with fail
    go_ret
    exact ⟨rfl, rfl⟩
  · have h : rung x < 9218868437227405312 := of_decide_eq_true hf
    have ho : FloatKind.f64.format.order (rung x) 9218868437227405311 = some .lt ∨ FloatKind.f64.format.order (rung x) 9218868437227405311 = some .eq := by
      by_cases h1 : rung x = 9218868437227405311
      · right; exact ord_eq hr zmax hnr nanmax (by rw [key_rung, keymax]; omega)
      · left; exact ord_lt hr zmax hnr nanmax (by rw [key_rung, keymax]; omega)
    clear hx hr hnr hn h
    rcases ho with ho | ho
    all_goals
      go_enter Try.func49, Try.ntmps49
      go_wp2_with fail
      refine (abs_any x HX.out w).mono ?_
      rintro e w1 ⟨rfl, rfl⟩
      go_wp2_with fail
      go_ret
      exact ⟨rfl, rfl⟩
theorem plain_any (x : Nat) (hx : x < 18446744073709551616) (w : World) : Calls Try.prog 41 #[.float .f64 x] w fun e w' => e = .returned (.bool (finB x)) ∧ w = w' := by
  have HX := Lib.hid hx
  clear hx
  cases hn : nanB x
  · have HN := Lib.hid hn
    clear hn
    cases hf : finB x
    all_goals
      have HF := Lib.hid hf
      clear hf
      go_enter Try.func41, Try.ntmps41
      go_wp2_with fail
      refine (isnan_any x HX.out w).mono ?_
      rw [HN.out]
      rintro e w1 ⟨rfl, rfl⟩
      go_wp2_with fail
      refine (isinf_any x HX.out HN.out w).mono ?_
      rw [HF.out]
      rintro e w1 ⟨rfl, rfl⟩
      go_wp2_with fail
      go_ret
      exact ⟨rfl, rfl⟩
  · have hf : finB x = false := by
      have := of_decide_eq_true hn
      exact decide_eq_false (by omega)
    rw [hf]
    have HN := Lib.hid hn
    clear hn hf
    go_enter Try.func41, Try.ntmps41
    go_wp2_with fail
    refine (isnan_any x HX.out w).mono ?_
    rw [HN.out]
    rintro e w1 ⟨rfl, rfl⟩
    go_wp2_with fail
    go_ret
    exact ⟨rfl, rfl⟩
/-- What Mean answers: by two exact steps and their rounding, where a NaN's bits are drawn. -/
def MeanR (x y t r : Nat) : Prop := r < 18446744073709551616 ∧ (if finB x = false then r = y else if finB y = false then r = x else ∃ d p, Gives .sub y x d ∧ Gives .mul (holdN t) d p ∧ Gives .add x p r)
theorem mean_any (x y t : Nat) (hx : x < 18446744073709551616) (hy : y < 18446744073709551616) (ht : t < 18446744073709551616) (w : World) :
    Calls Try.prog 29 #[.float .f64 x, .float .f64 y, .float .f64 t] w fun e w' => ∃ r, e = .returned (.float .f64 r) ∧ MeanR x y t r ∧ Below w.heap.size w w' := by
  have HX := Lib.hid hx
  have HY := Lib.hid hy
  have HT := Lib.hid ht
  clear hx hy ht
  cases fx : finB x
  · have hm : MeanR x y t y := ⟨HY.out, by rw [fx]; rfl⟩
    have HM := Lib.hid hm
    have FX := Lib.hid fx
    clear hm fx
    go_enter Try.func29, Try.ntmps29
    go_wp2_with fail
    refine (plain_any x HX.out w).mono ?_
    rw [FX.out]
    rintro e w1 ⟨rfl, rfl⟩
    go_wp2_with fail
    go_ret
    exact ⟨y, rfl, HM.out, Below.refl _ _⟩
  · cases fy : finB y
    · have hm : MeanR x y t x := ⟨HX.out, by rw [fx, fy]; rfl⟩
      have HM := Lib.hid hm
      have FX := Lib.hid fx
      have FY := Lib.hid fy
      clear hm fx fy
      go_enter Try.func29, Try.ntmps29
      go_wp2_with fail
      refine (plain_any x HX.out w).mono ?_
      rw [FX.out]
      rintro e w1 ⟨rfl, rfl⟩
      go_wp2_with fail
      refine (plain_any y HY.out w).mono ?_
      rw [FY.out]
      rintro e w2 ⟨rfl, rfl⟩
      go_wp2_with fail
      go_ret
      exact ⟨x, rfl, HM.out, Below.refl _ _⟩
    · have FX := Lib.hid fx
      have FY := Lib.hid fy
      clear fx fy
      go_enter Try.func29, Try.ntmps29
      go_wp2_with fail
      refine (plain_any x HX.out w).mono ?_
      rw [FX.out]
      rintro e w1 ⟨rfl, rfl⟩
      go_wp2_with fail
      refine (plain_any y HY.out w).mono ?_
      rw [FY.out]
      rintro e w2 ⟨rfl, rfl⟩
      obtain ⟨d, w3, hr3, hg3, hb3⟩ := run_flt (P := Try.prog) .sub (by simp) 40 y x w
      have HG3 := Lib.hid hg3
      clear hg3
      go_wp2_with fail
      refine (hold_any t HT.out w3).mono ?_
      rintro e w4 ⟨rfl, rfl⟩
      obtain ⟨p, w5, hr5, hg5, hb5⟩ := run_flt (P := Try.prog) .mul (by simp) 40 (holdN t) d w3
      obtain ⟨r, w6, hr6, hg6, hb6⟩ := run_flt (P := Try.prog) .add (by simp) 40 x p w5
      have HG5 := Lib.hid hg5
      have HG6 := Lib.hid hg6
      clear hg5 hg6
      go_wp2_with fail
      go_ret
      have s3 := hb3.size
      have s5 := hb5.size
      exact ⟨r, rfl, ⟨HG6.out.1, by rw [FX.out, FY.out]; exact ⟨d, p, HG3.out, HG5.out, HG6.out⟩⟩, hb3.trans ((hb5.mono s3).trans (hb6.mono (by omega)))⟩
theorem rmean_any (x y t : Nat) (hx : x < 18446744073709551616) (hy : y < 18446744073709551616) (ht : t < 18446744073709551616) (w : World) :
    Calls Try.prog 37 #[.float .f64 x, .float .f64 y, .float .f64 t] w fun e w' => ∃ r, e = .returned (.float .f64 r) ∧ MeanR x y t r ∧ Below w.heap.size w w' := by
  have HX := Lib.hid hx
  have HY := Lib.hid hy
  have HT := Lib.hid ht
  clear hx hy ht
  cases fx : finB x
  · have hm : MeanR x y t y := ⟨HY.out, by rw [fx]; rfl⟩
    have HM := Lib.hid hm
    have FX := Lib.hid fx
    clear hm fx
    go_enter Try.func37, Try.ntmps37
    go_wp2_with fail
    refine (finite_any x HX.out w).mono ?_
    rw [FX.out]
    rintro e w1 ⟨rfl, b1⟩
    go_wp2_with fail
    go_ret
    exact ⟨y, rfl, HM.out, b1⟩
  · cases fy : finB y
    · have hm : MeanR x y t x := ⟨HX.out, by rw [fx, fy]; rfl⟩
      have HM := Lib.hid hm
      have FX := Lib.hid fx
      have FY := Lib.hid fy
      clear hm fx fy
      go_enter Try.func37, Try.ntmps37
      go_wp2_with fail
      refine (finite_any x HX.out w).mono ?_
      rw [FX.out]
      rintro e w1 ⟨rfl, b1⟩
      go_wp2_with fail
      refine (finite_any y HY.out w1).mono ?_
      rw [FY.out]
      rintro e w2 ⟨rfl, b2⟩
      go_wp2_with fail
      go_ret
      exact ⟨x, rfl, HM.out, b1.trans (b2.mono b1.size)⟩
    · have FX := Lib.hid fx
      have FY := Lib.hid fy
      clear fx fy
      go_enter Try.func37, Try.ntmps37
      go_wp2_with fail
      refine (finite_any x HX.out w).mono ?_
      rw [FX.out]
      rintro e w1 ⟨rfl, b1⟩
      go_wp2_with fail
      refine (finite_any y HY.out w1).mono ?_
      rw [FY.out]
      rintro e w2 ⟨rfl, b2⟩
      obtain ⟨d, w3, hr3, hg3, hb3⟩ := run_flt (P := Try.prog) .sub (by simp) 40 y x w2
      have HG3 := Lib.hid hg3
      clear hg3
      go_wp2_with fail
      refine (rhold_any t HT.out w3).mono ?_
      rintro e w4 ⟨rfl, rfl⟩
      obtain ⟨p, w5, hr5, hg5, hb5⟩ := run_flt (P := Try.prog) .mul (by simp) 40 (holdN t) d w3
      obtain ⟨r, w6, hr6, hg6, hb6⟩ := run_flt (P := Try.prog) .add (by simp) 40 x p w5
      have HG5 := Lib.hid hg5
      have HG6 := Lib.hid hg6
      clear hg5 hg6
      go_wp2_with fail
      go_ret
      have s3 := hb3.size
      have s5 := hb5.size
      have s1 := b1.size
      have s2 := b2.size
      exact ⟨r, rfl, ⟨HG6.out.1, by rw [FX.out, FY.out]; exact ⟨d, p, HG3.out, HG5.out, HG6.out⟩⟩, (b1.trans (b2.mono s1)).trans ((hb3.mono (by omega)).trans ((hb5.mono (by omega)).trans (hb6.mono (by omega))))⟩
end Go.Proofs.Ytbgjoohnognagaa
