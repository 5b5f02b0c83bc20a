/- Shares, the chapter's example, the statement on shares. No condition. -/
import Derived.Test.YtejdekagejdepaaRatC
import Derived.Laws.FloatArith
namespace Go.Proofs.Ytejdekagejdepaa
open Go.RowKit Ieee

theorem nan_any (w : World) : Calls Try.prog 26 #[] w fun e w' => e = .returned (.float .f64 9221120237041090561) ∧ w = w' := by
  have hf := run_fromb 9221120237041090561
  go_enter Try.func26, Try.ntmps26
  go_wp2_with fail
  go_ret
  exact ⟨rfl, rfl⟩
theorem inf_pos (s : Int) (h : 0 ≤ s) (w : World) : Calls Try.prog 27 #[.int .i64 s] w fun e w' => e = .returned (.float .f64 9218868437227405312) ∧ w = w' := by
  have hf := run_fromb 9218868437227405312
  have hd : decide ((0 : Int) ≤ s) = true := by simpa using h
  go_enter Try.func27, Try.ntmps27
  go_wp2_with fail
  go_ret
  exact ⟨rfl, rfl⟩
theorem inf_neg (s : Int) (h : s < 0) (w : World) : Calls Try.prog 27 #[.int .i64 s] w fun e w' => e = .returned (.float .f64 18442240474082181120) ∧ w = w' := by
  have hf := run_fromb 18442240474082181120
  have hd : decide ((0 : Int) ≤ s) = false := by simpa using h
  go_enter Try.func27, Try.ntmps27
  go_wp2_with fail
  go_ret
  exact ⟨rfl, rfl⟩
theorem cmpi_any (a b : Int) (w : World) : Calls Try.prog 28 #[.int .i64 a, .int .i64 b] w fun e w' => e = .returned (.int .i64 (cmp3 a b)) ∧ w = w' := by
  have hn : ∀ x : Int, (x != x) = false := fun x => by simp
  rcases Int.lt_trichotomy a b with h | h | h
  · have hc : cmp3 a b = -1 := by unfold cmp3; rw [if_pos h]
    rw [hc]
    clear hc
    go_enter Try.func28, Try.ntmps28
    go_wp2
    go_ret
    exact ⟨rfl, rfl⟩
  · subst h
    have hc : cmp3 a a = 0 := by unfold cmp3; rw [if_neg (by omega), if_neg (by omega)]
    rw [hc]
    clear hc
    go_enter Try.func28, Try.ntmps28
    go_wp2
    go_ret
    exact ⟨rfl, rfl⟩
  · have hc : cmp3 a b = 1 := by unfold cmp3; rw [if_neg (by omega), if_pos h]
    rw [hc]
    clear hc
    go_enter Try.func28, Try.ntmps28
    go_wp2
    go_ret
    exact ⟨rfl, rfl⟩

/-- What an operation on two doubles gives: just those bits, or some NaN. -/
def Gives (op : BinOp) (x y r : Nat) : Prop := r < 18446744073709551616 ∧ match floatBits op .f64 x y with | some q => r = q | none => nanB r = true

theorem drawn_nan (t : Nat) : (t % 2) * 9223372036854775808 + 9218868437227405312 + 1 + (t / 2) % 4503599627370495 < 18446744073709551616 ∧ nanB ((t % 2) * 9223372036854775808 + 9218868437227405312 + 1 + (t / 2) % 4503599627370495) = true := by
  have h1 := Nat.mod_lt t (show 0 < 2 by omega)
  have h2 := Nat.mod_lt (t / 2) (show 0 < 4503599627370495 by omega)
  generalize t % 2 = a at *
  generalize t / 2 % 4503599627370495 = c at *
  refine ⟨by omega, ?_⟩
  unfold nanB rung
  refine decide_eq_true ?_
  rcases (show a = 0 ∨ a = 1 by omega) with rfl | rfl <;> omega

theorem run_flt {P : Program} (op : BinOp) (hop : op = .add ∨ op = .sub ∨ op = .mul ∨ op = .quo) (t : TypeId) (x y : Nat) (w : World) :
    ∃ r w', (binOp op t (.float .f64 x) (.float .f64 y)).run P w = .ok (.float .f64 r) w' ∧ Gives op x y r ∧ Below w.heap.size w w' := by
  cases h : floatBits op .f64 x y with
  | some q =>
    refine ⟨q, w, run_float_arith w op t .f64 x y q h, ⟨?_, by rw [h]⟩, Below.refl _ _⟩
    have := floatBits_wf h
    simpa [Lit.wf] using this
  | none =>
    have key := drawn_nan (w.tape w.drawn (.nanBits .f64 x y))
    refine ⟨_, w.drew, ?_, ⟨key.1, by rw [h]; exact key.2⟩, (Below.refl _ _).drew⟩
    unfold floatBits at h
    rcases hop with rfl | rfl | rfl | rfl <;> simp only at h <;> simp [binOp, Op.floatArith, h, choose] <;> rfl

/-- What a division of two whole numbers gives: just those bits, or a NaN. -/
def Divs (a b : Int) (r : Nat) : Prop := Gives .quo (floatOfInt .f64 a) (floatOfInt .f64 b) r

theorem share_zero (w : World) : Calls Try.prog 10 #[.int .i64 0, .int .i64 0] w fun e w' => e = .returned (.float .f64 9221120237041090561) ∧ w = w' := by
  go_enter Try.func10, Try.ntmps10
  go_wp2_with fail
  refine (nan_any w).mono ?_
  rintro e w1 ⟨rfl, rfl⟩
  go_wp2_with fail
  go_ret
  exact ⟨rfl, rfl⟩
theorem share_pos (a : Int) (h : 0 < a) (w : World) : Calls Try.prog 10 #[.int .i64 a, .int .i64 0] w fun e w' => e = .returned (.float .f64 9218868437227405312) ∧ w = w' := by
  have hz : (a == 0) = false := by simp; omega
  have hc : cmp3 a 0 = 1 := by unfold cmp3; rw [if_neg (by omega), if_pos h]
  have HC := Lib.hid hc
  clear hc
  go_enter Try.func10, Try.ntmps10
  go_wp2_with fail
  refine (cmpi_any a 0 w).mono ?_
  rw [HC.out]
  rintro e w1 ⟨rfl, rfl⟩
  go_wp2_with fail
  refine (inf_pos 1 (by omega) w).mono ?_
  rintro e w1 ⟨rfl, rfl⟩
  go_wp2_with fail
  go_ret
  exact ⟨rfl, rfl⟩
theorem share_neg (a : Int) (h : a < 0) (w : World) : Calls Try.prog 10 #[.int .i64 a, .int .i64 0] w fun e w' => e = .returned (.float .f64 18442240474082181120) ∧ w = w' := by
  have hz : (a == 0) = false := by simp; omega
  have hc : cmp3 a 0 = -1 := by unfold cmp3; rw [if_pos h]
  have HC := Lib.hid hc
  clear hc
  go_enter Try.func10, Try.ntmps10
  go_wp2_with fail
  refine (cmpi_any a 0 w).mono ?_
  rw [HC.out]
  rintro e w1 ⟨rfl, rfl⟩
  go_wp2_with fail
  refine (inf_neg (-1) (by omega) w).mono ?_
  rintro e w1 ⟨rfl, rfl⟩
  go_wp2_with fail
  go_ret
  exact ⟨rfl, rfl⟩
def Shares (a b : Int) (w : World) (e : Ending) (w' : World) : Prop := ∃ r, e = .returned (.float .f64 r) ∧ Divs a b r ∧ Below w.heap.size w w'
theorem rshare_any (a b : Int) (w : World) : Calls Try.prog 11 #[.int .i64 a, .int .i64 b] w (Shares a b w) := by
  obtain ⟨r, w1, hrun, hg, hb⟩ := run_flt (P := Try.prog) .quo (by simp) 24 (floatOfInt .f64 a) (floatOfInt .f64 b) w
  have HG := Lib.hid hg
  clear hg
  go_enter Try.func11, Try.ntmps11
  go_wp2_with fail
  go_ret
  exact ⟨r, rfl, HG.out, hb⟩
theorem share_some (a b : Int) (h : b ≠ 0) (w : World) : Calls Try.prog 10 #[.int .i64 a, .int .i64 b] w (Shares a b w) := by
  obtain ⟨r, w1, hrun, hg, hb⟩ := run_flt (P := Try.prog) .quo (by simp) 24 (floatOfInt .f64 a) (floatOfInt .f64 b) w
  have HG := Lib.hid hg
  have hz : (b != 0) = true := by simpa using h
  clear hg h
  go_enter Try.func10, Try.ntmps10
  go_wp2_with fail
  go_ret
  exact ⟨r, rfl, HG.out, hb⟩

theorem alive_any (w : World) : Calls Try.prog 8 #[] w fun e w' => e = .returned (.bool true) ∧ Below w.heap.size w w' := by
  go_enter Try.func8, Try.ntmps8
  go_wp2_with fail
  refine (share_zero w).mono ?_
  rintro e w1 ⟨rfl, rfl⟩
  go_wp2_with fail
  refine (share_pos 1 (by omega) w).mono ?_
  rintro e w1 ⟨rfl, rfl⟩
  have o1 : FloatKind.f64.format.order 9221120237041090561 9221120237041090561 = none := by decide +kernel
  have o2 : FloatKind.f64.format.order 9218868437227405312 9094988921128908188 = some .gt := by decide +kernel
  go_wp2_with fail
  refine (of_any 9223372036854775808 w).mono ?_
  rintro e w1 ⟨rfl, rfl⟩
  go_wp2_with fail
  refine (compare_any 9223372036854775808 0 (by decide +kernel) (by decide +kernel) w).mono ?_
  rw [show cmpN 9223372036854775808 0 = -1 by decide +kernel]
  rintro e w1 ⟨rfl, rfl⟩
  go_wp2_with fail
  go_ret
  exact ⟨rfl, Below.refl _ _⟩
end Go.Proofs.Ytejdekagejdepaa
