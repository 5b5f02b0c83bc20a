/- Texts of one proof, one behind the other: Float, FloatB, Rat, RatC, Share. No condition but each one's own. -/
import GoSem.Core.Float
import Derived.Test.YtfchcdbfalgdlaaGreatDoorSweepKeepsM1
import Derived.Test.YtfchcdbfalgdlaaGreatDoorRows
import Derived.Laws.FloatArith
namespace Go.Proofs.YtfchcdbfalgdlaaGreatDoor
set_option linter.unusedVariables false
set_option linter.unusedSimpArgs false
set_option linter.constructorNameAsVariable false
open Ieee
def neg63 (b : Nat) : Bool := decide (9223372036854775808 ≤ b)
def rung (b : Nat) : Nat := b % 9223372036854775808
def key (b : Nat) : Int := if neg63 b then -(rung b : Int) else (rung b : Int)
end Go.Proofs.YtfchcdbfalgdlaaGreatDoor
namespace Go.Proofs.YtfchcdbfalgdlaaGreatDoor
set_option linter.unusedVariables false
set_option linter.unusedSimpArgs false
set_option linter.constructorNameAsVariable false
open Ieee
theorem bn : double.binade = 4503599627370496 := by decide
theorem lp : double.leastPlace = -1074 := by decide
end Go.Proofs.YtfchcdbfalgdlaaGreatDoor
namespace Go.Proofs.YtfchcdbfalgdlaaGreatDoor
set_option linter.unusedVariables false
set_option linter.unusedSimpArgs false
set_option linter.constructorNameAsVariable false
open Go.RowKit Ieee
def nanB (b : Nat) : Bool := decide (9218868437227405312 < rung b)
theorem run_fromb (n : Int) (w : World) : (callFunc 64 #[.int .u64 n]).run Tryz.prog w = .ok (.value (.float .f64 n.toNat)) w := by kernel_rfl
theorem of_any_l18 (b : Nat) (w : World) : Calls Tryz.prog 24 #[.int .u64 (b : Int)] w fun e w' => e = .returned (.float .f64 b) ∧ w = w' := by
 have hf := run_fromb (b : Int)
 rw [Int.toNat_natCast] at hf
 go_enter Tryz.func24, Tryz.ntmps24
 go_wp2_with fail
 go_ret
 exact ⟨rfl, rfl⟩
end Go.Proofs.YtfchcdbfalgdlaaGreatDoor
namespace Go.Proofs.YtfchcdbfalgdlaaGreatDoor
set_option linter.unusedVariables false
set_option linter.unusedSimpArgs false
set_option linter.constructorNameAsVariable false
open Go.RowKit Ieee
theorem z64 : 0 < 18446744073709551616 := Nat.succ_pos _
end Go.Proofs.YtfchcdbfalgdlaaGreatDoor
namespace Go.Proofs.YtfchcdbfalgdlaaGreatDoor
set_option linter.unusedVariables false
set_option linter.unusedSimpArgs false
set_option linter.constructorNameAsVariable false
open Go.RowKit Ieee
theorem nan_any (w : World) : Calls Tryz.prog 51 #[] w fun e w' => e = .returned (.float .f64 9221120237041090561) ∧ w = w' := by
 have hf := run_fromb 9221120237041090561
 go_enter Tryz.func51, Tryz.ntmps51
 go_wp2_with fail
 go_ret
 exact ⟨rfl, rfl⟩
def Gives_l18 (op : BinOp) (x y r : Nat) : Prop := r < 18446744073709551616 ∧ match floatBits op .f64 x y with | some q => r = q | none => nanB r = true
theorem drawn_nan (t : Nat) : (t % 2) * 9223372036854775808 + 9218868437227405312 + 1 + (t / 2) % 4503599627370495 < 18446744073709551616 ∧ nanB ((t % 2) * 9223372036854775808 + 9218868437227405312 + 1 + (t / 2) % 4503599627370495) = true := by
 have h1 := Nat.mod_lt t (show 0 < 2 by omega)
 have h2 := Nat.mod_lt (t / 2) (show 0 < 4503599627370495 by omega)
 generalize t % 2 = a at *
 generalize t / 2 % 4503599627370495 = c at *
 refine ⟨by omega, ?_⟩
 unfold nanB rung
 refine decide_eq_true ?_
 rcases (show a = 0 ∨ a = 1 by omega) with rfl | rfl <;> omega
theorem run_flt {P : Program} (op : BinOp) (hop : op = .add ∨ op = .sub ∨ op = .mul ∨ op = .quo) (t : TypeId) (x y : Nat) (w : World) :
    ∃ r w', (binOp op t (.float .f64 x) (.float .f64 y)).run P w = .ok (.float .f64 r) w' ∧ Gives_l18 op x y r ∧ Below w.heap.size w w' := by
 cases h : floatBits op .f64 x y with
 | some q =>
  refine ⟨q, w, run_float_arith w op t .f64 x y q h, ⟨?_, by rw [h]⟩, Below.refl _ _⟩
  have := floatBits_wf h
  simpa [Lit.wf] using this
 | none =>
  have key := drawn_nan (w.tape w.drawn (.nanBits .f64 x y))
  refine ⟨_, w.drew, ?_, ⟨key.1, by rw [h]; exact key.2⟩, (Below.refl _ _).drew⟩
  unfold floatBits at h
  rcases hop with rfl | rfl | rfl | rfl <;> simp only at h <;> simp [binOp, Op.floatArith, h, choose] <;> rfl
def Divs (a b : Int) (r : Nat) : Prop := Gives_l18 .quo (floatOfInt .f64 a) (floatOfInt .f64 b) r
theorem share_zero (w : World) : Calls Tryz.prog 55 #[.int .i64 0, .int .i64 0] w fun e w' => e = .returned (.float .f64 9221120237041090561) ∧ w = w' := by
 go_enter Tryz.func55, Tryz.ntmps55
 go_wp2_with fail
 refine (nan_any w).mono ?_
 rintro e w1 ⟨rfl, rfl⟩
 go_wp2_with fail
 go_ret
 exact ⟨rfl, rfl⟩
def Shares (a b : Int) (w : World) (e : Ending) (w' : World) : Prop := ∃ r, e = .returned (.float .f64 r) ∧ Divs a b r ∧ Below w.heap.size w w'
theorem share_some (a b : Int) (h : b ≠ 0) (w : World) : Calls Tryz.prog 55 #[.int .i64 a, .int .i64 b] w (Shares a b w) := by
 obtain ⟨r, w1, hrun, hg, hb⟩ := run_flt (P := Tryz.prog) .quo (by simp) 32 (floatOfInt .f64 a) (floatOfInt .f64 b) w
 have HG := Lib.hid hg
 have hz : (b != 0) = true := by simpa using h
 clear hg h
 go_enter Tryz.func55, Tryz.ntmps55
 go_wp2_with fail
 go_ret
 exact ⟨r, rfl, HG.out, hb⟩
end Go.Proofs.YtfchcdbfalgdlaaGreatDoor
