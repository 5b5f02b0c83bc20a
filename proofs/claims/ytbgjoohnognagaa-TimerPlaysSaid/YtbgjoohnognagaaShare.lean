/- Shares, the chapter's example, the statement on shares. No condition. -/
import Derived.Test.YtbgjoohnognagaaRatC
import Derived.Laws.FloatArith
namespace Go.Proofs.Ytbgjoohnognagaa
open Go.RowKit Ieee

theorem nan_any (w : World) : Calls Try.prog 18 #[] w fun e w' => e = .returned (.float .f64 9221120237041090561) ∧ w = w' := by
  have hf := run_fromb 9221120237041090561
  go_enter Try.func18, Try.ntmps18
  go_wp2_with fail
  go_ret
  exact ⟨rfl, rfl⟩
/-- What an operation on two doubles gives: just those bits, or some NaN. -/
def Gives (op : BinOp) (x y r : Nat) : Prop := r < 18446744073709551616 ∧ match floatBits op .f64 x y with | some q => r = q | none => nanB r = true

theorem drawn_nan (t : Nat) : (t % 2) * 9223372036854775808 + 9218868437227405312 + 1 + (t / 2) % 4503599627370495 < 18446744073709551616 ∧ nanB ((t % 2) * 9223372036854775808 + 9218868437227405312 + 1 + (t / 2) % 4503599627370495) = true := by
  have h1 := Nat.mod_lt t (show 0 < 2 by omega)
  have h2 := Nat.mod_lt (t / 2) (show 0 < 4503599627370495 by omega)
  generalize t % 2 = a at *
  generalize t / 2 % 4503599627370495 = c at *
  refine ⟨by omega, ?_⟩
  unfold nanB rung
  refine decide_eq_true ?_
  rcases (show a = 0 ∨ a = 1 by omega) with rfl | rfl <;> omega

theorem run_flt {P : Program} (op : BinOp) (hop : op = .add ∨ op = .sub ∨ op = .mul ∨ op = .quo) (t : TypeId) (x y : Nat) (w : World) :
    ∃ r w', (binOp op t (.float .f64 x) (.float .f64 y)).run P w = .ok (.float .f64 r) w' ∧ Gives op x y r ∧ Below w.heap.size w w' := by
  cases h : floatBits op .f64 x y with
  | some q =>
    refine ⟨q, w, run_float_arith w op t .f64 x y q h, ⟨?_, by rw [h]⟩, Below.refl _ _⟩
    have := floatBits_wf h
    simpa [Lit.wf] using this
  | none =>
    have key := drawn_nan (w.tape w.drawn (.nanBits .f64 x y))
    refine ⟨_, w.drew, ?_, ⟨key.1, by rw [h]; exact key.2⟩, (Below.refl _ _).drew⟩
    unfold floatBits at h
    rcases hop with rfl | rfl | rfl | rfl <;> simp only at h <;> simp [binOp, Op.floatArith, h, choose] <;> rfl

/-- What a division of two whole numbers gives: just those bits, or a NaN. -/
def Divs (a b : Int) (r : Nat) : Prop := Gives .quo (floatOfInt .f64 a) (floatOfInt .f64 b) r

def Shares (a b : Int) (w : World) (e : Ending) (w' : World) : Prop := ∃ r, e = .returned (.float .f64 r) ∧ Divs a b r ∧ Below w.heap.size w w'
end Go.Proofs.Ytbgjoohnognagaa
