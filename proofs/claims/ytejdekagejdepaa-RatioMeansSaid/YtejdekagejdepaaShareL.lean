/- RatioShares' walk: for every part and whole it answers true. No condition. -/
import Derived.Test.YtejdekagejdepaaShare
import Derived.Test.YtejdekagejdepaaFloatC
namespace Go.Proofs.Ytejdekagejdepaa
open Go.RowKit Ieee

theorem lbits_any (x y : Nat) (hx : x < 18446744073709551616) (hy : y < 18446744073709551616) (w : World) : Calls Try.prog 9 #[.float .f64 x, .float .f64 y] w fun e w' => e = .returned (.bool ((bitsOf x : Int) == (bitsOf y : Int))) ∧ w = w' := by
  have HX := Lib.hid hx
  have HY := Lib.hid hy
  clear hx hy
  go_enter Try.func9, Try.ntmps9
  go_wp2_with fail
  refine (bits_any x HX.out w).mono ?_
  rintro e w1 ⟨rfl, rfl⟩
  go_wp2_with fail
  refine (bits_any y HY.out w).mono ?_
  rintro e w1 ⟨rfl, rfl⟩
  go_wp2_with fail
  go_ret
  exact ⟨rfl, rfl⟩

theorem gives_same {op : BinOp} {x y r s : Nat} (h1 : Gives op x y r) (h2 : Gives op x y s) : ((bitsOf r : Int) == (bitsOf s : Int)) = true := by
  obtain ⟨_, h1⟩ := h1
  obtain ⟨_, h2⟩ := h2
  cases h : floatBits op .f64 x y with
  | some q => rw [h] at h1 h2; simp only at h1 h2; rw [h1, h2]; simp
  | none => rw [h] at h1 h2; simp only at h1 h2; unfold bitsOf; rw [h1, h2]; simp

theorem shares_law (a : Int) (_ : (Lit.int .i64 a).wf = true) (b : Int) (_ : (Lit.int .i64 b).wf = true) (w : World) : Calls Try.prog 3 #[.int .i64 a, .int .i64 b] w fun e w' => e = .returned (.bool true) ∧ Below w.heap.size w w' := by
  go_enter Try.func3, Try.ntmps3
  go_wp2_with fail
  refine (alive_any w).mono ?_
  rintro e w1 ⟨rfl, b1⟩
  go_wp2_with fail
  by_cases hb : b = 0
  · subst hb
    rcases Int.lt_trichotomy a 0 with h | h | h
    · have hd : ∀ r, Divs a 0 r → ((bitsOf 18442240474082181120 : Int) == (bitsOf r : Int)) = true := fun r hr => by
        have e := div_nought a (by omega)
        rw [if_pos h] at e
        have := hr.2
        rw [float_nought] at this
        simp only [floatBits] at this
        rw [show FloatKind.f64.format.div (floatOfInt .f64 a) 0 = _ from e] at this
        simp only at this
        rw [this]; simp
      have HD := Lib.hid hd
      clear hd
      refine (share_neg a h w1).mono ?_
      rintro e w2 ⟨rfl, rfl⟩
      go_wp2_with fail
      refine (rshare_any a 0 w1).mono ?_
      rintro e w3 ⟨r, rfl, hr, b3⟩
      have HE := Lib.hid (HD.out r hr)
      have HR := Lib.hid hr
      clear hr
      go_wp2_with fail
      refine (lbits_any _ r (by decide +kernel) HR.out.1 w3).mono ?_
      rw [HE.out]
      rintro e w4 ⟨rfl, rfl⟩
      go_wp2_with fail
      go_ret
      exact ⟨rfl, b1.trans (b3.mono b1.size)⟩
    · subst h
      have hd : ∀ r, Divs 0 0 r → ((bitsOf 9221120237041090561 : Int) == (bitsOf r : Int)) = true := fun r hr => by
        have := hr.2
        rw [float_nought] at this
        simp only [floatBits] at this
        rw [show FloatKind.f64.format.div 0 0 = none by decide +kernel] at this
        simp only at this
        unfold bitsOf
        rw [this, show nanB 9221120237041090561 = true by decide +kernel]; simp
      have HD := Lib.hid hd
      clear hd
      refine (share_zero w1).mono ?_
      rintro e w2 ⟨rfl, rfl⟩
      go_wp2_with fail
      refine (rshare_any 0 0 w1).mono ?_
      rintro e w3 ⟨r, rfl, hr, b3⟩
      have HE := Lib.hid (HD.out r hr)
      have HR := Lib.hid hr
      clear hr
      go_wp2_with fail
      refine (lbits_any _ r (by decide +kernel) HR.out.1 w3).mono ?_
      rw [HE.out]
      rintro e w4 ⟨rfl, rfl⟩
      go_wp2_with fail
      go_ret
      exact ⟨rfl, b1.trans (b3.mono b1.size)⟩
    · have hd : ∀ r, Divs a 0 r → ((bitsOf 9218868437227405312 : Int) == (bitsOf r : Int)) = true := fun r hr => by
        have e := div_nought a (by omega)
        rw [if_neg (by omega)] at e
        have := hr.2
        rw [float_nought] at this
        simp only [floatBits] at this
        rw [show FloatKind.f64.format.div (floatOfInt .f64 a) 0 = _ from e] at this
        simp only at this
        rw [this]; simp
      have HD := Lib.hid hd
      clear hd
      refine (share_pos a h w1).mono ?_
      rintro e w2 ⟨rfl, rfl⟩
      go_wp2_with fail
      refine (rshare_any a 0 w1).mono ?_
      rintro e w3 ⟨r, rfl, hr, b3⟩
      have HE := Lib.hid (HD.out r hr)
      have HR := Lib.hid hr
      clear hr
      go_wp2_with fail
      refine (lbits_any _ r (by decide +kernel) HR.out.1 w3).mono ?_
      rw [HE.out]
      rintro e w4 ⟨rfl, rfl⟩
      go_wp2_with fail
      go_ret
      exact ⟨rfl, b1.trans (b3.mono b1.size)⟩
  · refine (share_some a b hb w1).mono ?_
    rintro e w2 ⟨s, rfl, hs, b2⟩
    have HS := Lib.hid hs
    clear hs hb
    go_wp2_with fail
    refine (rshare_any a b w2).mono ?_
    rintro e w3 ⟨r, rfl, hr, b3⟩
    have HE := Lib.hid (gives_same HS.out hr)
    have HR := Lib.hid hr
    clear hr
    go_wp2_with fail
    refine (lbits_any s r HS.out.1 HR.out.1 w3).mono ?_
    rw [HE.out]
    rintro e w4 ⟨rfl, rfl⟩
    go_wp2_with fail
    go_ret
    have := b2.size
    exact ⟨rfl, (b1.trans (b2.mono b1.size)).trans (b3.mono (by have := b1.size; omega))⟩
end Go.Proofs.Ytejdekagejdepaa
