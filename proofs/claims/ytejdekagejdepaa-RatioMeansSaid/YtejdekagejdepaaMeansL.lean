/- RatioMeans' walk: for every three numbers it answers true. No condition. -/
import Derived.Test.YtejdekagejdepaaMeans
import Derived.Test.YtejdekagejdepaaOrders
namespace Go.Proofs.Ytejdekagejdepaa
open Go.RowKit Ieee

theorem hold_lt (x : Nat) (hx : x < 18446744073709551616) : holdN x < 18446744073709551616 := by
  unfold holdN; split
  · exact z64
  · split
    · exact z64b
    · split
      · exact hx
      · exact z64
theorem hold_nan (x : Nat) : nanB (holdN x) = false := by
  unfold holdN
  cases hn : nanB x
  · rw [if_neg (by simp)]
    split
    · exact nan1
    · split
      · exact hn
      · exact nan0
  · rw [if_pos rfl]; exact nan0
theorem hold_key (x : Nat) : 0 ≤ key (holdN x) ∧ key (holdN x) ≤ 4607182418800017408 := by
  unfold holdN
  split
  · rw [key0]; omega
  · split
    · rw [key1]; omega
    · split
      · omega
      · rw [key0]; omega
theorem hold_facts (x : Nat) (hx : x < 18446744073709551616) : (FloatKind.f64.format.order (holdN x) 0 == some .lt) = false ∧ (FloatKind.f64.format.order (holdN x) 4607182418800017408 == some .gt) = false ∧ (FloatKind.f64.format.order (holdN x) (holdN x) != some .eq) = false := by
  have h1 := hold_lt x hx
  have h2 := hold_nan x
  have h3 := hold_key x
  refine ⟨?_, ?_, ?_⟩
  · rcases Int.lt_trichotomy (key (holdN x)) 0 with h | h | h
    · omega
    · rw [ord_eq h1 z64 h2 nan0 (by rw [key0]; exact h)]; rfl
    · rw [ord_gt h1 z64 h2 nan0 (by rw [key0]; exact h)]; rfl
  · rcases Int.lt_trichotomy (key (holdN x)) 4607182418800017408 with h | h | h
    · rw [ord_lt h1 z64b h2 nan1 (by rw [key1]; exact h)]; rfl
    · rw [ord_eq h1 z64b h2 nan1 (by rw [key1]; exact h)]; rfl
    · omega
  · rw [ord_eq h1 h1 h2 h2 rfl]; rfl

theorem gives_some {op : BinOp} {x y r q : Nat} (h : Gives op x y r) (hq : floatBits op .f64 x y = some q) : r = q := by
  obtain ⟨_, h⟩ := h; rw [hq] at h; exact h
theorem gives_none {op : BinOp} {x y r : Nat} (h : Gives op x y r) (hq : floatBits op .f64 x y = none) : nanB r = true := by
  obtain ⟨_, h⟩ := h; rw [hq] at h; exact h
theorem mean_same {x y t r s : Nat} (h1 : MeanR x y t r) (h2 : MeanR x y t s) : ((bitsOf r : Int) == (bitsOf s : Int)) = true := by
  obtain ⟨_, h1⟩ := h1
  obtain ⟨_, h2⟩ := h2
  cases fx : finB x
  · rw [fx] at h1 h2
    simp only [if_true] at h1 h2
    rw [h1, h2]; simp
  · cases fy : finB y
    · rw [fx, fy] at h1 h2
      simp only [Bool.true_eq_false, if_false, if_true] at h1 h2
      rw [h1, h2]; simp
    · rw [fx, fy] at h1 h2
      simp only [Bool.true_eq_false, if_false] at h1 h2
      obtain ⟨d, p, a1, a2, a3⟩ := h1
      obtain ⟨d', p', c1, c2, c3⟩ := h2
      cases hd : floatBits .sub .f64 y x with
      | some q =>
        obtain rfl := gives_some a1 hd
        obtain rfl := gives_some c1 hd
        cases hp : floatBits .mul .f64 (holdN t) d' with
        | some q =>
          obtain rfl := gives_some a2 hp
          obtain rfl := gives_some c2 hp
          exact gives_same a3 c3
        | none =>
          have n1 := gives_none a3 (show floatBits .add .f64 x p = none from add_nan a2.1 (gives_none a2 hp))
          have n2 := gives_none c3 (show floatBits .add .f64 x p' = none from add_nan c2.1 (gives_none c2 hp))
          unfold bitsOf; rw [n1, n2]; simp
      | none =>
        have m1 : floatBits .mul .f64 (holdN t) d = none := mul_nan a1.1 (gives_none a1 hd)
        have m2 : floatBits .mul .f64 (holdN t) d' = none := mul_nan c1.1 (gives_none c1 hd)
        have n1 := gives_none a3 (show floatBits .add .f64 x p = none from add_nan a2.1 (gives_none a2 m1))
        have n2 := gives_none c3 (show floatBits .add .f64 x p' = none from add_nan c2.1 (gives_none c2 m2))
        unfold bitsOf; rw [n1, n2]; simp
theorem mean_nought {x y d r : Nat} (hx : x < 18446744073709551616) (hy : y < 18446744073709551616) (fx : finB x = true) (fy : finB y = true) (hd : Gives .sub y x d) (fd : finB d = true) (h : MeanR x y 0 r) : (FloatKind.f64.format.order r x != some .eq) = false := by
  obtain ⟨hr, h⟩ := h
  rw [fx, fy] at h
  simp only [Bool.true_eq_false, if_false] at h
  obtain ⟨d', p, a1, a2, a3⟩ := h
  obtain ⟨q, hq, _⟩ := sub_fin hy hx fy fx
  have hq' : floatBits .sub .f64 y x = some q := hq
  obtain rfl := gives_some hd hq'
  obtain rfl := gives_some a1 hq'
  have h0 : holdN 0 = 0 := by decide +kernel
  rw [h0] at a2
  obtain rfl := gives_some a2 (show floatBits .mul .f64 0 d' = _ from mul_nought hd.1 fd)
  obtain ⟨s, hs, hs1, hs2, hs3⟩ := add_nought hx fx (neg63 d')
  obtain rfl := gives_some a3 hs
  rw [ord_eq hs1 hx hs2 (fin_nan fx) hs3]; rfl

set_option maxRecDepth 100000 in
set_option maxHeartbeats 4000000 in
theorem means_at (x y t h : Nat) (hx : x < 18446744073709551616) (hy : y < 18446744073709551616) (ht : t < 18446744073709551616) (hh : holdN x = h) (hhl : h < 18446744073709551616) (h1 : (FloatKind.f64.format.order h 0 == some .lt) = false)
    (h2 : (FloatKind.f64.format.order h 4607182418800017408 == some .gt) = false) (h3 : (FloatKind.f64.format.order h h != some .eq) = false) (w : World) :
    Calls Try.prog 6 #[.int .u64 (x : Int), .int .u64 (y : Int), .int .u64 (t : Int)] w fun e w' => e = .returned (.bool true) ∧ Below w.heap.size w w' := by
  have HX := Lib.hid hx
  have HY := Lib.hid hy
  have HT := Lib.hid ht
  have HH := Lib.hid hh
  have HHL := Lib.hid hhl
  clear hx hy ht hh hhl
  go_enter Try.func6, Try.ntmps6
  go_wp2_with fail
  refine (alive_any w).mono ?_
  rintro e w1 ⟨rfl, b1⟩
  go_wp2_with fail
  refine (of_any x w1).mono ?_
  rintro e w2 ⟨rfl, rfl⟩
  go_wp2_with fail
  refine (of_any y w1).mono ?_
  rintro e w2 ⟨rfl, rfl⟩
  go_wp2_with fail
  refine (of_any t w1).mono ?_
  rintro e w2 ⟨rfl, rfl⟩
  go_wp2_with fail
  refine (hold_any x HX.out w1).mono ?_
  rw [HH.out]
  rintro e w2 ⟨rfl, rfl⟩
  go_wp2_with fail
  refine (rhold_any x HX.out w1).mono ?_
  rw [HH.out]
  rintro e w2 ⟨rfl, rfl⟩
  go_wp2_with fail
  refine (lbits_any h h HHL.out HHL.out w1).mono ?_
  rw [beq_self_eq_true]
  rintro e w2 ⟨rfl, rfl⟩
  have s1 := b1.size
  obtain ⟨d, w3, hr3, hg3, b3⟩ := run_flt (P := Try.prog) .sub (by simp) 24 y x w1
  have HG3 := Lib.hid hg3
  clear hg3
  have s3 := b3.size
  go_wp2_with fail
  refine (finite_any x HX.out w3).mono ?_
  rintro e w4 ⟨rfl, b4⟩
  have s4 := b4.size
  cases fx : finB x
  · have FX := Lib.hid fx
    clear fx
    go_wp2_with fail
    refine (mean_any x y t HX.out HY.out HT.out w4).mono ?_
    rintro e w8 ⟨r1, rfl, hm1, b8⟩
    have HM1 := Lib.hid hm1
    clear hm1
    have s8 := b8.size
    go_wp2_with fail
    refine (rmean_any x y t HX.out HY.out HT.out w8).mono ?_
    rintro e w9 ⟨r2, rfl, hm2, b9⟩
    have HS := Lib.hid (mean_same HM1.out hm2)
    have HM2 := Lib.hid hm2
    clear hm2
    go_wp2_with fail
    refine (lbits_any r1 r2 HM1.out.1 HM2.out.1 w9).mono ?_
    rw [HS.out]
    rintro e w10 ⟨rfl, rfl⟩
    go_wp2_with fail
    refine (due_any x y w9).mono ?_
    rintro e w10 ⟨rfl, rfl⟩
    go_wp2_with fail
    go_ret
    exact ⟨by simp, (b1.trans ((b3.mono s1).trans (b4.mono (by omega)))).trans ((b8.mono (by omega)).trans (b9.mono (by omega)))⟩
  · have FX := Lib.hid fx
    clear fx
    go_wp2_with fail
    refine (finite_any y HY.out w4).mono ?_
    rintro e w5 ⟨rfl, b5⟩
    have s5 := b5.size
    cases fy : finB y
    · have FY := Lib.hid fy
      clear fy
      go_wp2_with fail
      refine (mean_any x y t HX.out HY.out HT.out w5).mono ?_
      rintro e w8 ⟨r1, rfl, hm1, b8⟩
      have HM1 := Lib.hid hm1
      clear hm1
      have s8 := b8.size
      go_wp2_with fail
      refine (rmean_any x y t HX.out HY.out HT.out w8).mono ?_
      rintro e w9 ⟨r2, rfl, hm2, b9⟩
      have HS := Lib.hid (mean_same HM1.out hm2)
      have HM2 := Lib.hid hm2
      clear hm2
      go_wp2_with fail
      refine (lbits_any r1 r2 HM1.out.1 HM2.out.1 w9).mono ?_
      rw [HS.out]
      rintro e w10 ⟨rfl, rfl⟩
      go_wp2_with fail
      refine (due_any x y w9).mono ?_
      rintro e w10 ⟨rfl, rfl⟩
      go_wp2_with fail
      go_ret
      exact ⟨by simp, (b1.trans ((b3.mono s1).trans ((b4.mono (by omega)).trans (b5.mono (by omega))))).trans ((b8.mono (by omega)).trans (b9.mono (by omega)))⟩
    · have FY := Lib.hid fy
      clear fy
      go_wp2_with fail
      refine (finite_any d HG3.out.1 w5).mono ?_
      rintro e w6 ⟨rfl, b6⟩
      have s6 := b6.size
      cases fd : finB d
      · have FD := Lib.hid fd
        clear fd
        go_wp2_with fail
        refine (mean_any x y t HX.out HY.out HT.out w6).mono ?_
        rintro e w8 ⟨r1, rfl, hm1, b8⟩
        have HM1 := Lib.hid hm1
        clear hm1
        have s8 := b8.size
        go_wp2_with fail
        refine (rmean_any x y t HX.out HY.out HT.out w8).mono ?_
        rintro e w9 ⟨r2, rfl, hm2, b9⟩
        have HS := Lib.hid (mean_same HM1.out hm2)
        have HM2 := Lib.hid hm2
        clear hm2
        go_wp2_with fail
        refine (lbits_any r1 r2 HM1.out.1 HM2.out.1 w9).mono ?_
        rw [HS.out]
        rintro e w10 ⟨rfl, rfl⟩
        go_wp2_with fail
        refine (due_any x y w9).mono ?_
        rintro e w10 ⟨rfl, rfl⟩
        go_wp2_with fail
        go_ret
        exact ⟨by simp, (b1.trans ((b3.mono s1).trans ((b4.mono (by omega)).trans ((b5.mono (by omega)).trans (b6.mono (by omega)))))).trans ((b8.mono (by omega)).trans (b9.mono (by omega)))⟩
      · have FD := Lib.hid fd
        clear fd
        go_wp2_with fail
        refine (mean_any x y 0 HX.out HY.out z64 w6).mono ?_
        rintro e w7 ⟨r0, rfl, hm0, b7⟩
        have hq := mean_nought HX.out HY.out FX.out FY.out HG3.out FD.out hm0
        clear hm0
        have s7 := b7.size
        go_wp2_with fail
        refine (mean_any x y t HX.out HY.out HT.out w7).mono ?_
        rintro e w8 ⟨r1, rfl, hm1, b8⟩
        have HM1 := Lib.hid hm1
        clear hm1
        have s8 := b8.size
        go_wp2_with fail
        refine (rmean_any x y t HX.out HY.out HT.out w8).mono ?_
        rintro e w9 ⟨r2, rfl, hm2, b9⟩
        have HS := Lib.hid (mean_same HM1.out hm2)
        have HM2 := Lib.hid hm2
        clear hm2
        go_wp2_with fail
        refine (lbits_any r1 r2 HM1.out.1 HM2.out.1 w9).mono ?_
        rw [HS.out]
        rintro e w10 ⟨rfl, rfl⟩
        go_wp2_with fail
        refine (due_any x y w9).mono ?_
        rintro e w10 ⟨rfl, rfl⟩
        go_wp2_with fail
        go_ret
        exact ⟨by simp, (b1.trans ((b3.mono s1).trans ((b4.mono (by omega)).trans ((b5.mono (by omega)).trans ((b6.mono (by omega)).trans (b7.mono (by omega))))))).trans ((b8.mono (by omega)).trans (b9.mono (by omega)))⟩
theorem means_law (a : Int) (ha : (Lit.int .u64 a).wf = true) (b : Int) (hb : (Lit.int .u64 b).wf = true) (c : Int) (hc : (Lit.int .u64 c).wf = true) (w : World) :
    Calls Try.prog 6 #[.int .u64 a, .int .u64 b, .int .u64 c] w fun e w' => e = .returned (.bool true) ∧ Below w.heap.size w w' := by
  have ka := u64_of ha
  have kb := u64_of hb
  have kc := u64_of hc
  obtain ⟨a, rfl⟩ := Int.eq_ofNat_of_zero_le ka.1
  obtain ⟨b, rfl⟩ := Int.eq_ofNat_of_zero_le kb.1
  obtain ⟨c, rfl⟩ := Int.eq_ofNat_of_zero_le kc.1
  have hla : a < 18446744073709551616 := by omega
  obtain ⟨f1, f2, f3⟩ := hold_facts a hla
  exact means_at a b c _ hla (by omega) (by omega) rfl (hold_lt a hla) f1 f2 f3 w
end Go.Proofs.Ytejdekagejdepaa
