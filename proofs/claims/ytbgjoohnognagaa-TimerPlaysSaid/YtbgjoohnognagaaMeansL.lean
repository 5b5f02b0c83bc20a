/- RatioMeans' walk: for every three numbers it answers true. No condition. -/
import Derived.Test.YtbgjoohnognagaaMeans
import Derived.Test.YtbgjoohnognagaaOrders
namespace Go.Proofs.Ytbgjoohnognagaa
open Go.RowKit Ieee

theorem hold_lt (x : Nat) (hx : x < 18446744073709551616) : holdN x < 18446744073709551616 := by
  unfold holdN; split
  · exact z64
  · split
    · exact z64b
    · split
      · exact hx
      · exact z64
theorem hold_nan (x : Nat) : nanB (holdN x) = false := by
  unfold holdN
  cases hn : nanB x
  · rw [if_neg (by simp)]
    split
    · exact nan1
    · split
      · exact hn
      · exact nan0
  · rw [if_pos rfl]; exact nan0
theorem hold_key (x : Nat) : 0 ≤ key (holdN x) ∧ key (holdN x) ≤ 4607182418800017408 := by
  unfold holdN
  split
  · rw [key0]; omega
  · split
    · rw [key1]; omega
    · split
      · omega
      · rw [key0]; omega
theorem hold_facts (x : Nat) (hx : x < 18446744073709551616) : (FloatKind.f64.format.order (holdN x) 0 == some .lt) = false ∧ (FloatKind.f64.format.order (holdN x) 4607182418800017408 == some .gt) = false ∧ (FloatKind.f64.format.order (holdN x) (holdN x) != some .eq) = false := by
  have h1 := hold_lt x hx
  have h2 := hold_nan x
  have h3 := hold_key x
  refine ⟨?_, ?_, ?_⟩
  · rcases Int.lt_trichotomy (key (holdN x)) 0 with h | h | h
    · omega
    · rw [ord_eq h1 z64 h2 nan0 (by rw [key0]; exact h)]; rfl
    · rw [ord_gt h1 z64 h2 nan0 (by rw [key0]; exact h)]; rfl
  · rcases Int.lt_trichotomy (key (holdN x)) 4607182418800017408 with h | h | h
    · rw [ord_lt h1 z64b h2 nan1 (by rw [key1]; exact h)]; rfl
    · rw [ord_eq h1 z64b h2 nan1 (by rw [key1]; exact h)]; rfl
    · omega
  · rw [ord_eq h1 h1 h2 h2 rfl]; rfl

theorem gives_some {op : BinOp} {x y r q : Nat} (h : Gives op x y r) (hq : floatBits op .f64 x y = some q) : r = q := by
  obtain ⟨_, h⟩ := h; rw [hq] at h; exact h
theorem gives_none {op : BinOp} {x y r : Nat} (h : Gives op x y r) (hq : floatBits op .f64 x y = none) : nanB r = true := by
  obtain ⟨_, h⟩ := h; rw [hq] at h; exact h
theorem mean_same {x y t r s : Nat} (h1 : MeanR x y t r) (h2 : MeanR x y t s) : ((bitsOf r : Int) == (bitsOf s : Int)) = true := by
  obtain ⟨_, h1⟩ := h1
  obtain ⟨_, h2⟩ := h2
  cases fx : finB x
  · rw [fx] at h1 h2
    simp only [if_true] at h1 h2
    rw [h1, h2]; simp
  · cases fy : finB y
    · rw [fx, fy] at h1 h2
      simp only [Bool.true_eq_false, if_false, if_true] at h1 h2
      rw [h1, h2]; simp
    · rw [fx, fy] at h1 h2
      simp only [Bool.true_eq_false, if_false] at h1 h2
      obtain ⟨d, p, a1, a2, a3⟩ := h1
      obtain ⟨d', p', c1, c2, c3⟩ := h2
      cases hd : floatBits .sub .f64 y x with
      | some q =>
        obtain rfl := gives_some a1 hd
        obtain rfl := gives_some c1 hd
        cases hp : floatBits .mul .f64 (holdN t) d' with
        | some q =>
          obtain rfl := gives_some a2 hp
          obtain rfl := gives_some c2 hp
          exact gives_same a3 c3
        | none =>
          have n1 := gives_none a3 (show floatBits .add .f64 x p = none from add_nan a2.1 (gives_none a2 hp))
          have n2 := gives_none c3 (show floatBits .add .f64 x p' = none from add_nan c2.1 (gives_none c2 hp))
          unfold bitsOf; rw [n1, n2]; simp
      | none =>
        have m1 : floatBits .mul .f64 (holdN t) d = none := mul_nan a1.1 (gives_none a1 hd)
        have m2 : floatBits .mul .f64 (holdN t) d' = none := mul_nan c1.1 (gives_none c1 hd)
        have n1 := gives_none a3 (show floatBits .add .f64 x p = none from add_nan a2.1 (gives_none a2 m1))
        have n2 := gives_none c3 (show floatBits .add .f64 x p' = none from add_nan c2.1 (gives_none c2 m2))
        unfold bitsOf; rw [n1, n2]; simp
theorem mean_nought {x y d r : Nat} (hx : x < 18446744073709551616) (hy : y < 18446744073709551616) (fx : finB x = true) (fy : finB y = true) (hd : Gives .sub y x d) (fd : finB d = true) (h : MeanR x y 0 r) : (FloatKind.f64.format.order r x != some .eq) = false := by
  obtain ⟨hr, h⟩ := h
  rw [fx, fy] at h
  simp only [Bool.true_eq_false, if_false] at h
  obtain ⟨d', p, a1, a2, a3⟩ := h
  obtain ⟨q, hq, _⟩ := sub_fin hy hx fy fx
  have hq' : floatBits .sub .f64 y x = some q := hq
  obtain rfl := gives_some hd hq'
  obtain rfl := gives_some a1 hq'
  have h0 : holdN 0 = 0 := by decide +kernel
  rw [h0] at a2
  obtain rfl := gives_some a2 (show floatBits .mul .f64 0 d' = _ from mul_nought hd.1 fd)
  obtain ⟨s, hs, hs1, hs2, hs3⟩ := add_nought hx fx (neg63 d')
  obtain rfl := gives_some a3 hs
  rw [ord_eq hs1 hx hs2 (fin_nan fx) hs3]; rfl

end Go.Proofs.Ytbgjoohnognagaa
