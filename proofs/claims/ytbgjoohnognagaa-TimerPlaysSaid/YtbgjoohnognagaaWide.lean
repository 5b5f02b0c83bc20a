/- entrustnum.Wide: whether two slices of numbers read alike. No condition but that they can be read. -/
import Derived.Test.YtbgjoohnognagaaNew
import Derived.Test.YtbgjoohnognagaaRows
namespace Go.Proofs.Ytbgjoohnognagaa
open Go.RowKit

theorem rd_one {p : Nat → Prop} {w : World} {A : Option Addr} {n : Nat} {xs : List Value} (h : Rd p w 1 A n xs) {i : Nat} (hi : i < n) :
    ∃ (g o : Nat) (hl : i < xs.length), A = some ⟨g, o, none⟩ ∧ p g ∧ g < w.heap.size ∧ w.cell? ⟨g, o + i, none⟩ = some xs[i] := by
  obtain ⟨g, o, hA, hp, hg, hc⟩ := h.out (by omega) (by omega)
  have hl : i < xs.length := by have := h.1; omega
  exact ⟨g, o, hl, hA, hp, hg, hc i _ (List.getElem?_eq_getElem hl)⟩
def u64s (xs : List Int) : List Value := xs.map (Value.int .u64)
theorem u64s_len (xs : List Int) : (u64s xs).length = xs.length := by simp [u64s]
theorem u64s_get (xs : List Int) (i : Nat) (h : i < (u64s xs).length) : (u64s xs)[i] = .int .u64 (xs[i]'(by simpa [u64s] using h)) := by simp [u64s]

set_option maxHeartbeats 1000000 in
theorem wide_any {p q : Nat → Prop} (A B : Option Addr) (n m ca cb : Nat) (xs ys : List Int) (w : World) (hx : Rd p w 1 A n (u64s xs)) (hy : Rd q w 1 B m (u64s ys)) (hn : n ≤ 1000000) (hm : m ≤ 1000000) :
    Calls Try.prog 23 #[.slice A n ca, .slice B m cb] w fun e w' => e = .returned (.bool (decide (xs = ys))) ∧ New w w' := by
  have hlx : xs.length = n := by have := hx.1; rw [u64s_len] at this; omega
  have hly : ys.length = m := by have := hy.1; rw [u64s_len] at this; omega
  have HX := Lib.hid hx
  have HY := Lib.hid hy
  have HLX := Lib.hid hlx
  have HLY := Lib.hid hly
  clear hx hy hlx hly
  by_cases hnm : n = m
  · subst hnm
    go_enter Try.func23, Try.ntmps23
    go_wp2_with fail
    go_loopw [13] (fun i wr => ∃ k : Nat, k ≤ n ∧ i = .int .i64 k ∧ Hid (xs.take k = ys.take k) ∧ Hid (New w wr)) (fun i _ => n - (intOf i).toNat)
    case atStart => exact ⟨0, Nat.zero_le _, rfl, Lib.hid rfl, Lib.hid (New.refl w)⟩
    case round =>
      obtain ⟨k, hk, rfl, HT, HN⟩ := hrel
      by_cases hlt : k < n
      · obtain ⟨g, o, hl, rfl, -, -, cx⟩ := rd_one (HN.out.rd HX.out) hlt
        obtain ⟨g', o', hl', rfl, -, -, cy⟩ := rd_one (HN.out.rd HY.out) hlt
        rw [u64s_get] at cx cy
        have hx' : k < xs.length := by rw [u64s_len] at hl; exact hl
        have hy' : k < ys.length := by rw [u64s_len] at hl'; exact hl'
        have hi0 : (0 : Int) ≤ (k : Int) := by omega
        have hi1 : (k : Int) < (n : Int) := by omega
        by_cases he : xs[k] = ys[k]
        · have hb : (xs[k] != ys[k]) = false := by simp [he]
          have HE := Lib.hid he
          have HXL := Lib.hid hx'
          have HYL := Lib.hid hy'
          clear he
          go_wp2_with fail
          go_quiet (fail)
          go_wp2_with fail
          go_roundw
          case rel => exact ⟨k + 1, by omega, by go_num, Lib.hid (by rw [List.take_succ_eq_append_getElem hx', List.take_succ_eq_append_getElem hy', HT.out, HE.out]), Lib.hid (by first | exact (HN.out.dn _) | exact HN.out.dr)⟩
          case measure => simp [intOf]; omega
        · have hb : (xs[k] != ys[k]) = true := by simp [he]
          have HE := Lib.hid he
          clear he
          go_wp2_with fail
          go_quiet (fail)
          go_wp2_with fail
          go_ret
          refine ⟨?_, by first | exact (HN.out.dn _) | exact HN.out.dr⟩
          have : ¬ xs = ys := fun e => HE.out (by subst e; rfl)
          simp [this]
      · go_wp2_with fail
        go_ret
        have : xs = ys := by
          have h := HT.out
          rwa [List.take_of_length_le (by rw [HLX.out]; omega), List.take_of_length_le (by rw [HLY.out]; omega)] at h
        exact ⟨by simp [this], HN.out⟩
  · have hd : decide ((n : Int) = (m : Int)) = false := by simp; omega
    have hd2 : ((n : Int) != (m : Int)) = true := by simp; omega
    have hne : ¬ xs = ys := fun e => hnm (by rw [← HLX.out, ← HLY.out, e])
    have HNE := Lib.hid hne
    clear hne
    go_enter Try.func23, Try.ntmps23
    go_wp2_with fail
    go_ret
    exact ⟨by simp [HNE.out], New.refl w⟩
end Go.Proofs.Ytbgjoohnognagaa
