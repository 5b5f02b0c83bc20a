/- Least: the place of the least one, by ranks. No condition. -/
import Derived.Test.YtejdekagejdepaaShare
import Derived.Test.YtejdekagejdepaaApp
import Derived.Test.YtejdekagejdepaaOpen
import Derived.Lib.Hide
import Derived.Deep.QuietTactic
import Derived.BigQuiet
namespace Go.Proofs.Ytejdekagejdepaa
open Go.RowKit Ieee

/-- What stands at a place. -/
def lk (L : List Nat) (i : Nat) : Nat := L.getD i 0
def fcell (x : Nat) : List Value := [.float .f64 x]
/-- b is the place of the least one of the first k. -/
def Best (L : List Nat) (k : Nat) (b : Int) : Prop :=
  (k = 0 ∧ b = -1) ∨ ∃ m : Nat, b = m ∧ m < k ∧ m < L.length ∧ (∀ i, i < k → i < L.length → rankN (lk L m) ≤ rankN (lk L i)) ∧ ∀ i, i < m → rankN (lk L m) < rankN (lk L i)

theorem best_step (L : List Nat) (k m : Nat) (hk : k < L.length) (h : Best L k m) : (cmpN (lk L k) (lk L m) < 0 → Best L (k + 1) k) ∧ (¬ cmpN (lk L k) (lk L m) < 0 → Best L (k + 1) m) := by
  rcases h with ⟨_, h⟩ | ⟨m', he, h1, h2, h3, h4⟩
  · omega
  · obtain rfl : m' = m := by omega
    have hc : cmpN (lk L k) (lk L m') < 0 ↔ rankN (lk L k) < rankN (lk L m') := by
      unfold cmpN cmp3; split
      · omega
      · split <;> omega
    rw [hc]
    refine ⟨fun hl => .inr ⟨k, rfl, by omega, hk, fun i hi hil => ?_, fun i hi => ?_⟩, fun hl => .inr ⟨m', rfl, by omega, h2, fun i hi hil => ?_, h4⟩⟩
    · by_cases hik : i < k
      · have := h3 i hik hil; omega
      · have : i = k := by omega
        subst this; exact Nat.le_refl _
    · have := h3 i hi (by omega); omega
    · by_cases hik : i < k
      · exact h3 i hik hil
      · have : i = k := by omega
        subst this; omega
theorem best_first (L : List Nat) (k : Nat) (hk : k < L.length) (h : Best L k (-1)) : Best L (k + 1) k := by
  rcases h with ⟨h0, _⟩ | ⟨m', he, _⟩
  · subst h0
    refine .inr ⟨0, rfl, by omega, hk, fun i hi _ => ?_, fun i hi => by omega⟩
    have : i = 0 := by omega
    subst this; exact Nat.le_refl _
  · omega

set_option maxRecDepth 100000 in
theorem least_any (A : Option Addr) (n c : Nat) (L : List Nat) (p : Nat → Prop) (w : World) (hn : n ≤ 200) (hl : L.length = n) (hwf : ∀ i, i < n → lk L i < 18446744073709551616) (hR : Rd p w 1 A n (L.flatMap fcell)) :
    Calls Try.prog 17 #[.slice A n c] w fun e w' => (∃ b : Int, e = .returned (.int .i64 b) ∧ Best L n b) ∧ w = w' := by
  have HL := Lib.hid hl
  have HW := Lib.hid hwf
  have HR := Lib.hid hR
  clear hl hwf hR
  go_enter Try.func17, Try.ntmps17
  go_wp2_with fail
  go_loopw [3, 8] (fun b i wr => ∃ (k : Nat) (m : Int), k ≤ n ∧ i = .int .i64 k ∧ b = .int .i64 m ∧ wr = w ∧ Hid (Best L k m)) (fun _ i _ => n - (intOf i).toNat)
  case atStart => exact ⟨0, -1, Nat.zero_le _, rfl, rfl, rfl, Lib.hid (.inl ⟨rfl, rfl⟩)⟩
  case round =>
    obtain ⟨k, m, hk, rfl, rfl, rfl, HB⟩ := hrel
    by_cases hlt : k < n
    · obtain ⟨g, o, rfl, hpb, hbb, hc⟩ := HR.out.out (by omega) (by omega)
      have hat : ∀ i, i < n → wr.cell? ⟨g, o + i, none⟩ = some (.float .f64 (lk L i)) := fun i hi => by
        refine hc i _ ?_
        have hi' : i < L.length := by have := HL.out; omega
        have := fm_get fcell 1 L i 0 hi' (by simp [fcell]) (by omega)
        rw [Nat.mul_one, Nat.add_zero] at this
        rw [this]
        simp [fcell, lk, List.getD, hi']
      have HA := Lib.hid hat
      have hck := hat k hlt
      clear hat hc
      by_cases hm0 : m < 0
      · have hm : m = -1 := by rcases HB.out with ⟨_, h⟩ | ⟨m', h, _⟩ <;> omega
        subst hm
        have HB1 := Lib.hid (best_first L k (by have := HL.out; omega) HB.out)
        go_wp2_with fail
        go_roundw
        case rel => exact ⟨k + 1, k, by omega, by go_num, rfl, trivial, HB1⟩
        case measure => simp [intOf]; omega
      · obtain ⟨m, rfl⟩ := Int.eq_ofNat_of_zero_le (by omega : 0 ≤ m)
        have hmk : m < n := by rcases HB.out with ⟨_, h⟩ | ⟨m', h, h2, _⟩ <;> omega
        have hcm := HA.out m hmk
        have hst := best_step L k m (by have := HL.out; omega) HB.out
        have wk := HW.out k hlt
        have wm := HW.out m hmk
        have HWK := Lib.hid wk
        have HWM := Lib.hid wm
        have hd0 : decide ((m : Int) < 0) = false := decide_eq_false (by omega)
        by_cases hcc : cmpN (lk L k) (lk L m) < 0
        · have hdc : decide (cmpN (lk L k) (lk L m) < 0) = true := decide_eq_true hcc
          have HB1 := Lib.hid (hst.1 hcc)
          clear hst wk wm hm0 hcc
          go_wp2_with fail
          refine (compare_any _ _ HWK.out HWM.out wr).mono ?_
          rintro e w1 ⟨rfl, rfl⟩
          go_wp2_with fail
          go_roundw
          case rel => exact ⟨k + 1, k, by omega, by go_num, rfl, trivial, HB1⟩
          case measure => simp [intOf]; omega
        · have hdc : decide (cmpN (lk L k) (lk L m) < 0) = false := decide_eq_false hcc
          have HB1 := Lib.hid (hst.2 hcc)
          clear hst wk wm hm0 hcc
          go_wp2_with fail
          refine (compare_any _ _ HWK.out HWM.out wr).mono ?_
          rintro e w1 ⟨rfl, rfl⟩
          go_wp2_with fail
          go_roundw
          case rel => exact ⟨k + 1, m, by omega, by go_num, rfl, trivial, HB1⟩
          case measure => simp [intOf]; omega
    · obtain rfl : k = n := by omega
      go_wp2_with fail
      go_ret
      exact ⟨⟨m, rfl, HB.out⟩, rfl⟩
end Go.Proofs.Ytejdekagejdepaa
