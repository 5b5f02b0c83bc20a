/- Texts of one proof, one behind the other: SEq. No condition but each one's own. -/
import Derived.Test.YtpifnmlnhddgeaaGreatDoorVaultNilM1
import Derived.Deep.QuietTactic
import Derived.BigQuiet
import Derived.Lib.Hide
namespace Go.Proofs.YtpifnmlnhddgeaaGreatDoor
set_option linter.unusedVariables false
set_option linter.unusedSimpArgs false
set_option linter.constructorNameAsVariable false
open Go.RowKit
theorem sequal_any {p q : Nat → Prop} (A B : Option Addr) (n m c d : Nat) (xs ys : List Int) (w : World) (hx : Rd p w 1 A n (u8s xs)) (hy : Rd q w 1 B m (u8s ys)) (bx : Byt xs) (by_ : Byt ys) (hn : n ≤ 1000000000) (hm : m ≤ 1000000000) :
    Calls Tryz.prog 273 #[.slice A n c, .slice B m d] w fun e w' => e = .returned (.bool (decide (xs = ys))) ∧ New w w' := by
 have hxl : xs.length = n := by have := hx.1; rw [u8s_len] at this; omega
 have hyl : ys.length = m := by have := hy.1; rw [u8s_len] at this; omega
 obtain ⟨r, hr⟩ : ∃ r, r = decide (xs = ys) := ⟨_, rfl⟩
 rw [← hr]
 have HR := Lib.hid hr
 clear hr
 by_cases hnm : n = m
 · subst hnm
   have HX := Lib.hid hx
   have HY := Lib.hid hy
   have HXL := Lib.hid hxl
   have HYL := Lib.hid hyl
   clear hx hy hxl hyl bx by_
   go_enter Tryz.func273, Tryz.ntmps273
   go_wp2_with fail
   go_loopw [13] (fun i wr => ∃ k N : Nat, k ≤ n ∧ i = .int .i64 k ∧ Hid (xs.take k = ys.take k) ∧ Hid (wr = w.drewN N)) (fun i _ => n - (intOf i).toNat)
   case atStart => exact ⟨0, 0, Nat.zero_le _, rfl, Lib.hid rfl, Lib.hid rfl⟩
   case round =>
    obtain ⟨k, N, hk, rfl, HE, HWR⟩ := hrel
    by_cases hlt : k < n
    · obtain ⟨g, o, rfl, -, -, hcx⟩ := HX.out.out (by omega) (by omega)
      obtain ⟨g2, o2, rfl, -, -, hcy⟩ := HY.out.out (by omega) (by omega)
      have hxk : k < xs.length := by rw [HXL.out]; exact hlt
      have hyk : k < ys.length := by rw [HYL.out]; exact hlt
      have c1 : ∀ j, (wr.drewN j).cell? ⟨g, o + k, none⟩ = some (.int .u8 xs[k]) := fun j => by
       rw [HWR.out]
       exact hcx k _ (by unfold u8s; rw [List.getElem?_map, List.getElem?_eq_getElem hxk]; rfl)
      have c2 : ∀ j, (wr.drewN j).cell? ⟨g2, o2 + k, none⟩ = some (.int .u8 ys[k]) := fun j => by
       rw [HWR.out]
       exact hcy k _ (by unfold u8s; rw [List.getElem?_map, List.getElem?_eq_getElem hyk]; rfl)
      have hlt' : (k : Int) < (n : Int) := by omega
      have hk0 : (0 : Int) ≤ (k : Int) := by omega
      obtain ⟨x, hx⟩ : ∃ x, x = xs[k] := ⟨_, rfl⟩
      obtain ⟨y, hy⟩ : ∃ y, y = ys[k] := ⟨_, rfl⟩
      rw [← hx] at c1
      rw [← hy] at c2
      have HT : Hid (xs.take (k + 1) = xs.take k ++ [x] ∧ ys.take (k + 1) = ys.take k ++ [y] ∧ xs[k]? = some x ∧ ys[k]? = some y) :=
       Lib.hid ⟨by rw [List.take_succ_eq_append_getElem hxk, hx], by rw [List.take_succ_eq_append_getElem hyk, hy], by rw [List.getElem?_eq_getElem hxk, hx], by rw [List.getElem?_eq_getElem hyk, hy]⟩
      clear hcx hcy hx hy hxk hyk HX HY HXL HYL
      by_cases he : x = y
      · have hne : (x != y) = false := by simp [he]
        have HEn : Hid (xs.take (k + 1) = ys.take (k + 1)) := Lib.hid (by rw [HT.out.1, HT.out.2.1, HE.out, he])
        clear he HE
        go_wp2_with fail
        go_quiet (fail)
        go_wp2_with fail
        go_roundw
        case rel => exact ⟨k + 1, _, by omega, by go_num, HEn, Lib.hid (by rw [HWR.out, World.drewN_drewN])⟩
        case measure => simp [intOf]; omega
      · have hne : (x != y) = true := by simp [he]
        have HD : Hid (decide (xs = ys) = false) := Lib.hid (decide_eq_false (fun e => he (by
         have h1 := HT.out.2.2.1
         rw [e, HT.out.2.2.2] at h1
         injection h1 with h1
         exact h1.symm)))
        clear he
        go_wp2_with fail
        go_quiet (fail)
        go_wp2_with fail
        go_ret
        exact ⟨by rw [HR.out, HD.out]; rfl, by rw [HWR.out]; exact ((New.refl w).dn _).dn _⟩
    · have HD : Hid (decide (xs = ys) = true) := Lib.hid (decide_eq_true (by
       have h := HE.out
       rwa [List.take_of_length_le (by rw [HXL.out]; omega), List.take_of_length_le (by rw [HYL.out]; omega)] at h))
      go_wp2_with fail
      go_ret
      exact ⟨by rw [HR.out, HD.out]; rfl, by rw [HWR.out]; exact (New.refl w).dn _⟩
 · have HD : Hid (decide (xs = ys) = false) := Lib.hid (decide_eq_false (fun e => hnm (by rw [← hxl, ← hyl, e])))
   have hnm' : ¬ ((n : Int) = (m : Int)) := by omega
   clear hx hy hxl hyl bx by_
   go_enter Tryz.func273, Tryz.ntmps273
   go_wp2_with fail
   go_ret
   exact ⟨by rw [HR.out, HD.out]; rfl, New.refl w⟩
end Go.Proofs.YtpifnmlnhddgeaaGreatDoor
