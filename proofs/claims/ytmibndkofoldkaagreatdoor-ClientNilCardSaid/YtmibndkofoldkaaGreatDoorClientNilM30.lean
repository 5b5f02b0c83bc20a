/- Texts of one proof, one behind the other: NdD. No condition but each one's own. -/
import Derived.Test.YtmibndkofoldkaaGreatDoorClientNilM22
import Derived.Lib.Strings
import Derived.Lib.Slices
import Derived.Lib.Small
import Derived.Lib.Walk
import Derived.Lib.BitFns
namespace Go.Proofs.YtmibndkofoldkaaGreatDoor
set_option linter.unusedVariables false
set_option linter.unusedSimpArgs false
set_option linter.constructorNameAsVariable false
open Go.RowKit
set_option maxHeartbeats 4000000
set_option maxRecDepth 100000
theorem tab_all : ∀ n : Fin 256, ∃ h : n.val < Lib.len8tab.size, (Lib.len8tab[n.val]'h).toNat = Lib.bitLen n.val := by decide +kernel
theorem tab_at {n : Nat} (h : n < Lib.len8tab.size) : (Lib.len8tab[n]).toNat = Lib.bitLen n ∧ Lib.bitLen n ≤ 8 := by
 have hs : Lib.len8tab.size = 256 := by decide +kernel
 obtain ⟨_, h1⟩ := tab_all ⟨n, by omega⟩
 exact ⟨h1, Lib.bitLen_le8 ⟨n, by omega⟩⟩
theorem wrap_small {v : Int} (h0 : 0 ≤ v) (h1 : v ≤ 100) : wrap64 v = v := by unfold wrap64; omega
theorem wrap_bl {d : Nat} (h : Lib.bitLen d ≤ 8) (k : Nat) (hk : k ≤ 24) : wrap64 ((k : Int) + wrap64 ((Lib.bitLen d : Nat) : Int)) = ((k + Lib.bitLen d : Nat) : Int) := by
 generalize Lib.bitLen d = b at h ⊢
 rw [wrap_small (v := (b : Int)) (by omega) (by omega), wrap_small (by omega) (by omega)]
 omega
theorem tab_a (x : Int) (h0 : 0 ≤ x) (h1 : x < 4294967296) (h2 : 65536 ≤ x) (h3 : 256 ≤ x / 65536) (hb : (x / 65536 / 256).toNat < Lib.len8tab.size) : wrap64 (24 + wrap64 ((Lib.len8tab[(x / 65536 / 256).toNat]).toNat : Int)) = (Lib.bitLen x.toNat : Int) := by
 obtain ⟨t1, t2⟩ := tab_at hb
 have s := Lib.bitLen_shift24 x.toNat (by omega) (by omega)
 have e : (x / 65536 / 256).toNat = x.toNat / 16777216 := by omega
 rw [t1]
 rw [e] at t2 ⊢
 rw [s]
 exact wrap_bl t2 24 (by decide)
theorem tab_b (x : Int) (h0 : 0 ≤ x) (h1 : x < 4294967296) (h2 : 65536 ≤ x) (hb : (x / 65536).toNat < Lib.len8tab.size) : wrap64 (16 + wrap64 ((Lib.len8tab[(x / 65536).toNat]).toNat : Int)) = (Lib.bitLen x.toNat : Int) := by
 obtain ⟨t1, t2⟩ := tab_at hb
 have s := Lib.bitLen_shift16 x.toNat (by omega) (by omega)
 have e : (x / 65536).toNat = x.toNat / 65536 := by omega
 rw [t1]
 rw [e] at t2 ⊢
 rw [s]
 exact wrap_bl t2 16 (by decide)
theorem tab_c (x : Int) (h0 : 0 ≤ x) (h1 : x < 4294967296) (h2 : 256 ≤ x) (hb : (x / 256).toNat < Lib.len8tab.size) : wrap64 (8 + wrap64 ((Lib.len8tab[(x / 256).toNat]).toNat : Int)) = (Lib.bitLen x.toNat : Int) := by
 obtain ⟨t1, t2⟩ := tab_at hb
 have s := Lib.bitLen_shift8 x.toNat (by omega) (by omega)
 have e : (x / 256).toNat = x.toNat / 256 := by omega
 rw [t1]
 rw [e] at t2 ⊢
 rw [s]
 exact wrap_bl t2 8 (by decide)
theorem tab_d (x : Int) (hb : x.toNat < Lib.len8tab.size) : wrap64 (wrap64 ((Lib.len8tab[x.toNat]).toNat : Int)) = (Lib.bitLen x.toNat : Int) := by
 obtain ⟨t1, t2⟩ := tab_at hb
 rw [t1]
 have q := wrap_small (v := ((Lib.bitLen x.toNat : Nat) : Int)) (by omega) (by omega)
 rw [q, q]
theorem tab_no (y : Int) (h0 : 0 ≤ y) (h1 : y < 256) (h : ¬ (0 ≤ y ∧ y < (Lib.len8tab.size : Int))) : False := by
 have hs : Lib.len8tab.size = 256 := by decide +kernel
 omega
theorem len64_any (x : Int) (w : World) (h0 : 0 ≤ x) (h1 : x < 4294967296) :
    Calls Tryz.prog 128 #[.int .u64 x] w fun e w' => e = .returned (.int .i64 (Lib.bitLen x.toNat)) ∧ w' = w := by
 go_enter Tryz.func128, Tryz.ntmps128
 go_wp2_with fail
 all_goals first
  | (rename_i hno; exact (tab_no _ (by omega) (by omega) hno).elim)
  | (go_ret
     refine ⟨congrArg Ending.returned (congrArg (Value.int IntKind.i64) ?_), rfl⟩
     first
      | exact tab_a x h0 h1 (by assumption) (by assumption) _
      | exact tab_b x h0 h1 (by assumption) _
      | exact tab_c x h0 h1 (by assumption) _
      | exact tab_d x _)
theorem bitLen_32 {x : Nat} (h : x < 4294967296) : Lib.bitLen x ≤ 32 := by
 unfold Lib.bitLen
 exact Lib.bitLenAux_le 64 x 32 h
def hgt (n : Nat) : Nat := Lib.bitLen (n - 1)
theorem hgt_le {n : Nat} (h1 : 1 ≤ n) (h : n ≤ 4294967296) : hgt n ≤ 32 := bitLen_32 (by omega)
theorem height_ok (n : Nat) (w : World) (h1 : 1 ≤ n) (h2 : n ≤ 4294967296) : Calls Tryz.prog 72 #[.int .u64 n] w fun e w' => e = .returned (.tuple #[.int .i64 (hgt n : Nat), .nilIface]) ∧ w' = w := by
 have q1 : ¬ ((n : Int) < 1) := by omega
 have q2 : ¬ ((4294967296 : Int) < (n : Int)) := by omega
 obtain ⟨m, hm⟩ : ∃ m, m = n - 1 := ⟨_, rfl⟩
 have e1 : (n : Int) - 1 = (m : Int) := by omega
 have e2 : IntKind.u64.wrap (m : Int) = (m : Int) := by rw [IntKind.wrap_u64]; omega
 have HM : Hid ((m : Int) < 4294967296) := Lib.hid (by omega)
 have HG : Hid (Lib.bitLen (m : Int).toNat = hgt n) := Lib.hid (by rw [Int.toNat_natCast, hm]; rfl)
 clear hm h1 h2
 have q3 : decide ((4294967296 : Int) < (n : Int)) = false := decide_eq_false q2
 have HQ := Lib.hid q2
 clear q2
 go_enter Tryz.func72, Tryz.ntmps72
 go_wp2_with fail
 refine (len64_any (m : Int) w (by omega) HM.out).mono ?_
 rintro e w1 ⟨rfl, rfl⟩
 rw [HG.out]
 go_wp2_with fail
 go_ret2
 exact ⟨rfl, rfl⟩
theorem height_bad (n : Nat) (w : World) (h : ¬ (1 ≤ n ∧ n ≤ 4294967296)) : Calls Tryz.prog 72 #[.int .u64 n] w fun e w' => e = .returned (.tuple #[.int .i64 0, .iface 55 (.int .i64 1)]) ∧ w' = w := by
 by_cases hn : n = 0
 · subst hn
   go_enter Tryz.func72, Tryz.ntmps72
   go_wp2_with fail
   go_ret2
   exact ⟨rfl, rfl⟩
 · have q1 : ¬ ((n : Int) < 1) := by omega
   have q3 : decide ((4294967296 : Int) < (n : Int)) = true := decide_eq_true (by omega)
   clear h hn
   go_enter Tryz.func72, Tryz.ntmps72
   go_wp2_with fail
   go_ret2
   exact ⟨rfl, rfl⟩
end Go.Proofs.YtmibndkofoldkaaGreatDoor
