/- Numbers in a row: their places, one of them taken out; slices.Index, slices.Delete, slices.Clone at them. No condition. -/
import Derived.Test.YtpomcnfifhfffaaWide
import Derived.Test.YtpomcnfifhfffaaDel
import Derived.Test.YtpomcnfifhfffaaMap
namespace Go.Proofs.Ytpomcnfifhfffaa
open Go.RowKit

theorem elU : ElemOf Try.prog 36 23 1 8 := ElemOf.mk' (z := .int .u64 0) Try.underlying36 (by kernel_rfl) rfl (by decide)
theorem u64s_one (xs : List Int) : ∀ u ∈ u64s xs, u.oneCell' = true := by
  intro u hu
  simp only [u64s, List.mem_map] at hu
  obtain ⟨x, _, rfl⟩ := hu
  rfl
theorem u64s_app (xs : List Int) (x : Int) : u64s (xs ++ [x]) = u64s xs ++ [.int .u64 x] := by simp [u64s]
def at_ (O : List Int) (a : Int) : Option Nat := O.findIdx? fun x => x == a
def atI (O : List Int) (a : Int) : Int := match at_ O a with | some i => i | none => -1
theorem at_some {O : List Int} {a : Int} {i : Nat} (hi : i < O.length) (h : O[i] = a) (hb : ∀ j, (hj : j < i) → (O[j]'(by omega)) ≠ a) : at_ O a = some i := by
  unfold at_
  rw [List.findIdx?_eq_some_iff_getElem]
  refine ⟨hi, by simpa using h, fun j hj => ?_⟩
  simpa using hb j hj
theorem at_none {O : List Int} {a : Int} (h : ∀ j, (hj : j < O.length) → O[j] ≠ a) : at_ O a = none := by
  unfold at_
  rw [List.findIdx?_eq_none_iff]
  intro x hx
  obtain ⟨j, hj, rfl⟩ := List.mem_iff_getElem.1 hx
  simpa using h j hj
theorem at_lt {O : List Int} {a : Int} {i : Nat} (h : at_ O a = some i) : ∃ hi : i < O.length, O[i] = a := by
  unfold at_ at h
  rw [List.findIdx?_eq_some_iff_getElem] at h
  obtain ⟨hi, h1, _⟩ := h
  exact ⟨hi, by simpa using h1⟩
theorem atI_some {O : List Int} {a : Int} {i : Nat} (h : at_ O a = some i) : atI O a = i := by unfold atI; rw [h]
theorem atI_none {O : List Int} {a : Int} (h : at_ O a = none) : atI O a = -1 := by unfold atI; rw [h]
theorem at_none_iff {O : List Int} {a : Int} : at_ O a = none ↔ a ∉ O := by
  unfold at_
  rw [List.findIdx?_eq_none_iff]
  constructor
  · intro h hm
    have := h a hm
    simp at this
  · intro h x hx
    by_cases e : x = a
    · subst e; exact absurd hx h
    · simpa using e

theorem index_any (A : Option Addr) (n c : Nat) (O : List Int) (a : Int) (w : World) {p : Nat → Prop} (hO : Rd p w 1 A n (u64s O)) (hn : n ≤ 1000000) :
    Calls Try.prog 28 #[.slice A n c, .int .u64 a] w fun e w' => e = .returned (.int .i64 (atI O a)) ∧ w = w' := by
  have hlen : O.length = n := by have := hO.1; rw [u64s_len] at this; omega
  have HL := Lib.hid hlen
  have HR := Lib.hid hO
  clear hlen hO
  go_enter Try.func28, Try.ntmps28
  go_wp2_with fail
  go_loop [8] (fun i => ∃ k : Nat, k ≤ n ∧ i = .int .i64 k ∧ Hid (∀ j, (hj : j < O.length) → j < k → O[j] ≠ a)) (fun i => n - (intOf i).toNat)
  case atStart => exact ⟨0, Nat.zero_le _, rfl, Lib.hid (fun j _ h => absurd h (by omega))⟩
  case round =>
    obtain ⟨k, hk, rfl, hprev⟩ := hrel
    by_cases hlt : k < n
    · obtain ⟨g, o, hl, rfl, -, -, cx⟩ := rd_one HR.out hlt
      rw [u64s_get] at cx
      have hx' : k < O.length := by rw [u64s_len] at hl; exact hl
      by_cases heq : a = O[k]
      · have hq : (a == O[k]) = true := by simpa using heq
        have HF := Lib.hid (atI_some (at_some hx' heq.symm fun j hj => hprev.out j (by omega) hj))
        have HE := Lib.hid heq
        clear heq
        go_wp2_with fail
        go_ret
        exact ⟨by rw [HF.out]; rfl, rfl⟩
      · have hq : (a == O[k]) = false := by simpa using heq
        have HE := Lib.hid heq
        clear heq
        go_wp2_with fail
        go_round
        case rel =>
          refine ⟨k + 1, by omega, by go_num, Lib.hid fun j h1 h2 => ?_⟩
          rcases Nat.lt_or_ge j k with h3 | h3
          · exact hprev.out j h1 h3
          · obtain rfl : j = k := by omega
            exact fun e => HE.out e.symm
        case measure => simp [intOf]; omega
    · go_wp2_with fail
      go_ret
      have hfin : atI O a = -1 := atI_none (at_none fun j hj => hprev.out j hj (by have := HL.out; omega))
      exact ⟨by rw [hfin]; rfl, rfl⟩

theorem del_raw (base b n c i j : Nat) (xs : List Value) (w : World) (hO : w.ownsRow base 23 1 (.slice (some ⟨b, 0, none⟩) n c) n xs) (hij : i < j) (hj : j ≤ n) (hnc : n ≤ c) (hcm : c ≤ maxLen) (h1 : ∀ u ∈ xs, u.oneCell' = true) :
    Calls Try.prog 29 #[.slice (some ⟨b, 0, none⟩) n c, .int .i64 i, .int .i64 j] w fun e w' => e = .returned (.slice (some ⟨b, 0, none⟩) (i + (n - j)) c) ∧
      w'.ownsRow base 23 1 (.slice (some ⟨b, 0, none⟩) (i + (n - j)) c) (i + (n - j)) (xs.take i ++ xs.drop j) ∧ Fr (fun k => k = b) w w' := by
  unfold maxLen at hcm
  have hic : i ≤ c := by omega
  have hjc : j ≤ c := by omega
  have hcut : w.drew.ownsRow base 23 1 (.slice (some ⟨b, 0, none⟩) i c) i (xs.take (i * 1)) := own_cut hO (by omega)
  have hsrc : Rd (fun _ => True) w.drew 1 (if c = j then some ⟨b, 0, none⟩ else some ⟨b, j * 1, none⟩) (n - j) (xs.drop (j * 1)) := by
    have := ((Rd.own hO rfl).imp (q := fun _ => True) (fun _ _ => trivial)).drop (cap := c) hj hnc
    rw [Option.map_some, add_own] at this
    exact this
  have hne : ((i : Int) == (j : Int)) = false := by simp; omega
  have HC := Lib.hid hcut
  have HS := Lib.hid hsrc
  have HO := Lib.hid hO
  have HI := Lib.hid h1
  clear hcut hsrc hO h1
  go_enter Try.func29, Try.ntmps29
  go_wp2_with fail
  go_region_law (refine step_app_fits elU rfl (.tmp 22) (.tmp 25) rfl (base := base) (g := b) (n := i) (cap := c) (xs := xs.take (i * 1)) (by simp [Act.eval, Act.put]) HC.out _ (n - j) (c - j) (xs.drop (j * 1)) (by simp [Act.eval, Act.put]) HS.out (fun u hu => HI.out u (List.mem_of_mem_drop hu)) (by omega) ?_; intro w2 hO2 hF2)
  obtain ⟨w3, hcl, hO3, hF3⟩ := run_clear_own (P := Try.prog) (size := 1) Try.underlying36 (z := .int .u64 0) (fun _ => by kernel_rfl) rfl (by simp [Value.cells, Value.oneCell']) 0 hO2 (n - (i + (n - j))) (c - (i + (n - j))) (i + (n - j)) (by simp) (by omega)
  clear hO2
  simp only [Nat.mul_one] at hO3
  have HO3 := Lib.hid hO3
  clear hO3
  go_wp2_with fail
  all_goals go_ret
  · subst_vars; exact ⟨rfl, HO3.out, Fr.ofDrew (hF2.trans hF3)⟩
  · exact ⟨rfl, HO3.out, Fr.ofDrew (hF2.trans hF3)⟩

theorem u64s_erase (O : List Int) (i : Nat) (hi : i < O.length) : (u64s O).take i ++ (u64s O).drop (i + 1) = u64s (O.eraseIdx i) := by
  unfold u64s
  rw [← List.map_take, ← List.map_drop, ← List.map_append, List.eraseIdx_eq_take_drop_succ]
theorem del_any (base b n c i : Nat) (O : List Int) (w : World) (hO : w.ownsRow base 23 1 (.slice (some ⟨b, 0, none⟩) n c) n (u64s O)) (hi : i < n) (hnc : n ≤ c) (hcm : c ≤ maxLen) :
    Calls Try.prog 29 #[.slice (some ⟨b, 0, none⟩) n c, .int .i64 i, .int .i64 ((i : Int) + 1)] w fun e w' => e = .returned (.slice (some ⟨b, 0, none⟩) (n - 1) c) ∧
      w'.ownsRow base 23 1 (.slice (some ⟨b, 0, none⟩) (n - 1) c) (n - 1) (u64s (O.eraseIdx i)) ∧ Fr (fun k => k = b) w w' := by
  have hl : O.length = n := by have := hO.1; rw [u64s_len] at this; omega
  have h := del_raw base b n c i (i + 1) (u64s O) w hO (by omega) (by omega) hnc hcm (u64s_one O)
  have e1 : i + (n - (i + 1)) = n - 1 := by omega
  rw [e1, u64s_erase O i (by omega)] at h
  exact h
theorem clone_any (A : Option Addr) (n c : Nat) (O : List Int) (w : World) (hO : Rd (fun b => b < w.heap.size) w 1 A n (u64s O)) (hn : n ≤ 1000000) :
    Calls Try.prog 25 #[.slice A n c] w fun e w' => (∃ A' c', e = .returned (.slice A' n c') ∧ w'.ownsRow w.heap.size 23 1 (.slice A' n c') n (u64s O)) ∧ New w w' := by
  have HR := Lib.hid hO
  rcases A with _ | ad
  · have h0 : n = 0 := by
      rcases Nat.eq_zero_or_pos n with h | h
      · exact h
      · obtain ⟨ad, h', _⟩ := hO.2 h
        cases h'
    subst h0
    have hz : O = [] := List.eq_nil_of_length_eq_zero (by have := hO.1; rw [u64s_len] at this; omega)
    subst hz
    clear hO
    have hen := fun w => Lib.run_eql_slice_nil (P := Try.prog) w 36 23 none 0 c 0 0 Try.underlying36
    go_enter Try.func25, Try.ntmps25
    go_wp2_with fail
    go_ret
    exact ⟨⟨none, 0, rfl, World.ownsRow_nil _ _ _ _⟩, New.refl w⟩
  · clear hO
    have hen := fun w => Lib.run_eql_slice_nil (P := Try.prog) w 36 23 (some ad) n c 0 0 Try.underlying36
    go_enter Try.func25, Try.ntmps25
    go_wp2_with (at_builtin; refine wpList_app elU _ rfl (.tmp 5) (.tmp 6) rfl w.heap.size (.slice (some ⟨w.heap.size, 0, none⟩) 0 0) 0 [] rfl (own_lit (Blk.new w 23 #[]) (Nat.le_refl _)) (some ad) n c (u64s O) rfl (New.rd (New.al (New.refl w) _) HR.out) (u64s_one O) (by unfold maxLen; omega) (by omega) (by simp) ?_; intro A1 d1 w3 hO3 hF3 hA3; rw [Nat.zero_add]; rw [Nat.zero_add, List.nil_append] at hO3; have HO3 := Lib.hid hO3; have HN3 : Hid (New w w3) := Lib.hid ((New.al (New.refl w) _).fr hF3 (by intro k hk; simp [Value.ownBlock] at hk; omega)); clear hO3 hF3 hA3)
    go_ret
    exact ⟨⟨A1, d1, rfl, HO3.out⟩, HN3.out⟩
end Go.Proofs.Ytpomcnfifhfffaa
