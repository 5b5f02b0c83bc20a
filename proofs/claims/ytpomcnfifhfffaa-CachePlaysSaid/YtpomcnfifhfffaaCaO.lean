/- What long says: where it is false the acts are few and their bytes short. -/
import Derived.Test.YtpomcnfifhfffaaCaH
namespace Go.Proofs.Ytpomcnfifhfffaa
open Go.RowKit

def tot (L : List AV) : Nat := (L.map fun a => a.n + a.k).sum
theorem tot_snoc (L : List AV) (a : AV) : tot (L ++ [a]) = tot L + (a.n + a.k) := by simp [tot]
theorem tot_le (L : List AV) (M : Nat) (h : ∀ a ∈ L, a.n ≤ M ∧ a.k ≤ M) : tot L ≤ L.length * (2 * M) := by
  induction L with
  | nil => simp [tot]
  | cons x L ih =>
    have h1 := h x (by simp)
    have h2 := ih (fun a ha => h a (by simp [ha]))
    simp only [tot, List.map_cons, List.sum_cons, List.length_cons] at h2 ⊢
    rw [Nat.succ_mul]
    omega
theorem tot_mem {L : List AV} {a : AV} (h : a ∈ L) : a.n + a.k ≤ tot L := by
  induction L with
  | nil => cases h
  | cons x L ih =>
    simp only [tot, List.map_cons, List.sum_cons] at ih ⊢
    rcases List.mem_cons.1 h with rfl | h
    · omega
    · have := ih h; omega

set_option maxHeartbeats 2000000 in
theorem long_small {p : Nat → Prop} (A : Option Addr) (n c : Nat) (L : List AV) (w : World) (h : Rd p w 5 A n (L.flatMap AV.cells)) (hL : L.length = n) (hn : n ≤ 250) (hb : ∀ a ∈ L, a.n ≤ 140737488355328 ∧ a.k ≤ 140737488355328) :
    Calls Try.prog 7 #[.slice A n c] w fun e w' => e = .returned (.bool (decide ((20000 : Int) < (tot L : Int)))) ∧ New w w' := by
  have HR := Lib.hid h
  have HL := Lib.hid hL
  have HT : Hid (∀ j, j ≤ n → tot (L.take j) ≤ 70368744177664000) := Lib.hid (fun j hj => by
    have h1 := tot_le (L.take j) 140737488355328 (fun a ha => hb a (List.mem_of_mem_take ha))
    have h2 : (L.take j).length ≤ 250 := by simp; omega
    have h3 : (L.take j).length * (2 * 140737488355328) ≤ 250 * (2 * 140737488355328) := Nat.mul_le_mul_right _ h2
    omega)
  clear h hL hb
  go_enter Try.func7, Try.ntmps7
  go_wp2_with fail
  go_loopw [3, 8] (fun t i wr => ∃ (j : Nat), j ≤ n ∧ i = .int .i64 j ∧ t = .int .i64 (tot (L.take j)) ∧ Hid (New w wr)) (fun _ i _ => n - (intOf i).toNat)
  case atStart => exact ⟨0, by omega, rfl, rfl, Lib.hid (New.refl w)⟩
  case round =>
    obtain ⟨j, hj, rfl, rfl, HN⟩ := hrel
    by_cases hlt : j < n
    · obtain ⟨g, o, hl, rfl, -, hg, c0, c1, c2, c3, c4⟩ := rd_av (HN.out.rd HR.out) HL.out hlt
      have HN1 := fun (o : Obj) => Lib.hid (New.al HN.out o)
      have hs : tot (L.take (j + 1)) = tot (L.take j) + (L[j].n + L[j].k) := by rw [List.take_succ_eq_append_getElem hl, tot_snoc]
      have hb1 := HT.out (j + 1) (by omega)
      generalize tot (L.take j) = z at hs ⊢
      generalize htt : tot (L.take (j + 1)) = zz at hs hb1
      have HTT := Lib.hid htt
      clear htt
      generalize L[j] = a at c0 c1 c2 c3 c4 hs
      obtain ⟨ia, qa, Aa, na, ca, Ba, ka, da, dra⟩ := a
      dsimp only at c0 c1 c2 c3 c4 hs
      have HS := Lib.hid hs
      have hz1 : z + (na + ka) ≤ 70368744177664000 := by omega
      clear hs hb1
      go_wp2_with fail
      go_roundw
      case rel => exact ⟨j + 1, by omega, by go_num, by rw [HTT.out, HS.out]; go_num, HN1 _⟩
      case measure => simp [intOf]; omega
    · obtain rfl : j = n := by omega
      rw [List.take_of_length_le (by rw [HL.out]; omega)]
      go_wp2_with fail
      all_goals
        go_ret
        exact ⟨by simp, HN.out⟩

set_option maxHeartbeats 2000000 in
theorem long_big {p : Nat → Prop} (A : Option Addr) (n c : Nat) (L : List AV) (w : World) (h : Rd p w 5 A n (L.flatMap AV.cells)) (hL : L.length = n) (hn : n ≤ maxLen) (hn2 : 250 < n) :
    Calls Try.prog 7 #[.slice A n c] w fun e w' => e = .returned (.bool true) ∧ New w w' := by
  have HR := Lib.hid h
  have HL := Lib.hid hL
  unfold maxLen at hn
  clear h hL
  go_enter Try.func7, Try.ntmps7
  go_wp2_with fail
  go_loopw [3, 8] (fun t i wr => ∃ (j : Nat) (z : Int), j ≤ n ∧ i = .int .i64 j ∧ t = .int .i64 z ∧ Hid (New w wr)) (fun _ i _ => n - (intOf i).toNat)
  case atStart => exact ⟨0, 0, by omega, rfl, rfl, Lib.hid (New.refl w)⟩
  case round =>
    obtain ⟨j, z, hj, rfl, rfl, HN⟩ := hrel
    by_cases hlt : j < n
    · obtain ⟨g, o, hl, rfl, -, hg, c0, c1, c2, c3, c4⟩ := rd_av (HN.out.rd HR.out) HL.out hlt
      have HN1 := fun (o : Obj) => Lib.hid (New.al HN.out o)
      go_wp2_with fail
      go_roundw
      case rel => exact ⟨j + 1, _, by omega, by go_num, rfl, HN1 _⟩
      case measure => simp [intOf]; omega
    · obtain rfl : j = n := by omega
      go_wp2_with fail
      all_goals
        first
          | (exfalso; omega)
          | (go_ret; exact ⟨rfl, HN.out⟩)
theorem long_law {p : Nat → Prop} (A : Option Addr) (n c : Nat) (L : List AV) (w : World) (h : Rd p w 5 A n (L.flatMap AV.cells)) (hL : L.length = n) (hn : n ≤ maxLen) (hb : ∀ a ∈ L, a.n ≤ 140737488355328 ∧ a.k ≤ 140737488355328) :
    Calls Try.prog 7 #[.slice A n c] w fun e w' => (∃ b, e = .returned (.bool b) ∧ (b = false → n ≤ 250 ∧ ∀ a ∈ L, a.n ≤ 20000 ∧ a.k ≤ 20000)) ∧ New w w' := by
  by_cases h2 : 250 < n
  · refine (long_big A n c L w h hL hn h2).mono ?_
    rintro e w' ⟨rfl, hN⟩
    exact ⟨⟨true, rfl, fun h => by cases h⟩, hN⟩
  · refine (long_small A n c L w h hL (by omega) hb).mono ?_
    rintro e w' ⟨rfl, hN⟩
    refine ⟨⟨_, rfl, fun hf => ⟨by omega, fun a ha => ?_⟩⟩, hN⟩
    have h3 := of_decide_eq_false hf
    have := tot_mem ha
    omega
end Go.Proofs.Ytpomcnfifhfffaa
