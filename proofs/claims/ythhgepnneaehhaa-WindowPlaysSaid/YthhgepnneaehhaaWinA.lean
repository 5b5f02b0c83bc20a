/- Windows: the place of a number, Full, Len, the next number: what the Go functions answer and what they leave. No condition. -/
import Derived.Test.YthhgepnneaehhaaWinP
import Derived.Test.YthhgepnneaehhaaRows
import Derived.Deep.LoopGhost
namespace Go.Proofs.Ythhgepnneaehhaa.Wi
open Go.Proofs.Ythhgepnneaehhaa
open Go.RowKit

theorem pclo_any (a n : Int) (th an dn : Value) (pn : Addr) (w : World) (hp : w.cell? pn = some (.int .u64 n)) (hb : pn.block < w.heap.size) :
    Calls Try.prog 43 #[.agg #[.int .u64 a, th, an, dn], .pointer (some pn)] w fun e w' => e = .returned (.bool (a == n)) ∧ Below w.heap.size w w' := by
  go_enter Try.func43, Try.ntmps43
  go_wp2
  go_ret
  exact ⟨rfl, (Below.refl _ _).alloc (Nat.le_refl _) _⟩

theorem idx_any (A : Option Addr) (n c : Nat) (L : List Wt) (a : Int) (pn : Addr) (w : World) (hp : w.cell? pn = some (.int .u64 a)) (hb : pn.block < w.heap.size)
    {p : Nat → Prop} (hL : Rd p w 4 A n (flat L)) (hn : n ≤ maxLen) :
    Calls Try.prog 42 #[.slice A n c, .func (.func 43) #[] #[.pointer (some pn)]] w fun e w' => e = .returned (.int .i64 (placeI L a)) ∧ Below w.heap.size w w' := by
  unfold maxLen at hn
  have hlen : L.length = n := by have := hL.1; rw [flat_len] at this; omega
  have HL := Lib.hid hlen; clear hlen
  go_enter Try.func42, Try.ntmps42
  go_wp2_with fail
  go_loopw [5, 8] (fun _ i wr => ∃ k : Nat, k ≤ n ∧ i = .int .i64 k ∧ Below w.heap.size w wr ∧ Hid (∀ j, (hj : j < L.length) → j < k → L[j].num ≠ a)) (fun _ i _ => n - (intOf i).toNat)
  case atStart => exact ⟨0, Nat.zero_le _, rfl, Below.refl _ _, Lib.hid (fun j _ h => absurd h (by omega))⟩
  case round =>
    obtain ⟨k, hk, rfl, hbl, hprev⟩ := hrel
    by_cases hlt : k < n
    · obtain ⟨g, o, hl, rfl, hpb, hbb, c0, c1, c2, c3⟩ := rd_elem hL hlt
      have d0 := (hbl.cell (p := ⟨g, o + k * 4, none⟩) hbb).trans c0
      have d1 := (hbl.cell (p := ⟨g, o + k * 4 + 1, none⟩) hbb).trans c1
      have d2 := (hbl.cell (p := ⟨g, o + k * 4 + 2, none⟩) hbb).trans c2
      have d3 := (hbl.cell (p := ⟨g, o + k * 4 + 3, none⟩) hbb).trans c3
      have HL' := Lib.hid hL
      clear c0 c1 c2 c3 hL
      have hpr : wr.cell? pn = some (.int .u64 a) := (hbl.cell hb).trans hp
      have hbr : pn.block < wr.heap.size := Nat.lt_of_lt_of_le hb hbl.size
      by_cases heq : L[k].num = a
      · have hq : (L[k].num == a) = true := by simpa using heq
        have hfin : placeI L a = k := placeI_some (place_some hl heq fun j hj => hprev.out j (by omega) hj)
        have HF := Lib.hid hfin
        have HE := Lib.hid heq
        clear hfin heq
        go_wp2_with (go_at_call 43; refine (pclo_any _ _ _ _ _ _ _ hpr hbr).mono ?_; rintro e w1 ⟨rfl, hb1⟩)
        go_ret
        exact ⟨by rw [HF.out]; rfl, hbl.trans (hb1.mono hbl.size)⟩
      · have hq : (L[k].num == a) = false := by simpa using heq
        have HE := Lib.hid heq
        clear heq
        go_wp2_with (go_at_call 43; refine (pclo_any _ _ _ _ _ _ _ hpr hbr).mono ?_; rintro e w1 ⟨rfl, hb1⟩)
        go_roundw
        case rel =>
          refine ⟨k + 1, by omega, by go_num, hbl.trans (hb1.mono hbl.size), Lib.hid fun j h1 h2 => ?_⟩
          rcases Nat.lt_or_ge j k with h3 | h3
          · exact hprev.out j h1 h3
          · obtain rfl : j = k := by omega
            exact HE.out
        case measure => simp [intOf]; omega
    · go_wp2_with fail
      go_ret
      have hfin : placeI L a = -1 := placeI_none (place_none fun j hj => hprev.out j hj (by have := HL.out; omega))
      exact ⟨by rw [hfin]; rfl, hbl⟩

/-- The window at block g: what waits, how many may, the next number; its slice is v. -/
def Win (w : World) (base g : Nat) (v : Value) (L : List Wt) (most next : Int) : Prop :=
  base ≤ g ∧ Blk w g 75 #[v, .int .i64 most, .int .u64 next] ∧ w.ownsRow base 78 4 v L.length (flat L) ∧ L.length ≤ 1024

theorem Win.fr {w w' : World} {base g : Nat} {v : Value} {L : List Wt} {most next : Int} {S : Nat → Prop} (h : Win w base g v L most next) (hf : Fr S w w') (hg : ¬ S g) (hv : ∀ k, v.ownBlock = some k → ¬ S k) : Win w' base g v L most next :=
  ⟨h.1, h.2.1.fr hf hg, own_fr h.2.2.1 hf hv, h.2.2.2⟩
theorem Win.below {w w' : World} {base g : Nat} {v : Value} {L : List Wt} {most next : Int} (h : Win w base g v L most next) (hf : Below w.heap.size w w') : Win w' base g v L most next :=
  h.fr (S := NoB) (Fr.ofNew hf) (fun x => x) (fun _ _ x => x)

theorem place_any (base g : Nat) (v : Value) (L : List Wt) (most next a : Int) (w : World) (hW : Win w base g v L most next) :
    Calls Try.prog 34 #[.pointer (some ⟨g, 0, none⟩), .int .u64 a] w fun e w' => e = .returned (.int .i64 (placeI L a)) ∧ Below w.heap.size w w' := by
  obtain ⟨A, c, rfl, hnc, hcm, -, -⟩ := own_shape hW.2.2.1
  have h0 : w.cell? ⟨g, 0, none⟩ = some (.slice A L.length c) := hW.2.1.cell 0
  have hlt := hW.2.1.lt
  have hR := Rd.own hW.2.2.1 rfl
  have hR' := Rd.fr (S := NoB) (w' := w.alloc (.cells #[.int .u64 a] 31)) hR ((Fr.refl _ _).alloc _) (fun _ _ x => x)
  have HR := Lib.hid hR'
  clear hR hR'
  go_enter Try.func34, Try.ntmps34
  go_wp2_with fail
  refine (idx_any _ _ _ L a _ _ (by simp) (by simp) HR.out (by omega)).mono ?_
  rintro e w1 ⟨rfl, hb1⟩
  go_wp2_with fail
  go_ret
  exact ⟨rfl, ((Below.refl _ _).alloc (Nat.le_refl _) _).trans (hb1.mono (by simp))⟩

theorem place_nil (a : Int) (w : World) :
    Calls Try.prog 34 #[.pointer none, .int .u64 a] w fun e w' => e = .returned (.int .i64 (-1)) ∧ Below w.heap.size w w' := by
  go_enter Try.func34, Try.ntmps34
  go_wp2_with fail
  go_ret
  exact ⟨rfl, ((Below.refl _ _).alloc (Nat.le_refl _) _)⟩

theorem full_nil (w : World) : Calls Try.prog 22 #[.pointer none] w fun e w' => e = .returned (.bool false) ∧ Below w.heap.size w w' := by
  go_enter Try.func22, Try.ntmps22
  go_wp2_with fail
  go_quiet (fail)
  go_wp2_with fail
  go_ret
  exact ⟨rfl, below_drewN (Below.refl _ _) _⟩

theorem full_any (base g : Nat) (v : Value) (L : List Wt) (most next : Int) (w : World) (hW : Win w base g v L most next) :
    Calls Try.prog 22 #[.pointer (some ⟨g, 0, none⟩)] w fun e w' => e = .returned (.bool (decide (most ≤ (L.length : Int)))) ∧ Below w.heap.size w w' := by
  obtain ⟨A, c, rfl, hnc, hcm, -, -⟩ := own_shape hW.2.2.1
  have h0 : w.cell? ⟨g, 0, none⟩ = some (.slice A L.length c) := hW.2.1.cell 0
  have h1 : w.cell? ⟨g, 1, none⟩ = some (.int .i64 most) := hW.2.1.cell 1
  go_enter Try.func22, Try.ntmps22
  go_wp2_with fail
  go_quiet (fail)
  go_wp2_with fail
  go_ret
  exact ⟨rfl, below_drewN (Below.refl _ _) _⟩

theorem len_any (base g : Nat) (v : Value) (L : List Wt) (most next : Int) (w : World) (hW : Win w base g v L most next) :
    Calls Try.prog 24 #[.pointer (some ⟨g, 0, none⟩)] w fun e w' => e = .returned (.int .i64 L.length) ∧ w = w' := by
  obtain ⟨A, c, rfl, hnc, hcm, -, -⟩ := own_shape hW.2.2.1
  have h0 : w.cell? ⟨g, 0, none⟩ = some (.slice A L.length c) := hW.2.1.cell 0
  go_enter Try.func24, Try.ntmps24
  go_wp2_with fail
  go_ret
  exact ⟨rfl, rfl⟩
theorem len_nil (w : World) : Calls Try.prog 24 #[.pointer none] w fun e w' => e = .returned (.int .i64 0) ∧ w = w' := by
  go_enter Try.func24, Try.ntmps24
  go_wp2_with fail
  go_ret
  exact ⟨rfl, rfl⟩
theorem number_any (base g : Nat) (v : Value) (L : List Wt) (most next : Int) (w : World) (hW : Win w base g v L most next) (hn : 0 ≤ next ∧ next < 18446744073709551615) :
    Calls Try.prog 32 #[.pointer (some ⟨g, 0, none⟩)] w fun e w' => e = .returned (.int .u64 next) ∧ w' = w.setCell ⟨g, 2, none⟩ (.int .u64 (next + 1)) := by
  have h0 : w.cell? ⟨g, 2, none⟩ = some (.int .u64 next) := hW.2.1.cell 2
  have h1 : w.frozen? ⟨g, 2, none⟩ = false := hW.2.1.frozen 2
  go_enter Try.func32, Try.ntmps32
  go_wp2_with fail
  go_ret
  exact ⟨rfl, rfl⟩
end Go.Proofs.Ythhgepnneaehhaa.Wi
