/- The reference's windows: Place, Add. No condition. -/
import Derived.Test.YthhgepnneaehhaaWinP
import Derived.Test.YthhgepnneaehhaaNew
import Derived.Test.YthhgepnneaehhaaRows
import Derived.Deep.RegionHeld3
namespace Go.Proofs.Ythhgepnneaehhaa.Rf
open Go.Proofs.Ythhgepnneaehhaa
open Go.RowKit

theorem elS : ElemOf Try.prog 47 59 4 32 := ElemOf.mk' (z := .agg #[.int .u64 0, .int .i64 0, .int .i64 0, .bool false]) Try.underlying47 (by kernel_rfl) rfl (by decide)

theorem place_any (A : Option Addr) (n c : Nat) (nx a : Int) (L : List Wt) (w : World) (hL : L.length = n) (hR : Rd (fun b => b < w.heap.size) w 4 A n (flat L)) (hn : n ≤ 1000) :
    Calls Try.prog 33 #[.agg #[.slice A n c, .int .u64 nx], .int .u64 a] w fun e w' => e = .returned (.int .i64 (placeI L a)) ∧ Below w.heap.size w w' := by
  have HL := Lib.hid hL
  have HR := Lib.hid hR
  clear hL hR
  go_enter Try.func33, Try.ntmps33
  go_wp2_with fail
  have HB := Lib.hid ((Below.refl w.heap.size w).alloc (Nat.le_refl _) (.cells #[.slice A n c, .int .u64 nx] 49))
  go_loop [5] (fun i => ∃ k : Nat, k ≤ n ∧ i = .int .i64 k ∧ Hid (∀ j, (hj : j < L.length) → j < k → L[j].num ≠ a)) (fun i => n - (intOf i).toNat)
  case atStart => exact ⟨0, Nat.zero_le _, rfl, Lib.hid (fun j _ h => absurd h (by omega))⟩
  case round =>
    obtain ⟨k, hk, rfl, hprev⟩ := hrel
    by_cases hlt : k < n
    · obtain ⟨g, o, hl, rfl, hpb, hbb, c0, c1, c2, c3⟩ := rd_elem HR.out hlt
      have d0 := (HB.out.cell (p := ⟨g, o + k * 4, none⟩) hbb).trans c0
      clear c0 c1 c2 c3
      by_cases heq : L[k].num = a
      · have hq : (L[k].num == a) = true := by simpa using heq
        have hfin : placeI L a = k := placeI_some (place_some hl heq fun j hj => hprev.out j (by omega) hj)
        have HF := Lib.hid hfin
        clear hfin heq
        go_wp2_with fail
        go_ret
        exact ⟨by rw [HF.out]; rfl, HB.out⟩
      · have hq : (L[k].num == a) = false := by simpa using heq
        have HE := Lib.hid heq
        clear heq
        go_wp2_with fail
        go_round
        case rel =>
          refine ⟨k + 1, by omega, by go_num, Lib.hid fun j h1 h2 => ?_⟩
          rcases Nat.lt_or_ge j k with h3 | h3
          · exact hprev.out j h1 h3
          · obtain rfl : j = k := by omega
            exact HE.out
        case measure => simp [intOf]; omega
    · go_wp2_with fail
      go_ret
      have hfin : placeI L a = -1 := placeI_none (place_none fun j hj => hprev.out j hj (by have := HL.out; omega))
      exact ⟨by rw [hfin]; rfl, HB.out⟩

/-- What a window of the reference's is, behind a call. -/
def RWin (B : Nat) (w : World) (v : Value) (L : List Wt) (nx : Int) : Prop := ∃ A c, v = .agg #[.slice A L.length c, .int .u64 nx] ∧ Rd (fun b => B ≤ b ∧ b < w.heap.size) w 4 A L.length (flat L) ∧ L.length ≤ c ∧ c ≤ maxLen

theorem rwin_set2 {w0 w2 : World} {B n d2 g : Nat} {A2 : Option Addr} {L : List Wt} {nx : Int} (hL : L.length = n) (hB : B ≤ g) (hg : g < w0.heap.size)
    (hO : w2.ownsRow w0.heap.size 59 4 (.slice A2 n d2) n (flat L)) (X Y : Value) :
    RWin B ((w2.setCell ⟨g, 0, none⟩ X).setCell ⟨g, 1, none⟩ Y) (.agg #[.slice A2 n d2, .int .u64 nx]) L nx := by
  subst hL
  have h1 : w2.heap.size = ((w2.setCell ⟨g, 0, none⟩ X).setCell ⟨g, 1, none⟩ Y).heap.size := by simp [World.setCell]
  refine ⟨A2, d2, rfl, ?_, ?_⟩
  · refine ((Rd.own hO rfl).fr (S := fun k => k = g) (Fr.set2 (S := fun k => k = g) (Fr.refl _ w2) (fun _ => rfl) X Y) ?_).imp ?_
    · intro k hk h
      have := (own_lt hO k hk).1
      omega
    · intro k hk
      have := own_lt hO k hk
      rw [← h1]
      omega
  · obtain ⟨A, cap, he, h2, h3, _⟩ := own_shape hO
    injection he with _ _ he
    subst he
    exact ⟨h2, h3⟩

set_option maxHeartbeats 8000000 in
theorem add_any (A : Option Addr) (n c : Nat) (nx x : Int) (L : List Wt) (w : World) (hL : L.length = n) (hR : Rd (fun b => b < w.heap.size) w 4 A n (flat L)) (h1 : ∀ u ∈ flat L, u.oneCell' = true) (hn : n ≤ 1000) (hnx : IntKind.u64.wrap (nx + 1) = nx + 1) :
    Calls Try.prog 15 #[.agg #[.slice A n c, .int .u64 nx], .int .i64 x] w fun e w' => (∃ v, e = .returned v ∧ RWin w.heap.size w' v (L ++ [⟨nx, .int .i64 x, 0, false⟩]) (nx + 1)) ∧ Below w.heap.size w w' := by
  have HL := Lib.hid hL
  have HR := Lib.hid hR
  have H1 := Lib.hid h1
  clear hL hR h1
  go_enter Try.func15, Try.ntmps15
  go_wp2_with fail
  obtain ⟨w0, hw0⟩ : ∃ w0 : World, w0 = (w.alloc (.cells #[.slice A n c, .int .u64 nx] 49)).alloc (.cells #[.slice none 0 0, .int .u64 0] 49) := ⟨_, rfl⟩
  have c0 : w0.cell? ⟨w.heap.size, 0, none⟩ = some (.slice A n c) := by rw [hw0]; simp
  have c1 : w0.cell? ⟨w.heap.size, 1, none⟩ = some (.int .u64 nx) := by rw [hw0]; simp
  have HSZ : Hid (w0.heap.size = w.heap.size + 2) := Lib.hid (by rw [hw0]; simp)
  have HN0 : Hid (New w w0) := Lib.hid (by rw [hw0]; exact (New.al (New.al (New.refl _) _) _))
  have HK4 : Hid (Blk w0 (w.heap.size + 1) 49 #[.slice none 0 0, .int .u64 0]) := Lib.hid (by
    rw [hw0]
    exact Blk.new' _ _ _ (by simp))
  have HR0 : Hid (Rd (fun b => b < w.heap.size) w0 4 A n (flat L)) := Lib.hid (HN0.out.rd HR.out)
  rw [← hw0]
  clear hw0
  go_region_held3 (fun w' => w'.cell? ⟨w.heap.size, 0, none⟩ = some (.slice A n c) ∧ w'.cell? ⟨w.heap.size, 1, none⟩ = some (.int .u64 nx))
    (first
      | (with_reducible exact ⟨hN2.cell_ c0, hN2.cell_ c1⟩)
      | (with_reducible exact ⟨hN1.cell_ c0, hN1.cell_ c1⟩)
      | go_keep)
    (first
      | (refine step_app (o := ⟨some 8, _, _, _, _, _⟩) elS _ (by rfl) (.tmp 5) (.tmp 7) (by rfl) w0.heap.size (.slice (some ⟨_, 0, none⟩) 0 0) 0 [] (by rfl) (own_lit (by repeat (first | with_reducible exact Blk.new' _ _ _ (by first | rfl | (simp; done)) | with_reducible refine Blk.drew ?_ | with_reducible refine Blk.alloc ?_ _ | with_reducible refine Blk.fr ?_ hF1 (by simp [Value.ownBlock]))) (by first | (simp; done) | (simp; omega))) A n c (flat L) (by rfl) ((by repeat (first | with_reducible exact New.refl _ | with_reducible assumption | with_reducible refine New.dr ?_ | with_reducible refine New.al ?_ _) : New w0 _).rd HR0.out) H1.out (by unfold maxLen; omega) (by omega) (by first | (simp; done) | (simp; omega)) ?_
         intro A1 d1 w1 hO1 hF1 hA1
         have hN1 : New w0 w1 := (by repeat (first | with_reducible exact New.refl _ | with_reducible assumption | with_reducible refine New.dr ?_ | with_reducible refine New.al ?_ _) : New w0 _).fr hF1 (by intro k hk; simp [Value.ownBlock] at hk; omega)
         rw [Nat.zero_add, List.nil_append] at hO1
         rw [Nat.zero_add] at hA1
         rw [Nat.zero_add])
      | (refine step_app (o := ⟨some 14, _, _, _, _, _⟩) elS _ (by rfl) (.tmp 8) (.tmp 13) (by rfl) w0.heap.size (.slice A1 n d1) n (flat L) (by rfl) (own_fr (S := NoB) hO1 (by repeat (first | with_reducible exact Fr.refl _ _ | with_reducible refine Fr.drew ?_ | with_reducible refine Fr.alloc ?_ _)) (fun _ _ h => h)) (some ⟨_, 0, none⟩) 1 1 [.int .u64 nx, .int .i64 x, .int .i64 0, .bool false] (by rfl) (Rd.ofBlk (p := fun _ => True) (t := 59) (cs := #[.int .u64 nx, .int .i64 x, .int .i64 0, .bool false]) (by repeat (first | with_reducible exact Blk.new' _ _ _ (by first | rfl | (simp; done)) | with_reducible refine Blk.drew ?_ | with_reducible refine Blk.alloc ?_ _ | with_reducible refine Blk.fr ?_ hF1 (by simp [Value.ownBlock]))) 4 1 rfl trivial) (by simp [Value.oneCell']) (by unfold maxLen; omega) (by omega) ((by repeat (first | with_reducible exact New.refl _ | with_reducible assumption | with_reducible refine New.dr ?_ | with_reducible refine New.al ?_ _) : New w0 _).size) ?_
         intro A2 d2 w2 hO2 hF2 hA2
         have hN2 : New w0 w2 := (by repeat (first | with_reducible exact New.refl _ | with_reducible assumption | with_reducible refine New.dr ?_ | with_reducible refine New.al ?_ _) : New w0 _).fr hF2 (by intro k hk; exact (own_lt hO1 k hk).1)
         have HO2 := Lib.hid hO2
         have hK5 := hN2.blk HK4.out
         have h50 := hK5.cell 0
         have h51 := hK5.cell 1
         have h5f := hK5.frozen 0
         have h5g := hK5.frozen 1
         clear hO2 hA2 hF2 hA1 hO1 hF1))
  all_goals
    go_wp2_with fail
    have hK6 := blk_set2 hK5 (.slice A2 (n + 1) d2) (.int .u64 (nx + 1))
    have h60 := hK6.cell 0
    have h61 := hK6.cell 1
    simp at h60 h61
    refine bodyPost_ret (v := .agg #[.slice A2 (n + 1) d2, .int .u64 (nx + 1)]) (by simp [results, Try.results15, go_sem, h60, h61]) rfl ⟨⟨_, rfl, ?_⟩, ?_⟩
    · refine rwin_set2 (w0 := w0) (by simp [HL.out]) (by omega) (by have := HSZ.out; omega) ?_ _ _
      rw [flat_app, flat_one]
      exact HO2.out
    · exact ((HN0.out.tr hN2).set (by simp) _).set (by simp) _
end Go.Proofs.Ythhgepnneaehhaa.Rf
