/- TransitNil's walk, from alive's contract. No condition. -/
import Derived.Test.YtajoahhjgloefaaTrA
import Derived.Shelf.Abstract
namespace Go.Proofs.Ytajoahhjgloefaa
open Go.RowKit

set_option maxHeartbeats 4000000 in
set_option maxRecDepth 100000 in
theorem nil_walk (halive : ∀ w, Calls Try.prog 7 #[] w fun e w' => e = .returned (.bool true) ∧ New w w') (a k : Int) (A : Option Addr) (n c : Nat) (hn : n ≤ maxLen) (w : World) :
    Calls Try.prog 6 #[.int .i64 a, .int .u64 k, .slice A n c] w fun e w' => e = .returned (.bool true) ∧ New w w' := by
  refine (callsIn_wide (n := 3)).1 ?_
  refine callsIn_of_wp_marks Try.func6 rfl trivial ?_ rfl
  refine wpIn_wide.2 ?_
  simp only [Try.ntmps6, List.size_toArray, List.length_cons, List.length_nil, Nat.reduceAdd, Nat.reduceSub, Array.replicate_succ, Array.replicate_zero, List.push_toArray, List.append_toArray, List.nil_append, List.cons_append]
  unfold maxLen at hn
  go_wp2_with fail
  obtain ⟨w0, hw0⟩ : ∃ w0 : World, w0 = w.alloc (.cells #[.bool false] 4) := ⟨_, rfl⟩
  have HN0 : Hid (New w w0) := Lib.hid (by rw [hw0]; exact New.al (New.refl _) _)
  have HB0 : Hid (Blk w0 w.heap.size 4 #[.bool false]) := Lib.hid (by rw [hw0]; exact Blk.new _ _ _)
  rw [← hw0]
  clear hw0
  refine (halive w0).mono ?_
  rintro e w1 ⟨rfl, hN1⟩
  have HN1 : Hid (New w w1) := Lib.hid (HN0.out.tr hN1)
  have HB1 := Lib.hid (New.blk hN1 HB0.out)
  have i0 := HB1.out.cell 0
  have f0 := HB1.out.frozen 0
  clear hN1
  by_cases hbig : 1000 < n
  · as_aux_lemma =>
    go_wp2_with fail
    have c0 : (w1.setCell ⟨w.heap.size, 0, none⟩ (.bool true)).cell? ⟨w.heap.size, 0, none⟩ = some (.bool true) := (HB1.out.set 0 (.bool true)).cell 0
    refine ⟨.bool true, ?_, rfl, ?_⟩
    · simp [results, Try.results6, go_sem, c0]
    exact HN1.out.set (Nat.le_refl _) _
  have hn : n ≤ 1000 := by omega
  clear hbig
  go_wp2_with fail
  refine (all_any none a w1).mono ?_
  rintro e w2 ⟨rfl, hw2⟩
  have HN2 : Hid (New w1 w2) := Lib.hid (by rw [hw2]; exact New.al (New.al (New.refl _) _) _)
  have hc1 : w2.cell? ⟨w1.heap.size, 0, none⟩ = some (.pointer none) := by rw [hw2]; exact ((Blk.new w1 _ _).alloc _).cell 0
  have hc2 : w2.cell? ⟨w1.heap.size + 1, 0, none⟩ = some (.int .i64 a) := by rw [hw2]; exact (Blk.new' _ _ _ (by simp)).cell 0
  have HS := Lib.hid (all1_nil 2 a w1.heap.size (w1.heap.size + 1) w2 hc1 hc2)
  have HB2 := Lib.hid (New.blk HN2.out HB1.out)
  have HN2' : Hid (New w w2) := Lib.hid (HN1.out.tr HN2.out)
  clear hw2 hc1 hc2 i0 f0 HN1 HN2 HB1 HB0 HN0
  go_wp2_with fail
  refine (wpIn_wide (n := 3)).1 ?_
  refine wpIn_rangeFunc_ownF (α := Unit) (F := Fence.wide) (n := 3) rfl (by decide) rfl trivial (enters_of Try.func27 (by kernel_rfl) rfl) HS.out belowK_t (belowK_b (Nat.le_refl _)) (Below.refl _ _) (fun _ => rfl)
    (fun _ W => Blk W w.heap.size 4 #[.bool false] ∧ Below w2.heap.size w2 W) (fun _ _ _ => False)
    (OwnFrom.and (fun s X Y row hs hg hr => hs.grown hg (fun e => by obtain ⟨_, o, ho, hc⟩ := hr _ e; rw [hs] at ho; cases ho; cases hc)) (ownFrom_below (Nat.le_refl _) (Nat.le_refl _)))
    (fun _ _ _ _ _ hs _ _ => hs)
    ⟨HB2.out, New.refl _⟩ ?a1 ?assign ?body ?done ?stop
  case assign =>
    intro l x W K hK
    gi_wp2
    exact hK
  case body => exact fun l pre x W _ h => absurd h (Nat.not_lt_zero _)
  case stop =>
    rintro D c pre W hD h _
    exact h.elim
  case done =>
    rintro D xs W hD rfl ⟨hB, hN⟩ hK
    have HW : Hid (New w W) := Lib.hid (HN2'.out.tr hN)
    have i0 := hB.cell 0
    have f0 := hB.frozen 0
    have hDD : w.heap.size ≤ D := Nat.le_trans HN2'.out.size hD
    clear HN2' HB2 HS hN hD
    dsimp only
    go_wp2_with fail
    refine (take_nil a k W).mono ?_
    rintro e w' ⟨rfl, rfl⟩
    go_wp2_with fail
    refine (is_some 11 11 W (by decide)).mono ?_
    rintro e w' ⟨rfl, rfl⟩
    go_wp2_with fail
    refine (send_nil a _ W).mono ?_
    rintro e w' ⟨rfl, rfl⟩
    go_wp2_with fail
    refine (is_some 11 11 W (by decide)).mono ?_
    rintro e w' ⟨rfl, rfl⟩
    go_wp2_with fail
    refine (lose_nil a k W).mono ?_
    rintro e w' ⟨rfl, rfl⟩
    go_wp2_with fail
    refine (is_some 11 11 W (by decide)).mono ?_
    rintro e w' ⟨rfl, rfl⟩
    go_wp2_with fail
    refine (twice_nil a k W).mono ?_
    rintro e w' ⟨rfl, rfl⟩
    go_wp2_with fail
    refine (is_some 11 11 W (by decide)).mono ?_
    rintro e w' ⟨rfl, rfl⟩
    go_wp2_with fail
    refine (len_nil a W).mono ?_
    rintro e w' ⟨rfl, rfl⟩
    go_wp2_with fail
    refine (lost_nil a _ W).mono ?_
    rintro e w' ⟨rfl, rfl⟩
    go_wp2_with fail
    refine (ncopy_nil W).mono ?_
    rintro e w' ⟨rfl, rfl⟩
    go_wp2_with fail
    have hne : ¬ D = w.heap.size := fun e => by
      unfold Blk at hB
      rw [e, hB] at hK
      cases hK
    have hB2 : Blk (W.setCell ⟨w.heap.size, 0, none⟩ (.bool true)) w.heap.size 4 #[.bool true] := hB.set 0 (.bool true)
    have hK2 : (W.setCell ⟨w.heap.size, 0, none⟩ (.bool true)).heap[D]? = some (Obj.deferred (some [])) := (Below.heap_setCell W _ _ D hne).trans hK
    have c2 := (hB2.grown (grownBy_putObj' _ D (.deferred none)) (fun e => by injection e with e; exact hne e)).cell 0
    refine ⟨by simp, .inl ⟨_, _, rfl, run_takeDeferred hK2, ?_⟩⟩
    refine ⟨.bool true, ?_, rfl, ?_⟩
    · simp at c2
      simp [results, Try.results6, go_sem, c2]
    · exact Below.grown (HW.out.set (Nat.le_refl _) _) (grownBy_putObj' _ D _) (by simpa using HW.out.size) (fun q e => by cases e; exact hDD)
end Go.Proofs.Ytajoahhjgloefaa
