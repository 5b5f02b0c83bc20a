/- What a nil table answers, function by function. No condition. -/
import Derived.Test.YtfhinmjpokollaaKvB
import Derived.Test.YtfhinmjpokollaaRngB
import Derived.Shelf.Abstract
import Derived.LoopNIn
import Derived.LoopIn
import Derived.Deep.CutRange
namespace Go.Proofs.Ytfhinmjpokollaa
set_option linter.unusedVariables false
set_option linter.unusedSimpArgs false
set_option linter.constructorNameAsVariable false
open Go.RowKit Go.Maps Go.Sort
attribute [local go_sem] Oper.semAt_some

theorem all_any (v : Option Addr) (w : World) : Calls Try.prog 27 #[.pointer v] w fun e w' => e = .returned (.func (.func 44) #[] #[.pointer (some ⟨w.heap.size, 0, none⟩)]) ∧ w' = w.alloc (.cells #[.pointer v] 24) := by
  go_enter Try.func27, Try.ntmps27
  go_wp2_with fail
  go_ret
  exact ⟨rfl, rfl⟩
/-- What an iterator hands out: a key, a value. -/
def encKV (x : List Int × Fm) : Array Value := #[.string (strOfNums x.1), x.2.val]
theorem all1_nil (b1 : Nat) (w : World) (hc1 : w.cell? ⟨b1, 0, none⟩ = some (.pointer none)) (Good : List Int × Fm → World → Prop) (Kp : World → World → Prop) :
    GivesR (fun _ _ => False) Try.prog 44 #[.pointer (some ⟨b1, 0, none⟩)] encKV Good Kp (fun xs => xs = []) 100000 w := by
  intro l J W hW hJ hY h0
  refine callsIn_wide.2 ?_
  have i1 := New.cell_ hW hc1
  have H0 := Lib.hid h0
  clear hY hJ hW hc1 h0
  show Calls Try.prog 44 #[.func (.yield l) #[] #[], .pointer (some ⟨b1, 0, none⟩)] W _
  go_enter Try.func44, Try.ntmps44
  go_wp2_with fail
  refine (keys_nil W).mono ?_
  rintro e w' ⟨rfl, rfl⟩
  go_wp2_with fail
  go_loop [8] (fun i => i = .int .i64 0) (fun _ => 0)
  case atStart => rfl
  case round =>
    subst hrel
    go_wp2_with fail
    go_end0
    exact ⟨⟨_, rfl⟩, H0.out⟩
theorem get_nil (A : Option Addr) (n c : Nat) (w : World) : Calls Try.prog 19 #[.pointer none, .slice A n c] w fun e w' => e = .returned (.tuple #[.slice none 0 0, .bool false]) ∧ w = w' := by
  go_enter Try.func19, Try.ntmps19
  go_wp2_with fail
  go_ret2
  exact ⟨rfl, rfl⟩
theorem copy_nil (w : World) : Calls Try.prog 11 #[.pointer none] w fun e w' => e = .returned (.pointer none) ∧ w = w' := by
  go_enter Try.func11, Try.ntmps11
  go_wp2_with fail
  go_ret
  exact ⟨rfl, rfl⟩
theorem New.puts {W W' : World} {w2 : World} {B : Nat} (h : New w2 W) (hp : Puts B W W') (hB : w2.heap.size ≤ B) : New w2 W' := New.fr h (hp.fr (fun j hj => hj)) (fun k hk => Nat.le_trans hB hk)
set_option maxRecDepth 100000 in
theorem size_nil (w : World) : Calls Try.prog 29 #[.pointer none] w fun e w' => e = .returned (.int .i64 0) ∧ New w w' := by
  refine (callsIn_wide (n := 3)).1 ?_
  refine callsIn_of_wp_marks Try.func29 rfl trivial ?_ rfl
  refine wpIn_wide.2 ?_
  simp only [Try.ntmps29, List.size_toArray, List.length_cons, List.length_nil, Nat.reduceAdd, Nat.reduceSub, Array.replicate_succ, Array.replicate_zero, List.push_toArray, List.append_toArray, List.nil_append, List.cons_append]
  go_wp2_with fail
  obtain ⟨w1, hw1⟩ : ∃ w1 : World, w1 = w.alloc (.cells #[.int .i64 0] 3) := ⟨_, rfl⟩
  obtain ⟨b3, hb3⟩ : ∃ b3, b3 = w.heap.size := ⟨_, rfl⟩
  have HN1 : Hid (New w w1) := Lib.hid (by rw [hw1]; exact New.al (New.refl _) _)
  have HB3 : Hid (Blk w1 b3 3 #[.int .i64 0]) := Lib.hid (by rw [hw1, hb3]; exact Blk.new _ _ _)
  rw [← hw1, ← hb3]
  clear hw1 hb3
  refine (all_any none w1).mono ?_
  rintro e w2 ⟨rfl, hw2⟩
  have HN2 : Hid (New w1 w2) := Lib.hid (by rw [hw2]; exact New.al (New.refl _) _)
  have HS := Lib.hid (all1_nil w1.heap.size w2 (by rw [hw2]; exact (Blk.new w1 _ _).cell 0) (fun _ _ => True) (fun _ _ => True))
  clear hw2
  go_wp2_with fail
  refine wp_rangeR rfl (enters_of Try.func44 (by kernel_rfl) rfl) encKV (fun _ => rfl) HS.out (fun _ _ _ _ _ => trivial) (fun _ _ => trivial) (fun _ _ _ => trivial) (fun _ W => New w2 W) (fun _ _ _ h hN => h.tr hN) (fun _ _ _ h hp => h.puts hp (Nat.le_refl _)) (New.refl _) ?a1 ?assign ?body ?done
  case assign =>
    intro l x W K hK
    gi_wp2
    exact hK
  case body =>
    rintro l pre x W hpl - - hf
    exact hf.elim
  case done =>
    rintro D fs W hD hfs hNW hDm
    have HNW := Lib.hid hNW
    have c3 : W.cell? ⟨b3, 0, none⟩ = some (.int .i64 0) := (hNW.blk (HN2.out.blk HB3.out)).cell 0
    clear hNW
    dsimp only
    go_wp2_with fail
    refine leaves_marks [D] W (Marks.cons (Marks.nil w2.heap.size W) (fun _ h => by cases h) hD hDm) (fun W' hS => ⟨.int .i64 0, by simp [results, Try.results29, go_sem], rfl, ?_⟩)
    exact ((HN1.out.tr HN2.out).tr HNW.out).trans (hS.below.mono (HN1.out.tr HN2.out).size)
set_option maxRecDepth 100000 in
theorem batches_nil (w : World) : Calls Try.prog 24 #[.pointer none] w fun e w' => e = .returned (.slice none 0 0) ∧ New w w' := by
  refine (callsIn_wide (n := 3)).1 ?_
  refine callsIn_of_wp_marks Try.func24 rfl trivial ?_ rfl
  refine wpIn_wide.2 ?_
  simp only [Try.ntmps24, List.size_toArray, List.length_cons, List.length_nil, Nat.reduceAdd, Nat.reduceSub, Array.replicate_succ, Array.replicate_zero, List.push_toArray, List.append_toArray, List.nil_append, List.cons_append]
  go_wp2_with fail
  obtain ⟨w1, hw1⟩ : ∃ w1 : World, w1 = (w.alloc (.cells #[.slice none 0 0] 22)).alloc (.cells #[.int .i64 0] 3) := ⟨_, rfl⟩
  obtain ⟨b3, hb3⟩ : ∃ b3, b3 = w.heap.size := ⟨_, rfl⟩
  have HN1 : Hid (New w w1) := Lib.hid (by rw [hw1]; exact New.al (New.al (New.refl _) _) _)
  have HB3 : Hid (Blk w1 b3 22 #[.slice none 0 0]) := Lib.hid (by rw [hw1, hb3]; exact (Blk.new _ _ _).alloc _)
  rw [← hw1, ← hb3]
  clear hw1 hb3
  refine (all_any none w1).mono ?_
  rintro e w2 ⟨rfl, hw2⟩
  have HN2 : Hid (New w1 w2) := Lib.hid (by rw [hw2]; exact New.al (New.refl _) _)
  have HS := Lib.hid (all1_nil w1.heap.size w2 (by rw [hw2]; exact (Blk.new w1 _ _).cell 0) (fun _ _ => True) (fun _ _ => True))
  clear hw2
  go_wp2_with fail
  refine wp_rangeR rfl (enters_of Try.func44 (by kernel_rfl) rfl) encKV (fun _ => rfl) HS.out (fun _ _ _ _ _ => trivial) (fun _ _ => trivial) (fun _ _ _ => trivial) (fun _ W => New w2 W) (fun _ _ _ h hN => h.tr hN) (fun _ _ _ h hp => h.puts hp (Nat.le_refl _)) (New.refl _) ?a1 ?assign ?body ?done
  case assign =>
    intro l x W K hK
    gi_wp2
    exact hK
  case body =>
    rintro l pre x W hpl - - hf
    exact hf.elim
  case done =>
    rintro D fs W hD hfs hNW hDm
    have HNW := Lib.hid hNW
    have c3 : W.cell? ⟨b3, 0, none⟩ = some (.slice none 0 0) := (hNW.blk (HN2.out.blk HB3.out)).cell 0
    clear hNW
    dsimp only
    go_wp2_with fail
    refine leaves_marks [D] W (Marks.cons (Marks.nil w2.heap.size W) (fun _ h => by cases h) hD hDm) (fun W' hS => ⟨.slice none 0 0, by simp [results, Try.results24, go_sem], rfl, ?_⟩)
    exact ((HN1.out.tr HN2.out).tr HNW.out).trans (hS.below.mono (HN1.out.tr HN2.out).size)
set_option maxRecDepth 100000 in
theorem same_nil {X : Nat → Prop} {w : World} {base g b m : Nat} (h : TbIn X w base g b m []) (hm : m ≤ 1000000) : Calls Try.prog 16 #[.pointer none, .pointer (some ⟨g, 0, none⟩)] w fun e w' => e = .returned (.bool true) ∧ New w w' := by
  have H := Lib.hid h
  clear h
  refine (callsIn_wide (n := 3)).1 ?_
  refine callsIn_of_wp_marks Try.func16 rfl trivial ?_ rfl
  refine wpIn_wide.2 ?_
  simp only [Try.ntmps16, List.size_toArray, List.length_cons, List.length_nil, Nat.reduceAdd, Nat.reduceSub, Array.replicate_succ, Array.replicate_zero, List.push_toArray, List.append_toArray, List.nil_append, List.cons_append]
  go_upto_region 1 with fail
  obtain ⟨w1, hw1⟩ : ∃ w1 : World, w1 = (w.alloc (.cells #[.pointer (some ⟨g, 0, none⟩)] 24)).alloc (.cells #[.bool false] 4) := ⟨_, rfl⟩
  obtain ⟨b3, hb3⟩ : ∃ b3, b3 = w.heap.size := ⟨_, rfl⟩
  obtain ⟨b4, hb4⟩ : ∃ b4, b4 = w.heap.size + 1 := ⟨_, rfl⟩
  have HN1 : Hid (New w w1) := Lib.hid (by rw [hw1]; exact New.al (New.al (New.refl _) _) _)
  have HB3 : Hid (Blk w1 b3 24 #[.pointer (some ⟨g, 0, none⟩)]) := Lib.hid (by rw [hw1, hb3]; exact (Blk.new _ _ _).alloc _)
  have HB4 : Hid (Blk w1 b4 4 #[.bool false]) := Lib.hid (by rw [hw1, hb4]; exact Blk.new' _ _ _ (by simp))
  rw [← hw1, ← hb4, ← hb3]
  have HZ4 : Hid (w.heap.size ≤ b4) := Lib.hid (by omega)
  clear hw1 hb3 hb4
  have k3 := cell_regrown (show w1.cell? ⟨b3, 0, none⟩ = some (.pointer (some ⟨g, 0, none⟩)) from HB3.out.cell 0)
  have cA := calls_regrown (w := w1) (v := .int .i64 0) (f := 28) (args := #[.pointer none]) (fun W hN => (len_nil W).mono fun e w h => ⟨h.1, by rw [← h.2]; exact New.refl _⟩)
  have cB := calls_regrown (w := w1) (v := .int .i64 0) (f := 28) (args := #[.pointer (some ⟨g, 0, none⟩)]) (fun W hN => (len_any (H.out.new (HN1.out.tr hN)) hm (by decide)).mono fun e w h => ⟨h.1, h.2⟩)
  refine wp_region_quiet_below (by kernel_rfl) (by kernel_rfl) ?_
  repeat (quiet_step (first | exact cA _ _ | exact cB _ _))
  refine wpQuiet_nil ?_
  intro _ hw'
  obtain ⟨⟨dq, osq⟩, hw''⟩ := hw'
  have HNq : Hid (New w1 (grow (redrawn w1 dq) osq)) := Lib.hid (below_regrown w1 dq osq)
  subst hw''
  generalize grow (redrawn w1 dq) osq = wq at HNq ⊢
  clear k3 cA cB
  go_wp2_with fail
  refine (all_any none wq).mono ?_
  rintro e w2 ⟨rfl, hw2⟩
  have HN2 : Hid (New w1 w2) := Lib.hid (by rw [hw2]; exact New.al HNq.out _)
  have HS := Lib.hid (all1_nil wq.heap.size w2 (by rw [hw2]; exact (Blk.new wq _ _).cell 0) (fun _ _ => True) (fun _ _ => True))
  clear hw2
  go_wp2_with fail
  refine wp_rangeR rfl (enters_of Try.func44 (by kernel_rfl) rfl) encKV (fun _ => rfl) HS.out (fun _ _ _ _ _ => trivial) (fun _ _ => trivial) (fun _ _ _ => trivial) (fun _ W => New w2 W) (fun _ _ _ h hN => h.tr hN) (fun _ _ _ h hp => h.puts hp (Nat.le_refl _)) (New.refl _) ?a1 ?assign ?body ?done
  case assign =>
    intro l x W K hK
    gi_wp2
    exact hK
  case body =>
    rintro l pre x W hpl - - hf
    exact hf.elim
  case done =>
    rintro D fs W hD hfs hNW hDm
    have HNW := Lib.hid (HN2.out.tr hNW)
    have HDM := Lib.hid hDm
    have c4 : W.cell? ⟨b4, 0, none⟩ = some (.bool false) := (HNW.out.blk HB4.out).cell 0
    have f4 : W.frozen? ⟨b4, 0, none⟩ = false := (HNW.out.blk HB4.out).frozen 0
    clear hNW hDm
    dsimp only
    go_wp2_with fail
    have hF : Fr (fun j => j = b4) W (W.setCell ⟨b4, 0, none⟩ (.bool true)) := (Fr.refl (fun j => j = b4) W).setCell (p := ⟨b4, 0, none⟩) (fun _ => rfl) _
    have hB : Blk (W.setCell ⟨b4, 0, none⟩ (.bool true)) b4 4 #[.bool true] := (HNW.out.blk HB4.out).set 0 _
    refine leaves_marks [D] _ ((Marks.cons (Marks.nil w2.heap.size W) (fun _ h => by cases h) hD HDM.out).fr hF (fun D hD => ?_)) (fun W' hS => ⟨.bool true, ?_, rfl, ?_⟩)
    · subst hD
      exact not_def_blk (HNW.out.blk HB4.out)
    · have hc : W'.cell? ⟨b4, 0, none⟩ = some (.bool true) := by
        have h1 : W'.heap[b4]? = _ := hS.cells b4 _ hB rfl
        exact (show Blk W' b4 4 #[.bool true] from h1).cell 0
      simp [results, Try.results16, go_sem, hc]
    · have hz : w.heap.size ≤ w2.heap.size := (HN1.out.tr HN2.out).size
      exact (New.fr (HN1.out.tr HNW.out) hF (fun k hk => by have := HZ4.out; omega)).trans (hS.below.mono hz)
end Go.Proofs.Ytfhinmjpokollaa
