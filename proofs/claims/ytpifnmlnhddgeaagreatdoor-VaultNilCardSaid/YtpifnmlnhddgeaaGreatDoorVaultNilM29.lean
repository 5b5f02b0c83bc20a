/- Texts of one proof, one behind the other: RngQ, ShQ, RowIn. No condition but each one's own. -/
import Derived.Test.YtpifnmlnhddgeaaGreatDoorVaultNilM1
import Derived.Test.YtpifnmlnhddgeaaGreatDoorVaultNilM2
import Derived.Test.YtpifnmlnhddgeaaGreatDoorVaultNilM26
namespace Go.Proofs.YtpifnmlnhddgeaaGreatDoor
set_option linter.unusedVariables false
set_option linter.unusedSimpArgs false
set_option linter.constructorNameAsVariable false
open Go.RowKit
def GivesQ {α : Type} (R : List α → α → Prop) (P : Program) (gf : Nat) (lb : Array Value) (encs : α → Array Value) (Good : α → World → Prop) (Kp : World → World → Prop) (S : List α → Prop) (M : Nat) (w : World) : Prop :=
 ∀ (l : Nat) (J : List α → World → Prop) (J' : World → Prop) (W : World), New w W → (∀ s A B, J s A → New A B → J s B) → (∀ A B, J' A → New A B → J' B) →
  (∀ pre x W1, pre.length < M → J pre W1 → Good x W1 → R pre x → YieldAt Fence.wide 2 P l (encs x) W1 fun e W' => (e = .returned (.bool true) ∧ J (pre ++ [x]) W' ∧ Kp W1 W') ∨ (e = .returned (.bool false) ∧ J' W')) →
  J [] W → CallsIn Fence.wide 2 P gf (#[.func (.yield l) #[] #[]] ++ lb) W fun e W' => (∃ v, e = .returned v) ∧ ((∃ xs, S xs ∧ J xs W') ∨ J' W')
theorem wp_rangeQ {α : Type} {R : List α → α → Prop} {P : Program} {g : Operand} {ps : Array Tmp} {assign body : Code} {Q : Exit → Act → World → Prop} {a : Act} {w : World}
    {gf : Nat} {lb : Array Value} (hg : a.eval g = .func (.func gf) #[] lb) (eg : ∀ args w, (callFunc gf args).run P w = .ok (.enter gf args) w)
    (encs : α → Array Value) (hps : ∀ x, (encs x).size = ps.size) {Good : α → World → Prop} {Kp : World → World → Prop} {S : List α → Prop} {M : Nat} (hseq : GivesQ R P gf lb encs Good Kp S M w)
    (hGp : ∀ x W W', Good x W → Puts w.heap.size W W' → Good x W') (hKt : ∀ {A B C : World}, Kp A B → Kp B C → Kp A C) (hKp : ∀ W W', Puts w.heap.size W W' → Kp W W')
    (I : List α → World → Prop) (hIn : ∀ s A B, I s A → New A B → I s B) (hIp : ∀ s A B, I s A → Puts w.heap.size A B → I s B) (h0 : I [] w) (I' : World → Prop) (hI'n : ∀ A B, I' A → New A B → I' B) (hI'p : ∀ A B, I' A → Puts w.heap.size A B → I' B) (a1 : α → Act)
    (hassign : ∀ (l : Nat) (x : α) (W : World) (K : Act → World → Prop), K (a1 x) W → assign.wpIn (Fence.wide.inRound l) 2 P (Exit.then K (fun _ _ _ => False)) { tmps := (ps.zip (encs x)).foldl (fun t (p, v) => t.setIfInBounds p v) a.tmps, defers := [] } W)
    (hbody : ∀ (l : Nat) (pre : List α) (x : α) (W : World), pre.length < M → I pre W → Good x W → R pre x → body.wpIn (Fence.wide.inRound l) 2 P (fun e _ W' => Kept w.heap.size W W' ∧ (e = .normal ∧ Kp W W' ∧ I (pre ++ [x]) W' ∨ e = .ret ∧ I' W')) (a1 x) W)
    (hdone : ∀ (D : Nat) (xs : List α) (W : World), w.heap.size ≤ D → S xs → I xs W → W.heap[D]? = some (.deferred (some [])) → Q .normal { a with defers := { target := .collected D, args := #[] } :: a.defers } W)
    (hret : ∀ (D : Nat) (W : World), w.heap.size ≤ D → I' W → W.heap[D]? = some (.deferred (some [])) → Q .ret { a with defers := { target := .collected D, args := #[] } :: a.defers } W) :
    (Code.rangeFunc g ps assign body).wp P Q a w := by
 refine (wpIn_wide (n := 3)).1 ?_
 refine wpIn_rangeFunc fun fn hfn => ?_
 obtain ⟨rc, hrc⟩ : ∃ rc : LoopState → Option Code → Loop, rc = fun st pe => { state := st, pending := pe, fn, tmps := a.tmps, params := ps, assign, body, defers := w.heap.size } := ⟨_, rfl⟩
 obtain ⟨w1, hw1⟩ : ∃ w1, w1 = (w.alloc (.deferred (some []))).alloc (.loop (rc .ready none)) := ⟨_, rfl⟩
 have hn1 : New w w1 := by rw [hw1]; exact New.al (New.al (New.refl w) _) _
 have hl1 : w1.heap[w.heap.size + 1]? = some (.loop (rc .ready none)) := by
  rw [hw1]
  have := World.alloc_heap_new (w.alloc (.deferred (some []))) (.loop (rc .ready none))
  rwa [World.size_alloc] at this
 have hd1 : w1.heap[w.heap.size]? = some (.deferred (some [])) := by
  rw [hw1]
  exact (Below.heap_alloc _ _ _ (by simp)).trans (World.alloc_heap_new w _)
 refine ⟨w.heap.size + 1, [{ target := .collected w.heap.size, args := #[] }], w1, { target := .fn (.func gf) lb, args := #[.func (.yield (w.heap.size + 1)) #[] #[]] }, w1, gf, #[.func (.yield (w.heap.size + 1)) #[] #[]] ++ lb, w1, ?_, ?_, fun _ _ => trivial, ?_, fun _ => by decide, ?_⟩
 · rw [hw1, hrc]
   exact run_enterLoop_outer _ _ _ _ _
 · simp only [resolve, hg]
   simp [go_sem]
 · simp [invoke, go_sem, eg]
 have put : ∀ (W : World) (r r' : Loop), W.heap[w.heap.size + 1]? = some (.loop r) → Puts w.heap.size W (W.putObj (w.heap.size + 1) (.loop r')) := fun W r r' h => ⟨_, _, _, by omega, h, rfl, rfl⟩
 refine (hseq (w.heap.size + 1) (fun pre W => I pre W ∧ W.heap[w.heap.size + 1]? = some (.loop (rc .ready none)) ∧ W.heap[w.heap.size]? = some (.deferred (some []))) (fun W => I' W ∧ W.heap[w.heap.size + 1]? = some (.loop (rc .done (some .ret))) ∧ W.heap[w.heap.size]? = some (.deferred (some []))) w1 hn1 ?_ ?_ ?_ ⟨hIn _ _ _ h0 hn1, hl1, hd1⟩).mono ?_
 · rintro s A B ⟨hi, hl, hd⟩ hN
   exact ⟨hIn s A B hi hN, (hN.block _ (Array.getElem?_eq_some_iff.1 hl).1).trans hl, (hN.block _ (Array.getElem?_eq_some_iff.1 hd).1).trans hd⟩
 · rintro A B ⟨hi, hl, hd⟩ hN
   exact ⟨hI'n A B hi hN, (hN.block _ (Array.getElem?_eq_some_iff.1 hl).1).trans hl, (hN.block _ (Array.getElem?_eq_some_iff.1 hd).1).trans hd⟩
 · rintro pre x W hpl ⟨hi, hl, hd⟩ hgood hRx
   have hlt := (Array.getElem?_eq_some_iff.1 hl).1
   have hy := run_yield (P := P) (args := encs x) hl (by rw [hrc]; exact hps x)
   rw [hrc] at hy
   refine ⟨fn, _, assign, body, hy, roundIn_of_wpIn hfn (hassign _ x W _ ⟨_, run_beginRound hl (by rw [hrc]), ?_⟩)⟩
   obtain ⟨W2, hW2⟩ : ∃ W2, W2 = W.putObj (w.heap.size + 1) (.loop { rc .ready none with state := .busy }) := ⟨_, rfl⟩
   have hP2 : Puts w.heap.size W W2 := by rw [hW2]; exact put W _ _ hl
   have hl2 : W2.heap[w.heap.size + 1]? = some (.loop { rc .ready none with state := .busy }) := by rw [hW2]; exact World.putObj_heap_same hlt
   have hd2 : W2.heap[w.heap.size]? = some (.deferred (some [])) := by rw [hW2]; exact (World.putObj_heap_other (by omega)).trans hd
   rw [← hW2]
   refine wpIn_mono (hbody _ pre x W2 hpl (hIp _ _ _ hi hP2) (hGp _ _ _ hgood hP2) hRx) ?_
   rintro e a3 W3 ⟨hk3, h3⟩
   have hl3 := hk3.rest _ _ (by omega) hl2 rfl
   have hd3 := hk3.rest _ _ (Nat.le_refl _) hd2 rfl
   rcases h3 with ⟨rfl, hkp3, hi3⟩ | ⟨rfl, hi3⟩
   · have hr := run_endRound (P := P) none hl3
     have hP3 := put W3 _ { rc .ready none with state := (if (none : Option Code).isNone then .ready else .done), pending := none } hl3
     refine ⟨_, _, hr, .inl ⟨rfl, ⟨hIp _ _ _ hi3 hP3, ?_, (World.putObj_heap_other (by omega)).trans hd3⟩, hKt (hKp _ _ hP2) (hKt hkp3 (hKp _ _ hP3))⟩⟩
     rw [World.putObj_heap_same (Array.getElem?_eq_some_iff.1 hl3).1, hrc]
     rfl
   · have hr := run_endRound (P := P) (some .ret) hl3
     have hP3 := put W3 _ { rc .ready none with state := (if (some Code.ret : Option Code).isNone then .ready else .done), pending := some .ret } hl3
     refine ⟨_, _, hr, .inr ⟨rfl, ⟨hI'p _ _ hi3 hP3, ?_, (World.putObj_heap_other (by omega)).trans hd3⟩⟩⟩
     rw [World.putObj_heap_same (Array.getElem?_eq_some_iff.1 hl3).1, hrc]
     rfl
 · rintro e W2 ⟨⟨v, rfl⟩, h2⟩
   rcases h2 with ⟨xs, hS, hi, hl, hd⟩ | ⟨hi, hl, hd⟩
   · have hend := run_endLoop (P := P) hl (by rw [hrc]; simp)
     rw [hrc] at hend
     exact ⟨none, _, hend, hdone _ xs _ (Nat.le_refl _) hS (hIp _ _ _ hi (put W2 _ _ hl)) ((World.putObj_heap_other (by omega)).trans hd)⟩
   · have hend := run_endLoop (P := P) hl (by rw [hrc]; simp)
     rw [hrc] at hend
     exact ⟨some .ret, _, hend, wpIn_ret (hret _ _ (Nat.le_refl _) (hI'p _ _ hi (put W2 _ _ hl)) ((World.putObj_heap_other (by omega)).trans hd))⟩
end Go.Proofs.YtpifnmlnhddgeaaGreatDoor
namespace Go.Proofs.YtpifnmlnhddgeaaGreatDoor
set_option linter.unusedVariables false
set_option linter.unusedSimpArgs false
set_option linter.constructorNameAsVariable false
open Go.RowKit Go.Maps Go.Sort
attribute [local go_sem] Oper.semAt_some
set_option maxHeartbeats 2000000 in
set_option maxRecDepth 100000 in
theorem chunk1_givesQ (g o N c size bx1 bx2 : Nat) (w : World) (hB1 : Blk w bx1 122 #[.slice (some ⟨g, o, none⟩) N c]) (hB2 : Blk w bx2 3 #[.int .i64 (size : Int)]) (h1 : 1 ≤ size) (hs : size ≤ 1000) (hN : N ≤ 1000000000) (hc : N ≤ c) (hcm : c ≤ maxLen) :
    GivesQ (fun pre k => k = pre.length) Tryz.prog 266 #[.pointer (some ⟨bx1, 0, none⟩), .pointer (some ⟨bx2, 0, none⟩)] (fun k : Nat => #[chV g o N size k]) (fun _ _ => True) (KpC bx1 bx2) (fun xs => xs = List.range (chN N size)) (chN N size) w := by
 intro l J J' W hW hJ hJ' hY h0
 refine callsIn_wide.2 ?_
 have HB : Hid (Blk W bx1 122 #[.slice (some ⟨g, o, none⟩) N c] ∧ Blk W bx2 3 #[.int .i64 (size : Int)]) := Lib.hid ⟨hW.blk hB1, hW.blk hB2⟩
 have HY := Lib.hid hY
 have HJ := Lib.hid hJ
 have H0 := Lib.hid h0
 clear hY hJ hJ' hW hB1 hB2 h0
 show Calls Tryz.prog 266 #[.func (.yield l) #[] #[], .pointer (some ⟨bx1, 0, none⟩), .pointer (some ⟨bx2, 0, none⟩)] W _
 unfold maxLen at hcm
 go_enter Tryz.func266, Tryz.ntmps266
 go_wp2_with fail
 go_loopw [4] (fun ix wr => ∃ (k i : Nat), k ≤ chN N size ∧ Hid (i = k * size) ∧ ix = .int .i64 i ∧ i ≤ N + 1000 ∧ Hid (J (List.range k) wr) ∧ Hid (Blk wr bx1 122 #[.slice (some ⟨g, o, none⟩) N c] ∧ Blk wr bx2 3 #[.int .i64 (size : Int)])) (fun ix _ => (N : Int).toNat + 1000 - (intOf ix).toNat)
 case atStart => exact ⟨0, 0, Nat.zero_le _, Lib.hid (by omega), rfl, by omega, H0, HB⟩
 case round =>
  clear H0 HB
  obtain ⟨k, i, hk, HI, rfl, hi, HJk, HBk⟩ := hrel
  have c1 : wr.cell? ⟨bx1, 0, none⟩ = some (.slice (some ⟨g, o, none⟩) N c) := HBk.out.1.cell 0
  have c2 : wr.cell? ⟨bx2, 0, none⟩ = some (.int .i64 (size : Int)) := HBk.out.2.cell 0
  have hi0 : (0 : Int) ≤ (i : Int) := by omega
  by_cases hlt : i < N
  · have HKL : Hid (k < chN N size) := Lib.hid ((chN_lt h1).2 (by rw [← HI.out]; exact hlt))
    have hci : ¬ c = i := by omega
    have hiN : i ≤ N := by omega
    obtain ⟨r, hr⟩ : ∃ r, r = N - i := ⟨_, rfl⟩
    have hr2 : N - i = r := hr.symm
    have hrN : i + r = N := by omega
    have q1 := cell_regrown c1
    have q2 := cell_regrown c2
    by_cases hsz : size ≤ r
    · obtain ⟨j, hj⟩ : ∃ j, j = i + size := ⟨_, rfl⟩
      have d1 : (size : Int) ≤ (r : Int) := by omega
      have d2 : ¬ ((r : Int) < (size : Int)) := by omega
      have m1 : min (size : Int) (r : Int) = (size : Int) := by omega
      have e1 : (i : Int) + (size : Int) = (j : Int) := by omega
      have e2 : j - i = size := by omega
      have e3 : ¬ j = i := by omega
      have e4 : i ≤ j := by omega
      have e5 : (j : Int) ≤ (c : Int) := by omega
      have HCV : Hid (chV g o N size k = .slice (some ⟨g, o + i, none⟩) size size) := Lib.hid (by unfold chV; rw [← HI.out, Nat.min_eq_left (by omega)])
      have hjj : j ≤ N := by omega
      have HJJ : Hid (j = (k + 1) * size) := Lib.hid (by rw [hj, HI.out, Nat.succ_mul])
      clear hj hr hrN
      go_wp2_with fail
      refine wp_region_quiet_below (by kernel_rfl) (by kernel_rfl) ?_
      repeat (quiet_step (fail))
      refine wpQuiet_nil ?_
      intro _ hw'
      obtain ⟨⟨dq, osq⟩, hw''⟩ := hw'
      obtain ⟨Wq, hWq⟩ : ∃ Wq, Wq = grow (redrawn wr dq) osq := ⟨_, rfl⟩
      have HNq : Hid (New wr Wq) := Lib.hid (by rw [hWq]; exact below_regrown _ dq osq)
      rw [hw'', ← hWq]
      clear hw'' hWq q1 q2
      have c1q : Wq.cell? ⟨bx1, 0, none⟩ = some (.slice (some ⟨g, o, none⟩) N c) := HNq.out.cell_ c1
      have c2q : Wq.cell? ⟨bx2, 0, none⟩ = some (.int .i64 (size : Int)) := HNq.out.cell_ c2
      clear c1 c2
      go_upto_region 4 with fail
      refine (wpIn_wide (n := 3)).1 ?_
      obtain ⟨fn, tmps, asg, bo, hy, hR⟩ := HY.out (List.range k) k Wq (by rw [List.length_range]; exact HKL.out) (HJ.out _ _ _ HJk.out HNq.out) trivial (by rw [List.length_range])
      rw [HCV.out] at hy
      have HR := Lib.hid hR
      clear hR
      gi_wp2
      refine HR.out.mono ?_
      rintro e w3 hsay
      rcases hsay with ⟨rfl, hJ3, hK3⟩ | ⟨rfl, hJ3⟩
      rotate_left
      · have HJ3 := Lib.hid hJ3
        clear hJ3 HR hy c1q c2q
        gi_wp2
        try go_wp2_with fail
        refine bodyPost_ret (results_none rfl _ _ _) rfl ?_
        exact ⟨⟨_, rfl⟩, .inr HJ3.out⟩
      have HJ3 := Lib.hid hJ3
      have HB3 : Hid (Blk w3 bx1 122 #[.slice (some ⟨g, o, none⟩) N c] ∧ Blk w3 bx2 3 #[.int .i64 (size : Int)]) := Lib.hid ⟨hK3.1.trans (HNq.out.blk HBk.out.1), hK3.2.trans (HNq.out.blk HBk.out.2)⟩
      have c23 : w3.cell? ⟨bx2, 0, none⟩ = some (.int .i64 (size : Int)) := HB3.out.2.cell 0
      clear hJ3 hK3 HR hy c1q c2q
      gi_wp2
      try go_wp2_with fail
      go_roundw
      case rel => exact ⟨k + 1, j, HKL.out, HJJ, rfl, by omega, Lib.hid (by rw [List.range_succ]; exact HJ3.out), HB3⟩
      case measure => simp [intOf]; omega
    · obtain ⟨j, hj⟩ : ∃ j, j = i + size := ⟨_, rfl⟩
      have d1 : ¬ (size : Int) ≤ (r : Int) := by omega
      have d2 : (r : Int) < (size : Int) := by omega
      have m1 : min (size : Int) (r : Int) = (r : Int) := by omega
      have e1 : (i : Int) + (size : Int) = (j : Int) := by omega
      have e2 : (i : Int) + (r : Int) = (N : Int) := by omega
      have e3 : ¬ N = i := by omega
      have e5 : (N : Int) ≤ (c : Int) := by omega
      have HCV : Hid (chV g o N size k = .slice (some ⟨g, o + i, none⟩) r r) := Lib.hid (by unfold chV; rw [← HI.out, ← hr, Nat.min_eq_right (by omega)])
      have hjj : j ≤ N + 1000 := by omega
      have HJJ : Hid (j = (k + 1) * size) := Lib.hid (by rw [hj, HI.out, Nat.succ_mul])
      clear hj hr hrN
      go_wp2_with fail
      refine wp_region_quiet_below (by kernel_rfl) (by kernel_rfl) ?_
      repeat (quiet_step (fail))
      refine wpQuiet_nil ?_
      intro _ hw'
      obtain ⟨⟨dq, osq⟩, hw''⟩ := hw'
      obtain ⟨Wq, hWq⟩ : ∃ Wq, Wq = grow (redrawn wr dq) osq := ⟨_, rfl⟩
      have HNq : Hid (New wr Wq) := Lib.hid (by rw [hWq]; exact below_regrown _ dq osq)
      rw [hw'', ← hWq]
      clear hw'' hWq q1 q2
      have c1q : Wq.cell? ⟨bx1, 0, none⟩ = some (.slice (some ⟨g, o, none⟩) N c) := HNq.out.cell_ c1
      have c2q : Wq.cell? ⟨bx2, 0, none⟩ = some (.int .i64 (size : Int)) := HNq.out.cell_ c2
      clear c1 c2
      go_upto_region 4 with fail
      refine (wpIn_wide (n := 3)).1 ?_
      obtain ⟨fn, tmps, asg, bo, hy, hR⟩ := HY.out (List.range k) k Wq (by rw [List.length_range]; exact HKL.out) (HJ.out _ _ _ HJk.out HNq.out) trivial (by rw [List.length_range])
      rw [HCV.out] at hy
      have HR := Lib.hid hR
      clear hR
      gi_wp2
      refine HR.out.mono ?_
      rintro e w3 hsay
      rcases hsay with ⟨rfl, hJ3, hK3⟩ | ⟨rfl, hJ3⟩
      rotate_left
      · have HJ3 := Lib.hid hJ3
        clear hJ3 HR hy c1q c2q
        gi_wp2
        try go_wp2_with fail
        refine bodyPost_ret (results_none rfl _ _ _) rfl ?_
        exact ⟨⟨_, rfl⟩, .inr HJ3.out⟩
      have HJ3 := Lib.hid hJ3
      have HB3 : Hid (Blk w3 bx1 122 #[.slice (some ⟨g, o, none⟩) N c] ∧ Blk w3 bx2 3 #[.int .i64 (size : Int)]) := Lib.hid ⟨hK3.1.trans (HNq.out.blk HBk.out.1), hK3.2.trans (HNq.out.blk HBk.out.2)⟩
      have c23 : w3.cell? ⟨bx2, 0, none⟩ = some (.int .i64 (size : Int)) := HB3.out.2.cell 0
      clear hJ3 hK3 HR hy c1q c2q
      gi_wp2
      try go_wp2_with fail
      go_roundw
      case rel => exact ⟨k + 1, j, HKL.out, HJJ, rfl, by omega, Lib.hid (by rw [List.range_succ]; exact HJ3.out), HB3⟩
      case measure => simp [intOf]; omega
  · have hk' : k = chN N size := by
     rcases Nat.lt_or_ge k (chN N size) with h | h
     · have := (chN_lt (N := N) h1).1 h
       rw [← HI.out] at this
       omega
     · omega
    subst hk'
    go_wp2_with fail
    go_end0
    exact ⟨⟨_, rfl⟩, .inl ⟨_, rfl, HJk.out⟩⟩
end Go.Proofs.YtpifnmlnhddgeaaGreatDoor
namespace Go.Proofs.YtpifnmlnhddgeaaGreatDoor
set_option linter.unusedVariables false
set_option linter.unusedSimpArgs false
set_option linter.constructorNameAsVariable false
open Go.RowKit
theorem wpListIn_alloc_row {F : Fence} {n' : Nat} {P : Program} {ops : Array Oper} {rest : List Oper} {o : Oper} {a : Act} {w : World} {Q : Exit → Act → World → Prop} {T : TypeId} {n : Nat} {zs : Array Value} (hgd : o.guard = none) (ho : o.op = .alloc T) (hZ : (P.info? T).map (fun i => (i.zero, i.size)) = some (some (.agg zs), n))
    (h : ∀ b w', b = w.heap.size → Blk w' b T zs → New w w' → wpListIn F n' P ops Q rest (a.put o.dst (.pointer (some ⟨b, 0, none⟩))) w') : wpListIn F n' P ops Q (o :: rest) a w := by
 obtain ⟨z1, z2⟩ := zero_of_info hZ
 refine wpListIn_plain hgd fun K hK' => ?_
 have hal : (Instr.alloc T true (.tuple #[])).run P w = .ok (.pointer (some ⟨w.heap.size, 0, none⟩)) (w.alloc (.cells zs T)) := by
  unfold Instr.alloc
  simp [Sem.run_bind, z1 w, newVar, newRow, go_sem, Result.andThen, Value.cells]
 unfold Oper.wpIn
 refine ⟨?_, ?_⟩
 · simp [Oper.about, ho]
 · rw [Oper.semAt_plain F _ _ (by rw [ho]; intro c hc'; cases hc')]
   simp only [execOp, ho, hal, Result.andThen_ok, Sem.run_bind, Sem.run_pure]
   exact hK' _ _ (h _ _ rfl (Blk.new _ _ _) (New.al (New.refl _) _))
theorem wpListIn_store_any {F : Fence} {n' : Nat} {P : Program} {ops : Array Oper} {rest : List Oper} {o : Oper} {a : Act} {w : World} {Q : Exit → Act → World → Prop} {T : TypeId} {g : Nat} {cs0 cs : Array Value} (hgd : o.guard = none) (x y : Operand) (ho : o.op = .store T x y) (hi : (P.info? T).map (·.size) = some cs.size) (hx : a.eval x = .pointer (some ⟨g, 0, none⟩)) (hy : a.eval y = .agg cs) (hb : Blk w g T cs0) (h0 : cs0.size = cs.size) (h1 : cs.all (·.oneCell') = true)
    (h : ∀ w', Blk w' g T cs → Fr (fun k => k = g) w w' → wpListIn F n' P ops Q rest (a.put o.dst undef) w') : wpListIn F n' P ops Q (o :: rest) a w := by
 refine wpListIn_plain hgd fun K hK' => ?_
 obtain ⟨r1, r2⟩ := setRow_blk (cs' := cs) hb
 unfold Oper.wpIn
 refine ⟨?_, ?_⟩
 · simp [Oper.about, ho]
 · rw [Oper.semAt_plain F _ _ (by rw [ho]; intro c hc'; cases hc')]
   simp only [execOp, ho, hx, hy, Instr.storeAt, Instr.sureAddr, Sem.run_bind, Sem.run_pure, Result.andThen_ok, run_storeVar_row w g T T cs0 cs hb hi h0 h1]
   exact hK' _ _ (h _ r1 r2)
end Go.Proofs.YtpifnmlnhddgeaaGreatDoor
