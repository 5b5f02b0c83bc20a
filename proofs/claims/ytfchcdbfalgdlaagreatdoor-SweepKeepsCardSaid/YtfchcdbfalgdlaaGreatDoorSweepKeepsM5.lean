/- Texts of one proof, one behind the other: MxIn, ShK, MxR, ShS. No condition but each one's own. -/
import Derived.Test.YtfchcdbfalgdlaaGreatDoorSweepKeepsM2
import Derived.Test.YtfchcdbfalgdlaaGreatDoorSweepKeepsM1
import Derived.Test.YtfchcdbfalgdlaaGreatDoorSweepKeepsM3
import Derived.OwnWalkIn
import Derived.TacticsInMore
import Derived.LoopNIn
import Derived.LoopIn
import Derived.Laws.Cover3
import Derived.Laws.CopyOwn
import Derived.Test.YtfchcdbfalgdlaaGreatDoorSweepKeepsM4
import Derived.Shelf.Abstract
namespace Go.Proofs.YtfchcdbfalgdlaaGreatDoor
set_option linter.unusedVariables false
set_option linter.unusedSimpArgs false
set_option linter.constructorNameAsVariable false
open Go.RowKit Go.Sort
section
variable {P : Program} {md : Region.Mode} {ops : Array Oper} {Q : Exit → Act → World → Prop} {S : World → Prop} {last n : Nat}
theorem Oper.wide_of {o : Oper} {a : Act} {w : World} {K : Act → World → Prop} (h : o.wp P a w K Q) : o.wpIn Fence.wide n P a w K Q := by
 unfold Oper.wp at h
 refine ⟨fun _ _ => trivial, ?_⟩
 show o.uponIn Fence.wide n P a K Q ((execOp a.eval o).run P w)
 generalize (execOp a.eval o).run P w = r at *
 cases r with
 | ok x w' =>
  cases x <;> simp only [Oper.upon, Oper.uponIn] at h ⊢ <;>
   first
    | exact h
    | exact ⟨fun h => by simp [Fence.wide] at h, callsIn_wide.2 h⟩
    | exact ⟨fun h => by simp [Fence.wide] at h, fun c cs _ => by
        obtain ⟨v, w', r, s⟩ := h c cs
        exact ⟨v, w', r, stepsIn_wide.2 s⟩⟩
 | halt x w' => cases x <;> simp only [Oper.upon, Oper.uponIn] at h ⊢ <;> exact h
theorem wpAny_wide (hQ : ¬ LetsOut Q) : ∀ (fuel : Nat) (listed : Array Bool) (a : Act) (w : World), wpAny P md ops Q fuel listed a w → wpAnyIn Fence.wide n P md ops Q fuel listed a w
 | 0, _, _, _, h => h
 | fuel + 1, listed, a, w, h => ⟨h.1, fun i hi => by
     have h1 := wpOp_mono (fun a w => wpAny_wide hQ fuel _ a w) (h.2 i hi)
     unfold wpOp at h1
     unfold wpOpIn
     cases ho : ops[i]? with
     | none => simpa [ho] using h1
     | some o =>
      simp only [ho] at h1 ⊢
      by_cases hw : Region.wanted o (yielded ops a.tmps) = true
      · rw [if_pos hw] at h1 ⊢
        rcases h1 with h1 | h1
        · exact Oper.wide_of h1
        · exact absurd h1.2 hQ
      · rw [if_neg hw] at h1 ⊢
        exact ⟨fun _ _ => trivial, h1⟩⟩
def NoOut (Q : Exit → Act → World → Prop) (e : Exit) (a : Act) (w : World) : Prop := match e with | .panic _ => False | .outgrown => False | e => Q e a w
theorem NoOut.imp {Q : Exit → Act → World → Prop} (e : Exit) (a : Act) (w : World) (h : NoOut Q e a w) : Q e a w := by
 cases e <;> first | exact h | exact h.elim
theorem NoOut.not : ¬ LetsOut (NoOut Q) := fun ⟨_, _, h⟩ => h
theorem wpIn_region_of {id : Nat} {a : Act} {w : World} {l : List Oper} (r : Nat) (hm : P.follows .mixedOrders = true) (hd : l.all noDefer = true)
    (h : wpAny P .any l.toArray (NoOut Q) l.toArray.size (Array.replicate l.toArray.size false) a w.drew) : (Code.region id l.toArray true).wpIn (Fence.wide.inRound r) n P Q a w := by
 refine wpIn_mono (Q := NoOut Q) (wpIn_region_any hm (wpAnyIn_in_round r rfl ?_ _ _ _ _ (wpAny_wide NoOut.not _ _ _ _ h))) NoOut.imp
 intro i o ho
 have ho' : l[i]? = some o := by simpa using ho
 exact List.all_eq_true.1 hd o (List.mem_of_getElem? ho')
theorem wpIn_region_mixH {id : Nat} {a : Act} {w : World} {l : List Oper} (r : Nat) (S : World → Prop) (sc : List (Bool × Nat)) (hm : P.follows .mixedOrders = true)
    (hB : (l.all noDefer && Region.noSelect l.toArray && decide (sc.length = l.toArray.size) && mixBH .any l.toArray sc (Array.replicate l.toArray.size false)) = true) (hS : S w.drew)
    (h : Nonempty (HW S) → wpMix P l.toArray S l.toArray.size (NoOut Q) sc a w.drew) : (Code.region id l.toArray true).wpIn (Fence.wide.inRound r) n P Q a w := by
 simp only [Bool.and_eq_true, decide_eq_true_eq] at hB
 obtain ⟨⟨⟨h0, h1⟩, h2⟩, h3⟩ := hB
 refine wpIn_region_of r hm h0 (wpAny_of_held (S := S) _ _ _ _ ?_)
 have := wpAnyH_of_mix (Q := NoOut Q) rfl h1 (fun _ _ _ _ _ h => h) sc _ _ _ h3 hS (h ⟨⟨_, hS⟩⟩)
 rwa [h2] at this
theorem wpIn_region_mix {id : Nat} {a : Act} {w : World} {l : List Oper} (r : Nat) (S : World → Prop) (last : Nat) (sc : List (Bool × Nat)) (hm : P.follows .mixedOrders = true)
    (hB : (l.all noDefer && Region.noSelect l.toArray && decide (sc.length = l.toArray.size) && mixB .any l.toArray last sc (Array.replicate l.toArray.size false)) = true) (hS : S w.drew)
    (h : Nonempty (HW S) → wpMix P l.toArray S last (NoOut Q) sc a w.drew) : (Code.region id l.toArray true).wpIn (Fence.wide.inRound r) n P Q a w := by
 simp only [Bool.and_eq_true, decide_eq_true_eq] at hB
 obtain ⟨⟨⟨h0, h1⟩, h2⟩, h3⟩ := hB
 refine wpIn_region_of r hm h0 (wpAny_of_T (S := S) (last := last) _ _ _ _ ?_)
 have := wpAnyT_of_mix (Q := NoOut Q) h1 (fun _ _ _ _ _ h => h) sc _ _ _ h3 (fun _ => hS) (h ⟨⟨_, hS⟩⟩)
 rwa [h2] at this
theorem mix_doneIn {a : Act} {w : World} (h : Q .normal a w) : wpMix P ops S last (NoOut Q) [] a w := h
end
end Go.Proofs.YtfchcdbfalgdlaaGreatDoor
namespace Go.Proofs.YtfchcdbfalgdlaaGreatDoor
set_option linter.unusedVariables false
set_option linter.unusedSimpArgs false
set_option linter.constructorNameAsVariable false
open Go.RowKit Go.Maps Go.Sort
attribute [local go_sem] Oper.semAt_some
theorem chunk_any (A : Option Addr) (n c : Nat) (size : Nat) (h1 : 1 ≤ size) (hs : size ≤ 1000) (w : World) :
    Calls Tryz.prog 159 #[.slice A n c, .int .i64 (size : Int)] w fun e w' => e = .returned (.func (.func 169) #[] #[.pointer (some ⟨w.heap.size, 0, none⟩), .pointer (some ⟨w.heap.size + 1, 0, none⟩)]) ∧ w' = (w.alloc (.cells #[.slice A n c] 33)).alloc (.cells #[.int .i64 (size : Int)] 3) := by
 have hs1 : ¬ ((size : Int) < 1) := by omega
 go_enter Tryz.func159, Tryz.ntmps159
 go_wp2_with fail
 go_ret
 exact ⟨rfl, rfl⟩
def chN (N size : Nat) : Nat := (N + size - 1) / size
theorem chN_lt {N size k : Nat} (h : 1 ≤ size) : k < chN N size ↔ k * size < N := by
 unfold chN
 rw [Nat.lt_div_iff_mul_lt (by omega)]
 omega
def chV (g o N size k : Nat) : Value := .slice (some ⟨g, o + k * size, none⟩) (min size (N - k * size)) (min size (N - k * size))
def KpC (x y : Nat) (W W' : World) : Prop := W'.heap[x]? = W.heap[x]? ∧ W'.heap[y]? = W.heap[y]?
theorem KpC.tr {x y : Nat} {A B C : World} (h : KpC x y A B) (k : KpC x y B C) : KpC x y A C := ⟨k.1.trans h.1, k.2.trans h.2⟩
theorem KpC.puts {x y b : Nat} {W W' : World} (hp : Puts b W W') (hx : x < b) (hy : y < b) : KpC x y W W' := by
 obtain ⟨l, o, o', hl, -, -, rfl⟩ := hp
 exact ⟨World.putObj_heap_other (by omega), World.putObj_heap_other (by omega)⟩
theorem KpC.fr {x y : Nat} {S : Nat → Prop} {W W' : World} (hf : Fr S W W') (hx : x < W.heap.size ∧ ¬ S x) (hy : y < W.heap.size ∧ ¬ S y) : KpC x y W W' := ⟨hf.block x hx.1 hx.2, hf.block y hy.1 hy.2⟩
set_option maxHeartbeats 2000000 in
set_option maxRecDepth 100000 in
theorem chunk1_gives (g o N c size bx1 bx2 : Nat) (w : World) (hB1 : Blk w bx1 33 #[.slice (some ⟨g, o, none⟩) N c]) (hB2 : Blk w bx2 3 #[.int .i64 (size : Int)]) (h1 : 1 ≤ size) (hs : size ≤ 1000) (hN : N ≤ 1000000000) (hc : N ≤ c) (hcm : c ≤ maxLen) :
    GivesR (fun pre k => k = pre.length) Tryz.prog 169 #[.pointer (some ⟨bx1, 0, none⟩), .pointer (some ⟨bx2, 0, none⟩)] (fun k : Nat => #[chV g o N size k]) (fun _ _ => True) (KpC bx1 bx2) (fun xs => xs = List.range (chN N size)) (chN N size) w := by
 intro l J W hW hJ hY h0
 refine callsIn_wide.2 ?_
 have HB : Hid (Blk W bx1 33 #[.slice (some ⟨g, o, none⟩) N c] ∧ Blk W bx2 3 #[.int .i64 (size : Int)]) := Lib.hid ⟨hW.blk hB1, hW.blk hB2⟩
 have HY := Lib.hid hY
 have HJ := Lib.hid hJ
 have H0 := Lib.hid h0
 clear hY hJ hW hB1 hB2 h0
 show Calls Tryz.prog 169 #[.func (.yield l) #[] #[], .pointer (some ⟨bx1, 0, none⟩), .pointer (some ⟨bx2, 0, none⟩)] W _
 unfold maxLen at hcm
 go_enter Tryz.func169, Tryz.ntmps169
 go_wp2_with fail
 go_loopw [4] (fun ix wr => ∃ (k i : Nat), k ≤ chN N size ∧ Hid (i = k * size) ∧ ix = .int .i64 i ∧ i ≤ N + 1000 ∧ Hid (J (List.range k) wr) ∧ Hid (Blk wr bx1 33 #[.slice (some ⟨g, o, none⟩) N c] ∧ Blk wr bx2 3 #[.int .i64 (size : Int)])) (fun ix _ => (N : Int).toNat + 1000 - (intOf ix).toNat)
 case atStart => exact ⟨0, 0, Nat.zero_le _, Lib.hid (by omega), rfl, by omega, H0, HB⟩
 case round =>
  clear H0 HB
  obtain ⟨k, i, hk, HI, rfl, hi, HJk, HBk⟩ := hrel
  have c1 : wr.cell? ⟨bx1, 0, none⟩ = some (.slice (some ⟨g, o, none⟩) N c) := HBk.out.1.cell 0
  have c2 : wr.cell? ⟨bx2, 0, none⟩ = some (.int .i64 (size : Int)) := HBk.out.2.cell 0
  have hi0 : (0 : Int) ≤ (i : Int) := by omega
  by_cases hlt : i < N
  · have HKL : Hid (k < chN N size) := Lib.hid ((chN_lt h1).2 (by rw [← HI.out]; exact hlt))
    have hci : ¬ c = i := by omega
    have hiN : i ≤ N := by omega
    obtain ⟨r, hr⟩ : ∃ r, r = N - i := ⟨_, rfl⟩
    have hr2 : N - i = r := hr.symm
    have hrN : i + r = N := by omega
    have q1 := cell_regrown c1
    have q2 := cell_regrown c2
    by_cases hsz : size ≤ r
    · obtain ⟨j, hj⟩ : ∃ j, j = i + size := ⟨_, rfl⟩
      have d1 : (size : Int) ≤ (r : Int) := by omega
      have d2 : ¬ ((r : Int) < (size : Int)) := by omega
      have e1 : (i : Int) + (size : Int) = (j : Int) := by omega
      have e2 : j - i = size := by omega
      have e3 : ¬ j = i := by omega
      have e4 : i ≤ j := by omega
      have e5 : (j : Int) ≤ (c : Int) := by omega
      have HCV : Hid (chV g o N size k = .slice (some ⟨g, o + i, none⟩) size size) := Lib.hid (by unfold chV; rw [← HI.out, Nat.min_eq_left (by omega)])
      have hjj : j ≤ N := by omega
      have HJJ : Hid (j = (k + 1) * size) := Lib.hid (by rw [hj, HI.out, Nat.succ_mul])
      clear hj hr hrN
      go_wp2_with fail
      refine wp_region_quiet_below (by kernel_rfl) (by kernel_rfl) ?_
      repeat (quiet_step (fail))
      refine wpQuiet_nil ?_
      intro _ hw'
      obtain ⟨⟨dq, osq⟩, hw''⟩ := hw'
      obtain ⟨Wq, hWq⟩ : ∃ Wq, Wq = grow (redrawn wr dq) osq := ⟨_, rfl⟩
      have HNq : Hid (New wr Wq) := Lib.hid (by rw [hWq]; exact below_regrown _ dq osq)
      rw [hw'', ← hWq]
      clear hw'' hWq q1 q2
      have c1q : Wq.cell? ⟨bx1, 0, none⟩ = some (.slice (some ⟨g, o, none⟩) N c) := HNq.out.cell_ c1
      have c2q : Wq.cell? ⟨bx2, 0, none⟩ = some (.int .i64 (size : Int)) := HNq.out.cell_ c2
      clear c1 c2
      go_upto_region 4 with fail
      refine (wpIn_wide (n := 3)).1 ?_
      obtain ⟨fn, tmps, asg, bo, hy, hR⟩ := HY.out (List.range k) k Wq (by rw [List.length_range]; exact HKL.out) (HJ.out _ _ _ HJk.out HNq.out) trivial (by rw [List.length_range])
      rw [HCV.out] at hy
      have HR := Lib.hid hR
      clear hR
      gi_wp2
      refine HR.out.mono ?_
      rintro e w3 ⟨rfl, hJ3, hK3⟩
      have HJ3 := Lib.hid hJ3
      have HB3 : Hid (Blk w3 bx1 33 #[.slice (some ⟨g, o, none⟩) N c] ∧ Blk w3 bx2 3 #[.int .i64 (size : Int)]) := Lib.hid ⟨hK3.1.trans (HNq.out.blk HBk.out.1), hK3.2.trans (HNq.out.blk HBk.out.2)⟩
      have c23 : w3.cell? ⟨bx2, 0, none⟩ = some (.int .i64 (size : Int)) := HB3.out.2.cell 0
      clear hJ3 hK3 HR hy c1q c2q
      gi_wp2
      try go_wp2_with fail
      go_roundw
      case rel => exact ⟨k + 1, j, HKL.out, HJJ, rfl, by omega, Lib.hid (by rw [List.range_succ]; exact HJ3.out), HB3⟩
      case measure => simp [intOf]; omega
    · obtain ⟨j, hj⟩ : ∃ j, j = i + size := ⟨_, rfl⟩
      have d1 : ¬ (size : Int) ≤ (r : Int) := by omega
      have d2 : (r : Int) < (size : Int) := by omega
      have e1 : (i : Int) + (size : Int) = (j : Int) := by omega
      have e2 : (i : Int) + (r : Int) = (N : Int) := by omega
      have e3 : ¬ N = i := by omega
      have e5 : (N : Int) ≤ (c : Int) := by omega
      have HCV : Hid (chV g o N size k = .slice (some ⟨g, o + i, none⟩) r r) := Lib.hid (by unfold chV; rw [← HI.out, ← hr, Nat.min_eq_right (by omega)])
      have hjj : j ≤ N + 1000 := by omega
      have HJJ : Hid (j = (k + 1) * size) := Lib.hid (by rw [hj, HI.out, Nat.succ_mul])
      clear hj hr hrN
      go_wp2_with fail
      refine wp_region_quiet_below (by kernel_rfl) (by kernel_rfl) ?_
      repeat (quiet_step (fail))
      refine wpQuiet_nil ?_
      intro _ hw'
      obtain ⟨⟨dq, osq⟩, hw''⟩ := hw'
      obtain ⟨Wq, hWq⟩ : ∃ Wq, Wq = grow (redrawn wr dq) osq := ⟨_, rfl⟩
      have HNq : Hid (New wr Wq) := Lib.hid (by rw [hWq]; exact below_regrown _ dq osq)
      rw [hw'', ← hWq]
      clear hw'' hWq q1 q2
      have c1q : Wq.cell? ⟨bx1, 0, none⟩ = some (.slice (some ⟨g, o, none⟩) N c) := HNq.out.cell_ c1
      have c2q : Wq.cell? ⟨bx2, 0, none⟩ = some (.int .i64 (size : Int)) := HNq.out.cell_ c2
      clear c1 c2
      go_upto_region 4 with fail
      refine (wpIn_wide (n := 3)).1 ?_
      obtain ⟨fn, tmps, asg, bo, hy, hR⟩ := HY.out (List.range k) k Wq (by rw [List.length_range]; exact HKL.out) (HJ.out _ _ _ HJk.out HNq.out) trivial (by rw [List.length_range])
      rw [HCV.out] at hy
      have HR := Lib.hid hR
      clear hR
      gi_wp2
      refine HR.out.mono ?_
      rintro e w3 ⟨rfl, hJ3, hK3⟩
      have HJ3 := Lib.hid hJ3
      have HB3 : Hid (Blk w3 bx1 33 #[.slice (some ⟨g, o, none⟩) N c] ∧ Blk w3 bx2 3 #[.int .i64 (size : Int)]) := Lib.hid ⟨hK3.1.trans (HNq.out.blk HBk.out.1), hK3.2.trans (HNq.out.blk HBk.out.2)⟩
      have c23 : w3.cell? ⟨bx2, 0, none⟩ = some (.int .i64 (size : Int)) := HB3.out.2.cell 0
      clear hJ3 hK3 HR hy c1q c2q
      gi_wp2
      try go_wp2_with fail
      go_roundw
      case rel => exact ⟨k + 1, j, HKL.out, HJJ, rfl, by omega, Lib.hid (by rw [List.range_succ]; exact HJ3.out), HB3⟩
      case measure => simp [intOf]; omega
  · have hk' : k = chN N size := by
     rcases Nat.lt_or_ge k (chN N size) with h | h
     · have := (chN_lt (N := N) h1).1 h
       rw [← HI.out] at this
       omega
     · omega
    subst hk'
    go_wp2_with fail
    go_end0
    exact ⟨⟨_, rfl⟩, _, rfl, HJk.out⟩
end Go.Proofs.YtfchcdbfalgdlaaGreatDoor
namespace Go.Proofs.YtfchcdbfalgdlaaGreatDoor
set_option linter.unusedVariables false
set_option linter.unusedSimpArgs false
set_option linter.constructorNameAsVariable false
open Go.RowKit
section
variable {P : Program} {ops : Array Oper} {Q : Exit → Act → World → Prop} {S : World → Prop} {last : Nat}
theorem mix_take_row {i : Nat} {o : Oper} {sc : List (Bool × Nat)} {a : Act} {w : World} {T : TypeId} {d : TypeDesc} {b off : Nat} {cs : List Value} (ho : ops[i]? = some o) (hw : Region.wanted o (yielded ops a.tmps) = true) (x : Operand) (hop : o.op = .load T x) (hx : a.eval x = .pointer (some ⟨b, off, none⟩))
    (hc : ∀ w', S w' → w'.rangeAt b off cs) (hu : P.underlying T = some d) (hd : d.isRow = true) (hi : (P.info? T).map (·.size) = some cs.length)
    (h : wpMix P ops S last Q sc (a.put o.dst (.agg cs.toArray)) w) : wpMix P ops S last Q ((true, i) :: sc) a w :=
 ⟨o, ho, by
  rw [if_pos hw]
  refine ⟨_, fun p => ?_, h⟩
  unfold execOp
  simp only [hop, hx, Instr.loadAt, Instr.sureAddr, Sem.run_bind, Sem.run_pure, Result.andThen_ok, run_loadVar_mid p.w b off T cs d (hc _ p.h) hu hd hi]⟩
theorem mix_take_arr {i : Nat} {o : Oper} {sc : List (Bool × Nat)} {a : Act} {w : World} {T e : TypeId} {n len cap : Nat} {A : Option Addr} (ho : ops[i]? = some o) (hw : Region.wanted o (yielded ops a.tmps) = true) (x : Operand) (hop : o.op = .sliceToArrayPointer T x) (hx : a.eval x = .slice A len cap)
    (hu : P.underlying T = some (.array n e)) (hn : n ≤ len)
    (h : wpMix P ops S last Q sc (a.put o.dst (.pointer A)) w) : wpMix P ops S last Q ((true, i) :: sc) a w :=
 ⟨o, ho, by
  rw [if_pos hw]
  refine ⟨_, fun p => ?_, h⟩
  unfold execOp
  have hr := run_arrayAt (P := P) (w := p.w) T e n A len cap hu hn
  simp only [hop, hx, Sem.run_bind, hr, Result.andThen_ok, Sem.run_pure]⟩
end
theorem wpList_copyF {P : Program} {w : World} {ops : Array Oper} {rest : List Oper} {o : Oper} {a : Act} {Q : Exit → Act → World → Prop} (hgd : o.guard = none) (d s : Operand) (dT sT : TypeId)
    (ho : o.op = .call { callee := .builtin .copy, args := #[d, s], argTypes := #[dT, sT] }) (elem : TypeId) (hu : P.underlying dT = some (.slice elem)) (hsz : (P.info? elem).map (·.size) = some 1)
    (g off dLen dCap : Nat) (sp : Option Addr) (sLen sCap : Nat) (hd : a.eval d = .slice (some ⟨g, off, none⟩) dLen dCap) (hs : a.eval s = .slice sp sLen sCap)
    (cur : List Value) (t : TypeId) (hg : Blk w g t cur.toArray) (cs : List Value) (hn : cs.length = Nat.min sLen dLen) {q : Nat → Prop}
    (hsrc : ∃ n xs, Rd q w 1 sp n xs ∧ xs.take cs.length = cs) (hfit : off + cs.length ≤ cur.length) (h1 : ∀ v ∈ cs, v.oneCell' = true)
    (h : ∀ w', Blk w' g t (splice cur off cs).toArray → Fr (fun k => k = g) w w' → wpList P ops Q rest (a.put o.dst (goInt cs.length)) w') : wpList P ops Q (o :: rest) a w := by
 by_cases h0 : cs.length = 0
 · obtain rfl : cs = [] := List.eq_nil_of_length_eq_zero h0
   refine wpList_copy_nothing hgd d s dT sT ho elem hu hsz (some ⟨g, off, none⟩) sp dLen dCap sLen sCap hd hs (by simpa using hn.symm) ?_
   exact h w (by simpa [splice] using hg) (Fr.refl _ _)
 · obtain ⟨n, xs, hR, htk⟩ := hsrc
   have hnp : 0 < n := by
    have h2 := hR.1
    have h3 := congrArg List.length htk
    rw [List.length_take] at h3
    omega
   obtain ⟨ad, rfl, -, -, hc⟩ := hR.2 hnp
   refine wpList_copy_own hgd d s dT sT ho elem hu hsz g off dLen dCap ad sLen sCap hd hs cur.toArray t hg cs hn (fun j v hv => hc j v ?_) (by simpa using hfit) h1 ?_
   · have hj := (List.getElem?_eq_some_iff.1 hv).1
     rw [← htk, List.getElem?_take_of_lt hj] at hv
     exact hv
   · obtain ⟨r1, r2⟩ := setRow_blk (cs' := (cur.toArray.toList.take off ++ (cs ++ cur.toArray.toList.drop (off + cs.length))).toArray) hg
     exact h _ (by simpa [splice] using r1) r2
theorem Blk.rangeOf {w : World} {T : TypeId} {g : Nat} {cs : Array Value} (hb : Blk w g T cs) : w.rangeAt g 0 cs.toList := fun j v hv => by
 rw [hb.cell, Nat.zero_add]
 simpa using hv
end Go.Proofs.YtfchcdbfalgdlaaGreatDoor
namespace Go.Proofs.YtfchcdbfalgdlaaGreatDoor
set_option linter.unusedVariables false
set_option linter.unusedSimpArgs false
set_option linter.constructorNameAsVariable false
open Go.RowKit Go.Sort
attribute [local go_sem] Oper.semAt_some
structure ShaIn (gk gi : Nat) (w : World) : Prop where
 k : ∀ t, t < 64 → w.cell? ⟨gk, t, none⟩ = some (.int .u32 (at_ kL t))
 i : w.rangeAt gi 0 iH.arr.toList
theorem ShaIn.new {gk gi : Nat} {w w' : World} (h : ShaIn gk gi w) (hN : New w w') : ShaIn gk gi w' := ⟨fun t ht => hN.cell_ (h.k t ht), fun j v hv => hN.cell_ (h.i j v hv)⟩
theorem ShaIn.lt {gk gi : Nat} {w : World} (h : ShaIn gk gi w) : gk < w.heap.size ∧ gi < w.heap.size := ⟨World.block_lt_of_cell? w _ (h.k 0 (by decide)), World.block_lt_of_cell? w _ (h.i 0 _ rfl)⟩
def SuI (b3 : Nat) (w2 : World) (p : List Int) (s : List Nat) (W : World) : Prop := Fr (fun j => j = b3 ∨ w2.heap.size ≤ j) w2 W ∧ Blk W b3 243 (comprN p s.length).arr
theorem SuI.new {b3 : Nat} {w2 : World} {p : List Int} {s : List Nat} {W W' : World} (h : SuI b3 w2 p s W) (hN : New W W') : SuI b3 w2 p s W' := ⟨h.1.trans (hN.toFr _), hN.blk h.2⟩
theorem SuI.puts {b3 : Nat} {w2 : World} {p : List Int} {s : List Nat} {W W' : World} (h : SuI b3 w2 p s W) (hp : Puts w2.heap.size W W') : SuI b3 w2 p s W' := ⟨h.1.trans (hp.fr (fun j hj => .inr hj)), hp.blk h.2⟩
theorem index_s {x : H8} {t : Nat} (h : t < 8) (w : World) : (Instr.index 243 (.agg x.arr) (.int .i64 (t : Int))).run Tryz.prog w = .ok (.int .u32 (at_ x.list t)) w := by
 have hs : (sizeOf 44).run Tryz.prog w = .ok 1 w := by
  first | exact Tryz.sizeOf44 w | simp [Tryz.sizeOf44, go_sem] | kernel_rfl
 have hc : x.arr[t]? = some (.int .u32 (at_ x.list t)) := by rw [H8.arr_list]; exact u32A_get h
 have hg : (isAgg 44).run Tryz.prog w = .ok false w := by
  first | kernel_rfl | simp [isAgg, run_underlying Tryz.underlying44, go_sem]
 have hp : (part 44 x.arr t).run Tryz.prog w = .ok (.int .u32 (at_ x.list t)) w := by
  simp [part, hg, hc, go_sem]
 have hn : (t : Int) < 8 := by omega
 simp [Instr.index, run_underlying Tryz.underlying243, asIntOf, hs, hp, hn, go_sem]
 rw [if_pos h, hc]
 simp
theorem slice32 (b t : Nat) (h : t < 8) (w : World) : (Instr.sliceAt 211 (.pointer (some ⟨b, 0, none⟩)) (some (.int .i64 (4 * (t : Int)))) none none).run Tryz.prog w = .ok (.slice (some ⟨b, 4 * t, none⟩) (32 - 4 * t) (32 - 4 * t)) w := by
 have hal : (Tryz.prog.arrayLen 211) = 32 := by kernel_rfl
 have hel : (Tryz.prog.elem 211) = 5 := by kernel_rfl
 have hu : Tryz.prog.underlying 211 = some (.array (Tryz.prog.arrayLen 211) (Tryz.prog.elem 211)) := by rw [hal, hel]; exact Tryz.underlying211
 have hs : (sizeOf 5).run Tryz.prog w = .ok 1 w := by
  first | exact Tryz.sizeOf5 w | simp [Tryz.sizeOf5, go_sem] | kernel_rfl
 rw [run_sliceAt_array_l (P := Tryz.prog) w 211 ⟨b, 0, none⟩ hu .i64 (4 * (t : Int)) (by omega) (by rw [hal]; omega), hel, hal, hs]
 have e1 : (4 * (t : Int)).toNat = 4 * t := by omega
 simp only [Result.andThen_ok, slicedAt, e1]
 rw [if_neg (by omega), add_own, Nat.mul_one]
def outN (x : H8) (k : Nat) : List Int := ((x.list.take k).flatMap fun y => beL 4 y.toNat) ++ List.replicate (32 - 4 * k) 0
theorem outN_8 (x : H8) : outN x 8 = x.list.flatMap fun y => beL 4 y.toNat := by simp [outN, H8.list]
theorem outN_len {x : H8} {k : Nat} (h : k ≤ 8) : (outN x k).length = 32 := by
 rcases (by omega : k = 0 ∨ k = 1 ∨ k = 2 ∨ k = 3 ∨ k = 4 ∨ k = 5 ∨ k = 6 ∨ k = 7 ∨ k = 8) with rfl | rfl | rfl | rfl | rfl | rfl | rfl | rfl | rfl <;> rfl
theorem out_step (x : H8) {k : Nat} (h : k < 8) : splice (u8s (outN x k)) (4 * k) (u8s (beL 4 (at_ x.list k).toNat)) = u8s (outN x (k + 1)) := by
 rcases (by omega : k = 0 ∨ k = 1 ∨ k = 2 ∨ k = 3 ∨ k = 4 ∨ k = 5 ∨ k = 6 ∨ k = 7) with rfl | rfl | rfl | rfl | rfl | rfl | rfl | rfl <;> rfl
theorem chN_64 {N : Nat} (h : N % 64 = 0) : chN N 64 = N / 64 := by unfold chN; omega
set_option maxHeartbeats 4000000 in
set_option maxRecDepth 100000 in
theorem sum_any {q : Nat → Prop} (A : Option Addr) (n c : Nat) (xs : List Int) (w : World) (hL : ShaIn 4 2 w) (hR : Rd q w 1 A n (u8s xs)) (hb : Byt xs) (hn : n ≤ 500000000) :
    Calls Tryz.prog 157 #[.slice A n c] w fun e w' => e = .returned (.agg (secA (hsh xs))) ∧ New w w' := by
 have HL := Lib.hid hL
 have HR := Lib.hid hR
 have HPB := Lib.hid (padL_byt hb)
 have HP64 := Lib.hid (padL_len xs)
 have hxn : xs.length = n := by have := hR.1; rw [u8s_len] at this; omega
 have hpl : (padL xs).length ≤ n + 80 ∧ 64 ≤ (padL xs).length := by
  have h1 := padL_len xs
  have h2 := (zN_mod xs.length).2
  rw [padL_eq, List.length_append, padZ_len, beL_len] at h1 ⊢
  omega
 have HH : Hid (hsh xs = (comprN (padL xs) ((padL xs).length / 64)).list.flatMap fun x => beL 4 x.toNat) := Lib.hid rfl
 obtain ⟨RA, hRA⟩ : ∃ RA, RA = secA (hsh xs) := ⟨_, rfl⟩
 rw [← hRA]
 have HRA := Lib.hid hRA
 have HPAD := Lib.hid (fun W (hN : New w W) => pad_any A n c xs W (hN.rd hR) (by omega))
 obtain ⟨p, hp⟩ : ∃ p, p = padL xs := ⟨_, rfl⟩
 rw [← hp] at HPB HP64 HH HPAD hpl
 obtain ⟨N, hN⟩ : ∃ N, N = p.length := ⟨_, rfl⟩
 rw [← hN] at HP64 HH HPAD hpl
 have HNL := Lib.hid hN
 clear hL hR hb hxn hp hN hRA HR
 refine (callsIn_wide (n := 3)).1 ?_
 refine callsIn_of_wp_marks Tryz.func157 rfl trivial ?_ rfl
 refine wpIn_wide.2 ?_
 simp only [Tryz.ntmps157, List.size_toArray, List.length_cons, List.length_nil, Nat.reduceAdd, Nat.reduceSub, Array.replicate_succ, Array.replicate_zero, List.push_toArray, List.append_toArray, List.nil_append, List.cons_append]
 go_wp2_with ((with_reducible refine atOp ⟨some 8, .load _ _, _, _, _, _⟩ ?_); refine wpList_load_range rfl _ rfl rfl ((HL.out.new (New.al (New.refl w) _)).i) Tryz.underlying243 rfl rfl ?_; dsimp only [iH, H8.arr])
 obtain ⟨w1, hw1⟩ : ∃ w1 : World, w1 = (w.alloc (.cells #[.int .u8 0, .int .u8 0, .int .u8 0, .int .u8 0, .int .u8 0, .int .u8 0, .int .u8 0, .int .u8 0, .int .u8 0, .int .u8 0, .int .u8 0, .int .u8 0, .int .u8 0, .int .u8 0, .int .u8 0, .int .u8 0, .int .u8 0, .int .u8 0, .int .u8 0, .int .u8 0, .int .u8 0, .int .u8 0, .int .u8 0, .int .u8 0, .int .u8 0, .int .u8 0, .int .u8 0, .int .u8 0, .int .u8 0, .int .u8 0, .int .u8 0, .int .u8 0] 211)).alloc (.cells #[.int .u32 1779033703, .int .u32 3144134277, .int .u32 1013904242, .int .u32 2773480762, .int .u32 1359893119, .int .u32 2600822924, .int .u32 528734635, .int .u32 1541459225] 243) := ⟨_, rfl⟩
 obtain ⟨b2, hb2⟩ : ∃ b2, b2 = w.heap.size := ⟨_, rfl⟩
 obtain ⟨b3, hb3⟩ : ∃ b3, b3 = w.heap.size + 1 := ⟨_, rfl⟩
 have hz : (#[.int .u8 0, .int .u8 0, .int .u8 0, .int .u8 0, .int .u8 0, .int .u8 0, .int .u8 0, .int .u8 0, .int .u8 0, .int .u8 0, .int .u8 0, .int .u8 0, .int .u8 0, .int .u8 0, .int .u8 0, .int .u8 0, .int .u8 0, .int .u8 0, .int .u8 0, .int .u8 0, .int .u8 0, .int .u8 0, .int .u8 0, .int .u8 0, .int .u8 0, .int .u8 0, .int .u8 0, .int .u8 0, .int .u8 0, .int .u8 0, .int .u8 0, .int .u8 0] : Array Value) = secA (List.replicate 32 0) := by rfl
 have HN1 : Hid (New w w1) := Lib.hid (by rw [hw1]; exact New.al (New.al (New.refl _) _) _)
 have HB2 : Hid (Blk w1 b2 211 (secA (List.replicate 32 0))) := Lib.hid (by rw [hw1, hb2, ← hz]; exact (Blk.new _ _ _).alloc _)
 have HB3 : Hid (Blk w1 b3 243 (comprN p 0).arr) := Lib.hid (by rw [hw1, hb3]; exact Blk.new' _ _ _ (by simp))
 have HZ : Hid (b2 = w.heap.size ∧ b3 = w.heap.size + 1) := Lib.hid ⟨hb2, hb3⟩
 rw [← hw1, ← hb3, ← hb2]
 clear hw1 hb2 hb3 hz
 refine (HPAD.out w1 HN1.out).mono ?_
 rintro e w2 ⟨⟨A1, d1, rfl, hO⟩, hN2⟩
 obtain ⟨g, cap, hv, hNc, hcm⟩ := own_form hO (by omega)
 injection hv with hv1 hv2 hv3
 subst hv1 hv3
 have HO := Lib.hid hO
 have HN2 := Lib.hid hN2
 clear hO hN2 hv2 HPAD
 go_wp2_with fail
 refine (chunk_any (some ⟨g, 0, none⟩) N d1 64 (by decide) (by decide) w2).mono ?_
 rintro e w3 ⟨rfl, hw3⟩
 have HN3 : Hid (New w2 w3) := Lib.hid (by rw [hw3]; exact New.al (New.al (New.refl _) _) _)
 have hgv := chunk1_gives g 0 N d1 64 w2.heap.size (w2.heap.size + 1) w3 (by rw [hw3]; exact (Blk.new _ _ _).alloc _) (by rw [hw3]; exact Blk.new' _ _ _ (by simp)) (by decide) (by decide) (by omega) hNc hcm
 have hz3 : w3.heap.size = w2.heap.size + 2 := by rw [hw3]; simp
 have HGV := Lib.hid hgv
 have HZ3 := Lib.hid hz3
 have HB3' : Hid (SuI b3 w3 p [] w3) := Lib.hid ⟨Fr.refl _ _, HN3.out.blk (HN2.out.blk HB3.out)⟩
 have HLT : Hid (b3 < w2.heap.size ∧ g < w2.heap.size ∧ g ≠ b3) := Lib.hid ⟨(HN2.out.blk HB3.out).lt, (own_lt HO.out g rfl).2, fun e => own_ne HO.out (HN2.out.blk HB3.out) (by decide) (by rw [e]; rfl)⟩
 have HDATA : Hid (∀ j v, (u8s p)[j]? = some v → w3.cell? ⟨g, j, none⟩ = some v) := Lib.hid fun j v hj => by
  obtain ⟨g', o', he, -, -, hc⟩ := (Rd.own HO.out rfl).out (by omega) (by omega)
  injection he with he
  injection he with e1 e2
  subst e1 e2
  have := hc j v hj
  rw [Nat.zero_add] at this
  exact HN3.out.cell_ this
 clear hw3 hgv hz3 HB3 HO
 go_wp2_with fail
 refine wp_rangeR rfl (enters_of Tryz.func169 (by kernel_rfl) rfl) (fun k : Nat => #[chV g 0 N 64 k]) (fun _ => rfl) HGV.out (fun x W W' hg hp => trivial) (fun h k => h.tr k) (fun W W' hp => KpC.puts hp (by have := HZ3.out; omega) (by have := HZ3.out; omega))
  (SuI b3 w3 p) (fun s A B h hN => h.new hN) (fun s A B h hp => h.puts hp) HB3'.out ?a1 ?assign ?body ?done
 case assign =>
  intro l x W K hK
  gi_wp2
  exact hK
 case body =>
  rintro lp pre k W hpl ⟨hF, hB⟩ hG rfl
  obtain ⟨k, hk⟩ : ∃ k, k = pre.length := ⟨_, rfl⟩
  rw [← hk] at hpl hB ⊢
  have hkN : k * 64 < N := (chN_lt (by decide)).1 hpl
  have HKN : Hid (k * 64 + 64 ≤ N) := Lib.hid (by have := HP64.out; omega)
  have hcv : chV g 0 N 64 k = .slice (some ⟨g, k * 64, none⟩) 64 64 := by
   unfold chV
   rw [Nat.min_eq_left (by have := HKN.out; omega), Nat.zero_add]
  rw [hcv]
  obtain ⟨st, hst⟩ : ∃ st, st = comprN p k := ⟨_, rfl⟩
  rw [← hst] at hB
  obtain ⟨bl, hbl⟩ : ∃ bl, bl = (p.drop (64 * k)).take 64 := ⟨_, rfl⟩
  have HST : Hid (comprN p (k + 1) = compr st bl) := Lib.hid (by rw [hst, hbl]; rfl)
  have HBL : Hid (bl.length = 64 ∧ Byt bl) := Lib.hid ⟨by rw [hbl, List.length_take, List.length_drop]; have := HKN.out; have := HNL.out; omega, by
   rw [hbl]
   intro x hx
   exact HPB.out x (List.mem_of_mem_drop (List.mem_of_mem_take hx))⟩
  have HRG : Hid (∀ W', New W W' → W'.rangeAt g (k * 64) (u8s bl)) := Lib.hid fun W' hN j v hj => by
   have h1 : (u8s p)[k * 64 + j]? = some v := by
    rw [← hj, hbl]
    unfold u8s
    rw [List.getElem?_map, List.getElem?_map, List.getElem?_take_of_lt (by
     have := (List.getElem?_eq_some_iff.1 hj).1
     rw [u8s_len] at this
     have := HBL.out.1
     omega), List.getElem?_drop, Nat.mul_comm]
   have h2 := HDATA.out _ v h1
   exact hN.cell_ (hF.cell_some h2 (fun hs => by
    have hs' : g = b3 ∨ w3.heap.size ≤ g := hs
    have := HLT.out
    have := HZ3.out
    omega))
  have HSOK : Hid st.Ok := Lib.hid (by rw [hst]; exact comprN_ok p k)
  have HBW := Lib.hid hB
  have HFW := Lib.hid hF
  have HSH : Hid (∀ W', New W W' → ∀ t, t < 64 → W'.cell? ⟨4, t, none⟩ = some (.int .u32 (at_ kL t))) := Lib.hid fun W' hN t ht => hN.cell_ (hF.cell_some (HN3.out.cell_ (HN2.out.cell_ (HN1.out.cell_ (HL.out.k t ht)))) (fun hs => by
   have hs' : 4 = b3 ∨ w3.heap.size ≤ 4 := hs
   have h1 := HL.out.lt
   have h2 := HZ.out
   have h3 := HZ3.out
   have h4 := HLT.out
   omega))
  have HKP : Hid (pre.length = k) := Lib.hid hk.symm
  clear hst hbl hB hF hcv hG hk hkN
  gi_wp2
  refine wpIn_region_mix lp (New W) 5 [(true, 0), (true, 1), (true, 2), (true, 3), (false, 4), (false, 5)] (by kernel_rfl) (by kernel_rfl) (New.dr (New.refl W)) (fun hne => ?_)
  refine mix_take_row (o := ⟨_, _, _, _, _, _⟩) rfl rfl (.tmp 3) rfl rfl (fun W' hN => (hN.blk HBW.out).rangeOf) Tryz.underlying243 rfl rfl ?_
  simp only [Act.put, List.setIfInBounds_toArray, List.set_cons_zero, List.set_cons_succ]
  refine mix_take (o := ⟨_, _, _, _, _, _⟩) rfl (fun K hK => ?_); go_simp; refine hK _ ?_; clear hK K
  refine mix_take_arr (o := ⟨_, _, _, _, _, _⟩) rfl rfl (.tmp 14) rfl rfl Tryz.underlying67 (Nat.le_refl _) ?_
  simp only [Act.put, List.setIfInBounds_toArray, List.set_cons_zero, List.set_cons_succ]
  refine mix_take_row (o := ⟨_, _, _, _, _, _⟩) rfl rfl (.tmp 15) rfl rfl (fun W' hN => HRG.out W' hN) Tryz.underlying67 rfl (by rw [u8s_len, HBL.out.1]; rfl) ?_
  simp only [Act.put, List.setIfInBounds_toArray, List.set_cons_zero, List.set_cons_succ]
  refine mix_act (o := ⟨_, _, _, _, _, _⟩) rfl (fun K hK => ?_) (.inl rfl)
  go_simp
  have hcp := compress_any st bl W.drew (HSH.out _ (New.dr (New.refl W))) HSOK.out HBL.out.1 HBL.out.2
  unfold secA at hcp
  refine hcp.mono ?_
  rintro e w4 ⟨rfl, hN4⟩
  have HN4 : Hid (New W w4) := Lib.hid (New.tr (New.dr (New.refl W)) hN4)
  clear hcp hN4
  go_simp
  refine hK.out _ _ (fun _ => HN4.out) ?_
  clear hK K
  refine mix_act (o := ⟨_, _, _, _, _, _⟩) rfl (fun K hK => ?_) (.inl rfl)
  refine step_store_any (cs := (compr st bl).arr) rfl (.tmp 3) (.tmp 17) rfl rfl rfl rfl (HN4.out.blk HBW.out) rfl (by simp [H8.arr, Value.oneCell']) ?_
  intro w5 hB5 hF5
  simp only [Act.put, List.setIfInBounds_toArray, List.set_cons_zero, List.set_cons_succ]
  refine hK.out _ _ (fun h => absurd rfl h) ?_
  have HB5 := Lib.hid hB5
  have HF5 : Hid (Fr (fun j => j = b3) W w5) := Lib.hid ((HN4.out.toFr _).trans hF5)
  clear hK K hne hB5 hF5
  refine mix_doneIn ?_
  gi_wp2
  refine ⟨Kept.fr HF5.out (fun k o hB hs => by
   have hs' : k = b3 := hs
   have := HLT.out
   have := HZ3.out
   omega), KpC.fr HF5.out ⟨by have := HFW.out.size; have := HZ3.out; omega, fun hs => ?_⟩ ⟨by have := HFW.out.size; have := HZ3.out; omega, fun hs => ?_⟩, HFW.out.trans (HF5.out.mono (fun k _ hs => .inl hs)), ?_⟩
  · have hs' : w2.heap.size = b3 := hs
    have := HLT.out
    omega
  · have hs' : w2.heap.size + 1 = b3 := hs
    have := HLT.out
    omega
  · rw [List.length_append, List.length_singleton, HKP.out, HST.out]
    exact HB5.out
 case done =>
  rintro D fs W hD hfs ⟨hF, hB⟩ hDm
  obtain ⟨x, hx⟩ : ∃ x, x = comprN p (N / 64) := ⟨_, rfl⟩
  have hB' : Blk W b3 243 x.arr := by rw [hx, ← chN_64 HP64.out]; rw [hfs, List.length_range] at hB; exact hB
  have HXOK : Hid x.Ok := Lib.hid (by rw [hx]; exact comprN_ok _ _)
  have HHX : Hid (hsh xs = outN x 8) := Lib.hid (by rw [HH.out, outN_8, hx])
  have HBx := Lib.hid hB'
  have HFW := Lib.hid hF
  have HNW : Hid (New w W) := Lib.hid (((HN1.out.tr HN2.out).tr HN3.out).fr hF (fun k hs => by
   have hs' : k = b3 ∨ w3.heap.size ≤ k := hs
   have h2 := HZ.out
   have h1 := HN1.out.size
   have h3 := HN2.out.size
   have h4 := HN3.out.size
   omega))
  have HB2W : Hid (Blk W b2 211 (secA (List.replicate 32 0))) := Lib.hid ((HN3.out.blk (HN2.out.blk HB2.out)).fr hF (fun hs => by
   have hs' : b2 = b3 ∨ w3.heap.size ≤ b2 := hs
   have h2 := HZ.out
   have h1 := (HN3.out.blk (HN2.out.blk HB2.out)).lt
   omega))
  have HM : Hid (Marks w.heap.size [D] W) := Lib.hid (Marks.cons (Marks.nil _ W) (fun _ h => by cases h) (by have := HN1.out.size; have := HN2.out.size; have := HN3.out.size; omega) hDm)
  clear hx hfs hB hB' hF hD hDm HGV HDATA HB3'
  dsimp only
  go_wp2_with ((with_reducible refine atOp ⟨some 18, .load _ _, _, _, _, _⟩ ?_); refine wpList_load_any rfl _ rfl Tryz.underlying243 rfl rfl rfl ((HBx.out.alloc _)) ?_)
  obtain ⟨W1, hW1⟩ : ∃ W1 : World, W1 = W.alloc (.cells #[.int .u8 0, .int .u8 0, .int .u8 0, .int .u8 0, .int .u8 0, .int .u8 0, .int .u8 0, .int .u8 0, .int .u8 0, .int .u8 0, .int .u8 0, .int .u8 0, .int .u8 0, .int .u8 0, .int .u8 0, .int .u8 0, .int .u8 0, .int .u8 0, .int .u8 0, .int .u8 0, .int .u8 0, .int .u8 0, .int .u8 0, .int .u8 0, .int .u8 0, .int .u8 0, .int .u8 0, .int .u8 0, .int .u8 0, .int .u8 0, .int .u8 0, .int .u8 0] 211) := ⟨_, rfl⟩
  obtain ⟨b5, hb5⟩ : ∃ b5, b5 = W.heap.size := ⟨_, rfl⟩
  have hz : (#[.int .u8 0, .int .u8 0, .int .u8 0, .int .u8 0, .int .u8 0, .int .u8 0, .int .u8 0, .int .u8 0, .int .u8 0, .int .u8 0, .int .u8 0, .int .u8 0, .int .u8 0, .int .u8 0, .int .u8 0, .int .u8 0, .int .u8 0, .int .u8 0, .int .u8 0, .int .u8 0, .int .u8 0, .int .u8 0, .int .u8 0, .int .u8 0, .int .u8 0, .int .u8 0, .int .u8 0, .int .u8 0, .int .u8 0, .int .u8 0, .int .u8 0, .int .u8 0] : Array Value) = (u8s (outN x 0)).toArray := by rfl
  have HN5 : Hid (New w W1) := Lib.hid (by rw [hW1]; exact New.al HNW.out _)
  have HB5 : Hid (Blk W1 b5 211 (u8s (outN x 0)).toArray) := Lib.hid (by rw [hW1, hb5, ← hz]; exact Blk.new _ _ _)
  have HB25 : Hid (Blk W1 b2 211 (secA (List.replicate 32 0))) := Lib.hid (by rw [hW1]; exact HB2W.out.alloc _)
  have HM5 : Hid (Marks w.heap.size [D] W1) := Lib.hid (by rw [hW1]; exact HM.out.new (New.al (New.refl _) _))
  have HZ5 : Hid (w.heap.size ≤ b5 ∧ b2 ≠ b5 ∧ w.heap.size ≤ b2) := Lib.hid ⟨by rw [hb5]; exact HNW.out.size, by have := HB2W.out.lt; omega, by have := HZ.out; omega⟩
  rw [← hW1, ← hb5]
  clear hW1 hb5 hz HNW HB2W HM HBx HFW HB2
  go_loopw [19] (fun i wr => ∃ (k : Nat), k ≤ 8 ∧ i = .int .i64 k ∧ Hid (New w wr) ∧ Hid (Blk wr b5 211 (u8s (outN x k)).toArray) ∧ Hid (Blk wr b2 211 (secA (List.replicate 32 0))) ∧ Hid (Marks w.heap.size [D] wr)) (fun i _ => 8 - (intOf i).toNat)
  case atStart => exact ⟨0, Nat.zero_le _, rfl, HN5, HB5, HB25, HM5⟩
  case round =>
   clear HN5 HB5 HB25 HM5
   obtain ⟨k, hk, rfl, HN, HB5, HB2, HM⟩ := hrel
   by_cases hlt : k < 8
   · have hk0 : (0 : Int) ≤ (k : Int) := by omega
     have hk8 : (k : Int) < 8 := by omega
     have hix := index_s (x := x) hlt
     have hsl := slice32 b5 k hlt
     obtain ⟨yn, hyn⟩ : ∃ yn, yn = (at_ x.list k).toNat := ⟨_, rfl⟩
     have hyb := H8.ok_b HXOK.out k
     have hy : at_ x.list k = (yn : Int) := by omega
     have hynb : (yn : Int) < 4294967296 := by omega
     have hyn0 : (0 : Int) ≤ (yn : Int) := by omega
     have HST : Hid (splice (u8s (outN x k)) (4 * k) (u8s (beL 4 yn)) = u8s (outN x (k + 1))) := Lib.hid (by rw [hyn]; exact out_step x hlt)
     have v3 : IntKind.u8.wrap ((yn : Int) / 16777216) = ((byteAt yn 3 : Nat) : Int) := by
      rw [show (yn : Int) / 16777216 = ((yn / 16777216 : Nat) : Int) from by simp, u8_wrap]
      rfl
     have v2 : IntKind.u8.wrap ((yn : Int) / 65536) = ((byteAt yn 2 : Nat) : Int) := by
      rw [show (yn : Int) / 65536 = ((yn / 65536 : Nat) : Int) from by simp, u8_wrap]
      rfl
     have v1 : IntKind.u8.wrap ((yn : Int) / 256) = ((byteAt yn 1 : Nat) : Int) := by
      rw [show (yn : Int) / 256 = ((yn / 256 : Nat) : Int) from by simp, u8_wrap]
      rfl
     have v0 : IntKind.u8.wrap (yn : Int) = ((byteAt yn 0 : Nat) : Int) := by
      rw [u8_wrap]
      unfold byteAt
      rw [Nat.pow_zero, Nat.div_one]
     rw [hy] at hix
     clear hyn hyb hy
     have HL32 : Hid ((u8s (outN x k)).length = 32) := Lib.hid (by rw [u8s_len, outN_len hk])
     go_wp2_with ((with_reducible refine atOp ⟨some 38, _, _, _, _, _⟩ ?_); refine wpList_copyF (q := fun _ => True) rfl (.tmp 25) (.tmp 37) 33 33 rfl 5 Tryz.underlying33 rfl b5 (4 * k) (32 - 4 * k) (32 - 4 * k) (some ⟨wr.heap.size, 0, none⟩) 4 4 rfl rfl (u8s (outN x k)) 211 (HB5.out.alloc _) (u8s (beL 4 yn)) (by rw [u8s_len, beL_len]; show 4 = min 4 (32 - 4 * k); omega) ⟨4, u8s (beL 4 yn), Rd.ofBlk (Blk.new wr 5 #[.int .u8 (byteAt yn 3 : Nat), .int .u8 (byteAt yn 2 : Nat), .int .u8 (byteAt yn 1 : Nat), .int .u8 (byteAt yn 0 : Nat)]) 1 4 rfl trivial, List.take_length⟩ (by rw [HL32.out, u8s_len, beL_len]; omega) (u8s_one _) ?_; intro w8 hb8 hf8; rw [HST.out] at hb8; have HB8 := Lib.hid hb8; have HF8 : Hid (Fr (fun j => j = b5) wr w8) := Lib.hid (((New.al (New.refl wr) _).toFr _).trans hf8); clear hb8 hf8)
     have HN8 : Hid (New w w8) := Lib.hid (HN.out.fr HF8.out (fun j hj => by have := HZ5.out; omega))
     have HB28 : Hid (Blk w8 b2 211 (secA (List.replicate 32 0))) := Lib.hid (HB2.out.fr HF8.out (by have := HZ5.out; omega))
     have HM8 : Hid (Marks w.heap.size [D] w8) := Lib.hid (HM.out.fr HF8.out (fun j hj => by
      have hj' : j = b5 := hj
      rw [hj']
      exact not_def_blk HB5.out))
     go_roundw
     case rel => exact ⟨k + 1, by omega, by go_num, HN8, HB8, HB28, HM8⟩
     case measure => simp [intOf]; omega
   · have HK8 : Hid (k = 8) := Lib.hid (by omega)
     have hn8 : ¬ (k : Int) < 8 := by omega
     have HBF : Hid (Blk wr b5 211 (secA (hsh xs))) := Lib.hid (by rw [HHX.out, ← HK8.out]; exact HB5.out)
     have hsz : (secA (hsh xs)).size = 32 := by rw [secA_size, hsh_len]
     have HSZ := Lib.hid hsz
     clear hsz HB5
     go_wp2_with (first
      | ((with_reducible refine atOp ⟨some 40, .load _ _, _, _, _, _⟩ ?_); refine wpList_load_any rfl _ rfl Tryz.underlying211 rfl (by rw [HSZ.out]; rfl) rfl HBF.out ?_)
      | ((with_reducible refine atOp ⟨none, .store 211 (.tmp 2) _, _, _, _, _⟩ ?_); refine wpList_store_any rfl (.tmp 2) (.tmp 40) rfl (by rw [HSZ.out]; rfl) rfl rfl HB2.out (by rw [HSZ.out, secA_size, List.length_replicate]) (secA_one _) ?_; intro w8 hb8 hf8; have HB8 := Lib.hid hb8; have HF8 := Lib.hid hf8; clear hb8 hf8))
     have HM8 : Hid (Marks w.heap.size [D] w8) := Lib.hid (HM.out.fr HF8.out (fun j hj => by
      have hj' : j = b2 := hj
      rw [hj']
      exact not_def_blk HB2.out))
     have HN8 : Hid (New w w8) := Lib.hid (HN.out.fr HF8.out (fun j hj => by have := HZ5.out; omega))
     rw [HRA.out]
     refine leaves_marks [D] w8 HM8.out (fun W' hS => ⟨.agg (secA (hsh xs)), results_rowA rfl _ _ b2 _ _ rfl (hS.cells b2 _ HB8.out rfl) Tryz.underlying211 rfl (by rw [HSZ.out]; rfl), rfl, ?_⟩)
     exact HN8.out.trans (hS.below)
end Go.Proofs.YtfchcdbfalgdlaaGreatDoor
