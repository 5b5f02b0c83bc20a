/- Texts of one proof, one behind the other: ShQ, AppIn, RowIn, LjA. No condition but each one's own. -/
import Derived.Test.YteeclfejgpgooaaDoorLogPlaysM7
import Derived.Test.YteeclfejgpgooaaDoorLogPlaysM15
import Derived.Test.YteeclfejgpgooaaDoorLogPlaysM1
import Derived.Test.YteeclfejgpgooaaDoorLogPlaysM6
import Derived.OwnWalkIn
import Derived.TacticsInMore
import Derived.Test.YteeclfejgpgooaaDoorLogPlaysM4
/- slices.Chunk of bytes, where a round may stop it. No condition but that there is a byte and room. -/
namespace Go.Proofs.YteeclfejgpgooaaDoor
set_option linter.unusedVariables false
set_option linter.unusedSimpArgs false
set_option linter.constructorNameAsVariable false
open Go.RowKit Go.Maps Go.Sort
attribute [local go_sem] Oper.semAt_some

set_option maxHeartbeats 2000000 in
set_option maxRecDepth 100000 in
theorem chunk1_givesQ (g o N c size bx1 bx2 : Nat) (w : World) (hB1 : Blk w bx1 43 #[.slice (some ⟨g, o, none⟩) N c]) (hB2 : Blk w bx2 3 #[.int .i64 (size : Int)]) (h1 : 1 ≤ size) (hs : size ≤ 1000) (hN : N ≤ 1000000000) (hc : N ≤ c) (hcm : c ≤ maxLen) :
    GivesQ (fun pre k => k = pre.length) Tryd.prog 74 #[.pointer (some ⟨bx1, 0, none⟩), .pointer (some ⟨bx2, 0, none⟩)] (fun k : Nat => #[chV g o N size k]) (fun _ _ => True) (KpC bx1 bx2) (fun xs => xs = List.range (chN N size)) (chN N size) w := by
  intro l J J' W hW hJ hJ' hY h0
  refine callsIn_wide.2 ?_
  have HB : Hid (Blk W bx1 43 #[.slice (some ⟨g, o, none⟩) N c] ∧ Blk W bx2 3 #[.int .i64 (size : Int)]) := Lib.hid ⟨hW.blk hB1, hW.blk hB2⟩
  have HY := Lib.hid hY
  have HJ := Lib.hid hJ
  have H0 := Lib.hid h0
  clear hY hJ hJ' hW hB1 hB2 h0
  show Calls Tryd.prog 74 #[.func (.yield l) #[] #[], .pointer (some ⟨bx1, 0, none⟩), .pointer (some ⟨bx2, 0, none⟩)] W _
  unfold maxLen at hcm
  go_enter Tryd.func74, Tryd.ntmps74
  go_wp2_with fail
  go_loopw [4] (fun ix wr => ∃ (k i : Nat), k ≤ chN N size ∧ Hid (i = k * size) ∧ ix = .int .i64 i ∧ i ≤ N + 1000 ∧ Hid (J (List.range k) wr) ∧ Hid (Blk wr bx1 43 #[.slice (some ⟨g, o, none⟩) N c] ∧ Blk wr bx2 3 #[.int .i64 (size : Int)])) (fun ix _ => (N : Int).toNat + 1000 - (intOf ix).toNat)
  case atStart => exact ⟨0, 0, Nat.zero_le _, Lib.hid (by omega), rfl, by omega, H0, HB⟩
  case round =>
    clear H0 HB
    obtain ⟨k, i, hk, HI, rfl, hi, HJk, HBk⟩ := hrel
    have c1 : wr.cell? ⟨bx1, 0, none⟩ = some (.slice (some ⟨g, o, none⟩) N c) := HBk.out.1.cell 0
    have c2 : wr.cell? ⟨bx2, 0, none⟩ = some (.int .i64 (size : Int)) := HBk.out.2.cell 0
    have hi0 : (0 : Int) ≤ (i : Int) := by omega
    by_cases hlt : i < N
    · have HKL : Hid (k < chN N size) := Lib.hid ((chN_lt h1).2 (by rw [← HI.out]; exact hlt))
      have hci : ¬ c = i := by omega
      have hiN : i ≤ N := by omega
      obtain ⟨r, hr⟩ : ∃ r, r = N - i := ⟨_, rfl⟩
      have hr2 : N - i = r := hr.symm
      have hrN : i + r = N := by omega
      have q1 := cell_regrown c1
      have q2 := cell_regrown c2
      by_cases hsz : size ≤ r
      · obtain ⟨j, hj⟩ : ∃ j, j = i + size := ⟨_, rfl⟩
        have d1 : (size : Int) ≤ (r : Int) := by omega
        have d2 : ¬ ((r : Int) < (size : Int)) := by omega
        have m1 : min (size : Int) (r : Int) = (size : Int) := by omega
        have e1 : (i : Int) + (size : Int) = (j : Int) := by omega
        have e2 : j - i = size := by omega
        have e3 : ¬ j = i := by omega
        have e4 : i ≤ j := by omega
        have e5 : (j : Int) ≤ (c : Int) := by omega
        have HCV : Hid (chV g o N size k = .slice (some ⟨g, o + i, none⟩) size size) := Lib.hid (by unfold chV; rw [← HI.out, Nat.min_eq_left (by omega)])
        have hjj : j ≤ N := by omega
        have HJJ : Hid (j = (k + 1) * size) := Lib.hid (by rw [hj, HI.out, Nat.succ_mul])
        clear hj hr hrN
        go_wp2_with fail
        refine wp_region_quiet_below (by kernel_rfl) (by kernel_rfl) ?_
        repeat (quiet_step (fail))
        refine wpQuiet_nil ?_
        intro _ hw'
        obtain ⟨⟨dq, osq⟩, hw''⟩ := hw'
        obtain ⟨Wq, hWq⟩ : ∃ Wq, Wq = grow (redrawn wr dq) osq := ⟨_, rfl⟩
        have HNq : Hid (New wr Wq) := Lib.hid (by rw [hWq]; exact below_regrown _ dq osq)
        rw [hw'', ← hWq]
        clear hw'' hWq q1 q2
        have c1q : Wq.cell? ⟨bx1, 0, none⟩ = some (.slice (some ⟨g, o, none⟩) N c) := HNq.out.cell_ c1
        have c2q : Wq.cell? ⟨bx2, 0, none⟩ = some (.int .i64 (size : Int)) := HNq.out.cell_ c2
        clear c1 c2
        go_upto_region 4 with fail
        refine (wpIn_wide (n := 3)).1 ?_
        obtain ⟨fn, tmps, asg, bo, hy, hR⟩ := HY.out (List.range k) k Wq (by rw [List.length_range]; exact HKL.out) (HJ.out _ _ _ HJk.out HNq.out) trivial (by rw [List.length_range])
        rw [HCV.out] at hy
        have HR := Lib.hid hR
        clear hR
        gi_wp2
        refine HR.out.mono ?_
        rintro e w3 hsay
        rcases hsay with ⟨rfl, hJ3, hK3⟩ | ⟨rfl, hJ3⟩
        rotate_left
        · have HJ3 := Lib.hid hJ3
          clear hJ3 HR hy c1q c2q
          gi_wp2
          try go_wp2_with fail
          refine bodyPost_ret (results_none rfl _ _ _) rfl ?_
          exact ⟨⟨_, rfl⟩, .inr HJ3.out⟩
        have HJ3 := Lib.hid hJ3
        have HB3 : Hid (Blk w3 bx1 43 #[.slice (some ⟨g, o, none⟩) N c] ∧ Blk w3 bx2 3 #[.int .i64 (size : Int)]) := Lib.hid ⟨hK3.1.trans (HNq.out.blk HBk.out.1), hK3.2.trans (HNq.out.blk HBk.out.2)⟩
        have c23 : w3.cell? ⟨bx2, 0, none⟩ = some (.int .i64 (size : Int)) := HB3.out.2.cell 0
        clear hJ3 hK3 HR hy c1q c2q
        gi_wp2
        try go_wp2_with fail
        go_roundw
        case rel => exact ⟨k + 1, j, HKL.out, HJJ, rfl, by omega, Lib.hid (by rw [List.range_succ]; exact HJ3.out), HB3⟩
        case measure => simp [intOf]; omega
      · obtain ⟨j, hj⟩ : ∃ j, j = i + size := ⟨_, rfl⟩
        have d1 : ¬ (size : Int) ≤ (r : Int) := by omega
        have d2 : (r : Int) < (size : Int) := by omega
        have m1 : min (size : Int) (r : Int) = (r : Int) := by omega
        have e1 : (i : Int) + (size : Int) = (j : Int) := by omega
        have e2 : (i : Int) + (r : Int) = (N : Int) := by omega
        have e3 : ¬ N = i := by omega
        have e5 : (N : Int) ≤ (c : Int) := by omega
        have HCV : Hid (chV g o N size k = .slice (some ⟨g, o + i, none⟩) r r) := Lib.hid (by unfold chV; rw [← HI.out, ← hr, Nat.min_eq_right (by omega)])
        have hjj : j ≤ N + 1000 := by omega
        have HJJ : Hid (j = (k + 1) * size) := Lib.hid (by rw [hj, HI.out, Nat.succ_mul])
        clear hj hr hrN
        go_wp2_with fail
        refine wp_region_quiet_below (by kernel_rfl) (by kernel_rfl) ?_
        repeat (quiet_step (fail))
        refine wpQuiet_nil ?_
        intro _ hw'
        obtain ⟨⟨dq, osq⟩, hw''⟩ := hw'
        obtain ⟨Wq, hWq⟩ : ∃ Wq, Wq = grow (redrawn wr dq) osq := ⟨_, rfl⟩
        have HNq : Hid (New wr Wq) := Lib.hid (by rw [hWq]; exact below_regrown _ dq osq)
        rw [hw'', ← hWq]
        clear hw'' hWq q1 q2
        have c1q : Wq.cell? ⟨bx1, 0, none⟩ = some (.slice (some ⟨g, o, none⟩) N c) := HNq.out.cell_ c1
        have c2q : Wq.cell? ⟨bx2, 0, none⟩ = some (.int .i64 (size : Int)) := HNq.out.cell_ c2
        clear c1 c2
        go_upto_region 4 with fail
        refine (wpIn_wide (n := 3)).1 ?_
        obtain ⟨fn, tmps, asg, bo, hy, hR⟩ := HY.out (List.range k) k Wq (by rw [List.length_range]; exact HKL.out) (HJ.out _ _ _ HJk.out HNq.out) trivial (by rw [List.length_range])
        rw [HCV.out] at hy
        have HR := Lib.hid hR
        clear hR
        gi_wp2
        refine HR.out.mono ?_
        rintro e w3 hsay
        rcases hsay with ⟨rfl, hJ3, hK3⟩ | ⟨rfl, hJ3⟩
        rotate_left
        · have HJ3 := Lib.hid hJ3
          clear hJ3 HR hy c1q c2q
          gi_wp2
          try go_wp2_with fail
          refine bodyPost_ret (results_none rfl _ _ _) rfl ?_
          exact ⟨⟨_, rfl⟩, .inr HJ3.out⟩
        have HJ3 := Lib.hid hJ3
        have HB3 : Hid (Blk w3 bx1 43 #[.slice (some ⟨g, o, none⟩) N c] ∧ Blk w3 bx2 3 #[.int .i64 (size : Int)]) := Lib.hid ⟨hK3.1.trans (HNq.out.blk HBk.out.1), hK3.2.trans (HNq.out.blk HBk.out.2)⟩
        have c23 : w3.cell? ⟨bx2, 0, none⟩ = some (.int .i64 (size : Int)) := HB3.out.2.cell 0
        clear hJ3 hK3 HR hy c1q c2q
        gi_wp2
        try go_wp2_with fail
        go_roundw
        case rel => exact ⟨k + 1, j, HKL.out, HJJ, rfl, by omega, Lib.hid (by rw [List.range_succ]; exact HJ3.out), HB3⟩
        case measure => simp [intOf]; omega
    · have hk' : k = chN N size := by
        rcases Nat.lt_or_ge k (chN N size) with h | h
        · have := (chN_lt (N := N) h1).1 h
          rw [← HI.out] at this
          omega
        · omega
      subst hk'
      go_wp2_with fail
      go_end0
      exact ⟨⟨_, rfl⟩, .inl ⟨_, rfl, HJk.out⟩⟩
end Go.Proofs.YteeclfejgpgooaaDoor
/- An append in a round of a range over a function. No condition. -/
namespace Go.Proofs.YteeclfejgpgooaaDoor
set_option linter.unusedVariables false
set_option linter.unusedSimpArgs false
set_option linter.constructorNameAsVariable false
open Go.RowKit

theorem wpListIn_app {F : Fence} {n' : Nat} {P : Program} {t e : TypeId} {size bytes : Nat} (E : ElemOf P t e size bytes) (w : World) {ops : Array Oper} {rest : List Oper} {o : Oper} {a : Act} {Q : Exit → Act → World → Prop} (hgd : o.guard = none) (s x : Operand)
    (ho : o.op = .call { callee := .builtin .append, args := #[s, x], argTypes := #[t, t] })
    (base : Nat) (v : Value) (n : Nat) (xs : List Value) (hs : a.eval s = v) (hown : w.ownsRow base e size v n xs)
    {p : Nat → Prop} (X : Option Addr) (m c : Nat) (news : List Value) (hx : a.eval x = .slice X m c) (hr : Rd p w size X m news) (h1 : ∀ u ∈ news, u.oneCell' = true)
    (h63 : n + m ≤ maxLen) (hbytes : (n + m) * bytes ≤ 140737488355328) (hbase : base ≤ w.heap.size)
    (h : ∀ A' c' w', w'.ownsRow base e size (.slice A' (n + m) c') (n + m) (xs ++ news) → Fr (fun k => v.ownBlock = some k) w w' →
      (∀ k, (Value.slice A' (n + m) c').ownBlock = some k → v.ownBlock = some k ∨ w.heap.size ≤ k) → wpListIn F n' P ops Q rest (a.put o.dst (.slice A' (n + m) c')) w') : wpListIn F n' P ops Q (o :: rest) a w := by
  refine wpListIn_plain hgd fun K hK' => ?_
  obtain ⟨A', c', w', hrun, h2, h3, h4⟩ := run_app E w base o.type v n xs hown X m c news hr h1 h63 hbytes hbase
  unfold Oper.wpIn
  refine ⟨?_, ?_⟩
  · simp [Oper.about, ho, resolve, Target.leads, Sem.run_pure]
  · rw [Oper.semAt_plain F _ _ (by rw [ho]; intro c hc'; cases hc')]
    simp [execOp, ho, resolve, invoke, builtin, hs, hx, hrun, Result.andThen]
    exact hK' _ _ (h A' c' w' h2 h3 h4)
/-- A slice of one element of one cell, made in a round. -/
theorem wpListIn_bs1v {F : Fence} {n' : Nat} {P : Program} {t e : TypeId} {bytes : Nat} (E : ElemOf P t e 1 bytes) {ops : Array Oper} {rest : List Oper} {o : Oper} {a : Act} {w : World} {Q : Exit → Act → World → Prop} (hgd : o.guard = none) (x : Operand)
    (ho : o.op = .buildSlice t 1 #[(0, x)]) (v : Value) (hx : a.eval x = v) (hv : v.cells.size = 1)
    (h : ∀ g w', Blk w' g e v.cells → New w w' → w.heap.size ≤ g → wpListIn F n' P ops Q rest (a.put o.dst (.slice (some ⟨g, 0, none⟩) 1 1)) w') : wpListIn F n' P ops Q (o :: rest) a w := by
  refine wpListIn_plain hgd fun K hK' => ?_
  unfold Oper.wpIn
  refine ⟨?_, ?_⟩
  · simp [Oper.about, ho]
  · rw [Oper.semAt_plain F _ _ (by rw [ho]; intro c hc'; cases hc')]
    simp only [execOp, ho, Sem.run_bind, List.map_toArray, List.map_cons, List.map_nil, hx, run_bs1 E (by decide) v hv w, Result.andThen_ok]
    exact hK' _ _ (h _ _ (Blk.new _ _ _) (New.al (New.refl _) _) (Nat.le_refl _))
end Go.Proofs.YteeclfejgpgooaaDoor
/- A row made and a row stored, in a round of a range over a function. No condition. -/
namespace Go.Proofs.YteeclfejgpgooaaDoor
set_option linter.unusedVariables false
set_option linter.unusedSimpArgs false
set_option linter.constructorNameAsVariable false
open Go.RowKit

theorem wpListIn_alloc_row {F : Fence} {n' : Nat} {P : Program} {ops : Array Oper} {rest : List Oper} {o : Oper} {a : Act} {w : World} {Q : Exit → Act → World → Prop} {T : TypeId} {n : Nat} {zs : Array Value} (hgd : o.guard = none) (ho : o.op = .alloc T) (hZ : (P.info? T).map (fun i => (i.zero, i.size)) = some (some (.agg zs), n))
    (h : ∀ b w', b = w.heap.size → Blk w' b T zs → New w w' → wpListIn F n' P ops Q rest (a.put o.dst (.pointer (some ⟨b, 0, none⟩))) w') : wpListIn F n' P ops Q (o :: rest) a w := by
  obtain ⟨z1, z2⟩ := zero_of_info hZ
  refine wpListIn_plain hgd fun K hK' => ?_
  have hal : (Instr.alloc T true (.tuple #[])).run P w = .ok (.pointer (some ⟨w.heap.size, 0, none⟩)) (w.alloc (.cells zs T)) := by
    unfold Instr.alloc
    simp [Sem.run_bind, z1 w, newVar, newRow, go_sem, Result.andThen, Value.cells]
  unfold Oper.wpIn
  refine ⟨?_, ?_⟩
  · simp [Oper.about, ho]
  · rw [Oper.semAt_plain F _ _ (by rw [ho]; intro c hc'; cases hc')]
    simp only [execOp, ho, hal, Result.andThen_ok, Sem.run_bind, Sem.run_pure]
    exact hK' _ _ (h _ _ rfl (Blk.new _ _ _) (New.al (New.refl _) _))
theorem wpListIn_store_any {F : Fence} {n' : Nat} {P : Program} {ops : Array Oper} {rest : List Oper} {o : Oper} {a : Act} {w : World} {Q : Exit → Act → World → Prop} {T : TypeId} {g : Nat} {cs0 cs : Array Value} (hgd : o.guard = none) (x y : Operand) (ho : o.op = .store T x y) (hi : (P.info? T).map (·.size) = some cs.size) (hx : a.eval x = .pointer (some ⟨g, 0, none⟩)) (hy : a.eval y = .agg cs) (hb : Blk w g T cs0) (h0 : cs0.size = cs.size) (h1 : cs.all (·.oneCell') = true)
    (h : ∀ w', Blk w' g T cs → Fr (fun k => k = g) w w' → wpListIn F n' P ops Q rest (a.put o.dst undef) w') : wpListIn F n' P ops Q (o :: rest) a w := by
  refine wpListIn_plain hgd fun K hK' => ?_
  obtain ⟨r1, r2⟩ := setRow_blk (cs' := cs) hb
  unfold Oper.wpIn
  refine ⟨?_, ?_⟩
  · simp [Oper.about, ho]
  · rw [Oper.semAt_plain F _ _ (by rw [ho]; intro c hc'; cases hc')]
    simp only [execOp, ho, hx, hy, Instr.storeAt, Instr.sureAddr, Sem.run_bind, Sem.run_pure, Result.andThen_ok, run_storeVar_row w g T T cs0 cs hb hi h0 h1]
    exact hK' _ _ (h _ r1 r2)
end Go.Proofs.YteeclfejgpgooaaDoor
/- A frame written, sector by sector. No condition but that there is room. -/
namespace Go.Proofs.YteeclfejgpgooaaDoor
set_option linter.unusedVariables false
set_option linter.unusedSimpArgs false
set_option linter.constructorNameAsVariable false
open Go.RowKit Go.Sort Go.Maps
attribute [local go_sem] Oper.semAt_some

theorem Dk.puts {B : Nat} {w w' : World} {base g bs bf : Nat} {v : Value} {p : DP} (h : Dk w base g bs bf v p) (hp : Puts B w w') (h1 : bs < B) (h2 : bf < B) : Dk w' base g bs bf v p :=
  have hF : Fr (fun j => B ≤ j) w w' := hp.fr (fun _ h => h)
  ⟨hp.blk h.blk, h.ms.fr hF (by omega), h.mw.fr hF (by omega), hp.own h.own, h.ne, h.lo, h.ok⟩
theorem DkOurs.is_cells {w : World} {base g bs bf B : Nat} {v : Value} {p : DP} (h : Dk w base g bs bf v p) (hg : g < B) (h1 : bs < B) (h2 : bf < B) : ∀ k o, B ≤ k → DkOurs g bs bf v k → w.heap[k]? = some o → o.isCells = true := by
  rintro k o hk (rfl | rfl | rfl | hs) ho
  · omega
  · omega
  · omega
  · obtain ⟨cs, fz, hc⟩ := own_isT' h.own hs
    rw [hc] at ho
    injection ho with ho
    rw [← ho]
    rfl
theorem Shut.fr {B : Nat} {W W' : World} (h : Shut B W W') : Fr (fun k => B ≤ k ∧ ∀ o, W.heap[k]? = some o → o.isCells = false) W W' :=
  ⟨h.below.os, h.below.tape, h.below.output, h.below.size, fun k hk hs => by
    by_cases hb : k < B
    · exact h.below.block k hb
    · obtain ⟨o, ho⟩ : ∃ o, W.heap[k]? = some o := ⟨_, Array.getElem?_eq_getElem hk⟩
      cases hc : o.isCells with
      | true => rw [h.cells k o ho hc, ho]
      | false => exact absurd ⟨by omega, fun o' ho' => by rw [ho] at ho'; injection ho' with e; rw [← e]; exact hc⟩ hs⟩
theorem DkTo.shut {B : Nat} {w W W' : World} {base g bs bf : Nat} {v v' : Value} {p : DP} (h : DkTo w base g bs bf v p W v') (hS : Shut B W W') (hB : w.heap.size ≤ B) (hg : g < B) (h1 : bs < B) (h2 : bf < B) : DkTo w base g bs bf v p W' v' :=
  ⟨h.dk.fr hS.fr (fun k hk ho => by
    obtain ⟨o, hko⟩ : ∃ o, W.heap[k]? = some o := ⟨_, Array.getElem?_eq_getElem (h.dk.ours k ho).2⟩
    have := DkOurs.is_cells h.dk hg h1 h2 k o hk.1 ho hko
    rw [hk.2 o hko] at this
    cases this), h.fr.trans' hS.fr (fun k hk ho => by have := ho.1; omega), h.own⟩
theorem writeN_bad {p : DP} {l : LG} {b : List Int} {k : Nat} (h : (writeN p l b k).2 ≠ 0) : ∀ j, writeN p l b (k + j) = writeN p l b k
  | 0 => rfl
  | j + 1 => by
    have ih := writeN_bad h j
    rw [← Nat.add_assoc]
    show (if (writeN p l b (k + j)).2 ≠ 0 then writeN p l b (k + j) else _) = _
    rw [ih, if_pos h]
theorem writeN_go {p : DP} {l : LG} {b : List Int} {k : Nat} (h : (writeN p l b k).2 = 0) : writeN p l b (k + 1) = ((writeN p l b k).1.doWrite ((l.first + l.used + k : Nat) : Int) (l.sec b k), (writeN p l b k).1.wcode ((l.first + l.used + k : Nat) : Int)) := by
  show (if (writeN p l b k).2 ≠ 0 then writeN p l b k else _) = _
  rw [if_neg (by rw [h]; simp)]
theorem DkTo.st {w W W' : World} {base g bs bf : Nat} {v v' : Value} {p : DP} (h : DkTo w base g bs bf v p W v') {b : Nat} (hF : Fr (fun k => k = b) W W') (hb : w.heap.size ≤ b) (hn : ¬ DkOurs g bs bf v' b) : DkTo w base g bs bf v p W' v' :=
  ⟨h.dk.fr hF (fun k hk => by rw [hk]; exact hn), h.fr.trans' hF (fun k hk ho => by omega), h.own⟩
theorem atOpIn {F : Fence} {n : Nat} {P : Program} {ops : Array Oper} {rest : List Oper} {a : Act} {w : World} {Q : Exit → Act → World → Prop} (o : Oper) (h : wpListIn F n P ops Q (o :: rest) a w) : wpListIn F n P ops Q (o :: rest) a w := h
/-- What a round of write knows: where it is, the boxes. -/
structure WrI (w w3 : World) (base gl g bs bf : Nat) (v : Value) (p : DP) (l : LG) (b : List Int) (b2 b4 b5 b6 k : Nat) (W : World) : Prop where
  ok : (writeN p l b k).2 = 0
  dk : ∃ v', DkTo w base g bs bf v (writeN p l b k).1 W v' ∧ ∀ x, v'.ownBlock = some x → x < w.heap.size ∨ w3.heap.size ≤ x
  sz : w3.heap.size ≤ W.heap.size
  b2 : Blk W b2 39 #[.pointer (some ⟨gl, 0, none⟩)]
  b4 : Blk W b4 27 #[.nilIface]
  b5 : Blk W b5 3 #[.int .i64 ((l.used + k : Nat) : Int)]
  b6 : Blk W b6 3 #[.int .i64 (if k = 0 then 1 else 2)]
section
variable {w w3 : World} {base gl g bs bf : Nat} {v : Value} {p : DP} {l : LG} {b : List Int} {b2 b4 b5 b6 k : Nat}
theorem WrI.new {W W' : World} (h : WrI w w3 base gl g bs bf v p l b b2 b4 b5 b6 k W) (hN : New W W') : WrI w w3 base gl g bs bf v p l b b2 b4 b5 b6 k W' := by
  obtain ⟨v', h1, h2⟩ := h.dk
  exact ⟨h.ok, ⟨v', h1.new hN, h2⟩, Nat.le_trans h.sz hN.size, hN.blk h.b2, hN.blk h.b4, hN.blk h.b5, hN.blk h.b6⟩
theorem WrI.puts {W W' : World} (h : WrI w w3 base gl g bs bf v p l b b2 b4 b5 b6 k W) (hp : Puts w3.heap.size W W') (hz : w.heap.size ≤ w3.heap.size) (h1 : bs < w.heap.size) (h2 : bf < w.heap.size) : WrI w w3 base gl g bs bf v p l b b2 b4 b5 b6 k W' := by
  obtain ⟨v', h3, h4⟩ := h.dk
  have hF : Fr (fun j => w3.heap.size ≤ j) W W' := hp.fr (fun _ h => h)
  exact ⟨h.ok, ⟨v', ⟨h3.dk.puts hp (by omega) (by omega), h3.fr.trans' hF (fun k hk ho => by omega), h3.own⟩, h4⟩, Nat.le_trans h.sz hF.size, hp.blk h.b2, hp.blk h.b4, hp.blk h.b5, hp.blk h.b6⟩
end
/-- What is known where a round of write has returned. -/
structure WrE (w w3 : World) (base g bs bf : Nat) (v : Value) (r : DP × Int) (b4 : Nat) (W : World) : Prop where
  dk : ∃ v', DkTo w base g bs bf v r.1 W v' ∧ ∀ x, v'.ownBlock = some x → x < w.heap.size ∨ w3.heap.size ≤ x
  sz : w3.heap.size ≤ W.heap.size
  b4 : Blk W b4 27 #[errD r.2]
section
variable {w w3 : World} {base g bs bf : Nat} {v : Value} {r : DP × Int} {b4 : Nat}
theorem WrE.new {W W' : World} (h : WrE w w3 base g bs bf v r b4 W) (hN : New W W') : WrE w w3 base g bs bf v r b4 W' := by
  obtain ⟨v', h1, h2⟩ := h.dk
  exact ⟨⟨v', h1.new hN, h2⟩, Nat.le_trans h.sz hN.size, hN.blk h.b4⟩
theorem WrE.puts {W W' : World} (h : WrE w w3 base g bs bf v r b4 W) (hp : Puts w3.heap.size W W') (hz : w.heap.size ≤ w3.heap.size) (h1 : bs < w.heap.size) (h2 : bf < w.heap.size) : WrE w w3 base g bs bf v r b4 W' := by
  obtain ⟨v', h3, h4⟩ := h.dk
  have hF : Fr (fun j => w3.heap.size ≤ j) W W' := hp.fr (fun _ h => h)
  exact ⟨⟨v', ⟨h3.dk.puts hp (by omega) (by omega), h3.fr.trans' hF (fun k hk ho => by omega), h3.own⟩, h4⟩, Nat.le_trans h.sz hF.size, hp.blk h.b4⟩
end
theorem part_sec (l : LG) (b : List Int) (k : Nat) : pad64 (beL 4 l.gen ++ beL 4 (l.used + k) ++ beL 1 (if k = 0 then 1 else 2) ++ ((l.frame b).drop (55 * k)).take 55) = l.sec b k := by
  unfold LG.sec LG.raw LG.hdr
  congr 1
  congr 1
  congr 1
  split <;> rfl
set_option maxHeartbeats 4000000 in
set_option maxRecDepth 100000 in
theorem write_log {w : World} {base gl gd bs bf : Nat} {v : Value} {p : DP} {l : LG} (h : Lg w gl gd l p.size) (hD : Dk w base gd bs bf v p) (b : List Int) (hb : Byt b) (g o N c K : Nat) (hN : N = (l.frame b).length) (hc : N ≤ c) (hcm : c ≤ maxLen) (hN1 : N ≤ 1000000000) (hK : K = chN N 55) (hroom : l.used + K ≤ l.size)
    (hg : IsT 5 w g) (hR : ∀ j x, (u8s (l.frame b))[j]? = some x → w.cell? ⟨g, o + j, none⟩ = some x) :
    Calls Tryd.prog 50 #[.pointer (some ⟨gl, 0, none⟩), .slice (some ⟨g, o, none⟩) N c] w (WipeSays w base gd bs bf v (writeN p l b K)) := by
  have HLG := Lib.hid h
  have HD := Lib.hid hD
  have HB := Lib.hid hb
  have HNN := Lib.hid hN
  have HKK := Lib.hid hK
  have HCC : Hid (N ≤ c ∧ c ≤ maxLen ∧ N ≤ 1000000000) := Lib.hid ⟨hc, hcm, hN1⟩
  have HRM := Lib.hid hroom
  have HG := Lib.hid hg
  have HR := Lib.hid hR
  have c4 := fun o1 o2 => (New.al (New.al (New.refl w) o1) o2).cell_ h.c4
  have hu := h.ok.used
  clear h hD hb hN hK hc hcm hN1 hroom hg hR
  refine (callsIn_wide (n := 3)).1 ?_
  refine callsIn_of_wp_marks Tryd.func50 rfl trivial ?_ rfl
  refine wpIn_wide.2 ?_
  simp only [Tryd.ntmps50, List.size_toArray, List.length_cons, List.length_nil, Nat.reduceAdd, Nat.reduceSub, Array.replicate_succ, Array.replicate_zero, List.push_toArray, List.append_toArray, List.nil_append, List.cons_append]
  go_upto_region 2 with fail
  obtain ⟨w1, hw1⟩ : ∃ w1 : World, w1 = ((((w.alloc (.cells #[.pointer (some ⟨gl, 0, none⟩)] 39)).alloc (.cells #[.nilIface] 27)).alloc (.cells #[.int .i64 l.used] 3)).alloc (.cells #[.int .i64 1] 3)) := ⟨_, rfl⟩
  obtain ⟨b2, hb2⟩ : ∃ b2, b2 = w.heap.size := ⟨_, rfl⟩
  obtain ⟨b4, hb4⟩ : ∃ b4, b4 = w.heap.size + 1 := ⟨_, rfl⟩
  obtain ⟨b5, hb5⟩ : ∃ b5, b5 = w.heap.size + 1 + 1 := ⟨_, rfl⟩
  obtain ⟨b6, hb6⟩ : ∃ b6, b6 = w.heap.size + 1 + 1 + 1 := ⟨_, rfl⟩
  have HN1 : Hid (New w w1) := Lib.hid (by rw [hw1]; exact New.al (New.al (New.al (New.al (New.refl _) _) _) _) _)
  have HB2 : Hid (Blk w1 b2 39 #[.pointer (some ⟨gl, 0, none⟩)]) := Lib.hid (by rw [hw1, hb2]; exact (((Blk.new _ _ _).alloc _).alloc _).alloc _)
  have HB4 : Hid (Blk w1 b4 27 #[.nilIface]) := Lib.hid (by rw [hw1, hb4]; exact ((Blk.new' _ _ _ (by simp)).alloc _).alloc _)
  have HB5 : Hid (Blk w1 b5 3 #[.int .i64 ((l.used + 0 : Nat) : Int)]) := Lib.hid (by rw [hw1, hb5]; exact (Blk.new' _ _ _ (by simp)).alloc _)
  have HB6 : Hid (Blk w1 b6 3 #[.int .i64 (if (0 : Nat) = 0 then 1 else 2)]) := Lib.hid (by rw [hw1, hb6]; exact Blk.new' _ _ _ (by simp))
  have HZ : Hid (b2 = w.heap.size ∧ b4 = w.heap.size + 1 ∧ b5 = w.heap.size + 2 ∧ b6 = w.heap.size + 3 ∧ w1.heap.size = w.heap.size + 4) := Lib.hid ⟨hb2, hb4, hb5, hb6, by rw [hw1]; simp⟩
  rw [← hw1, ← hb6, ← hb5, ← hb4, ← hb2]
  clear hw1 hb2 hb4 hb5 hb6 c4
  go_wp2_with fail
  refine (chunk_any (some ⟨g, o, none⟩) N c 55 (by decide) (by decide) w1).mono ?_
  rintro e w3 ⟨rfl, hw3⟩
  have HN3 : Hid (New w1 w3) := Lib.hid (by rw [hw3]; exact New.al (New.al (New.refl _) _) _)
  have hgv := chunk1_givesQ g o N c 55 w1.heap.size (w1.heap.size + 1) w3 (by rw [hw3]; exact (Blk.new _ _ _).alloc _) (by rw [hw3]; exact Blk.new' _ _ _ (by simp)) (by decide) (by decide) HCC.out.2.2 HCC.out.1 HCC.out.2.1
  have hz3 : w3.heap.size = w1.heap.size + 2 := by rw [hw3]; simp
  have HGV := Lib.hid hgv
  have HZ3 := Lib.hid hz3
  have HLT : Hid (gd < w.heap.size ∧ bs < w.heap.size ∧ bf < w.heap.size ∧ gl < w.heap.size ∧ g < w.heap.size) := Lib.hid ⟨HD.out.blk.lt, HD.out.ms.lt, HD.out.mw.lt, HLG.out.blk.lt, by obtain ⟨cs, fz, hc⟩ := HG.out; exact (Array.getElem?_eq_some_iff.1 hc).1⟩
  have HW3 : Hid (WrI w w3 base gl gd bs bf v p l b b2 b4 b5 b6 0 w3) := Lib.hid
    ⟨rfl, ⟨v, DkTo.same HD.out (HN1.out.tr HN3.out), fun x hx => .inl (HD.out.ours x (.inr (.inr (.inr hx)))).2⟩, Nat.le_refl _, HN3.out.blk HB2.out, HN3.out.blk HB4.out, HN3.out.blk HB5.out, HN3.out.blk HB6.out⟩
  have HLE : Hid (w.heap.size ≤ w3.heap.size) := Lib.hid (by have := HZ.out; omega)
  clear hw3 hgv hz3 HB2 HB4 HB5 HB6
  go_wp2_with fail
  refine wp_rangeQ rfl (enters_of Tryd.func74 (by kernel_rfl) rfl) (fun k : Nat => #[chV g o N 55 k]) (fun _ => rfl) HGV.out (fun x W W' hg hp => trivial) (fun h k => h.tr k) (fun W W' hp => KpC.puts hp (by have := HZ3.out; omega) (by have := HZ3.out; omega))
    (fun pre W => WrI w w3 base gl gd bs bf v p l b b2 b4 b5 b6 pre.length W) (fun s A B h hN => h.new hN) (fun s A B h hp => h.puts hp HLE.out HLT.out.2.1 HLT.out.2.2.1) HW3.out
    (fun W => ∃ k, k < K ∧ (writeN p l b (k + 1)).2 ≠ 0 ∧ WrE w w3 base gd bs bf v (writeN p l b (k + 1)) b4 W) (fun A B ⟨k, h1, h2, h3⟩ hN => ⟨k, h1, h2, h3.new hN⟩) (fun A B ⟨k, h1, h2, h3⟩ hp => ⟨k, h1, h2, h3.puts hp HLE.out HLT.out.2.1 HLT.out.2.2.1⟩) ?a1 ?assign ?body ?done ?ret
  case assign =>
    intro l x W K hK
    gi_wp2
    exact hK
  case body =>
    rintro lp pre k W hpl hI hG rfl
    obtain ⟨k, hk⟩ : ∃ k, k = pre.length := ⟨_, rfl⟩
    rw [← hk] at hpl hI ⊢
    have HKP : Hid (pre.length = k) := Lib.hid hk.symm
    have HKK2 : Hid (k < K ∧ k * 55 < N) := Lib.hid ⟨by rw [HKK.out]; exact hpl, (chN_lt (by decide)).1 hpl⟩
    obtain ⟨v', hTo, hOw⟩ := hI.dk
    have HI := Lib.hid hI
    have HTO := Lib.hid hTo
    have HOW := Lib.hid hOw
    obtain ⟨m, hm⟩ : ∃ m, m = min 55 (N - k * 55) := ⟨_, rfl⟩
    have hcv : chV g o N 55 k = .slice (some ⟨g, o + k * 55, none⟩) m m := by unfold chV; rw [← hm]
    rw [hcv]
    obtain ⟨pt, hpt⟩ : ∃ pt, pt = ((l.frame b).drop (55 * k)).take 55 := ⟨_, rfl⟩
    have HPT : Hid (pt.length = m ∧ m ≤ 55 ∧ Byt pt) := Lib.hid ⟨by rw [hpt, List.length_take, List.length_drop, ← HNN.out, hm, Nat.mul_comm], by omega, by
      rw [hpt]
      intro x hx
      exact l.frame_byt HB.out x (List.mem_of_mem_drop (List.mem_of_mem_take hx))⟩
    have HRP : Hid (Rd (fun _ => True) W 1 (some ⟨g, o + k * 55, none⟩) m (u8s pt)) := Lib.hid ⟨by rw [u8s_len, HPT.out.1, Nat.mul_one], fun _ => ⟨_, rfl, trivial, by have h1 := hTo.fr.size; have h2 := HLT.out; show g < _; omega, fun j u hu => by
      have hj := (List.getElem?_eq_some_iff.1 hu).1
      rw [u8s_len, HPT.out.1] at hj
      have e : (⟨g, o + k * 55, none⟩ : Addr).add j = ⟨g, o + (k * 55 + j), none⟩ := by
        unfold Addr.add
        by_cases hj0 : j = 0 <;> simp [hj0, Nat.add_assoc]
      rw [e]
      refine hTo.fr.cell_some (HR.out _ _ ?_) (dk_notT HD.out (by decide) (by decide) g · HG.out)
      rw [← hu, hpt]
      unfold u8s
      rw [List.getElem?_map, List.getElem?_map, List.getElem?_take_of_lt (by omega), List.getElem?_drop, Nat.mul_comm]⟩⟩
    obtain ⟨kd, hkd⟩ : ∃ kd : Nat, kd = if k = 0 then 1 else 2 := ⟨_, rfl⟩
    obtain ⟨pl, hpl2⟩ : ∃ pl, pl = l.used + k := ⟨_, rfl⟩
    obtain ⟨SL, hSL⟩ : ∃ SL, SL = l.sec b k := ⟨_, rfl⟩
    have HSO : Hid (SecOk SL) := Lib.hid (by rw [hSL]; exact LG.sec_ok l HB.out k)
    have HSL : Hid (SL = l.sec b k) := Lib.hid hSL
    have HSE : Hid (pad64 (beL 4 l.gen ++ beL 4 pl ++ beL 1 kd ++ pt) = SL) := Lib.hid (by rw [hSL, hpl2, hkd, hpt]; exact part_sec l b k)
    have hI5 : Blk W b5 3 #[.int .i64 (pl : Int)] := by rw [hpl2]; exact hI.b5
    have hI6 : Blk W b6 3 #[.int .i64 (kd : Int)] := by
      have e : ((kd : Nat) : Int) = if k = 0 then 1 else 2 := by rw [hkd]; split <;> rfl
      rw [e]
      exact hI.b6
    have HI5 := Lib.hid hI5
    have HI6x := Lib.hid hI6
    have c2 := hI.b2.cell 0
    have c5 := hI5.cell 0
    have c6 := hI6.cell 0
    have HPL : Hid (pl = l.used + k ∧ kd < 256 ∧ pl < 4294967296) := Lib.hid ⟨hpl2, by rw [hkd]; split <;> decide, by have h1 := HRM.out; have h2 := HKK2.out; have h3 := HLG.out.ok.fit; have h4 := HD.out.ok.s2; omega⟩
    have HLGW : Hid (Lg W gl gd l p.size) := Lib.hid (HLG.out.fr hTo.fr (lg_apart HD.out HLG.out))
    clear hTo hOw hI hcv hk hpl hm hpt hkd hpl2 hSL hI5 hI6 hG
    gi_wp2
    refine ⟨trivial, ?_⟩
    refine (CallsIn.inRound lp (callsIn_wide.2 (sector_any HLGW.out pl kd HPL.out.2.2 HPL.out.2.1 (some ⟨g, o + k * 55, none⟩) m m pt HRP.out HPT.out.2.2 HPT.out.2.1))).mono ?_
    rintro e W4 ⟨rfl, hN4⟩
    rw [HSE.out]
    obtain ⟨SA, hSA⟩ : ∃ SA, SA = secA SL := ⟨_, rfl⟩
    have HSA : Hid (SA = secA SL ∧ SA.size = 64 ∧ SA.all (·.oneCell') = true) := Lib.hid (by rw [hSA]; exact ⟨rfl, by rw [secA_size, HSO.out.1], secA_one _⟩)
    rw [← hSA]
    have HN4 : Hid (New W W4) := Lib.hid hN4
    clear hSA hN4 c2 c5 c6
    gi_wp2_with (first
      | ((with_reducible refine atOpIn ⟨some 8, .alloc _, _, _, _, _⟩ ?_); refine wpListIn_alloc_row rfl rfl secInfo ?_; intro b8 W5 hb8 hB8 hN5; have HB8 := Lib.hid hB8; have HN5 := Lib.hid hN5; have HZ8 := Lib.hid hb8; clear hb8 hB8 hN5)
      | ((with_reducible refine atOpIn ⟨none, .store 35 _ _, _, _, _, _⟩ ?_); refine wpListIn_store_any rfl (.tmp 8) (.tmp 24) rfl (by rw [HSA.out.2.1]; rfl) rfl rfl HB8.out (by rw [HSA.out.2.1]; rfl) HSA.out.2.2 ?_; intro W6 hB8 hF6; have HB86 := Lib.hid hB8; have HF6 := Lib.hid hF6; clear hB8 hF6))
    have HN6 : Hid (New W W6) := Lib.hid ((HN4.out.tr HN5.out).fr HF6.out (fun k hk => by have := HZ8.out; have := HN4.out.size; omega))
    have HTO6 : Hid (DkTo w base gd bs bf v (writeN p l b k).1 W6 v') := Lib.hid (HTO.out.new HN6.out)
    have HI6 : Hid (WrI w w3 base gl gd bs bf v p l b b2 b4 b5 b6 k W6) := Lib.hid (HI.out.new HN6.out)
    have HLG6 : Hid (Lg W6 gl gd l p.size) := Lib.hid (HLGW.out.new HN6.out)
    have HI56 : Hid (Blk W6 b5 3 #[.int .i64 (pl : Int)]) := Lib.hid (HN6.out.blk HI5.out)
    have HZW : Hid (w3.heap.size ≤ W.heap.size) := Lib.hid HI.out.sz
    have HZ88 : Hid (w3.heap.size ≤ b8) := Lib.hid (by have := HZ8.out; have := HN4.out.size; have := HZW.out; omega)
    obtain ⟨fs, hfs⟩ : ∃ fs, fs = l.first := ⟨_, rfl⟩
    obtain ⟨pa, hpa⟩ : ∃ pa : Int, pa = ((l.first + l.used + k : Nat) : Int) := ⟨_, rfl⟩
    have hpe : (fs : Int) + (pl : Int) = pa := by rw [hfs, hpa, HPL.out.1]; omega
    have hpw : IntKind.i64.wrap ((fs : Int) + (pl : Int)) = pa := by
      rw [IntWalk.i64_in _ (by have h1 := HRM.out; have h2 := HKK2.out; have h3 := HLG.out.ok.fit; have h4 := HD.out.ok.s2; have h5 := HPL.out.1; omega)]
      exact hpe
    have q2 : ∀ p' : HW (fun W' => Blk W' b2 39 #[.pointer (some ⟨gl, 0, none⟩)] ∧ Blk W' b5 3 #[.int .i64 (pl : Int)] ∧ Blk W' b8 35 SA ∧ Lg W' gl gd l p.size), p'.w.cell? ⟨b2, 0, none⟩ = some (.pointer (some ⟨gl, 0, none⟩)) := fun p' => p'.h.1.cell 0
    have q5 : ∀ p' : HW (fun W' => Blk W' b2 39 #[.pointer (some ⟨gl, 0, none⟩)] ∧ Blk W' b5 3 #[.int .i64 (pl : Int)] ∧ Blk W' b8 35 SA ∧ Lg W' gl gd l p.size), p'.w.cell? ⟨b5, 0, none⟩ = some (.int .i64 (pl : Int)) := fun p' => p'.h.2.1.cell 0
    have q0 : ∀ p' : HW (fun W' => Blk W' b2 39 #[.pointer (some ⟨gl, 0, none⟩)] ∧ Blk W' b5 3 #[.int .i64 (pl : Int)] ∧ Blk W' b8 35 SA ∧ Lg W' gl gd l p.size), p'.w.cell? ⟨gl, 0, none⟩ = some (.pointer (some ⟨gd, 0, none⟩)) := fun p' => p'.h.2.2.2.c0
    have q1 : ∀ p' : HW (fun W' => Blk W' b2 39 #[.pointer (some ⟨gl, 0, none⟩)] ∧ Blk W' b5 3 #[.int .i64 (pl : Int)] ∧ Blk W' b8 35 SA ∧ Lg W' gl gd l p.size), p'.w.cell? ⟨gl, 1, none⟩ = some (.int .i64 (fs : Int)) := fun p' => by rw [hfs]; exact p'.h.2.2.2.c1
    have HPA := Lib.hid hpa
    have HB26 : Hid (Blk W6 b2 39 #[.pointer (some ⟨gl, 0, none⟩)]) := Lib.hid HI6.out.b2
    clear hfs hpa hpe
    refine wpIn_region_mixH lp (fun W' => Blk W' b2 39 #[.pointer (some ⟨gl, 0, none⟩)] ∧ Blk W' b5 3 #[.int .i64 (pl : Int)] ∧ Blk W' b8 35 SA ∧ Lg W' gl gd l p.size) [(true, 0), (true, 1), (true, 2), (true, 3), (true, 4), (true, 5), (true, 6), (true, 7), (true, 8), (true, 9), (true, 10), (false, 11), (true, 12)] (by kernel_rfl) (by kernel_rfl) ⟨(New.dr (New.refl W6)).blk HB26.out, (New.dr (New.refl W6)).blk HI56.out, (New.dr (New.refl W6)).blk HB86.out, HLG6.out.new (New.dr (New.refl W6))⟩ (fun hne => ?_)
    iterate 10 (refine mix_take (o := ⟨_, _, _, _, _, _⟩) rfl (fun K hK => ?_); go_simp; refine hK _ ?_; clear hK K)
    refine mix_take_row (o := ⟨_, _, _, _, _, _⟩) (cs := SA.toList) rfl rfl (.tmp 8) rfl rfl (fun W' h => h.2.2.1.rangeOf) Tryd.underlying35 rfl (by rw [Array.length_toList, HSA.out.2.1]; rfl) ?_
    simp only [Act.put, List.setIfInBounds_toArray, List.set_cons_zero, List.set_cons_succ]
    refine mix_act (o := ⟨_, _, _, _, _, _⟩) rfl (fun K hK => ?_) (.inl rfl)
    go_simp
    rw [HSA.out.1]
    refine (write_all (HTO6.out.new (New.dr (New.refl W6))).dk pa HSO.out).mono ?_
    rintro e W7 ⟨rfl, v7, hD7, hF7, hO7⟩
    rw [← HSA.out.1]
    have hTo7 : DkTo W6.drew base gd bs bf v' ((writeN p l b k).1.doWrite pa SL) W7 v7 := ⟨hD7, hF7, hO7⟩
    have hne2 : ¬ DkOurs gd bs bf v' b2 := dk_notBlk HTO6.out.dk HB26.out (fun e => by have := HZ.out; have := HLT.out; omega) (by decide)
    have hne8 : ¬ DkOurs gd bs bf v' b8 := dk_notBlk HTO6.out.dk HB86.out (fun e => by have := HZ88.out; have := HLT.out; have := HLE.out; omega) (by decide)
    have hbox : ∀ x, w.heap.size ≤ x → x < w3.heap.size → ¬ DkOurs gd bs bf v' x := fun x h1 h2 => by
      rintro (ho | ho | ho | ho)
      · have := HLT.out; omega
      · have := HLT.out; omega
      · have := HLT.out; omega
      · rcases HOW.out x ho with h3 | h3 <;> omega
    have hne5 := hbox b5 (by have := HZ.out; omega) (by have := HZ.out; have := HZ3.out; omega)
    have hnel : ¬ DkOurs gd bs bf v' gl := lg_apart HTO6.out.dk (n := p.size) (by exact HLG6.out)
    have hS7 : Blk W7 b2 39 #[.pointer (some ⟨gl, 0, none⟩)] ∧ Blk W7 b5 3 #[.int .i64 (pl : Int)] ∧ Blk W7 b8 35 SA ∧ Lg W7 gl gd l p.size :=
      ⟨((New.dr (New.refl W6)).blk HB26.out).fr hF7 hne2, ((New.dr (New.refl W6)).blk HI56.out).fr hF7 hne5, ((New.dr (New.refl W6)).blk HB86.out).fr hF7 hne8, (HLG6.out.new (New.dr (New.refl W6))).fr hF7 hnel⟩
    have HS7 := Lib.hid hS7
    have HBX := Lib.hid hbox
    have HF67 : Hid (Fr (DkOurs gd bs bf v') W6 W7) := Lib.hid (((New.dr (New.refl W6)).toFr _).trans hF7)
    have HTO7 : Hid (DkTo w base gd bs bf v ((writeN p l b k).1.doWrite pa SL) W7 v7 ∧ ∀ x, v7.ownBlock = some x → x < w.heap.size ∨ w3.heap.size ≤ x) := Lib.hid ⟨(HTO6.out.new (New.dr (New.refl W6))).tr hTo7, fun x hx => by
      rcases (hO7 x hx).2 with h1 | h1
      · exact HOW.out x h1
      · right
        have h2 := HN6.out.size
        have h3 := (New.dr (New.refl W6)).size
        have h4 := HZW.out
        omega⟩
    clear hD7 hF7 hO7 hTo7 hne2 hne8 hbox hne5 hnel hS7
    go_simp
    refine hK.out _ _ (fun _ => HS7.out) ?_
    clear hK K
    iterate 1 (refine mix_take (o := ⟨_, _, _, _, _, _⟩) rfl (fun K hK => ?_); go_simp; refine hK _ ?_; clear hK K)
    clear q0 q1 q2 q5 hpw hne
    refine mix_doneIn ?_
    obtain ⟨cd, hcd⟩ : ∃ cd, cd = (writeN p l b k).1.wcode pa := ⟨_, rfl⟩
    rw [← hcd]
    have HGO : Hid (writeN p l b (k + 1) = ((writeN p l b k).1.doWrite pa SL, cd)) := Lib.hid (by rw [writeN_go HI.out.ok, hcd, HPA.out, HSL.out])
    have HT7 : Hid (∃ v', DkTo w base gd bs bf v (writeN p l b (k + 1)).1 W7 v' ∧ ∀ x, v'.ownBlock = some x → x < w.heap.size ∨ w3.heap.size ≤ x) := Lib.hid (by rw [HGO.out]; exact ⟨v7, HTO7.out⟩)
    have HSZ7 : Hid (w3.heap.size ≤ W7.heap.size ∧ W.heap.size ≤ W7.heap.size) := Lib.hid (by have h1 := HF67.out.size; have h2 := HN6.out.size; have h3 := HZW.out; omega)
    have HB47 : Hid (Blk W7 b4 27 #[.nilIface]) := Lib.hid (HI6.out.b4.fr HF67.out (HBX.out b4 (by have := HZ.out; omega) (by have := HZ.out; have := HZ3.out; omega)))
    have HB67 : Hid (Blk W7 b6 3 #[.int .i64 (kd : Int)]) := Lib.hid ((HN6.out.blk HI6x.out).fr HF67.out (HBX.out b6 (by have := HZ.out; omega) (by have := HZ.out; have := HZ3.out; omega)))
    have HKE : Hid (Kept w3.heap.size W W7) := Lib.hid ((Kept.new HN6.out).tr (Kept.fr HF67.out (DkOurs.is_cells HTO6.out.dk (by have := HLT.out; have := HLE.out; omega) (by have := HLT.out; have := HLE.out; omega) (by have := HLT.out; have := HLE.out; omega))))
    have HKC : Hid (KpC w1.heap.size (w1.heap.size + 1) W W7) := Lib.hid (KpC.tr (KpC.fr (HN6.out.toFr NoB) ⟨by have := HZ3.out; have := HZW.out; omega, fun x => x⟩ ⟨by have := HZ3.out; have := HZW.out; omega, fun x => x⟩) (KpC.fr HF67.out
      ⟨by have := HZ3.out; have := HZW.out; have := HN6.out.size; omega, HBX.out _ (by have := HZ.out; omega) (by have := HZ3.out; omega)⟩ ⟨by have := HZ3.out; have := HZW.out; have := HN6.out.size; omega, HBX.out _ (by have := HZ.out; omega) (by have := HZ3.out; omega)⟩))
    have c5 : W7.cell? ⟨b5, 0, none⟩ = some (.int .i64 (pl : Int)) := HS7.out.2.1.cell 0
    have c6 : W7.cell? ⟨b6, 0, none⟩ = some (.int .i64 (kd : Int)) := HB67.out.cell 0
    have c4 : W7.cell? ⟨b4, 0, none⟩ = some .nilIface := HB47.out.cell 0
    have h65 : ¬ b6 = b5 := by have := HZ.out; omega
    have f5 := HS7.out.2.1.frozen 0
    have f6 := HB67.out.frozen 0
    have f4 := HB47.out.frozen 0
    have HCD := Lib.hid hcd
    clear hcd HTO6 HN4 HN5 HF6 HI6 HLG6 HI56 HB86 HB8
    by_cases h0 : cd = 0
    · rw [h0, errD_0]
      have HGZ : Hid ((writeN p l b (k + 1)).2 = 0) := Lib.hid (by rw [HGO.out]; exact h0)
      have e1 : IntKind.i64.wrap ((pl : Int) + 1) = ((pl + 1 : Nat) : Int) := by rw [IntWalk.i64_in _ (by have := HPL.out; omega)]; omega
      clear h0
      gi_wp2
      obtain ⟨W8, hW8⟩ : ∃ W8 : World, W8 = W7.setCell ⟨b5, 0, none⟩ (.int .i64 ((pl : Int) + 1)) := ⟨_, rfl⟩
      obtain ⟨W9, hW9⟩ : ∃ W9 : World, W9 = W8.setCell ⟨b6, 0, none⟩ (.int .i64 2) := ⟨_, rfl⟩
      rw [← hW8, ← hW9]
      have hF8 : Fr (fun y => y = b5) W7 W8 := by rw [hW8]; exact (Fr.refl (fun y => y = b5) W7).setCell (p := ⟨b5, 0, none⟩) (fun _ => rfl) _
      have hF9 : Fr (fun y => y = b6) W8 W9 := by rw [hW9]; exact (Fr.refl (fun y => y = b6) W8).setCell (p := ⟨b6, 0, none⟩) (fun _ => rfl) _
      have hB58 : Blk W8 b5 3 #[.int .i64 ((pl : Int) + 1)] := by rw [hW8]; exact HS7.out.2.1.set 0 _
      have hB68 : Blk W8 b6 3 #[.int .i64 (kd : Int)] := HB67.out.fr hF8 h65
      have hB69 : Blk W9 b6 3 #[.int .i64 2] := by rw [hW9]; exact hB68.set 0 _
      have hz := HZ.out
      have hz3 := HZ3.out
      have hlt := HLT.out
      have hle := HLE.out
      have hzw := HZW.out
      have hs7 := HSZ7.out
      have hnb : ∀ x, w.heap.size ≤ x → x < w3.heap.size → ∀ v'' W', DkTo w base gd bs bf v (writeN p l b (k + 1)).1 W' v'' → (∀ x, v''.ownBlock = some x → x < w.heap.size ∨ w3.heap.size ≤ x) → ¬ DkOurs gd bs bf v'' x := fun x h1 h2 v'' W' _ hO => by
        rintro (ho | ho | ho | ho)
        · omega
        · omega
        · omega
        · rcases hO x ho with h3 | h3 <;> omega
      obtain ⟨v7', hT7, hO7⟩ := HT7.out
      have hT8 := hT7.st hF8 (by omega) (hnb b5 (by omega) (by omega) _ _ hT7 hO7)
      have hT9 := hT8.st hF9 (by omega) (hnb b6 (by omega) (by omega) _ _ hT8 hO7)
      refine ⟨(HKE.out.tr (Kept.fr hF8 (fun k' o' hB hs => by have hs' : k' = b5 := hs; omega))).tr (Kept.fr hF9 (fun k' o' hB hs => by have hs' : k' = b6 := hs; omega)), (HKC.out.tr (KpC.fr hF8 ⟨by omega, fun hs => by have hs' : w1.heap.size = b5 := hs; omega⟩ ⟨by omega, fun hs => by have hs' : w1.heap.size + 1 = b5 := hs; omega⟩)).tr (KpC.fr hF9 ⟨by have := hF8.size; omega, fun hs => by have hs' : w1.heap.size = b6 := hs; omega⟩ ⟨by have := hF8.size; omega, fun hs => by have hs' : w1.heap.size + 1 = b6 := hs; omega⟩), ?_⟩
      rw [HKP.out]
      have e5 : ((l.used + (k + 1) : Nat) : Int) = (pl : Int) + 1 := by have := HPL.out.1; omega
      refine ⟨HGZ.out, ⟨v7', hT9, hO7⟩, by have := hF8.size; have := hF9.size; omega, (HS7.out.1.fr hF8 (fun hs => by have hs' : b2 = b5 := hs; omega)).fr hF9 (fun hs => by have hs' : b2 = b6 := hs; omega), (HB47.out.fr hF8 (fun hs => by have hs' : b4 = b5 := hs; omega)).fr hF9 (fun hs => by have hs' : b4 = b6 := hs; omega), ?_, ?_⟩
      · rw [e5]; exact hB58.fr hF9 (fun hs => h65 (by have hs' : b5 = b6 := hs; omega))
      · rw [if_neg (by omega)]; exact hB69
    · have hE := errD_n h0
      rw [hE]
      have HE := Lib.hid hE
      have HGZ : Hid ((writeN p l b (k + 1)).2 ≠ 0) := Lib.hid (by rw [HGO.out]; exact h0)
      clear hE h0
      gi_wp2
      obtain ⟨W8, hW8⟩ : ∃ W8 : World, W8 = W7.setCell ⟨b4, 0, none⟩ (.iface 63 (.int .i64 cd)) := ⟨_, rfl⟩
      rw [← hW8]
      have hF8 : Fr (fun y => y = b4) W7 W8 := by rw [hW8]; exact (Fr.refl (fun y => y = b4) W7).setCell (p := ⟨b4, 0, none⟩) (fun _ => rfl) _
      have hB48 : Blk W8 b4 27 #[.iface 63 (.int .i64 cd)] := by rw [hW8]; exact HB47.out.set 0 _
      have hz := HZ.out
      have hz3 := HZ3.out
      have hlt := HLT.out
      have hle := HLE.out
      have hs7 := HSZ7.out
      obtain ⟨v7', hT7, hO7⟩ := HT7.out
      have hT8 := hT7.st hF8 (by omega) (by
        rintro (ho | ho | ho | ho)
        · omega
        · omega
        · omega
        · rcases hO7 b4 ho with h3 | h3 <;> omega)
      exact ⟨HKE.out.tr (Kept.fr hF8 (fun k' o' hB hs => by have hs' : k' = b4 := hs; omega)), k, HKK2.out.1, HGZ.out, ⟨v7', hT8, hO7⟩, by have := hF8.size; omega, by rw [HGO.out]; show Blk W8 b4 27 #[errD cd]; rw [HE.out]; exact hB48⟩
  case done =>
    rintro D fs W hD hfs hI hDm
    subst hfs
    rw [List.length_range] at hI
    rw [← HKK.out] at hI
    have HDM := Lib.hid hDm
    have HI := Lib.hid hI
    have HDD : Hid (w3.heap.size ≤ D) := Lib.hid hD
    have c4 : W.cell? ⟨b4, 0, none⟩ = some .nilIface := hI.b4.cell 0
    have f4 := hI.b4.frozen 0
    clear hI hDm hD
    dsimp only
    go_wp2_with fail
    obtain ⟨W8, hW8⟩ : ∃ W8 : World, W8 = W.setCell ⟨b4, 0, none⟩ .nilIface := ⟨_, rfl⟩
    rw [← hW8]
    have hF8 : Fr (fun y => y = b4) W W8 := by rw [hW8]; exact (Fr.refl (fun y => y = b4) W).setCell (p := ⟨b4, 0, none⟩) (fun _ => rfl) _
    have hB48 : Blk W8 b4 27 #[.nilIface] := by rw [hW8]; exact HI.out.b4.set 0 _
    have hz := HZ.out
    have hz3 := HZ3.out
    have hlt := HLT.out
    have hle := HLE.out
    have hszW := HI.out.sz
    obtain ⟨v7', hT7, hO7⟩ := HI.out.dk
    have hT8 := hT7.st hF8 (by omega) (by
      rintro (ho | ho | ho | ho)
      · omega
      · omega
      · omega
      · rcases hO7 b4 ho with h3 | h3 <;> omega)
    refine leaves_marks [D] _ (((Marks.cons (Marks.nil w3.heap.size W) (fun _ h => by cases h) HDD.out HDM.out)).fr hF8 (fun D' hD' => ?_)) (fun W' hS => ⟨.nilIface, ?_, by rw [HI.out.ok, errD_0], v7', hT8.shut hS (by omega) (by omega) (by omega) (by omega)⟩)
    · have hD'' : D' = b4 := hD'
      subst hD''
      exact not_def_blk HI.out.b4
    · have hc : W'.cell? ⟨b4, 0, none⟩ = some .nilIface := by
        have h1 : W'.heap[b4]? = _ := hS.cells b4 _ hB48 rfl
        exact (show Blk W' b4 27 #[.nilIface] from h1).cell 0
      simp [results, Tryd.results50, go_sem, hc]
  case ret =>
    rintro D W hD ⟨k, hk, hk0, hI⟩ hDm
    have hz := HZ.out
    have hz3 := HZ3.out
    have hlt := HLT.out
    have hle := HLE.out
    obtain ⟨v7', hT7, hO7⟩ := hI.dk
    have he : writeN p l b K = writeN p l b (k + 1) := by
      have := writeN_bad hk0 (K - (k + 1))
      rwa [show k + 1 + (K - (k + 1)) = K by omega] at this
    refine leaves_marks [D] _ (Marks.cons (Marks.nil w3.heap.size W) (fun _ h => by cases h) hD hDm) (fun W' hS => ⟨errD (writeN p l b K).2, ?_, rfl, v7', by rw [he]; exact hT7.shut hS (by omega) (by omega) (by omega) (by omega)⟩)
    have hc : W'.cell? ⟨b4, 0, none⟩ = some (errD (writeN p l b K).2) := by
      have h1 : W'.heap[b4]? = _ := hS.cells b4 _ hI.b4 rfl
      rw [he]
      exact (show Blk W' b4 27 #[errD (writeN p l b (k + 1)).2] from h1).cell 0
    simp [results, Tryd.results50, go_sem, hc]
end Go.Proofs.YteeclfejgpgooaaDoor
