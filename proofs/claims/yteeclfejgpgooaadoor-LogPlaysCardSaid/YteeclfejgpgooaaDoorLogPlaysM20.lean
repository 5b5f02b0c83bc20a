/- Texts of one proof, one behind the other: LhD, LhE, LiA, LkP. No condition but each one's own. -/
import Derived.Test.YteeclfejgpgooaaDoorLogPlaysM19
import Derived.Test.YteeclfejgpgooaaDoorLogPlaysM17
/- The reference: a log opened. Its tables are as they were laid. No condition else. -/
namespace Go.Proofs.YteeclfejgpgooaaDoor
set_option linter.unusedVariables false
set_option linter.unusedSimpArgs false
set_option linter.constructorNameAsVariable false
open Go.RowKit Go.Sort

theorem results_row4 {fn : Func} {p p2 q q2 : Tmp} {ty ty2 : TypeId} {P : Program} (h : fn.results = #[.cell p ty, .cell p2 ty2, .tmp q, .tmp q2]) (tmps : Array Value) (w : World) (g g2 : Nat) (cs cs2 : Array Value) (d d2 : TypeDesc)
    (hp : tmps.getD p undef = .pointer (some ⟨g, 0, none⟩)) (hg : Blk w g ty cs) (hu : P.underlying ty = some d) (hd : d.isRow = true) (hi : (P.info? ty).map (·.size) = some cs.size)
    (hp2 : tmps.getD p2 undef = .pointer (some ⟨g2, 0, none⟩)) (hg2 : Blk w g2 ty2 cs2) (hu2 : P.underlying ty2 = some d2) (hd2 : d2.isRow = true) (hi2 : (P.info? ty2).map (·.size) = some cs2.size) :
    (results fn tmps).run P w = .ok (.tuple #[.agg cs, .agg cs2, tmps.getD q undef, tmps.getD q2 undef]) w := by
  have hp' : tmps[p]?.getD undef = .pointer (some ⟨g, 0, none⟩) := by simpa using hp
  have hp2' : tmps[p2]?.getD undef = .pointer (some ⟨g2, 0, none⟩) := by simpa using hp2
  simp [results, h, hp', hp2', asAddr, run_loadVar_row w g ty ty cs (0, 0) _ hg hu (by cases d <;> first | rfl | (simp [TypeDesc.isRow] at hd)) hi, run_loadVar_row w g2 ty2 ty2 cs2 (0, 0) _ hg2 hu2 (by cases d2 <;> first | rfl | (simp [TypeDesc.isRow] at hd2)) hi2]
def rl0 : Array Value := #[.int .i64 0, .int .i64 0, .int .i64 0, .int .u32 0, .slice none 0 0, .bool false]
theorem rlInfo : (Tryd.prog.info? 45).map (fun i => (i.zero, i.size)) = some (some (.agg rl0), 6) := by kernel_rfl
theorem rl_all (l : LG) (A : Option Addr) (c : Nat) : (rlV l A c).all (·.oneCell') = true := by simp [rlV, Value.oneCell']
/-- Where a log does not lie. -/
def RopenBad (r : RP) (A1 : Option Addr) (c1 : Nat) (A2 : Option Addr) (c2 : Nat) (w : World) (e : Ending) (w' : World) : Prop :=
  e = .returned (.tuple #[.agg (RfV r A1 c1 A2 c2), .agg rl0, .slice none 0 0, .int .i64 1]) ∧ New w w'
set_option maxRecDepth 100000 in
set_option maxHeartbeats 3000000 in
theorem ropen_bad {w : World} (r : RP) (A1 : Option Addr) (c1 : Nat) (A2 : Option Addr) (c2 : Nat) (n : Nat) (hr : r.size = n) (hn : n ≤ 16384) (a b c : Int) (wa : (Lit.int .i64 a).wf = true) (wb : (Lit.int .i64 b).wf = true) (hc : 0 ≤ c) (h : ¬ GoodAt a b c n) :
    Calls Tryd.prog 13 #[.agg (RfV r A1 c1 A2 c2), .int .i64 a, .int .i64 b, .int .u32 c] w (RopenBad r A1 c1 A2 c2 w) := by
  have ba := bounds_i64 wa
  have bb := bounds_i64 wb
  unfold GoodAt at h
  clear wa wb
  obtain ⟨X0, hX0⟩ : ∃ X0, X0 = RfV r A1 c1 A2 c2 := ⟨_, rfl⟩
  rw [← hX0]
  have HX0 : Hid (X0[0]? = some (.int .i64 n) ∧ X0.size = 5 ∧ X0.all (·.oneCell') = true) := Lib.hid (by rw [hX0]; exact ⟨by rw [← hr]; rfl, rfl, rf_all _ _ _ _ _⟩)
  have HXE := Lib.hid hX0
  clear hX0 hr
  have HKEY : Hid (∀ w0 b4 b8 b9, New w w0 → w.heap.size ≤ b8 → w.heap.size ≤ b9 → b8 ≠ b9 → Blk w0 b8 32 #[.int .i64 0, .slice none 0 0, .slice none 0 0, .int .i64 0, .bool false] → Blk w0 b9 45 rl0 → Blk w0 b4 32 X0 → True) := Lib.hid fun _ _ _ _ _ _ _ _ _ _ _ => trivial
  clear HKEY
  by_cases h1 : a < 0
  · clear h
    go_enter Tryd.func13, Tryd.ntmps13
    go_upto_region 1 with fail
    obtain ⟨w0, hw0⟩ : ∃ w0 : World, w0 = ((w.alloc (.cells X0 32)).alloc (.cells #[.int .i64 0, .slice none 0 0, .slice none 0 0, .int .i64 0, .bool false] 32)).alloc (.cells #[.int .i64 0, .int .i64 0, .int .i64 0, .int .u32 0, .slice none 0 0, .bool false] 45) := ⟨_, rfl⟩
    obtain ⟨b4, hb4⟩ : ∃ b4, b4 = w.heap.size := ⟨_, rfl⟩
    obtain ⟨b8, hb8⟩ : ∃ b8, b8 = w.heap.size + 1 := ⟨_, rfl⟩
    obtain ⟨b9, hb9⟩ : ∃ b9, b9 = w.heap.size + 1 + 1 := ⟨_, rfl⟩
    have HN0 : Hid (New w w0) := Lib.hid (by rw [hw0]; exact New.al (New.al (New.al (New.refl _) _) _) _)
    have HB4 : Hid (Blk w0 b4 32 X0) := Lib.hid (by rw [hw0, hb4]; exact ((Blk.new _ _ _).alloc _).alloc _)
    have HB8 : Hid (Blk w0 b8 32 #[.int .i64 0, .slice none 0 0, .slice none 0 0, .int .i64 0, .bool false]) := Lib.hid (by rw [hw0, hb8]; exact (Blk.new' _ _ _ (by simp)).alloc _)
    have HB9 : Hid (Blk w0 b9 45 rl0) := Lib.hid (by rw [hw0, hb9]; exact Blk.new' _ _ _ (by simp))
    have HZ : Hid (b4 = w.heap.size ∧ b8 = w.heap.size + 1 ∧ b9 = w.heap.size + 2) := Lib.hid ⟨hb4, hb8, hb9⟩
    rw [← hw0, ← hb9, ← hb8, ← hb4]
    clear hw0 hb4 hb8 hb9
    have cz : w0.cell? ⟨b4, 0, none⟩ = some (.int .i64 n) := by rw [HB4.out.cell, HX0.out.1]
    have hbuild : ∀ w, (Instr.build 45 #[]).run Tryd.prog w = .ok (.agg rl0) w := fun _ => by kernel_rfl
    go_wp2_with (first
      | ((with_reducible refine atOp ⟨some 40, .load _ _, _, _, _, _⟩ ?_); refine wpList_load_any rfl _ rfl Tryd.underlying32 rfl (by rw [HX0.out.2.1]; rfl) rfl HB4.out ?_)
      | ((with_reducible refine atOp ⟨none, .store 32 (.tmp 8) _, _, _, _, _⟩ ?_); refine wpList_store_any rfl (.tmp 8) (.tmp 40) rfl (by rw [HX0.out.2.1]; rfl) rfl rfl HB8.out (by rw [HX0.out.2.1]; rfl) HX0.out.2.2 ?_; intro w2 hb2 hf2; have HB82 := Lib.hid hb2; have HF2 := Lib.hid hf2; have HB92 : Hid (Blk w2 b9 45 rl0) := Lib.hid (HB9.out.fr hf2 (by have := HZ.out; omega)); clear hb2 hf2)
      | ((with_reducible refine atOp ⟨none, .store 45 (.tmp 9) _, _, _, _, _⟩ ?_); refine wpList_store_any rfl (.tmp 9) (.tmp 41) rfl (cs := rl0) rfl rfl rfl HB92.out rfl (by simp [rl0, Value.oneCell']) ?_; intro w3 hb3 hf3; have HB93 := Lib.hid hb3; have HF3 := Lib.hid hf3; clear hb3 hf3))
    refine bodyPost_ret (results_row4 rfl _ _ b8 b9 _ _ _ _ rfl (HB82.out.fr HF3.out (by have := HZ.out; omega)) Tryd.underlying32 rfl (by rw [HX0.out.2.1]; rfl) rfl HB93.out Tryd.underlying45 rfl rfl) rfl ?_
    rw [HXE.out]
    exact ⟨rfl, (HN0.out.fr HF2.out (fun j hj => by have := HZ.out; omega)).fr HF3.out (fun j hj => by have := HZ.out; omega)⟩
  · by_cases h2 : b < 1
    · clear h
      have h1' : 0 ≤ a := by omega
      go_enter Tryd.func13, Tryd.ntmps13
      go_upto_region 1 with fail
      obtain ⟨w0, hw0⟩ : ∃ w0 : World, w0 = ((w.alloc (.cells X0 32)).alloc (.cells #[.int .i64 0, .slice none 0 0, .slice none 0 0, .int .i64 0, .bool false] 32)).alloc (.cells #[.int .i64 0, .int .i64 0, .int .i64 0, .int .u32 0, .slice none 0 0, .bool false] 45) := ⟨_, rfl⟩
      obtain ⟨b4, hb4⟩ : ∃ b4, b4 = w.heap.size := ⟨_, rfl⟩
      obtain ⟨b8, hb8⟩ : ∃ b8, b8 = w.heap.size + 1 := ⟨_, rfl⟩
      obtain ⟨b9, hb9⟩ : ∃ b9, b9 = w.heap.size + 1 + 1 := ⟨_, rfl⟩
      have HN0 : Hid (New w w0) := Lib.hid (by rw [hw0]; exact New.al (New.al (New.al (New.refl _) _) _) _)
      have HB4 : Hid (Blk w0 b4 32 X0) := Lib.hid (by rw [hw0, hb4]; exact ((Blk.new _ _ _).alloc _).alloc _)
      have HB8 : Hid (Blk w0 b8 32 #[.int .i64 0, .slice none 0 0, .slice none 0 0, .int .i64 0, .bool false]) := Lib.hid (by rw [hw0, hb8]; exact (Blk.new' _ _ _ (by simp)).alloc _)
      have HB9 : Hid (Blk w0 b9 45 rl0) := Lib.hid (by rw [hw0, hb9]; exact Blk.new' _ _ _ (by simp))
      have HZ : Hid (b4 = w.heap.size ∧ b8 = w.heap.size + 1 ∧ b9 = w.heap.size + 2) := Lib.hid ⟨hb4, hb8, hb9⟩
      rw [← hw0, ← hb9, ← hb8, ← hb4]
      clear hw0 hb4 hb8 hb9
      have cz : w0.cell? ⟨b4, 0, none⟩ = some (.int .i64 n) := by rw [HB4.out.cell, HX0.out.1]
      have hbuild : ∀ w, (Instr.build 45 #[]).run Tryd.prog w = .ok (.agg rl0) w := fun _ => by kernel_rfl
      go_wp2_with (first
        | ((with_reducible refine atOp ⟨some 40, .load _ _, _, _, _, _⟩ ?_); refine wpList_load_any rfl _ rfl Tryd.underlying32 rfl (by rw [HX0.out.2.1]; rfl) rfl HB4.out ?_)
        | ((with_reducible refine atOp ⟨none, .store 32 (.tmp 8) _, _, _, _, _⟩ ?_); refine wpList_store_any rfl (.tmp 8) (.tmp 40) rfl (by rw [HX0.out.2.1]; rfl) rfl rfl HB8.out (by rw [HX0.out.2.1]; rfl) HX0.out.2.2 ?_; intro w2 hb2 hf2; have HB82 := Lib.hid hb2; have HF2 := Lib.hid hf2; have HB92 : Hid (Blk w2 b9 45 rl0) := Lib.hid (HB9.out.fr hf2 (by have := HZ.out; omega)); clear hb2 hf2)
        | ((with_reducible refine atOp ⟨none, .store 45 (.tmp 9) _, _, _, _, _⟩ ?_); refine wpList_store_any rfl (.tmp 9) (.tmp 41) rfl (cs := rl0) rfl rfl rfl HB92.out rfl (by simp [rl0, Value.oneCell']) ?_; intro w3 hb3 hf3; have HB93 := Lib.hid hb3; have HF3 := Lib.hid hf3; clear hb3 hf3))
      refine bodyPost_ret (results_row4 rfl _ _ b8 b9 _ _ _ _ rfl (HB82.out.fr HF3.out (by have := HZ.out; omega)) Tryd.underlying32 rfl (by rw [HX0.out.2.1]; rfl) rfl HB93.out Tryd.underlying45 rfl rfl) rfl ?_
      rw [HXE.out]
      exact ⟨rfl, (HN0.out.fr HF2.out (fun j hj => by have := HZ.out; omega)).fr HF3.out (fun j hj => by have := HZ.out; omega)⟩
    · by_cases h3 : (n : Int) ≤ a
      · clear h
        have h1' : 0 ≤ a := by omega
        have h2' : 1 ≤ b := by omega
        go_enter Tryd.func13, Tryd.ntmps13
        go_upto_region 1 with fail
        obtain ⟨w0, hw0⟩ : ∃ w0 : World, w0 = ((w.alloc (.cells X0 32)).alloc (.cells #[.int .i64 0, .slice none 0 0, .slice none 0 0, .int .i64 0, .bool false] 32)).alloc (.cells #[.int .i64 0, .int .i64 0, .int .i64 0, .int .u32 0, .slice none 0 0, .bool false] 45) := ⟨_, rfl⟩
        obtain ⟨b4, hb4⟩ : ∃ b4, b4 = w.heap.size := ⟨_, rfl⟩
        obtain ⟨b8, hb8⟩ : ∃ b8, b8 = w.heap.size + 1 := ⟨_, rfl⟩
        obtain ⟨b9, hb9⟩ : ∃ b9, b9 = w.heap.size + 1 + 1 := ⟨_, rfl⟩
        have HN0 : Hid (New w w0) := Lib.hid (by rw [hw0]; exact New.al (New.al (New.al (New.refl _) _) _) _)
        have HB4 : Hid (Blk w0 b4 32 X0) := Lib.hid (by rw [hw0, hb4]; exact ((Blk.new _ _ _).alloc _).alloc _)
        have HB8 : Hid (Blk w0 b8 32 #[.int .i64 0, .slice none 0 0, .slice none 0 0, .int .i64 0, .bool false]) := Lib.hid (by rw [hw0, hb8]; exact (Blk.new' _ _ _ (by simp)).alloc _)
        have HB9 : Hid (Blk w0 b9 45 rl0) := Lib.hid (by rw [hw0, hb9]; exact Blk.new' _ _ _ (by simp))
        have HZ : Hid (b4 = w.heap.size ∧ b8 = w.heap.size + 1 ∧ b9 = w.heap.size + 2) := Lib.hid ⟨hb4, hb8, hb9⟩
        rw [← hw0, ← hb9, ← hb8, ← hb4]
        clear hw0 hb4 hb8 hb9
        have cz : w0.cell? ⟨b4, 0, none⟩ = some (.int .i64 n) := by rw [HB4.out.cell, HX0.out.1]
        have hbuild : ∀ w, (Instr.build 45 #[]).run Tryd.prog w = .ok (.agg rl0) w := fun _ => by kernel_rfl
        go_wp2_with (first
          | ((with_reducible refine atOp ⟨some 40, .load _ _, _, _, _, _⟩ ?_); refine wpList_load_any rfl _ rfl Tryd.underlying32 rfl (by rw [HX0.out.2.1]; rfl) rfl HB4.out ?_)
          | ((with_reducible refine atOp ⟨none, .store 32 (.tmp 8) _, _, _, _, _⟩ ?_); refine wpList_store_any rfl (.tmp 8) (.tmp 40) rfl (by rw [HX0.out.2.1]; rfl) rfl rfl HB8.out (by rw [HX0.out.2.1]; rfl) HX0.out.2.2 ?_; intro w2 hb2 hf2; have HB82 := Lib.hid hb2; have HF2 := Lib.hid hf2; have HB92 : Hid (Blk w2 b9 45 rl0) := Lib.hid (HB9.out.fr hf2 (by have := HZ.out; omega)); clear hb2 hf2)
          | ((with_reducible refine atOp ⟨none, .store 45 (.tmp 9) _, _, _, _, _⟩ ?_); refine wpList_store_any rfl (.tmp 9) (.tmp 41) rfl (cs := rl0) rfl rfl rfl HB92.out rfl (by simp [rl0, Value.oneCell']) ?_; intro w3 hb3 hf3; have HB93 := Lib.hid hb3; have HF3 := Lib.hid hf3; clear hb3 hf3))
        refine bodyPost_ret (results_row4 rfl _ _ b8 b9 _ _ _ _ rfl (HB82.out.fr HF3.out (by have := HZ.out; omega)) Tryd.underlying32 rfl (by rw [HX0.out.2.1]; rfl) rfl HB93.out Tryd.underlying45 rfl rfl) rfl ?_
        rw [HXE.out]
        exact ⟨rfl, (HN0.out.fr HF2.out (fun j hj => by have := HZ.out; omega)).fr HF3.out (fun j hj => by have := HZ.out; omega)⟩
      · have h1' : 0 ≤ a := by omega
        have h2' : 1 ≤ b := by omega
        have h3' : a < (n : Int) := by omega
        obtain ⟨m, hm⟩ : ∃ m, m = (n : Int) - a := ⟨_, rfl⟩
        have hm0 : 0 ≤ m ∧ m ≤ 16384 := by omega
        by_cases h4 : m < b
        · clear h
          have h5 : (n : Int) - a = m := hm.symm
          clear hm
          go_enter Tryd.func13, Tryd.ntmps13
          go_upto_region 1 with fail
          obtain ⟨w0, hw0⟩ : ∃ w0 : World, w0 = ((w.alloc (.cells X0 32)).alloc (.cells #[.int .i64 0, .slice none 0 0, .slice none 0 0, .int .i64 0, .bool false] 32)).alloc (.cells #[.int .i64 0, .int .i64 0, .int .i64 0, .int .u32 0, .slice none 0 0, .bool false] 45) := ⟨_, rfl⟩
          obtain ⟨b4, hb4⟩ : ∃ b4, b4 = w.heap.size := ⟨_, rfl⟩
          obtain ⟨b8, hb8⟩ : ∃ b8, b8 = w.heap.size + 1 := ⟨_, rfl⟩
          obtain ⟨b9, hb9⟩ : ∃ b9, b9 = w.heap.size + 1 + 1 := ⟨_, rfl⟩
          have HN0 : Hid (New w w0) := Lib.hid (by rw [hw0]; exact New.al (New.al (New.al (New.refl _) _) _) _)
          have HB4 : Hid (Blk w0 b4 32 X0) := Lib.hid (by rw [hw0, hb4]; exact ((Blk.new _ _ _).alloc _).alloc _)
          have HB8 : Hid (Blk w0 b8 32 #[.int .i64 0, .slice none 0 0, .slice none 0 0, .int .i64 0, .bool false]) := Lib.hid (by rw [hw0, hb8]; exact (Blk.new' _ _ _ (by simp)).alloc _)
          have HB9 : Hid (Blk w0 b9 45 rl0) := Lib.hid (by rw [hw0, hb9]; exact Blk.new' _ _ _ (by simp))
          have HZ : Hid (b4 = w.heap.size ∧ b8 = w.heap.size + 1 ∧ b9 = w.heap.size + 2) := Lib.hid ⟨hb4, hb8, hb9⟩
          rw [← hw0, ← hb9, ← hb8, ← hb4]
          clear hw0 hb4 hb8 hb9
          have cz : w0.cell? ⟨b4, 0, none⟩ = some (.int .i64 n) := by rw [HB4.out.cell, HX0.out.1]
          have hbuild : ∀ w, (Instr.build 45 #[]).run Tryd.prog w = .ok (.agg rl0) w := fun _ => by kernel_rfl
          go_wp2_with (first
            | ((with_reducible refine atOp ⟨some 40, .load _ _, _, _, _, _⟩ ?_); refine wpList_load_any rfl _ rfl Tryd.underlying32 rfl (by rw [HX0.out.2.1]; rfl) rfl HB4.out ?_)
            | ((with_reducible refine atOp ⟨none, .store 32 (.tmp 8) _, _, _, _, _⟩ ?_); refine wpList_store_any rfl (.tmp 8) (.tmp 40) rfl (by rw [HX0.out.2.1]; rfl) rfl rfl HB8.out (by rw [HX0.out.2.1]; rfl) HX0.out.2.2 ?_; intro w2 hb2 hf2; have HB82 := Lib.hid hb2; have HF2 := Lib.hid hf2; have HB92 : Hid (Blk w2 b9 45 rl0) := Lib.hid (HB9.out.fr hf2 (by have := HZ.out; omega)); clear hb2 hf2)
            | ((with_reducible refine atOp ⟨none, .store 45 (.tmp 9) _, _, _, _, _⟩ ?_); refine wpList_store_any rfl (.tmp 9) (.tmp 41) rfl (cs := rl0) rfl rfl rfl HB92.out rfl (by simp [rl0, Value.oneCell']) ?_; intro w3 hb3 hf3; have HB93 := Lib.hid hb3; have HF3 := Lib.hid hf3; clear hb3 hf3))
          refine bodyPost_ret (results_row4 rfl _ _ b8 b9 _ _ _ _ rfl (HB82.out.fr HF3.out (by have := HZ.out; omega)) Tryd.underlying32 rfl (by rw [HX0.out.2.1]; rfl) rfl HB93.out Tryd.underlying45 rfl rfl) rfl ?_
          rw [HXE.out]
          exact ⟨rfl, (HN0.out.fr HF2.out (fun j hj => by have := HZ.out; omega)).fr HF3.out (fun j hj => by have := HZ.out; omega)⟩
        · have hc0 : c = 0 := by omega
          subst hc0
          clear h
          have h5 : (n : Int) - a = m := hm.symm
          have h6 : b ≤ m := by omega
          clear hm
          go_enter Tryd.func13, Tryd.ntmps13
          go_upto_region 1 with fail
          obtain ⟨w0, hw0⟩ : ∃ w0 : World, w0 = ((w.alloc (.cells X0 32)).alloc (.cells #[.int .i64 0, .slice none 0 0, .slice none 0 0, .int .i64 0, .bool false] 32)).alloc (.cells #[.int .i64 0, .int .i64 0, .int .i64 0, .int .u32 0, .slice none 0 0, .bool false] 45) := ⟨_, rfl⟩
          obtain ⟨b4, hb4⟩ : ∃ b4, b4 = w.heap.size := ⟨_, rfl⟩
          obtain ⟨b8, hb8⟩ : ∃ b8, b8 = w.heap.size + 1 := ⟨_, rfl⟩
          obtain ⟨b9, hb9⟩ : ∃ b9, b9 = w.heap.size + 1 + 1 := ⟨_, rfl⟩
          have HN0 : Hid (New w w0) := Lib.hid (by rw [hw0]; exact New.al (New.al (New.al (New.refl _) _) _) _)
          have HB4 : Hid (Blk w0 b4 32 X0) := Lib.hid (by rw [hw0, hb4]; exact ((Blk.new _ _ _).alloc _).alloc _)
          have HB8 : Hid (Blk w0 b8 32 #[.int .i64 0, .slice none 0 0, .slice none 0 0, .int .i64 0, .bool false]) := Lib.hid (by rw [hw0, hb8]; exact (Blk.new' _ _ _ (by simp)).alloc _)
          have HB9 : Hid (Blk w0 b9 45 rl0) := Lib.hid (by rw [hw0, hb9]; exact Blk.new' _ _ _ (by simp))
          have HZ : Hid (b4 = w.heap.size ∧ b8 = w.heap.size + 1 ∧ b9 = w.heap.size + 2) := Lib.hid ⟨hb4, hb8, hb9⟩
          rw [← hw0, ← hb9, ← hb8, ← hb4]
          clear hw0 hb4 hb8 hb9
          have cz : w0.cell? ⟨b4, 0, none⟩ = some (.int .i64 n) := by rw [HB4.out.cell, HX0.out.1]
          have hbuild : ∀ w, (Instr.build 45 #[]).run Tryd.prog w = .ok (.agg rl0) w := fun _ => by kernel_rfl
          go_wp2_with (first
            | ((with_reducible refine atOp ⟨some 40, .load _ _, _, _, _, _⟩ ?_); refine wpList_load_any rfl _ rfl Tryd.underlying32 rfl (by rw [HX0.out.2.1]; rfl) rfl HB4.out ?_)
            | ((with_reducible refine atOp ⟨none, .store 32 (.tmp 8) _, _, _, _, _⟩ ?_); refine wpList_store_any rfl (.tmp 8) (.tmp 40) rfl (by rw [HX0.out.2.1]; rfl) rfl rfl HB8.out (by rw [HX0.out.2.1]; rfl) HX0.out.2.2 ?_; intro w2 hb2 hf2; have HB82 := Lib.hid hb2; have HF2 := Lib.hid hf2; have HB92 : Hid (Blk w2 b9 45 rl0) := Lib.hid (HB9.out.fr hf2 (by have := HZ.out; omega)); clear hb2 hf2)
            | ((with_reducible refine atOp ⟨none, .store 45 (.tmp 9) _, _, _, _, _⟩ ?_); refine wpList_store_any rfl (.tmp 9) (.tmp 41) rfl (cs := rl0) rfl rfl rfl HB92.out rfl (by simp [rl0, Value.oneCell']) ?_; intro w3 hb3 hf3; have HB93 := Lib.hid hb3; have HF3 := Lib.hid hf3; clear hb3 hf3))
          refine bodyPost_ret (results_row4 rfl _ _ b8 b9 _ _ _ _ rfl (HB82.out.fr HF3.out (by have := HZ.out; omega)) Tryd.underlying32 rfl (by rw [HX0.out.2.1]; rfl) rfl HB93.out Tryd.underlying45 rfl rfl) rfl ?_
          rw [HXE.out]
          exact ⟨rfl, (HN0.out.fr HF2.out (fun j hj => by have := HZ.out; omega)).fr HF3.out (fun j hj => by have := HZ.out; omega)⟩
end Go.Proofs.YteeclfejgpgooaaDoor
/- The reference: a log opened where it may lie. Its tables are as they were laid. No condition else. -/
namespace Go.Proofs.YteeclfejgpgooaaDoor
set_option linter.unusedVariables false
set_option linter.unusedSimpArgs false
set_option linter.constructorNameAsVariable false
open Go.RowKit Go.Sort

/-- Open's answer. -/
def ROpenSays (w : World) (r : LG × List (List Int)) (x : DP × Int) (tot : Nat) (e : Ending) (w' : World) : Prop :=
  if x.2 = 0 then ∃ r' A1 c1 A2 c2 B c C cc, e = .returned (.tuple #[.agg (RfV r' A1 c1 A2 c2), .agg (rlV r.1 B c), .slice C r.2.length cc, .int .i64 0]) ∧ RfIn w' r' A1 A2 ∧ Mt x.1 r' ∧ r'.tot ≤ tot ∧ RlIn w' r.1 B ∧ Recs w.heap.size w' (.slice C r.2.length cc) r.2 ∧ New w w'
  else ∃ r' A1 c1 A2 c2, e = .returned (.tuple #[.agg (RfV r' A1 c1 A2 c2), .agg rl0, .slice none 0 0, .int .i64 x.2]) ∧ RfIn w' r' A1 A2 ∧ Mt x.1 r' ∧ r'.tot ≤ tot ∧ New w w'
/-- What is known at the head of a round. -/
structure RoI (W0 wr : World) (p : DP) (l0 : LG) (b12 : Nat) (k : Nat) (out : Value) (XL : Array Value) : Prop where
  fr : Fr (fun j => j = b12) W0 wr
  recs : Recs W0.heap.size wr out (runs p l0 k).2
  len : (runs p l0 k).2.length = k ∧ k ≤ (runs p l0 k).1.used
  log : ∃ B c, XL = rlV (runs p l0 k).1 B c ∧ RlIn wr (runs p l0 k).1 B
  blk : Blk wr b12 45 XL
theorem runs_num {p : DP} {l : LG} {n : Nat} (hp : p.Ok) (hl : l.Ok n) (hn : n ≤ 16384) (k : Nat) : (runs p l k).1.first ≤ 100000 ∧ (runs p l k).1.size ≤ 100000 ∧ (runs p l k).1.used ≤ 100000 := by
  have h := (runs_ok hp hl k).1
  have h1 := h.fit
  have h2 := h.used
  omega
set_option maxRecDepth 100000 in
set_option maxHeartbeats 4000000 in
theorem ropen_good {w : World} {p : DP} (r : RP) (A1 : Option Addr) (c1 : Nat) (A2 : Option Addr) (c2 : Nat) (hr : RfIn w r A1 A2) (hM : Mt p r) (hp : p.Ok) (hn : r.tot ≤ 50000) (hL : RShaIn 1 0 w) (a b c : Nat) (hb : 1 ≤ b) (hab : a + b ≤ p.size) (hc : c < 4294967296) (hc0 : c ≠ 0) :
    Calls Tryd.prog 13 #[.agg (RfV r A1 c1 A2 c2), .int .i64 a, .int .i64 b, .int .u32 c] w (ROpenSays w (runL p (lg0 a b c)) (wipeL p (runL p (lg0 a b c)).1) (r.tot + b)) := by
  have hsz := hp.s2
  have hl0 : (lg0 a b c).Ok p.size := lg0_ok hab hc
  have HL := Lib.hid hL
  obtain ⟨X0, hX0⟩ : ∃ X0, X0 = RfV r A1 c1 A2 c2 := ⟨_, rfl⟩
  have HX0 : Hid (X0[0]? = some (.int .i64 p.size) ∧ X0.size = 5 ∧ X0.all (·.oneCell') = true) := Lib.hid (by rw [hX0]; exact ⟨by rw [← hM.size]; rfl, rfl, rf_all _ _ _ _ _⟩)
  have HNXT : Hid (∀ k B cc W, New w W → RlIn W (runs p (lg0 a b c) k).1 B → Calls Tryd.prog 42 #[.agg X0, .agg (rlV (runs p (lg0 a b c) k).1 B cc)] W (RNextSays (nextL p (runs p (lg0 a b c) k).1) W)) := Lib.hid fun k B cc W hN hI => by
    rw [hX0]
    exact rnext_any r A1 c1 A2 c2 B cc (hr.new hN) hM hp (by omega) hI (runs_ok hp hl0 k).1 (hL.new hN)
  have HWIP : Hid (∀ k B cc W, New w W → Calls Tryd.prog 44 #[.agg X0, .agg (rlV (runs p (lg0 a b c) k).1 B cc)] W (RwSays (wipeL p (runs p (lg0 a b c) k).1).1 (wipeL p (runs p (lg0 a b c) k).1).2 (r.tot + b) W)) := Lib.hid fun k B cc W hN => by
    rw [hX0]
    have h := rwipe_any r A1 c1 A2 c2 B cc (hr.new hN) hM hp hn (runs_ok hp hl0 k).1
    rw [(runs_ok hp hl0 k).2.1] at h
    exact h
  have HOK : Hid (p.Ok ∧ (lg0 a b c).Ok p.size) := Lib.hid ⟨hp, hl0⟩
  obtain ⟨n, hn2⟩ : ∃ n, n = p.size := ⟨_, rfl⟩
  rw [← hn2] at HX0
  have HPN := Lib.hid hn2
  obtain ⟨m, hm⟩ : ∃ m, m = n - a := ⟨_, rfl⟩
  have h5 : (n : Int) - (a : Int) = (m : Int) := by omega
  have h6 : (b : Int) ≤ (m : Int) := by omega
  have h7 : (m : Int) ≤ 16384 := by omega
  have h3' : (a : Int) < (n : Int) := by omega
  have h2' : 1 ≤ (b : Int) := by omega
  have h1' : 0 ≤ (a : Int) := by omega
  have hcz : ((c : Int) == 0) = false := by simp; omega
  have hcy : ¬ (c : Int) = 0 := by omega
  have hbn : b ≤ 16384 := by omega
  have HCG : Hid (c < 4294967296) := Lib.hid hc
  obtain ⟨l0, hl⟩ : ∃ l0, l0 = lg0 a b c := ⟨_, rfl⟩
  have HLE := Lib.hid hl
  have HLZ : Hid (l0.size = b) := Lib.hid (by rw [hl]; rfl)
  rw [← hl] at HNXT HWIP HOK ⊢
  obtain ⟨R, hR⟩ : ∃ R, R = runL p l0 := ⟨_, rfl⟩
  obtain ⟨x, hx⟩ : ∃ x, x = wipeL p R.1 := ⟨_, rfl⟩
  obtain ⟨tt, htt⟩ : ∃ tt, tt = r.tot + b := ⟨_, rfl⟩
  rw [← hX0, ← hR, ← hx, ← htt]
  rw [← htt] at HWIP
  have HR := Lib.hid hR
  have HX := Lib.hid hx
  clear hr hM hp hn hL hb hab hc hc0 hsz hl0 hX0 hn2 hm hl hR hx htt
  go_enter Tryd.func13, Tryd.ntmps13
  go_upto_region 1 with fail
  obtain ⟨w0, hw0⟩ : ∃ w0 : World, w0 = ((w.alloc (.cells X0 32)).alloc (.cells #[.int .i64 0, .slice none 0 0, .slice none 0 0, .int .i64 0, .bool false] 32)).alloc (.cells #[.int .i64 0, .int .i64 0, .int .i64 0, .int .u32 0, .slice none 0 0, .bool false] 45) := ⟨_, rfl⟩
  obtain ⟨b4, hb4⟩ : ∃ b4, b4 = w.heap.size := ⟨_, rfl⟩
  obtain ⟨b8, hb8⟩ : ∃ b8, b8 = w.heap.size + 1 := ⟨_, rfl⟩
  obtain ⟨b9, hb9⟩ : ∃ b9, b9 = w.heap.size + 1 + 1 := ⟨_, rfl⟩
  have HN0 : Hid (New w w0) := Lib.hid (by rw [hw0]; exact New.al (New.al (New.al (New.refl _) _) _) _)
  have HB4 : Hid (Blk w0 b4 32 X0) := Lib.hid (by rw [hw0, hb4]; exact ((Blk.new _ _ _).alloc _).alloc _)
  have HB8 : Hid (Blk w0 b8 32 #[.int .i64 0, .slice none 0 0, .slice none 0 0, .int .i64 0, .bool false]) := Lib.hid (by rw [hw0, hb8]; exact (Blk.new' _ _ _ (by simp)).alloc _)
  have HB9 : Hid (Blk w0 b9 45 rl0) := Lib.hid (by rw [hw0, hb9]; exact Blk.new' _ _ _ (by simp))
  have HZ : Hid (b4 = w.heap.size ∧ b8 = w.heap.size + 1 ∧ b9 = w.heap.size + 2) := Lib.hid ⟨hb4, hb8, hb9⟩
  have HLZW : Hid (w0.heap.size = w.heap.size + 3) := Lib.hid (by rw [hw0]; simp)
  rw [← hw0, ← hb9, ← hb8, ← hb4]
  clear hw0 hb4 hb8 hb9
  have cz : w0.cell? ⟨b4, 0, none⟩ = some (.int .i64 n) := by rw [HB4.out.cell, HX0.out.1]
  obtain ⟨i0, hi, hz0, hz1, hz2⟩ := info_parts infoB
  have HI := Lib.hid (And.intro hi (And.intro hz0 (And.intro hz1 hz2)))
  clear hi hz0 hz1 hz2
  go_upto_region 4 with ((with_reducible refine atOpS ⟨some 45, .makeSlice _ _ _, _, _, _, _⟩ ?_); refine wpList_make_full _ rfl _ _ 43 rfl w0.heap.size 5 i0 (.int .u8 0) 1 Tryd.underlying43 HI.out.1 HI.out.2.1 HI.out.2.2.1 .i64 .i64 16 16 16 rfl rfl rfl rfl (by rw [HI.out.2.2.2]; omega) (by unfold maxLen; omega) (Nat.le_refl _) ?_; intro w1 hO1 hg1; have HO1 : Hid (w1.ownsRow w0.heap.size 5 1 (.slice (some ⟨w0.heap.size, 0, none⟩) 16 16) 16 (u8s (List.replicate 16 0))) := Lib.hid (by have h := made_u8 16; have h2 := hO1; rw [h] at h2; exact h2); have HN1 : Hid (New w0 w1) := Lib.hid ((New.refl w0).fr ((Fr.refl NoB w0).grown hg1 (fun _ _ h => by cases h)) (fun k h => h.elim)); clear hO1 hg1)
  obtain ⟨W0, hW0⟩ : ∃ W0 : World, W0 = w1.alloc (.cells #[.int .i64 a, .int .i64 b, .int .i64 0, .int .u32 c, .slice (some ⟨w0.heap.size, 0, none⟩) 16 16, .bool false] 45) := ⟨_, rfl⟩
  obtain ⟨b12, hb12⟩ : ∃ b12, b12 = w1.heap.size := ⟨_, rfl⟩
  have HNW : Hid (New w0 W0) := Lib.hid (by rw [hW0]; exact New.al HN1.out _)
  have HB12 : Hid (Blk W0 b12 45 (rlV (runs p l0 0).1 (some ⟨w0.heap.size, 0, none⟩) 16)) := Lib.hid (by rw [hW0, hb12]; show Blk _ _ _ (rlV l0 _ _); rw [HLE.out]; exact Blk.new _ _ _)
  have HLI : Hid (RlIn W0 (runs p l0 0).1 (some ⟨w0.heap.size, 0, none⟩)) := Lib.hid ⟨(by
    show RdT _ _ _ _ _ (u8s l0.tag)
    rw [HLE.out]
    have h := RdT.own HO1.out rfl
    rw [hW0]
    exact h.new (New.al (New.refl _) _)), HOK.out.2.byt, HOK.out.2.gen, runs_num HOK.out.1 HOK.out.2 (HOK.out.1.s2) 0⟩
  have HRO : Hid (RoI W0 W0 p l0 b12 0 (.slice none 0 0) (rlV (runs p l0 0).1 (some ⟨w0.heap.size, 0, none⟩) 16)) := Lib.hid ⟨Fr.refl _ _, Recs.nil _ _, ⟨rfl, Nat.zero_le _⟩, ⟨_, _, rfl, HLI.out⟩, HB12.out⟩
  have HL12 : Hid (W0.heap.size = b12 + 1 ∧ w0.heap.size ≤ b12) := Lib.hid ⟨by rw [hW0, hb12]; simp, by have := HN1.out.size; omega⟩
  have HB4W : Hid (Blk W0 b4 32 X0) := Lib.hid (HNW.out.blk HB4.out)
  have HB8W : Hid (Blk W0 b8 32 #[.int .i64 0, .slice none 0 0, .slice none 0 0, .int .i64 0, .bool false]) := Lib.hid (HNW.out.blk HB8.out)
  have HB9W : Hid (Blk W0 b9 45 rl0) := Lib.hid (HNW.out.blk HB9.out)
  have HLW : Hid (w0.heap.size = w.heap.size + 3 ∧ b4 = w.heap.size ∧ b8 = w.heap.size + 1 ∧ b9 = w.heap.size + 2) := Lib.hid ⟨by
    have h1 := HZ.out
    have h2 := HB9.out.lt
    have h3 := HLZW.out
    omega, HZ.out⟩
  rw [← hW0, ← hb12]
  clear hW0 hb12 HO1 HN1 HB12 HLI cz HB4 HB8 HB9 HZ HI h5 h6 h7 h3' h2' h1' hcz hcy
  go_wp2_with fail
  go_loopw [13] (fun out wr => ∃ (k : Nat) (A : Option Addr) (d : Nat) (XL : Array Value), k ≤ 16384 ∧ out = .slice A k d ∧ Hid (RoI W0 wr p l0 b12 k (.slice A k d) XL)) (fun out _ => 16400 - (match out with | .slice _ n _ => n | _ => 0))
  case atStart => exact ⟨0, none, 0, _, Nat.zero_le _, rfl, HRO⟩
  case round =>
    clear HRO
    obtain ⟨k, A, d, XL, hk, rfl, HI⟩ := hrel
    obtain ⟨B, cc, hXL, hLI⟩ := HI.out.log
    have HXL := Lib.hid hXL
    have HLI := Lib.hid hLI
    have HXS : Hid (XL.size = 6) := Lib.hid (by rw [hXL]; rfl)
    have HB12r : Hid (Blk wr b12 45 XL) := Lib.hid HI.out.blk
    have HB4r : Hid (Blk wr b4 32 X0) := Lib.hid (HB4W.out.fr HI.out.fr (by have := HLW.out; have := HL12.out; omega))
    have HNr : Hid (New w0 wr) := Lib.hid (HNW.out.fr HI.out.fr (fun j hj => by have := HL12.out; omega))
    have HNX1 := Lib.hid (HNXT.out k B cc wr (HN0.out.tr HNr.out) hLI)
    rw [← hXL] at HNX1
    clear hXL hLI
    cases hn : nextL p (runs p l0 k).1 with
    | none =>
      have HNn := Lib.hid hn
      rw [hn] at HNX1
      have hkl : (runs p l0 k).2.length = k := HI.out.len.1
      have hks : k ≤ l0.size := by
        have h6 := (runs_ok HOK.out.1 HOK.out.2 k).1.used
        have h7 := (runs_ok HOK.out.1 HOK.out.2 k).2.1
        have := HI.out.len.2
        omega
      have HRK : Hid (R = runs p l0 k) := Lib.hid (by rw [HR.out]; exact runL_at (by omega) hn)
      have HKL : Hid (R.2.length = k) := Lib.hid (by rw [HRK.out]; exact hkl)
      have hen := fun w => Lib.run_eql_slice_nil (P := Tryd.prog) w 43 5 none 0 0 0 0 Tryd.underlying43
      clear hn hkl hks
      go_wp2_with (first
        | ((with_reducible refine atOp ⟨some 47, .load _ _, _, _, _, _⟩ ?_); refine wpList_load_any rfl _ rfl Tryd.underlying32 rfl (by rw [HX0.out.2.1]; rfl) rfl HB4r.out ?_)
        | ((with_reducible refine atOp ⟨some 48, .load _ _, _, _, _, _⟩ ?_); refine wpList_load_any rfl _ rfl Tryd.underlying45 rfl (by rw [HXS.out]; rfl) rfl HB12r.out ?_))
      refine HNX1.out.mono ?_
      rintro e w2 ⟨rfl, hN2⟩
      have HN2 := Lib.hid hN2
      have HB42 : Hid (Blk w2 b4 32 X0) := Lib.hid (hN2.blk HB4r.out)
      have HB122 : Hid (Blk w2 b12 45 XL) := Lib.hid (hN2.blk HB12r.out)
      have HWP := Lib.hid (HWIP.out k B cc w2 ((HN0.out.tr HNr.out).tr hN2))
      rw [← HXL.out, ← HRK.out, ← HX.out] at HWP
      clear hN2
      go_wp2_with (first
        | ((with_reducible refine atOp ⟨some 70, .load _ _, _, _, _, _⟩ ?_); refine wpList_load_any rfl _ rfl Tryd.underlying32 rfl (by rw [HX0.out.2.1]; rfl) rfl HB42.out ?_)
        | ((with_reducible refine atOp ⟨some 71, .load _ _, _, _, _, _⟩ ?_); refine wpList_load_any rfl _ rfl Tryd.underlying45 rfl (by rw [HXS.out]; rfl) rfl HB122.out ?_))
      refine HWP.out.mono ?_
      rintro e w3 ⟨r', E1, f1, E2, f2, rfl, hR3, hM3, ht3, hN3⟩
      obtain ⟨Y, hY⟩ : ∃ Y, Y = RfV r' E1 f1 E2 f2 := ⟨_, rfl⟩
      rw [← hY]
      have HY := Lib.hid hY
      have HYS : Hid (Y.size = 5) := Lib.hid (by rw [hY]; rfl)
      have HYA : Hid (Y.all (·.oneCell') = true) := Lib.hid (by rw [hY]; exact rf_all _ _ _ _ _)
      have HR3 := Lib.hid hR3
      have HM3 := Lib.hid hM3
      have HT3 := Lib.hid ht3
      have HN3 : Hid (New wr w3) := Lib.hid (HN2.out.tr hN3)
      have HB43 : Hid (Blk w3 b4 32 X0) := Lib.hid (HN3.out.blk HB4r.out)
      clear hY hR3 hM3 ht3 hN3
      obtain ⟨ec, hec⟩ : ∃ ec, ec = x.2 := ⟨_, rfl⟩
      have HEC := Lib.hid hec
      rw [← hec]
      clear hec
      go_upto_region 11 with ((with_reducible refine atOp ⟨none, .store 32 (.tmp 4) _, _, _, _, _⟩ ?_); refine wpList_store_any rfl (.tmp 4) (.tmp 73) rfl (by rw [HYS.out]; rfl) rfl rfl HB43.out (by rw [HX0.out.2.1, HYS.out]) HYA.out ?_; intro w4 hb4 hf4; have HB44 := Lib.hid hb4; have HF4 := Lib.hid hf4; clear hb4 hf4)
      have HF4' : Hid (Fr (fun j => j = b4 ∨ j = b12) W0 w4) := Lib.hid (((HI.out.fr.mono (fun j _ hj => .inr hj)).trans (HN3.out.toFr _)).trans (HF4.out.mono (fun j _ hj => .inl hj)))
      have HB84 : Hid (Blk w4 b8 32 #[.int .i64 0, .slice none 0 0, .slice none 0 0, .int .i64 0, .bool false]) := Lib.hid (HB8W.out.fr HF4'.out (by have := HLW.out; have := HL12.out; omega))
      have HB94 : Hid (Blk w4 b9 45 rl0) := Lib.hid (HB9W.out.fr HF4'.out (by have := HLW.out; have := HL12.out; omega))
      have HB124 : Hid (Blk w4 b12 45 XL) := Lib.hid ((HN3.out.blk HB12r.out).fr HF4.out (by have := HLW.out; have := HL12.out; omega))
      have HR4 : Hid (RfIn w4 r' E1 E2) := Lib.hid (HR3.out.fr HF4.out (fun j hj => by
        have hj' : j = b4 := hj
        rw [hj']
        exact IsT.not_blk HB43.out (by decide)))
      have HN4 : Hid (New w w4) := Lib.hid (((HN0.out.tr HNr.out).tr HN3.out).fr HF4.out (fun j hj => by have := HLW.out; omega))
      have HLI4 : Hid (RlIn w4 (runs p l0 k).1 B) := Lib.hid ((HLI.out.new HN3.out).fr HF4.out (fun j hj => by
        have hj' : j = b4 := hj
        rw [hj']
        exact IsT.not_blk HB43.out (by decide)))
      have HRC4 : Hid (Recs w.heap.size w4 (.slice A k d) (runs p l0 k).2) := Lib.hid (((HI.out.recs.new HN3.out).fr HF4.out (fun j hj _ => by
        have hj' : j = b4 := hj
        rw [hj']
        exact ⟨IsT.not_blk HB43.out (by decide), IsT.not_blk HB43.out (by decide)⟩)).base (by have := HLW.out; have := HNW.out.size; omega))
      by_cases h0 : ec = 0
      · have H0 := Lib.hid h0
        subst h0
        go_wp2_with fail
        refine wp_region_mixH (fun W => Blk W b4 32 Y ∧ Blk W b12 45 XL) [(true, 0), (true, 1), (true, 2), (false, 3), (false, 4), (true, 5), (true, 6)] (by kernel_rfl) (by kernel_rfl) ⟨HB44.out.drew, HB124.out.drew⟩ (fun hne => ?_)
        refine mix_take_row (o := ⟨_, _, _, _, _, _⟩) rfl rfl (.tmp 4) rfl rfl (fun W hS => hS.1.rangeOf) Tryd.underlying32 rfl (by rw [Array.length_toList, HYS.out]; rfl) ?_
        simp only [Act.put, List.setIfInBounds_toArray, List.set_cons_zero, List.set_cons_succ]
        refine mix_take_row (o := ⟨_, _, _, _, _, _⟩) rfl rfl (.tmp 12) rfl rfl (fun W hS => hS.2.rangeOf) Tryd.underlying45 rfl (by rw [Array.length_toList, HXS.out]; rfl) ?_
        simp only [Act.put, List.setIfInBounds_toArray, List.set_cons_zero, List.set_cons_succ]
        iterate 1 (refine mix_take (o := ⟨_, _, _, _, _, _⟩) rfl (fun K hK => ?_); go_simp; refine hK _ ?_; clear hK K)
        refine mix_act (o := ⟨_, _, _, _, _, _⟩) rfl (fun K hK => ?_) (.inl rfl)
        refine step_store_any (cs := Y) rfl (.tmp 8) (.tmp 80) rfl (by rw [HYS.out]; rfl) rfl rfl HB84.out.drew (by rw [HYS.out]; rfl) HYA.out ?_
        intro w5 hB5 hF5
        have HB85 := Lib.hid hB5
        have HF5 : Hid (Fr (fun j => j = b8) w4 w5) := Lib.hid (((New.dr (New.refl w4)).toFr _).trans hF5)
        clear hB5 hF5
        have HB45 : Hid (Blk w5 b4 32 Y ∧ Blk w5 b12 45 XL) := Lib.hid ⟨HB44.out.fr HF5.out (by have := HLW.out; omega), HB124.out.fr HF5.out (by have := HLW.out; have := HL12.out; omega)⟩
        simp only [Act.put, List.setIfInBounds_toArray, List.set_cons_zero, List.set_cons_succ]
        refine hK.out _ _ (fun _ => HB45.out) ?_
        clear hK K
        have HB95 : Hid (Blk w5 b9 45 rl0) := Lib.hid (HB94.out.fr HF5.out (by have := HLW.out; omega))
        refine mix_act (o := ⟨_, _, _, _, _, _⟩) rfl (fun K hK => ?_) (.inl rfl)
        refine step_store_any (cs := XL) rfl (.tmp 9) (.tmp 81) rfl (by rw [HXS.out]; rfl) rfl rfl HB95.out (by rw [HXS.out]; rfl) (by rw [HXL.out]; exact rl_all _ _ _) ?_
        intro w6 hB6 hF6
        have HB96 := Lib.hid hB6
        have HF6 : Hid (Fr (fun j => j = b8 ∨ j = b9) w4 w6) := Lib.hid ((HF5.out.mono (fun j _ hj => .inl hj)).trans (hF6.mono (fun j _ hj => .inr hj)))
        have HB86 : Hid (Blk w6 b8 32 Y) := Lib.hid (HB85.out.fr hF6 (by have := HLW.out; omega))
        have HB46 : Hid (Blk w6 b4 32 Y ∧ Blk w6 b12 45 XL) := Lib.hid ⟨HB45.out.1.fr hF6 (by have := HLW.out; omega), HB45.out.2.fr hF6 (by have := HLW.out; have := HL12.out; omega)⟩
        clear hB6 hF6
        simp only [Act.put, List.setIfInBounds_toArray, List.set_cons_zero, List.set_cons_succ]
        refine hK.out _ _ (fun _ => HB46.out) ?_
        clear hK K
        iterate 2 (refine mix_take (o := ⟨_, _, _, _, _, _⟩) rfl (fun K hK => ?_); go_simp; refine hK _ ?_; clear hK K)
        refine mix_done ?_
        go_wp2_with fail
        have hnt : ∀ j, (j = b8 ∨ j = b9) → ¬ IsT 5 w4 j ∧ ¬ IsT 43 w4 j := fun j hj => by
          rcases hj with rfl | rfl
          · exact ⟨IsT.not_blk HB84.out (by decide), IsT.not_blk HB84.out (by decide)⟩
          · exact ⟨IsT.not_blk HB94.out (by decide), IsT.not_blk HB94.out (by decide)⟩
        have hnp : ∀ j, (j = b8 ∨ j = b9) → ¬ IsT 92 w4 j := fun j hj => by
          rcases hj with rfl | rfl
          · exact IsT.not_blk HB84.out (by decide)
          · exact IsT.not_blk HB94.out (by decide)
        refine bodyPost_ret (results_row4 rfl _ _ b8 b9 _ _ _ _ rfl HB86.out Tryd.underlying32 rfl (by rw [HYS.out]; rfl) rfl HB96.out Tryd.underlying45 rfl (by rw [HXS.out]; rfl)) rfl ?_
        unfold ROpenSays
        rw [if_pos HEC.out.symm, HKL.out]
        refine ⟨r', E1, f1, E2, f2, B, cc, A, d, by rw [← HY.out, HRK.out, ← HXL.out]; rfl, HR4.out.fr HF6.out hnp, HM3.out, HT3.out, ?_, ?_, HN4.out.fr HF6.out (fun j hj => by have := HLW.out; omega)⟩
        · rw [HRK.out]
          exact HLI4.out.fr HF6.out (fun j hj => (hnt j hj).1)
        · rw [HRK.out]
          exact HRC4.out.fr HF6.out (fun j hj _ => hnt j hj)
      · have H0 := Lib.hid h0
        have hcb : (ec != 0) = true := by simp [h0]
        have hbuild : ∀ w, (Instr.build 45 #[]).run Tryd.prog w = .ok (.agg rl0) w := fun _ => by kernel_rfl
        clear h0
        go_wp2_with (first
          | ((with_reducible refine atOp ⟨some 77, .load _ _, _, _, _, _⟩ ?_); refine wpList_load_any rfl _ rfl Tryd.underlying32 rfl (by rw [HYS.out]; rfl) rfl HB44.out ?_)
          | ((with_reducible refine atOp ⟨none, .store 32 (.tmp 8) _, _, _, _, _⟩ ?_); refine wpList_store_any rfl (.tmp 8) (.tmp 77) rfl (by rw [HYS.out]; rfl) rfl rfl HB84.out (by rw [HYS.out]; rfl) HYA.out ?_; intro w5 hb5 hf5; have HB85 := Lib.hid hb5; have HF5 := Lib.hid hf5; have HB95 : Hid (Blk w5 b9 45 rl0) := Lib.hid (HB94.out.fr hf5 (by have := HLW.out; omega)); clear hb5 hf5)
          | ((with_reducible refine atOp ⟨none, .store 45 (.tmp 9) _, _, _, _, _⟩ ?_); refine wpList_store_any rfl (.tmp 9) (.tmp 78) rfl (cs := rl0) rfl rfl rfl HB95.out rfl (by simp [rl0, Value.oneCell']) ?_; intro w6 hb6 hf6; have HB96 := Lib.hid hb6; have HF6 := Lib.hid hf6; clear hb6 hf6))
        have hnp : ∀ j, (j = b8 ∨ j = b9) → ¬ IsT 92 w4 j := fun j hj => by
          rcases hj with rfl | rfl
          · exact IsT.not_blk HB84.out (by decide)
          · exact IsT.not_blk HB94.out (by decide)
        have HF46 : Fr (fun j => j = b8 ∨ j = b9) w4 w6 := (HF5.out.mono (fun j _ hj => .inl hj)).trans (HF6.out.mono (fun j _ hj => .inr hj))
        refine bodyPost_ret (results_row4 rfl _ _ b8 b9 _ _ _ _ rfl (HB85.out.fr HF6.out (by have := HLW.out; omega)) Tryd.underlying32 rfl (by rw [HYS.out]; rfl) rfl HB96.out Tryd.underlying45 rfl rfl) rfl ?_
        unfold ROpenSays
        rw [if_neg (by rw [← HEC.out]; exact H0.out)]
        exact ⟨r', E1, f1, E2, f2, by rw [← HY.out, ← HEC.out]; rfl, HR4.out.fr HF46 hnp, HM3.out, HT3.out, HN4.out.fr HF46 (fun j hj => by have := HLW.out; omega)⟩
    | some bd =>
      have HNX := Lib.hid hn
      rw [hn] at HNX1
      have HLEN := Lib.hid (runs_used HOK.out.1 HI.out.len hn)
      have hks : k + 1 ≤ 16384 := by
        have h6 := (runs_ok HOK.out.1 HOK.out.2 (k + 1)).1.used
        have h7 := (runs_ok HOK.out.1 HOK.out.2 (k + 1)).2.1
        have := HLEN.out.2
        have := HLZ.out
        omega
      have hkl : (runs p l0 k).2.length = k := HI.out.len.1
      have HKL := Lib.hid hkl
      obtain ⟨vs, hvs1, hvs2⟩ := HI.out.recs.row
      rw [hkl] at hvs1
      have HVS := Lib.hid (And.intro hvs1 hvs2)
      have HST : Hid (runs p l0 (k + 1) = ((runs p l0 k).1.step bd, (runs p l0 k).2 ++ [bd])) := Lib.hid (runs_some hn)
      have hub : (runs p l0 k).1.used + secN bd.length ≤ 20000 := by
        have h6 := (runs_ok HOK.out.1 HOK.out.2 (k + 1)).1.used
        have h7 := (runs_ok HOK.out.1 HOK.out.2 (k + 1)).2.1
        have h8 := HLZ.out
        have h9 : (runs p l0 (k + 1)).1.used = (runs p l0 k).1.used + secN bd.length := by rw [HST.out]; rfl
        omega
      have HBLEN : Hid (bd.length ≤ 65536) := Lib.hid (by
        obtain ⟨hx, hb⟩ := nextL_eq hn
        have h1 := LG.body_len HOK.out.1 hx.pos
        have h2 := secN_pos hx.pos
        rw [hb, h1]
        omega)
      obtain ⟨us, hus⟩ : ∃ us, us = (runs p l0 k).1.used := ⟨_, rfl⟩
      obtain ⟨sn, hsn⟩ : ∃ sn, sn = secN bd.length := ⟨_, rfl⟩
      obtain ⟨u2, hu2⟩ : ∃ u2, u2 = us + sn := ⟨_, rfl⟩
      have g1 : (us : Int) + (sn : Int) = (u2 : Int) := by omega
      have g2 : IntKind.i64.wrap (u2 : Int) = (u2 : Int) := IntWalk.i64_in _ (by omega)
      have HU : Hid (us = (runs p l0 k).1.used ∧ sn = secN bd.length ∧ u2 = (runs p l0 (k + 1)).1.used) := Lib.hid ⟨hus, hsn, by rw [HST.out]; show u2 = (runs p l0 k).1.used + secN bd.length; omega⟩
      have HGE : Hid ((runs p l0 k).1.gen = c) := Lib.hid (by rw [(runs_ok HOK.out.1 HOK.out.2 k).2.2.2.1, HLE.out]; rfl)
      clear hn hkl hvs1 hvs2 hub hus hsn hu2
      have c4 : ∀ W, New wr W → W.cell? ⟨b12, 4, none⟩ = some (.slice B 16 cc) := fun W hN => by rw [(hN.blk HB12r.out).cell, HXL.out]; rfl
      have HC4 := Lib.hid c4
      clear c4
      go_wp2_with (first
        | ((with_reducible refine atOp ⟨some 47, .load _ _, _, _, _, _⟩ ?_); refine wpList_load_any rfl _ rfl Tryd.underlying32 rfl (by rw [HX0.out.2.1]; rfl) rfl HB4r.out ?_)
        | ((with_reducible refine atOp ⟨some 48, .load _ _, _, _, _, _⟩ ?_); refine wpList_load_any rfl _ rfl Tryd.underlying45 rfl (by rw [HXS.out]; rfl) rfl HB12r.out ?_))
      refine HNX1.out.mono ?_
      rintro e w2 ⟨gb, ob, cb, rfl, hb1, hb2, hb3, hR2, hN2⟩
      have HN2 := Lib.hid hN2
      have HRB := Lib.hid hR2
      have HBY := Lib.hid hb3
      have HBC := Lib.hid (And.intro hb1 hb2)
      obtain ⟨bl, hbl⟩ : ∃ bl, bl = bd.length := ⟨_, rfl⟩
      rw [← hbl] at HRB HBC HBLEN ⊢
      have HBL := Lib.hid hbl
      have hen := fun w => Lib.run_eql_slice_nil (P := Tryd.prog) w 43 5 (some ⟨gb, ob, none⟩) bl cb 0 0 Tryd.underlying43
      have c42 := HC4.out w2 HN2.out
      have HTG : Hid (Calls Tryd.prog 43 #[.slice B 16 cc, .int .u32 c, .slice (some ⟨gb, ob, none⟩) bl cb] w2 fun e w' => (∃ A c9, e = .returned (.slice A 16 c9) ∧ w'.ownsRow w2.heap.size 5 1 (.slice A 16 c9) 16 (u8s (tagL (runs p l0 k).1.tag c bd))) ∧ New w2 w') := Lib.hid (by
        have h := rtag_any (p := IsT 5 w2) B cc (runs p l0 k).1.tag c (some ⟨gb, ob, none⟩) bl cb bd w2 (HL.out.new ((HN0.out.tr HNr.out).tr HN2.out)) (HLI.out.new HN2.out).tag HLI.out.byt HRB.out HBY.out HCG.out (by have := HBLEN.out; omega)
        exact h)
      clear hb1 hb2 hb3 hR2 hN2 hbl
      go_wp2_with fail
      refine HTG.out.mono ?_
      rintro e w3 ⟨⟨B3, c3, rfl, hO3⟩, hN3⟩
      have HO3 := Lib.hid hO3
      have HN3 : Hid (New wr w3) := Lib.hid (HN2.out.tr hN3)
      have HB123 : Hid (Blk w3 b12 45 XL) := Lib.hid (HN3.out.blk HB12r.out)
      have HRB3 : Hid (Rd (RB wr.heap.size w3) w3 1 (some ⟨gb, ob, none⟩) bl (u8s bd)) := Lib.hid (HRB.out.frT (S := NoB) (hN3.toFr _) (fun _ x => x.elim))
      have f43 : w3.frozen? ⟨b12, 4, none⟩ = false := HB123.out.frozen 4
      have c43 := HC4.out w3 HN3.out
      clear hO3 hN3 c42
      go_upto_region 8 with fail
      obtain ⟨w4, hw4⟩ : ∃ w4, w4 = w3.setCell ⟨b12, 4, none⟩ (.slice B3 16 c3) := ⟨_, rfl⟩
      have HB124 : Hid (Blk w4 b12 45 (XL.setIfInBounds 4 (.slice B3 16 c3))) := Lib.hid (by rw [hw4]; exact HB123.out.set 4 _)
      have HF4 : Hid (Fr (fun j => j = b12) wr w4) := Lib.hid (by rw [hw4]; exact Fr.setCell (S := fun j => j = b12) (p := ⟨b12, 4, none⟩) (HN3.out.toFr _) (fun _ => rfl) _)
      have HF34 : Hid (Fr (fun j => j = b12) w3 w4) := Lib.hid (by rw [hw4]; exact Fr.setCell (S := fun j => j = b12) (p := ⟨b12, 4, none⟩) (Fr.refl _ _) (fun _ => rfl) _)
      rw [← hw4]
      clear hw4 c43 f43
      have HO4 : Hid (w4.ownsRow w2.heap.size 5 1 (.slice B3 16 c3) 16 (u8s (tagL (runs p l0 k).1.tag c bd))) := Lib.hid (own_fr HO3.out HF34.out (fun j hj hs => own_ne HO3.out HB123.out (by decide) (hs ▸ hj)))
      have HRB4 : Hid (Rd (RB wr.heap.size w4) w4 1 (some ⟨gb, ob, none⟩) bl (u8s bd)) := Lib.hid (HRB3.out.frT HF34.out (fun j hj _ => by
        have hj' : j = b12 := hj
        rw [hj']
        exact IsT.not_blk HB123.out (by decide)))
      have HX4 : Hid (XL.setIfInBounds 4 (.slice B3 16 c3) = rlV { (runs p l0 k).1 with tag := tagL (runs p l0 k).1.tag c bd } B3 c3) := Lib.hid (by rw [HXL.out]; rfl)
      have c24 : ∀ W, New w4 W → W.cell? ⟨b12, 2, none⟩ = some (.int .i64 us) := fun W hN => by rw [(hN.blk HB124.out).cell, HX4.out, HU.out.1]; rfl
      have HC2 := Lib.hid c24
      have q2 : ∀ p : HW (New w4), p.w.cell? ⟨b12, 2, none⟩ = some (.int .i64 us) := fun p => HC2.out p.w p.h
      clear c24
      have hbl0 : 0 ≤ (bl : Int) := by omega
      refine wp_region_mix (New w4) 7 [(true, 0), (true, 1), (true, 2), (true, 3), (false, 4), (true, 5), (true, 6), (false, 7)] (by kernel_rfl) (by kernel_rfl) (New.dr (New.refl w4)) (fun hne => ?_)
      iterate 4 (refine mix_take (o := ⟨_, _, _, _, _, _⟩) rfl (fun K hK => ?_); go_simp; refine hK _ ?_; clear hK K)
      refine mix_act (o := ⟨_, _, _, _, _, _⟩) rfl (fun K hK => ?_) (.inl rfl)
      go_simp
      refine (rsectors_any (bl : Int) w4.drew).mono ?_
      rintro e w5 ⟨rfl, hw5⟩
      rw [secs_N, HBL.out, ← HU.out.2.1, ← HBL.out]
      have HN5 : Hid (New w4 w5) := Lib.hid (by rw [← hw5]; exact New.dr (New.refl w4))
      clear hw5
      go_simp
      refine hK.out _ _ (fun _ => HN5.out) ?_
      clear hK K
      iterate 2 (refine mix_take (o := ⟨_, _, _, _, _, _⟩) rfl (fun K hK => ?_); go_simp; refine hK _ ?_; clear hK K)
      have c25 := HC2.out w5 HN5.out
      have f25 : w5.frozen? ⟨b12, 2, none⟩ = false := (HN5.out.blk HB124.out).frozen 2
      refine mix_act (o := ⟨_, _, _, _, _, _⟩) rfl (fun K hK => ?_) (.inl rfl)
      go_simp
      refine hK.out _ _ (fun h => absurd rfl h) ?_
      clear hK K c25 f25 q2
      obtain ⟨w6, hw6⟩ : ∃ w6, w6 = w5.setCell ⟨b12, 2, none⟩ (.int .i64 u2) := ⟨_, rfl⟩
      have HB126 : Hid (Blk w6 b12 45 (rlV (runs p l0 (k + 1)).1 B3 c3)) := Lib.hid (by
        rw [hw6]
        have h := (HN5.out.blk HB124.out).set 2 (.int .i64 u2)
        rw [HX4.out] at h
        have e : (rlV { (runs p l0 k).1 with tag := tagL (runs p l0 k).1.tag c bd } B3 c3).setIfInBounds 2 (.int .i64 u2) = rlV (runs p l0 (k + 1)).1 B3 c3 := by
          rw [HU.out.2.2, HST.out]
          rfl
        rw [e] at h
        exact h)
      have HF6 : Hid (Fr (fun j => j = b12) w4 w6) := Lib.hid (by rw [hw6]; exact Fr.setCell (S := fun j => j = b12) (p := ⟨b12, 2, none⟩) (HN5.out.toFr _) (fun _ => rfl) _)
      rw [← hw6]
      clear hw6 hbl0
      refine mix_done ?_
      have hnb : ∀ j, j = b12 → ¬ IsT 5 w4 j ∧ ¬ IsT 43 w4 j := fun j hj => by
        rw [hj]
        exact ⟨IsT.not_blk HB124.out (by decide), IsT.not_blk HB124.out (by decide)⟩
      have HO6 : Hid (w6.ownsRow w2.heap.size 5 1 (.slice B3 16 c3) 16 (u8s (tagL (runs p l0 k).1.tag c bd))) := Lib.hid (own_fr HO4.out HF6.out (fun j hj hs => (hnb j hs).1 (own_isT' HO4.out hj)))
      have HRB6 : Hid (Rd (RB wr.heap.size w6) w6 1 (some ⟨gb, ob, none⟩) bl (u8s bd)) := Lib.hid (HRB4.out.frT HF6.out (fun j hj _ => (hnb j hj).1))
      have HFW6 : Hid (Fr (fun j => j = b12) wr w6) := Lib.hid (HF4.out.trans HF6.out)
      have hnb2 : ∀ j, j = b12 → ¬ IsT 5 wr j ∧ ¬ IsT 43 wr j := fun j hj => by
        rw [hj]
        exact ⟨IsT.not_blk HB12r.out (by decide), IsT.not_blk HB12r.out (by decide)⟩
      have HVS6 : Hid (w6.ownsRow W0.heap.size 43 1 (.slice A k d) k vs ∧ ∀ (i : Nat) l, (runs p l0 k).2[i]? = some l → ∃ A c, vs[i]? = some (.slice A l.length c) ∧ l.length ≤ c ∧ c ≤ maxLen ∧ Byt l ∧ Rd (RB W0.heap.size w6) w6 1 A l.length (u8s l)) := Lib.hid ⟨own_fr HVS.out.1 HFW6.out (fun j hj hs => (hnb2 j hs).2 (own_isT' HVS.out.1 hj)), fun i l hl => by
        obtain ⟨A', c', x1, x2, x3, x4, x5⟩ := HVS.out.2 i l hl
        exact ⟨A', c', x1, x2, x3, x4, x5.frT HFW6.out (fun j hj _ => (hnb2 j hj).1)⟩⟩
      have HW6 : Hid (W0.heap.size ≤ w6.heap.size ∧ W0.heap.size ≤ wr.heap.size) := Lib.hid ⟨Nat.le_trans HI.out.fr.size HFW6.out.size, HI.out.fr.size⟩
      clear hnb hnb2 g1 g2
      go_wp2_with ((with_reducible refine atOp ⟨some 68, _, _, _, _, _⟩ ?_); refine wpList_app elBs _ rfl (.tmp 65) (.tmp 67) rfl W0.heap.size (.slice A k d) k vs rfl (New.own (New.al (New.refl w6) _) HVS6.out.1) (some ⟨w6.heap.size, 0, none⟩) 1 1 [.slice (some ⟨gb, ob, none⟩) bl cb] rfl (Rd.ofBlk (p := fun _ => True) (Blk.new w6 43 #[.slice (some ⟨gb, ob, none⟩) bl cb]) 1 1 rfl trivial) (by simp [Value.oneCell']) (by unfold maxLen; omega) (by omega) (by have := HW6.out.1; simp; omega) ?_; intro A8 d8 w8 hO8 hF8 hA8; have HF8 := Lib.hid hF8; have HO8 := Lib.hid hO8; clear hO8 hF8 hA8)
      have HNal : Hid (New w6 (w6.alloc (.cells #[.slice (some ⟨gb, ob, none⟩) bl cb] 43))) := Lib.hid (New.al (New.refl w6) _)
      have HRC8 : Hid (Recs W0.heap.size w8 (.slice A8 (k + 1) d8) (runs p l0 (k + 1)).2) := Lib.hid (by
        rw [HST.out]
        exact Recs.push (l := bd) (A2 := some ⟨gb, ob, none⟩) (c2 := cb) ⟨New.own HNal.out HVS6.out.1, fun i l hl => by
          obtain ⟨A', c', x1, x2, x3, x4, x5⟩ := HVS6.out.2 i l hl
          exact ⟨A', c', x1, x2, x3, x4, x5.frT (S := NoB) (HNal.out.toFr _) (fun _ x => x.elim)⟩⟩ HKL.out.symm (by rw [← HBL.out]; exact HO8.out) HF8.out (by rw [← HBL.out]; exact HBC.out) HBY.out (by
            rw [← HBL.out]
            exact (HRB6.out.frT (S := NoB) (HNal.out.toFr _) (fun _ x => x.elim)).imp (fun j hj => ⟨Nat.le_trans HW6.out.2 hj.1, hj.2⟩)))
      have hno : ∀ j, (Value.slice A k d).ownBlock = some j → W0.heap.size ≤ j := fun j hj => (own_lt HVS6.out.1 j hj).1
      have HF8' : Hid (Fr (fun j => j = b12) W0 w8) := Lib.hid (((HI.out.fr.trans HFW6.out).trans (HNal.out.toFr _)).trans' HF8.out (fun j hj hs => by have := hno j hs; omega))
      have HB128 : Hid (Blk w8 b12 45 (rlV (runs p l0 (k + 1)).1 B3 c3)) := Lib.hid ((HNal.out.blk HB126.out).fr HF8.out (fun hs => by have := hno b12 hs; have := HL12.out; omega))
      have HLI8 : Hid (RlIn w8 (runs p l0 (k + 1)).1 B3) := Lib.hid ⟨by
        have e : (runs p l0 (k + 1)).1.tag = tagL (runs p l0 k).1.tag c bd := by rw [HST.out]; show tagL _ _ _ = _; rw [HGE.out]
        rw [e]
        have h := RdT.own HO6.out rfl
        exact (h.new HNal.out).fr HF8.out (fun j hj => IsT.not_own (HNal.out.own HVS6.out.1) (by decide) hj), (runs_ok HOK.out.1 HOK.out.2 (k + 1)).1.byt, (runs_ok HOK.out.1 HOK.out.2 (k + 1)).1.gen, runs_num HOK.out.1 HOK.out.2 HOK.out.1.s2 (k + 1)⟩
      have HRO8 : Hid (RoI W0 w8 p l0 b12 (k + 1) (.slice A8 (k + 1) d8) (rlV (runs p l0 (k + 1)).1 B3 c3)) := Lib.hid ⟨HF8'.out, HRC8.out, HLEN.out, ⟨B3, c3, rfl, HLI8.out⟩, HB128.out⟩
      clear hno
      go_roundw
      case rel => exact ⟨k + 1, A8, d8, _, hks, rfl, HRO8⟩
      case measure => simp; omega
end Go.Proofs.YteeclfejgpgooaaDoor
/- A log opened, both sides in one's words; records side by side. sha's tables are as they were laid. No condition else. -/
namespace Go.Proofs.YteeclfejgpgooaaDoor
set_option linter.unusedVariables false
set_option linter.unusedSimpArgs false
set_option linter.constructorNameAsVariable false
open Go.RowKit Go.Sort

/-- What Open leaves: the disk, an error's number, the records, the log. -/
structure Opn where
  disk : DP
  err : Int
  recs : List (List Int)
  log : Option LG
open Classical in
noncomputable def opn (p : DP) (a b c : Int) : Opn :=
  if GoodAt a b c p.size then
    (if (wipeL p (runL p (lg0 a.toNat b.toNat c.toNat)).1).2 = 0 then ⟨(wipeL p (runL p (lg0 a.toNat b.toNat c.toNat)).1).1, 0, (runL p (lg0 a.toNat b.toNat c.toNat)).2, some (runL p (lg0 a.toNat b.toNat c.toNat)).1⟩
     else ⟨(wipeL p (runL p (lg0 a.toNat b.toNat c.toNat)).1).1, (wipeL p (runL p (lg0 a.toNat b.toNat c.toNat)).1).2, [], none⟩)
  else ⟨p, 1, [], none⟩
def LgO (B : Nat) (w : World) (pl : Option Addr) (gd n : Nat) : Option LG → Prop
  | none => pl = none
  | some l => ∃ gl, pl = some ⟨gl, 0, none⟩ ∧ B ≤ gl ∧ Lg w gl gd l n
def RlO (w : World) (XL : Array Value) : Option LG → Prop
  | none => XL = rl0
  | some l => ∃ B c, XL = rlV l B c ∧ RlIn w l B
def usedOf : Option LG → Nat
  | none => 0
  | some l => l.used
theorem RlO.used {w : World} {XL : Array Value} {o : Option LG} (h : RlO w XL o) : XL[2]? = some (.int .i64 (usedOf o)) ∧ XL.size = 6 ∧ XL.all (·.oneCell') = true := by
  cases o with
  | none => rw [show XL = rl0 from h]; exact ⟨rfl, rfl, by simp [rl0, Value.oneCell']⟩
  | some l =>
    obtain ⟨B, c, rfl, -⟩ := h
    exact ⟨rfl, rfl, rl_all _ _ _⟩
theorem RlO.fr {S : Nat → Prop} {w w' : World} {XL : Array Value} {o : Option LG} (h : RlO w XL o) (hF : Fr S w w') (hS : ∀ k, S k → ¬ IsT 5 w k) : RlO w' XL o := by
  cases o with
  | none => exact h
  | some l => obtain ⟨B, c, e, hi⟩ := h; exact ⟨B, c, e, hi.fr hF hS⟩
theorem RlO.new {w w' : World} {XL : Array Value} {o : Option LG} (h : RlO w XL o) (hN : New w w') : RlO w' XL o := h.fr (S := NoB) (hN.toFr _) (fun _ x => x.elim)
theorem LgO.fr {S : Nat → Prop} {B : Nat} {w w' : World} {pl : Option Addr} {gd n : Nat} {o : Option LG} (h : LgO B w pl gd n o) (hF : Fr S w w') (hS : ∀ gl, pl = some ⟨gl, 0, none⟩ → ¬ S gl) : LgO B w' pl gd n o := by
  cases o with
  | none => exact h
  | some l => obtain ⟨gl, e, hb, hl⟩ := h; exact ⟨gl, e, hb, hl.fr hF (hS gl e)⟩
theorem LgO.new {B : Nat} {w w' : World} {pl : Option Addr} {gd n : Nat} {o : Option LG} (h : LgO B w pl gd n o) (hN : New w w') : LgO B w' pl gd n o := h.fr (S := NoB) (hN.toFr _) (fun _ _ x => x)
/-- The live answer, the reference's. -/
def LvSays (o : Opn) (w : World) (gd base bs bf : Nat) (v : Value) (n : Nat) (e : Ending) (w' : World) : Prop :=
  ∃ pl A c v', e = .returned (.tuple #[.pointer pl, .slice A o.recs.length c, errD o.err]) ∧ LgO w.heap.size w' pl gd n o.log ∧ Recs w.heap.size w' (.slice A o.recs.length c) o.recs ∧ DkTo w base gd bs bf v o.disk w' v'
def RvSays (o : Opn) (tot : Nat) (w : World) (e : Ending) (w' : World) : Prop :=
  ∃ r' A1 c1 A2 c2 XL C cc, e = .returned (.tuple #[.agg (RfV r' A1 c1 A2 c2), .agg XL, .slice C o.recs.length cc, .int .i64 o.err]) ∧ RfIn w' r' A1 A2 ∧ Mt o.disk r' ∧ r'.tot ≤ tot ∧ RlO w' XL o.log ∧ Recs w.heap.size w' (.slice C o.recs.length cc) o.recs ∧ New w w'
theorem goodAt_nat {a b c : Int} {n : Nat} (h : GoodAt a b c n) (hc : 0 ≤ c) : ∃ x y z : Nat, a = x ∧ b = y ∧ c = z ∧ 1 ≤ y ∧ x + y ≤ n ∧ z ≠ 0 ∧ a.toNat = x ∧ b.toNat = y ∧ c.toNat = z := by
  obtain ⟨h1, h2, h3, h4, h5⟩ := h
  exact ⟨a.toNat, b.toNat, c.toNat, by omega, by omega, by omega, by omega, by omega, by omega, rfl, rfl, rfl⟩
theorem open_all {w : World} {gd base bs bf : Nat} {v : Value} {p : DP} (hD : Dk w base gd bs bf v p) (hL : ShaIn 3 2 w) (a b c : Int) (wa : (Lit.int .i64 a).wf = true) (wb : (Lit.int .i64 b).wf = true) (hc : 0 ≤ c ∧ c < 4294967296) :
    Calls Tryd.prog 12 #[.pointer (some ⟨gd, 0, none⟩), .int .i64 a, .int .i64 b, .int .u32 c] w (LvSays (opn p a b c) w gd base bs bf v p.size) := by
  unfold opn
  by_cases hg : GoodAt a b c p.size
  · rw [if_pos hg]
    obtain ⟨x, y, z, rfl, rfl, rfl, h1, h2, h3, e1, e2, e3⟩ := goodAt_nat hg hc.1
    rw [e1, e2, e3]
    refine (open_good hD hL x y z h1 h2 (by omega) h3).mono fun e w' h => ?_
    unfold OpenSays at h
    split at h
    · next h0 =>
      rw [if_pos h0]
      obtain ⟨gl, A, cc, v', he, hgl, hLg, hR, hT⟩ := h
      exact ⟨some ⟨gl, 0, none⟩, A, cc, v', he, ⟨gl, rfl, hgl, hLg⟩, hR, hT⟩
    · next h0 =>
      rw [if_neg h0]
      obtain ⟨v', he, hT⟩ := h
      exact ⟨none, none, 0, v', he, rfl, Recs.nil _ _, hT⟩
  · rw [if_neg hg]
    refine (open_bad hD a b c wa wb hc.1 hg).mono fun e w' h => ?_
    obtain ⟨rfl, rfl⟩ := h
    exact ⟨none, none, 0, v, rfl, rfl, Recs.nil _ _, DkTo.same hD (New.refl _)⟩
theorem ropen_all {w : World} {p : DP} (r : RP) (A1 : Option Addr) (c1 : Nat) (A2 : Option Addr) (c2 : Nat) (hr : RfIn w r A1 A2) (hM : Mt p r) (hp : p.Ok) (hn : r.tot ≤ 50000) (hL : RShaIn 1 0 w) (a b c : Int) (wa : (Lit.int .i64 a).wf = true) (wb : (Lit.int .i64 b).wf = true) (hc : 0 ≤ c ∧ c < 4294967296) :
    Calls Tryd.prog 13 #[.agg (RfV r A1 c1 A2 c2), .int .i64 a, .int .i64 b, .int .u32 c] w (RvSays (opn p a b c) (r.tot + 16384) w) := by
  unfold opn
  by_cases hg : GoodAt a b c p.size
  · rw [if_pos hg]
    obtain ⟨x, y, z, rfl, rfl, rfl, h1, h2, h3, e1, e2, e3⟩ := goodAt_nat hg hc.1
    rw [e1, e2, e3]
    refine (ropen_good r A1 c1 A2 c2 hr hM hp hn hL x y z h1 h2 (by omega) h3).mono fun e w' h => ?_
    have hs := hp.s2
    unfold ROpenSays at h
    split at h
    · next h0 =>
      rw [if_pos h0]
      obtain ⟨r', B1, d1, B2, d2, B, cb, C, cc, he, hR, hM', ht, hI, hRc, hN⟩ := h
      exact ⟨r', B1, d1, B2, d2, _, C, cc, he, hR, hM', by omega, ⟨B, cb, rfl, hI⟩, hRc, hN⟩
    · next h0 =>
      rw [if_neg h0]
      obtain ⟨r', B1, d1, B2, d2, he, hR, hM', ht, hN⟩ := h
      exact ⟨r', B1, d1, B2, d2, _, none, 0, he, hR, hM', by omega, rfl, Recs.nil _ _, hN⟩
  · rw [if_neg hg]
    refine (ropen_bad r A1 c1 A2 c2 p.size hM.size hp.s2 a b c wa wb hc.1 hg).mono fun e w' h => ?_
    obtain ⟨rfl, hN⟩ := h
    exact ⟨r, A1, c1, A2, c2, rl0, none, 0, rfl, hr.new hN, hM, by omega, rfl, Recs.nil _ _, hN⟩
theorem used_any {w : World} {B gd n : Nat} {pl : Option Addr} {o : Option LG} (h : LgO B w pl gd n o) : Calls Tryd.prog 16 #[.pointer pl] w fun e w' => e = .returned (.int .i64 (usedOf o)) ∧ w = w' := by
  cases o with
  | none => rw [show pl = none from h]; exact used_nil w
  | some l =>
    obtain ⟨gl, rfl, -, hl⟩ := h
    have c4 := hl.c4
    show Calls _ _ _ _ fun e w' => e = .returned (.int .i64 l.used) ∧ w = w'
    obtain ⟨u, hu⟩ : ∃ u, u = l.used := ⟨_, rfl⟩
    rw [← hu] at c4 ⊢
    clear hl hu
    go_enter Tryd.func16, Tryd.ntmps16
    go_wp2_with fail
    go_ret
    exact ⟨rfl, rfl⟩
theorem Recs.out {B : Nat} {w : World} {A : Option Addr} {n c : Nat} {L : List (List Int)} (h : Recs B w (.slice A n c) L) (hn : n = L.length) {i : Nat} (hi : i < n) : ∃ g o A' c' l, L[i]? = some l ∧ A = some ⟨g, o, none⟩ ∧ w.cell? ⟨g, o + i, none⟩ = some (.slice A' l.length c') ∧ Byt l ∧ Rd (RB B w) w 1 A' l.length (u8s l) ∧ c' ≤ maxLen ∧ l.length ≤ c' := by
  subst hn
  obtain ⟨vs, ho, he⟩ := h.row
  obtain ⟨g, o, hA, -, -, hc⟩ := (Rd.own ho rfl).out (by omega) (by omega)
  obtain ⟨A', c', h1, h2, h3, h4, h5⟩ := he i _ (List.getElem?_eq_getElem hi)
  exact ⟨g, o, A', c', _, List.getElem?_eq_getElem hi, hA, hc i _ h1, h4, h5, h3, h2⟩
/-- Records side by side. -/
theorem rows_any {w : World} {B B2 : Nat} {A A2 : Option Addr} {n c n2 c2 : Nat} {L M : List (List Int)} (h : Recs B w (.slice A n c) L) (h2 : Recs B2 w (.slice A2 n2 c2) M) (hn : n = L.length) (hn2 : n2 = M.length) (hm : n ≤ 1000000000) (hm2 : n2 ≤ 1000000000) :
    Calls Tryd.prog 15 #[.slice A n c, .slice A2 n2 c2] w fun e w' => e = .returned (.bool (decide (L = M))) ∧ New w w' := by
  obtain ⟨r, hr⟩ : ∃ r, r = decide (L = M) := ⟨_, rfl⟩
  rw [← hr]
  have HR := Lib.hid hr
  have H1 := Lib.hid h
  have H2 := Lib.hid h2
  have HN := Lib.hid (And.intro hn hn2)
  clear hr h h2
  by_cases hnm : n = n2
  · subst hnm
    clear hn hn2
    go_enter Tryd.func15, Tryd.ntmps15
    go_wp2_with fail
    go_loopw [13] (fun i wr => ∃ k : Nat, k ≤ n ∧ i = .int .i64 k ∧ Hid (L.take k = M.take k) ∧ Hid (New w wr)) (fun i _ => n - (intOf i).toNat)
    case atStart => exact ⟨0, Nat.zero_le _, rfl, Lib.hid rfl, Lib.hid (New.refl _)⟩
    case round =>
      obtain ⟨k, hk, rfl, HE, HWR⟩ := hrel
      by_cases hlt : k < n
      · obtain ⟨g, o, D, d, l, hl, hA, hc, hb, hR, -, -⟩ := H1.out.out HN.out.1 hlt
        obtain ⟨g2, o2, D2, d2, m, hl2, hA2, hc2, hb2, hR2, -, -⟩ := H2.out.out HN.out.2 hlt
        subst hA hA2
        have q1 : ∀ p : HW (New wr), p.w.cell? ⟨g, o + k, none⟩ = some (.slice D l.length d) := fun p => p.h.cell_ (HWR.out.cell_ hc)
        have q2 : ∀ p : HW (New wr), p.w.cell? ⟨g2, o2 + k, none⟩ = some (.slice D2 m.length d2) := fun p => p.h.cell_ (HWR.out.cell_ hc2)
        have HBY := Lib.hid (fun W (hN : New wr W) => bytes_any D D2 l.length m.length d d2 l m W ((HWR.out.tr hN).rd hR) ((HWR.out.tr hN).rd hR2) hb hb2)
        have HT : Hid (L.take (k + 1) = L.take k ++ [l] ∧ M.take (k + 1) = M.take k ++ [m] ∧ L[k]? = some l ∧ M[k]? = some m) := Lib.hid ⟨by rw [List.take_add_one, hl]; rfl, by rw [List.take_add_one, hl2]; rfl, hl, hl2⟩
        have hlt' : (k : Int) < (n : Int) := by omega
        have hk0 : (0 : Int) ≤ (k : Int) := by omega
        clear hl hl2 hc hc2 hb hb2 hR hR2
        by_cases he : l = m
        · have HD := Lib.hid (decide_eq_true he)
          have HEn : Hid (L.take (k + 1) = M.take (k + 1)) := Lib.hid (by rw [HT.out.1, HT.out.2.1, HE.out, he])
          clear he HE
          go_wp2_with fail
          refine wp_region_mixH (New wr) [(true, 0), (true, 1), (true, 2), (true, 3), (true, 4), (true, 5), (true, 6), (true, 7), (false, 8), (true, 9)] (by kernel_rfl) (by kernel_rfl) (New.dr (New.refl wr)) (fun hne => ?_)
          iterate 8 (refine mix_take (o := ⟨_, _, _, _, _, _⟩) rfl (fun K hK => ?_); go_simp; refine hK _ ?_; clear hK K)
          refine mix_act (o := ⟨_, _, _, _, _, _⟩) rfl (fun K hK => ?_) (.inl rfl)
          go_simp
          refine (HBY.out wr.drew (New.dr (New.refl wr))).mono ?_
          rintro e w1 ⟨rfl, hw1⟩
          rw [HD.out]
          have HN1 : Hid (New wr w1) := Lib.hid (by rw [← hw1]; exact New.dr (New.refl wr))
          clear hw1
          go_simp
          refine hK.out _ _ (fun _ => HN1.out) ?_
          clear hK K
          iterate 1 (refine mix_take (o := ⟨_, _, _, _, _, _⟩) rfl (fun K hK => ?_); go_simp; refine hK _ ?_; clear hK K)
          refine mix_done ?_
          go_wp2_with fail
          go_roundw
          case rel => exact ⟨k + 1, by omega, by go_num, HEn, Lib.hid (HWR.out.tr HN1.out)⟩
          case measure => simp [intOf]; omega
        · have HD := Lib.hid (decide_eq_false he)
          have HR0 : Hid (r = false) := Lib.hid (by
            rw [HR.out]
            refine decide_eq_false (fun e => he ?_)
            have h1 := HT.out.2.2.1
            rw [e, HT.out.2.2.2] at h1
            injection h1 with h1
            exact h1.symm)
          clear he
          go_wp2_with fail
          refine wp_region_mixH (New wr) [(true, 0), (true, 1), (true, 2), (true, 3), (true, 4), (true, 5), (true, 6), (true, 7), (false, 8), (true, 9)] (by kernel_rfl) (by kernel_rfl) (New.dr (New.refl wr)) (fun hne => ?_)
          iterate 8 (refine mix_take (o := ⟨_, _, _, _, _, _⟩) rfl (fun K hK => ?_); go_simp; refine hK _ ?_; clear hK K)
          refine mix_act (o := ⟨_, _, _, _, _, _⟩) rfl (fun K hK => ?_) (.inl rfl)
          go_simp
          refine (HBY.out wr.drew (New.dr (New.refl wr))).mono ?_
          rintro e w1 ⟨rfl, hw1⟩
          rw [HD.out]
          have HN1 : Hid (New wr w1) := Lib.hid (by rw [← hw1]; exact New.dr (New.refl wr))
          clear hw1
          go_simp
          refine hK.out _ _ (fun _ => HN1.out) ?_
          clear hK K
          iterate 1 (refine mix_take (o := ⟨_, _, _, _, _, _⟩) rfl (fun K hK => ?_); go_simp; refine hK _ ?_; clear hK K)
          refine mix_done ?_
          go_wp2_with fail
          go_ret
          rw [HR0.out]
          exact ⟨rfl, HWR.out.tr HN1.out⟩
      · have HR1 : Hid (r = true) := Lib.hid (by
          rw [HR.out]
          refine decide_eq_true ?_
          have h := HE.out
          rwa [List.take_of_length_le (by rw [← HN.out.1]; omega), List.take_of_length_le (by rw [← HN.out.2]; omega)] at h)
        go_wp2_with fail
        go_ret
        rw [HR1.out]
        exact ⟨rfl, HWR.out⟩
  · have HR0 : Hid (r = false) := Lib.hid (by rw [HR.out]; exact decide_eq_false (fun e => hnm (by rw [hn, hn2, e])))
    have hnm' : ¬ ((n : Int) = (n2 : Int)) := by omega
    clear hn hn2
    go_enter Tryd.func15, Tryd.ntmps15
    go_wp2_with fail
    go_ret
    rw [HR0.out]
    exact ⟨rfl, New.refl w⟩
end Go.Proofs.YteeclfejgpgooaaDoor
/- A log behind power cuts, in plain words: what is read behind one, what a record and a sync do. No condition. -/
namespace Go.Proofs.YteeclfejgpgooaaDoor
set_option linter.unusedVariables false
set_option linter.unusedSimpArgs false
set_option linter.constructorNameAsVariable false
open Go.RowKit Go.Sort

def chain (l : LG) (K : List (List Int)) : LG := K.foldl LG.step l
theorem chain_snoc (l : LG) (K : List (List Int)) (b : List Int) : chain l (K ++ [b]) = (chain l K).step b := by simp [chain]
theorem chain_same (l : LG) : ∀ K : List (List Int), (chain l K).first = l.first ∧ (chain l K).size = l.size ∧ (chain l K).gen = l.gen ∧ (chain l K).broken = l.broken
  | [] => ⟨rfl, rfl, rfl, rfl⟩
  | b :: K => chain_same (l.step b) K
theorem chain_take {l : LG} {K : List (List Int)} {j : Nat} (h : j < K.length) : chain l (K.take (j + 1)) = (chain l (K.take j)).step K[j] := by
  rw [List.take_succ_eq_append_getElem h, chain_snoc]
theorem chain_used {l : LG} {K : List (List Int)} {j : Nat} (h : j < K.length) : (chain l (K.take (j + 1))).used = (chain l (K.take j)).used + secN K[j].length := by
  rw [chain_take h]; rfl
theorem chain_mono {l : LG} {K : List (List Int)} {j : Nat} : ∀ d, j + d ≤ K.length → (chain l (K.take j)).used ≤ (chain l (K.take (j + d))).used
  | 0, _ => Nat.le_refl _
  | d + 1, h => by
    have h1 := chain_mono (l := l) (K := K) (j := j) d (by omega)
    have h2 := chain_used (l := l) (K := K) (j := j + d) (by omega)
    rw [← Nat.add_assoc, h2]
    omega
theorem chain_le {l : LG} {K : List (List Int)} {j k : Nat} (h : j ≤ k) (hk : k ≤ K.length) : (chain l (K.take j)).used ≤ (chain l (K.take k)).used := by
  have := chain_mono (l := l) (K := K) (j := j) (k - j) (by omega)
  rwa [show j + (k - j) = k by omega] at this
theorem chain_all (l : LG) (K : List (List Int)) : chain l (K.take K.length) = chain l K := by rw [List.take_length]
theorem chain_tag {l : LG} (h : l.tag.length = 16 ∧ Byt l.tag) : ∀ K : List (List Int), (chain l K).tag.length = 16 ∧ Byt (chain l K).tag
  | [] => h
  | b :: K => chain_tag (l := l.step b) ⟨tagL_len _ _ _, tagL_byt _ _ _⟩ K
def RecOk (b : List Int) : Prop := secN b.length ≠ 0 ∧ Byt b
theorem chain_len {l : LG} {K : List (List Int)} (hK : ∀ x ∈ K, RecOk x) : ∀ j, j ≤ K.length → l.used + j ≤ (chain l (K.take j)).used
  | 0, _ => by simp [chain]
  | j + 1, h => by
    have h1 := chain_len (l := l) hK j (by omega)
    have h2 := chain_used (l := l) (K := K) (j := j) (by omega)
    have h3 := (hK _ (List.getElem_mem (show j < K.length by omega))).1
    omega
/-- What has not the generation's mark. -/
def NoGen (g : Nat) (s : List Int) : Prop := valL (s.take 4) ≠ g
theorem sec_head {l : LG} {b : List Int} (i : Nat) : (l.sec b i).take 9 = l.hdr i := by
  unfold LG.sec pad64 LG.raw
  rw [List.append_assoc, List.take_append_of_le_length (by rw [LG.hdr_len]; exact Nat.le_refl _), List.take_of_length_le (by rw [LG.hdr_len]; exact Nat.le_refl _)]
theorem hdr_gen {l : LG} (i : Nat) (h : l.gen < 4294967296) : valL ((l.hdr i).take 4) = l.gen := by
  unfold LG.hdr
  rw [List.append_assoc, List.take_append_of_le_length (by rw [beL_len]; exact Nat.le_refl _), List.take_of_length_le (by rw [beL_len]; exact Nat.le_refl _), valL_beL 4 _ (by omega)]
theorem noGen_hdr {l : LG} {s : List Int} {i : Nat} (hg : l.gen < 4294967296) (h : NoGen l.gen s) : s.take 9 ≠ l.hdr i := fun e => h (by
  have h1 := congrArg (List.take 4) e
  rw [List.take_take] at h1
  have h2 : min 4 9 = 4 := rfl
  rw [h2] at h1
  rw [h1, hdr_gen i hg])
/-- A record that stands there whole is the next one. -/
theorem many_of_sec {p : DP} {l : LG} {b : List Int} (hb : b.length ≤ 65536) (h0 : sct p l 0 = l.sec b 0) : l.many p = b.length := by
  unfold LG.many
  rw [h0]
  unfold LG.sec pad64 LG.raw
  rw [List.append_assoc, List.drop_append_of_le_length (by rw [LG.hdr_len]; exact Nat.le_refl _), List.drop_of_length_le (by rw [LG.hdr_len]; exact Nat.le_refl _), List.nil_append, Nat.mul_zero, List.drop_zero]
  have hf := LG.frame_len l b
  rw [List.take_append_of_le_length (by rw [List.length_take]; omega), List.take_take]
  unfold LG.frame
  rw [List.append_assoc, List.take_append_of_le_length (by rw [beL_len]; decide), List.take_of_length_le (by rw [beL_len]; decide), valL_beL 4 _ (by omega)]
theorem next_of_secs {p : DP} (hp : p.Ok) {l : LG} {b : List Int} (hb : RecOk b) (hr : l.used + secN b.length ≤ l.size) (h : ∀ i, i < secN b.length → sct p l i = l.sec b i) : l.Next p ∧ l.body p = b := by
  obtain ⟨h1, h2, h3⟩ := secN_pos hb.1
  have hm : l.many p = b.length := many_of_sec h2 (h 0 (by omega))
  have hbody : l.body p = b := by
    have hlen := frameL_len hp l (secN b.length)
    have hfr : (frameL p l (secN b.length)).take (20 + b.length) = l.frame b := by
      refine ext_parts (secN b.length) _ _ (by rw [List.length_take]; omega) (by rw [LG.frame_len]; omega) fun i hi => ?_
      have hre := raw_end (l := l) (b := b) rfl h3 hi
      have hst := sec_take (l := l) (b := b) rfl h3 hi
      have e1 := congrArg (List.drop 9) hst
      have e2 : (l.raw b i).drop 9 = ((l.frame b).drop (55 * i)).take 55 := by
        unfold LG.raw
        rw [List.drop_append_of_le_length (by rw [LG.hdr_len]; exact Nat.le_refl _), List.drop_of_length_le (by rw [LG.hdr_len]; exact Nat.le_refl _), List.nil_append]
      rw [e2, List.drop_take, ← h i hi] at e1
      rw [← e1, ← frame_part hp l (secN b.length) i hi, List.take_take, List.drop_take, List.take_take]
      congr 1
      unfold endL
      split <;> omega
    have h4 : l.body p = ((frameL p l (secN b.length)).drop 20).take b.length := by unfold LG.body; rw [hm]
    have h5 : ((frameL p l (secN b.length)).take (20 + b.length)).drop 20 = ((frameL p l (secN b.length)).drop 20).take b.length := by
      rw [List.drop_take, show 20 + b.length - 20 = b.length by omega]
    rw [h4, ← h5, hfr]
    unfold LG.frame
    rw [List.drop_append_of_le_length (by rw [List.length_append, beL_len, tagL_len]; decide), List.drop_of_length_le (by rw [List.length_append, beL_len, tagL_len]; decide), List.nil_append]
  refine ⟨next_of_match (n := b.length) (k := secN b.length) hp hm.symm rfl hb.1 (by omega) hr fun i hi => ?_, hbody⟩
  rw [hbody, h i hi]
/-- Where a sector of the next record has not the mark there is none. -/
theorem no_next_0 {p : DP} {l : LG} (hg : l.gen < 4294967296) (h : NoGen l.gen (sct p l 0)) : ¬ l.Next p := fun hn => by
  have := hn.hdr 0 (by have := hn.pos; omega)
  exact noGen_hdr hg h this
theorem no_next_i {p : DP} {l : LG} {b : List Int} (hg : l.gen < 4294967296) (hb : b.length ≤ 65536) (h0 : sct p l 0 = l.sec b 0) {i : Nat} (hi : i < secN b.length) (h : NoGen l.gen (sct p l i)) : ¬ l.Next p := fun hn => by
  have hm := many_of_sec hb h0
  have := hn.hdr i (by rw [hm]; exact hi)
  exact noGen_hdr hg h this
end Go.Proofs.YteeclfejgpgooaaDoor
