/- Disks: which sectors there are, made, read; its numbers. No condition but the disk's own. -/
import Derived.Test.YtpdgnidoglmgcaaDkP
namespace Go.Proofs.Ytpdgnidoglmgcaa
open Go.RowKit Go.Maps

theorem may_nil (a : Int) (w : World) : Calls Try.prog 21 #[.pointer none, .int .i64 a] w fun e w' => e = .returned (.iface 45 (.int .i64 11)) ∧ w = w' := by
  go_enter Try.func21, Try.ntmps21
  go_wp2_with fail
  go_ret
  exact ⟨rfl, rfl⟩
theorem may_in {w : World} {base g bs bf : Nat} {v : Value} {p : DP} (h : Dk w base g bs bf v p) {a : Int} (h0 : 0 ≤ a) (h1 : a < p.size) : Calls Try.prog 21 #[.pointer (some ⟨g, 0, none⟩), .int .i64 a] w fun e w' => e = .returned .nilIface ∧ w = w' := by
  have c0 := h.blk.cell 0
  have hs := h.ok.s2
  clear h
  have t0 : decide (a < 0) = false := decide_eq_false (by omega)
  go_enter Try.func21, Try.ntmps21
  go_wp2_with fail
  go_ret
  exact ⟨rfl, rfl⟩
theorem may_out {w : World} {base g bs bf : Nat} {v : Value} {p : DP} (h : Dk w base g bs bf v p) {a : Int} (h1 : ¬ (0 ≤ a ∧ a < p.size)) : Calls Try.prog 21 #[.pointer (some ⟨g, 0, none⟩), .int .i64 a] w fun e w' => e = .returned (.iface 45 (.int .i64 1)) ∧ w = w' := by
  have c0 := h.blk.cell 0
  have hs := h.ok.s2
  clear h
  by_cases h0 : a < 0
  · have t0 : decide (a < 0) = true := decide_eq_true h0
    go_enter Try.func21, Try.ntmps21
    go_wp2_with fail
    go_ret
    exact ⟨rfl, rfl⟩
  · have h2 : (p.size : Int) ≤ a := by omega
    have t0 : decide (a < 0) = false := decide_eq_false h0
    clear h1
    go_enter Try.func21, Try.ntmps21
    go_wp2_with fail
    go_ret
    exact ⟨rfl, rfl⟩
theorem new_bad (n : Int) (w : World) (h : ¬ (1 ≤ n ∧ n ≤ 16384)) : Calls Try.prog 7 #[.int .i64 n] w fun e w' => e = .returned (.tuple #[.pointer none, .iface 45 (.int .i64 1)]) ∧ w = w' := by
  by_cases h0 : n < 1
  · go_enter Try.func7, Try.ntmps7
    go_wp2_with fail
    go_ret2
    exact ⟨rfl, rfl⟩
  · have h2 : 16384 < n := by omega
    clear h
    go_enter Try.func7, Try.ntmps7
    go_wp2_with fail
    go_ret2
    exact ⟨rfl, rfl⟩
theorem new_ok (n : Nat) (w : World) (base : Nat) (hb : base ≤ w.heap.size) (h1 : 1 ≤ n) (h2 : n ≤ 16384) : Calls Try.prog 7 #[.int .i64 n] w fun e w' => e = .returned (.tuple #[.pointer (some ⟨w.heap.size + 2, 0, none⟩), .nilIface]) ∧
    Dk w' base (w.heap.size + 2) w.heap.size (w.heap.size + 1) (.slice none 0 0) (DP.new n) ∧ New w w' := by
  have hmk := @run_makeMap Try.prog
  go_enter Try.func7, Try.ntmps7
  go_wp2_with fail
  go_ret2
  refine ⟨rfl, ⟨?_, ?_, ?_, World.ownsRow_nil _ _ _ _, by omega, by omega, DP.new_ok h1 h2⟩, ((New.refl w).al _ |>.al _).al _⟩
  · exact Blk.new' _ _ _ (by simp)
  · rw [show mf (DP.new n).sure = fun _ => none from mf_none]
    exact (((MapAt.made w Try.prog 3).alloc _).alloc _).mono (by omega)
  · rw [show mf (DP.new n).fresh = fun _ => none from mf_none]
    have := ((MapAt.made (w.alloc (.map #[] 0)) Try.prog 3).alloc (.cells #[.int .i64 n, .map (some w.heap.size), .map (some (w.heap.size + 1)), .slice none 0 0, .int .i64 (-1), .bool false] 58)).mono (show 0 ≤ n by omega)
    simpa [DP.new] using this

theorem len_nil (w : World) : Calls Try.prog 20 #[.pointer none] w fun e w' => e = .returned (.int .i64 0) ∧ w = w' := by
  go_enter Try.func20, Try.ntmps20
  go_wp2_with fail
  go_ret
  exact ⟨rfl, rfl⟩
theorem len_in {w : World} {base g bs bf : Nat} {v : Value} {p : DP} (h : Dk w base g bs bf v p) : Calls Try.prog 20 #[.pointer (some ⟨g, 0, none⟩)] w fun e w' => e = .returned (.int .i64 p.size) ∧ w = w' := by
  have c0 := h.blk.cell 0
  clear h
  go_enter Try.func20, Try.ntmps20
  go_wp2_with fail
  go_ret
  exact ⟨rfl, rfl⟩
theorem wait_nil (w : World) : Calls Try.prog 14 #[.pointer none] w fun e w' => e = .returned (.int .i64 0) ∧ w = w' := by
  go_enter Try.func14, Try.ntmps14
  go_wp2_with fail
  go_ret
  exact ⟨rfl, rfl⟩
theorem wait_in {w : World} {base g bs bf : Nat} {v : Value} {p : DP} (h : Dk w base g bs bf v p) : Calls Try.prog 14 #[.pointer (some ⟨g, 0, none⟩)] w fun e w' => e = .returned (.int .i64 p.order.length) ∧ w = w' := by
  have c3 := h.blk.cell 3
  obtain ⟨A, c, rfl, -, -, -, -⟩ := own_shape h.own
  clear h
  go_enter Try.func14, Try.ntmps14
  go_wp2_with fail
  go_ret
  exact ⟨rfl, rfl⟩
theorem down_nil (w : World) : Calls Try.prog 15 #[.pointer none] w fun e w' => e = .returned (.bool false) ∧ w = w' := by
  go_enter Try.func15, Try.ntmps15
  go_wp2_with fail
  go_ret
  exact ⟨rfl, rfl⟩
theorem down_in {w : World} {base g bs bf : Nat} {v : Value} {p : DP} (h : Dk w base g bs bf v p) : Calls Try.prog 15 #[.pointer (some ⟨g, 0, none⟩)] w fun e w' => e = .returned (.bool p.down) ∧ w = w' := by
  have c5 := h.blk.cell 5
  clear h
  go_enter Try.func15, Try.ntmps15
  go_wp2_with fail
  go_ret
  exact ⟨rfl, rfl⟩
theorem fuse_nil (a : Int) (w : World) : Calls Try.prog 10 #[.pointer none, .int .i64 a] w fun e w' => e = .returned (.tuple #[]) ∧ w = w' := by
  go_enter Try.func10, Try.ntmps10
  go_wp2_with fail
  go_end0
  exact ⟨rfl, rfl⟩
def DP.fused (p : DP) (a : Int) : DP := { p with fuse := max a (-1) }
theorem fuse_in {w : World} {base g bs bf : Nat} {v : Value} {p : DP} (h : Dk w base g bs bf v p) {a : Int} (ha : (Lit.int .i64 a).wf = true) : Calls Try.prog 10 #[.pointer (some ⟨g, 0, none⟩), .int .i64 a] w fun e w' => e = .returned (.tuple #[]) ∧ Dk w' base g bs bf v (p.fused a) ∧ Fr (fun k => k = g) w w' := by
  have hb := bounds_i64 ha
  have f4 := h.blk.frozen 4
  have c4 := h.blk.cell 4
  have key : ∀ n : Int, max a (-1) = n → Dk (w.setCell ⟨g, 4, none⟩ (.int .i64 n)) base g bs bf v (p.fused a) := fun n hn => by
    have hf : Fr (fun k => k = g) w (w.setCell ⟨g, 4, none⟩ (.int .i64 n)) := (Fr.refl _ w).setCell (S := fun k => k = g) (p := ⟨g, 4, none⟩) (fun _ => rfl) _
    refine ⟨?_, h.ms.fr hf (fun e => h.gs e.symm), h.mw.fr hf (fun e => h.gf e.symm), own_fr h.own hf (fun k hk e => h.vg (by rw [hk, e])), h.ne, h.lo, ⟨h.ok.s1, h.ok.s2, h.ok.sureR, h.ok.freshR, h.ok.nod, h.ok.ord, by simp only [DP.fused]; omega⟩⟩
    have := h.blk.set 4 (.int .i64 n)
    simpa [DP.fused, hn] using this
  have HK := Lib.hid key
  clear h key
  go_enter Try.func10, Try.ntmps10
  go_wp2_with fail
  all_goals
    go_end0
    exact ⟨rfl, HK.out _ (by omega), (Fr.refl _ w).setCell (S := fun k => k = g) (p := ⟨g, 4, none⟩) (fun _ => rfl) _⟩

theorem num_nil (w : World) : Calls Try.prog 26 #[.nilIface] w fun e w' => e = .returned (.int .i64 0) ∧ w = w' := by
  go_enter Try.func26, Try.ntmps26
  go_wp2_with fail
  go_ret
  exact ⟨rfl, rfl⟩
theorem run_assert (n : Int) (w : World) : (Instr.typeAssert (.iface 45 (.int .i64 n)) 27 45 true).run Try.prog w = .ok (.tuple #[.int .i64 n, .bool true]) w := by
  simp [Instr.typeAssert, run_underlying Try.underlying45]
theorem num_err (n : Int) (w : World) (hn : (n == 0) = false) : Calls Try.prog 26 #[.iface 45 (.int .i64 n)] w fun e w' => e = .returned (.int .i64 n) ∧ w = w' := by
  have ha := run_assert n
  have hn2 : (n != 0) = true := by simp [bne, hn]
  go_enter Try.func26, Try.ntmps26
  go_wp2_with fail
  go_ret
  exact ⟨rfl, rfl⟩
theorem is_nil (k : Int) (w : World) : Calls Try.prog 16 #[.nilIface, .int .i64 k] w fun e w' => e = .returned (.bool ((0 : Int) == k)) ∧ w = w' := by
  go_enter Try.func16, Try.ntmps16
  go_wp2_with (go_at_call 26; refine (num_nil _).mono ?_; rintro e w1 ⟨rfl, rfl⟩)
  go_ret
  exact ⟨rfl, rfl⟩
theorem is_err (n k : Int) (w : World) (hn : (n == 0) = false) : Calls Try.prog 16 #[.iface 45 (.int .i64 n), .int .i64 k] w fun e w' => e = .returned (.bool (n == k)) ∧ w = w' := by
  have HN := Lib.hid hn
  clear hn
  go_enter Try.func16, Try.ntmps16
  go_wp2_with (go_at_call 26; refine (num_err n _ HN.out).mono ?_; rintro e w1 ⟨rfl, rfl⟩)
  go_ret
  exact ⟨rfl, rfl⟩
end Go.Proofs.Ytpdgnidoglmgcaa
