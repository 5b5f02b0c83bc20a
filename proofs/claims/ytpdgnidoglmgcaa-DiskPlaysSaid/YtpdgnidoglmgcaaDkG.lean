/- Disks: the chapter's example. No condition. -/
import Derived.Test.YtpdgnidoglmgcaaDkF
namespace Go.Proofs.Ytpdgnidoglmgcaa
open Go.RowKit Go.Maps

theorem equal_sec {s t : List Int} (hs : SecOk s) (ht : SecOk t) (w : World) : (Op.equalIn 10000 31 (.agg (secA s)) (.agg (secA t))).run Try.prog w = .ok (decide (s = t)) w :=
  run_equalIn_sec 9998 Try.underlying31 Try.underlying5 (fun _ => by kernel_rfl) hs.1 ht.1 hs.2 ht.2 w
def sec5 : List Int := 5 :: List.replicate 63 0
theorem sec5_ok : SecOk sec5 := ⟨by simp [sec5], fun x hx => by simp [sec5] at hx; omega⟩
theorem sec50 : decide (sec0 = sec0) = true := decide_eq_true rfl
theorem build5 (w : World) : (Instr.build 31 #[(0, .int .u8 5)]).run Try.prog w = .ok (.agg (secA sec5)) w := by kernel_rfl
theorem build0 (w : World) : (Instr.build 31 #[]).run Try.prog w = .ok (.agg (secA sec0)) w := by kernel_rfl

set_option maxHeartbeats 4000000 in
set_option maxRecDepth 100000 in
theorem alive_any (w : World) : Calls Try.prog 6 #[] w fun e w' => e = .returned (.bool true) ∧ New w w' := by
  have he0 : ∀ w, (Op.equalIn 10000 31 (.agg (secA sec0)) (.agg #[.int .u8 0, .int .u8 0, .int .u8 0, .int .u8 0, .int .u8 0, .int .u8 0, .int .u8 0, .int .u8 0, .int .u8 0, .int .u8 0, .int .u8 0, .int .u8 0, .int .u8 0, .int .u8 0, .int .u8 0, .int .u8 0, .int .u8 0, .int .u8 0, .int .u8 0, .int .u8 0, .int .u8 0, .int .u8 0, .int .u8 0, .int .u8 0, .int .u8 0, .int .u8 0, .int .u8 0, .int .u8 0, .int .u8 0, .int .u8 0, .int .u8 0, .int .u8 0, .int .u8 0, .int .u8 0, .int .u8 0, .int .u8 0, .int .u8 0, .int .u8 0, .int .u8 0, .int .u8 0, .int .u8 0, .int .u8 0, .int .u8 0, .int .u8 0, .int .u8 0, .int .u8 0, .int .u8 0, .int .u8 0, .int .u8 0, .int .u8 0, .int .u8 0, .int .u8 0, .int .u8 0, .int .u8 0, .int .u8 0, .int .u8 0, .int .u8 0, .int .u8 0, .int .u8 0, .int .u8 0, .int .u8 0, .int .u8 0, .int .u8 0, .int .u8 0])).run Try.prog w = .ok true w := fun w => (equal_sec sec0_ok sec0_ok w).trans (by simp)
  have he5 : ∀ w, (Op.equalIn 10000 31 (.agg (secA sec5)) (.agg #[.int .u8 5, .int .u8 0, .int .u8 0, .int .u8 0, .int .u8 0, .int .u8 0, .int .u8 0, .int .u8 0, .int .u8 0, .int .u8 0, .int .u8 0, .int .u8 0, .int .u8 0, .int .u8 0, .int .u8 0, .int .u8 0, .int .u8 0, .int .u8 0, .int .u8 0, .int .u8 0, .int .u8 0, .int .u8 0, .int .u8 0, .int .u8 0, .int .u8 0, .int .u8 0, .int .u8 0, .int .u8 0, .int .u8 0, .int .u8 0, .int .u8 0, .int .u8 0, .int .u8 0, .int .u8 0, .int .u8 0, .int .u8 0, .int .u8 0, .int .u8 0, .int .u8 0, .int .u8 0, .int .u8 0, .int .u8 0, .int .u8 0, .int .u8 0, .int .u8 0, .int .u8 0, .int .u8 0, .int .u8 0, .int .u8 0, .int .u8 0, .int .u8 0, .int .u8 0, .int .u8 0, .int .u8 0, .int .u8 0, .int .u8 0, .int .u8 0, .int .u8 0, .int .u8 0, .int .u8 0, .int .u8 0, .int .u8 0, .int .u8 0, .int .u8 0])).run Try.prog w = .ok true w := fun w => (equal_sec sec5_ok sec5_ok w).trans (by simp)
  go_enter Try.func6, Try.ntmps6
  go_wp2_with fail
  refine (new_ok 2 w w.heap.size (Nat.le_refl _) (by omega) (by omega)).mono ?_
  rintro e w1 ⟨rfl, hD1, hN1⟩
  have HD1 := Lib.hid hD1
  have HN1 := Lib.hid hN1
  clear hD1 hN1
  obtain ⟨g, hg⟩ : ∃ g, g = w.heap.size + 2 := ⟨_, rfl⟩
  obtain ⟨bs, hbs⟩ : ∃ g, g = w.heap.size := ⟨_, rfl⟩
  obtain ⟨bf, hbf⟩ : ∃ g, g = w.heap.size + 1 := ⟨_, rfl⟩
  have HD1 : Hid (Dk w1 w.heap.size g bs bf (.slice none 0 0) (DP.new 2)) := Lib.hid (by rw [hg, hbs, hbf]; exact HD1.out)
  rw [← hg]
  have HG : Hid (w.heap.size ≤ g ∧ w.heap.size ≤ bs ∧ w.heap.size ≤ bf) := Lib.hid (by omega)
  clear hg hbs hbf
  go_wp2_with fail
  refine (write_in HD1.out (a := 1) (s := sec5) (by omega) (by show (1 : Int) < 2; omega) sec5_ok rfl (by decide)).mono ?_
  rintro e w2 ⟨rfl, v2, hD2, hF2, -⟩
  have HD2 := Lib.hid hD2
  have HN2 : Hid (New w w2) := Lib.hid (HN1.out.fr hF2 fun k hk => (HD1.out.ours k hk).1)
  clear hD2 hF2
  go_wp2_with fail
  refine (cut_in HD2.out (q := NoB) none 0 0 [] Rd.nil (by omega) (fun k hk => hk.elim)).mono ?_
  rintro e w3 ⟨rfl, hD3, hF3⟩
  have HD3 := Lib.hid hD3
  have HN3 : Hid (New w w3) := Lib.hid (HN2.out.fr hF3 fun k hk => by have := HG.out; rcases hk with rfl | rfl | rfl <;> omega)
  have hge : (((DP.new 2).write 1 sec5).cut []).get 1 = sec0 := rfl
  have HGE := Lib.hid hge
  clear hD3 hF3 hge
  go_wp2_with fail
  refine (read_in HD3.out (a := 1) (by omega) (by show (1 : Int) < 2; omega)).mono ?_
  rw [HGE.out]
  rintro e w4 ⟨rfl, hN4⟩
  have HD4 := Lib.hid (HD3.out.new hN4)
  have HN4 : Hid (New w w4) := Lib.hid (HN3.out.tr hN4)
  clear hN4
  go_wp2_with (first
    | ((with_reducible refine atOp ⟨some 3, .alloc _, _, _, _, _⟩ ?_); refine wpList_newvar (s := sec0) rfl rfl rfl _ _ rfl secInfo rfl rfl rfl sec0_ok.1 ?_)
    | ((with_reducible refine atOp ⟨some 27, .load _ _, _, _, _, _⟩ ?_); refine wpList_load_blk (s := sec0) rfl _ rfl Try.underlying31 rfl rfl (Blk.new _ _ _) sec0_ok.1 ?_))
  obtain ⟨w5, hw5⟩ : ∃ w5 : World, w5 = w4.alloc (.cells (secA sec0) 31) := ⟨_, rfl⟩
  have hN5 : New w4 w5 := by rw [hw5]; exact New.al (New.refl _) _
  have HD5 := Lib.hid (HD4.out.new hN5)
  have HN5 : Hid (New w w5) := Lib.hid (HN4.out.tr hN5)
  rw [← hw5]
  clear hw5 hN5
  refine (write_in HD5.out (a := 1) (s := sec5) (by omega) (by show (1 : Int) < 2; omega) sec5_ok rfl (by decide)).mono ?_
  rintro e w6 ⟨rfl, v6, hD6, hF6, -⟩
  have HD6 := Lib.hid hD6
  have HN6 : Hid (New w w6) := Lib.hid (HN5.out.fr hF6 fun k hk => (HD5.out.ours k hk).1)
  clear hD6 hF6
  go_wp2_with fail
  obtain ⟨w7, hw7⟩ : ∃ w7 : World, w7 = w6.alloc (.cells #[.bool true] 4) := ⟨_, rfl⟩
  have hN7 : New w6 w7 := by rw [hw7]; exact New.al (New.refl _) _
  have HB7 : Hid (Blk w7 w6.heap.size 4 #[.bool true]) := Lib.hid (by rw [hw7]; exact Blk.new _ _ _)
  have HD7 := Lib.hid (HD6.out.new hN7)
  have HN7 : Hid (New w w7) := Lib.hid (HN6.out.tr hN7)
  rw [← hw7]
  clear hw7 hN7
  refine (cut_in HD7.out (q := fun k => k = w6.heap.size) (some ⟨w6.heap.size, 0, none⟩) 1 1 [true] (Rd.ofBlk HB7.out 1 1 rfl rfl) (by unfold maxLen; omega) (fun k hk e => by have := HD6.out.ms.lt; omega)).mono ?_
  rintro e w8 ⟨rfl, hD8, hF8⟩
  have HD8 := Lib.hid hD8
  have HN8 : Hid (New w w8) := Lib.hid (HN7.out.fr hF8 fun k hk => by have := HG.out; rcases hk with rfl | rfl | rfl <;> omega)
  have hge : (((((DP.new 2).write 1 sec5).cut []).write 1 sec5).cut [true]).get 1 = sec5 := rfl
  have HGE := Lib.hid hge
  clear hD8 hF8 hge
  go_wp2_with fail
  refine (read_in HD8.out (a := 1) (by omega) (by show (1 : Int) < 2; omega)).mono ?_
  rw [HGE.out]
  rintro e w9 ⟨rfl, hN9⟩
  have HN9 : Hid (New w w9) := Lib.hid (HN8.out.tr hN9)
  clear hN9
  go_wp2_with (first
    | ((with_reducible refine atOp ⟨some 4, .alloc _, _, _, _, _⟩ ?_); refine wpList_newvar (s := sec5) rfl rfl rfl _ _ rfl secInfo rfl rfl rfl sec5_ok.1 ?_)
    | ((with_reducible refine atOp ⟨some 48, .load _ _, _, _, _, _⟩ ?_); refine wpList_load_blk (s := sec5) rfl _ rfl Try.underlying31 rfl rfl (Blk.new _ _ _) sec5_ok.1 ?_))
  go_ret
  exact ⟨rfl, HN9.out.al _⟩
end Go.Proofs.Ytpdgnidoglmgcaa
