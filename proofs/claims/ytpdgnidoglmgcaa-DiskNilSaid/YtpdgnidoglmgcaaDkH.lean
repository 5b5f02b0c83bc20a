/- DiskNil's walk: a nil disk answers as said. No condition. -/
import Derived.Test.YtpdgnidoglmgcaaDkG
import Derived.Test.YtpdgnidoglmgcaaOpenA
import Derived.Test.YtpdgnidoglmgcaaOpenS
namespace Go.Proofs.Ytpdgnidoglmgcaa
open Go.RowKit Go.Maps Go.WideShapes Go.ChangeShapes

section
variable {H : Type} {enc : TypeId × Value → H} {w : World}
theorem open_sec {r : Reach} {b0 : Nat} {v : Value} {d : DataW H} {p : List MemPlace} (hv : Value.okWide Try.prog w r b0 31 v) (h : DataW.Trod enc Try.prog w 0 (fun _ => true) true 31 v d p) : ∃ s, v = .agg (secA s) ∧ SecOk s := by
  obtain ⟨cs, rfl, hl, hc⟩ := open_array Try.underlying31 (by kernel_rfl) (by kernel_rfl) hv h
  have key : ∀ cs : List Value, (∀ (i : Nat) (hi : i < cs.length), ∃ m y, DataW.trod enc Try.prog w 0 (fun _ => true) true m 5 [cs[i]] = some y) → ∃ s : List Int, cs = u8s s ∧ Byt s := by
    intro cs
    induction cs with
    | nil => exact fun _ => ⟨[], rfl, fun x hx => by cases hx⟩
    | cons x cs ih =>
      intro h
      obtain ⟨s, hs, hb⟩ := ih fun i hi => h (i + 1) (by simp; omega)
      obtain ⟨m, y, ht⟩ := h 0 (by simp)
      obtain ⟨a, e, _, g⟩ := DataW.trod_int Try.underlying5 ht
      simp at e
      subst e
      have := bounds_u8 g
      refine ⟨a :: s, by rw [hs]; rfl, fun z hz => ?_⟩
      rcases List.mem_cons.1 hz with rfl | hz
      · omega
      · exact hb z hz
  obtain ⟨s, rfl, hb⟩ := key cs hc
  exact ⟨s, rfl, by rw [← hl, u8s_len], hb⟩
end

set_option maxHeartbeats 4000000 in
set_option maxRecDepth 100000 in
theorem nil_walk (a : Int) (s : List Int) (hs : SecOk s) (w : World) : Calls Try.prog 5 #[.int .i64 a, .agg (secA s)] w fun e w' => e = .returned (.bool true) ∧ New w w' := by
  have HS := Lib.hid hs
  clear hs
  go_enter Try.func5, Try.ntmps5
  go_wp2_with fail
  obtain ⟨w0, hw0⟩ : ∃ w0 : World, w0 = w.alloc (.cells (secA s) 31) := ⟨_, rfl⟩
  have HN0 : Hid (New w w0) := Lib.hid (by rw [hw0]; exact New.al (New.refl _) _)
  have HB0 : Hid (Blk w0 w.heap.size 31 (secA s)) := Lib.hid (by rw [hw0]; exact Blk.new _ _ _)
  rw [← hw0]
  clear hw0
  refine (alive_any w0).mono ?_
  rintro e w1 ⟨rfl, hN1⟩
  have HN1 : Hid (New w w1) := Lib.hid (HN0.out.tr hN1)
  have HB1 := Lib.hid (New.blk hN1 HB0.out)
  clear hN1
  go_wp2_with fail
  obtain ⟨w2, hw2⟩ : ∃ w2 : World, w2 = w1.alloc (.cells #[.bool true] 4) := ⟨_, rfl⟩
  have HN2 : Hid (New w1 w2) := Lib.hid (by rw [hw2]; exact New.al (New.refl _) _)
  rw [← hw2]
  clear hw2
  refine (cut_nil _ w2).mono ?_
  rintro e w' ⟨rfl, rfl⟩
  go_wp2_with fail
  refine (fuse_nil _ w2).mono ?_
  rintro e w' ⟨rfl, rfl⟩
  go_wp2_with fail
  refine (read_nil _ w2).mono ?_
  rintro e w3 ⟨rfl, hN3⟩
  have HN3 : Hid (New w w3) := Lib.hid ((HN1.out.tr HN2.out).tr hN3)
  have HB3 := Lib.hid (New.blk (HN2.out.tr hN3) HB1.out)
  clear hN3
  go_wp2_with (first
    | ((with_reducible refine atOp ⟨some 6, .alloc _, _, _, _, _⟩ ?_); refine wpList_newvar (s := sec0) rfl rfl rfl _ _ rfl secInfo rfl rfl rfl sec0_ok.1 ?_))
  obtain ⟨w4, hw4⟩ : ∃ w4 : World, w4 = w3.alloc (.cells (secA sec0) 31) := ⟨_, rfl⟩
  have HN4 : Hid (New w w4) := Lib.hid (by rw [hw4]; exact HN3.out.al _)
  have HB4 : Hid (Blk w4 w.heap.size 31 (secA s)) := Lib.hid (by rw [hw4]; exact HB3.out.alloc _)
  rw [← hw4]
  clear hw4
  refine (is_err 11 11 w4 rfl).mono ?_
  rintro e w' ⟨rfl, rfl⟩
  go_wp2_with (first
    | ((with_reducible refine atOp ⟨some 27, .load _ _, _, _, _, _⟩ ?_); refine wpList_load_blk (s := s) rfl _ rfl Try.underlying31 rfl rfl HB4.out HS.out.1 ?_))
  refine (write_nil _ _ w4).mono ?_
  rintro e w5 ⟨rfl, hN5⟩
  have HN5 : Hid (New w w5) := Lib.hid (HN4.out.tr hN5)
  clear hN5
  go_wp2_with fail
  refine (is_err 11 11 w5 rfl).mono ?_
  rintro e w' ⟨rfl, rfl⟩
  go_wp2_with fail
  refine (sync_nil w5).mono ?_
  rintro e w' ⟨rfl, rfl⟩
  go_wp2_with fail
  refine (is_err 11 11 w5 rfl).mono ?_
  rintro e w' ⟨rfl, rfl⟩
  go_wp2_with fail
  refine (len_nil w5).mono ?_
  rintro e w' ⟨rfl, rfl⟩
  go_wp2_with fail
  refine (wait_nil w5).mono ?_
  rintro e w' ⟨rfl, rfl⟩
  go_wp2_with fail
  refine (down_nil w5).mono ?_
  rintro e w' ⟨rfl, rfl⟩
  go_wp2_with fail
  refine (dcopy_nil w5).mono ?_
  rintro e w' ⟨rfl, rfl⟩
  go_wp2_with fail
  go_ret
  exact ⟨rfl, HN5.out⟩
theorem nil_law (a : Int) (wf : (Lit.int .i64 a).wf = true) {v : Value} (o : ∃ s, v = .agg (secA s) ∧ SecOk s) (w : World) : Calls Try.prog 5 #[.int .i64 a, v] w fun e w' => e = .returned (.bool true) ∧ Below w.heap.size w w' := by
  obtain ⟨s, rfl, hs⟩ := o
  exact nil_walk a s hs w
end Go.Proofs.Ytpdgnidoglmgcaa
