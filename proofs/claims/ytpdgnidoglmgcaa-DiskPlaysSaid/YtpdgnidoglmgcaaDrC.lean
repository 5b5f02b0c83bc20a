/- The reference's disk: written in whatever state. No condition but that it can be read. -/
import Derived.Test.YtpdgnidoglmgcaaDrB
namespace Go.Proofs.Ytpdgnidoglmgcaa
open Go.RowKit Go.Maps

set_option maxHeartbeats 4000000 in
set_option maxRecDepth 100000 in
theorem rwrite_no (r : RP) (A1 : Option Addr) (c1 : Nat) (A2 : Option Addr) (c2 : Nat) (x : Int) (s : List Int) (w : World) (h : RfIn w r A1 A2) (hs : SecOk s) (hx : (Lit.int .i64 x).wf = true) (hz : -9223372036854775808 ≤ r.size ∧ r.size ≤ 9223372036854775807) (hw : ¬ (0 ≤ x ∧ x < r.size)) :
    Calls Try.prog 27 #[.agg (RfV r A1 c1 A2 c2), .int .i64 x, .agg (secA s)] w fun e w' => RfEnd w' r 1 e ∧ New w w' := by
  have H := Lib.hid h
  have hxb := bounds_i64 hx
  have ht : decide (x < 0) = true ∨ (decide (x < 0) = false ∧ decide (r.size ≤ x) = true) := by
    by_cases h0 : x < 0
    · exact .inl (decide_eq_true h0)
    · exact .inr ⟨decide_eq_false h0, decide_eq_true (by omega)⟩
  unfold RfV
  clear h hx hw hs
  rcases ht with t0 | ⟨t0, t1⟩
  all_goals
    go_enter Try.func27, Try.ntmps27
    go_upto_region 2 with fail
    obtain ⟨w3, hw3⟩ : ∃ w3 : World, w3 = ((w.alloc (.cells #[.int .i64 r.size, .slice A1 r.sure.length c1, .slice A2 r.fresh.length c2, .int .i64 r.fuse, .bool r.down] 48)).alloc (.cells (secA s) 31)).alloc (.cells #[.int .i64 0, .slice none 0 0, .slice none 0 0, .int .i64 0, .bool false] 48) := ⟨_, rfl⟩
    obtain ⟨G, hG⟩ : ∃ G, G = w.heap.size := ⟨_, rfl⟩
    rw [← hG]
    have HN3 : Hid (New w w3) := Lib.hid (by rw [hw3]; exact (((New.refl w).al _).al _).al _)
    have HB3 : Hid (Blk w3 G 48 #[.int .i64 r.size, .slice A1 r.sure.length c1, .slice A2 r.fresh.length c2, .int .i64 r.fuse, .bool r.down]) := Lib.hid (by rw [hw3, hG]; exact ((Blk.new _ _ _).alloc _).alloc _)
    have HR3 : Hid (Blk w3 (G + 1 + 1) 48 #[.int .i64 0, .slice none 0 0, .slice none 0 0, .int .i64 0, .bool false]) := Lib.hid (by rw [hw3, hG]; exact Blk.new' _ _ _ (by simp))
    rw [← hw3]
    have HGW : Hid (G = w.heap.size) := Lib.hid hG
    clear hw3 hG
    go_wp2_with (first
      | ((with_reducible refine atOp ⟨some 16, .load _ _, _, _, _, _⟩ ?_); refine wpList_load_any rfl _ rfl Try.underlying48 rfl rfl rfl HB3.out ?_)
      | ((with_reducible refine atOp ⟨none, .store 48 (.tmp 6) _, _, _, _, _⟩ ?_); refine wpList_store_any rfl (.tmp 6) (.tmp 16) rfl rfl rfl rfl HR3.out rfl (rf_one _ _ _ _ _ _ _ _ _) ?_; intro w8 hb8 hf8; have HB8 := Lib.hid hb8; have HF8 := Lib.hid hf8; clear hb8 hf8))
    refine bodyPost_ret (results_row2 rfl _ _ (G + 1 + 1) _ _ rfl HB8.out Try.underlying48 rfl rfl) rfl ?_
    refine ⟨⟨A1, c1, A2, c2, rfl, (H.out.new HN3.out).fr HF8.out (fun k hk => by subst hk; exact IsT.not_blk HR3.out (by decide))⟩, HN3.out.fr HF8.out (fun k hk => by have := HGW.out; omega)⟩
set_option maxHeartbeats 4000000 in
set_option maxRecDepth 100000 in
theorem rwrite_down (r : RP) (A1 : Option Addr) (c1 : Nat) (A2 : Option Addr) (c2 : Nat) (x : Int) (s : List Int) (w : World) (h : RfIn w r A1 A2) (hs : SecOk s) (hx : (Lit.int .i64 x).wf = true) (hw : 0 ≤ x ∧ x < r.size) (hd : r.fuse = 0 ∨ r.down = true) :
    Calls Try.prog 27 #[.agg (RfV r A1 c1 A2 c2), .int .i64 x, .agg (secA s)] w fun e w' => RfEnd w' { r with down := true } 14 e ∧ New w w' := by
  have H := Lib.hid h
  have hxb := bounds_i64 hx
  have t0 : decide (x < 0) = false := decide_eq_false (by omega)
  have t1 : decide (r.size ≤ x) = false := decide_eq_false (by omega)
  obtain ⟨dn, hdn⟩ : ∃ dn, dn = r.down := ⟨_, rfl⟩
  have ht : (r.fuse == 0) = true ∨ ((r.fuse == 0) = false ∧ dn = true) := by
    by_cases h0 : r.fuse = 0
    · exact .inl (by simp [h0])
    · exact .inr ⟨by simp [h0], by rw [hdn]; exact hd.resolve_left h0⟩
  unfold RfV
  rw [← hdn]
  clear h hx hw hs hd hdn
  have ht2 : (dn = false ∧ (r.fuse == 0) = true) ∨ (dn = true ∧ (r.fuse == 0) = true) ∨ (dn = true ∧ (r.fuse == 0) = false) := by
    rcases ht with h | ⟨h1, h2⟩
    · cases dn
      · exact .inl ⟨rfl, h⟩
      · exact .inr (.inl ⟨rfl, h⟩)
    · exact .inr (.inr ⟨h2, h1⟩)
  clear ht
  rcases ht2 with ⟨rfl, t2⟩ | ⟨rfl, t2⟩ | ⟨rfl, t2⟩
  all_goals
    go_enter Try.func27, Try.ntmps27
    go_upto_region 4 with fail
    obtain ⟨G, hG⟩ : ∃ G, G = w.heap.size := ⟨_, rfl⟩
    rw [← hG]
    first
      | (obtain ⟨dd, hdd⟩ : ∃ dd, dd = true := ⟨_, rfl⟩; obtain ⟨w3, hw3⟩ : ∃ w3 : World, w3 = ((w.alloc (.cells #[.int .i64 r.size, .slice A1 r.sure.length c1, .slice A2 r.fresh.length c2, .int .i64 r.fuse, .bool true] 48)).alloc (.cells (secA s) 31)).alloc (.cells #[.int .i64 0, .slice none 0 0, .slice none 0 0, .int .i64 0, .bool false] 48) := ⟨_, rfl⟩; rw [← hw3]; have hw4 : w3 = ((w.alloc (.cells #[.int .i64 r.size, .slice A1 r.sure.length c1, .slice A2 r.fresh.length c2, .int .i64 r.fuse, .bool dd] 48)).alloc (.cells (secA s) 31)).alloc (.cells #[.int .i64 0, .slice none 0 0, .slice none 0 0, .int .i64 0, .bool false] 48) := by rw [hw3, hdd]
         clear hw3; have hw3 := hw4; clear hw4; have HDD := Lib.hid hdd; clear hdd)
      | (obtain ⟨dd, hdd⟩ : ∃ dd, dd = false := ⟨_, rfl⟩; obtain ⟨w3, hw3⟩ : ∃ w3 : World, w3 = ((w.alloc (.cells #[.int .i64 r.size, .slice A1 r.sure.length c1, .slice A2 r.fresh.length c2, .int .i64 r.fuse, .bool false] 48)).alloc (.cells (secA s) 31)).alloc (.cells #[.int .i64 0, .slice none 0 0, .slice none 0 0, .int .i64 0, .bool false] 48) := ⟨_, rfl⟩; rw [← hw3]; have hw4 : w3 = ((w.alloc (.cells #[.int .i64 r.size, .slice A1 r.sure.length c1, .slice A2 r.fresh.length c2, .int .i64 r.fuse, .bool dd] 48)).alloc (.cells (secA s) 31)).alloc (.cells #[.int .i64 0, .slice none 0 0, .slice none 0 0, .int .i64 0, .bool false] 48) := by rw [hw3, hdd]
         clear hw3; have hw3 := hw4; clear hw4; have HDD := Lib.hid hdd; clear hdd)
    have HN3 : Hid (New w w3) := Lib.hid (by rw [hw3]; exact (((New.refl w).al _).al _).al _)
    have HB3 : Hid (Blk w3 G 48 #[.int .i64 r.size, .slice A1 r.sure.length c1, .slice A2 r.fresh.length c2, .int .i64 r.fuse, .bool dd]) := Lib.hid (by rw [hw3, hG]; exact ((Blk.new _ _ _).alloc _).alloc _)
    have HR3 : Hid (Blk w3 (G + 1 + 1) 48 #[.int .i64 0, .slice none 0 0, .slice none 0 0, .int .i64 0, .bool false]) := Lib.hid (by rw [hw3, hG]; exact Blk.new' _ _ _ (by simp))
    have HGW : Hid (G = w.heap.size) := Lib.hid hG
    have i4 := HB3.out.cell 4
    have q4 := HB3.out.frozen 4
    clear hw3 hG
    go_upto_region 5 with fail
    obtain ⟨w4, hw4⟩ : ∃ w4 : World, w4 = w3.setCell ⟨G, 4, none⟩ (.bool true) := ⟨_, rfl⟩
    have HB4 : Hid (Blk w4 G 48 #[.int .i64 r.size, .slice A1 r.sure.length c1, .slice A2 r.fresh.length c2, .int .i64 r.fuse, .bool true]) := Lib.hid (by rw [hw4]; exact HB3.out.set 4 _)
    have HF4 : Hid (Fr (fun k => k = G) w3 w4) := Lib.hid (by rw [hw4]; exact (Fr.refl (fun k => k = G) w3).setCell (p := ⟨G, 4, none⟩) (fun _ => rfl) _)
    have HR4 := Lib.hid (HR3.out.fr HF4.out (by omega))
    rw [← hw4]
    clear hw4 i4 q4
    go_wp2_with (first
      | ((with_reducible refine atOp ⟨some 25, .load _ _, _, _, _, _⟩ ?_); refine wpList_load_any rfl _ rfl Try.underlying48 rfl rfl rfl HB4.out ?_)
      | ((with_reducible refine atOp ⟨none, .store 48 (.tmp 6) _, _, _, _, _⟩ ?_); refine wpList_store_any rfl (.tmp 6) (.tmp 25) rfl rfl rfl rfl HR4.out rfl (rf_one _ _ _ _ _ _ _ _ _) ?_; intro w8 hb8 hf8; have HB8 := Lib.hid hb8; have HF8 := Lib.hid hf8; clear hb8 hf8))
    refine bodyPost_ret (results_row2 rfl _ _ (G + 1 + 1) _ _ rfl HB8.out Try.underlying48 rfl rfl) rfl ?_
    have hF38 : Fr (fun k => k = G ∨ k = G + 1 + 1) w3 w8 := (HF4.out.mono fun b _ h => .inl h).trans (HF8.out.mono fun b _ h => .inr h)
    have hI := (H.out.new HN3.out).fr hF38 (fun k hk => by rcases hk with rfl | rfl <;> first | exact IsT.not_blk HB3.out (by decide) | exact IsT.not_blk HR3.out (by decide))
    exact ⟨⟨A1, c1, A2, c2, rfl, ⟨hI.sure, hI.fresh, hI.ok⟩⟩, HN3.out.fr hF38 (fun k hk => by have := HGW.out; omega)⟩
/-- Write, whole. -/
theorem rwrite_any (r : RP) (A1 : Option Addr) (c1 : Nat) (A2 : Option Addr) (c2 : Nat) (x : Int) (s : List Int) (w : World) (h : RfIn w r A1 A2) (hs : SecOk s) (hn : r.tot ≤ 100000) (hx : (Lit.int .i64 x).wf = true) (hf : (Lit.int .i64 r.fuse).wf = true) (hz : -9223372036854775808 ≤ r.size ∧ r.size ≤ 9223372036854775807) :
    Calls Try.prog 27 #[.agg (RfV r A1 c1 A2 c2), .int .i64 x, .agg (secA s)] w fun e w' => RfEnd w' (r.write x s) (r.wcode x) e ∧ New w w' := by
  by_cases hw : 0 ≤ x ∧ x < r.size
  · have e1 : r.within x = true := decide_eq_true hw
    by_cases hd : r.fuse = 0 ∨ r.down = true
    · have : r.write x s = { r with down := true } := by unfold RP.write; rw [e1, if_pos rfl, if_pos hd]
      rw [this, show r.wcode x = 14 from by unfold RP.wcode; rw [e1, if_pos rfl, if_pos hd]]
      exact rwrite_down r A1 c1 A2 c2 x s w h hs hx hw hd
    · rw [show r.wcode x = 0 from by unfold RP.wcode; rw [e1, if_pos rfl, if_neg hd]]
      exact rwrite_in r A1 c1 A2 c2 x s w h hs hn hx hf hw hd
  · have e1 : r.within x = false := decide_eq_false hw
    rw [show r.write x s = r from by unfold RP.write; rw [e1, if_neg (by simp)], show r.wcode x = 1 from by unfold RP.wcode; rw [e1, if_neg (by simp)]]
    exact rwrite_no r A1 c1 A2 c2 x s w h hs hx hz hw
end Go.Proofs.Ytpdgnidoglmgcaa
