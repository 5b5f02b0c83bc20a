/- The reference's disk: synced. No condition but that it can be read. -/
import Derived.Test.YtpdgnidoglmgcaaDrC
namespace Go.Proofs.Ytpdgnidoglmgcaa
open Go.RowKit Go.Maps

set_option maxHeartbeats 4000000 in
set_option maxRecDepth 100000 in
theorem rsync_down (r : RP) (A1 : Option Addr) (c1 : Nat) (A2 : Option Addr) (c2 : Nat) (w : World) (h : RfIn w r A1 A2) (hd : r.down = true) :
    Calls Try.prog 28 #[.agg (RfV r A1 c1 A2 c2)] w fun e w' => RfEnd w' r 14 e ∧ New w w' := by
  have H := Lib.hid h
  have HDN := Lib.hid hd
  unfold RfV
  rw [hd]
  clear h hd
  go_enter Try.func28, Try.ntmps28
  go_upto_region 2 with fail
  obtain ⟨w3, hw3⟩ : ∃ w3 : World, w3 = (w.alloc (.cells #[.int .i64 r.size, .slice A1 r.sure.length c1, .slice A2 r.fresh.length c2, .int .i64 r.fuse, .bool true] 48)).alloc (.cells #[.int .i64 0, .slice none 0 0, .slice none 0 0, .int .i64 0, .bool false] 48) := ⟨_, rfl⟩
  obtain ⟨G, hG⟩ : ∃ G, G = w.heap.size := ⟨_, rfl⟩
  rw [← hG]
  have HN3 : Hid (New w w3) := Lib.hid (by rw [hw3]; exact ((New.refl w).al _).al _)
  have HB3 : Hid (Blk w3 G 48 #[.int .i64 r.size, .slice A1 r.sure.length c1, .slice A2 r.fresh.length c2, .int .i64 r.fuse, .bool true]) := Lib.hid (by rw [hw3, hG]; exact (Blk.new _ _ _).alloc _)
  have HR3 : Hid (Blk w3 (G + 1) 48 #[.int .i64 0, .slice none 0 0, .slice none 0 0, .int .i64 0, .bool false]) := Lib.hid (by rw [hw3, hG]; exact Blk.new' _ _ _ (by simp))
  rw [← hw3]
  have HGW : Hid (G = w.heap.size) := Lib.hid hG
  clear hw3 hG
  go_wp2_with (first
    | ((with_reducible refine atOp ⟨some 6, .load _ _, _, _, _, _⟩ ?_); refine wpList_load_any rfl _ rfl Try.underlying48 rfl rfl rfl HB3.out ?_)
    | ((with_reducible refine atOp ⟨none, .store 48 (.tmp 2) _, _, _, _, _⟩ ?_); refine wpList_store_any rfl (.tmp 2) (.tmp 6) rfl rfl rfl rfl HR3.out rfl (rf_one _ _ _ _ _ _ _ _ _) ?_; intro w8 hb8 hf8; have HB8 := Lib.hid hb8; have HF8 := Lib.hid hf8; clear hb8 hf8))
  refine bodyPost_ret (results_row2 rfl _ _ (G + 1) _ _ rfl HB8.out Try.underlying48 rfl rfl) rfl ?_
  refine ⟨⟨A1, c1, A2, c2, ?_, (H.out.new HN3.out).fr HF8.out (fun k hk => by subst hk; exact IsT.not_blk HR3.out (by decide))⟩, HN3.out.fr HF8.out (fun k hk => by have := HGW.out; omega)⟩
  unfold RfV
  rw [HDN.out]
  rfl
set_option maxHeartbeats 4000000 in
set_option maxRecDepth 100000 in
theorem rsync_in (r : RP) (A1 : Option Addr) (c1 : Nat) (A2 : Option Addr) (c2 : Nat) (w : World) (h : RfIn w r A1 A2) (hd : r.down = false) (hn : r.tot ≤ 100000) :
    Calls Try.prog 28 #[.agg (RfV r A1 c1 A2 c2)] w fun e w' => RfEnd w' r.sync 0 e ∧ New w w' := by
  have H := Lib.hid h
  have HDN := Lib.hid hd
  have hn1 : r.sure.length + r.fresh.length ≤ 100000 := hn
  have HW : Hid (r.sync = { r with sure := r.sure ++ r.fresh, fresh := [] }) := Lib.hid (by unfold RP.sync; rw [hd, if_neg (by simp)])
  have HP1 : Hid (∀ u ∈ flatP r.sure, u.oneCell' = true) := Lib.hid (flatP_cell _)
  have HP2 : Hid (∀ u ∈ flatP r.fresh, u.oneCell' = true) := Lib.hid (flatP_cell _)
  unfold RfV
  rw [hd]
  clear h hd hn
  go_enter Try.func28, Try.ntmps28
  go_upto_region 3 with fail
  obtain ⟨w3, hw3⟩ : ∃ w3 : World, w3 = (w.alloc (.cells #[.int .i64 r.size, .slice A1 r.sure.length c1, .slice A2 r.fresh.length c2, .int .i64 r.fuse, .bool false] 48)).alloc (.cells #[.int .i64 0, .slice none 0 0, .slice none 0 0, .int .i64 0, .bool false] 48) := ⟨_, rfl⟩
  obtain ⟨G, hG⟩ : ∃ G, G = w.heap.size := ⟨_, rfl⟩
  rw [← hG]
  have HN3 : Hid (New w w3) := Lib.hid (by rw [hw3]; exact ((New.refl w).al _).al _)
  have HB3 : Hid (Blk w3 G 48 #[.int .i64 r.size, .slice A1 r.sure.length c1, .slice A2 r.fresh.length c2, .int .i64 r.fuse, .bool false]) := Lib.hid (by rw [hw3, hG]; exact (Blk.new _ _ _).alloc _)
  have HR3 : Hid (Blk w3 (G + 1) 48 #[.int .i64 0, .slice none 0 0, .slice none 0 0, .int .i64 0, .bool false]) := Lib.hid (by rw [hw3, hG]; exact Blk.new' _ _ _ (by simp))
  rw [← hw3]
  have HGW : Hid (G = w.heap.size) := Lib.hid hG
  clear hw3 hG
  have hSN : ∀ w', New w3 w' → w'.cell? ⟨G, 1, none⟩ = some (.slice A1 r.sure.length c1) ∧ w'.cell? ⟨G, 2, none⟩ = some (.slice A2 r.fresh.length c2) := fun w' hN => ⟨hN.cell_ (HB3.out.cell 1), hN.cell_ (HB3.out.cell 2)⟩
  refine wp_region_T (fun w' => w'.cell? ⟨G, 1, none⟩ = some (.slice A1 r.sure.length c1) ∧ w'.cell? ⟨G, 2, none⟩ = some (.slice A2 r.fresh.length c2)) 8 (by kernel_rfl) ?_
  refine wpAnyT_take (i := 1) (v := .pointer (some ⟨G, 1, none⟩)) rfl (by kernel_rfl) (by kernel_rfl) (by kernel_rfl) (by kernel_rfl) (fun _ _ _ h => h) (Or.inl ⟨by rfl, fun w hSw => by have h1 := hSw.1; have h2 := hSw.2; clear hSw; go_simp⟩) (hSN _ (by repeat (first | with_reducible exact New.refl _ | with_reducible assumption | with_reducible refine New.dr ?_ | with_reducible refine New.al ?_ _) : New w3 _)) ?_
  try simp only [Act.put, List.setIfInBounds_toArray, List.set_cons_zero, List.set_cons_succ]
  refine wpAnyT_take (i := 2) (v := .slice A1 r.sure.length c1) rfl (by kernel_rfl) (by kernel_rfl) (by kernel_rfl) (by kernel_rfl) (fun _ _ _ h => h) (Or.inl ⟨by rfl, fun w hSw => by have h1 := hSw.1; have h2 := hSw.2; clear hSw; go_simp⟩) (hSN _ (by repeat (first | with_reducible exact New.refl _ | with_reducible assumption | with_reducible refine New.dr ?_ | with_reducible refine New.al ?_ _) : New w3 _)) ?_
  try simp only [Act.put, List.setIfInBounds_toArray, List.set_cons_zero, List.set_cons_succ]
  refine wpAnyT_take (i := 4) (v := .pointer (some ⟨G, 2, none⟩)) rfl (by kernel_rfl) (by kernel_rfl) (by kernel_rfl) (by kernel_rfl) (fun _ _ _ h => h) (Or.inl ⟨by rfl, fun w hSw => by have h1 := hSw.1; have h2 := hSw.2; clear hSw; go_simp⟩) (hSN _ (by repeat (first | with_reducible exact New.refl _ | with_reducible assumption | with_reducible refine New.dr ?_ | with_reducible refine New.al ?_ _) : New w3 _)) ?_
  try simp only [Act.put, List.setIfInBounds_toArray, List.set_cons_zero, List.set_cons_succ]
  refine wpAnyT_take (i := 5) (v := .slice A2 r.fresh.length c2) rfl (by kernel_rfl) (by kernel_rfl) (by kernel_rfl) (by kernel_rfl) (fun _ _ _ h => h) (Or.inl ⟨by rfl, fun w hSw => by have h1 := hSw.1; have h2 := hSw.2; clear hSw; go_simp⟩) (hSN _ (by repeat (first | with_reducible exact New.refl _ | with_reducible assumption | with_reducible refine New.dr ?_ | with_reducible refine New.al ?_ _) : New w3 _)) ?_
  try simp only [Act.put, List.setIfInBounds_toArray, List.set_cons_zero, List.set_cons_succ]
  refine wpAnyT_ready (rs := [0]) (by kernel_rfl) (by simp) (AllT.cons (i := 0) rfl (fun K hK => ?_) AllT.nil)
  go_simp
  try simp only [Act.put, List.setIfInBounds_toArray, List.set_cons_zero, List.set_cons_succ]
  refine hK.out _ _ (fun _ => hSN _ (by repeat (first | with_reducible exact New.refl _ | with_reducible assumption | with_reducible refine New.dr ?_ | with_reducible refine New.al ?_ _) : New w3 _)) ?_
  refine wpAnyT_ready (rs := [3]) (by kernel_rfl) (by simp) (AllT.cons (i := 3) rfl (fun K hK => ?_) AllT.nil)
  refine step_app elP _ (by rfl) (.tmp 7) (.tmp 9) (by rfl) w3.heap.size (.slice (some ⟨_, 0, none⟩) 0 0) 0 [] (by rfl) (own_lit (by repeat (first | with_reducible exact Blk.new' _ _ _ (by first | rfl | (simp; done)) | with_reducible refine Blk.drew ?_ | with_reducible refine Blk.alloc ?_ _ | with_reducible refine Blk.fr ?_ hF1 (by simp [Value.ownBlock]))) (by first | (simp; done) | (simp; omega))) A1 r.sure.length c1 (flatP r.sure) (by rfl) ((by repeat (first | with_reducible exact New.refl _ | with_reducible assumption | with_reducible refine New.dr ?_ | with_reducible refine New.al ?_ _) : New w3 _).rd (H.out.new HN3.out).sure) HP1.out (by unfold maxLen; omega) (by omega) (by first | (simp; done) | (simp; omega)) ?_
  intro A1' d1 w5 hO1 hF1 hA1
  have hN1 : New w3 w5 := (by repeat (first | with_reducible exact New.refl _ | with_reducible assumption | with_reducible refine New.dr ?_ | with_reducible refine New.al ?_ _) : New w3 _).fr hF1 (by intro k hk; simp [Value.ownBlock] at hk; omega)
  rw [Nat.zero_add, List.nil_append] at hO1
  rw [Nat.zero_add] at hA1
  rw [Nat.zero_add]
  try simp only [Act.put, List.setIfInBounds_toArray, List.set_cons_zero, List.set_cons_succ]
  refine hK.out _ _ (fun _ => hSN _ (by repeat (first | with_reducible exact New.refl _ | with_reducible assumption | with_reducible refine New.dr ?_ | with_reducible refine New.al ?_ _) : New w3 _)) ?_
  refine wpAnyT_ready (rs := [6]) (by kernel_rfl) (by simp) (AllT.cons (i := 6) rfl (fun K hK => ?_) AllT.nil)
  refine step_app elP _ (by rfl) (.tmp 10) (.tmp 12) (by rfl) w3.heap.size (.slice A1' r.sure.length d1) r.sure.length (flatP r.sure) (by rfl) (own_fr (S := NoB) hO1 (by repeat (first | with_reducible exact Fr.refl _ _ | with_reducible refine Fr.drew ?_ | with_reducible refine Fr.alloc ?_ _)) (fun _ _ h => h)) A2 r.fresh.length c2 (flatP r.fresh) (by rfl) ((by repeat (first | with_reducible exact New.refl _ | with_reducible assumption | with_reducible refine New.dr ?_ | with_reducible refine New.al ?_ _) : New w3 _).rd (H.out.new HN3.out).fresh) HP2.out (by unfold maxLen; omega) (by omega) ((by repeat (first | with_reducible exact New.refl _ | with_reducible assumption | with_reducible refine New.dr ?_ | with_reducible refine New.al ?_ _) : New w3 _).size) ?_
  intro A2' d2' w6 hO2 hF2 hA2
  have hN2 : New w3 w6 := (by repeat (first | with_reducible exact New.refl _ | with_reducible assumption | with_reducible refine New.dr ?_ | with_reducible refine New.al ?_ _) : New w3 _).fr hF2 (by intro k hk; exact (own_lt hO1 k hk).1)
  have HO2 := Lib.hid hO2
  have hK6 := hN2.blk HB3.out
  have h60 := hK6.cell 1
  have h6f := hK6.frozen 1
  clear hO2 hA2 hF2 hA1 hO1 hF1
  try simp only [Act.put, List.setIfInBounds_toArray, List.set_cons_zero, List.set_cons_succ]
  refine hK.out _ _ (fun _ => hSN _ (by repeat (first | with_reducible exact New.refl _ | with_reducible assumption | with_reducible refine New.dr ?_ | with_reducible refine New.al ?_ _) : New w3 _)) ?_
  refine wpAnyT_take (i := 7) (v := .pointer (some ⟨G, 1, none⟩)) rfl (by kernel_rfl) (by kernel_rfl) (by kernel_rfl) (by kernel_rfl) (fun _ _ _ h => h) (Or.inl ⟨by rfl, fun w hSw => by have h1 := hSw.1; have h2 := hSw.2; clear hSw; go_simp⟩) (hSN _ (by repeat (first | with_reducible exact New.refl _ | with_reducible assumption | with_reducible refine New.dr ?_ | with_reducible refine New.al ?_ _) : New w3 _)) ?_
  try simp only [Act.put, List.setIfInBounds_toArray, List.set_cons_zero, List.set_cons_succ]
  refine wpAnyT_ready (rs := [8]) (by kernel_rfl) (by simp) (AllT.cons (i := 8) rfl (fun K hK => ?_) AllT.nil)
  go_simp
  try simp only [Act.put, List.setIfInBounds_toArray, List.set_cons_zero, List.set_cons_succ]
  refine hK.out _ _ (fun h => absurd rfl h) ?_
  refine wpAnyT_done (by kernel_rfl) ?_ _
  obtain ⟨w7, hw7⟩ : ∃ w7 : World, w7 = w6.setCell ⟨G, 1, none⟩ (.slice A2' (r.sure.length + r.fresh.length) d2') := ⟨_, rfl⟩
  have HB7 : Hid (Blk w7 G 48 #[.int .i64 r.size, .slice A2' (r.sure.length + r.fresh.length) d2', .slice A2 r.fresh.length c2, .int .i64 r.fuse, .bool false]) := Lib.hid (by rw [hw7]; exact hK6.set 1 _)
  have HF7 : Hid (Fr (fun k => k = G) w6 w7) := Lib.hid (by rw [hw7]; exact (Fr.refl (fun k => k = G) w6).setCell (p := ⟨G, 1, none⟩) (fun _ => rfl) _)
  have HN2 := Lib.hid hN2
  have HK6 := Lib.hid hK6
  have i72 := HB7.out.cell 2
  have q72 := HB7.out.frozen 2
  try rw [← hw7]
  clear hw7 hK6 h60 h6f hN2 hN1 hSN
  go_upto_region 5 with fail
  obtain ⟨w9, hw9⟩ : ∃ w9 : World, w9 = w7.setCell ⟨G, 2, none⟩ (.slice none 0 0) := ⟨_, rfl⟩
  have HB9 : Hid (Blk w9 G 48 #[.int .i64 r.size, .slice A2' (r.sure.length + r.fresh.length) d2', .slice none 0 0, .int .i64 r.fuse, .bool false]) := Lib.hid (by rw [hw9]; exact HB7.out.set 2 _)
  have HF9 : Hid (Fr (fun k => k = G) w6 w9) := Lib.hid (by rw [hw9]; exact HF7.out.setCell (p := ⟨G, 2, none⟩) (fun _ => rfl) _)
  have HR9 := Lib.hid ((New.blk HN2.out HR3.out).fr HF9.out (by omega))
  try rw [← hw9]
  clear hw9 i72 q72
  go_wp2_with (first
    | ((with_reducible refine atOp ⟨some 16, .load _ _, _, _, _, _⟩ ?_); refine wpList_load_any rfl _ rfl Try.underlying48 rfl rfl rfl HB9.out ?_)
    | ((with_reducible refine atOp ⟨none, .store 48 (.tmp 2) _, _, _, _, _⟩ ?_); refine wpList_store_any rfl (.tmp 2) (.tmp 16) rfl rfl rfl rfl HR9.out rfl (rf_one _ _ _ _ _ _ _ _ _) ?_; intro w8 hb8 hf8; have HB8 := Lib.hid hb8; have HF8 := Lib.hid hf8; clear hb8 hf8))
  refine bodyPost_ret (results_row2 rfl _ _ (G + 1) _ _ rfl HB8.out Try.underlying48 rfl rfl) rfl ?_
  have hF68 : Fr (fun k => k = G ∨ k = G + 1) w6 w8 := (HF9.out.mono fun b _ h => .inl h).trans (HF8.out.mono fun b _ h => .inr h)
  have hN8 : New w w8 := (HN3.out.tr HN2.out).fr hF68 (fun k hk => by have := HGW.out; omega)
  refine ⟨⟨A2', d2', none, 0, ?_, ?_⟩, hN8⟩
  · rw [HW.out]
    unfold RfV
    simp only [List.length_append, List.length_nil]
    rw [HDN.out]
    rfl
  · rw [HW.out]
    refine ⟨?_, RdT.nil, ?_⟩
    · have h6 : RdT 75 w6 65 A2' (r.sure.length + r.fresh.length) (flatP (r.sure ++ r.fresh)) := by
        have := RdT.own HO2.out rfl
        rw [flatP_app]
        exact this
      have := h6.fr hF68 (fun k hk => by rcases hk with rfl | rfl <;> first | exact IsT.not_blk HK6.out (by decide) | exact IsT.not_blk (New.blk HN2.out HR3.out) (by decide))
      simpa using this
    · rw [← HW.out]; exact H.out.ok.sync
theorem rsync_any (r : RP) (A1 : Option Addr) (c1 : Nat) (A2 : Option Addr) (c2 : Nat) (w : World) (h : RfIn w r A1 A2) (hn : r.tot ≤ 100000) :
    Calls Try.prog 28 #[.agg (RfV r A1 c1 A2 c2)] w fun e w' => RfEnd w' r.sync r.scode e ∧ New w w' := by
  cases hd : r.down with
  | true =>
    rw [show r.sync = r from by unfold RP.sync; rw [hd, if_pos rfl], show r.scode = 14 from by unfold RP.scode; rw [hd, if_pos rfl]]
    exact rsync_down r A1 c1 A2 c2 w h hd
  | false =>
    rw [show r.scode = 0 from by unfold RP.scode; rw [hd, if_neg (by simp)]]
    exact rsync_in r A1 c1 A2 c2 w h hd hn
end Go.Proofs.Ytpdgnidoglmgcaa
