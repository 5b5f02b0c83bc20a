/- The reference's disk: the power cut. No condition but that it can be read. -/
import Derived.Test.YtpdgnidoglmgcaaDrE
import Derived.Deep.CutBlock
namespace Go.Proofs.Ytpdgnidoglmgcaa
open Go.RowKit Go.Maps

theorem rInfo : (Try.prog.info? 48).map (fun i => (i.zero, i.size)) = some (some (.agg #[.int .i64 0, .slice none 0 0, .slice none 0 0, .int .i64 0, .bool false]), 5) := by kernel_rfl
/-- The disk that Cut makes, at block g. -/
def CutI (w3 : World) (size : Int) (g : Nat) (L : List PU) (wx : World) : Prop := ∃ A c, Blk wx g 48 #[.int .i64 size, .slice A L.length c, .slice none 0 0, .int .i64 (-1), .bool false] ∧ wx.ownsRow w3.heap.size 75 65 (.slice A L.length c) L.length (flatP L) ∧ New w3 wx ∧ w3.heap.size ≤ g
theorem cutR_skip {r : RP} {keep : List Bool} {j : Nat} (h : keep.getD j false = false) : cutR r keep (j + 1) = cutR r keep j := by simp only [cutR, h]; rfl
theorem cutR_stop {r : RP} {keep : List Bool} {j : Nat} (h : keep.length ≤ j) : ∀ k, cutR r keep (j + k) = cutR r keep j
  | 0 => rfl
  | k + 1 => by
    rw [← Nat.add_assoc, cutR_skip (by rw [List.getD_eq_getElem?_getD, List.getElem?_eq_none (by omega)]; rfl)]
    exact cutR_stop h k
theorem cutR_take {r : RP} {keep : List Bool} {j : Nat} (h : keep.getD j false = true) : cutR r keep (j + 1) = cutR r keep j ++ [⟨(waits r.fresh).getD j 0, getS r.fresh ((waits r.fresh).getD j 0)⟩] := by simp only [cutR, h, if_true]; rfl

set_option maxHeartbeats 8000000 in
set_option maxRecDepth 100000 in
theorem rcut_any (r : RP) (A1 : Option Addr) (c1 : Nat) (A2 : Option Addr) (c2 : Nat) {q : Nat → Prop} (A : Option Addr) (n c : Nat) (keep : List Bool) (w : World) (h : RfIn w r A1 A2) (hR : Rd q w 1 A n (bools keep)) (hq : ∀ k, q k → k < w.heap.size) (hn : r.tot ≤ 10000) (hn2 : n ≤ maxLen) :
    Calls Try.prog 29 #[.agg (RfV r A1 c1 A2 c2), .slice A n c] w fun e w' => RfEnd1 w' (r.cut keep) e ∧ New w w' := by
  have H := Lib.hid h
  have HR := Lib.hid hR
  have HQ := Lib.hid hq
  have hkl : keep.length = n := by have := hR.1; rw [bools_len] at this; omega
  have HKL := Lib.hid hkl
  have hn1 : r.sure.length + r.fresh.length ≤ 10000 := hn
  unfold maxLen at hn2
  have HP1 : Hid (∀ u ∈ flatP r.sure, u.oneCell' = true) := Lib.hid (flatP_cell _)
  unfold RfV
  clear h hR hkl hn hq
  go_enter Try.func29, Try.ntmps29
  go_upto_region 1 with fail
  obtain ⟨w3, hw3⟩ : ∃ w3 : World, w3 = (w.alloc (.cells #[.int .i64 r.size, .slice A1 r.sure.length c1, .slice A2 r.fresh.length c2, .int .i64 r.fuse, .bool r.down] 48)).alloc (.cells #[.int .i64 0, .slice none 0 0, .slice none 0 0, .int .i64 0, .bool false] 48) := ⟨_, rfl⟩
  obtain ⟨G, hG⟩ : ∃ G, G = w.heap.size := ⟨_, rfl⟩
  rw [← hG]
  have HN3 : Hid (New w w3) := Lib.hid (by rw [hw3]; exact ((New.refl w).al _).al _)
  have HB3 : Hid (Blk w3 G 48 #[.int .i64 r.size, .slice A1 r.sure.length c1, .slice A2 r.fresh.length c2, .int .i64 r.fuse, .bool r.down]) := Lib.hid (by rw [hw3, hG]; exact (Blk.new _ _ _).alloc _)
  have HR3 : Hid (Blk w3 (G + 1) 48 #[.int .i64 0, .slice none 0 0, .slice none 0 0, .int .i64 0, .bool false]) := Lib.hid (by rw [hw3, hG]; exact Blk.new' _ _ _ (by simp))
  rw [← hw3]
  have HGW : Hid (G = w.heap.size) := Lib.hid hG
  clear hw3 hG
  go_cut [5] (fun s5 wx => ∃ gX, s5 = .pointer (some ⟨gX, 0, none⟩) ∧ Hid (CutI w3 r.size gX r.sure wx))
  case first =>
    have hSN : ∀ w', New w3 w' → w'.cell? ⟨G, 0, none⟩ = some (.int .i64 r.size) ∧ w'.cell? ⟨G, 1, none⟩ = some (.slice A1 r.sure.length c1) := fun w' hN => ⟨hN.cell_ (HB3.out.cell 0), hN.cell_ (HB3.out.cell 1)⟩
    refine wp_region_T (fun w' => w'.cell? ⟨G, 0, none⟩ = some (.int .i64 r.size) ∧ w'.cell? ⟨G, 1, none⟩ = some (.slice A1 r.sure.length c1)) 8 (by kernel_rfl) ?_
    refine wpAnyT_take (i := 0) (oi := ⟨_, _, _, _, _, _⟩) (v := .pointer (some ⟨G, 0, none⟩)) rfl (by kernel_rfl) (by kernel_rfl) (by kernel_rfl) (by kernel_rfl) (fun _ _ _ h => h) (Or.inl ⟨by rfl, fun w hSw => by have h1 := hSw.1; have h2 := hSw.2; clear hSw; go_simp⟩) (hSN _ (by repeat (first | with_reducible exact New.refl _ | with_reducible assumption | with_reducible refine New.dr ?_ | with_reducible refine New.al ?_ _) : New w3 _)) ?_
    try simp only [Act.put, List.setIfInBounds_toArray, List.set_cons_zero, List.set_cons_succ]
    refine wpAnyT_take (i := 1) (oi := ⟨_, _, _, _, _, _⟩) (v := .int .i64 r.size) rfl (by kernel_rfl) (by kernel_rfl) (by kernel_rfl) (by kernel_rfl) (fun _ _ _ h => h) (Or.inl ⟨by rfl, fun w hSw => by have h1 := hSw.1; have h2 := hSw.2; clear hSw; go_simp⟩) (hSN _ (by repeat (first | with_reducible exact New.refl _ | with_reducible assumption | with_reducible refine New.dr ?_ | with_reducible refine New.al ?_ _) : New w3 _)) ?_
    try simp only [Act.put, List.setIfInBounds_toArray, List.set_cons_zero, List.set_cons_succ]
    refine wpAnyT_take (i := 3) (oi := ⟨_, _, _, _, _, _⟩) (v := .pointer (some ⟨G, 1, none⟩)) rfl (by kernel_rfl) (by kernel_rfl) (by kernel_rfl) (by kernel_rfl) (fun _ _ _ h => h) (Or.inl ⟨by rfl, fun w hSw => by have h1 := hSw.1; have h2 := hSw.2; clear hSw; go_simp⟩) (hSN _ (by repeat (first | with_reducible exact New.refl _ | with_reducible assumption | with_reducible refine New.dr ?_ | with_reducible refine New.al ?_ _) : New w3 _)) ?_
    try simp only [Act.put, List.setIfInBounds_toArray, List.set_cons_zero, List.set_cons_succ]
    refine wpAnyT_take (i := 4) (oi := ⟨_, _, _, _, _, _⟩) (v := .slice A1 r.sure.length c1) rfl (by kernel_rfl) (by kernel_rfl) (by kernel_rfl) (by kernel_rfl) (fun _ _ _ h => h) (Or.inl ⟨by rfl, fun w hSw => by have h1 := hSw.1; have h2 := hSw.2; clear hSw; go_simp⟩) (hSN _ (by repeat (first | with_reducible exact New.refl _ | with_reducible assumption | with_reducible refine New.dr ?_ | with_reducible refine New.al ?_ _) : New w3 _)) ?_
    try simp only [Act.put, List.setIfInBounds_toArray, List.set_cons_zero, List.set_cons_succ]
    refine wpAnyT_ready (rs := [2, 7]) (by kernel_rfl) (by simp) (AllT.cons (i := 2) (o := ⟨_, _, _, _, _, _⟩) rfl (fun K hK => ?_) (AllT.cons (i := 7) (o := ⟨_, _, _, _, _, _⟩) rfl (fun K hK => ?_) AllT.nil))
    · skip
      go_simp
      try simp only [Act.put, List.setIfInBounds_toArray, List.set_cons_zero, List.set_cons_succ]
      refine hK.out _ _ (fun _ => hSN _ (by repeat (first | with_reducible exact New.refl _ | with_reducible assumption | with_reducible refine New.dr ?_ | with_reducible refine New.al ?_ _) : New w3 _)) ?_
      refine wpAnyT_ready (rs := [5, 7]) (by kernel_rfl) (by simp) (AllT.cons (i := 5) (o := ⟨_, _, _, _, _, _⟩) rfl (fun K hK => ?_) (AllT.cons (i := 7) (o := ⟨_, _, _, _, _, _⟩) rfl (fun K hK => ?_) AllT.nil))
      · skip
        refine step_app elP _ (by rfl) (.tmp 12) (.tmp 14) (by rfl) w3.heap.size (.slice (some ⟨_, 0, none⟩) 0 0) 0 [] (by rfl) (own_lit (by repeat (first | with_reducible exact Blk.new' _ _ _ (by first | rfl | (simp; done)) | with_reducible refine Blk.drew ?_ | with_reducible refine Blk.alloc ?_ _ | with_reducible refine Blk.fr ?_ hF1 (by simp [Value.ownBlock]) | with_reducible refine New.blk hNX ?_)) (by first | omega | (simp; done) | (simp; omega))) A1 r.sure.length c1 (flatP r.sure) (by rfl) ((by repeat (first | with_reducible exact New.refl _ | with_reducible assumption | with_reducible refine New.dr ?_ | with_reducible refine New.al ?_ _) : New w3 _).rd (H.out.new HN3.out).sure) HP1.out (by unfold maxLen; omega) (by omega) (by first | omega | (simp; done) | (simp; omega)) ?_
        intro A1' d1 w5 hO1 hF1 hA1
        have hN1 : New w3 w5 := (by repeat (first | with_reducible exact New.refl _ | with_reducible assumption | with_reducible refine New.dr ?_ | with_reducible refine New.al ?_ _) : New w3 _).fr hF1 (by intro k hk; simp [Value.ownBlock] at hk; omega)
        rw [Nat.zero_add, List.nil_append] at hO1
        rw [Nat.zero_add] at hA1
        rw [Nat.zero_add]
        try simp only [Act.put, List.setIfInBounds_toArray, List.set_cons_zero, List.set_cons_succ]
        refine hK.out _ _ (fun _ => hSN _ (by repeat (first | with_reducible exact New.refl _ | with_reducible assumption | with_reducible refine New.dr ?_ | with_reducible refine New.al ?_ _) : New w3 _)) ?_
        refine wpAnyT_take (i := 6) (oi := ⟨_, _, _, _, _, _⟩) (v := (.agg #[.int .i64 r.size, .slice A1' r.sure.length d1, .slice none 0 0, .int .i64 (-1), .bool false])) rfl (by kernel_rfl) (by kernel_rfl) (by kernel_rfl) (by kernel_rfl) (fun _ _ _ h => h) (Or.inl ⟨by rfl, fun w hSw => by have h1 := hSw.1; have h2 := hSw.2; clear hSw; go_simp⟩) (hSN _ (by repeat (first | with_reducible exact New.refl _ | with_reducible assumption | with_reducible refine New.dr ?_ | with_reducible refine New.al ?_ _) : New w3 _)) ?_
        try simp only [Act.put, List.setIfInBounds_toArray, List.set_cons_zero, List.set_cons_succ]
        refine wpAnyT_ready (rs := [7]) (by kernel_rfl) (by simp) (AllT.cons (i := 7) (o := ⟨_, _, _, _, _, _⟩) rfl (fun K hK => ?_) AllT.nil)
        refine step_allocn (by rfl) rfl rInfo ?_
        intro gX wX hBX hNX hlX
        have hNA : New w3 wX := New.tr (by repeat (first | with_reducible exact New.refl _ | with_reducible assumption | with_reducible refine New.dr ?_ | with_reducible refine New.al ?_ _) : New w3 _) hNX
        have hltX := hBX.lt
        have hszX : w3.heap.size ≤ wX.heap.size := hNA.size
        have hl3 : w3.heap.size ≤ gX := by have h1 : w3.heap.size ≤ _ := Nat.le_trans (by repeat (first | with_reducible exact New.refl _ | with_reducible assumption | with_reducible refine New.dr ?_ | with_reducible refine New.al ?_ _) : New w3 _).size hlX; exact h1
        have hO1 := New.own hNX hO1
        try simp only [Act.put, List.setIfInBounds_toArray, List.set_cons_zero, List.set_cons_succ]
        refine hK.out _ _ (fun _ => hSN _ (by repeat (first | with_reducible exact New.refl _ | with_reducible assumption | with_reducible refine New.dr ?_ | with_reducible refine New.al ?_ _) : New w3 _)) ?_
        refine wpAnyT_ready (rs := [8]) (by kernel_rfl) (by simp) (AllT.cons (i := 8) (o := ⟨_, _, _, _, _, _⟩) rfl (fun K hK => ?_) AllT.nil)
        refine step_store_any (by rfl) (.tmp 5) (.tmp 16) rfl rfl rfl rfl hBX rfl (rf_one _ _ _ _ _ _ _ _ _) ?_
        intro wY hBY hFY
        have hNY : New w3 wY := (by repeat (first | with_reducible exact New.refl _ | with_reducible assumption | with_reducible refine New.dr ?_ | with_reducible refine New.al ?_ _) : New w3 _).fr hFY (fun k hk => by omega)
        have hOY : wY.ownsRow w3.heap.size 75 65 (.slice A1' r.sure.length d1) r.sure.length (flatP r.sure) := by
          refine own_fr (S := fun k => k = gX) (w := _) ?_ hFY (fun k hk e => ?_)
          · exact hO1
          · subst e; exact own_ne hO1 hBX (by decide) hk
        try simp only [Act.put, List.setIfInBounds_toArray, List.set_cons_zero, List.set_cons_succ]
        refine hK.out _ _ (fun h => absurd rfl h) ?_
        refine wpAnyT_done (by kernel_rfl) ?_ _
        try go_wp2_with fail
        go_meet
        exact ⟨gX, rfl, Lib.hid ⟨A1', d1, hBY, hOY, hNY, hl3⟩⟩
      · skip
        refine step_allocn (by rfl) rfl rInfo ?_
        intro gX wX hBX hNX hlX
        have hNA : New w3 wX := New.tr (by repeat (first | with_reducible exact New.refl _ | with_reducible assumption | with_reducible refine New.dr ?_ | with_reducible refine New.al ?_ _) : New w3 _) hNX
        have hltX := hBX.lt
        have hszX : w3.heap.size ≤ wX.heap.size := hNA.size
        have hl3 : w3.heap.size ≤ gX := by have h1 : w3.heap.size ≤ _ := Nat.le_trans (by repeat (first | with_reducible exact New.refl _ | with_reducible assumption | with_reducible refine New.dr ?_ | with_reducible refine New.al ?_ _) : New w3 _).size hlX; exact h1
        simp at hlX
        try simp only [Act.put, List.setIfInBounds_toArray, List.set_cons_zero, List.set_cons_succ]
        refine hK.out _ _ (fun _ => hSN _ (by repeat (first | with_reducible exact New.refl _ | with_reducible assumption | with_reducible refine New.dr ?_ | with_reducible refine New.al ?_ _) : New w3 _)) ?_
        refine wpAnyT_ready (rs := [5]) (by kernel_rfl) (by simp) (AllT.cons (i := 5) (o := ⟨_, _, _, _, _, _⟩) rfl (fun K hK => ?_) AllT.nil)
        refine step_app elP _ (by rfl) (.tmp 12) (.tmp 14) (by rfl) w3.heap.size (.slice (some ⟨_, 0, none⟩) 0 0) 0 [] (by rfl) (own_lit (by repeat (first | with_reducible exact Blk.new' _ _ _ (by first | rfl | (simp; done)) | with_reducible refine Blk.drew ?_ | with_reducible refine Blk.alloc ?_ _ | with_reducible refine Blk.fr ?_ hF1 (by simp [Value.ownBlock]) | with_reducible refine New.blk hNX ?_)) (by first | omega | (simp; done) | (simp; omega))) A1 r.sure.length c1 (flatP r.sure) (by rfl) ((by repeat (first | with_reducible exact New.refl _ | with_reducible assumption | with_reducible refine New.dr ?_ | with_reducible refine New.al ?_ _) : New w3 _).rd (H.out.new HN3.out).sure) HP1.out (by unfold maxLen; omega) (by omega) (by first | omega | (simp; done) | (simp; omega)) ?_
        intro A1' d1 w5 hO1 hF1 hA1
        have hN1 : New w3 w5 := (by repeat (first | with_reducible exact New.refl _ | with_reducible assumption | with_reducible refine New.dr ?_ | with_reducible refine New.al ?_ _) : New w3 _).fr hF1 (by intro k hk; simp [Value.ownBlock] at hk; omega)
        have hBX := Blk.fr (New.blk (by repeat (first | with_reducible exact New.refl _ | with_reducible assumption | with_reducible refine New.dr ?_ | with_reducible refine New.al ?_ _) : New wX _) hBX) hF1 (by simp [Value.ownBlock]; omega)
        rw [Nat.zero_add, List.nil_append] at hO1
        rw [Nat.zero_add] at hA1
        rw [Nat.zero_add]
        try simp only [Act.put, List.setIfInBounds_toArray, List.set_cons_zero, List.set_cons_succ]
        refine hK.out _ _ (fun _ => hSN _ (by repeat (first | with_reducible exact New.refl _ | with_reducible assumption | with_reducible refine New.dr ?_ | with_reducible refine New.al ?_ _) : New w3 _)) ?_
        refine wpAnyT_take (i := 6) (oi := ⟨_, _, _, _, _, _⟩) (v := (.agg #[.int .i64 r.size, .slice A1' r.sure.length d1, .slice none 0 0, .int .i64 (-1), .bool false])) rfl (by kernel_rfl) (by kernel_rfl) (by kernel_rfl) (by kernel_rfl) (fun _ _ _ h => h) (Or.inl ⟨by rfl, fun w hSw => by have h1 := hSw.1; have h2 := hSw.2; clear hSw; go_simp⟩) (hSN _ (by repeat (first | with_reducible exact New.refl _ | with_reducible assumption | with_reducible refine New.dr ?_ | with_reducible refine New.al ?_ _) : New w3 _)) ?_
        try simp only [Act.put, List.setIfInBounds_toArray, List.set_cons_zero, List.set_cons_succ]
        refine wpAnyT_ready (rs := [8]) (by kernel_rfl) (by simp) (AllT.cons (i := 8) (o := ⟨_, _, _, _, _, _⟩) rfl (fun K hK => ?_) AllT.nil)
        refine step_store_any (by rfl) (.tmp 5) (.tmp 16) rfl rfl rfl rfl hBX rfl (rf_one _ _ _ _ _ _ _ _ _) ?_
        intro wY hBY hFY
        have hNY : New w3 wY := (by repeat (first | with_reducible exact New.refl _ | with_reducible assumption | with_reducible refine New.dr ?_ | with_reducible refine New.al ?_ _) : New w3 _).fr hFY (fun k hk => by omega)
        have hOY : wY.ownsRow w3.heap.size 75 65 (.slice A1' r.sure.length d1) r.sure.length (flatP r.sure) := by
          refine own_fr (S := fun k => k = gX) (w := _) ?_ hFY (fun k hk e => ?_)
          · exact hO1
          · subst e; exact own_ne hO1 hBX (by decide) hk
        try simp only [Act.put, List.setIfInBounds_toArray, List.set_cons_zero, List.set_cons_succ]
        refine hK.out _ _ (fun h => absurd rfl h) ?_
        refine wpAnyT_done (by kernel_rfl) ?_ _
        try go_wp2_with fail
        go_meet
        exact ⟨gX, rfl, Lib.hid ⟨A1', d1, hBY, hOY, hNY, hl3⟩⟩
    · skip
      refine step_allocn (by rfl) rfl rInfo ?_
      intro gX wX hBX hNX hlX
      have hNA : New w3 wX := New.tr (by repeat (first | with_reducible exact New.refl _ | with_reducible assumption | with_reducible refine New.dr ?_ | with_reducible refine New.al ?_ _) : New w3 _) hNX
      have hltX := hBX.lt
      have hszX : w3.heap.size ≤ wX.heap.size := hNA.size
      have hl3 : w3.heap.size ≤ gX := by have h1 : w3.heap.size ≤ _ := Nat.le_trans (by repeat (first | with_reducible exact New.refl _ | with_reducible assumption | with_reducible refine New.dr ?_ | with_reducible refine New.al ?_ _) : New w3 _).size hlX; exact h1
      skip
      try simp only [Act.put, List.setIfInBounds_toArray, List.set_cons_zero, List.set_cons_succ]
      refine hK.out _ _ (fun _ => hSN _ (by repeat (first | with_reducible exact New.refl _ | with_reducible assumption | with_reducible refine New.dr ?_ | with_reducible refine New.al ?_ _) : New w3 _)) ?_
      refine wpAnyT_ready (rs := [2]) (by kernel_rfl) (by simp) (AllT.cons (i := 2) (o := ⟨_, _, _, _, _, _⟩) rfl (fun K hK => ?_) AllT.nil)
      go_simp
      try simp only [Act.put, List.setIfInBounds_toArray, List.set_cons_zero, List.set_cons_succ]
      refine hK.out _ _ (fun _ => hSN _ (by repeat (first | with_reducible exact New.refl _ | with_reducible assumption | with_reducible refine New.dr ?_ | with_reducible refine New.al ?_ _) : New w3 _)) ?_
      refine wpAnyT_ready (rs := [5]) (by kernel_rfl) (by simp) (AllT.cons (i := 5) (o := ⟨_, _, _, _, _, _⟩) rfl (fun K hK => ?_) AllT.nil)
      refine step_app elP _ (by rfl) (.tmp 12) (.tmp 14) (by rfl) w3.heap.size (.slice (some ⟨_, 0, none⟩) 0 0) 0 [] (by rfl) (own_lit (by repeat (first | with_reducible exact Blk.new' _ _ _ (by first | rfl | (simp; done)) | with_reducible refine Blk.drew ?_ | with_reducible refine Blk.alloc ?_ _ | with_reducible refine Blk.fr ?_ hF1 (by simp [Value.ownBlock]) | with_reducible refine New.blk hNX ?_)) (by first | omega | (simp; done) | (simp; omega))) A1 r.sure.length c1 (flatP r.sure) (by rfl) ((by repeat (first | with_reducible exact New.refl _ | with_reducible assumption | with_reducible refine New.dr ?_ | with_reducible refine New.al ?_ _) : New w3 _).rd (H.out.new HN3.out).sure) HP1.out (by unfold maxLen; omega) (by omega) (by first | omega | (simp; done) | (simp; omega)) ?_
      intro A1' d1 w5 hO1 hF1 hA1
      have hN1 : New w3 w5 := (by repeat (first | with_reducible exact New.refl _ | with_reducible assumption | with_reducible refine New.dr ?_ | with_reducible refine New.al ?_ _) : New w3 _).fr hF1 (by intro k hk; simp [Value.ownBlock] at hk; omega)
      have hBX := Blk.fr (New.blk (by repeat (first | with_reducible exact New.refl _ | with_reducible assumption | with_reducible refine New.dr ?_ | with_reducible refine New.al ?_ _) : New wX _) hBX) hF1 (by simp [Value.ownBlock]; omega)
      rw [Nat.zero_add, List.nil_append] at hO1
      rw [Nat.zero_add] at hA1
      rw [Nat.zero_add]
      try simp only [Act.put, List.setIfInBounds_toArray, List.set_cons_zero, List.set_cons_succ]
      refine hK.out _ _ (fun _ => hSN _ (by repeat (first | with_reducible exact New.refl _ | with_reducible assumption | with_reducible refine New.dr ?_ | with_reducible refine New.al ?_ _) : New w3 _)) ?_
      refine wpAnyT_take (i := 6) (oi := ⟨_, _, _, _, _, _⟩) (v := (.agg #[.int .i64 r.size, .slice A1' r.sure.length d1, .slice none 0 0, .int .i64 (-1), .bool false])) rfl (by kernel_rfl) (by kernel_rfl) (by kernel_rfl) (by kernel_rfl) (fun _ _ _ h => h) (Or.inl ⟨by rfl, fun w hSw => by have h1 := hSw.1; have h2 := hSw.2; clear hSw; go_simp⟩) (hSN _ (by repeat (first | with_reducible exact New.refl _ | with_reducible assumption | with_reducible refine New.dr ?_ | with_reducible refine New.al ?_ _) : New w3 _)) ?_
      try simp only [Act.put, List.setIfInBounds_toArray, List.set_cons_zero, List.set_cons_succ]
      refine wpAnyT_ready (rs := [8]) (by kernel_rfl) (by simp) (AllT.cons (i := 8) (o := ⟨_, _, _, _, _, _⟩) rfl (fun K hK => ?_) AllT.nil)
      refine step_store_any (by rfl) (.tmp 5) (.tmp 16) rfl rfl rfl rfl hBX rfl (rf_one _ _ _ _ _ _ _ _ _) ?_
      intro wY hBY hFY
      have hNY : New w3 wY := (by repeat (first | with_reducible exact New.refl _ | with_reducible assumption | with_reducible refine New.dr ?_ | with_reducible refine New.al ?_ _) : New w3 _).fr hFY (fun k hk => by omega)
      have hOY : wY.ownsRow w3.heap.size 75 65 (.slice A1' r.sure.length d1) r.sure.length (flatP r.sure) := by
        refine own_fr (S := fun k => k = gX) (w := _) ?_ hFY (fun k hk e => ?_)
        · exact hO1
        · subst e; exact own_ne hO1 hBX (by decide) hk
      try simp only [Act.put, List.setIfInBounds_toArray, List.set_cons_zero, List.set_cons_succ]
      refine hK.out _ _ (fun h => absurd rfl h) ?_
      refine wpAnyT_done (by kernel_rfl) ?_ _
      try go_wp2_with fail
      go_meet
      exact ⟨gX, rfl, Lib.hid ⟨A1', d1, hBY, hOY, hNY, hl3⟩⟩
  obtain ⟨gX, rfl, HC0⟩ := hcut
  obtain ⟨AS, cS, hBc, hOc, hNc, hgX⟩ := HC0.out
  have HGX := Lib.hid hgX
  have HBc := Lib.hid (New.blk hNc HB3.out)
  have HNc := Lib.hid hNc
  have HNw : Hid (New w wc) := Lib.hid (HN3.out.tr hNc)
  clear hBc hOc hNc hgX
  go_wp2_with ((with_reducible refine atOp ⟨some 17, .load _ _, _, _, _, _⟩ ?_); refine wpList_load_any rfl _ rfl Try.underlying48 rfl rfl rfl HBc.out ?_)
  refine (rwaits_any r A1 c1 A2 c2 wc (H.out.new HNw.out) (by unfold RP.tot; omega)).mono ?_
  rintro e w4 ⟨⟨AW, cW, rfl, hW4⟩, hN4⟩
  have hwl : (waits r.fresh).length ≤ 10000 := by have := waits_len r.fresh; omega
  obtain ⟨m, hm⟩ : ∃ m, m = (waits r.fresh).length := ⟨_, rfl⟩
  rw [← hm] at hW4 hwl
  rw [← hm]
  have HW4 : Hid (RdT 3 w4 1 AW m (i64s (waits r.fresh))) := Lib.hid (RdT.own hW4 rfl)
  have HWN4 : Hid (∀ k, AW.map Addr.block = some k → wc.heap.size ≤ k) := Lib.hid (fun k hk => (own_lt hW4 k (by cases AW <;> simp_all [Value.ownBlock])).1)
  have HN4 := Lib.hid hN4
  have HC4 : Hid (CutI w3 r.size gX (cutR r keep 0) w4) := Lib.hid (by
    obtain ⟨A', c', h1, h2, h3, h4⟩ := HC0.out
    exact ⟨A', c', New.blk hN4 h1, New.own hN4 h2, h3.tr hN4, h4⟩)
  have HM := Lib.hid hm
  clear hW4 hN4 hm HC0
  go_wp2_with fail
  go_loopw [7] (fun i wr => ∃ (j : Nat), j ≤ m ∧ i = .int .i64 j ∧ Hid (CutI w3 r.size gX (cutR r keep j) wr) ∧ Hid (RdT 3 wr 1 AW m (i64s (waits r.fresh)))) (fun i _ => m - (intOf i).toNat)
  case atStart => exact ⟨0, Nat.zero_le _, rfl, HC4, HW4⟩
  case round =>
    obtain ⟨j, hj, rfl, HCI, HWI⟩ := hrel
    obtain ⟨A', c', hBI, hOI, hNI, -⟩ := HCI.out
    by_cases hgo : j < m ∧ j < n
    · as_aux_lemma =>
      obtain ⟨hjm, hjn⟩ := hgo
      have HBI := Lib.hid hBI
      have HOI := Lib.hid hOI
      have hcl := cutR_len r keep j
      obtain ⟨gK, oK, rfl, hgK, hpK, ck⟩ := rd_bool ((HN3.out.tr hNI).rd HR.out) hjn
      cases hb : keep.getD j false with
      | false =>
        as_aux_lemma =>
        rw [hb] at ck
        have hsk := cutR_skip (r := r) hb
        have HZ : Hid (CutI w3 r.size gX (cutR r keep (j + 1)) wr) := Lib.hid (by rw [hsk]; exact HCI.out)
        clear hb hsk hBI hOI hNI hcl
        go_wp2_with fail
        go_roundw
        case rel => exact ⟨j + 1, by omega, by go_num, HZ, HWI⟩
        case measure => simp [intOf]; omega
      | true =>
        as_aux_lemma =>
        rw [hb] at ck
        have hst := cutR_take (r := r) hb
        obtain ⟨gW, oW, rfl, hgW, hpW, cw⟩ := rd_int HWI.out hjm
        obtain ⟨x, hx⟩ : ∃ x, x = (waits r.fresh).getD j 0 := ⟨_, rfl⟩
        rw [← hx] at cw hst
        obtain ⟨s, hs⟩ : ∃ s, s = getS r.fresh x := ⟨_, rfl⟩
        rw [← hs] at hst
        have HC := Lib.hid hst
        have HSX : Hid (getS r.fresh x = s) := Lib.hid hs.symm
        have HSO : Hid (SecOk s) := Lib.hid (by rw [hs]; exact lastP_ok H.out.ok.2 x)
        have HCW := Lib.hid cw
        have HFO : Hid (∀ a ∈ r.fresh, SecOk a.s) := Lib.hid H.out.ok.2
        have HFI : Hid (RdT 75 wr 65 A2 r.fresh.length (flatP r.fresh)) := Lib.hid (((H.out.new HN3.out).new hNI).fresh)
        have HGI : Hid (Blk wr G 48 #[.int .i64 r.size, .slice A1 r.sure.length c1, .slice A2 r.fresh.length c2, .int .i64 r.fuse, .bool r.down]) := Lib.hid (New.blk hNI HB3.out)
        have HWN : Hid ((Value.slice A' (cutR r keep j).length c').ownBlock ≠ some gW) := Lib.hid (fun e => IsT.not_own hOI (show (75 : Nat) ≠ 3 by decide) e hpW)
        clear hb hst hx hs cw hBI hOI
        go_upto_region 7 with fail
        obtain ⟨wi, hwi⟩ : ∃ wi : World, wi = wr := ⟨_, rfl⟩
        rw [← hwi] at HCI HWI HBI HOI hNI HCW HFI HGI
        rw [← hwi]
        clear hwi
        have hNI := hNI
        have hSI : ∀ w', New wi w' → w'.cell? ⟨G, 2, none⟩ = some (.slice A2 r.fresh.length c2) ∧ w'.cell? ⟨gW, oW + j, none⟩ = some (.int .i64 x) := fun w' hN => ⟨hN.cell_ (HGI.out.cell 2), hN.cell_ HCW.out⟩
        refine wp_region_T (fun w' => w'.cell? ⟨G, 2, none⟩ = some (.slice A2 r.fresh.length c2) ∧ w'.cell? ⟨gW, oW + j, none⟩ = some (.int .i64 x)) 12 (by kernel_rfl) ?_
        refine wpAnyT_take (i := 0) (oi := ⟨_, _, _, _, _, _⟩) (v := .pointer (some ⟨G, 2, none⟩)) rfl (by kernel_rfl) (by kernel_rfl) (by kernel_rfl) (by kernel_rfl) (fun _ _ _ h => h) (Or.inl ⟨by rfl, fun w hSw => by have h1 := hSw.1; have h2 := hSw.2; clear hSw; go_simp⟩) (hSI _ (by repeat (first | with_reducible exact New.refl _ | with_reducible assumption | with_reducible refine New.dr ?_ | with_reducible refine New.al ?_ _) : New wi _)) ?_
        try simp only [Act.put, List.setIfInBounds_toArray, List.set_cons_zero, List.set_cons_succ]
        refine wpAnyT_take (i := 1) (oi := ⟨_, _, _, _, _, _⟩) (v := .slice A2 r.fresh.length c2) rfl (by kernel_rfl) (by kernel_rfl) (by kernel_rfl) (by kernel_rfl) (fun _ _ _ h => h) (Or.inl ⟨by rfl, fun w hSw => by have h1 := hSw.1; have h2 := hSw.2; clear hSw; go_simp⟩) (hSI _ (by repeat (first | with_reducible exact New.refl _ | with_reducible assumption | with_reducible refine New.dr ?_ | with_reducible refine New.al ?_ _) : New wi _)) ?_
        try simp only [Act.put, List.setIfInBounds_toArray, List.set_cons_zero, List.set_cons_succ]
        refine wpAnyT_take (i := 2) (oi := ⟨_, _, _, _, _, _⟩) (v := .slice (some ⟨gW, oW, none⟩) m cW) rfl (by kernel_rfl) (by kernel_rfl) (by kernel_rfl) (by kernel_rfl) (fun _ _ _ h => h) (Or.inl ⟨by rfl, fun w hSw => by have h1 := hSw.1; have h2 := hSw.2; clear hSw; go_simp⟩) (hSI _ (by repeat (first | with_reducible exact New.refl _ | with_reducible assumption | with_reducible refine New.dr ?_ | with_reducible refine New.al ?_ _) : New wi _)) ?_
        try simp only [Act.put, List.setIfInBounds_toArray, List.set_cons_zero, List.set_cons_succ]
        refine wpAnyT_take (i := 3) (oi := ⟨_, _, _, _, _, _⟩) (v := .int .i64 j) rfl (by kernel_rfl) (by kernel_rfl) (by kernel_rfl) (by kernel_rfl) (fun _ _ _ h => h) (Or.inl ⟨by rfl, fun w hSw => by have h1 := hSw.1; have h2 := hSw.2; clear hSw; go_simp⟩) (hSI _ (by repeat (first | with_reducible exact New.refl _ | with_reducible assumption | with_reducible refine New.dr ?_ | with_reducible refine New.al ?_ _) : New wi _)) ?_
        try simp only [Act.put, List.setIfInBounds_toArray, List.set_cons_zero, List.set_cons_succ]
        refine wpAnyT_take (i := 4) (oi := ⟨_, _, _, _, _, _⟩) (v := .pointer (some ⟨gW, oW + j, none⟩)) rfl (by kernel_rfl) (by kernel_rfl) (by kernel_rfl) (by kernel_rfl) (fun _ _ _ h => h) (Or.inl ⟨by rfl, fun w hSw => by have h1 := hSw.1; have h2 := hSw.2; clear hSw; go_simp⟩) (hSI _ (by repeat (first | with_reducible exact New.refl _ | with_reducible assumption | with_reducible refine New.dr ?_ | with_reducible refine New.al ?_ _) : New wi _)) ?_
        try simp only [Act.put, List.setIfInBounds_toArray, List.set_cons_zero, List.set_cons_succ]
        refine wpAnyT_take (i := 5) (oi := ⟨_, _, _, _, _, _⟩) (v := .int .i64 x) rfl (by kernel_rfl) (by kernel_rfl) (by kernel_rfl) (by kernel_rfl) (fun _ _ _ h => h) (Or.inl ⟨by rfl, fun w hSw => by have h1 := hSw.1; have h2 := hSw.2; clear hSw; go_simp⟩) (hSI _ (by repeat (first | with_reducible exact New.refl _ | with_reducible assumption | with_reducible refine New.dr ?_ | with_reducible refine New.al ?_ _) : New wi _)) ?_
        try simp only [Act.put, List.setIfInBounds_toArray, List.set_cons_zero, List.set_cons_succ]
        refine wpAnyT_ready (rs := [6, 10]) (by kernel_rfl) (by simp) (AllT.cons (i := 6) (o := ⟨_, _, _, _, _, _⟩) rfl (fun K hK => ?_) (AllT.cons (i := 10) (o := ⟨_, _, _, _, _, _⟩) rfl (fun K hK => ?_) AllT.nil))
        · skip
          go_simp
          refine (get_any A2 r.fresh.length c2 r.fresh x _ ((by repeat (first | with_reducible exact New.refl _ | with_reducible assumption | with_reducible refine New.dr ?_ | with_reducible refine New.al ?_ _) : New wi _).rd HFI.out) rfl HFO.out (by omega)).mono ?_
          rw [HSX.out]
          rintro e w5 ⟨rfl, hN5'⟩
          have hN5 : New wi w5 := New.tr (by repeat (first | with_reducible exact New.refl _ | with_reducible assumption | with_reducible refine New.dr ?_ | with_reducible refine New.al ?_ _) : New wi _) hN5'
          try have hBS := New.blk hN5' hBS
          go_wp2_with fail
          try simp only [Act.put, List.setIfInBounds_toArray, List.set_cons_zero, List.set_cons_succ]
          refine hK.out _ _ (fun _ => hSI _ (by repeat (first | with_reducible exact New.refl _ | with_reducible assumption | with_reducible refine New.dr ?_ | with_reducible refine New.al ?_ _) : New wi _)) ?_
          refine wpAnyT_take (i := 7) (oi := ⟨_, _, _, _, _, _⟩) (v := (.tuple #[.agg (secA s), .bool (lastP r.fresh x).isSome])) rfl (by kernel_rfl) (by kernel_rfl) (by kernel_rfl) (by kernel_rfl) (fun _ _ _ h => h) (Or.inl ⟨by rfl, fun w hSw => by have h1 := hSw.1; have h2 := hSw.2; clear hSw; go_simp⟩) (hSI _ (by repeat (first | with_reducible exact New.refl _ | with_reducible assumption | with_reducible refine New.dr ?_ | with_reducible refine New.al ?_ _) : New wi _)) ?_
          try simp only [Act.put, List.setIfInBounds_toArray, List.set_cons_zero, List.set_cons_succ]
          refine wpAnyT_take (i := 8) (oi := ⟨_, _, _, _, _, _⟩) (v := .agg (secA s)) rfl (by kernel_rfl) (by kernel_rfl) (by kernel_rfl) (by kernel_rfl) (fun _ _ _ h => h) (Or.inl ⟨by rfl, fun w hSw => by have h1 := hSw.1; have h2 := hSw.2; clear hSw; go_simp⟩) (hSI _ (by repeat (first | with_reducible exact New.refl _ | with_reducible assumption | with_reducible refine New.dr ?_ | with_reducible refine New.al ?_ _) : New wi _)) ?_
          try simp only [Act.put, List.setIfInBounds_toArray, List.set_cons_zero, List.set_cons_succ]
          refine wpAnyT_take (i := 9) (oi := ⟨_, _, _, _, _, _⟩) (v := (.bool (lastP r.fresh x).isSome)) rfl (by kernel_rfl) (by kernel_rfl) (by kernel_rfl) (by kernel_rfl) (fun _ _ _ h => h) (Or.inl ⟨by rfl, fun w hSw => by have h1 := hSw.1; have h2 := hSw.2; clear hSw; go_simp⟩) (hSI _ (by repeat (first | with_reducible exact New.refl _ | with_reducible assumption | with_reducible refine New.dr ?_ | with_reducible refine New.al ?_ _) : New wi _)) ?_
          try simp only [Act.put, List.setIfInBounds_toArray, List.set_cons_zero, List.set_cons_succ]
          refine wpAnyT_ready (rs := [10]) (by kernel_rfl) (by simp) (AllT.cons (i := 10) (o := ⟨_, _, _, _, _, _⟩) rfl (fun K hK => ?_) AllT.nil)
          refine step_allocn (by rfl) rfl secInfo ?_
          intro gS wS hBS hNS hlS
          have hNSi : New wi wS := New.tr (by repeat (first | with_reducible exact New.refl _ | with_reducible assumption | with_reducible refine New.dr ?_ | with_reducible refine New.al ?_ _) : New wi _) hNS
          have hgS : wi.heap.size ≤ gS := Nat.le_trans (by repeat (first | with_reducible exact New.refl _ | with_reducible assumption | with_reducible refine New.dr ?_ | with_reducible refine New.al ?_ _) : New wi _).size hlS
          try simp only [Act.put, List.setIfInBounds_toArray, List.set_cons_zero, List.set_cons_succ]
          refine hK.out _ _ (fun _ => hSI _ (by repeat (first | with_reducible exact New.refl _ | with_reducible assumption | with_reducible refine New.dr ?_ | with_reducible refine New.al ?_ _) : New wi _)) ?_
          refine wpAnyT_ready (rs := [11]) (by kernel_rfl) (by simp) (AllT.cons (i := 11) (o := ⟨_, _, _, _, _, _⟩) rfl (fun K hK => ?_) AllT.nil)
          refine step_store_any (cs0 := secA sec0) (by rfl) (.tmp 8) (.tmp 43) rfl (by rw [secA_size, HSO.out.1]; rfl) rfl rfl hBS (by rw [secA_size, secA_size, HSO.out.1]; rfl) (secA_one s) ?_
          intro wT hBT hFT
          have hNT : New wi wT := (by repeat (first | with_reducible exact New.refl _ | with_reducible assumption | with_reducible refine New.dr ?_ | with_reducible refine New.al ?_ _) : New wi _).fr hFT (fun k hk => by omega)
          have hBS := hBT
          try simp only [Act.put, List.setIfInBounds_toArray, List.set_cons_zero, List.set_cons_succ]
          refine hK.out _ _ (fun _ => hSI _ hNT) ?_
          refine wpAnyT_ready (rs := [12]) (by kernel_rfl) (by simp) (AllT.cons (i := 12) (o := ⟨_, _, _, _, _, _⟩) rfl (fun K hK => ?_) AllT.nil)
          go_simp
          try simp only [Act.put, List.setIfInBounds_toArray, List.set_cons_zero, List.set_cons_succ]
          refine hK.out _ _ (fun h => absurd rfl h) ?_
          refine wpAnyT_done (by kernel_rfl) ?_ _
          obtain ⟨wm, hwm⟩ : ∃ wm : World, wm = wT := ⟨_, rfl⟩
          rw [← hwm] at hNT hBS
          rw [← hwm]
          clear hwm
          have HNM : Hid (New w3 wm) := Lib.hid ((hNI.tr hNT))
          have HBM := Lib.hid (New.blk hNT HBI.out)
          have HOM := Lib.hid (New.own hNT HOI.out)
          have HSM := Lib.hid hBS
          have HCM : Hid (wm.cell? ⟨gW, oW + j, none⟩ = some (.int .i64 x)) := Lib.hid (hNT.cell_ HCW.out)
          have HWS : Hid (RdT 3 wm 1 (some ⟨gW, oW, none⟩) m (i64s (waits r.fresh))) := Lib.hid (HWI.out.new hNT)
          have HN3M : Hid (w3.heap.size ≤ wm.heap.size) := Lib.hid HNM.out.size
          clear hNT hBS
          have hSM : ∀ w', New wm w' → w'.rangeAt gS 0 (u8s s) ∧ w'.cell? ⟨gX, 1, none⟩ = some (.slice A' (cutR r keep j).length c') ∧ w'.cell? ⟨gW, oW + j, none⟩ = some (.int .i64 x) := fun w' hN => ⟨(New.blk hN HSM.out).range, hN.cell_ (HBM.out.cell 1), hN.cell_ HCM.out⟩
          have hu := Try.underlying31
          have hi : (Try.prog.info? 31).map (·.size) = some (u8s s).length := by rw [u8s_len, HSO.out.1]; rfl
          have z1 := putZ_zero
          have z2 := putZ_size
          have z3 := putZ_ne
          have z4 := put_fold (x := x) HSO.out
          have z5 := putA_size (x := x) HSO.out
          have z6 := put_fold2 (x := x) HSO.out #[putZ[0]'(by rw [putZ_size]; omega), putZ[1]'(by rw [putZ_size]; omega), putZ[2]'(by rw [putZ_size]; omega), putZ[3]'(by rw [putZ_size]; omega), putZ[4]'(by rw [putZ_size]; omega), putZ[5]'(by rw [putZ_size]; omega), putZ[6]'(by rw [putZ_size]; omega), putZ[7]'(by rw [putZ_size]; omega), putZ[8]'(by rw [putZ_size]; omega), putZ[9]'(by rw [putZ_size]; omega), putZ[10]'(by rw [putZ_size]; omega), putZ[11]'(by rw [putZ_size]; omega), putZ[12]'(by rw [putZ_size]; omega), putZ[13]'(by rw [putZ_size]; omega), putZ[14]'(by rw [putZ_size]; omega), putZ[15]'(by rw [putZ_size]; omega), putZ[16]'(by rw [putZ_size]; omega), putZ[17]'(by rw [putZ_size]; omega), putZ[18]'(by rw [putZ_size]; omega), putZ[19]'(by rw [putZ_size]; omega), putZ[20]'(by rw [putZ_size]; omega), putZ[21]'(by rw [putZ_size]; omega), putZ[22]'(by rw [putZ_size]; omega), putZ[23]'(by rw [putZ_size]; omega), putZ[24]'(by rw [putZ_size]; omega), putZ[25]'(by rw [putZ_size]; omega), putZ[26]'(by rw [putZ_size]; omega), putZ[27]'(by rw [putZ_size]; omega), putZ[28]'(by rw [putZ_size]; omega), putZ[29]'(by rw [putZ_size]; omega), putZ[30]'(by rw [putZ_size]; omega), putZ[31]'(by rw [putZ_size]; omega), putZ[32]'(by rw [putZ_size]; omega), putZ[33]'(by rw [putZ_size]; omega), putZ[34]'(by rw [putZ_size]; omega), putZ[35]'(by rw [putZ_size]; omega), putZ[36]'(by rw [putZ_size]; omega), putZ[37]'(by rw [putZ_size]; omega), putZ[38]'(by rw [putZ_size]; omega), putZ[39]'(by rw [putZ_size]; omega), putZ[40]'(by rw [putZ_size]; omega), putZ[41]'(by rw [putZ_size]; omega), putZ[42]'(by rw [putZ_size]; omega), putZ[43]'(by rw [putZ_size]; omega), putZ[44]'(by rw [putZ_size]; omega), putZ[45]'(by rw [putZ_size]; omega), putZ[46]'(by rw [putZ_size]; omega), putZ[47]'(by rw [putZ_size]; omega), putZ[48]'(by rw [putZ_size]; omega), putZ[49]'(by rw [putZ_size]; omega), putZ[50]'(by rw [putZ_size]; omega), putZ[51]'(by rw [putZ_size]; omega), putZ[52]'(by rw [putZ_size]; omega), putZ[53]'(by rw [putZ_size]; omega), putZ[54]'(by rw [putZ_size]; omega), putZ[55]'(by rw [putZ_size]; omega), putZ[56]'(by rw [putZ_size]; omega), putZ[57]'(by rw [putZ_size]; omega), putZ[58]'(by rw [putZ_size]; omega), putZ[59]'(by rw [putZ_size]; omega), putZ[60]'(by rw [putZ_size]; omega), putZ[61]'(by rw [putZ_size]; omega), putZ[62]'(by rw [putZ_size]; omega), putZ[63]'(by rw [putZ_size]; omega), putZ[64]'(by rw [putZ_size]; omega)] rfl
          have zl : (u8s s).length = 64 := by rw [u8s_len, HSO.out.1]
          go_upto_region 8 with fail
          refine wp_region_T (fun w' => w'.rangeAt gS 0 (u8s s) ∧ w'.cell? ⟨gX, 1, none⟩ = some (.slice A' (cutR r keep j).length c') ∧ w'.cell? ⟨gW, oW + j, none⟩ = some (.int .i64 x)) 11 (by kernel_rfl) ?_
          refine wpAnyT_take (i := 0) (oi := ⟨_, _, _, _, _, _⟩) (v := .pointer (some ⟨gX, 1, none⟩)) rfl (by kernel_rfl) (by kernel_rfl) (by kernel_rfl) (by kernel_rfl) (fun _ _ _ h => h) (Or.inl ⟨by rfl, fun w hSw => by have h1 := hSw.1; have h2 := hSw.2.1; have h3 := hSw.2.2; clear hSw; go_simp⟩) (hSM _ (by repeat (first | with_reducible exact New.refl _ | with_reducible assumption | with_reducible refine New.dr ?_ | with_reducible refine New.al ?_ _) : New wm _)) ?_
          try simp only [Act.put, List.setIfInBounds_toArray, List.set_cons_zero, List.set_cons_succ]
          refine wpAnyT_take (i := 1) (oi := ⟨_, _, _, _, _, _⟩) (v := (.slice A' (cutR r keep j).length c')) rfl (by kernel_rfl) (by kernel_rfl) (by kernel_rfl) (by kernel_rfl) (fun _ _ _ h => h) (Or.inl ⟨by rfl, fun w hSw => by have h1 := hSw.1; have h2 := hSw.2.1; have h3 := hSw.2.2; clear hSw; go_simp⟩) (hSM _ (by repeat (first | with_reducible exact New.refl _ | with_reducible assumption | with_reducible refine New.dr ?_ | with_reducible refine New.al ?_ _) : New wm _)) ?_
          try simp only [Act.put, List.setIfInBounds_toArray, List.set_cons_zero, List.set_cons_succ]
          refine wpAnyT_take (i := 2) (oi := ⟨_, _, _, _, _, _⟩) (v := .slice (some ⟨gW, oW, none⟩) m cW) rfl (by kernel_rfl) (by kernel_rfl) (by kernel_rfl) (by kernel_rfl) (fun _ _ _ h => h) (Or.inl ⟨by rfl, fun w hSw => by have h1 := hSw.1; have h2 := hSw.2.1; have h3 := hSw.2.2; clear hSw; go_simp⟩) (hSM _ (by repeat (first | with_reducible exact New.refl _ | with_reducible assumption | with_reducible refine New.dr ?_ | with_reducible refine New.al ?_ _) : New wm _)) ?_
          try simp only [Act.put, List.setIfInBounds_toArray, List.set_cons_zero, List.set_cons_succ]
          refine wpAnyT_take (i := 3) (oi := ⟨_, _, _, _, _, _⟩) (v := .int .i64 j) rfl (by kernel_rfl) (by kernel_rfl) (by kernel_rfl) (by kernel_rfl) (fun _ _ _ h => h) (Or.inl ⟨by rfl, fun w hSw => by have h1 := hSw.1; have h2 := hSw.2.1; have h3 := hSw.2.2; clear hSw; go_simp⟩) (hSM _ (by repeat (first | with_reducible exact New.refl _ | with_reducible assumption | with_reducible refine New.dr ?_ | with_reducible refine New.al ?_ _) : New wm _)) ?_
          try simp only [Act.put, List.setIfInBounds_toArray, List.set_cons_zero, List.set_cons_succ]
          refine wpAnyT_take (i := 4) (oi := ⟨_, _, _, _, _, _⟩) (v := .pointer (some ⟨gW, oW + j, none⟩)) rfl (by kernel_rfl) (by kernel_rfl) (by kernel_rfl) (by kernel_rfl) (fun _ _ _ h => h) (Or.inl ⟨by rfl, fun w hSw => by have h1 := hSw.1; have h2 := hSw.2.1; have h3 := hSw.2.2; clear hSw; go_simp⟩) (hSM _ (by repeat (first | with_reducible exact New.refl _ | with_reducible assumption | with_reducible refine New.dr ?_ | with_reducible refine New.al ?_ _) : New wm _)) ?_
          try simp only [Act.put, List.setIfInBounds_toArray, List.set_cons_zero, List.set_cons_succ]
          refine wpAnyT_take (i := 5) (oi := ⟨_, _, _, _, _, _⟩) (v := .int .i64 x) rfl (by kernel_rfl) (by kernel_rfl) (by kernel_rfl) (by kernel_rfl) (fun _ _ _ h => h) (Or.inl ⟨by rfl, fun w hSw => by have h1 := hSw.1; have h2 := hSw.2.1; have h3 := hSw.2.2; clear hSw; go_simp⟩) (hSM _ (by repeat (first | with_reducible exact New.refl _ | with_reducible assumption | with_reducible refine New.dr ?_ | with_reducible refine New.al ?_ _) : New wm _)) ?_
          try simp only [Act.put, List.setIfInBounds_toArray, List.set_cons_zero, List.set_cons_succ]
          refine wpAnyT_take (i := 6) (oi := ⟨_, _, _, _, _, _⟩) (v := .agg (u8s s).toArray) rfl (by kernel_rfl) (by kernel_rfl) (by kernel_rfl) (by kernel_rfl) (fun _ _ _ h => h) (yieldsIf_load_mid (by rfl) _ _ rfl _ _ rfl _ _ (fun w hSw => hSw.1) hu rfl hi) (hSM _ (by repeat (first | with_reducible exact New.refl _ | with_reducible assumption | with_reducible refine New.dr ?_ | with_reducible refine New.al ?_ _) : New wm _)) ?_
          try simp only [Act.put, List.setIfInBounds_toArray, List.set_cons_zero, List.set_cons_succ]
          refine wpAnyT_take (i := 7) (oi := ⟨_, _, _, _, _, _⟩) (v := .agg (putA x s)) rfl (by kernel_rfl) (by kernel_rfl) (by kernel_rfl) (by kernel_rfl) (fun _ _ _ h => h) (Or.inl ⟨by rfl, fun w hSw => by have h1 := hSw.1; have h2 := hSw.2.1; have h3 := hSw.2.2; clear hSw; go_simp⟩) (hSM _ (by repeat (first | with_reducible exact New.refl _ | with_reducible assumption | with_reducible refine New.dr ?_ | with_reducible refine New.al ?_ _) : New wm _)) ?_
          try simp only [Act.put, List.setIfInBounds_toArray, List.set_cons_zero, List.set_cons_succ]
          refine wpAnyT_ready (rs := [8]) (by kernel_rfl) (by simp) (AllT.cons (i := 8) (o := ⟨_, _, _, _, _, _⟩) rfl (fun K hK => ?_) AllT.nil)
          go_simp
          try simp only [Act.put, List.setIfInBounds_toArray, List.set_cons_zero, List.set_cons_succ]
          refine hK.out _ _ (fun _ => hSM _ (by repeat (first | with_reducible exact New.refl _ | with_reducible assumption | with_reducible refine New.dr ?_ | with_reducible refine New.al ?_ _) : New wm _)) ?_
          refine wpAnyT_ready (rs := [9]) (by kernel_rfl) (by simp) (AllT.cons (i := 9) (o := ⟨_, _, _, _, _, _⟩) rfl (fun K hK => ?_) AllT.nil)
          refine step_app elP _ (by rfl) (.tmp 46) (.tmp 53) (by rfl) w3.heap.size (.slice A' (cutR r keep j).length c') (cutR r keep j).length (flatP (cutR r keep j)) (by rfl) (New.own (by repeat (first | with_reducible exact New.refl _ | with_reducible assumption | with_reducible refine New.dr ?_ | with_reducible refine New.al ?_ _) : New wm _) HOM.out) (some ⟨_, 0, none⟩) 1 1 (putA x s).toList (by rfl) (Rd.ofBlk (p := fun _ => True) (t := 75) (cs := putA x s) (by repeat (first | with_reducible exact Blk.new' _ _ _ (by first | rfl | (simp; done)) | with_reducible refine Blk.drew ?_ | with_reducible refine Blk.alloc ?_ _ | with_reducible refine Blk.fr ?_ hF1 (by simp [Value.ownBlock]) | with_reducible refine New.blk hNX ?_)) 65 1 (by rw [z5]) trivial) (by intro u hu; exact PU.one ⟨x, s⟩ u (by simpa [putA] using hu)) (by unfold maxLen; omega) (by omega) (Nat.le_trans HN3M.out (by repeat (first | with_reducible exact New.refl _ | with_reducible assumption | with_reducible refine New.dr ?_ | with_reducible refine New.al ?_ _) : New wm _).size) ?_
          intro A4 c4 wN hON hFN hAN
          have hBN : Blk wN gX 48 #[.int .i64 r.size, .slice A' (cutR r keep j).length c', .slice none 0 0, .int .i64 (-1), .bool false] := (New.blk (by repeat (first | with_reducible exact New.refl _ | with_reducible assumption | with_reducible refine New.dr ?_ | with_reducible refine New.al ?_ _) : New wm _) HBM.out).fr hFN (fun e => own_ne HOM.out HBM.out (by decide) e)
          have n1 := hBN.cell 1
          have n1f := hBN.frozen 1
          have hSE : wN.rangeAt gS 0 (u8s s) ∧ wN.cell? ⟨gX, 1, none⟩ = some (.slice A' (cutR r keep j).length c') ∧ wN.cell? ⟨gW, oW + j, none⟩ = some (.int .i64 x) := ⟨((New.blk (by repeat (first | with_reducible exact New.refl _ | with_reducible assumption | with_reducible refine New.dr ?_ | with_reducible refine New.al ?_ _) : New wm _) HSM.out).fr hFN (fun e => own_ne HOM.out HSM.out (by decide) e)).range, n1, hFN.cell_some ((by repeat (first | with_reducible exact New.refl _ | with_reducible assumption | with_reducible refine New.dr ?_ | with_reducible refine New.al ?_ _) : New wm _).cell_ HCM.out) (fun e => HWN.out e)⟩
          try simp only [Act.put, List.setIfInBounds_toArray, List.set_cons_zero, List.set_cons_succ]
          refine hK.out _ _ (fun _ => hSE) ?_
          refine wpAnyT_take (i := 10) (oi := ⟨_, _, _, _, _, _⟩) (v := .pointer (some ⟨gX, 1, none⟩)) rfl (by kernel_rfl) (by kernel_rfl) (by kernel_rfl) (by kernel_rfl) (fun _ _ _ h => h) (Or.inl ⟨by rfl, fun w hSw => by have h1 := hSw.1; have h2 := hSw.2.1; have h3 := hSw.2.2; clear hSw; go_simp⟩) (hSE) ?_
          try simp only [Act.put, List.setIfInBounds_toArray, List.set_cons_zero, List.set_cons_succ]
          refine wpAnyT_ready (rs := [11]) (by kernel_rfl) (by simp) (AllT.cons (i := 11) (o := ⟨_, _, _, _, _, _⟩) rfl (fun K hK => ?_) AllT.nil)
          go_simp
          try simp only [Act.put, List.setIfInBounds_toArray, List.set_cons_zero, List.set_cons_succ]
          refine hK.out _ _ (fun h => absurd rfl h) ?_
          refine wpAnyT_done (by kernel_rfl) ?_ _
          have hNN : Fr (fun k => (Value.slice A' (cutR r keep j).length c').ownBlock = some k) wm wN := ((by repeat (first | with_reducible exact New.refl _ | with_reducible assumption | with_reducible refine New.dr ?_ | with_reducible refine New.al ?_ _) : New wm _).toFr _).trans hFN
          have hBZ := hBN.set 1 (.slice A4 ((cutR r keep j).length + 1) c4)
          have hFZ : Fr (fun k => k = gX) wN (wN.setCell ⟨gX, 1, none⟩ (.slice A4 ((cutR r keep j).length + 1) c4)) := (Fr.refl (fun k => k = gX) wN).setCell (p := ⟨gX, 1, none⟩) (fun _ => rfl) _
          have hOZ := own_fr hON hFZ (fun k hk e => by subst e; exact own_ne hON hBN (by decide) hk)
          have hNZ : New w3 (wN.setCell ⟨gX, 1, none⟩ (.slice A4 ((cutR r keep j).length + 1) c4)) := (HNM.out.fr hNN (fun k hk => (own_lt HOM.out k hk).1)).fr hFZ (fun k hk => by have := HGX.out; omega)
          have hWZ : RdT 3 (wN.setCell ⟨gX, 1, none⟩ (.slice A4 ((cutR r keep j).length + 1) c4)) 1 (some ⟨gW, oW, none⟩) m (i64s (waits r.fresh)) := (HWS.out.fr hNN (fun k hk => IsT.not_own HOM.out (by decide) hk)).fr hFZ (fun k hk => by subst hk; exact IsT.not_blk hBN (by decide))
          have hC := HC.out
          clear n1 n1f hSE hSM z1 z2 z3 z4 z5 z6 zl hu hi
          have HZ : Hid (CutI w3 r.size gX (cutR r keep (j + 1)) (wN.setCell ⟨gX, 1, none⟩ (.slice A4 ((cutR r keep j).length + 1) c4))) := Lib.hid (by
            rw [hC]
            refine ⟨A4, c4, ?_, ?_, hNZ, HGX.out⟩
            · rw [List.length_append]; exact hBZ
            · rw [List.length_append, flatP_app, flatP_one]; simpa [putA] using hOZ)
          have HWZ := Lib.hid hWZ
          clear hC hBZ hFZ hOZ hNZ hWZ hNN hBN hON hFN hAN
          go_wp2_with fail
          go_roundw
          case rel => exact ⟨j + 1, by omega, by go_num, HZ, HWZ⟩
          case measure => simp [intOf]; omega
        · skip
          refine step_allocn (by rfl) rfl secInfo ?_
          intro gS wS hBS hNS hlS
          have hNSi : New wi wS := New.tr (by repeat (first | with_reducible exact New.refl _ | with_reducible assumption | with_reducible refine New.dr ?_ | with_reducible refine New.al ?_ _) : New wi _) hNS
          have hgS : wi.heap.size ≤ gS := Nat.le_trans (by repeat (first | with_reducible exact New.refl _ | with_reducible assumption | with_reducible refine New.dr ?_ | with_reducible refine New.al ?_ _) : New wi _).size hlS
          try simp only [Act.put, List.setIfInBounds_toArray, List.set_cons_zero, List.set_cons_succ]
          refine hK.out _ _ (fun _ => hSI _ (by repeat (first | with_reducible exact New.refl _ | with_reducible assumption | with_reducible refine New.dr ?_ | with_reducible refine New.al ?_ _) : New wi _)) ?_
          refine wpAnyT_ready (rs := [6]) (by kernel_rfl) (by simp) (AllT.cons (i := 6) (o := ⟨_, _, _, _, _, _⟩) rfl (fun K hK => ?_) AllT.nil)
          go_simp
          refine (get_any A2 r.fresh.length c2 r.fresh x _ ((by repeat (first | with_reducible exact New.refl _ | with_reducible assumption | with_reducible refine New.dr ?_ | with_reducible refine New.al ?_ _) : New wi _).rd HFI.out) rfl HFO.out (by omega)).mono ?_
          rw [HSX.out]
          rintro e w5 ⟨rfl, hN5'⟩
          have hN5 : New wi w5 := New.tr (by repeat (first | with_reducible exact New.refl _ | with_reducible assumption | with_reducible refine New.dr ?_ | with_reducible refine New.al ?_ _) : New wi _) hN5'
          try have hBS := New.blk hN5' hBS
          go_wp2_with fail
          try simp only [Act.put, List.setIfInBounds_toArray, List.set_cons_zero, List.set_cons_succ]
          refine hK.out _ _ (fun _ => hSI _ (by repeat (first | with_reducible exact New.refl _ | with_reducible assumption | with_reducible refine New.dr ?_ | with_reducible refine New.al ?_ _) : New wi _)) ?_
          refine wpAnyT_take (i := 7) (oi := ⟨_, _, _, _, _, _⟩) (v := (.tuple #[.agg (secA s), .bool (lastP r.fresh x).isSome])) rfl (by kernel_rfl) (by kernel_rfl) (by kernel_rfl) (by kernel_rfl) (fun _ _ _ h => h) (Or.inl ⟨by rfl, fun w hSw => by have h1 := hSw.1; have h2 := hSw.2; clear hSw; go_simp⟩) (hSI _ (by repeat (first | with_reducible exact New.refl _ | with_reducible assumption | with_reducible refine New.dr ?_ | with_reducible refine New.al ?_ _) : New wi _)) ?_
          try simp only [Act.put, List.setIfInBounds_toArray, List.set_cons_zero, List.set_cons_succ]
          refine wpAnyT_take (i := 8) (oi := ⟨_, _, _, _, _, _⟩) (v := .agg (secA s)) rfl (by kernel_rfl) (by kernel_rfl) (by kernel_rfl) (by kernel_rfl) (fun _ _ _ h => h) (Or.inl ⟨by rfl, fun w hSw => by have h1 := hSw.1; have h2 := hSw.2; clear hSw; go_simp⟩) (hSI _ (by repeat (first | with_reducible exact New.refl _ | with_reducible assumption | with_reducible refine New.dr ?_ | with_reducible refine New.al ?_ _) : New wi _)) ?_
          try simp only [Act.put, List.setIfInBounds_toArray, List.set_cons_zero, List.set_cons_succ]
          refine wpAnyT_take (i := 9) (oi := ⟨_, _, _, _, _, _⟩) (v := (.bool (lastP r.fresh x).isSome)) rfl (by kernel_rfl) (by kernel_rfl) (by kernel_rfl) (by kernel_rfl) (fun _ _ _ h => h) (Or.inl ⟨by rfl, fun w hSw => by have h1 := hSw.1; have h2 := hSw.2; clear hSw; go_simp⟩) (hSI _ (by repeat (first | with_reducible exact New.refl _ | with_reducible assumption | with_reducible refine New.dr ?_ | with_reducible refine New.al ?_ _) : New wi _)) ?_
          try simp only [Act.put, List.setIfInBounds_toArray, List.set_cons_zero, List.set_cons_succ]
          refine wpAnyT_ready (rs := [11]) (by kernel_rfl) (by simp) (AllT.cons (i := 11) (o := ⟨_, _, _, _, _, _⟩) rfl (fun K hK => ?_) AllT.nil)
          refine step_store_any (cs0 := secA sec0) (by rfl) (.tmp 8) (.tmp 43) rfl (by rw [secA_size, HSO.out.1]; rfl) rfl rfl hBS (by rw [secA_size, secA_size, HSO.out.1]; rfl) (secA_one s) ?_
          intro wT hBT hFT
          have hNT : New wi wT := (by repeat (first | with_reducible exact New.refl _ | with_reducible assumption | with_reducible refine New.dr ?_ | with_reducible refine New.al ?_ _) : New wi _).fr hFT (fun k hk => by omega)
          have hBS := hBT
          try simp only [Act.put, List.setIfInBounds_toArray, List.set_cons_zero, List.set_cons_succ]
          refine hK.out _ _ (fun _ => hSI _ hNT) ?_
          refine wpAnyT_ready (rs := [12]) (by kernel_rfl) (by simp) (AllT.cons (i := 12) (o := ⟨_, _, _, _, _, _⟩) rfl (fun K hK => ?_) AllT.nil)
          go_simp
          try simp only [Act.put, List.setIfInBounds_toArray, List.set_cons_zero, List.set_cons_succ]
          refine hK.out _ _ (fun h => absurd rfl h) ?_
          refine wpAnyT_done (by kernel_rfl) ?_ _
          obtain ⟨wm, hwm⟩ : ∃ wm : World, wm = wT := ⟨_, rfl⟩
          rw [← hwm] at hNT hBS
          rw [← hwm]
          clear hwm
          have HNM : Hid (New w3 wm) := Lib.hid ((hNI.tr hNT))
          have HBM := Lib.hid (New.blk hNT HBI.out)
          have HOM := Lib.hid (New.own hNT HOI.out)
          have HSM := Lib.hid hBS
          have HCM : Hid (wm.cell? ⟨gW, oW + j, none⟩ = some (.int .i64 x)) := Lib.hid (hNT.cell_ HCW.out)
          have HWS : Hid (RdT 3 wm 1 (some ⟨gW, oW, none⟩) m (i64s (waits r.fresh))) := Lib.hid (HWI.out.new hNT)
          have HN3M : Hid (w3.heap.size ≤ wm.heap.size) := Lib.hid HNM.out.size
          clear hNT hBS
          have hSM : ∀ w', New wm w' → w'.rangeAt gS 0 (u8s s) ∧ w'.cell? ⟨gX, 1, none⟩ = some (.slice A' (cutR r keep j).length c') ∧ w'.cell? ⟨gW, oW + j, none⟩ = some (.int .i64 x) := fun w' hN => ⟨(New.blk hN HSM.out).range, hN.cell_ (HBM.out.cell 1), hN.cell_ HCM.out⟩
          have hu := Try.underlying31
          have hi : (Try.prog.info? 31).map (·.size) = some (u8s s).length := by rw [u8s_len, HSO.out.1]; rfl
          have z1 := putZ_zero
          have z2 := putZ_size
          have z3 := putZ_ne
          have z4 := put_fold (x := x) HSO.out
          have z5 := putA_size (x := x) HSO.out
          have z6 := put_fold2 (x := x) HSO.out #[putZ[0]'(by rw [putZ_size]; omega), putZ[1]'(by rw [putZ_size]; omega), putZ[2]'(by rw [putZ_size]; omega), putZ[3]'(by rw [putZ_size]; omega), putZ[4]'(by rw [putZ_size]; omega), putZ[5]'(by rw [putZ_size]; omega), putZ[6]'(by rw [putZ_size]; omega), putZ[7]'(by rw [putZ_size]; omega), putZ[8]'(by rw [putZ_size]; omega), putZ[9]'(by rw [putZ_size]; omega), putZ[10]'(by rw [putZ_size]; omega), putZ[11]'(by rw [putZ_size]; omega), putZ[12]'(by rw [putZ_size]; omega), putZ[13]'(by rw [putZ_size]; omega), putZ[14]'(by rw [putZ_size]; omega), putZ[15]'(by rw [putZ_size]; omega), putZ[16]'(by rw [putZ_size]; omega), putZ[17]'(by rw [putZ_size]; omega), putZ[18]'(by rw [putZ_size]; omega), putZ[19]'(by rw [putZ_size]; omega), putZ[20]'(by rw [putZ_size]; omega), putZ[21]'(by rw [putZ_size]; omega), putZ[22]'(by rw [putZ_size]; omega), putZ[23]'(by rw [putZ_size]; omega), putZ[24]'(by rw [putZ_size]; omega), putZ[25]'(by rw [putZ_size]; omega), putZ[26]'(by rw [putZ_size]; omega), putZ[27]'(by rw [putZ_size]; omega), putZ[28]'(by rw [putZ_size]; omega), putZ[29]'(by rw [putZ_size]; omega), putZ[30]'(by rw [putZ_size]; omega), putZ[31]'(by rw [putZ_size]; omega), putZ[32]'(by rw [putZ_size]; omega), putZ[33]'(by rw [putZ_size]; omega), putZ[34]'(by rw [putZ_size]; omega), putZ[35]'(by rw [putZ_size]; omega), putZ[36]'(by rw [putZ_size]; omega), putZ[37]'(by rw [putZ_size]; omega), putZ[38]'(by rw [putZ_size]; omega), putZ[39]'(by rw [putZ_size]; omega), putZ[40]'(by rw [putZ_size]; omega), putZ[41]'(by rw [putZ_size]; omega), putZ[42]'(by rw [putZ_size]; omega), putZ[43]'(by rw [putZ_size]; omega), putZ[44]'(by rw [putZ_size]; omega), putZ[45]'(by rw [putZ_size]; omega), putZ[46]'(by rw [putZ_size]; omega), putZ[47]'(by rw [putZ_size]; omega), putZ[48]'(by rw [putZ_size]; omega), putZ[49]'(by rw [putZ_size]; omega), putZ[50]'(by rw [putZ_size]; omega), putZ[51]'(by rw [putZ_size]; omega), putZ[52]'(by rw [putZ_size]; omega), putZ[53]'(by rw [putZ_size]; omega), putZ[54]'(by rw [putZ_size]; omega), putZ[55]'(by rw [putZ_size]; omega), putZ[56]'(by rw [putZ_size]; omega), putZ[57]'(by rw [putZ_size]; omega), putZ[58]'(by rw [putZ_size]; omega), putZ[59]'(by rw [putZ_size]; omega), putZ[60]'(by rw [putZ_size]; omega), putZ[61]'(by rw [putZ_size]; omega), putZ[62]'(by rw [putZ_size]; omega), putZ[63]'(by rw [putZ_size]; omega), putZ[64]'(by rw [putZ_size]; omega)] rfl
          have zl : (u8s s).length = 64 := by rw [u8s_len, HSO.out.1]
          go_upto_region 8 with fail
          refine wp_region_T (fun w' => w'.rangeAt gS 0 (u8s s) ∧ w'.cell? ⟨gX, 1, none⟩ = some (.slice A' (cutR r keep j).length c') ∧ w'.cell? ⟨gW, oW + j, none⟩ = some (.int .i64 x)) 11 (by kernel_rfl) ?_
          refine wpAnyT_take (i := 0) (oi := ⟨_, _, _, _, _, _⟩) (v := .pointer (some ⟨gX, 1, none⟩)) rfl (by kernel_rfl) (by kernel_rfl) (by kernel_rfl) (by kernel_rfl) (fun _ _ _ h => h) (Or.inl ⟨by rfl, fun w hSw => by have h1 := hSw.1; have h2 := hSw.2.1; have h3 := hSw.2.2; clear hSw; go_simp⟩) (hSM _ (by repeat (first | with_reducible exact New.refl _ | with_reducible assumption | with_reducible refine New.dr ?_ | with_reducible refine New.al ?_ _) : New wm _)) ?_
          try simp only [Act.put, List.setIfInBounds_toArray, List.set_cons_zero, List.set_cons_succ]
          refine wpAnyT_take (i := 1) (oi := ⟨_, _, _, _, _, _⟩) (v := (.slice A' (cutR r keep j).length c')) rfl (by kernel_rfl) (by kernel_rfl) (by kernel_rfl) (by kernel_rfl) (fun _ _ _ h => h) (Or.inl ⟨by rfl, fun w hSw => by have h1 := hSw.1; have h2 := hSw.2.1; have h3 := hSw.2.2; clear hSw; go_simp⟩) (hSM _ (by repeat (first | with_reducible exact New.refl _ | with_reducible assumption | with_reducible refine New.dr ?_ | with_reducible refine New.al ?_ _) : New wm _)) ?_
          try simp only [Act.put, List.setIfInBounds_toArray, List.set_cons_zero, List.set_cons_succ]
          refine wpAnyT_take (i := 2) (oi := ⟨_, _, _, _, _, _⟩) (v := .slice (some ⟨gW, oW, none⟩) m cW) rfl (by kernel_rfl) (by kernel_rfl) (by kernel_rfl) (by kernel_rfl) (fun _ _ _ h => h) (Or.inl ⟨by rfl, fun w hSw => by have h1 := hSw.1; have h2 := hSw.2.1; have h3 := hSw.2.2; clear hSw; go_simp⟩) (hSM _ (by repeat (first | with_reducible exact New.refl _ | with_reducible assumption | with_reducible refine New.dr ?_ | with_reducible refine New.al ?_ _) : New wm _)) ?_
          try simp only [Act.put, List.setIfInBounds_toArray, List.set_cons_zero, List.set_cons_succ]
          refine wpAnyT_take (i := 3) (oi := ⟨_, _, _, _, _, _⟩) (v := .int .i64 j) rfl (by kernel_rfl) (by kernel_rfl) (by kernel_rfl) (by kernel_rfl) (fun _ _ _ h => h) (Or.inl ⟨by rfl, fun w hSw => by have h1 := hSw.1; have h2 := hSw.2.1; have h3 := hSw.2.2; clear hSw; go_simp⟩) (hSM _ (by repeat (first | with_reducible exact New.refl _ | with_reducible assumption | with_reducible refine New.dr ?_ | with_reducible refine New.al ?_ _) : New wm _)) ?_
          try simp only [Act.put, List.setIfInBounds_toArray, List.set_cons_zero, List.set_cons_succ]
          refine wpAnyT_take (i := 4) (oi := ⟨_, _, _, _, _, _⟩) (v := .pointer (some ⟨gW, oW + j, none⟩)) rfl (by kernel_rfl) (by kernel_rfl) (by kernel_rfl) (by kernel_rfl) (fun _ _ _ h => h) (Or.inl ⟨by rfl, fun w hSw => by have h1 := hSw.1; have h2 := hSw.2.1; have h3 := hSw.2.2; clear hSw; go_simp⟩) (hSM _ (by repeat (first | with_reducible exact New.refl _ | with_reducible assumption | with_reducible refine New.dr ?_ | with_reducible refine New.al ?_ _) : New wm _)) ?_
          try simp only [Act.put, List.setIfInBounds_toArray, List.set_cons_zero, List.set_cons_succ]
          refine wpAnyT_take (i := 5) (oi := ⟨_, _, _, _, _, _⟩) (v := .int .i64 x) rfl (by kernel_rfl) (by kernel_rfl) (by kernel_rfl) (by kernel_rfl) (fun _ _ _ h => h) (Or.inl ⟨by rfl, fun w hSw => by have h1 := hSw.1; have h2 := hSw.2.1; have h3 := hSw.2.2; clear hSw; go_simp⟩) (hSM _ (by repeat (first | with_reducible exact New.refl _ | with_reducible assumption | with_reducible refine New.dr ?_ | with_reducible refine New.al ?_ _) : New wm _)) ?_
          try simp only [Act.put, List.setIfInBounds_toArray, List.set_cons_zero, List.set_cons_succ]
          refine wpAnyT_take (i := 6) (oi := ⟨_, _, _, _, _, _⟩) (v := .agg (u8s s).toArray) rfl (by kernel_rfl) (by kernel_rfl) (by kernel_rfl) (by kernel_rfl) (fun _ _ _ h => h) (yieldsIf_load_mid (by rfl) _ _ rfl _ _ rfl _ _ (fun w hSw => hSw.1) hu rfl hi) (hSM _ (by repeat (first | with_reducible exact New.refl _ | with_reducible assumption | with_reducible refine New.dr ?_ | with_reducible refine New.al ?_ _) : New wm _)) ?_
          try simp only [Act.put, List.setIfInBounds_toArray, List.set_cons_zero, List.set_cons_succ]
          refine wpAnyT_take (i := 7) (oi := ⟨_, _, _, _, _, _⟩) (v := .agg (putA x s)) rfl (by kernel_rfl) (by kernel_rfl) (by kernel_rfl) (by kernel_rfl) (fun _ _ _ h => h) (Or.inl ⟨by rfl, fun w hSw => by have h1 := hSw.1; have h2 := hSw.2.1; have h3 := hSw.2.2; clear hSw; go_simp⟩) (hSM _ (by repeat (first | with_reducible exact New.refl _ | with_reducible assumption | with_reducible refine New.dr ?_ | with_reducible refine New.al ?_ _) : New wm _)) ?_
          try simp only [Act.put, List.setIfInBounds_toArray, List.set_cons_zero, List.set_cons_succ]
          refine wpAnyT_ready (rs := [8]) (by kernel_rfl) (by simp) (AllT.cons (i := 8) (o := ⟨_, _, _, _, _, _⟩) rfl (fun K hK => ?_) AllT.nil)
          go_simp
          try simp only [Act.put, List.setIfInBounds_toArray, List.set_cons_zero, List.set_cons_succ]
          refine hK.out _ _ (fun _ => hSM _ (by repeat (first | with_reducible exact New.refl _ | with_reducible assumption | with_reducible refine New.dr ?_ | with_reducible refine New.al ?_ _) : New wm _)) ?_
          refine wpAnyT_ready (rs := [9]) (by kernel_rfl) (by simp) (AllT.cons (i := 9) (o := ⟨_, _, _, _, _, _⟩) rfl (fun K hK => ?_) AllT.nil)
          refine step_app elP _ (by rfl) (.tmp 46) (.tmp 53) (by rfl) w3.heap.size (.slice A' (cutR r keep j).length c') (cutR r keep j).length (flatP (cutR r keep j)) (by rfl) (New.own (by repeat (first | with_reducible exact New.refl _ | with_reducible assumption | with_reducible refine New.dr ?_ | with_reducible refine New.al ?_ _) : New wm _) HOM.out) (some ⟨_, 0, none⟩) 1 1 (putA x s).toList (by rfl) (Rd.ofBlk (p := fun _ => True) (t := 75) (cs := putA x s) (by repeat (first | with_reducible exact Blk.new' _ _ _ (by first | rfl | (simp; done)) | with_reducible refine Blk.drew ?_ | with_reducible refine Blk.alloc ?_ _ | with_reducible refine Blk.fr ?_ hF1 (by simp [Value.ownBlock]) | with_reducible refine New.blk hNX ?_)) 65 1 (by rw [z5]) trivial) (by intro u hu; exact PU.one ⟨x, s⟩ u (by simpa [putA] using hu)) (by unfold maxLen; omega) (by omega) (Nat.le_trans HN3M.out (by repeat (first | with_reducible exact New.refl _ | with_reducible assumption | with_reducible refine New.dr ?_ | with_reducible refine New.al ?_ _) : New wm _).size) ?_
          intro A4 c4 wN hON hFN hAN
          have hBN : Blk wN gX 48 #[.int .i64 r.size, .slice A' (cutR r keep j).length c', .slice none 0 0, .int .i64 (-1), .bool false] := (New.blk (by repeat (first | with_reducible exact New.refl _ | with_reducible assumption | with_reducible refine New.dr ?_ | with_reducible refine New.al ?_ _) : New wm _) HBM.out).fr hFN (fun e => own_ne HOM.out HBM.out (by decide) e)
          have n1 := hBN.cell 1
          have n1f := hBN.frozen 1
          have hSE : wN.rangeAt gS 0 (u8s s) ∧ wN.cell? ⟨gX, 1, none⟩ = some (.slice A' (cutR r keep j).length c') ∧ wN.cell? ⟨gW, oW + j, none⟩ = some (.int .i64 x) := ⟨((New.blk (by repeat (first | with_reducible exact New.refl _ | with_reducible assumption | with_reducible refine New.dr ?_ | with_reducible refine New.al ?_ _) : New wm _) HSM.out).fr hFN (fun e => own_ne HOM.out HSM.out (by decide) e)).range, n1, hFN.cell_some ((by repeat (first | with_reducible exact New.refl _ | with_reducible assumption | with_reducible refine New.dr ?_ | with_reducible refine New.al ?_ _) : New wm _).cell_ HCM.out) (fun e => HWN.out e)⟩
          try simp only [Act.put, List.setIfInBounds_toArray, List.set_cons_zero, List.set_cons_succ]
          refine hK.out _ _ (fun _ => hSE) ?_
          refine wpAnyT_take (i := 10) (oi := ⟨_, _, _, _, _, _⟩) (v := .pointer (some ⟨gX, 1, none⟩)) rfl (by kernel_rfl) (by kernel_rfl) (by kernel_rfl) (by kernel_rfl) (fun _ _ _ h => h) (Or.inl ⟨by rfl, fun w hSw => by have h1 := hSw.1; have h2 := hSw.2.1; have h3 := hSw.2.2; clear hSw; go_simp⟩) (hSE) ?_
          try simp only [Act.put, List.setIfInBounds_toArray, List.set_cons_zero, List.set_cons_succ]
          refine wpAnyT_ready (rs := [11]) (by kernel_rfl) (by simp) (AllT.cons (i := 11) (o := ⟨_, _, _, _, _, _⟩) rfl (fun K hK => ?_) AllT.nil)
          go_simp
          try simp only [Act.put, List.setIfInBounds_toArray, List.set_cons_zero, List.set_cons_succ]
          refine hK.out _ _ (fun h => absurd rfl h) ?_
          refine wpAnyT_done (by kernel_rfl) ?_ _
          have hNN : Fr (fun k => (Value.slice A' (cutR r keep j).length c').ownBlock = some k) wm wN := ((by repeat (first | with_reducible exact New.refl _ | with_reducible assumption | with_reducible refine New.dr ?_ | with_reducible refine New.al ?_ _) : New wm _).toFr _).trans hFN
          have hBZ := hBN.set 1 (.slice A4 ((cutR r keep j).length + 1) c4)
          have hFZ : Fr (fun k => k = gX) wN (wN.setCell ⟨gX, 1, none⟩ (.slice A4 ((cutR r keep j).length + 1) c4)) := (Fr.refl (fun k => k = gX) wN).setCell (p := ⟨gX, 1, none⟩) (fun _ => rfl) _
          have hOZ := own_fr hON hFZ (fun k hk e => by subst e; exact own_ne hON hBN (by decide) hk)
          have hNZ : New w3 (wN.setCell ⟨gX, 1, none⟩ (.slice A4 ((cutR r keep j).length + 1) c4)) := (HNM.out.fr hNN (fun k hk => (own_lt HOM.out k hk).1)).fr hFZ (fun k hk => by have := HGX.out; omega)
          have hWZ : RdT 3 (wN.setCell ⟨gX, 1, none⟩ (.slice A4 ((cutR r keep j).length + 1) c4)) 1 (some ⟨gW, oW, none⟩) m (i64s (waits r.fresh)) := (HWS.out.fr hNN (fun k hk => IsT.not_own HOM.out (by decide) hk)).fr hFZ (fun k hk => by subst hk; exact IsT.not_blk hBN (by decide))
          have hC := HC.out
          clear n1 n1f hSE hSM z1 z2 z3 z4 z5 z6 zl hu hi
          have HZ : Hid (CutI w3 r.size gX (cutR r keep (j + 1)) (wN.setCell ⟨gX, 1, none⟩ (.slice A4 ((cutR r keep j).length + 1) c4))) := Lib.hid (by
            rw [hC]
            refine ⟨A4, c4, ?_, ?_, hNZ, HGX.out⟩
            · rw [List.length_append]; exact hBZ
            · rw [List.length_append, flatP_app, flatP_one]; simpa [putA] using hOZ)
          have HWZ := Lib.hid hWZ
          clear hC hBZ hFZ hOZ hNZ hWZ hNN hBN hON hFN hAN
          go_wp2_with fail
          go_roundw
          case rel => exact ⟨j + 1, by omega, by go_num, HZ, HWZ⟩
          case measure => simp [intOf]; omega
    · as_aux_lemma =>
      have hfin : cutR r keep j = cutR r keep (waits r.fresh).length := by
        have := HM.out
        have := HKL.out
        by_cases hjm : j < m
        · have h2 : keep.length ≤ j := by omega
          rw [← cutR_stop h2 ((waits r.fresh).length - j)]
          congr 1
          omega
        · have : j = m := by omega
          rw [this, HM.out]
      have HFIN := Lib.hid hfin
      have hRB : Blk wr (G + 1) 48 #[.int .i64 0, .slice none 0 0, .slice none 0 0, .int .i64 0, .bool false] := New.blk hNI HR3.out
      have HRB := Lib.hid hRB
      have HBI := Lib.hid hBI
      have HOI := Lib.hid hOI
      have HNI := Lib.hid hNI
      have hcl := cutR_len r keep j
      have hex : ¬ j < m ∨ (j < m ∧ ¬ j < n) := by omega
      clear hRB hBI hOI hNI hfin hgo
      have hlt3 := HR3.out.lt
      have hgx := HGX.out
      rcases hex with hjm | ⟨hjm, hjn⟩
      all_goals
        go_wp2_with (first
          | ((with_reducible refine atOp ⟨some 56, .load _ _, _, _, _, _⟩ ?_); refine wpList_load_any rfl _ rfl Try.underlying48 rfl rfl rfl HBI.out ?_)
          | ((with_reducible refine atOp ⟨none, .store 48 (.tmp 4) _, _, _, _, _⟩ ?_); refine wpList_store_any rfl (.tmp 4) (.tmp 56) rfl rfl rfl rfl HRB.out rfl (rf_one _ _ _ _ _ _ _ _ _) ?_; intro w8 hb8 hf8; have HB8 := Lib.hid hb8; have HF8 := Lib.hid hf8; clear hb8 hf8))
        refine bodyPost_ret (results_row1 rfl _ _ (G + 1) _ _ rfl HB8.out Try.underlying48 rfl rfl) rfl ?_
        have h6 : RdT 75 wr 65 A' (cutR r keep j).length (flatP (cutR r keep j)) := RdT.own HOI.out rfl
        have h8 := h6.fr HF8.out (fun k hk => by subst hk; exact IsT.not_blk HRB.out (by decide))
        have hN8 : New w w8 := (HN3.out.tr HNI.out).fr HF8.out (fun k hk => by have := HGW.out; omega)
        have he : RfV (r.cut keep) A' c' none 0 = #[.int .i64 r.size, .slice A' (cutR r keep j).length c', .slice none 0 0, .int .i64 (-1), .bool false] := by
          unfold RfV RP.cut
          rw [← HFIN.out]
          rfl
        refine ⟨⟨A', c', none, 0, by rw [he], ⟨?_, RdT.nil, H.out.ok.cut keep⟩⟩, hN8⟩
        have : (r.cut keep).sure = cutR r keep j := HFIN.out.symm
        rw [this]
        exact h8
end Go.Proofs.Ytpdgnidoglmgcaa
