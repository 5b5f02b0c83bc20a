/- Texts of one proof, one behind the other: DrF, RdC, RdE, RdF. No condition but each one's own. -/
import Derived.Test.YtdojmjglnlkmoaaDoorRecordPlaysM21
import Derived.Deep.CutBlock
import Derived.Test.YtdojmjglnlkmoaaDoorRecordPlaysM20
/- The reference's disk: the power cut. No condition but that it can be read. -/
namespace Go.Proofs.YtdojmjglnlkmoaaDoor
set_option linter.unusedVariables false
set_option linter.unusedSimpArgs false
set_option linter.constructorNameAsVariable false
open Go.RowKit Go.Maps

theorem rInfo : (Tryd.prog.info? 33).map (fun i => (i.zero, i.size)) = some (some (.agg #[.int .i64 0, .slice none 0 0, .slice none 0 0, .int .i64 0, .bool false]), 5) := by kernel_rfl
/-- The disk that Cut makes, at block g. -/
def CutI (w3 : World) (size : Int) (g : Nat) (L : List PU) (wx : World) : Prop := ∃ A c, Blk wx g 33 #[.int .i64 size, .slice A L.length c, .slice none 0 0, .int .i64 (-1), .bool false] ∧ wx.ownsRow w3.heap.size 87 65 (.slice A L.length c) L.length (flatP L) ∧ New w3 wx ∧ w3.heap.size ≤ g
theorem cutR_skip {r : RP} {keep : List Bool} {j : Nat} (h : keep.getD j false = false) : cutR r keep (j + 1) = cutR r keep j := by simp only [cutR, h]; rfl
theorem cutR_stop {r : RP} {keep : List Bool} {j : Nat} (h : keep.length ≤ j) : ∀ k, cutR r keep (j + k) = cutR r keep j
  | 0 => rfl
  | k + 1 => by
    rw [← Nat.add_assoc, cutR_skip (by rw [List.getD_eq_getElem?_getD, List.getElem?_eq_none (by omega)]; rfl)]
    exact cutR_stop h k
theorem cutR_take {r : RP} {keep : List Bool} {j : Nat} (h : keep.getD j false = true) : cutR r keep (j + 1) = cutR r keep j ++ [⟨(waits r.fresh).getD j 0, getS r.fresh ((waits r.fresh).getD j 0)⟩] := by simp only [cutR, h, if_true]; rfl

set_option maxHeartbeats 8000000 in
set_option maxRecDepth 100000 in
theorem rcut_any (r : RP) (A1 : Option Addr) (c1 : Nat) (A2 : Option Addr) (c2 : Nat) {q : Nat → Prop} (A : Option Addr) (n c : Nat) (keep : List Bool) (w : World) (h : RfIn w r A1 A2) (hR : Rd q w 1 A n (bools keep)) (hq : ∀ k, q k → k < w.heap.size) (hn : r.tot ≤ 10000) (hn2 : n ≤ maxLen) :
    Calls Tryd.prog 29 #[.agg (RfV r A1 c1 A2 c2), .slice A n c] w fun e w' => RfEnd1 w' (r.cut keep) e ∧ New w w' := by
  have H := Lib.hid h
  have HR := Lib.hid hR
  have HQ := Lib.hid hq
  have hkl : keep.length = n := by have := hR.1; rw [bools_len] at this; omega
  have HKL := Lib.hid hkl
  have hn1 : r.sure.length + r.fresh.length ≤ 10000 := hn
  unfold maxLen at hn2
  have HP1 : Hid (∀ u ∈ flatP r.sure, u.oneCell' = true) := Lib.hid (flatP_cell _)
  unfold RfV
  clear h hR hkl hn hq
  go_enter Tryd.func29, Tryd.ntmps29
  go_upto_region 1 with fail
  obtain ⟨w3, hw3⟩ : ∃ w3 : World, w3 = (w.alloc (.cells #[.int .i64 r.size, .slice A1 r.sure.length c1, .slice A2 r.fresh.length c2, .int .i64 r.fuse, .bool r.down] 33)).alloc (.cells #[.int .i64 0, .slice none 0 0, .slice none 0 0, .int .i64 0, .bool false] 33) := ⟨_, rfl⟩
  obtain ⟨G, hG⟩ : ∃ G, G = w.heap.size := ⟨_, rfl⟩
  rw [← hG]
  have HN3 : Hid (New w w3) := Lib.hid (by rw [hw3]; exact ((New.refl w).al _).al _)
  have HB3 : Hid (Blk w3 G 33 #[.int .i64 r.size, .slice A1 r.sure.length c1, .slice A2 r.fresh.length c2, .int .i64 r.fuse, .bool r.down]) := Lib.hid (by rw [hw3, hG]; exact (Blk.new _ _ _).alloc _)
  have HR3 : Hid (Blk w3 (G + 1) 33 #[.int .i64 0, .slice none 0 0, .slice none 0 0, .int .i64 0, .bool false]) := Lib.hid (by rw [hw3, hG]; exact Blk.new' _ _ _ (by simp))
  rw [← hw3]
  have HGW : Hid (G = w.heap.size) := Lib.hid hG
  clear hw3 hG
  go_cut [5] (fun s5 wx => ∃ gX, s5 = .pointer (some ⟨gX, 0, none⟩) ∧ Hid (CutI w3 r.size gX r.sure wx))
  case first =>
    have hSN : ∀ w', New w3 w' → w'.cell? ⟨G, 0, none⟩ = some (.int .i64 r.size) ∧ w'.cell? ⟨G, 1, none⟩ = some (.slice A1 r.sure.length c1) := fun w' hN => ⟨hN.cell_ (HB3.out.cell 0), hN.cell_ (HB3.out.cell 1)⟩
    refine wp_region_T (fun w' => w'.cell? ⟨G, 0, none⟩ = some (.int .i64 r.size) ∧ w'.cell? ⟨G, 1, none⟩ = some (.slice A1 r.sure.length c1)) 8 (by kernel_rfl) ?_
    refine wpAnyT_take (i := 0) (oi := ⟨_, _, _, _, _, _⟩) (v := .pointer (some ⟨G, 0, none⟩)) rfl (by kernel_rfl) (by kernel_rfl) (by kernel_rfl) (by kernel_rfl) (fun _ _ _ h => h) (Or.inl ⟨by rfl, fun w hSw => by have h1 := hSw.1; have h2 := hSw.2; clear hSw; go_simp⟩) (hSN _ (by repeat (first | with_reducible exact New.refl _ | with_reducible assumption | with_reducible refine New.dr ?_ | with_reducible refine New.al ?_ _) : New w3 _)) ?_
    try simp only [Act.put, List.setIfInBounds_toArray, List.set_cons_zero, List.set_cons_succ]
    refine wpAnyT_take (i := 1) (oi := ⟨_, _, _, _, _, _⟩) (v := .int .i64 r.size) rfl (by kernel_rfl) (by kernel_rfl) (by kernel_rfl) (by kernel_rfl) (fun _ _ _ h => h) (Or.inl ⟨by rfl, fun w hSw => by have h1 := hSw.1; have h2 := hSw.2; clear hSw; go_simp⟩) (hSN _ (by repeat (first | with_reducible exact New.refl _ | with_reducible assumption | with_reducible refine New.dr ?_ | with_reducible refine New.al ?_ _) : New w3 _)) ?_
    try simp only [Act.put, List.setIfInBounds_toArray, List.set_cons_zero, List.set_cons_succ]
    refine wpAnyT_take (i := 3) (oi := ⟨_, _, _, _, _, _⟩) (v := .pointer (some ⟨G, 1, none⟩)) rfl (by kernel_rfl) (by kernel_rfl) (by kernel_rfl) (by kernel_rfl) (fun _ _ _ h => h) (Or.inl ⟨by rfl, fun w hSw => by have h1 := hSw.1; have h2 := hSw.2; clear hSw; go_simp⟩) (hSN _ (by repeat (first | with_reducible exact New.refl _ | with_reducible assumption | with_reducible refine New.dr ?_ | with_reducible refine New.al ?_ _) : New w3 _)) ?_
    try simp only [Act.put, List.setIfInBounds_toArray, List.set_cons_zero, List.set_cons_succ]
    refine wpAnyT_take (i := 4) (oi := ⟨_, _, _, _, _, _⟩) (v := .slice A1 r.sure.length c1) rfl (by kernel_rfl) (by kernel_rfl) (by kernel_rfl) (by kernel_rfl) (fun _ _ _ h => h) (Or.inl ⟨by rfl, fun w hSw => by have h1 := hSw.1; have h2 := hSw.2; clear hSw; go_simp⟩) (hSN _ (by repeat (first | with_reducible exact New.refl _ | with_reducible assumption | with_reducible refine New.dr ?_ | with_reducible refine New.al ?_ _) : New w3 _)) ?_
    try simp only [Act.put, List.setIfInBounds_toArray, List.set_cons_zero, List.set_cons_succ]
    refine wpAnyT_ready (rs := [2, 7]) (by kernel_rfl) (by simp) (AllT.cons (i := 2) (o := ⟨_, _, _, _, _, _⟩) rfl (fun K hK => ?_) (AllT.cons (i := 7) (o := ⟨_, _, _, _, _, _⟩) rfl (fun K hK => ?_) AllT.nil))
    · skip
      go_simp
      try simp only [Act.put, List.setIfInBounds_toArray, List.set_cons_zero, List.set_cons_succ]
      refine hK.out _ _ (fun _ => hSN _ (by repeat (first | with_reducible exact New.refl _ | with_reducible assumption | with_reducible refine New.dr ?_ | with_reducible refine New.al ?_ _) : New w3 _)) ?_
      refine wpAnyT_ready (rs := [5, 7]) (by kernel_rfl) (by simp) (AllT.cons (i := 5) (o := ⟨_, _, _, _, _, _⟩) rfl (fun K hK => ?_) (AllT.cons (i := 7) (o := ⟨_, _, _, _, _, _⟩) rfl (fun K hK => ?_) AllT.nil))
      · skip
        refine step_app elP _ (by rfl) (.tmp 12) (.tmp 14) (by rfl) w3.heap.size (.slice (some ⟨_, 0, none⟩) 0 0) 0 [] (by rfl) (own_lit (by repeat (first | with_reducible exact Blk.new' _ _ _ (by first | rfl | (simp; done)) | with_reducible refine Blk.drew ?_ | with_reducible refine Blk.alloc ?_ _ | with_reducible refine Blk.fr ?_ hF1 (by simp [Value.ownBlock]) | with_reducible refine New.blk hNX ?_)) (by first | omega | (simp; done) | (simp; omega))) A1 r.sure.length c1 (flatP r.sure) (by rfl) ((by repeat (first | with_reducible exact New.refl _ | with_reducible assumption | with_reducible refine New.dr ?_ | with_reducible refine New.al ?_ _) : New w3 _).rd (H.out.new HN3.out).sure) HP1.out (by unfold maxLen; omega) (by omega) (by first | omega | (simp; done) | (simp; omega)) ?_
        intro A1' d1 w5 hO1 hF1 hA1
        have hN1 : New w3 w5 := (by repeat (first | with_reducible exact New.refl _ | with_reducible assumption | with_reducible refine New.dr ?_ | with_reducible refine New.al ?_ _) : New w3 _).fr hF1 (by intro k hk; simp [Value.ownBlock] at hk; omega)
        rw [Nat.zero_add, List.nil_append] at hO1
        rw [Nat.zero_add] at hA1
        rw [Nat.zero_add]
        try simp only [Act.put, List.setIfInBounds_toArray, List.set_cons_zero, List.set_cons_succ]
        refine hK.out _ _ (fun _ => hSN _ (by repeat (first | with_reducible exact New.refl _ | with_reducible assumption | with_reducible refine New.dr ?_ | with_reducible refine New.al ?_ _) : New w3 _)) ?_
        refine wpAnyT_take (i := 6) (oi := ⟨_, _, _, _, _, _⟩) (v := (.agg #[.int .i64 r.size, .slice A1' r.sure.length d1, .slice none 0 0, .int .i64 (-1), .bool false])) rfl (by kernel_rfl) (by kernel_rfl) (by kernel_rfl) (by kernel_rfl) (fun _ _ _ h => h) (Or.inl ⟨by rfl, fun w hSw => by have h1 := hSw.1; have h2 := hSw.2; clear hSw; go_simp⟩) (hSN _ (by repeat (first | with_reducible exact New.refl _ | with_reducible assumption | with_reducible refine New.dr ?_ | with_reducible refine New.al ?_ _) : New w3 _)) ?_
        try simp only [Act.put, List.setIfInBounds_toArray, List.set_cons_zero, List.set_cons_succ]
        refine wpAnyT_ready (rs := [7]) (by kernel_rfl) (by simp) (AllT.cons (i := 7) (o := ⟨_, _, _, _, _, _⟩) rfl (fun K hK => ?_) AllT.nil)
        refine step_allocn (by rfl) rfl rInfo ?_
        intro gX wX hBX hNX hlX
        have hNA : New w3 wX := New.tr (by repeat (first | with_reducible exact New.refl _ | with_reducible assumption | with_reducible refine New.dr ?_ | with_reducible refine New.al ?_ _) : New w3 _) hNX
        have hltX := hBX.lt
        have hszX : w3.heap.size ≤ wX.heap.size := hNA.size
        have hl3 : w3.heap.size ≤ gX := by have h1 : w3.heap.size ≤ _ := Nat.le_trans (by repeat (first | with_reducible exact New.refl _ | with_reducible assumption | with_reducible refine New.dr ?_ | with_reducible refine New.al ?_ _) : New w3 _).size hlX; exact h1
        have hO1 := New.own hNX hO1
        try simp only [Act.put, List.setIfInBounds_toArray, List.set_cons_zero, List.set_cons_succ]
        refine hK.out _ _ (fun _ => hSN _ (by repeat (first | with_reducible exact New.refl _ | with_reducible assumption | with_reducible refine New.dr ?_ | with_reducible refine New.al ?_ _) : New w3 _)) ?_
        refine wpAnyT_ready (rs := [8]) (by kernel_rfl) (by simp) (AllT.cons (i := 8) (o := ⟨_, _, _, _, _, _⟩) rfl (fun K hK => ?_) AllT.nil)
        refine step_store_any (by rfl) (.tmp 5) (.tmp 16) rfl rfl rfl rfl hBX rfl (rf_one _ _ _ _ _ _ _ _ _) ?_
        intro wY hBY hFY
        have hNY : New w3 wY := (by repeat (first | with_reducible exact New.refl _ | with_reducible assumption | with_reducible refine New.dr ?_ | with_reducible refine New.al ?_ _) : New w3 _).fr hFY (fun k hk => by omega)
        have hOY : wY.ownsRow w3.heap.size 87 65 (.slice A1' r.sure.length d1) r.sure.length (flatP r.sure) := by
          refine own_fr (S := fun k => k = gX) (w := _) ?_ hFY (fun k hk e => ?_)
          · exact hO1
          · subst e; exact own_ne hO1 hBX (by decide) hk
        try simp only [Act.put, List.setIfInBounds_toArray, List.set_cons_zero, List.set_cons_succ]
        refine hK.out _ _ (fun h => absurd rfl h) ?_
        refine wpAnyT_done (by kernel_rfl) ?_ _
        try go_wp2_with fail
        go_meet
        exact ⟨gX, rfl, Lib.hid ⟨A1', d1, hBY, hOY, hNY, hl3⟩⟩
      · skip
        refine step_allocn (by rfl) rfl rInfo ?_
        intro gX wX hBX hNX hlX
        have hNA : New w3 wX := New.tr (by repeat (first | with_reducible exact New.refl _ | with_reducible assumption | with_reducible refine New.dr ?_ | with_reducible refine New.al ?_ _) : New w3 _) hNX
        have hltX := hBX.lt
        have hszX : w3.heap.size ≤ wX.heap.size := hNA.size
        have hl3 : w3.heap.size ≤ gX := by have h1 : w3.heap.size ≤ _ := Nat.le_trans (by repeat (first | with_reducible exact New.refl _ | with_reducible assumption | with_reducible refine New.dr ?_ | with_reducible refine New.al ?_ _) : New w3 _).size hlX; exact h1
        simp at hlX
        try simp only [Act.put, List.setIfInBounds_toArray, List.set_cons_zero, List.set_cons_succ]
        refine hK.out _ _ (fun _ => hSN _ (by repeat (first | with_reducible exact New.refl _ | with_reducible assumption | with_reducible refine New.dr ?_ | with_reducible refine New.al ?_ _) : New w3 _)) ?_
        refine wpAnyT_ready (rs := [5]) (by kernel_rfl) (by simp) (AllT.cons (i := 5) (o := ⟨_, _, _, _, _, _⟩) rfl (fun K hK => ?_) AllT.nil)
        refine step_app elP _ (by rfl) (.tmp 12) (.tmp 14) (by rfl) w3.heap.size (.slice (some ⟨_, 0, none⟩) 0 0) 0 [] (by rfl) (own_lit (by repeat (first | with_reducible exact Blk.new' _ _ _ (by first | rfl | (simp; done)) | with_reducible refine Blk.drew ?_ | with_reducible refine Blk.alloc ?_ _ | with_reducible refine Blk.fr ?_ hF1 (by simp [Value.ownBlock]) | with_reducible refine New.blk hNX ?_)) (by first | omega | (simp; done) | (simp; omega))) A1 r.sure.length c1 (flatP r.sure) (by rfl) ((by repeat (first | with_reducible exact New.refl _ | with_reducible assumption | with_reducible refine New.dr ?_ | with_reducible refine New.al ?_ _) : New w3 _).rd (H.out.new HN3.out).sure) HP1.out (by unfold maxLen; omega) (by omega) (by first | omega | (simp; done) | (simp; omega)) ?_
        intro A1' d1 w5 hO1 hF1 hA1
        have hN1 : New w3 w5 := (by repeat (first | with_reducible exact New.refl _ | with_reducible assumption | with_reducible refine New.dr ?_ | with_reducible refine New.al ?_ _) : New w3 _).fr hF1 (by intro k hk; simp [Value.ownBlock] at hk; omega)
        have hBX := Blk.fr (New.blk (by repeat (first | with_reducible exact New.refl _ | with_reducible assumption | with_reducible refine New.dr ?_ | with_reducible refine New.al ?_ _) : New wX _) hBX) hF1 (by simp [Value.ownBlock]; omega)
        rw [Nat.zero_add, List.nil_append] at hO1
        rw [Nat.zero_add] at hA1
        rw [Nat.zero_add]
        try simp only [Act.put, List.setIfInBounds_toArray, List.set_cons_zero, List.set_cons_succ]
        refine hK.out _ _ (fun _ => hSN _ (by repeat (first | with_reducible exact New.refl _ | with_reducible assumption | with_reducible refine New.dr ?_ | with_reducible refine New.al ?_ _) : New w3 _)) ?_
        refine wpAnyT_take (i := 6) (oi := ⟨_, _, _, _, _, _⟩) (v := (.agg #[.int .i64 r.size, .slice A1' r.sure.length d1, .slice none 0 0, .int .i64 (-1), .bool false])) rfl (by kernel_rfl) (by kernel_rfl) (by kernel_rfl) (by kernel_rfl) (fun _ _ _ h => h) (Or.inl ⟨by rfl, fun w hSw => by have h1 := hSw.1; have h2 := hSw.2; clear hSw; go_simp⟩) (hSN _ (by repeat (first | with_reducible exact New.refl _ | with_reducible assumption | with_reducible refine New.dr ?_ | with_reducible refine New.al ?_ _) : New w3 _)) ?_
        try simp only [Act.put, List.setIfInBounds_toArray, List.set_cons_zero, List.set_cons_succ]
        refine wpAnyT_ready (rs := [8]) (by kernel_rfl) (by simp) (AllT.cons (i := 8) (o := ⟨_, _, _, _, _, _⟩) rfl (fun K hK => ?_) AllT.nil)
        refine step_store_any (by rfl) (.tmp 5) (.tmp 16) rfl rfl rfl rfl hBX rfl (rf_one _ _ _ _ _ _ _ _ _) ?_
        intro wY hBY hFY
        have hNY : New w3 wY := (by repeat (first | with_reducible exact New.refl _ | with_reducible assumption | with_reducible refine New.dr ?_ | with_reducible refine New.al ?_ _) : New w3 _).fr hFY (fun k hk => by omega)
        have hOY : wY.ownsRow w3.heap.size 87 65 (.slice A1' r.sure.length d1) r.sure.length (flatP r.sure) := by
          refine own_fr (S := fun k => k = gX) (w := _) ?_ hFY (fun k hk e => ?_)
          · exact hO1
          · subst e; exact own_ne hO1 hBX (by decide) hk
        try simp only [Act.put, List.setIfInBounds_toArray, List.set_cons_zero, List.set_cons_succ]
        refine hK.out _ _ (fun h => absurd rfl h) ?_
        refine wpAnyT_done (by kernel_rfl) ?_ _
        try go_wp2_with fail
        go_meet
        exact ⟨gX, rfl, Lib.hid ⟨A1', d1, hBY, hOY, hNY, hl3⟩⟩
    · skip
      refine step_allocn (by rfl) rfl rInfo ?_
      intro gX wX hBX hNX hlX
      have hNA : New w3 wX := New.tr (by repeat (first | with_reducible exact New.refl _ | with_reducible assumption | with_reducible refine New.dr ?_ | with_reducible refine New.al ?_ _) : New w3 _) hNX
      have hltX := hBX.lt
      have hszX : w3.heap.size ≤ wX.heap.size := hNA.size
      have hl3 : w3.heap.size ≤ gX := by have h1 : w3.heap.size ≤ _ := Nat.le_trans (by repeat (first | with_reducible exact New.refl _ | with_reducible assumption | with_reducible refine New.dr ?_ | with_reducible refine New.al ?_ _) : New w3 _).size hlX; exact h1
      skip
      try simp only [Act.put, List.setIfInBounds_toArray, List.set_cons_zero, List.set_cons_succ]
      refine hK.out _ _ (fun _ => hSN _ (by repeat (first | with_reducible exact New.refl _ | with_reducible assumption | with_reducible refine New.dr ?_ | with_reducible refine New.al ?_ _) : New w3 _)) ?_
      refine wpAnyT_ready (rs := [2]) (by kernel_rfl) (by simp) (AllT.cons (i := 2) (o := ⟨_, _, _, _, _, _⟩) rfl (fun K hK => ?_) AllT.nil)
      go_simp
      try simp only [Act.put, List.setIfInBounds_toArray, List.set_cons_zero, List.set_cons_succ]
      refine hK.out _ _ (fun _ => hSN _ (by repeat (first | with_reducible exact New.refl _ | with_reducible assumption | with_reducible refine New.dr ?_ | with_reducible refine New.al ?_ _) : New w3 _)) ?_
      refine wpAnyT_ready (rs := [5]) (by kernel_rfl) (by simp) (AllT.cons (i := 5) (o := ⟨_, _, _, _, _, _⟩) rfl (fun K hK => ?_) AllT.nil)
      refine step_app elP _ (by rfl) (.tmp 12) (.tmp 14) (by rfl) w3.heap.size (.slice (some ⟨_, 0, none⟩) 0 0) 0 [] (by rfl) (own_lit (by repeat (first | with_reducible exact Blk.new' _ _ _ (by first | rfl | (simp; done)) | with_reducible refine Blk.drew ?_ | with_reducible refine Blk.alloc ?_ _ | with_reducible refine Blk.fr ?_ hF1 (by simp [Value.ownBlock]) | with_reducible refine New.blk hNX ?_)) (by first | omega | (simp; done) | (simp; omega))) A1 r.sure.length c1 (flatP r.sure) (by rfl) ((by repeat (first | with_reducible exact New.refl _ | with_reducible assumption | with_reducible refine New.dr ?_ | with_reducible refine New.al ?_ _) : New w3 _).rd (H.out.new HN3.out).sure) HP1.out (by unfold maxLen; omega) (by omega) (by first | omega | (simp; done) | (simp; omega)) ?_
      intro A1' d1 w5 hO1 hF1 hA1
      have hN1 : New w3 w5 := (by repeat (first | with_reducible exact New.refl _ | with_reducible assumption | with_reducible refine New.dr ?_ | with_reducible refine New.al ?_ _) : New w3 _).fr hF1 (by intro k hk; simp [Value.ownBlock] at hk; omega)
      have hBX := Blk.fr (New.blk (by repeat (first | with_reducible exact New.refl _ | with_reducible assumption | with_reducible refine New.dr ?_ | with_reducible refine New.al ?_ _) : New wX _) hBX) hF1 (by simp [Value.ownBlock]; omega)
      rw [Nat.zero_add, List.nil_append] at hO1
      rw [Nat.zero_add] at hA1
      rw [Nat.zero_add]
      try simp only [Act.put, List.setIfInBounds_toArray, List.set_cons_zero, List.set_cons_succ]
      refine hK.out _ _ (fun _ => hSN _ (by repeat (first | with_reducible exact New.refl _ | with_reducible assumption | with_reducible refine New.dr ?_ | with_reducible refine New.al ?_ _) : New w3 _)) ?_
      refine wpAnyT_take (i := 6) (oi := ⟨_, _, _, _, _, _⟩) (v := (.agg #[.int .i64 r.size, .slice A1' r.sure.length d1, .slice none 0 0, .int .i64 (-1), .bool false])) rfl (by kernel_rfl) (by kernel_rfl) (by kernel_rfl) (by kernel_rfl) (fun _ _ _ h => h) (Or.inl ⟨by rfl, fun w hSw => by have h1 := hSw.1; have h2 := hSw.2; clear hSw; go_simp⟩) (hSN _ (by repeat (first | with_reducible exact New.refl _ | with_reducible assumption | with_reducible refine New.dr ?_ | with_reducible refine New.al ?_ _) : New w3 _)) ?_
      try simp only [Act.put, List.setIfInBounds_toArray, List.set_cons_zero, List.set_cons_succ]
      refine wpAnyT_ready (rs := [8]) (by kernel_rfl) (by simp) (AllT.cons (i := 8) (o := ⟨_, _, _, _, _, _⟩) rfl (fun K hK => ?_) AllT.nil)
      refine step_store_any (by rfl) (.tmp 5) (.tmp 16) rfl rfl rfl rfl hBX rfl (rf_one _ _ _ _ _ _ _ _ _) ?_
      intro wY hBY hFY
      have hNY : New w3 wY := (by repeat (first | with_reducible exact New.refl _ | with_reducible assumption | with_reducible refine New.dr ?_ | with_reducible refine New.al ?_ _) : New w3 _).fr hFY (fun k hk => by omega)
      have hOY : wY.ownsRow w3.heap.size 87 65 (.slice A1' r.sure.length d1) r.sure.length (flatP r.sure) := by
        refine own_fr (S := fun k => k = gX) (w := _) ?_ hFY (fun k hk e => ?_)
        · exact hO1
        · subst e; exact own_ne hO1 hBX (by decide) hk
      try simp only [Act.put, List.setIfInBounds_toArray, List.set_cons_zero, List.set_cons_succ]
      refine hK.out _ _ (fun h => absurd rfl h) ?_
      refine wpAnyT_done (by kernel_rfl) ?_ _
      try go_wp2_with fail
      go_meet
      exact ⟨gX, rfl, Lib.hid ⟨A1', d1, hBY, hOY, hNY, hl3⟩⟩
  obtain ⟨gX, rfl, HC0⟩ := hcut
  obtain ⟨AS, cS, hBc, hOc, hNc, hgX⟩ := HC0.out
  have HGX := Lib.hid hgX
  have HBc := Lib.hid (New.blk hNc HB3.out)
  have HNc := Lib.hid hNc
  have HNw : Hid (New w wc) := Lib.hid (HN3.out.tr hNc)
  clear hBc hOc hNc hgX
  go_wp2_with ((with_reducible refine atOp ⟨some 17, .load _ _, _, _, _, _⟩ ?_); refine wpList_load_any rfl _ rfl Tryd.underlying33 rfl rfl rfl HBc.out ?_)
  refine (rwaits_any r A1 c1 A2 c2 wc (H.out.new HNw.out) (by unfold RP.tot; omega)).mono ?_
  rintro e w4 ⟨⟨AW, cW, rfl, hW4⟩, hN4⟩
  have hwl : (waits r.fresh).length ≤ 10000 := by have := waits_len r.fresh; omega
  obtain ⟨m, hm⟩ : ∃ m, m = (waits r.fresh).length := ⟨_, rfl⟩
  rw [← hm] at hW4 hwl
  rw [← hm]
  have HW4 : Hid (RdT 3 w4 1 AW m (i64s (waits r.fresh))) := Lib.hid (RdT.own hW4 rfl)
  have HWN4 : Hid (∀ k, AW.map Addr.block = some k → wc.heap.size ≤ k) := Lib.hid (fun k hk => (own_lt hW4 k (by cases AW <;> simp_all [Value.ownBlock])).1)
  have HN4 := Lib.hid hN4
  have HC4 : Hid (CutI w3 r.size gX (cutR r keep 0) w4) := Lib.hid (by
    obtain ⟨A', c', h1, h2, h3, h4⟩ := HC0.out
    exact ⟨A', c', New.blk hN4 h1, New.own hN4 h2, h3.tr hN4, h4⟩)
  have HM := Lib.hid hm
  clear hW4 hN4 hm HC0
  go_wp2_with fail
  go_loopw [7] (fun i wr => ∃ (j : Nat), j ≤ m ∧ i = .int .i64 j ∧ Hid (CutI w3 r.size gX (cutR r keep j) wr) ∧ Hid (RdT 3 wr 1 AW m (i64s (waits r.fresh)))) (fun i _ => m - (intOf i).toNat)
  case atStart => exact ⟨0, Nat.zero_le _, rfl, HC4, HW4⟩
  case round =>
    obtain ⟨j, hj, rfl, HCI, HWI⟩ := hrel
    obtain ⟨A', c', hBI, hOI, hNI, -⟩ := HCI.out
    by_cases hgo : j < m ∧ j < n
    · as_aux_lemma =>
      obtain ⟨hjm, hjn⟩ := hgo
      have HBI := Lib.hid hBI
      have HOI := Lib.hid hOI
      have hcl := cutR_len r keep j
      obtain ⟨gK, oK, rfl, hgK, hpK, ck⟩ := rd_bool ((HN3.out.tr hNI).rd HR.out) hjn
      cases hb : keep.getD j false with
      | false =>
        as_aux_lemma =>
        rw [hb] at ck
        have hsk := cutR_skip (r := r) hb
        have HZ : Hid (CutI w3 r.size gX (cutR r keep (j + 1)) wr) := Lib.hid (by rw [hsk]; exact HCI.out)
        clear hb hsk hBI hOI hNI hcl
        go_wp2_with fail
        go_roundw
        case rel => exact ⟨j + 1, by omega, by go_num, HZ, HWI⟩
        case measure => simp [intOf]; omega
      | true =>
        as_aux_lemma =>
        rw [hb] at ck
        have hst := cutR_take (r := r) hb
        obtain ⟨gW, oW, rfl, hgW, hpW, cw⟩ := rd_int HWI.out hjm
        obtain ⟨x, hx⟩ : ∃ x, x = (waits r.fresh).getD j 0 := ⟨_, rfl⟩
        rw [← hx] at cw hst
        obtain ⟨s, hs⟩ : ∃ s, s = getS r.fresh x := ⟨_, rfl⟩
        rw [← hs] at hst
        have HC := Lib.hid hst
        have HSX : Hid (getS r.fresh x = s) := Lib.hid hs.symm
        have HSO : Hid (SecOk s) := Lib.hid (by rw [hs]; exact lastP_ok H.out.ok.2 x)
        have HCW := Lib.hid cw
        have HFO : Hid (∀ a ∈ r.fresh, SecOk a.s) := Lib.hid H.out.ok.2
        have HFI : Hid (RdT 87 wr 65 A2 r.fresh.length (flatP r.fresh)) := Lib.hid (((H.out.new HN3.out).new hNI).fresh)
        have HGI : Hid (Blk wr G 33 #[.int .i64 r.size, .slice A1 r.sure.length c1, .slice A2 r.fresh.length c2, .int .i64 r.fuse, .bool r.down]) := Lib.hid (New.blk hNI HB3.out)
        have HWN : Hid ((Value.slice A' (cutR r keep j).length c').ownBlock ≠ some gW) := Lib.hid (fun e => IsT.not_own hOI (show (87 : Nat) ≠ 3 by decide) e hpW)
        clear hb hst hx hs cw hBI hOI
        go_upto_region 7 with fail
        obtain ⟨wi, hwi⟩ : ∃ wi : World, wi = wr := ⟨_, rfl⟩
        rw [← hwi] at HCI HWI HBI HOI hNI HCW HFI HGI
        rw [← hwi]
        clear hwi
        have hNI := hNI
        have hSI : ∀ w', New wi w' → w'.cell? ⟨G, 2, none⟩ = some (.slice A2 r.fresh.length c2) ∧ w'.cell? ⟨gW, oW + j, none⟩ = some (.int .i64 x) := fun w' hN => ⟨hN.cell_ (HGI.out.cell 2), hN.cell_ HCW.out⟩
        refine wp_region_T (fun w' => w'.cell? ⟨G, 2, none⟩ = some (.slice A2 r.fresh.length c2) ∧ w'.cell? ⟨gW, oW + j, none⟩ = some (.int .i64 x)) 12 (by kernel_rfl) ?_
        refine wpAnyT_take (i := 0) (oi := ⟨_, _, _, _, _, _⟩) (v := .pointer (some ⟨G, 2, none⟩)) rfl (by kernel_rfl) (by kernel_rfl) (by kernel_rfl) (by kernel_rfl) (fun _ _ _ h => h) (Or.inl ⟨by rfl, fun w hSw => by have h1 := hSw.1; have h2 := hSw.2; clear hSw; go_simp⟩) (hSI _ (by repeat (first | with_reducible exact New.refl _ | with_reducible assumption | with_reducible refine New.dr ?_ | with_reducible refine New.al ?_ _) : New wi _)) ?_
        try simp only [Act.put, List.setIfInBounds_toArray, List.set_cons_zero, List.set_cons_succ]
        refine wpAnyT_take (i := 1) (oi := ⟨_, _, _, _, _, _⟩) (v := .slice A2 r.fresh.length c2) rfl (by kernel_rfl) (by kernel_rfl) (by kernel_rfl) (by kernel_rfl) (fun _ _ _ h => h) (Or.inl ⟨by rfl, fun w hSw => by have h1 := hSw.1; have h2 := hSw.2; clear hSw; go_simp⟩) (hSI _ (by repeat (first | with_reducible exact New.refl _ | with_reducible assumption | with_reducible refine New.dr ?_ | with_reducible refine New.al ?_ _) : New wi _)) ?_
        try simp only [Act.put, List.setIfInBounds_toArray, List.set_cons_zero, List.set_cons_succ]
        refine wpAnyT_take (i := 2) (oi := ⟨_, _, _, _, _, _⟩) (v := .slice (some ⟨gW, oW, none⟩) m cW) rfl (by kernel_rfl) (by kernel_rfl) (by kernel_rfl) (by kernel_rfl) (fun _ _ _ h => h) (Or.inl ⟨by rfl, fun w hSw => by have h1 := hSw.1; have h2 := hSw.2; clear hSw; go_simp⟩) (hSI _ (by repeat (first | with_reducible exact New.refl _ | with_reducible assumption | with_reducible refine New.dr ?_ | with_reducible refine New.al ?_ _) : New wi _)) ?_
        try simp only [Act.put, List.setIfInBounds_toArray, List.set_cons_zero, List.set_cons_succ]
        refine wpAnyT_take (i := 3) (oi := ⟨_, _, _, _, _, _⟩) (v := .int .i64 j) rfl (by kernel_rfl) (by kernel_rfl) (by kernel_rfl) (by kernel_rfl) (fun _ _ _ h => h) (Or.inl ⟨by rfl, fun w hSw => by have h1 := hSw.1; have h2 := hSw.2; clear hSw; go_simp⟩) (hSI _ (by repeat (first | with_reducible exact New.refl _ | with_reducible assumption | with_reducible refine New.dr ?_ | with_reducible refine New.al ?_ _) : New wi _)) ?_
        try simp only [Act.put, List.setIfInBounds_toArray, List.set_cons_zero, List.set_cons_succ]
        refine wpAnyT_take (i := 4) (oi := ⟨_, _, _, _, _, _⟩) (v := .pointer (some ⟨gW, oW + j, none⟩)) rfl (by kernel_rfl) (by kernel_rfl) (by kernel_rfl) (by kernel_rfl) (fun _ _ _ h => h) (Or.inl ⟨by rfl, fun w hSw => by have h1 := hSw.1; have h2 := hSw.2; clear hSw; go_simp⟩) (hSI _ (by repeat (first | with_reducible exact New.refl _ | with_reducible assumption | with_reducible refine New.dr ?_ | with_reducible refine New.al ?_ _) : New wi _)) ?_
        try simp only [Act.put, List.setIfInBounds_toArray, List.set_cons_zero, List.set_cons_succ]
        refine wpAnyT_take (i := 5) (oi := ⟨_, _, _, _, _, _⟩) (v := .int .i64 x) rfl (by kernel_rfl) (by kernel_rfl) (by kernel_rfl) (by kernel_rfl) (fun _ _ _ h => h) (Or.inl ⟨by rfl, fun w hSw => by have h1 := hSw.1; have h2 := hSw.2; clear hSw; go_simp⟩) (hSI _ (by repeat (first | with_reducible exact New.refl _ | with_reducible assumption | with_reducible refine New.dr ?_ | with_reducible refine New.al ?_ _) : New wi _)) ?_
        try simp only [Act.put, List.setIfInBounds_toArray, List.set_cons_zero, List.set_cons_succ]
        refine wpAnyT_ready (rs := [6, 10]) (by kernel_rfl) (by simp) (AllT.cons (i := 6) (o := ⟨_, _, _, _, _, _⟩) rfl (fun K hK => ?_) (AllT.cons (i := 10) (o := ⟨_, _, _, _, _, _⟩) rfl (fun K hK => ?_) AllT.nil))
        · skip
          go_simp
          refine (get_any A2 r.fresh.length c2 r.fresh x _ ((by repeat (first | with_reducible exact New.refl _ | with_reducible assumption | with_reducible refine New.dr ?_ | with_reducible refine New.al ?_ _) : New wi _).rd HFI.out) rfl HFO.out (by omega)).mono ?_
          rw [HSX.out]
          rintro e w5 ⟨rfl, hN5'⟩
          have hN5 : New wi w5 := New.tr (by repeat (first | with_reducible exact New.refl _ | with_reducible assumption | with_reducible refine New.dr ?_ | with_reducible refine New.al ?_ _) : New wi _) hN5'
          try have hBS := New.blk hN5' hBS
          go_wp2_with fail
          try simp only [Act.put, List.setIfInBounds_toArray, List.set_cons_zero, List.set_cons_succ]
          refine hK.out _ _ (fun _ => hSI _ (by repeat (first | with_reducible exact New.refl _ | with_reducible assumption | with_reducible refine New.dr ?_ | with_reducible refine New.al ?_ _) : New wi _)) ?_
          refine wpAnyT_take (i := 7) (oi := ⟨_, _, _, _, _, _⟩) (v := (.tuple #[.agg (secA s), .bool (lastP r.fresh x).isSome])) rfl (by kernel_rfl) (by kernel_rfl) (by kernel_rfl) (by kernel_rfl) (fun _ _ _ h => h) (Or.inl ⟨by rfl, fun w hSw => by have h1 := hSw.1; have h2 := hSw.2; clear hSw; go_simp⟩) (hSI _ (by repeat (first | with_reducible exact New.refl _ | with_reducible assumption | with_reducible refine New.dr ?_ | with_reducible refine New.al ?_ _) : New wi _)) ?_
          try simp only [Act.put, List.setIfInBounds_toArray, List.set_cons_zero, List.set_cons_succ]
          refine wpAnyT_take (i := 8) (oi := ⟨_, _, _, _, _, _⟩) (v := .agg (secA s)) rfl (by kernel_rfl) (by kernel_rfl) (by kernel_rfl) (by kernel_rfl) (fun _ _ _ h => h) (Or.inl ⟨by rfl, fun w hSw => by have h1 := hSw.1; have h2 := hSw.2; clear hSw; go_simp⟩) (hSI _ (by repeat (first | with_reducible exact New.refl _ | with_reducible assumption | with_reducible refine New.dr ?_ | with_reducible refine New.al ?_ _) : New wi _)) ?_
          try simp only [Act.put, List.setIfInBounds_toArray, List.set_cons_zero, List.set_cons_succ]
          refine wpAnyT_take (i := 9) (oi := ⟨_, _, _, _, _, _⟩) (v := (.bool (lastP r.fresh x).isSome)) rfl (by kernel_rfl) (by kernel_rfl) (by kernel_rfl) (by kernel_rfl) (fun _ _ _ h => h) (Or.inl ⟨by rfl, fun w hSw => by have h1 := hSw.1; have h2 := hSw.2; clear hSw; go_simp⟩) (hSI _ (by repeat (first | with_reducible exact New.refl _ | with_reducible assumption | with_reducible refine New.dr ?_ | with_reducible refine New.al ?_ _) : New wi _)) ?_
          try simp only [Act.put, List.setIfInBounds_toArray, List.set_cons_zero, List.set_cons_succ]
          refine wpAnyT_ready (rs := [10]) (by kernel_rfl) (by simp) (AllT.cons (i := 10) (o := ⟨_, _, _, _, _, _⟩) rfl (fun K hK => ?_) AllT.nil)
          refine step_allocn (by rfl) rfl secInfo ?_
          intro gS wS hBS hNS hlS
          have hNSi : New wi wS := New.tr (by repeat (first | with_reducible exact New.refl _ | with_reducible assumption | with_reducible refine New.dr ?_ | with_reducible refine New.al ?_ _) : New wi _) hNS
          have hgS : wi.heap.size ≤ gS := Nat.le_trans (by repeat (first | with_reducible exact New.refl _ | with_reducible assumption | with_reducible refine New.dr ?_ | with_reducible refine New.al ?_ _) : New wi _).size hlS
          try simp only [Act.put, List.setIfInBounds_toArray, List.set_cons_zero, List.set_cons_succ]
          refine hK.out _ _ (fun _ => hSI _ (by repeat (first | with_reducible exact New.refl _ | with_reducible assumption | with_reducible refine New.dr ?_ | with_reducible refine New.al ?_ _) : New wi _)) ?_
          refine wpAnyT_ready (rs := [11]) (by kernel_rfl) (by simp) (AllT.cons (i := 11) (o := ⟨_, _, _, _, _, _⟩) rfl (fun K hK => ?_) AllT.nil)
          refine step_store_any (cs0 := secA sec0) (by rfl) (.tmp 8) (.tmp 43) rfl (by rw [secA_size, HSO.out.1]; rfl) rfl rfl hBS (by rw [secA_size, secA_size, HSO.out.1]; rfl) (secA_one s) ?_
          intro wT hBT hFT
          have hNT : New wi wT := (by repeat (first | with_reducible exact New.refl _ | with_reducible assumption | with_reducible refine New.dr ?_ | with_reducible refine New.al ?_ _) : New wi _).fr hFT (fun k hk => by omega)
          have hBS := hBT
          try simp only [Act.put, List.setIfInBounds_toArray, List.set_cons_zero, List.set_cons_succ]
          refine hK.out _ _ (fun _ => hSI _ hNT) ?_
          refine wpAnyT_ready (rs := [12]) (by kernel_rfl) (by simp) (AllT.cons (i := 12) (o := ⟨_, _, _, _, _, _⟩) rfl (fun K hK => ?_) AllT.nil)
          go_simp
          try simp only [Act.put, List.setIfInBounds_toArray, List.set_cons_zero, List.set_cons_succ]
          refine hK.out _ _ (fun h => absurd rfl h) ?_
          refine wpAnyT_done (by kernel_rfl) ?_ _
          obtain ⟨wm, hwm⟩ : ∃ wm : World, wm = wT := ⟨_, rfl⟩
          rw [← hwm] at hNT hBS
          rw [← hwm]
          clear hwm
          have HNM : Hid (New w3 wm) := Lib.hid ((hNI.tr hNT))
          have HBM := Lib.hid (New.blk hNT HBI.out)
          have HOM := Lib.hid (New.own hNT HOI.out)
          have HSM := Lib.hid hBS
          have HCM : Hid (wm.cell? ⟨gW, oW + j, none⟩ = some (.int .i64 x)) := Lib.hid (hNT.cell_ HCW.out)
          have HWS : Hid (RdT 3 wm 1 (some ⟨gW, oW, none⟩) m (i64s (waits r.fresh))) := Lib.hid (HWI.out.new hNT)
          have HN3M : Hid (w3.heap.size ≤ wm.heap.size) := Lib.hid HNM.out.size
          clear hNT hBS
          have hSM : ∀ w', New wm w' → w'.rangeAt gS 0 (u8s s) ∧ w'.cell? ⟨gX, 1, none⟩ = some (.slice A' (cutR r keep j).length c') ∧ w'.cell? ⟨gW, oW + j, none⟩ = some (.int .i64 x) := fun w' hN => ⟨(New.blk hN HSM.out).range, hN.cell_ (HBM.out.cell 1), hN.cell_ HCM.out⟩
          have hu := Tryd.underlying23
          have hi : (Tryd.prog.info? 23).map (·.size) = some (u8s s).length := by rw [u8s_len, HSO.out.1]; rfl
          have z1 := putZ_zero
          have z2 := putZ_size
          have z3 := putZ_ne
          have z4 := put_fold (x := x) HSO.out
          have z5 := putA_size (x := x) HSO.out
          have z6 := put_fold2 (x := x) HSO.out #[putZ[0]'(by rw [putZ_size]; omega), putZ[1]'(by rw [putZ_size]; omega), putZ[2]'(by rw [putZ_size]; omega), putZ[3]'(by rw [putZ_size]; omega), putZ[4]'(by rw [putZ_size]; omega), putZ[5]'(by rw [putZ_size]; omega), putZ[6]'(by rw [putZ_size]; omega), putZ[7]'(by rw [putZ_size]; omega), putZ[8]'(by rw [putZ_size]; omega), putZ[9]'(by rw [putZ_size]; omega), putZ[10]'(by rw [putZ_size]; omega), putZ[11]'(by rw [putZ_size]; omega), putZ[12]'(by rw [putZ_size]; omega), putZ[13]'(by rw [putZ_size]; omega), putZ[14]'(by rw [putZ_size]; omega), putZ[15]'(by rw [putZ_size]; omega), putZ[16]'(by rw [putZ_size]; omega), putZ[17]'(by rw [putZ_size]; omega), putZ[18]'(by rw [putZ_size]; omega), putZ[19]'(by rw [putZ_size]; omega), putZ[20]'(by rw [putZ_size]; omega), putZ[21]'(by rw [putZ_size]; omega), putZ[22]'(by rw [putZ_size]; omega), putZ[23]'(by rw [putZ_size]; omega), putZ[24]'(by rw [putZ_size]; omega), putZ[25]'(by rw [putZ_size]; omega), putZ[26]'(by rw [putZ_size]; omega), putZ[27]'(by rw [putZ_size]; omega), putZ[28]'(by rw [putZ_size]; omega), putZ[29]'(by rw [putZ_size]; omega), putZ[30]'(by rw [putZ_size]; omega), putZ[31]'(by rw [putZ_size]; omega), putZ[32]'(by rw [putZ_size]; omega), putZ[33]'(by rw [putZ_size]; omega), putZ[34]'(by rw [putZ_size]; omega), putZ[35]'(by rw [putZ_size]; omega), putZ[36]'(by rw [putZ_size]; omega), putZ[37]'(by rw [putZ_size]; omega), putZ[38]'(by rw [putZ_size]; omega), putZ[39]'(by rw [putZ_size]; omega), putZ[40]'(by rw [putZ_size]; omega), putZ[41]'(by rw [putZ_size]; omega), putZ[42]'(by rw [putZ_size]; omega), putZ[43]'(by rw [putZ_size]; omega), putZ[44]'(by rw [putZ_size]; omega), putZ[45]'(by rw [putZ_size]; omega), putZ[46]'(by rw [putZ_size]; omega), putZ[47]'(by rw [putZ_size]; omega), putZ[48]'(by rw [putZ_size]; omega), putZ[49]'(by rw [putZ_size]; omega), putZ[50]'(by rw [putZ_size]; omega), putZ[51]'(by rw [putZ_size]; omega), putZ[52]'(by rw [putZ_size]; omega), putZ[53]'(by rw [putZ_size]; omega), putZ[54]'(by rw [putZ_size]; omega), putZ[55]'(by rw [putZ_size]; omega), putZ[56]'(by rw [putZ_size]; omega), putZ[57]'(by rw [putZ_size]; omega), putZ[58]'(by rw [putZ_size]; omega), putZ[59]'(by rw [putZ_size]; omega), putZ[60]'(by rw [putZ_size]; omega), putZ[61]'(by rw [putZ_size]; omega), putZ[62]'(by rw [putZ_size]; omega), putZ[63]'(by rw [putZ_size]; omega), putZ[64]'(by rw [putZ_size]; omega)] rfl
          have zl : (u8s s).length = 64 := by rw [u8s_len, HSO.out.1]
          go_upto_region 8 with fail
          refine wp_region_T (fun w' => w'.rangeAt gS 0 (u8s s) ∧ w'.cell? ⟨gX, 1, none⟩ = some (.slice A' (cutR r keep j).length c') ∧ w'.cell? ⟨gW, oW + j, none⟩ = some (.int .i64 x)) 11 (by kernel_rfl) ?_
          refine wpAnyT_take (i := 0) (oi := ⟨_, _, _, _, _, _⟩) (v := .pointer (some ⟨gX, 1, none⟩)) rfl (by kernel_rfl) (by kernel_rfl) (by kernel_rfl) (by kernel_rfl) (fun _ _ _ h => h) (Or.inl ⟨by rfl, fun w hSw => by have h1 := hSw.1; have h2 := hSw.2.1; have h3 := hSw.2.2; clear hSw; go_simp⟩) (hSM _ (by repeat (first | with_reducible exact New.refl _ | with_reducible assumption | with_reducible refine New.dr ?_ | with_reducible refine New.al ?_ _) : New wm _)) ?_
          try simp only [Act.put, List.setIfInBounds_toArray, List.set_cons_zero, List.set_cons_succ]
          refine wpAnyT_take (i := 1) (oi := ⟨_, _, _, _, _, _⟩) (v := (.slice A' (cutR r keep j).length c')) rfl (by kernel_rfl) (by kernel_rfl) (by kernel_rfl) (by kernel_rfl) (fun _ _ _ h => h) (Or.inl ⟨by rfl, fun w hSw => by have h1 := hSw.1; have h2 := hSw.2.1; have h3 := hSw.2.2; clear hSw; go_simp⟩) (hSM _ (by repeat (first | with_reducible exact New.refl _ | with_reducible assumption | with_reducible refine New.dr ?_ | with_reducible refine New.al ?_ _) : New wm _)) ?_
          try simp only [Act.put, List.setIfInBounds_toArray, List.set_cons_zero, List.set_cons_succ]
          refine wpAnyT_take (i := 2) (oi := ⟨_, _, _, _, _, _⟩) (v := .slice (some ⟨gW, oW, none⟩) m cW) rfl (by kernel_rfl) (by kernel_rfl) (by kernel_rfl) (by kernel_rfl) (fun _ _ _ h => h) (Or.inl ⟨by rfl, fun w hSw => by have h1 := hSw.1; have h2 := hSw.2.1; have h3 := hSw.2.2; clear hSw; go_simp⟩) (hSM _ (by repeat (first | with_reducible exact New.refl _ | with_reducible assumption | with_reducible refine New.dr ?_ | with_reducible refine New.al ?_ _) : New wm _)) ?_
          try simp only [Act.put, List.setIfInBounds_toArray, List.set_cons_zero, List.set_cons_succ]
          refine wpAnyT_take (i := 3) (oi := ⟨_, _, _, _, _, _⟩) (v := .int .i64 j) rfl (by kernel_rfl) (by kernel_rfl) (by kernel_rfl) (by kernel_rfl) (fun _ _ _ h => h) (Or.inl ⟨by rfl, fun w hSw => by have h1 := hSw.1; have h2 := hSw.2.1; have h3 := hSw.2.2; clear hSw; go_simp⟩) (hSM _ (by repeat (first | with_reducible exact New.refl _ | with_reducible assumption | with_reducible refine New.dr ?_ | with_reducible refine New.al ?_ _) : New wm _)) ?_
          try simp only [Act.put, List.setIfInBounds_toArray, List.set_cons_zero, List.set_cons_succ]
          refine wpAnyT_take (i := 4) (oi := ⟨_, _, _, _, _, _⟩) (v := .pointer (some ⟨gW, oW + j, none⟩)) rfl (by kernel_rfl) (by kernel_rfl) (by kernel_rfl) (by kernel_rfl) (fun _ _ _ h => h) (Or.inl ⟨by rfl, fun w hSw => by have h1 := hSw.1; have h2 := hSw.2.1; have h3 := hSw.2.2; clear hSw; go_simp⟩) (hSM _ (by repeat (first | with_reducible exact New.refl _ | with_reducible assumption | with_reducible refine New.dr ?_ | with_reducible refine New.al ?_ _) : New wm _)) ?_
          try simp only [Act.put, List.setIfInBounds_toArray, List.set_cons_zero, List.set_cons_succ]
          refine wpAnyT_take (i := 5) (oi := ⟨_, _, _, _, _, _⟩) (v := .int .i64 x) rfl (by kernel_rfl) (by kernel_rfl) (by kernel_rfl) (by kernel_rfl) (fun _ _ _ h => h) (Or.inl ⟨by rfl, fun w hSw => by have h1 := hSw.1; have h2 := hSw.2.1; have h3 := hSw.2.2; clear hSw; go_simp⟩) (hSM _ (by repeat (first | with_reducible exact New.refl _ | with_reducible assumption | with_reducible refine New.dr ?_ | with_reducible refine New.al ?_ _) : New wm _)) ?_
          try simp only [Act.put, List.setIfInBounds_toArray, List.set_cons_zero, List.set_cons_succ]
          refine wpAnyT_take (i := 6) (oi := ⟨_, _, _, _, _, _⟩) (v := .agg (u8s s).toArray) rfl (by kernel_rfl) (by kernel_rfl) (by kernel_rfl) (by kernel_rfl) (fun _ _ _ h => h) (yieldsIf_load_mid (by rfl) _ _ rfl _ _ rfl _ _ (fun w hSw => hSw.1) hu rfl hi) (hSM _ (by repeat (first | with_reducible exact New.refl _ | with_reducible assumption | with_reducible refine New.dr ?_ | with_reducible refine New.al ?_ _) : New wm _)) ?_
          try simp only [Act.put, List.setIfInBounds_toArray, List.set_cons_zero, List.set_cons_succ]
          refine wpAnyT_take (i := 7) (oi := ⟨_, _, _, _, _, _⟩) (v := .agg (putA x s)) rfl (by kernel_rfl) (by kernel_rfl) (by kernel_rfl) (by kernel_rfl) (fun _ _ _ h => h) (Or.inl ⟨by rfl, fun w hSw => by have h1 := hSw.1; have h2 := hSw.2.1; have h3 := hSw.2.2; clear hSw; go_simp⟩) (hSM _ (by repeat (first | with_reducible exact New.refl _ | with_reducible assumption | with_reducible refine New.dr ?_ | with_reducible refine New.al ?_ _) : New wm _)) ?_
          try simp only [Act.put, List.setIfInBounds_toArray, List.set_cons_zero, List.set_cons_succ]
          refine wpAnyT_ready (rs := [8]) (by kernel_rfl) (by simp) (AllT.cons (i := 8) (o := ⟨_, _, _, _, _, _⟩) rfl (fun K hK => ?_) AllT.nil)
          go_simp
          try simp only [Act.put, List.setIfInBounds_toArray, List.set_cons_zero, List.set_cons_succ]
          refine hK.out _ _ (fun _ => hSM _ (by repeat (first | with_reducible exact New.refl _ | with_reducible assumption | with_reducible refine New.dr ?_ | with_reducible refine New.al ?_ _) : New wm _)) ?_
          refine wpAnyT_ready (rs := [9]) (by kernel_rfl) (by simp) (AllT.cons (i := 9) (o := ⟨_, _, _, _, _, _⟩) rfl (fun K hK => ?_) AllT.nil)
          refine step_app elP _ (by rfl) (.tmp 46) (.tmp 53) (by rfl) w3.heap.size (.slice A' (cutR r keep j).length c') (cutR r keep j).length (flatP (cutR r keep j)) (by rfl) (New.own (by repeat (first | with_reducible exact New.refl _ | with_reducible assumption | with_reducible refine New.dr ?_ | with_reducible refine New.al ?_ _) : New wm _) HOM.out) (some ⟨_, 0, none⟩) 1 1 (putA x s).toList (by rfl) (Rd.ofBlk (p := fun _ => True) (t := 87) (cs := putA x s) (by repeat (first | with_reducible exact Blk.new' _ _ _ (by first | rfl | (simp; done)) | with_reducible refine Blk.drew ?_ | with_reducible refine Blk.alloc ?_ _ | with_reducible refine Blk.fr ?_ hF1 (by simp [Value.ownBlock]) | with_reducible refine New.blk hNX ?_)) 65 1 (by rw [z5]) trivial) (by intro u hu; exact PU.one ⟨x, s⟩ u (by simpa [putA] using hu)) (by unfold maxLen; omega) (by omega) (Nat.le_trans HN3M.out (by repeat (first | with_reducible exact New.refl _ | with_reducible assumption | with_reducible refine New.dr ?_ | with_reducible refine New.al ?_ _) : New wm _).size) ?_
          intro A4 c4 wN hON hFN hAN
          have hBN : Blk wN gX 33 #[.int .i64 r.size, .slice A' (cutR r keep j).length c', .slice none 0 0, .int .i64 (-1), .bool false] := (New.blk (by repeat (first | with_reducible exact New.refl _ | with_reducible assumption | with_reducible refine New.dr ?_ | with_reducible refine New.al ?_ _) : New wm _) HBM.out).fr hFN (fun e => own_ne HOM.out HBM.out (by decide) e)
          have n1 := hBN.cell 1
          have n1f := hBN.frozen 1
          have hSE : wN.rangeAt gS 0 (u8s s) ∧ wN.cell? ⟨gX, 1, none⟩ = some (.slice A' (cutR r keep j).length c') ∧ wN.cell? ⟨gW, oW + j, none⟩ = some (.int .i64 x) := ⟨((New.blk (by repeat (first | with_reducible exact New.refl _ | with_reducible assumption | with_reducible refine New.dr ?_ | with_reducible refine New.al ?_ _) : New wm _) HSM.out).fr hFN (fun e => own_ne HOM.out HSM.out (by decide) e)).range, n1, hFN.cell_some ((by repeat (first | with_reducible exact New.refl _ | with_reducible assumption | with_reducible refine New.dr ?_ | with_reducible refine New.al ?_ _) : New wm _).cell_ HCM.out) (fun e => HWN.out e)⟩
          try simp only [Act.put, List.setIfInBounds_toArray, List.set_cons_zero, List.set_cons_succ]
          refine hK.out _ _ (fun _ => hSE) ?_
          refine wpAnyT_take (i := 10) (oi := ⟨_, _, _, _, _, _⟩) (v := .pointer (some ⟨gX, 1, none⟩)) rfl (by kernel_rfl) (by kernel_rfl) (by kernel_rfl) (by kernel_rfl) (fun _ _ _ h => h) (Or.inl ⟨by rfl, fun w hSw => by have h1 := hSw.1; have h2 := hSw.2.1; have h3 := hSw.2.2; clear hSw; go_simp⟩) (hSE) ?_
          try simp only [Act.put, List.setIfInBounds_toArray, List.set_cons_zero, List.set_cons_succ]
          refine wpAnyT_ready (rs := [11]) (by kernel_rfl) (by simp) (AllT.cons (i := 11) (o := ⟨_, _, _, _, _, _⟩) rfl (fun K hK => ?_) AllT.nil)
          go_simp
          try simp only [Act.put, List.setIfInBounds_toArray, List.set_cons_zero, List.set_cons_succ]
          refine hK.out _ _ (fun h => absurd rfl h) ?_
          refine wpAnyT_done (by kernel_rfl) ?_ _
          have hNN : Fr (fun k => (Value.slice A' (cutR r keep j).length c').ownBlock = some k) wm wN := ((by repeat (first | with_reducible exact New.refl _ | with_reducible assumption | with_reducible refine New.dr ?_ | with_reducible refine New.al ?_ _) : New wm _).toFr _).trans hFN
          have hBZ := hBN.set 1 (.slice A4 ((cutR r keep j).length + 1) c4)
          have hFZ : Fr (fun k => k = gX) wN (wN.setCell ⟨gX, 1, none⟩ (.slice A4 ((cutR r keep j).length + 1) c4)) := (Fr.refl (fun k => k = gX) wN).setCell (p := ⟨gX, 1, none⟩) (fun _ => rfl) _
          have hOZ := own_fr hON hFZ (fun k hk e => by subst e; exact own_ne hON hBN (by decide) hk)
          have hNZ : New w3 (wN.setCell ⟨gX, 1, none⟩ (.slice A4 ((cutR r keep j).length + 1) c4)) := (HNM.out.fr hNN (fun k hk => (own_lt HOM.out k hk).1)).fr hFZ (fun k hk => by have := HGX.out; omega)
          have hWZ : RdT 3 (wN.setCell ⟨gX, 1, none⟩ (.slice A4 ((cutR r keep j).length + 1) c4)) 1 (some ⟨gW, oW, none⟩) m (i64s (waits r.fresh)) := (HWS.out.fr hNN (fun k hk => IsT.not_own HOM.out (by decide) hk)).fr hFZ (fun k hk => by subst hk; exact IsT.not_blk hBN (by decide))
          have hC := HC.out
          clear n1 n1f hSE hSM z1 z2 z3 z4 z5 z6 zl hu hi
          have HZ : Hid (CutI w3 r.size gX (cutR r keep (j + 1)) (wN.setCell ⟨gX, 1, none⟩ (.slice A4 ((cutR r keep j).length + 1) c4))) := Lib.hid (by
            rw [hC]
            refine ⟨A4, c4, ?_, ?_, hNZ, HGX.out⟩
            · rw [List.length_append]; exact hBZ
            · rw [List.length_append, flatP_app, flatP_one]; simpa [putA] using hOZ)
          have HWZ := Lib.hid hWZ
          clear hC hBZ hFZ hOZ hNZ hWZ hNN hBN hON hFN hAN
          go_wp2_with fail
          go_roundw
          case rel => exact ⟨j + 1, by omega, by go_num, HZ, HWZ⟩
          case measure => simp [intOf]; omega
        · skip
          refine step_allocn (by rfl) rfl secInfo ?_
          intro gS wS hBS hNS hlS
          have hNSi : New wi wS := New.tr (by repeat (first | with_reducible exact New.refl _ | with_reducible assumption | with_reducible refine New.dr ?_ | with_reducible refine New.al ?_ _) : New wi _) hNS
          have hgS : wi.heap.size ≤ gS := Nat.le_trans (by repeat (first | with_reducible exact New.refl _ | with_reducible assumption | with_reducible refine New.dr ?_ | with_reducible refine New.al ?_ _) : New wi _).size hlS
          try simp only [Act.put, List.setIfInBounds_toArray, List.set_cons_zero, List.set_cons_succ]
          refine hK.out _ _ (fun _ => hSI _ (by repeat (first | with_reducible exact New.refl _ | with_reducible assumption | with_reducible refine New.dr ?_ | with_reducible refine New.al ?_ _) : New wi _)) ?_
          refine wpAnyT_ready (rs := [6]) (by kernel_rfl) (by simp) (AllT.cons (i := 6) (o := ⟨_, _, _, _, _, _⟩) rfl (fun K hK => ?_) AllT.nil)
          go_simp
          refine (get_any A2 r.fresh.length c2 r.fresh x _ ((by repeat (first | with_reducible exact New.refl _ | with_reducible assumption | with_reducible refine New.dr ?_ | with_reducible refine New.al ?_ _) : New wi _).rd HFI.out) rfl HFO.out (by omega)).mono ?_
          rw [HSX.out]
          rintro e w5 ⟨rfl, hN5'⟩
          have hN5 : New wi w5 := New.tr (by repeat (first | with_reducible exact New.refl _ | with_reducible assumption | with_reducible refine New.dr ?_ | with_reducible refine New.al ?_ _) : New wi _) hN5'
          try have hBS := New.blk hN5' hBS
          go_wp2_with fail
          try simp only [Act.put, List.setIfInBounds_toArray, List.set_cons_zero, List.set_cons_succ]
          refine hK.out _ _ (fun _ => hSI _ (by repeat (first | with_reducible exact New.refl _ | with_reducible assumption | with_reducible refine New.dr ?_ | with_reducible refine New.al ?_ _) : New wi _)) ?_
          refine wpAnyT_take (i := 7) (oi := ⟨_, _, _, _, _, _⟩) (v := (.tuple #[.agg (secA s), .bool (lastP r.fresh x).isSome])) rfl (by kernel_rfl) (by kernel_rfl) (by kernel_rfl) (by kernel_rfl) (fun _ _ _ h => h) (Or.inl ⟨by rfl, fun w hSw => by have h1 := hSw.1; have h2 := hSw.2; clear hSw; go_simp⟩) (hSI _ (by repeat (first | with_reducible exact New.refl _ | with_reducible assumption | with_reducible refine New.dr ?_ | with_reducible refine New.al ?_ _) : New wi _)) ?_
          try simp only [Act.put, List.setIfInBounds_toArray, List.set_cons_zero, List.set_cons_succ]
          refine wpAnyT_take (i := 8) (oi := ⟨_, _, _, _, _, _⟩) (v := .agg (secA s)) rfl (by kernel_rfl) (by kernel_rfl) (by kernel_rfl) (by kernel_rfl) (fun _ _ _ h => h) (Or.inl ⟨by rfl, fun w hSw => by have h1 := hSw.1; have h2 := hSw.2; clear hSw; go_simp⟩) (hSI _ (by repeat (first | with_reducible exact New.refl _ | with_reducible assumption | with_reducible refine New.dr ?_ | with_reducible refine New.al ?_ _) : New wi _)) ?_
          try simp only [Act.put, List.setIfInBounds_toArray, List.set_cons_zero, List.set_cons_succ]
          refine wpAnyT_take (i := 9) (oi := ⟨_, _, _, _, _, _⟩) (v := (.bool (lastP r.fresh x).isSome)) rfl (by kernel_rfl) (by kernel_rfl) (by kernel_rfl) (by kernel_rfl) (fun _ _ _ h => h) (Or.inl ⟨by rfl, fun w hSw => by have h1 := hSw.1; have h2 := hSw.2; clear hSw; go_simp⟩) (hSI _ (by repeat (first | with_reducible exact New.refl _ | with_reducible assumption | with_reducible refine New.dr ?_ | with_reducible refine New.al ?_ _) : New wi _)) ?_
          try simp only [Act.put, List.setIfInBounds_toArray, List.set_cons_zero, List.set_cons_succ]
          refine wpAnyT_ready (rs := [11]) (by kernel_rfl) (by simp) (AllT.cons (i := 11) (o := ⟨_, _, _, _, _, _⟩) rfl (fun K hK => ?_) AllT.nil)
          refine step_store_any (cs0 := secA sec0) (by rfl) (.tmp 8) (.tmp 43) rfl (by rw [secA_size, HSO.out.1]; rfl) rfl rfl hBS (by rw [secA_size, secA_size, HSO.out.1]; rfl) (secA_one s) ?_
          intro wT hBT hFT
          have hNT : New wi wT := (by repeat (first | with_reducible exact New.refl _ | with_reducible assumption | with_reducible refine New.dr ?_ | with_reducible refine New.al ?_ _) : New wi _).fr hFT (fun k hk => by omega)
          have hBS := hBT
          try simp only [Act.put, List.setIfInBounds_toArray, List.set_cons_zero, List.set_cons_succ]
          refine hK.out _ _ (fun _ => hSI _ hNT) ?_
          refine wpAnyT_ready (rs := [12]) (by kernel_rfl) (by simp) (AllT.cons (i := 12) (o := ⟨_, _, _, _, _, _⟩) rfl (fun K hK => ?_) AllT.nil)
          go_simp
          try simp only [Act.put, List.setIfInBounds_toArray, List.set_cons_zero, List.set_cons_succ]
          refine hK.out _ _ (fun h => absurd rfl h) ?_
          refine wpAnyT_done (by kernel_rfl) ?_ _
          obtain ⟨wm, hwm⟩ : ∃ wm : World, wm = wT := ⟨_, rfl⟩
          rw [← hwm] at hNT hBS
          rw [← hwm]
          clear hwm
          have HNM : Hid (New w3 wm) := Lib.hid ((hNI.tr hNT))
          have HBM := Lib.hid (New.blk hNT HBI.out)
          have HOM := Lib.hid (New.own hNT HOI.out)
          have HSM := Lib.hid hBS
          have HCM : Hid (wm.cell? ⟨gW, oW + j, none⟩ = some (.int .i64 x)) := Lib.hid (hNT.cell_ HCW.out)
          have HWS : Hid (RdT 3 wm 1 (some ⟨gW, oW, none⟩) m (i64s (waits r.fresh))) := Lib.hid (HWI.out.new hNT)
          have HN3M : Hid (w3.heap.size ≤ wm.heap.size) := Lib.hid HNM.out.size
          clear hNT hBS
          have hSM : ∀ w', New wm w' → w'.rangeAt gS 0 (u8s s) ∧ w'.cell? ⟨gX, 1, none⟩ = some (.slice A' (cutR r keep j).length c') ∧ w'.cell? ⟨gW, oW + j, none⟩ = some (.int .i64 x) := fun w' hN => ⟨(New.blk hN HSM.out).range, hN.cell_ (HBM.out.cell 1), hN.cell_ HCM.out⟩
          have hu := Tryd.underlying23
          have hi : (Tryd.prog.info? 23).map (·.size) = some (u8s s).length := by rw [u8s_len, HSO.out.1]; rfl
          have z1 := putZ_zero
          have z2 := putZ_size
          have z3 := putZ_ne
          have z4 := put_fold (x := x) HSO.out
          have z5 := putA_size (x := x) HSO.out
          have z6 := put_fold2 (x := x) HSO.out #[putZ[0]'(by rw [putZ_size]; omega), putZ[1]'(by rw [putZ_size]; omega), putZ[2]'(by rw [putZ_size]; omega), putZ[3]'(by rw [putZ_size]; omega), putZ[4]'(by rw [putZ_size]; omega), putZ[5]'(by rw [putZ_size]; omega), putZ[6]'(by rw [putZ_size]; omega), putZ[7]'(by rw [putZ_size]; omega), putZ[8]'(by rw [putZ_size]; omega), putZ[9]'(by rw [putZ_size]; omega), putZ[10]'(by rw [putZ_size]; omega), putZ[11]'(by rw [putZ_size]; omega), putZ[12]'(by rw [putZ_size]; omega), putZ[13]'(by rw [putZ_size]; omega), putZ[14]'(by rw [putZ_size]; omega), putZ[15]'(by rw [putZ_size]; omega), putZ[16]'(by rw [putZ_size]; omega), putZ[17]'(by rw [putZ_size]; omega), putZ[18]'(by rw [putZ_size]; omega), putZ[19]'(by rw [putZ_size]; omega), putZ[20]'(by rw [putZ_size]; omega), putZ[21]'(by rw [putZ_size]; omega), putZ[22]'(by rw [putZ_size]; omega), putZ[23]'(by rw [putZ_size]; omega), putZ[24]'(by rw [putZ_size]; omega), putZ[25]'(by rw [putZ_size]; omega), putZ[26]'(by rw [putZ_size]; omega), putZ[27]'(by rw [putZ_size]; omega), putZ[28]'(by rw [putZ_size]; omega), putZ[29]'(by rw [putZ_size]; omega), putZ[30]'(by rw [putZ_size]; omega), putZ[31]'(by rw [putZ_size]; omega), putZ[32]'(by rw [putZ_size]; omega), putZ[33]'(by rw [putZ_size]; omega), putZ[34]'(by rw [putZ_size]; omega), putZ[35]'(by rw [putZ_size]; omega), putZ[36]'(by rw [putZ_size]; omega), putZ[37]'(by rw [putZ_size]; omega), putZ[38]'(by rw [putZ_size]; omega), putZ[39]'(by rw [putZ_size]; omega), putZ[40]'(by rw [putZ_size]; omega), putZ[41]'(by rw [putZ_size]; omega), putZ[42]'(by rw [putZ_size]; omega), putZ[43]'(by rw [putZ_size]; omega), putZ[44]'(by rw [putZ_size]; omega), putZ[45]'(by rw [putZ_size]; omega), putZ[46]'(by rw [putZ_size]; omega), putZ[47]'(by rw [putZ_size]; omega), putZ[48]'(by rw [putZ_size]; omega), putZ[49]'(by rw [putZ_size]; omega), putZ[50]'(by rw [putZ_size]; omega), putZ[51]'(by rw [putZ_size]; omega), putZ[52]'(by rw [putZ_size]; omega), putZ[53]'(by rw [putZ_size]; omega), putZ[54]'(by rw [putZ_size]; omega), putZ[55]'(by rw [putZ_size]; omega), putZ[56]'(by rw [putZ_size]; omega), putZ[57]'(by rw [putZ_size]; omega), putZ[58]'(by rw [putZ_size]; omega), putZ[59]'(by rw [putZ_size]; omega), putZ[60]'(by rw [putZ_size]; omega), putZ[61]'(by rw [putZ_size]; omega), putZ[62]'(by rw [putZ_size]; omega), putZ[63]'(by rw [putZ_size]; omega), putZ[64]'(by rw [putZ_size]; omega)] rfl
          have zl : (u8s s).length = 64 := by rw [u8s_len, HSO.out.1]
          go_upto_region 8 with fail
          refine wp_region_T (fun w' => w'.rangeAt gS 0 (u8s s) ∧ w'.cell? ⟨gX, 1, none⟩ = some (.slice A' (cutR r keep j).length c') ∧ w'.cell? ⟨gW, oW + j, none⟩ = some (.int .i64 x)) 11 (by kernel_rfl) ?_
          refine wpAnyT_take (i := 0) (oi := ⟨_, _, _, _, _, _⟩) (v := .pointer (some ⟨gX, 1, none⟩)) rfl (by kernel_rfl) (by kernel_rfl) (by kernel_rfl) (by kernel_rfl) (fun _ _ _ h => h) (Or.inl ⟨by rfl, fun w hSw => by have h1 := hSw.1; have h2 := hSw.2.1; have h3 := hSw.2.2; clear hSw; go_simp⟩) (hSM _ (by repeat (first | with_reducible exact New.refl _ | with_reducible assumption | with_reducible refine New.dr ?_ | with_reducible refine New.al ?_ _) : New wm _)) ?_
          try simp only [Act.put, List.setIfInBounds_toArray, List.set_cons_zero, List.set_cons_succ]
          refine wpAnyT_take (i := 1) (oi := ⟨_, _, _, _, _, _⟩) (v := (.slice A' (cutR r keep j).length c')) rfl (by kernel_rfl) (by kernel_rfl) (by kernel_rfl) (by kernel_rfl) (fun _ _ _ h => h) (Or.inl ⟨by rfl, fun w hSw => by have h1 := hSw.1; have h2 := hSw.2.1; have h3 := hSw.2.2; clear hSw; go_simp⟩) (hSM _ (by repeat (first | with_reducible exact New.refl _ | with_reducible assumption | with_reducible refine New.dr ?_ | with_reducible refine New.al ?_ _) : New wm _)) ?_
          try simp only [Act.put, List.setIfInBounds_toArray, List.set_cons_zero, List.set_cons_succ]
          refine wpAnyT_take (i := 2) (oi := ⟨_, _, _, _, _, _⟩) (v := .slice (some ⟨gW, oW, none⟩) m cW) rfl (by kernel_rfl) (by kernel_rfl) (by kernel_rfl) (by kernel_rfl) (fun _ _ _ h => h) (Or.inl ⟨by rfl, fun w hSw => by have h1 := hSw.1; have h2 := hSw.2.1; have h3 := hSw.2.2; clear hSw; go_simp⟩) (hSM _ (by repeat (first | with_reducible exact New.refl _ | with_reducible assumption | with_reducible refine New.dr ?_ | with_reducible refine New.al ?_ _) : New wm _)) ?_
          try simp only [Act.put, List.setIfInBounds_toArray, List.set_cons_zero, List.set_cons_succ]
          refine wpAnyT_take (i := 3) (oi := ⟨_, _, _, _, _, _⟩) (v := .int .i64 j) rfl (by kernel_rfl) (by kernel_rfl) (by kernel_rfl) (by kernel_rfl) (fun _ _ _ h => h) (Or.inl ⟨by rfl, fun w hSw => by have h1 := hSw.1; have h2 := hSw.2.1; have h3 := hSw.2.2; clear hSw; go_simp⟩) (hSM _ (by repeat (first | with_reducible exact New.refl _ | with_reducible assumption | with_reducible refine New.dr ?_ | with_reducible refine New.al ?_ _) : New wm _)) ?_
          try simp only [Act.put, List.setIfInBounds_toArray, List.set_cons_zero, List.set_cons_succ]
          refine wpAnyT_take (i := 4) (oi := ⟨_, _, _, _, _, _⟩) (v := .pointer (some ⟨gW, oW + j, none⟩)) rfl (by kernel_rfl) (by kernel_rfl) (by kernel_rfl) (by kernel_rfl) (fun _ _ _ h => h) (Or.inl ⟨by rfl, fun w hSw => by have h1 := hSw.1; have h2 := hSw.2.1; have h3 := hSw.2.2; clear hSw; go_simp⟩) (hSM _ (by repeat (first | with_reducible exact New.refl _ | with_reducible assumption | with_reducible refine New.dr ?_ | with_reducible refine New.al ?_ _) : New wm _)) ?_
          try simp only [Act.put, List.setIfInBounds_toArray, List.set_cons_zero, List.set_cons_succ]
          refine wpAnyT_take (i := 5) (oi := ⟨_, _, _, _, _, _⟩) (v := .int .i64 x) rfl (by kernel_rfl) (by kernel_rfl) (by kernel_rfl) (by kernel_rfl) (fun _ _ _ h => h) (Or.inl ⟨by rfl, fun w hSw => by have h1 := hSw.1; have h2 := hSw.2.1; have h3 := hSw.2.2; clear hSw; go_simp⟩) (hSM _ (by repeat (first | with_reducible exact New.refl _ | with_reducible assumption | with_reducible refine New.dr ?_ | with_reducible refine New.al ?_ _) : New wm _)) ?_
          try simp only [Act.put, List.setIfInBounds_toArray, List.set_cons_zero, List.set_cons_succ]
          refine wpAnyT_take (i := 6) (oi := ⟨_, _, _, _, _, _⟩) (v := .agg (u8s s).toArray) rfl (by kernel_rfl) (by kernel_rfl) (by kernel_rfl) (by kernel_rfl) (fun _ _ _ h => h) (yieldsIf_load_mid (by rfl) _ _ rfl _ _ rfl _ _ (fun w hSw => hSw.1) hu rfl hi) (hSM _ (by repeat (first | with_reducible exact New.refl _ | with_reducible assumption | with_reducible refine New.dr ?_ | with_reducible refine New.al ?_ _) : New wm _)) ?_
          try simp only [Act.put, List.setIfInBounds_toArray, List.set_cons_zero, List.set_cons_succ]
          refine wpAnyT_take (i := 7) (oi := ⟨_, _, _, _, _, _⟩) (v := .agg (putA x s)) rfl (by kernel_rfl) (by kernel_rfl) (by kernel_rfl) (by kernel_rfl) (fun _ _ _ h => h) (Or.inl ⟨by rfl, fun w hSw => by have h1 := hSw.1; have h2 := hSw.2.1; have h3 := hSw.2.2; clear hSw; go_simp⟩) (hSM _ (by repeat (first | with_reducible exact New.refl _ | with_reducible assumption | with_reducible refine New.dr ?_ | with_reducible refine New.al ?_ _) : New wm _)) ?_
          try simp only [Act.put, List.setIfInBounds_toArray, List.set_cons_zero, List.set_cons_succ]
          refine wpAnyT_ready (rs := [8]) (by kernel_rfl) (by simp) (AllT.cons (i := 8) (o := ⟨_, _, _, _, _, _⟩) rfl (fun K hK => ?_) AllT.nil)
          go_simp
          try simp only [Act.put, List.setIfInBounds_toArray, List.set_cons_zero, List.set_cons_succ]
          refine hK.out _ _ (fun _ => hSM _ (by repeat (first | with_reducible exact New.refl _ | with_reducible assumption | with_reducible refine New.dr ?_ | with_reducible refine New.al ?_ _) : New wm _)) ?_
          refine wpAnyT_ready (rs := [9]) (by kernel_rfl) (by simp) (AllT.cons (i := 9) (o := ⟨_, _, _, _, _, _⟩) rfl (fun K hK => ?_) AllT.nil)
          refine step_app elP _ (by rfl) (.tmp 46) (.tmp 53) (by rfl) w3.heap.size (.slice A' (cutR r keep j).length c') (cutR r keep j).length (flatP (cutR r keep j)) (by rfl) (New.own (by repeat (first | with_reducible exact New.refl _ | with_reducible assumption | with_reducible refine New.dr ?_ | with_reducible refine New.al ?_ _) : New wm _) HOM.out) (some ⟨_, 0, none⟩) 1 1 (putA x s).toList (by rfl) (Rd.ofBlk (p := fun _ => True) (t := 87) (cs := putA x s) (by repeat (first | with_reducible exact Blk.new' _ _ _ (by first | rfl | (simp; done)) | with_reducible refine Blk.drew ?_ | with_reducible refine Blk.alloc ?_ _ | with_reducible refine Blk.fr ?_ hF1 (by simp [Value.ownBlock]) | with_reducible refine New.blk hNX ?_)) 65 1 (by rw [z5]) trivial) (by intro u hu; exact PU.one ⟨x, s⟩ u (by simpa [putA] using hu)) (by unfold maxLen; omega) (by omega) (Nat.le_trans HN3M.out (by repeat (first | with_reducible exact New.refl _ | with_reducible assumption | with_reducible refine New.dr ?_ | with_reducible refine New.al ?_ _) : New wm _).size) ?_
          intro A4 c4 wN hON hFN hAN
          have hBN : Blk wN gX 33 #[.int .i64 r.size, .slice A' (cutR r keep j).length c', .slice none 0 0, .int .i64 (-1), .bool false] := (New.blk (by repeat (first | with_reducible exact New.refl _ | with_reducible assumption | with_reducible refine New.dr ?_ | with_reducible refine New.al ?_ _) : New wm _) HBM.out).fr hFN (fun e => own_ne HOM.out HBM.out (by decide) e)
          have n1 := hBN.cell 1
          have n1f := hBN.frozen 1
          have hSE : wN.rangeAt gS 0 (u8s s) ∧ wN.cell? ⟨gX, 1, none⟩ = some (.slice A' (cutR r keep j).length c') ∧ wN.cell? ⟨gW, oW + j, none⟩ = some (.int .i64 x) := ⟨((New.blk (by repeat (first | with_reducible exact New.refl _ | with_reducible assumption | with_reducible refine New.dr ?_ | with_reducible refine New.al ?_ _) : New wm _) HSM.out).fr hFN (fun e => own_ne HOM.out HSM.out (by decide) e)).range, n1, hFN.cell_some ((by repeat (first | with_reducible exact New.refl _ | with_reducible assumption | with_reducible refine New.dr ?_ | with_reducible refine New.al ?_ _) : New wm _).cell_ HCM.out) (fun e => HWN.out e)⟩
          try simp only [Act.put, List.setIfInBounds_toArray, List.set_cons_zero, List.set_cons_succ]
          refine hK.out _ _ (fun _ => hSE) ?_
          refine wpAnyT_take (i := 10) (oi := ⟨_, _, _, _, _, _⟩) (v := .pointer (some ⟨gX, 1, none⟩)) rfl (by kernel_rfl) (by kernel_rfl) (by kernel_rfl) (by kernel_rfl) (fun _ _ _ h => h) (Or.inl ⟨by rfl, fun w hSw => by have h1 := hSw.1; have h2 := hSw.2.1; have h3 := hSw.2.2; clear hSw; go_simp⟩) (hSE) ?_
          try simp only [Act.put, List.setIfInBounds_toArray, List.set_cons_zero, List.set_cons_succ]
          refine wpAnyT_ready (rs := [11]) (by kernel_rfl) (by simp) (AllT.cons (i := 11) (o := ⟨_, _, _, _, _, _⟩) rfl (fun K hK => ?_) AllT.nil)
          go_simp
          try simp only [Act.put, List.setIfInBounds_toArray, List.set_cons_zero, List.set_cons_succ]
          refine hK.out _ _ (fun h => absurd rfl h) ?_
          refine wpAnyT_done (by kernel_rfl) ?_ _
          have hNN : Fr (fun k => (Value.slice A' (cutR r keep j).length c').ownBlock = some k) wm wN := ((by repeat (first | with_reducible exact New.refl _ | with_reducible assumption | with_reducible refine New.dr ?_ | with_reducible refine New.al ?_ _) : New wm _).toFr _).trans hFN
          have hBZ := hBN.set 1 (.slice A4 ((cutR r keep j).length + 1) c4)
          have hFZ : Fr (fun k => k = gX) wN (wN.setCell ⟨gX, 1, none⟩ (.slice A4 ((cutR r keep j).length + 1) c4)) := (Fr.refl (fun k => k = gX) wN).setCell (p := ⟨gX, 1, none⟩) (fun _ => rfl) _
          have hOZ := own_fr hON hFZ (fun k hk e => by subst e; exact own_ne hON hBN (by decide) hk)
          have hNZ : New w3 (wN.setCell ⟨gX, 1, none⟩ (.slice A4 ((cutR r keep j).length + 1) c4)) := (HNM.out.fr hNN (fun k hk => (own_lt HOM.out k hk).1)).fr hFZ (fun k hk => by have := HGX.out; omega)
          have hWZ : RdT 3 (wN.setCell ⟨gX, 1, none⟩ (.slice A4 ((cutR r keep j).length + 1) c4)) 1 (some ⟨gW, oW, none⟩) m (i64s (waits r.fresh)) := (HWS.out.fr hNN (fun k hk => IsT.not_own HOM.out (by decide) hk)).fr hFZ (fun k hk => by subst hk; exact IsT.not_blk hBN (by decide))
          have hC := HC.out
          clear n1 n1f hSE hSM z1 z2 z3 z4 z5 z6 zl hu hi
          have HZ : Hid (CutI w3 r.size gX (cutR r keep (j + 1)) (wN.setCell ⟨gX, 1, none⟩ (.slice A4 ((cutR r keep j).length + 1) c4))) := Lib.hid (by
            rw [hC]
            refine ⟨A4, c4, ?_, ?_, hNZ, HGX.out⟩
            · rw [List.length_append]; exact hBZ
            · rw [List.length_append, flatP_app, flatP_one]; simpa [putA] using hOZ)
          have HWZ := Lib.hid hWZ
          clear hC hBZ hFZ hOZ hNZ hWZ hNN hBN hON hFN hAN
          go_wp2_with fail
          go_roundw
          case rel => exact ⟨j + 1, by omega, by go_num, HZ, HWZ⟩
          case measure => simp [intOf]; omega
    · as_aux_lemma =>
      have hfin : cutR r keep j = cutR r keep (waits r.fresh).length := by
        have := HM.out
        have := HKL.out
        by_cases hjm : j < m
        · have h2 : keep.length ≤ j := by omega
          rw [← cutR_stop h2 ((waits r.fresh).length - j)]
          congr 1
          omega
        · have : j = m := by omega
          rw [this, HM.out]
      have HFIN := Lib.hid hfin
      have hRB : Blk wr (G + 1) 33 #[.int .i64 0, .slice none 0 0, .slice none 0 0, .int .i64 0, .bool false] := New.blk hNI HR3.out
      have HRB := Lib.hid hRB
      have HBI := Lib.hid hBI
      have HOI := Lib.hid hOI
      have HNI := Lib.hid hNI
      have hcl := cutR_len r keep j
      have hex : ¬ j < m ∨ (j < m ∧ ¬ j < n) := by omega
      clear hRB hBI hOI hNI hfin hgo
      have hlt3 := HR3.out.lt
      have hgx := HGX.out
      rcases hex with hjm | ⟨hjm, hjn⟩
      all_goals
        go_wp2_with (first
          | ((with_reducible refine atOp ⟨some 56, .load _ _, _, _, _, _⟩ ?_); refine wpList_load_any rfl _ rfl Tryd.underlying33 rfl rfl rfl HBI.out ?_)
          | ((with_reducible refine atOp ⟨none, .store 33 (.tmp 4) _, _, _, _, _⟩ ?_); refine wpList_store_any rfl (.tmp 4) (.tmp 56) rfl rfl rfl rfl HRB.out rfl (rf_one _ _ _ _ _ _ _ _ _) ?_; intro w8 hb8 hf8; have HB8 := Lib.hid hb8; have HF8 := Lib.hid hf8; clear hb8 hf8))
        refine bodyPost_ret (results_row1 rfl _ _ (G + 1) _ _ rfl HB8.out Tryd.underlying33 rfl rfl) rfl ?_
        have h6 : RdT 87 wr 65 A' (cutR r keep j).length (flatP (cutR r keep j)) := RdT.own HOI.out rfl
        have h8 := h6.fr HF8.out (fun k hk => by subst hk; exact IsT.not_blk HRB.out (by decide))
        have hN8 : New w w8 := (HN3.out.tr HNI.out).fr HF8.out (fun k hk => by have := HGW.out; omega)
        have he : RfV (r.cut keep) A' c' none 0 = #[.int .i64 r.size, .slice A' (cutR r keep j).length c', .slice none 0 0, .int .i64 (-1), .bool false] := by
          unfold RfV RP.cut
          rw [← HFIN.out]
          rfl
        refine ⟨⟨A', c', none, 0, by rw [he], ⟨?_, RdT.nil, H.out.ok.cut keep⟩⟩, hN8⟩
        have : (r.cut keep).sure = cutR r keep j := HFIN.out.symm
        rw [this]
        exact h8
end Go.Proofs.YtdojmjglnlkmoaaDoor
/- The reference: the record that counts. The tables of the reference's sha are as they were laid. No condition else but the disk's size. -/
namespace Go.Proofs.YtdojmjglnlkmoaaDoor
set_option linter.unusedVariables false
set_option linter.unusedSimpArgs false
set_option linter.constructorNameAsVariable false
open Go.RowKit Go.Sort

theorem refInfo : (Tryd.prog.info? 45).map (fun i => (i.zero, i.size)) = some (some (.agg rc0.cells), 37) := by kernel_rfl
theorem built_ref0 : Tryd.prog.built 45 [] = some rc0.cells := by kernel_rfl
theorem res_tc {fn : Func} {p q : Nat} (h : fn.results = #[.tmp q, .cell p 45]) (tmps : Array Value) (w : World) (g : Nat) (cs : Array Value) (hp : tmps.getD p undef = .pointer (some ⟨g, 0, none⟩)) (hg : Blk w g 45 cs) (hi : (Tryd.prog.info? 45).map (·.size) = some cs.size) : (results fn tmps).run Tryd.prog w = .ok (.tuple #[tmps.getD q undef, .agg cs]) w := by
  have hp' : tmps[p]?.getD undef = .pointer (some ⟨g, 0, none⟩) := by simpa using hp
  simp [results, h, hp', asAddr, run_loadVar_row w g 45 45 cs (0, 0) _ hg Tryd.underlying45 rfl hi]
theorem wpList_store_int {P : Program} {w : World} {ops : Array Oper} {rest : List Oper} {o : Oper} {a : Act} {Q : Exit → Act → World → Prop} {g off : Nat} {T ty : TypeId} {k : IntKind} {n : Int} {cur : List Value} (hw : Region.wanted o (yielded ops a.tmps) = true) (x y : Operand) (ho : o.op = .store ty x y) (hx : a.eval x = .pointer (some ⟨g, off, none⟩)) (hy : a.eval y = .int k n)
    (hg : Blk w g T cur.toArray) (hl : off < cur.length) (hi : (P.info? ty).map (·.size) = some 1)
    (h : ∀ w', Blk w' g T (cur.set off (.int k n)).toArray → Fr (fun k => k = g) w w' → wpList P ops Q rest (a.put o.dst undef) w') : wpList P ops Q (o :: rest) a w :=
  wpList_want hw fun K hK => by
    obtain ⟨w', hrun, r1, r2⟩ := run_store_int (P := P) (k := k) (n := n) hg hl hi
    unfold Oper.wp execOp
    simp only [ho, hx, hy, Sem.run_bind, hrun, Result.andThen_ok, Sem.run_pure]
    exact hK _ _ (h w' r1 r2)
/-- A record's cells, the last five given as a list. -/
def rcl (root : List Int) (l : List Value) : List Value := u8s root ++ l
theorem rcl_set {root : List Int} (h : root.length = 32) (l : List Value) (i : Nat) (v : Value) : (rcl root l).set (32 + i) v = rcl root (l.set i v) := by
  unfold rcl
  rw [List.set_append_right _ _ (by rw [u8s_len]; omega), u8s_len, h, Nat.add_sub_cancel_left]
theorem rcl_len {root : List Int} (h : root.length = 32) (l : List Value) : (rcl root l).length = 32 + l.length := by rw [rcl, List.length_append, u8s_len, h]
theorem slotR {p : DP} {r : RP} (hM : Mt p r) (s : Nat) : r.rget ((2 * s : Nat) : Int) ++ r.rget ((2 * s + 1 : Nat) : Int) = slotB p s := by unfold slotB; rw [hM.rget, hM.rget]
theorem cut_lo {A B : List Int} (hA : A.length = 64) {i n : Nat} (h : i + n ≤ 64) : (A.drop i).take n = cutL (A ++ B) i n := by
  unfold cutL
  rw [List.drop_append_of_le_length (by omega), List.take_append_of_le_length (by rw [List.length_drop]; omega)]
theorem cut_hi {A B : List Int} (hA : A.length = 64) (i n : Nat) : (B.drop i).take n = cutL (A ++ B) (64 + i) n := by
  unfold cutL
  rw [← hA, List.drop_length_add_append]
set_option maxHeartbeats 4000000
set_option maxRecDepth 100000
theorem rgetr_any {w : World} {p : DP} {r : RP} {A1 A2 : Option Addr} (c1 c2 : Nat) (hD : RfIn w r A1 A2) (hM : Mt p r) (hok : p.Ok) (hL : RShaIn 1 0 w) (ht : r.tot ≤ 1000000) (hz : 4 ≤ p.size) :
    Calls Tryd.prog 13 #[.agg (RfV r A1 c1 A2 c2)] w fun e w' => e = .returned (.tuple #[.int .u64 (openP p).number, .agg (openP p).now.cells]) ∧ New w w' := by
  have HD := Lib.hid hD
  have HM := Lib.hid hM
  have HOK := Lib.hid hok
  have HL := Lib.hid hL
  have HT := Lib.hid ht
  have HRZ : Hid (-9223372036854775808 ≤ r.size ∧ r.size ≤ 9223372036854775807) := Lib.hid (by have := hM.size; have := hok.s2; omega)
  obtain ⟨RV, hRV⟩ : ∃ RV, RV = RfV r A1 c1 A2 c2 := ⟨_, rfl⟩
  have HRV := Lib.hid hRV
  have HRVZ : Hid (RV.size = 5) := Lib.hid (by rw [hRV]; rfl)
  have HB0 := Lib.hid built_ref0
  rw [← hRV]
  clear hD hM hok hL ht hz hRV
  go_enter Tryd.func13, Tryd.ntmps13
  go_upto_region 1 with ((with_reducible refine atOp ⟨some 3, .alloc _, _, _, _, _⟩ ?_); refine wpList_alloc_row rfl rfl refInfo ?_; intro b3 w1 hb hB hN; have HB3 := Lib.hid hB; have HN1 := Lib.hid hN; have HZ3 := Lib.hid hb; clear hb hB hN)
  have HB1 : Hid (Blk w1 w.heap.size 33 RV) := Lib.hid (HN1.out.blk (Blk.new _ _ _))
  have HNw : Hid (New w w1) := Lib.hid ((New.al (New.refl _) _).tr HN1.out)
  obtain ⟨b1, hb1⟩ : ∃ b1, b1 = w.heap.size := ⟨_, rfl⟩
  have HZ : Hid (b1 = w.heap.size ∧ b1 < b3) := Lib.hid ⟨hb1, by have := HZ3.out; simp at this; omega⟩
  rw [← hb1] at HB1
  rw [← hb1]
  clear hb1 HN1 HZ3
  go_upto_region 2 with (first
    | ((with_reducible refine atOp ⟨some 13, .build _ _, _, _, _, _⟩ ?_); refine wpList_built rfl _ [] rfl _ rfl _ HB0.out ?_)
    | ((with_reducible refine atOp ⟨some 5, .alloc _, _, _, _, _⟩ ?_); refine wpList_alloc_row rfl rfl refInfo ?_; intro b5 w2 hb hB hN; have HB5 := Lib.hid hB; have HN2 := Lib.hid hN; have HZ5 := Lib.hid hb; clear hb hB hN)
    | ((with_reducible refine atOp ⟨none, .store 45 (.tmp 5) _, _, _, _, _⟩ ?_); refine wpList_store_any rfl (.tmp 5) (.tmp 13) rfl (by rfl) rfl rfl HB5.out rfl (Rc.one _) ?_; intro w3 hb hf; have HB53 := Lib.hid hb; have HF3 := Lib.hid hf; clear hb hf))
  have HLT : Hid (b1 < b5 ∧ b3 < b5 ∧ w.heap.size ≤ b1) := Lib.hid (by have h1 := HZ5.out; have h2 := HB1.out.lt; have h3 := HB3.out.lt; have := HZ.out; omega)
  have HB13 : Hid (Blk w3 b1 33 RV) := Lib.hid ((HN2.out.blk HB1.out).fr HF3.out (by have := HLT.out; omega))
  have HB33 : Hid (Blk w3 b3 45 rc0.cells) := Lib.hid ((HN2.out.blk HB3.out).fr HF3.out (by have := HLT.out; omega))
  have HNw3 : Hid (New w w3) := Lib.hid ((HNw.out.tr HN2.out).fr HF3.out (fun k hk => by have := HLT.out; omega))
  have HB53' : Hid (Blk w3 b5 45 (upK p 0).now.cells) := Lib.hid (by rw [upK_0]; exact HB53.out)
  have HU0 : Hid ((upK p 0).number = 0) := Lib.hid (by rw [upK_0]; rfl)
  clear HB1 HB3 HNw HB5 HN2 HZ5 HF3 HB53
  go_wp2_with fail
  go_loopw [4, 6] (fun bv i wr => ∃ (j : Nat), Hid (j ≤ 2) ∧ bv = .int .u64 ((upK p j).number : Nat) ∧ i = .int .i64 (j : Int) ∧ Hid (New w wr) ∧ Hid (Blk wr b1 33 RV) ∧ Hid (Blk wr b3 45 rc0.cells) ∧ Hid (Blk wr b5 45 (upK p j).now.cells)) (fun _ i _ => 2 - (intOf i).toNat)
  case atStart => exact ⟨0, Lib.hid (by omega), by rw [HU0.out]; rfl, rfl, HNw3, HB13, HB33, HB53'⟩
  case round =>
    clear HNw3 HB13 HB33 HB53' HU0
    obtain ⟨j, HJ, rfl, rfl, HN, HB1, HB3, HB5⟩ := hrel
    obtain ⟨kk, hkk⟩ : ∃ kk, kk = upK p j := ⟨_, rfl⟩
    have HKK := Lib.hid hkk
    rw [← hkk] at HB5 ⊢
    have HKOK : Hid (kk.now.Ok) := Lib.hid (by
      rw [hkk]
      have h0 : (upK p 0).Ok := by rw [upK_0]; exact KR.new_ok
      have h1 : (upK p 1).Ok := by rw [upK_step p (j := 0) (by omega)]; exact takeK_ok h0 (getR_ok 0 (slotB_ok HOK.out 0).2 (slotB_ok HOK.out 0).1) (getN_lt 0 (slotB_ok HOK.out 0).2 (slotB_ok HOK.out 0).1)
      have h2 : (upK p 2).Ok := by rw [upK_step p (j := 1) (by omega)]; exact takeK_ok h1 (getR_ok 1 (slotB_ok HOK.out 1).2 (slotB_ok HOK.out 1).1) (getN_lt 1 (slotB_ok HOK.out 1).2 (slotB_ok HOK.out 1).1)
      rcases (show j = 0 ∨ j = 1 ∨ j = 2 by have := HJ.out; omega) with rfl | rfl | rfl
      · exact h0.now
      · exact h1.now
      · exact h2.now)
    clear hkk
    by_cases hj : j < 2
    · have hlt : (j : Int) < 2 := by omega
      have HJ2 := Lib.hid hj
      obtain ⟨m2, hm2⟩ : ∃ m2, m2 = 2 * j := ⟨_, rfl⟩
      obtain ⟨m3, hm3⟩ : ∃ m3, m3 = 2 * j + 1 := ⟨_, rfl⟩
      have e2 : 2 * (j : Int) = (m2 : Int) := by omega
      have e3 : IntKind.i64.wrap (m2 : Int) = (m2 : Int) := IntWalk.i64_in _ (by omega)
      have e4 : (m2 : Int) + 1 = (m3 : Int) := by omega
      have e5 : IntKind.i64.wrap (m3 : Int) = (m3 : Int) := IntWalk.i64_in _ (by omega)
      have e6 : IntKind.i64.wrap ((j : Int) + 1) = (j : Int) + 1 := IntWalk.i64_in _ (by omega)
      have HMM : Hid ((Lit.int .i64 (m2 : Int)).wf = true ∧ (Lit.int .i64 (m3 : Int)).wf = true) := Lib.hid (by
        constructor <;> simp [Lit.wf, IntKind.min, IntKind.max, IntKind.signed, IntKind.bits] <;> omega)
      obtain ⟨SA, hSA⟩ : ∃ SA, SA = r.rget (m2 : Int) := ⟨_, rfl⟩
      obtain ⟨SB, hSB⟩ : ∃ SB, SB = r.rget (m3 : Int) := ⟨_, rfl⟩
      have HSA : Hid (SecOk SA ∧ SecOk SB) := Lib.hid (by rw [hSA, hSB]; exact ⟨HD.out.ok.rget _, HD.out.ok.rget _⟩)
      have HSL : Hid (SA ++ SB = slotB p j) := Lib.hid (by rw [hSA, hSB, hm2, hm3]; exact slotR HM.out j)
      have HSAE := Lib.hid hSA
      have HSBE := Lib.hid hSB
      clear hj hm2 hm3 hSA hSB
      go_wp2_with ((with_reducible refine atOp ⟨some 19, .load _ _, _, _, _, _⟩ ?_); refine wpList_load_any rfl _ rfl Tryd.underlying33 rfl (by rw [HRVZ.out]; rfl) rfl HB1.out ?_)
      rw [HRV.out]
      refine (rread_any r A1 c1 A2 c2 (m2 : Int) wr (HD.out.new HN.out) HT.out HMM.out.1 HRZ.out).mono ?_
      rintro e wa ⟨rfl, hNa⟩
      rw [← HRV.out, ← HSAE.out]
      have HNa : Hid (New wr wa) := Lib.hid hNa
      clear hNa
      go_upto_region 6 with ((with_reducible refine atOp ⟨some 7, .alloc _, _, _, _, _⟩ ?_); refine wpList_newvar (s := SA) rfl rfl rfl _ _ rfl secInfo rfl rfl rfl HSA.out.1.1 ?_)
      obtain ⟨wb, hwb⟩ : ∃ wb : World, wb = wa.alloc (.cells (secA SA) 23) := ⟨_, rfl⟩
      obtain ⟨b7, hb7⟩ : ∃ b7, b7 = wa.heap.size := ⟨_, rfl⟩
      have HNb : Hid (New wr wb) := Lib.hid (HNa.out.tr (by rw [hwb]; exact New.al (New.refl _) _))
      have HB7 : Hid (Blk wb b7 23 (secA SA)) := Lib.hid (by rw [hwb, hb7]; exact Blk.new _ _ _)
      have HZ7 : Hid (wr.heap.size ≤ b7) := Lib.hid (by rw [hb7]; exact HNa.out.size)
      rw [← hwb, ← hb7]
      clear hwb hb7 HNa
      have HB1b : Hid (Blk wb b1 33 RV) := Lib.hid (HNb.out.blk HB1.out)
      go_wp2_with ((with_reducible refine atOp ⟨some 26, .load _ _, _, _, _, _⟩ ?_); refine wpList_load_any rfl _ rfl Tryd.underlying33 rfl (by rw [HRVZ.out]; rfl) rfl HB1b.out ?_)
      rw [HRV.out]
      refine (rread_any r A1 c1 A2 c2 (m3 : Int) wb ((HD.out.new HN.out).new HNb.out) HT.out HMM.out.2 HRZ.out).mono ?_
      rintro e wc ⟨rfl, hNc⟩
      rw [← HRV.out, ← HSBE.out]
      have HNc : Hid (New wb wc) := Lib.hid hNc
      clear hNc
      go_upto_region 7 with ((with_reducible refine atOp ⟨some 9, .alloc _, _, _, _, _⟩ ?_); refine wpList_newvar (s := SB) rfl rfl rfl _ _ rfl secInfo rfl rfl rfl HSA.out.2.1 ?_)
      obtain ⟨wd, hwd⟩ : ∃ wd : World, wd = wc.alloc (.cells (secA SB) 23) := ⟨_, rfl⟩
      obtain ⟨b9, hb9⟩ : ∃ b9, b9 = wc.heap.size := ⟨_, rfl⟩
      have HNd : Hid (New wb wd) := Lib.hid (HNc.out.tr (by rw [hwd]; exact New.al (New.refl _) _))
      have HB9 : Hid (Blk wd b9 23 (secA SB)) := Lib.hid (by rw [hwd, hb9]; exact Blk.new _ _ _)
      have HB7d : Hid (Blk wd b7 23 (secA SA)) := Lib.hid (HNd.out.blk HB7.out)
      have HNwd : Hid (New wr wd) := Lib.hid (HNb.out.tr HNd.out)
      have HZ9 : Hid (b7 < b9) := Lib.hid (by rw [hb9]; have := HB7.out.lt; have := HNc.out.size; omega)
      rw [← hwd, ← hb9]
      clear hwd hb9 HNc HNb HB7 HB1b HNd
      have HLO : Hid (∀ (w' : World) (i n : Nat), Blk w' b7 23 (secA SA) → i + n ≤ 64 → Rd (fun _ => True) w' 1 (some ⟨b7, i, none⟩) n (u8s (cutL (SA ++ SB) i n)) ∧ Byt (cutL (SA ++ SB) i n)) := Lib.hid (fun w' i n hB h => by
        rw [← cut_lo HSA.out.1.1 h]
        exact ⟨rd_range (cut_range hB) hB.lt (by rw [u8s_len, List.length_take, List.length_drop, HSA.out.1.1]; omega), fun x hx => HSA.out.1.2 x (List.mem_of_mem_drop (List.mem_of_mem_take hx))⟩)
      have HHI : Hid (∀ (w' : World) (i n : Nat), Blk w' b9 23 (secA SB) → i + n ≤ 64 → Rd (fun _ => True) w' 1 (some ⟨b9, i, none⟩) n (u8s (cutL (SA ++ SB) (64 + i) n)) ∧ Byt (cutL (SA ++ SB) (64 + i) n)) := Lib.hid (fun w' i n hB h => by
        rw [← cut_hi HSA.out.1.1]
        exact ⟨rd_range (cut_range hB) hB.lt (by rw [u8s_len, List.length_take, List.length_drop, HSA.out.2.1]; omega), fun x hx => HSA.out.2.2 x (List.mem_of_mem_drop (List.mem_of_mem_take hx))⟩)
      obtain ⟨AL, hAL⟩ : ∃ AL, AL = SA ++ SB := ⟨_, rfl⟩
      have HALE := Lib.hid hAL
      rw [← hAL] at HLO HHI HSL
      have HALB : Hid (AL.length = 128 ∧ Byt AL) := Lib.hid (by rw [HSL.out]; exact slotB_ok HOK.out j)
      clear hAL
      go_wp2_with fail
      obtain ⟨q1, q2⟩ := HLO.out wd 0 8 HB7d.out (by omega)
      have HQ1 := Lib.hid q1
      have HQ2 := Lib.hid q2
      clear q1 q2
      refine (value_any (some ⟨b7, 0, none⟩) 8 _ _ wd HQ1.out HQ2.out (by omega)).mono ?_
      rintro e we ⟨rfl, rfl⟩
      obtain ⟨n, hn⟩ : ∃ n, n = valL (cutL AL 0 8) := ⟨_, rfl⟩
      have HNUM := Lib.hid hn
      rw [← hn]
      clear hn HQ1 HQ2
      go_upto_region 9 with ((with_reducible refine atOp ⟨some 12, .alloc _, _, _, _, _⟩ ?_); refine wpList_alloc_row rfl rfl refInfo ?_; intro b12 wf hb hB hN; have HB12 := Lib.hid hB; have HNf := Lib.hid hN; have HZ12 := Lib.hid hb; clear hb hB hN)
      have HB7f : Hid (Blk wf b7 23 (secA SA) ∧ Blk wf b9 23 (secA SB)) := Lib.hid ⟨HNf.out.blk HB7d.out, HNf.out.blk HB9.out⟩
      have HNE : Hid (b7 ≠ b12 ∧ b9 ≠ b12 ∧ wr.heap.size ≤ b12) := Lib.hid (by have h1 := HB7d.out.lt; have h2 := HB9.out.lt; have h3 := HZ12.out; have h4 := HNwd.out.size; omega)
      have HNwf : Hid (New wr wf) := Lib.hid (HNwd.out.tr HNf.out)
      obtain ⟨rr, hrr⟩ : ∃ rr, rr = rcOf AL := ⟨_, rfl⟩
      have HRR : Hid (rr.Ok ∧ rr.root = cutL AL 8 32 ∧ rr.blocks = valL (cutL AL 40 8) ∧ rr.epoch = valL (cutL AL 48 8) ∧ rr.since = valL (cutL AL 56 8) ∧ rr.limit = valL (cutL AL 72 8) ∧ rr.session = valL (cutL AL 80 8)) := Lib.hid (by rw [hrr]; exact ⟨rcOf_ok HALB.out.2 HALB.out.1, rfl, rfl, rfl, rfl, rfl, rfl⟩)
      have HRRE := Lib.hid hrr
      have HRT : Hid (rr.root.length = 32) := Lib.hid HRR.out.1.len
      have HCL : Hid ((u8s rr.root).length = 32) := Lib.hid (by rw [u8s_len, HRT.out])
      have HB12' : Hid (Blk wf b12 45 (rcl rc0.root [.int .u64 0, .int .u64 0, .int .u64 0, .int .u64 0, .int .u64 0]).toArray) := Lib.hid (by exact HB12.out)
      have HC0 : Hid ((rcl rc0.root [.int .u64 0, .int .u64 0, .int .u64 0, .int .u64 0, .int .u64 0]).length = 37) := Lib.hid (rcl_len rc0_ok.len _)
      have HSPL : Hid (splice (rcl rc0.root [.int .u64 0, .int .u64 0, .int .u64 0, .int .u64 0, .int .u64 0]) 0 (u8s rr.root) = rcl rr.root [.int .u64 0, .int .u64 0, .int .u64 0, .int .u64 0, .int .u64 0]) := Lib.hid (by unfold rcl; rw [splice_fst (by rw [u8s_len, HCL.out]; rfl)])
      obtain ⟨C0, hC0⟩ : ∃ C0, C0 = rcl rc0.root [.int .u64 0, .int .u64 0, .int .u64 0, .int .u64 0, .int .u64 0] := ⟨_, rfl⟩
      rw [← hC0] at HB12' HC0 HSPL
      clear hrr hC0 HB12 HB7d HB9 HZ12 HNf HNwd
      obtain ⟨q1, q2⟩ := HLO.out wf 8 32 HB7f.out.1 (by omega)
      rw [← HRR.out.2.1] at q1
      have HQ1 := Lib.hid q1
      clear q1 q2
      refine wp_region_mixH (fun _ => True) [(true, 0), (true, 1), (true, 2), (false, 3)] (by kernel_rfl) (by kernel_rfl) trivial (fun hne => ?_)
      iterate 3 (refine mix_take (o := ⟨_, _, _, _, _, _⟩) rfl (fun K hK => ?_); go_simp; refine hK _ ?_; clear hK K)
      refine mix_copyF (o := ⟨_, _, _, _, _, _⟩) (q := fun _ => True) rfl rfl (.tmp 36) (.tmp 37) 96 96 rfl 5 Tryd.underlying96 rfl b12 0 32 32 (some ⟨b7, 8, none⟩) 32 _ rfl rfl C0 45 ((New.dr (New.refl wf)).blk HB12'.out) (u8s rr.root) (by rw [HCL.out]; rfl) ⟨32, u8s rr.root, (New.dr (New.refl wf)).rd HQ1.out, List.take_length⟩ (by rw [HCL.out, HC0.out]; decide) (u8s_one _) ?_
      intro wg hbg hfg
      rw [HSPL.out] at hbg
      have HBg := Lib.hid hbg
      have HFg := Lib.hid (Fr.ofDrew hfg)
      clear hbg hfg
      refine ⟨fun _ => trivial, ?_⟩
      refine mix_done ?_
      have HB7g : Hid (Blk wg b7 23 (secA SA) ∧ Blk wg b9 23 (secA SB)) := Lib.hid ⟨HB7f.out.1.fr HFg.out HNE.out.1, HB7f.out.2.fr HFg.out HNE.out.2.1⟩
      have HNg : Hid (New wr wg) := Lib.hid (HNwf.out.fr HFg.out (fun k hk => by have := HNE.out; omega))
      clear HB12' HC0 HSPL HQ1 HB7f HNwf HFg
      go_wp2_with fail
      obtain ⟨q1, q2⟩ := HLO.out wg 40 8 HB7g.out.1 (by omega)
      have HQ1 := Lib.hid q1
      have HQ2 := Lib.hid q2
      clear q1 q2
      refine (value_any (some ⟨b7, 40, none⟩) 8 _ _ wg HQ1.out HQ2.out (by omega)).mono ?_
      rintro e wq ⟨rfl, rfl⟩
      have hv : valL (cutL AL 40 8) = rr.blocks := HRR.out.2.2.1.symm
      rw [hv]
      clear hv HQ1 HQ2
      go_upto_region 11 with ((with_reducible refine atOp ⟨none, .store 41 (.tmp 41) _, _, _, _, _⟩ ?_); refine wpList_store_int (off := 32) rfl (.tmp 41) (.tmp 40) rfl rfl rfl HBg.out (by rw [rcl_len HRT.out]; simp) rfl ?_; intro wh hb hf; have HBh0 := Lib.hid hb; have HFh := Lib.hid hf; clear hb hf)
      have HBh : Hid (Blk wh b12 45 (rcl rr.root [.int .u64 rr.blocks, .int .u64 0, .int .u64 0, .int .u64 0, .int .u64 0]).toArray) := Lib.hid (by have h := HBh0.out; rw [rcl_set HRT.out _ 0] at h; exact h)
      have HB7h : Hid (Blk wh b7 23 (secA SA) ∧ Blk wh b9 23 (secA SB)) := Lib.hid ⟨HB7g.out.1.fr HFh.out HNE.out.1, HB7g.out.2.fr HFh.out HNE.out.2.1⟩
      have HNh : Hid (New wr wh) := Lib.hid (HNg.out.fr HFh.out (fun k hk => by have := HNE.out; omega))
      clear HBg HB7g HNg HFh HBh0
      go_wp2_with fail
      obtain ⟨q1, q2⟩ := HLO.out wh 48 8 HB7h.out.1 (by omega)
      have HQ1 := Lib.hid q1
      have HQ2 := Lib.hid q2
      clear q1 q2
      refine (value_any (some ⟨b7, 48, none⟩) 8 _ _ wh HQ1.out HQ2.out (by omega)).mono ?_
      rintro e wq ⟨rfl, rfl⟩
      have hv : valL (cutL AL 48 8) = rr.epoch := HRR.out.2.2.2.1.symm
      rw [hv]
      clear hv HQ1 HQ2
      go_upto_region 12 with ((with_reducible refine atOp ⟨none, .store 41 (.tmp 44) _, _, _, _, _⟩ ?_); refine wpList_store_int (off := 33) rfl (.tmp 44) (.tmp 43) rfl rfl rfl HBh.out (by rw [rcl_len HRT.out]; simp) rfl ?_; intro wi hb hf; have HBi0 := Lib.hid hb; have HFi := Lib.hid hf; clear hb hf)
      have HBi : Hid (Blk wi b12 45 (rcl rr.root [.int .u64 rr.blocks, .int .u64 rr.epoch, .int .u64 0, .int .u64 0, .int .u64 0]).toArray) := Lib.hid (by have h := HBi0.out; rw [rcl_set HRT.out _ 1] at h; exact h)
      have HB7i : Hid (Blk wi b7 23 (secA SA) ∧ Blk wi b9 23 (secA SB)) := Lib.hid ⟨HB7h.out.1.fr HFi.out HNE.out.1, HB7h.out.2.fr HFi.out HNE.out.2.1⟩
      have HNi : Hid (New wr wi) := Lib.hid (HNh.out.fr HFi.out (fun k hk => by have := HNE.out; omega))
      clear HBh HB7h HNh HFi HBi0
      go_wp2_with fail
      obtain ⟨q1, q2⟩ := HLO.out wi 56 8 HB7i.out.1 (by omega)
      have HQ1 := Lib.hid q1
      have HQ2 := Lib.hid q2
      clear q1 q2
      refine (value_any (some ⟨b7, 56, none⟩) 8 _ _ wi HQ1.out HQ2.out (by omega)).mono ?_
      rintro e wq ⟨rfl, rfl⟩
      have hv : valL (cutL AL 56 8) = rr.since := HRR.out.2.2.2.2.1.symm
      rw [hv]
      clear hv HQ1 HQ2
      go_upto_region 13 with ((with_reducible refine atOp ⟨none, .store 41 (.tmp 47) _, _, _, _, _⟩ ?_); refine wpList_store_int (off := 34) rfl (.tmp 47) (.tmp 46) rfl rfl rfl HBi.out (by rw [rcl_len HRT.out]; simp) rfl ?_; intro wj hb hf; have HBj0 := Lib.hid hb; have HFj := Lib.hid hf; clear hb hf)
      have HBj : Hid (Blk wj b12 45 (rcl rr.root [.int .u64 rr.blocks, .int .u64 rr.epoch, .int .u64 rr.since, .int .u64 0, .int .u64 0]).toArray) := Lib.hid (by have h := HBj0.out; rw [rcl_set HRT.out _ 2] at h; exact h)
      have HB7j : Hid (Blk wj b7 23 (secA SA) ∧ Blk wj b9 23 (secA SB)) := Lib.hid ⟨HB7i.out.1.fr HFj.out HNE.out.1, HB7i.out.2.fr HFj.out HNE.out.2.1⟩
      have HNj : Hid (New wr wj) := Lib.hid (HNi.out.fr HFj.out (fun k hk => by have := HNE.out; omega))
      clear HBi HB7i HNi HFj HBj0
      go_wp2_with fail
      obtain ⟨q1, q2⟩ := HHI.out wj 8 8 HB7j.out.2 (by omega)
      have HQ1 := Lib.hid q1
      have HQ2 := Lib.hid q2
      clear q1 q2
      refine (value_any (some ⟨b9, 8, none⟩) 8 _ _ wj HQ1.out HQ2.out (by omega)).mono ?_
      rintro e wq ⟨rfl, rfl⟩
      have hv : valL (cutL AL (64 + 8) 8) = rr.limit := HRR.out.2.2.2.2.2.1.symm
      rw [hv]
      clear hv HQ1 HQ2
      go_upto_region 14 with ((with_reducible refine atOp ⟨none, .store 41 (.tmp 50) _, _, _, _, _⟩ ?_); refine wpList_store_int (off := 35) rfl (.tmp 50) (.tmp 49) rfl rfl rfl HBj.out (by rw [rcl_len HRT.out]; simp) rfl ?_; intro wk hb hf; have HBk0 := Lib.hid hb; have HFk := Lib.hid hf; clear hb hf)
      have HBk : Hid (Blk wk b12 45 (rcl rr.root [.int .u64 rr.blocks, .int .u64 rr.epoch, .int .u64 rr.since, .int .u64 rr.limit, .int .u64 0]).toArray) := Lib.hid (by have h := HBk0.out; rw [rcl_set HRT.out _ 3] at h; exact h)
      have HB7k : Hid (Blk wk b7 23 (secA SA) ∧ Blk wk b9 23 (secA SB)) := Lib.hid ⟨HB7j.out.1.fr HFk.out HNE.out.1, HB7j.out.2.fr HFk.out HNE.out.2.1⟩
      have HNk : Hid (New wr wk) := Lib.hid (HNj.out.fr HFk.out (fun k hk => by have := HNE.out; omega))
      clear HBj HB7j HNj HFk HBk0
      go_wp2_with fail
      obtain ⟨q1, q2⟩ := HHI.out wk 16 8 HB7k.out.2 (by omega)
      have HQ1 := Lib.hid q1
      have HQ2 := Lib.hid q2
      clear q1 q2
      refine (value_any (some ⟨b9, 16, none⟩) 8 _ _ wk HQ1.out HQ2.out (by omega)).mono ?_
      rintro e wq ⟨rfl, rfl⟩
      have hv : valL (cutL AL (64 + 16) 8) = rr.session := HRR.out.2.2.2.2.2.2.symm
      rw [hv]
      clear hv HQ1 HQ2
      go_upto_region 15 with ((with_reducible refine atOp ⟨none, .store 41 (.tmp 53) _, _, _, _, _⟩ ?_); refine wpList_store_int (off := 36) rfl (.tmp 53) (.tmp 52) rfl rfl rfl HBk.out (by rw [rcl_len HRT.out]; simp) rfl ?_; intro wl hb hf; have HBl0 := Lib.hid hb; have HFl := Lib.hid hf; clear hb hf)
      have HBl : Hid (Blk wl b12 45 (rcl rr.root [.int .u64 rr.blocks, .int .u64 rr.epoch, .int .u64 rr.since, .int .u64 rr.limit, .int .u64 rr.session]).toArray) := Lib.hid (by have h := HBl0.out; rw [rcl_set HRT.out _ 4] at h; exact h)
      have HB7l : Hid (Blk wl b7 23 (secA SA) ∧ Blk wl b9 23 (secA SB)) := Lib.hid ⟨HB7k.out.1.fr HFl.out HNE.out.1, HB7k.out.2.fr HFl.out HNE.out.2.1⟩
      have HNl : Hid (New wr wl) := Lib.hid (HNk.out.fr HFl.out (fun k hk => by have := HNE.out; omega))
      clear HBk HB7k HNk HFl HBl0
      have HBR : Hid (Blk wl b12 45 rr.cells) := HBl
      obtain ⟨PL, hPL⟩ : ∃ PL, PL = putL n rr := ⟨_, rfl⟩
      have HPLE := Lib.hid hPL
      have HPLB : Hid (PL.length = 128 ∧ Byt PL) := Lib.hid (by rw [hPL]; exact ⟨putL_len HRT.out, putL_byt HRR.out.1.byt⟩)
      have HRZ37 : Hid (rr.cells.size = 37 ∧ rr.cells.all (·.oneCell') = true) := Lib.hid ⟨Rc.size HRT.out, Rc.one _⟩
      have HEQ : Hid (∀ W, (binOp .eql 97 (.agg (secA PL)) (.agg (secA AL))).run Tryd.prog W = .ok (.bool (decide (PL = AL))) W) := Lib.hid (fun W => eql_two HPLB.out.1 HALB.out.1 HPLB.out.2 HALB.out.2 W)
      have HBU : Hid (Tryd.prog.built 97 [(0, .agg (secA SA)), (1, .agg (secA SB))] = some (secA AL)) := Lib.hid (by rw [HALE.out]; exact built_two HSA.out.1.1 HSA.out.2.1)
      have HNN : Hid (n < 18446744073709551616 ∧ n = numOf AL) := Lib.hid ⟨by rw [HNUM.out]; exact numOf_lt HALB.out.2 HALB.out.1, HNUM.out⟩
      have HBEST : Hid (upK p (j + 1) = if PL = AL ∧ n % 2 = j ∧ rr.Right ∧ kk.number < n then { kk with number := n, now := rr } else kk) := Lib.hid (by
        rw [upK_step p HJ2.out, ← HKK.out, ← HSL.out]
        have e : RecIn j AL ↔ PL = AL ∧ n % 2 = j ∧ rr.Right := by unfold RecIn; rw [HPLE.out, HNN.out.2, HRRE.out]
        unfold takeK getN getR
        by_cases h : RecIn j AL
        · rw [if_pos h, if_pos h, ← HNN.out.2, ← HRRE.out]
          obtain ⟨h1, h2, h3⟩ := e.1 h
          by_cases hlt : kk.number < n
          · rw [if_pos hlt, if_pos ⟨h1, h2, h3, hlt⟩]
          · rw [if_neg hlt, if_neg (fun h => hlt h.2.2.2)]
        · rw [if_neg h, if_neg h, if_neg (by omega), if_neg (fun hh => h (e.2 ⟨hh.1, hh.2.1, hh.2.2.1⟩))])
      have HBest : Hid (kk.number < 18446744073709551616) := Lib.hid (by
        rw [HKK.out]
        have hs : ∀ i, i ≤ 2 → (upK p i).number < 18446744073709551616 := fun i hi => by
          have g0 := getN_lt 0 (slotB_ok HOK.out 0).2 (slotB_ok HOK.out 0).1
          have g1 := getN_lt 1 (slotB_ok HOK.out 1).2 (slotB_ok HOK.out 1).1
          rcases (show i = 0 ∨ i = 1 ∨ i = 2 by omega) with rfl | rfl | rfl
          · rw [upK_0]; show 0 < _; omega
          · rw [upK_1]; have h := (takeK_num KR.new (getN 0 (slotB p 0)) (getR 0 (slotB p 0))).1; have h0 : KR.new.number = 0 := rfl; omega
          · rw [upK_2]; unfold openP; have h := (takeK_num KR.new (getN 0 (slotB p 0)) (getR 0 (slotB p 0))).1; have h2 := (takeK_num (takeK KR.new (getN 0 (slotB p 0)) (getR 0 (slotB p 0))) (getN 1 (slotB p 1)) (getR 1 (slotB p 1))).1; have h0 : KR.new.number = 0 := rfl; omega
        exact hs j HJ.out)
      clear hPL HLO HHI HSL HBl
      have HBo : Hid (Blk wl b1 33 RV ∧ Blk wl b3 45 rc0.cells ∧ Blk wl b5 45 kk.now.cells) := Lib.hid ⟨HNl.out.blk HB1.out, HNl.out.blk HB3.out, HNl.out.blk HB5.out⟩
      clear HB1 HB3 HB5
      refine wp_region_mixH (fun w' => Blk w' b12 45 rr.cells ∧ Blk w' b7 23 (secA SA) ∧ Blk w' b9 23 (secA SB)) [(true, 0), (true, 1), (true, 3), (true, 4), (true, 5), (false, 2), (true, 6), (true, 7), (true, 8), (true, 9), (true, 10), (true, 11), (true, 12), (true, 13), (true, 14), (true, 15), (false, 16), (true, 17), (true, 18), (true, 19), (true, 20), (true, 21), (true, 22)] (by kernel_rfl) (by kernel_rfl) ⟨(New.dr (New.refl wl)).blk HBR.out, (New.dr (New.refl wl)).blk HB7l.out.1, (New.dr (New.refl wl)).blk HB7l.out.2⟩ (fun hne => ?_)
      iterate 1 (refine mix_take (o := ⟨_, _, _, _, _, _⟩) rfl (fun K hK => ?_); go_simp; refine hK _ ?_; clear hK K)
      refine mix_take_row (o := ⟨_, _, _, _, _, _⟩) (cs := rr.cells.toList) rfl rfl _ rfl rfl (fun w' h => Blk.rangeOf h.1) Tryd.underlying45 rfl (by rw [Array.length_toList, HRZ37.out.1]; rfl) ?_
      refine mix_take_row (o := ⟨_, _, _, _, _, _⟩) (cs := (secA SA).toList) rfl rfl _ rfl rfl (fun w' h => Blk.rangeOf h.2.1) Tryd.underlying23 rfl (by rw [Array.length_toList, secA_size, HSA.out.1.1]; rfl) ?_
      refine mix_take_row (o := ⟨_, _, _, _, _, _⟩) (cs := (secA SB).toList) rfl rfl _ rfl rfl (fun w' h => Blk.rangeOf h.2.2) Tryd.underlying23 rfl (by rw [Array.length_toList, secA_size, HSA.out.2.1]; rfl) ?_
      refine mix_take_built (o := ⟨_, _, _, _, _, _⟩) rfl rfl _ [(0, .tmp 57), (1, .tmp 58)] rfl [(0, .agg (secA SA)), (1, .agg (secA SB))] rfl _ HBU.out ?_
      simp only [Act.put, List.setIfInBounds_toArray, List.set_cons_zero, List.set_cons_succ]
      refine mix_act (o := ⟨_, _, _, _, _, _⟩) rfl (fun K hK => ?_) (.inl rfl)
      go_simp
      refine (rput_rec n rr wl.drew ((HL.out.new (HN.out.tr HNl.out)).new (New.dr (New.refl wl))) HRR.out.1 HNN.out.1).mono ?_
      rintro e wm ⟨rfl, hNm⟩
      rw [← HPLE.out]
      have HNowm : Hid (New wl wm) := Lib.hid ((New.dr (New.refl wl)).tr hNm)
      have HNwm : Hid (New wr wm) := Lib.hid (HNl.out.tr HNowm.out)
      have HSm : Hid (Blk wm b12 45 rr.cells ∧ Blk wm b7 23 (secA SA) ∧ Blk wm b9 23 (secA SB)) := Lib.hid ⟨HNowm.out.blk HBR.out, HNowm.out.blk HB7l.out.1, HNowm.out.blk HB7l.out.2⟩
      clear hNm HBR HB7l
      go_simp
      refine hK.out _ _ (fun _ => HSm.out) ?_
      clear hK K
      have r2 : IntKind.u64.wrap (j : Int) = (j : Int) := by rw [IntKind.wrap_u64]; have := HJ.out; omega
      obtain ⟨n2, hn2⟩ : ∃ n2, n2 = n % 2 := ⟨_, rfl⟩
      have HN2 := Lib.hid hn2
      have r1 : (n : Int).tmod 2 = (n2 : Int) := by rw [Int.tmod_eq_emod_of_nonneg (by omega)]; omega
      rw [← hn2] at HBEST
      clear hn2
      by_cases hc1 : PL = AL
      · have heq : ∀ W, (binOp .eql 97 (.agg (secA PL)) (.agg (secA AL))).run Tryd.prog W = .ok (.bool true) W := fun W => by
          have h := HEQ.out W
          rwa [decide_eq_true hc1] at h
        have HC1 := Lib.hid hc1
        clear hc1
        by_cases hc2 : n2 = j
        · have r3 : (n2 : Int) = (j : Int) := by omega
          rw [r3] at r1
          have HC2 := Lib.hid hc2
          clear hc2 r3
          iterate 9 (refine mix_take (o := ⟨_, _, _, _, _, _⟩) rfl (fun K hK => ?_); go_simp; refine hK _ ?_; clear hK K)
          refine mix_take_row (o := ⟨_, _, _, _, _, _⟩) (cs := rr.cells.toList) rfl rfl _ rfl rfl (fun w' h => Blk.rangeOf h.1) Tryd.underlying45 rfl (by rw [Array.length_toList, HRZ37.out.1]; rfl) ?_
          refine mix_act (o := ⟨_, _, _, _, _, _⟩) rfl (fun K hK => ?_) (.inl rfl)
          go_simp
          refine (rright_any rr wm HRR.out.1).mono ?_
          rintro e wo ⟨rfl, hNo⟩
          have HNowo : Hid (New wl wo) := Lib.hid (HNowm.out.tr hNo)
          have HNwo : Hid (New wr wo) := Lib.hid (HNwm.out.tr hNo)
          have HSo : Hid (Blk wo b12 45 rr.cells ∧ Blk wo b7 23 (secA SA) ∧ Blk wo b9 23 (secA SB)) := Lib.hid ⟨hNo.blk HSm.out.1, hNo.blk HSm.out.2.1, hNo.blk HSm.out.2.2⟩
          clear hNo heq r1 r2
          by_cases hc3 : rr.Right
          · rw [decide_eq_true hc3]
            have HC3 := Lib.hid hc3
            clear hc3
            go_simp
            refine hK.out _ _ (fun _ => HSo.out) ?_
            clear hK K
            by_cases hc4 : kk.number < n
            · have hlt4 : (kk.number : Int) < (n : Int) := by omega
              have HUP : Hid (upK p (j + 1) = { kk with number := n, now := rr }) := Lib.hid (by rw [HBEST.out, if_pos ⟨HC1.out, HC2.out, HC3.out, hc4⟩])
              clear hc4
              iterate 6 (refine mix_take (o := ⟨_, _, _, _, _, _⟩) rfl (fun K hK => ?_); go_simp; refine hK _ ?_; clear hK K)
              refine mix_done ?_
              have HB5o : Hid (Blk wo b5 45 kk.now.cells) := Lib.hid (HNowo.out.blk HBo.out.2.2)
              have HKZ : Hid (kk.now.cells.size = 37) := Lib.hid (by
                have h := HKOK.out
                exact Rc.size h.len)
              go_wp2_with (first
                | ((with_reducible refine atOp ⟨some 78, .load _ _, _, _, _, _⟩ ?_); refine wpList_load_any rfl _ rfl Tryd.underlying45 rfl (by rw [HRZ37.out.1]; rfl) rfl HSo.out.1 ?_)
                | ((with_reducible refine atOp ⟨none, .store 45 (.tmp 5) _, _, _, _, _⟩ ?_); refine wpList_store_any rfl (.tmp 5) (.tmp 78) rfl (by rw [HRZ37.out.1]; rfl) rfl rfl HB5o.out (by rw [HRZ37.out.1, HKZ.out]) HRZ37.out.2 ?_; intro wp5 hb hf; have HBp := Lib.hid hb; have HFp := Lib.hid hf; clear hb hf))
              go_roundw
              case rel => exact ⟨j + 1, Lib.hid (by have := HJ2.out; omega), by rw [HUP.out], by go_num, Lib.hid ((HN.out.tr HNwo.out).fr HFp.out (fun k hk => by have := HLT.out; omega)), Lib.hid ((HNowo.out.blk HBo.out.1).fr HFp.out (by have := HLT.out; omega)), Lib.hid ((HNowo.out.blk HBo.out.2.1).fr HFp.out (by have := HLT.out; omega)), Lib.hid (by rw [HUP.out]; exact HBp.out)⟩
              case measure => simp [intOf]; have := HJ2.out; omega
            · have hge4 : ¬ ((kk.number : Int) < (n : Int)) := by omega
              have HUP : Hid (upK p (j + 1) = kk) := Lib.hid (by rw [HBEST.out, if_neg (fun h => hc4 h.2.2.2)])
              clear hc4
              iterate 6 (refine mix_take (o := ⟨_, _, _, _, _, _⟩) rfl (fun K hK => ?_); go_simp; refine hK _ ?_; clear hK K)
              refine mix_done ?_
              go_wp2_with fail
              go_roundw
              case rel => exact ⟨j + 1, Lib.hid (by have := HJ2.out; omega), by rw [HUP.out], by go_num, Lib.hid (HN.out.tr HNwo.out), Lib.hid (HNowo.out.blk HBo.out.1), Lib.hid (HNowo.out.blk HBo.out.2.1), Lib.hid (by rw [HUP.out]; exact HNowo.out.blk HBo.out.2.2)⟩
              case measure => simp [intOf]; have := HJ2.out; omega
          · rw [decide_eq_false hc3]
            have HUP : Hid (upK p (j + 1) = kk) := Lib.hid (by rw [HBEST.out, if_neg (fun h => hc3 h.2.2.1)])
            clear hc3
            go_simp
            refine hK.out _ _ (fun _ => HSo.out) ?_
            clear hK K
            iterate 6 (refine mix_take (o := ⟨_, _, _, _, _, _⟩) rfl (fun K hK => ?_); go_simp; refine hK _ ?_; clear hK K)
            refine mix_done ?_
            go_wp2_with fail
            go_roundw
            case rel => exact ⟨j + 1, Lib.hid (by have := HJ2.out; omega), by rw [HUP.out], by go_num, Lib.hid (HN.out.tr HNwo.out), Lib.hid (HNowo.out.blk HBo.out.1), Lib.hid (HNowo.out.blk HBo.out.2.1), Lib.hid (by rw [HUP.out]; exact HNowo.out.blk HBo.out.2.2)⟩
            case measure => simp [intOf]; have := HJ2.out; omega
        · have hne1 : ¬ ((n2 : Int) = (j : Int)) := by omega
          have hne2 : ((n2 : Int) == (j : Int)) = false := by rw [beq_eq_false_iff_ne]; exact hne1
          have HUP : Hid (upK p (j + 1) = kk) := Lib.hid (by rw [HBEST.out, if_neg (fun h => hc2 h.2.1)])
          iterate 10 (refine mix_take (o := ⟨_, _, _, _, _, _⟩) rfl (fun K hK => ?_); go_simp; refine hK _ ?_; clear hK K)
          refine mix_act (o := ⟨_, _, _, _, _, _⟩) rfl (fun K hK => ?_) (.inr HSm.out)
          go_simp
          refine hK.out _ _ (fun _ => HSm.out) ?_
          clear hK K
          iterate 6 (refine mix_take (o := ⟨_, _, _, _, _, _⟩) rfl (fun K hK => ?_); go_simp; refine hK _ ?_; clear hK K)
          clear hne1 hne2 hc2 heq r1 r2
          refine mix_done ?_
          go_wp2_with fail
          go_roundw
          case rel => exact ⟨j + 1, Lib.hid (by have := HJ2.out; omega), by rw [HUP.out], by go_num, Lib.hid (HN.out.tr HNwm.out), Lib.hid (HNowm.out.blk HBo.out.1), Lib.hid (HNowm.out.blk HBo.out.2.1), Lib.hid (by rw [HUP.out]; exact HNowm.out.blk HBo.out.2.2)⟩
          case measure => simp [intOf]; have := HJ2.out; omega
      · have heq : ∀ W, (binOp .eql 97 (.agg (secA PL)) (.agg (secA AL))).run Tryd.prog W = .ok (.bool false) W := fun W => by
          have h := HEQ.out W
          rwa [decide_eq_false hc1] at h
        have HUP : Hid (upK p (j + 1) = kk) := Lib.hid (by rw [HBEST.out, if_neg (fun h => hc1 h.1)])
        clear hc1
        iterate 10 (refine mix_take (o := ⟨_, _, _, _, _, _⟩) rfl (fun K hK => ?_); go_simp; refine hK _ ?_; clear hK K)
        refine mix_act (o := ⟨_, _, _, _, _, _⟩) rfl (fun K hK => ?_) (.inr HSm.out)
        go_simp
        refine hK.out _ _ (fun _ => HSm.out) ?_
        clear hK K
        iterate 6 (refine mix_take (o := ⟨_, _, _, _, _, _⟩) rfl (fun K hK => ?_); go_simp; refine hK _ ?_; clear hK K)
        clear heq r1 r2
        refine mix_done ?_
        go_wp2_with fail
        go_roundw
        case rel => exact ⟨j + 1, Lib.hid (by have := HJ2.out; omega), by rw [HUP.out], by go_num, Lib.hid (HN.out.tr HNwm.out), Lib.hid (HNowm.out.blk HBo.out.1), Lib.hid (HNowm.out.blk HBo.out.2.1), Lib.hid (by rw [HUP.out]; exact HNowm.out.blk HBo.out.2.2)⟩
        case measure => simp [intOf]; have := HJ2.out; omega
    · have hge : ¬ ((j : Int) < 2) := by omega
      have HUE : Hid (kk = openP p) := Lib.hid (by rw [HKK.out, show j = 2 by have := HJ.out; omega, upK_2])
      have HKZ : Hid (kk.now.cells.size = 37) := Lib.hid (Rc.size HKOK.out.len)
      obtain ⟨NC, hNC⟩ : ∃ NC, NC = kk.now.cells := ⟨_, rfl⟩
      have HNC := Lib.hid hNC
      have HNONE : Hid (NC.all (·.oneCell') = true) := Lib.hid (by rw [hNC]; exact Rc.one _)
      rw [← hNC] at HKZ HB5
      clear hj hNC
      go_wp2_with fail
      refine wp_region_mixH (fun w' => Blk w' b5 45 NC) [(true, 0), (true, 1), (true, 2), (false, 3)] (by kernel_rfl) (by kernel_rfl) ((New.dr (New.refl wr)).blk HB5.out) (fun hne => ?_)
      iterate 1 (refine mix_take (o := ⟨_, _, _, _, _, _⟩) rfl (fun K hK => ?_); go_simp; refine hK _ ?_; clear hK K)
      refine mix_take_row (o := ⟨_, _, _, _, _, _⟩) (cs := NC.toList) rfl rfl _ rfl rfl (fun w' h => Blk.rangeOf h) Tryd.underlying45 rfl (by rw [Array.length_toList, HKZ.out]; rfl) ?_
      iterate 1 (refine mix_take (o := ⟨_, _, _, _, _, _⟩) rfl (fun K hK => ?_); go_simp; refine hK _ ?_; clear hK K)
      refine mix_store (o := ⟨_, _, _, _, _, _⟩) (cs := NC) rfl rfl (.tmp 3) (.tmp 80) rfl (by rw [HKZ.out]; rfl) rfl rfl ((New.dr (New.refl wr)).blk HB3.out) (by rw [HKZ.out]; rfl) HNONE.out ?_
      intro ws hbs hfs
      have HBs := Lib.hid hbs
      have HFs := Lib.hid (Fr.ofDrew hfs)
      clear hbs hfs
      refine ⟨fun _ => HB5.out.fr HFs.out (by have := HLT.out; omega), ?_⟩
      refine mix_done ?_
      go_wp2_with fail
      exact bodyPost_ret (res_tc rfl _ _ b3 _ rfl HBs.out (by rw [HKZ.out]; rfl)) rfl ⟨by rw [← HUE.out, ← HNC.out]; rfl, HN.out.fr HFs.out (fun k hk => by have := HLT.out; have := HZ.out; omega)⟩
end Go.Proofs.YtdojmjglnlkmoaaDoor
/- The reference: a record saved. The tables of the reference's sha are as they were laid. No condition else but the disk's size and the number. -/
namespace Go.Proofs.YtdojmjglnlkmoaaDoor
set_option linter.unusedVariables false
set_option linter.unusedSimpArgs false
set_option linter.constructorNameAsVariable false
open Go.RowKit Go.Sort

/-- The reference's disk behind so many of the two writes; its answer. -/
def rwriteQ (r : RP) (n : Nat) (all : List Int) : Nat → RP × Int
  | 0 => (r, 0)
  | k + 1 => let x := rwriteQ r n all k
    if x.2 ≠ 0 then x else (x.1.write (slotA n k) (sec2 all k), x.1.wcode (slotA n k))
def rwriteP (r : RP) (n : Nat) (all : List Int) : RP × Int :=
  let x := rwriteQ r n all 2
  if x.2 ≠ 0 then x else (x.1.sync, x.1.scode)
theorem rwriteQ_go {r : RP} {n : Nat} {all : List Int} {k : Nat} (h : (rwriteQ r n all k).2 = 0) : rwriteQ r n all (k + 1) = ((rwriteQ r n all k).1.write (slotA n k) (sec2 all k), (rwriteQ r n all k).1.wcode (slotA n k)) := by
  simp only [rwriteQ]
  rw [if_neg (by rw [h]; simp)]
theorem rwriteQ_bad {r : RP} {n : Nat} {all : List Int} {k : Nat} (h : (rwriteQ r n all k).2 ≠ 0) : rwriteQ r n all (k + 1) = rwriteQ r n all k := by
  simp only [rwriteQ]
  rw [if_pos h]
theorem rwriteQ_mt {p : DP} {r : RP} (h : Mt p r) (n : Nat) (all : List Int) : ∀ k, Mt (writeQ p n all k).1 (rwriteQ r n all k).1 ∧ (rwriteQ r n all k).2 = (writeQ p n all k).2
  | 0 => ⟨h, rfl⟩
  | k + 1 => by
    obtain ⟨h1, h2⟩ := rwriteQ_mt h n all k
    by_cases hb : (writeQ p n all k).2 = 0
    · rw [writeQ_go hb, rwriteQ_go (h2.trans hb)]
      exact ⟨h1.write _ _, h1.wcode _⟩
    · rw [writeQ_bad hb, rwriteQ_bad (by rw [h2]; exact hb)]
      exact ⟨h1, h2⟩
theorem rwriteP_mt {p : DP} {r : RP} (h : Mt p r) (n : Nat) (all : List Int) : Mt (writeP p n all).1 (rwriteP r n all).1 ∧ (rwriteP r n all).2 = (writeP p n all).2 := by
  obtain ⟨h1, h2⟩ := rwriteQ_mt h n all 2
  unfold writeP rwriteP
  simp only
  by_cases hb : (writeQ p n all 2).2 = 0
  · rw [if_neg (by rw [hb]; simp), if_neg (by rw [h2, hb]; simp)]
    exact ⟨h1.sync, h1.scode⟩
  · rw [if_pos hb, if_pos (by rw [h2]; exact hb)]
    exact ⟨h1, h2⟩
theorem rwriteQ_tot (r : RP) (n : Nat) (all : List Int) : ∀ k, (rwriteQ r n all k).1.tot ≤ r.tot + k ∧ (rwriteQ r n all k).1.size = r.size
  | 0 => ⟨Nat.le_refl _, rfl⟩
  | k + 1 => by
    obtain ⟨h1, h2⟩ := rwriteQ_tot r n all k
    by_cases hb : (rwriteQ r n all k).2 = 0
    · rw [rwriteQ_go hb]
      have h3 := RP.tot_write (rwriteQ r n all k).1 (slotA n k) (sec2 all k)
      refine ⟨by show ((rwriteQ r n all k).1.write _ _).tot ≤ _; omega, ?_⟩
      show ((rwriteQ r n all k).1.write _ _).size = r.size
      rw [← h2]
      unfold RP.write
      split
      · split <;> rfl
      · rfl
    · rw [rwriteQ_bad hb]
      exact ⟨by omega, h2⟩
theorem rwriteP_tot (r : RP) (n : Nat) (all : List Int) : (rwriteP r n all).1.tot ≤ r.tot + 2 := by
  have h := (rwriteQ_tot r n all 2).1
  unfold rwriteP
  simp only
  split
  · exact h
  · have := RP.tot_sync (rwriteQ r n all 2).1
    show ((rwriteQ r n all 2).1.sync).tot ≤ _
    omega
theorem rwriteQ_fuse {p : DP} {r : RP} (h : Mt p r) (hok : p.Ok) (n : Nat) {all : List Int} (ha : all.length = 128) (hb : Byt all) : ∀ k, k ≤ 2 → (rwriteQ r n all k).1.fuse = (writeQ p n all k).1.fuse := fun k _ => (rwriteQ_mt h n all k).1.fuse
theorem writeQ_ok {p : DP} (h : p.Ok) (hz : 4 ≤ p.size) (n : Nat) {all : List Int} (ha : all.length = 128) (hb : Byt all) : ∀ k, k ≤ 2 → (writeQ p n all k).1.Ok
  | 0, _ => h
  | k + 1, hk => by
    have h1 := writeQ_ok h hz n ha hb k (by omega)
    by_cases hbd : (writeQ p n all k).2 = 0
    · rw [writeQ_go hbd]
      show ((writeQ p n all k).1.doWrite _ _).Ok
      unfold DP.doWrite
      split
      · rename_i hw
        split
        · exact h1.fall
        · exact h1.write (of_decide_eq_true hw) (sec2_ok ha hb (by omega))
      · exact h1
    · rw [writeQ_bad hbd]
      exact h1
theorem rfv_all (r : RP) (A1 : Option Addr) (c1 : Nat) (A2 : Option Addr) (c2 : Nat) : (RfV r A1 c1 A2 c2).all (·.oneCell') = true := rf_one _ _ _ _ _ _ _ _ _
/-- A place in memory and a disk's slices. -/
structure Pl where
  b : Nat
  A1 : Option Addr
  c1 : Nat
  A2 : Option Addr
  c2 : Nat
set_option maxHeartbeats 4000000
set_option maxRecDepth 100000
theorem rsave_any {w : World} {p : DP} {r : RP} {A1 A2 : Option Addr} (c1 c2 : Nat) (hD : RfIn w r A1 A2) (hM : Mt p r) (hok : p.Ok) (hz : 4 ≤ p.size) (hL : RShaIn 1 0 w) (ht : r.tot ≤ 90000) (n : Nat) (hn : n < 18446744073709551615) (rc : Rc) (hr : rc.Ok) :
    Calls Tryd.prog 27 #[.agg (RfV r A1 c1 A2 c2), .int .u64 n, .agg rc.cells] w fun e w' => RfEnd w' (rwriteP r (n + 1) (putL (n + 1) rc)).1 (rwriteP r (n + 1) (putL (n + 1) rc)).2 e ∧ New w w' := by
  have HD := Lib.hid hD
  have HM := Lib.hid hM
  have HOK := Lib.hid (And.intro hok hz)
  have HL := Lib.hid hL
  have HT := Lib.hid ht
  have HR := Lib.hid hr
  obtain ⟨n1, hn1⟩ : ∃ n1, n1 = n + 1 := ⟨_, rfl⟩
  have HN1 := Lib.hid hn1
  have HNL : Hid (n1 < 18446744073709551616) := Lib.hid (by omega)
  have e1 : (n : Int) + 1 = (n1 : Int) := by omega
  have e2 : IntKind.u64.wrap (n1 : Int) = (n1 : Int) := by rw [IntKind.wrap_u64]; omega
  obtain ⟨s2, hs2⟩ : ∃ s2, s2 = n1 % 2 := ⟨_, rfl⟩
  have e3 : (n1 : Int).tmod 2 = (s2 : Int) := by rw [Int.tmod_eq_emod_of_nonneg (by omega)]; omega
  have e4 : IntKind.i64.wrap (s2 : Int) = (s2 : Int) := IntWalk.i64_in _ (by omega)
  obtain ⟨m2, hm2⟩ : ∃ m2, m2 = 2 * s2 := ⟨_, rfl⟩
  have e5 : 2 * (s2 : Int) = (m2 : Int) := by omega
  have e6 : IntKind.i64.wrap (m2 : Int) = (m2 : Int) := IntWalk.i64_in _ (by omega)
  have HS2 : Hid (m2 = 2 * (n1 % 2) ∧ m2 ≤ 2) := Lib.hid (by omega)
  obtain ⟨AL, hAL⟩ : ∃ AL, AL = putL n1 rc := ⟨_, rfl⟩
  have HAL := Lib.hid hAL
  have HALB : Hid (AL.length = 128 ∧ Byt AL ∧ (secA AL).size = 128) := Lib.hid (by rw [hAL]; exact ⟨putL_len hr.len, putL_byt hr.byt, by rw [secA_size, putL_len hr.len]⟩)
  rw [← hn1, ← hAL]
  obtain ⟨RV, hRV⟩ : ∃ RV, RV = RfV r A1 c1 A2 c2 := ⟨_, rfl⟩
  have HRV := Lib.hid hRV
  obtain ⟨RC, hRC⟩ : ∃ RC, RC = rc.cells := ⟨_, rfl⟩
  have HRC : Hid (RC = rc.cells ∧ RC.size = 37) := Lib.hid ⟨hRC, by rw [hRC]; exact Rc.size hr.len⟩
  rw [← hRV, ← hRC]
  clear hD hM hok hz hL ht hr hn hn1 hs2 hm2 hAL hRV hRC
  go_enter Tryd.func27, Tryd.ntmps27
  go_upto_region 1 with ((with_reducible refine atOp ⟨some 6, .alloc _, _, _, _, _⟩ ?_); refine wpList_alloc_row rfl rfl rInfo ?_; intro b6 w1 hb hB hN; have HB6 := Lib.hid hB; have HNa := Lib.hid hN; have HZ6 := Lib.hid hb; clear hb hB hN)
  have HB3 : Hid (Blk w1 w.heap.size 33 RV) := Lib.hid (HNa.out.blk ((Blk.new _ _ _).alloc _))
  have HB5 : Hid (Blk w1 (w.heap.size + 1) 45 RC) := Lib.hid (HNa.out.blk (Blk.new' _ _ _ (by simp)))
  have HNw : Hid (New w w1) := Lib.hid ((New.al (New.al (New.refl _) _) _).tr HNa.out)
  obtain ⟨b3, hb3⟩ : ∃ b3, b3 = w.heap.size := ⟨_, rfl⟩
  obtain ⟨b5, hb5⟩ : ∃ b5, b5 = w.heap.size + 1 := ⟨_, rfl⟩
  have HZ : Hid (b3 = w.heap.size ∧ b3 < b6 ∧ b3 ≠ b5) := Lib.hid (by have := HZ6.out; simp at this; omega)
  rw [← hb3] at HB3
  rw [← hb5] at HB5
  rw [← hb5, ← hb3]
  clear hb3 hb5 HNa HZ6
  go_wp2_with ((with_reducible refine atOp ⟨some 15, .load _ _, _, _, _, _⟩ ?_); refine wpList_load_any rfl _ rfl Tryd.underlying45 rfl (by rw [HRC.out.2]; rfl) rfl HB5.out ?_)
  rw [HRC.out.1]
  refine (rput_rec n1 rc w1 (HL.out.new HNw.out) HR.out HNL.out).mono ?_
  rintro e w2 ⟨rfl, hN2⟩
  rw [← HRC.out.1, ← HAL.out]
  have HNw2 : Hid (New w w2) := Lib.hid (HNw.out.tr hN2)
  have HB32 : Hid (Blk w2 b3 33 RV) := Lib.hid (hN2.blk HB3.out)
  have HB62 : Hid (Blk w2 b6 33 #[.int .i64 0, .slice none 0 0, .slice none 0 0, .int .i64 0, .bool false]) := Lib.hid (hN2.blk HB6.out)
  clear hN2 HB3 HB5 HB6 HNw
  go_upto_region 2 with ((with_reducible refine atOp ⟨some 8, .alloc _, _, _, _, _⟩ ?_); refine wpList_newrow rfl rfl rfl _ _ rfl twoInfo (by rfl) rfl rfl HALB.out.2.2 (secA_one _) ?_)
  obtain ⟨w3, hw3⟩ : ∃ w3 : World, w3 = w2.alloc (.cells (secA AL) 97) := ⟨_, rfl⟩
  obtain ⟨b8, hb8⟩ : ∃ b8, b8 = w2.heap.size := ⟨_, rfl⟩
  have hN3 : New w2 w3 := by rw [hw3]; exact New.al (New.refl _) _
  have HNw3 : Hid (New w w3) := Lib.hid (HNw2.out.tr hN3)
  have HB33 : Hid (Blk w3 b3 33 (RfV (rwriteQ r n1 AL 0).1 A1 c1 A2 c2)) := Lib.hid (by rw [← show RV = RfV (rwriteQ r n1 AL 0).1 A1 c1 A2 c2 from HRV.out]; exact hN3.blk HB32.out)
  have HB63 : Hid (Blk w3 b6 33 #[.int .i64 0, .slice none 0 0, .slice none 0 0, .int .i64 0, .bool false]) := Lib.hid (hN3.blk HB62.out)
  have HB8 : Hid (Blk w3 b8 97 (secA AL)) := Lib.hid (by rw [hw3, hb8]; exact Blk.new _ _ _)
  have HRF : Hid (RfIn w3 (rwriteQ r n1 AL 0).1 A1 A2) := Lib.hid (HD.out.new HNw3.out)
  have HZ8 : Hid (b3 < b8 ∧ b6 < b8) := Lib.hid (by have h1 := HB32.out.lt; have h2 := HB62.out.lt; omega)
  rw [← hw3, ← hb8]
  clear hw3 hb8 hN3 HNw2 HB32 HB62
  go_wp2_with fail
  go_loopw [10] (fun i wr => ∃ (j : Nat) (A1 : Option Addr) (c1 : Nat) (A2 : Option Addr) (c2 : Nat), Hid (j ≤ 2 ∧ (rwriteQ r n1 AL j).2 = 0) ∧ i = .int .i64 (j : Int) ∧ Hid (New w wr) ∧ Hid (Blk wr b3 33 (RfV (rwriteQ r n1 AL j).1 A1 c1 A2 c2)) ∧ Hid (Blk wr b6 33 #[.int .i64 0, .slice none 0 0, .slice none 0 0, .int .i64 0, .bool false]) ∧ Hid (Blk wr b8 97 (secA AL)) ∧ Hid (RfIn wr (rwriteQ r n1 AL j).1 A1 A2)) (fun i _ => 2 - (intOf i).toNat)
  case atStart => exact ⟨0, A1, c1, A2, c2, Lib.hid ⟨by omega, rfl⟩, rfl, HNw3, HB33, HB63, HB8, HRF⟩
  case round =>
    clear HNw3 HB33 HB63 HB8 HRF
    obtain ⟨j, A1, c1, A2, c2, HJ, rfl, HN, HB3, HB6, HB8, HRF⟩ := hrel
    obtain ⟨rq, hrq⟩ : ∃ rq, rq = (rwriteQ r n1 AL j).1 := ⟨_, rfl⟩
    have HRQ := Lib.hid hrq
    rw [← hrq] at HB3 HRF
    clear hrq
    by_cases hj : j < 2
    · have hlt : (j : Int) < 2 := by omega
      have HJ2 := Lib.hid hj
      obtain ⟨a, ha⟩ : ∃ a, a = m2 + j := ⟨_, rfl⟩
      have e7 : (m2 : Int) + (j : Int) = (a : Int) := by omega
      have HAS : Hid ((a : Int) = slotA n1 j ∧ a ≤ 3) := Lib.hid (by unfold slotA; have := HS2.out; omega)
      have e8 : IntKind.i64.wrap (a : Int) = (a : Int) := IntWalk.i64_in _ (by have := HAS.out.2; omega)
      have e9 : IntKind.i64.wrap ((j : Int) + 1) = (j : Int) + 1 := IntWalk.i64_in _ (by omega)
      obtain ⟨SJ, hSJ⟩ : ∃ SJ, SJ = sec2 AL j := ⟨_, rfl⟩
      have HSJE := Lib.hid hSJ
      have HSJ : Hid (SecOk SJ) := Lib.hid (by rw [hSJ]; exact sec2_ok HALB.out.1 HALB.out.2.1 hj)
      have HSJZ : Hid ((u8s SJ).length = 64) := Lib.hid (by rw [u8s_len, HSJ.out.1])
      have HRW : Hid (∀ w', New wr w' → w'.rangeAt b8 (j * 64) (u8s SJ)) := Lib.hid (fun w' hN => by
        rw [hSJ, Nat.mul_comm j 64]
        exact cut_range (hN.blk HB8.out))
      have HMQ : Hid (Mt (writeQ p n1 AL j).1 rq ∧ (writeQ p n1 AL j).1.Ok ∧ (writeQ p n1 AL j).1.size = p.size) := Lib.hid (by
        rw [HRQ.out]
        refine ⟨(rwriteQ_mt HM.out n1 AL j).1, writeQ_ok HOK.out.1 HOK.out.2 n1 HALB.out.1 HALB.out.2.1 j (by omega), ?_⟩
        have h1 := (rwriteQ_mt HM.out n1 AL j).1.size
        have h2 := (rwriteQ_tot r n1 AL j).2
        have h3 := HM.out.size
        omega)
      have HTQ : Hid (rq.tot ≤ 100000) := Lib.hid (by rw [HRQ.out]; have := (rwriteQ_tot r n1 AL j).1; have := HT.out; omega)
      have HWF : Hid ((Lit.int .i64 (a : Int)).wf = true ∧ (Lit.int .i64 rq.fuse).wf = true ∧ (-9223372036854775808 ≤ rq.size ∧ rq.size ≤ 9223372036854775807)) := Lib.hid ⟨WalkArith.wf_i64 (by have := HAS.out.2; omega), WalkArith.wf_i64 (by have h := HMQ.out.1.fuse; have h2 := HMQ.out.2.1.fz; omega), by have h := HMQ.out.1.size; have h2 := HMQ.out.2.1.s2; omega⟩
      obtain ⟨rn, hrn⟩ : ∃ rn, rn = rq.write (a : Int) SJ := ⟨_, rfl⟩
      obtain ⟨cj, hcj⟩ : ∃ cj, cj = rq.wcode (a : Int) := ⟨_, rfl⟩
      have HRN : Hid (rwriteQ r n1 AL (j + 1) = (rn, cj)) := Lib.hid (by rw [rwriteQ_go HJ.out.2, ← HRQ.out, ← HAS.out.1, ← hSJ, hrn, hcj])
      have HRNE := Lib.hid hrn
      have HCJE := Lib.hid hcj
      obtain ⟨RVJ, hRVJ⟩ : ∃ RVJ, RVJ = RfV rq A1 c1 A2 c2 := ⟨_, rfl⟩
      have HRVJ := Lib.hid hRVJ
      have HRVJZ : Hid (RVJ.size = 5) := Lib.hid (by rw [hRVJ]; rfl)
      rw [← hRVJ] at HB3
      have i1 : ¬ ((j : Int) < 0) := by omega
      clear hj ha hSJ hrn hcj hRVJ
      go_wp2_with fail
      apply wp_join (α := Pl) (fun x w4 => New wr w4 ∧ Blk w4 x.b 33 (RfV rn x.A1 x.c1 x.A2 x.c2) ∧ RfIn w4 rn x.A1 x.A2 ∧ wr.heap.size ≤ x.b)
      case h1 =>
        intro K' hK'
        refine wp_region_tree (New wr) (.take 0 (.take 1 (.take 2 (.take 3 (.take 4 (.take 5 (.take 6 (.take 7 (.two 8 (.take 9 (.take 10 (.take 11 (.act 12 (.act 13 (.take 14 .done)))))) 12 (.act 8 (.take 9 (.take 10 (.take 11 (.act 13 (.take 14 .done))))))))))))))) (by kernel_rfl) (by kernel_rfl) (New.dr (New.refl wr)) (fun hne => ?_)
        refine tree_take_row (o := ⟨_, _, _, _, _, _⟩) (cs := RVJ.toList) rfl rfl _ rfl rfl (fun w' h => (h.blk HB3.out).rangeOf) Tryd.underlying33 rfl (by rw [Array.length_toList, HRVJZ.out]; rfl) ?_
        iterate 6 (refine tree_take (o := ⟨_, _, _, _, _, _⟩) rfl (fun K hK => ?_); go_simp; refine hK _ ?_; clear hK K)
        refine tree_take_row (o := ⟨_, _, _, _, _, _⟩) (cs := u8s SJ) rfl rfl _ rfl rfl (fun w' h => HRW.out w' h) Tryd.underlying23 rfl (by rw [HSJZ.out]; rfl) ?_
        simp only [Act.put, List.setIfInBounds_toArray, List.set_cons_zero, List.set_cons_succ]
        refine ⟨?_, ?_⟩
        · refine act_ok (o := ⟨_, _, _, _, _, _⟩) rfl (fun K hK => ?_) (.inl rfl)
          go_simp
          rw [HRVJ.out]
          refine (rwrite_any rq A1 c1 A2 c2 (a : Int) SJ wr.drew (HRF.out.new (New.dr (New.refl wr))) HSJ.out HTQ.out HWF.out.1 HWF.out.2.1 HWF.out.2.2).mono ?_
          rintro e w4 ⟨⟨B1, d1, B2, d2, rfl, hR4⟩, hN4⟩
          rw [← HRVJ.out, ← HRNE.out, ← HCJE.out]
          rw [← HRNE.out] at hR4
          have HR4 := Lib.hid hR4
          have HN4 : Hid (New wr w4) := Lib.hid ((New.dr (New.refl wr)).tr hN4)
          clear hN4 hR4
          obtain ⟨RN, hRN⟩ : ∃ RN, RN = RfV rn B1 d1 B2 d2 := ⟨_, rfl⟩
          have HRNV : Hid (RN = RfV rn B1 d1 B2 d2 ∧ RN.size = 5 ∧ RN.all (·.oneCell') = true) := Lib.hid (by rw [hRN]; exact ⟨rfl, rfl, rfv_all _ _ _ _ _⟩)
          rw [← hRN]
          clear hRN
          go_simp
          refine hK.out _ _ HN4.out ?_
          clear hK K
          iterate 3 (refine tree_take (o := ⟨_, _, _, _, _, _⟩) rfl (fun K hK => ?_); go_simp; refine hK _ ?_; clear hK K)
          refine tree_act_alloc (o := ⟨_, _, _, _, _, _⟩) rfl rfl rfl rInfo ?_
          intro b11 w5 hb11 hB11 hN5
          have HL5 : Hid (wr.heap.size ≤ b11) := Lib.hid (by have := HN4.out.size; omega)
          have HN5 := Lib.hid hN5
          refine ⟨HN4.out.tr hN5, ?_⟩
          clear hb11
          simp only [Act.put, List.setIfInBounds_toArray, List.set_cons_zero, List.set_cons_succ]
          refine act_store (o := ⟨_, _, _, _, _, _⟩) (cs := RN) rfl rfl (.tmp 11) (.tmp 35) rfl (by rw [HRNV.out.2.1]; rfl) rfl rfl hB11 (by rw [HRNV.out.2.1]; rfl) HRNV.out.2.2 ?_
          intro w6 hB6' hF6
          have hN6 : New wr w6 := (HN4.out.tr HN5.out).fr hF6 (fun x hx => by have := HL5.out; omega)
          have hR6 : RfIn w6 rn B1 B2 := (HR4.out.new HN5.out).fr hF6 (fun k hk => hk ▸ IsT.not_blk hB11 (by decide))
          refine ⟨hN6, ?_⟩
          simp only [Act.put, List.setIfInBounds_toArray, List.set_cons_zero, List.set_cons_succ]
          iterate 1 (refine tree_take (o := ⟨_, _, _, _, _, _⟩) rfl (fun K hK => ?_); go_simp; refine hK _ ?_; clear hK K)
          refine tree_done ?_
          rw [HRNV.out.1] at hB6' ⊢
          have hL6 := HL5.out
          clear HL5 HRNV HR4
          obtain ⟨x, y1, y2, y3, y4, y5⟩ : ∃ x : Pl, b11 = x.b ∧ B1 = x.A1 ∧ d1 = x.c1 ∧ B2 = x.A2 ∧ d2 = x.c2 := ⟨⟨b11, B1, d1, B2, d2⟩, rfl, rfl, rfl, rfl, rfl⟩
          subst y1 y2 y3 y4 y5
          exact hK'.out x w6 ⟨hN6, hB6', hR6, hL6⟩
        · refine act_alloc (o := ⟨_, _, _, _, _, _⟩) rfl rfl rfl rInfo ?_
          intro b11 w5 hb11 hB11 hN5
          have HN5 : Hid (New wr w5) := Lib.hid ((New.dr (New.refl wr)).tr hN5)
          have HB11 := Lib.hid hB11
          have HL5 : Hid (wr.heap.size ≤ b11) := Lib.hid (by rw [hb11]; exact Nat.le_refl _)
          refine ⟨HN5.out, ?_⟩
          clear hb11 hB11 hN5
          simp only [Act.put, List.setIfInBounds_toArray, List.set_cons_zero, List.set_cons_succ]
          refine tree_act (o := ⟨_, _, _, _, _, _⟩) rfl (fun K hK => ?_) (.inl rfl)
          go_simp
          rw [HRVJ.out]
          refine (rwrite_any rq A1 c1 A2 c2 (a : Int) SJ w5 (HRF.out.new HN5.out) HSJ.out HTQ.out HWF.out.1 HWF.out.2.1 HWF.out.2.2).mono ?_
          rintro e w4 ⟨⟨B1, d1, B2, d2, rfl, hR4⟩, hN4⟩
          rw [← HRVJ.out, ← HRNE.out, ← HCJE.out]
          rw [← HRNE.out] at hR4
          have HR4 := Lib.hid hR4
          have HB114 := Lib.hid (hN4.blk HB11.out)
          have HN4 : Hid (New wr w4) := Lib.hid (HN5.out.tr hN4)
          clear hN4 hR4
          obtain ⟨RN, hRN⟩ : ∃ RN, RN = RfV rn B1 d1 B2 d2 := ⟨_, rfl⟩
          have HRNV : Hid (RN = RfV rn B1 d1 B2 d2 ∧ RN.size = 5 ∧ RN.all (·.oneCell') = true) := Lib.hid (by rw [hRN]; exact ⟨rfl, rfl, rfv_all _ _ _ _ _⟩)
          rw [← hRN]
          clear hRN
          go_simp
          refine hK.out _ _ HN4.out ?_
          clear hK K
          iterate 3 (refine tree_take (o := ⟨_, _, _, _, _, _⟩) rfl (fun K hK => ?_); go_simp; refine hK _ ?_; clear hK K)
          refine act_store (o := ⟨_, _, _, _, _, _⟩) (cs := RN) rfl rfl (.tmp 11) (.tmp 35) rfl (by rw [HRNV.out.2.1]; rfl) rfl rfl HB114.out (by rw [HRNV.out.2.1]; rfl) HRNV.out.2.2 ?_
          intro w6 hB6' hF6
          have hN6 : New wr w6 := HN4.out.fr hF6 (fun x hx => by have := HL5.out; omega)
          have hR6 : RfIn w6 rn B1 B2 := HR4.out.fr hF6 (fun k hk => hk ▸ IsT.not_blk HB114.out (by decide))
          refine ⟨hN6, ?_⟩
          simp only [Act.put, List.setIfInBounds_toArray, List.set_cons_zero, List.set_cons_succ]
          iterate 1 (refine tree_take (o := ⟨_, _, _, _, _, _⟩) rfl (fun K hK => ?_); go_simp; refine hK _ ?_; clear hK K)
          refine tree_done ?_
          rw [HRNV.out.1] at hB6' ⊢
          have hL6 := HL5.out
          clear HL5 HRNV HR4
          obtain ⟨x, y1, y2, y3, y4, y5⟩ : ∃ x : Pl, b11 = x.b ∧ B1 = x.A1 ∧ d1 = x.c1 ∧ B2 = x.A2 ∧ d2 = x.c2 := ⟨⟨b11, B1, d1, B2, d2⟩, rfl, rfl, rfl, rfl, rfl⟩
          subst y1 y2 y3 y4 y5
          exact hK'.out x w6 ⟨hN6, hB6', hR6, hL6⟩
      case h2 =>
        rintro ⟨b11, B1, d1, B2, d2⟩ w4 ⟨hN4, hB11, hR4, hL⟩
        dsimp only at hB11 hR4 hL
        have HN4 : Hid (New wr w4) := Lib.hid hN4
        have HB34 : Hid (Blk w4 b3 33 RVJ) := Lib.hid (hN4.blk HB3.out)
        have HB64 : Hid (Blk w4 b6 33 #[.int .i64 0, .slice none 0 0, .slice none 0 0, .int .i64 0, .bool false]) := Lib.hid (hN4.blk HB6.out)
        have HB84 : Hid (Blk w4 b8 97 (secA AL)) := Lib.hid (hN4.blk HB8.out)
        have HR4 := Lib.hid hR4
        have HNE : Hid (b11 ≠ b3) := Lib.hid (by have := HB3.out.lt; omega)
        obtain ⟨RN, hRN⟩ : ∃ RN, RN = RfV rn B1 d1 B2 d2 := ⟨_, rfl⟩
        have HRNV : Hid (RN = RfV rn B1 d1 B2 d2 ∧ RN.size = 5 ∧ RN.all (·.oneCell') = true) := Lib.hid (by rw [hRN]; exact ⟨rfl, rfl, rfv_all _ _ _ _ _⟩)
        rw [← hRN] at hB11
        have HB11 := Lib.hid hB11
        try rw [← hRN]
        clear hRN hN4 hB11 hR4 hL HB3 HB6 HB8 HRW
        by_cases hc : cj = 0
        · subst hc
          go_wp2_with (first
          | ((with_reducible refine atOp ⟨some 37, .load _ _, _, _, _, _⟩ ?_); refine wpList_load_any rfl _ rfl Tryd.underlying33 rfl (by rw [HRNV.out.2.1]; rfl) rfl HB11.out ?_)
          | ((with_reducible refine atOp ⟨none, .store 33 (.tmp 3) _, _, _, _, _⟩ ?_); refine wpList_store_any rfl (.tmp 3) (.tmp 37) rfl (by rw [HRNV.out.2.1]; rfl) rfl rfl HB34.out (by rw [HRVJZ.out, HRNV.out.2.1]) HRNV.out.2.2 ?_; intro w5 hb hf; have HB35 := Lib.hid hb; have HF5 := Lib.hid hf; clear hb hf))
          go_roundw
          case rel => exact ⟨j + 1, B1, d1, B2, d2, Lib.hid ⟨by have := HJ2.out; omega, by rw [HRN.out]⟩, by go_num, Lib.hid ((HN.out.tr HN4.out).fr HF5.out (fun k hk => by have := HZ.out; omega)), Lib.hid (by rw [HRN.out, ← HRNV.out.1]; exact HB35.out), Lib.hid (HB64.out.fr HF5.out (by have := HZ.out; omega)), Lib.hid (HB84.out.fr HF5.out (by have := HZ8.out; omega)), Lib.hid (by rw [HRN.out]; exact HR4.out.fr HF5.out (fun k hk => hk ▸ IsT.not_blk HB34.out (by decide)))⟩
          case measure => simp [intOf]; have := HJ2.out; omega
        · have hne : ¬ cj = 0 := hc
          have HW : Hid (rwriteP r n1 AL = (rn, cj)) := Lib.hid (by
            have h2 : rwriteQ r n1 AL 2 = (rn, cj) := by
              rcases (show j = 0 ∨ j = 1 by have := HJ2.out; omega) with rfl | rfl
              · rw [rwriteQ_bad (by rw [HRN.out]; exact hc), HRN.out]
              · exact HRN.out
            unfold rwriteP
            rw [h2]
            exact if_pos hc)
          clear hc
          go_wp2_with (first
          | ((with_reducible refine atOp ⟨some 37, .load _ _, _, _, _, _⟩ ?_); refine wpList_load_any rfl _ rfl Tryd.underlying33 rfl (by rw [HRNV.out.2.1]; rfl) rfl HB11.out ?_)
          | ((with_reducible refine atOp ⟨none, .store 33 (.tmp 3) _, _, _, _, _⟩ ?_); refine wpList_store_any rfl (.tmp 3) (.tmp 37) rfl (by rw [HRNV.out.2.1]; rfl) rfl rfl HB34.out (by rw [HRVJZ.out, HRNV.out.2.1]) HRNV.out.2.2 ?_; intro w5 hb hf; have HB35 := Lib.hid hb; have HF5 := Lib.hid hf; clear hb hf)
          | ((with_reducible refine atOp ⟨some 40, .load _ _, _, _, _, _⟩ ?_); refine wpList_load_any rfl _ rfl Tryd.underlying33 rfl (by rw [HRNV.out.2.1]; rfl) rfl HB35.out ?_)
          | ((with_reducible refine atOp ⟨none, .store 33 (.tmp 6) _, _, _, _, _⟩ ?_); refine wpList_store_any rfl (.tmp 6) (.tmp 40) rfl (by rw [HRNV.out.2.1]; rfl) rfl rfl (HB64.out.fr HF5.out (by have := HZ.out; omega)) (by rw [HRNV.out.2.1]; rfl) HRNV.out.2.2 ?_; intro w6 hb hf; have HB66 := Lib.hid hb; have HF6 := Lib.hid hf; clear hb hf))
          exact bodyPost_ret (results_row2h rfl _ _ b6 _ _ rfl HB66.out Tryd.underlying33 rfl (by rw [HRNV.out.2.1]; rfl)) rfl ⟨by
            rw [HW.out]
            exact ⟨B1, d1, B2, d2, by rw [HRNV.out.1]; rfl, (HR4.out.fr HF5.out (fun k hk => hk ▸ IsT.not_blk HB34.out (by decide))).fr HF6.out (fun k hk => hk ▸ IsT.not_blk (HB64.out.fr HF5.out (by have := HZ.out; omega)) (by decide))⟩, ((HN.out.tr HN4.out).fr HF5.out (fun k hk => by have := HZ.out; omega)).fr HF6.out (fun k hk => by have := HZ.out; omega)⟩
    · have hge : ¬ ((j : Int) < 2) := by omega
      obtain rfl : j = 2 := by have := HJ.out.1; omega
      have HW : Hid (rwriteP r n1 AL = (rq.sync, rq.scode)) := Lib.hid (by
        unfold rwriteP
        simp only
        rw [if_neg (by rw [HJ.out.2]; simp), ← HRQ.out])
      have HTQ : Hid (rq.tot ≤ 100000) := Lib.hid (by rw [HRQ.out]; have := (rwriteQ_tot r n1 AL 2).1; have := HT.out; omega)
      obtain ⟨RVJ, hRVJ⟩ : ∃ RVJ, RVJ = RfV rq A1 c1 A2 c2 := ⟨_, rfl⟩
      have HRVJ := Lib.hid hRVJ
      have HRVJZ : Hid (RVJ.size = 5) := Lib.hid (by rw [hRVJ]; rfl)
      rw [← hRVJ] at HB3
      clear hj hRVJ
      go_wp2_with ((with_reducible refine atOp ⟨some 42, .load _ _, _, _, _, _⟩ ?_); refine wpList_load_any rfl _ rfl Tryd.underlying33 rfl (by rw [HRVJZ.out]; rfl) rfl HB3.out ?_)
      rw [HRVJ.out]
      refine (rsync_any rq A1 c1 A2 c2 wr HRF.out HTQ.out).mono ?_
      rintro e w4 ⟨⟨B1, d1, B2, d2, rfl, hR4⟩, hN4⟩
      rw [← HRVJ.out]
      have HR4 := Lib.hid hR4
      have HN4 := Lib.hid hN4
      have HB64 : Hid (Blk w4 b6 33 #[.int .i64 0, .slice none 0 0, .slice none 0 0, .int .i64 0, .bool false]) := Lib.hid (hN4.blk HB6.out)
      obtain ⟨rn, hrn⟩ : ∃ rn, rn = rq.sync := ⟨_, rfl⟩
      have HRNE := Lib.hid hrn
      rw [← hrn] at HR4 HW ⊢
      obtain ⟨RN, hRN⟩ : ∃ RN, RN = RfV rn B1 d1 B2 d2 := ⟨_, rfl⟩
      have HRNV : Hid (RN = RfV rn B1 d1 B2 d2 ∧ RN.size = 5 ∧ RN.all (·.oneCell') = true) := Lib.hid (by rw [hRN]; exact ⟨rfl, rfl, rfv_all _ _ _ _ _⟩)
      rw [← hRN]
      obtain ⟨cs, hcs⟩ : ∃ cs, cs = rq.scode := ⟨_, rfl⟩
      rw [← hcs] at HW ⊢
      clear hR4 hN4 hrn hRN hcs
      go_wp2_with ((with_reducible refine atOp ⟨none, .store 33 (.tmp 6) _, _, _, _, _⟩ ?_); refine wpList_store_any rfl (.tmp 6) (.tmp 44) rfl (by rw [HRNV.out.2.1]; rfl) rfl rfl HB64.out (by rw [HRNV.out.2.1]; rfl) HRNV.out.2.2 ?_; intro w6 hb hf; have HB66 := Lib.hid hb; have HF6 := Lib.hid hf; clear hb hf)
      exact bodyPost_ret (results_row2h rfl _ _ b6 _ _ rfl HB66.out Tryd.underlying33 rfl (by rw [HRNV.out.2.1]; rfl)) rfl ⟨by
        rw [HW.out]
        exact ⟨B1, d1, B2, d2, by rw [HRNV.out.1]; rfl, HR4.out.fr HF6.out (fun k hk => hk ▸ IsT.not_blk HB64.out (by decide))⟩, (HN.out.tr HN4.out).fr HF6.out (fun k hk => by have := HZ.out; omega)⟩
end Go.Proofs.YtdojmjglnlkmoaaDoor
/- How high a record's number can stand on a disk, in plain words. No condition. -/
namespace Go.Proofs.YtdojmjglnlkmoaaDoor
set_option linter.unusedVariables false
set_option linter.unusedSimpArgs false
set_option linter.constructorNameAsVariable false
open Go.RowKit Go.Sort

/-- No sector begins with a higher number. -/
def LowN (p : DP) (c : Nat) : Prop := ∀ a S, (p.sure a = some S ∨ p.fresh a = some S) → valL (S.take 8) ≤ c
theorem LowN.new (n c : Nat) : LowN (DP.new n) c := fun a S h => by simp [DP.new] at h
theorem LowN.mono {p : DP} {c d : Nat} (h : LowN p c) (hd : c ≤ d) : LowN p d := fun a S hS => Nat.le_trans (h a S hS) hd
theorem LowN.same {p q : DP} {c : Nat} (h : LowN p c) (h1 : q.sure = p.sure) (h2 : q.fresh = p.fresh) : LowN q c := fun a S hS => h a S (by rw [← h1, ← h2]; exact hS)
theorem LowN.write {p : DP} {c : Nat} (h : LowN p c) (a : Int) {S : List Int} (hS : valL (S.take 8) ≤ c) : LowN (p.doWrite a S) c := by
  unfold DP.doWrite
  split
  · split
    · exact h.same rfl rfl
    · intro x T hT
      have hw : (p.write a S).sure = p.sure := rfl
      have hf : (p.write a S).fresh = upd p.fresh a (some S) := rfl
      rw [hw, hf] at hT
      rcases hT with hT | hT
      · exact h x T (.inl hT)
      · unfold upd at hT
        split at hT
        · injection hT with hT
          rw [← hT]; exact hS
        · exact h x T (.inr hT)
  · exact h
theorem LowN.sync {p : DP} {c : Nat} (h : LowN p c) : LowN p.doSync c := by
  unfold DP.doSync
  split
  · exact h
  · intro x T hT
    rcases hT with hT | hT
    · have e : p.sync.sure x = (match p.fresh x with | some s => some s | none => p.sure x) := rfl
      rw [e] at hT
      cases hx : p.fresh x with
      | none => rw [hx] at hT; exact h x T (.inl hT)
      | some s => rw [hx] at hT; injection hT with hT; exact h x T (.inr (by rw [hx, hT]))
    · cases hT
theorem LowN.cut {p : DP} {c : Nat} (h : LowN p c) (hok : p.Ok) (keep : List Bool) : LowN (p.cut keep) c := by
  intro x T hT
  rcases hT with hT | hT
  · have e : (p.cut keep).sure x = cutS p keep p.order.length x := rfl
    rw [e] at hT
    rcases cutS_either hok keep x p.order.length (Nat.le_refl _) with h1 | ⟨s, h1, h2⟩
    · rw [h1] at hT; exact h x T (.inl hT)
    · rw [h2] at hT; injection hT with hT; exact h x T (.inr (by rw [h1, hT]))
  · cases hT
theorem LowN.get {p : DP} {c : Nat} (h : LowN p c) (a : Int) : valL ((p.rget a).take 8) ≤ c := by
  have h0 : valL (sec0.take 8) = 0 := by decide
  unfold DP.rget
  split
  · unfold DP.get
    cases hx : p.fresh a with
    | some s => exact h a s (.inr hx)
    | none =>
      cases hy : p.sure a with
      | some s => exact h a s (.inl hy)
      | none => show valL (sec0.take 8) ≤ c; rw [h0]; exact Nat.zero_le _
  · rw [h0]; exact Nat.zero_le _
theorem LowN.num {p : DP} {c : Nat} (h : LowN p c) (hok : p.Ok) (s : Nat) : getN s (slotB p s) ≤ c := by
  unfold getN
  split
  · have e : numOf (slotB p s) = valL ((p.rget ((2 * s : Nat) : Int)).take 8) := by
      unfold numOf cutL slotB
      rw [List.drop_zero, List.take_append_of_le_length (by rw [(hok.rget _).1]; omega)]
    rw [e]
    exact h.get _
  · exact Nat.zero_le _
theorem LowN.opens {p : DP} {c : Nat} (h : LowN p c) (hok : p.Ok) : (openP p).number ≤ c := by
  have h0 := h.num hok 0
  have h1 := h.num hok 1
  unfold openP
  have t1 := (takeK_num KR.new (getN 0 (slotB p 0)) (getR 0 (slotB p 0))).1
  have t2 := (takeK_num (takeK KR.new (getN 0 (slotB p 0)) (getR 0 (slotB p 0))) (getN 1 (slotB p 1)) (getR 1 (slotB p 1))).1
  have z : KR.new.number = 0 := rfl
  omega
theorem sec2_num {n : Nat} {r : Rc} (h : r.root.length = 32) (hn : n < 18446744073709551616) {i : Nat} (hi : i < 2) : valL ((sec2 (putL n r) i).take 8) = n := by
  rcases (show i = 0 ∨ i = 1 by omega) with rfl | rfl
  · have e : (sec2 (putL n r) 0).take 8 = cutL (putL n r) 0 8 := by
      unfold sec2 cutL
      rw [List.take_take]
      rfl
    rw [e]
    exact numOf_put hn
  · have e : (sec2 (putL n r) 1).take 8 = cutL (putL n r) 64 8 := by
      unfold sec2 cutL
      rw [List.take_take]
      rfl
    rw [e, cutL_put64 h, valL_beL 8 n (by omega)]
theorem LowN.writeQ {p : DP} {c n : Nat} {r : Rc} (h : LowN p c) (hl : r.root.length = 32) (hn : n ≤ c) (hn2 : n < 18446744073709551616) : ∀ k, k ≤ 2 → LowN (writeQ p n (putL n r) k).1 c
  | 0, _ => h
  | k + 1, hk => by
    have h1 := LowN.writeQ h hl hn hn2 k (by omega)
    by_cases hb : (Go.Proofs.YtdojmjglnlkmoaaDoor.writeQ p n (putL n r) k).2 = 0
    · rw [writeQ_go hb]
      exact h1.write _ (by rw [sec2_num hl hn2 (by omega)]; exact hn)
    · rw [writeQ_bad hb]
      exact h1
theorem LowN.save {p : DP} {k : KR} {c : Nat} {r : Rc} (h : LowN p c) (hl : r.root.length = 32) (hk : k.number + 1 ≤ c) (hc : c < 18446744073709551616) : LowN (saveP p k r).1 c := by
  have hw : LowN (writeP p (k.number + 1) (putL (k.number + 1) r)).1 c := by
    unfold writeP
    simp only
    have h2 := LowN.writeQ h hl hk (by omega) 2 (Nat.le_refl _)
    split
    · exact h2
    · exact h2.sync
  unfold saveP
  split
  · exact h
  split
  · exact h
  split
  · exact h
  simp only
  split
  · exact hw
  · exact hw
theorem save_num (p : DP) (k : KR) (r : Rc) : (saveP p k r).2.1.number ≤ k.number + 1 := by
  unfold saveP
  split
  · exact Nat.le_succ _
  split
  · exact Nat.le_succ _
  split
  · exact Nat.le_succ _
  simp only
  split
  · exact Nat.le_succ _
  · exact Nat.le_refl _
end Go.Proofs.YtdojmjglnlkmoaaDoor
