/- The reference's disk: written. No condition but that it can be read. -/
import Derived.Test.YtpdgnidoglmgcaaDrA
import Derived.Test.YtpdgnidoglmgcaaLast
namespace Go.Proofs.Ytpdgnidoglmgcaa
open Go.RowKit Go.Maps

theorem rf_one (a : Int) (A : Option Addr) (n c : Nat) (B : Option Addr) (m d : Nat) (e : Int) (f : Bool) : (#[Value.int .i64 a, .slice A n c, .slice B m d, .int .i64 e, .bool f]).all (·.oneCell') = true := by simp [Value.oneCell']
set_option maxHeartbeats 4000000 in
set_option maxRecDepth 100000 in
theorem rwrite_in (r : RP) (A1 : Option Addr) (c1 : Nat) (A2 : Option Addr) (c2 : Nat) (x : Int) (s : List Int) (w : World) (h : RfIn w r A1 A2) (hs : SecOk s) (hn : r.tot ≤ 100000) (hx : (Lit.int .i64 x).wf = true) (hf : (Lit.int .i64 r.fuse).wf = true) (hw : 0 ≤ x ∧ x < r.size) (hd : ¬ (r.fuse = 0 ∨ r.down = true)) :
    Calls Try.prog 27 #[.agg (RfV r A1 c1 A2 c2), .int .i64 x, .agg (secA s)] w fun e w' => RfEnd w' (r.write x s) 0 e ∧ New w w' := by
  have H := Lib.hid h
  have HS := Lib.hid hs
  have HT2 : Hid (r.fresh.length ≤ 100000) := Lib.hid (by unfold RP.tot at hn; omega)
  have hfb := bounds_i64 hf
  have t0 : decide (x < 0) = false := decide_eq_false (by omega)
  have t1 : decide (r.size ≤ x) = false := decide_eq_false (by omega)
  have hz' : (r.fuse == 0) = false := by simp; exact fun e => hd (.inl e)
  have hdn : r.down = false := by
    cases hq : r.down with
    | true => exact absurd (.inr hq) hd
    | false => rfl
  have HW : Hid (r.write x s = { r.burn with fresh := r.fresh ++ [⟨x, s⟩] }) := Lib.hid (by unfold RP.write RP.within; rw [decide_eq_true hw, if_pos rfl, if_neg hd])
  unfold RfV
  rw [hdn]
  have HDN := Lib.hid hdn
  clear h hs hn hx hf hw hd hdn
  go_enter Try.func27, Try.ntmps27
  go_upto_region 6 with fail
  obtain ⟨w3, hw3⟩ : ∃ w3 : World, w3 = ((w.alloc (.cells #[.int .i64 r.size, .slice A1 r.sure.length c1, .slice A2 r.fresh.length c2, .int .i64 r.fuse, .bool false] 48)).alloc (.cells (secA s) 31)).alloc (.cells #[.int .i64 0, .slice none 0 0, .slice none 0 0, .int .i64 0, .bool false] 48) := ⟨_, rfl⟩
  obtain ⟨G, hG⟩ : ∃ G, G = w.heap.size := ⟨_, rfl⟩
  rw [← hG]
  have HN3 : Hid (New w w3) := Lib.hid (by rw [hw3]; exact (((New.refl w).al _).al _).al _)
  have hB3 : Blk w3 G 48 #[.int .i64 r.size, .slice A1 r.sure.length c1, .slice A2 r.fresh.length c2, .int .i64 r.fuse, .bool false] := by rw [hw3, hG]; exact ((Blk.new _ _ _).alloc _).alloc _
  have HB3 := Lib.hid hB3
  have hS3 : Blk w3 (G + 1) 31 (secA s) := by rw [hw3, hG]; exact (Blk.new' _ _ _ (by simp)).alloc _
  have hR3 : Blk w3 (G + 1 + 1) 48 #[.int .i64 0, .slice none 0 0, .slice none 0 0, .int .i64 0, .bool false] := by rw [hw3, hG]; exact Blk.new' _ _ _ (by simp)
  have HR3 := Lib.hid hR3
  rw [← hw3]
  have HGW : Hid (G = w.heap.size) := Lib.hid hG
  clear hw3 hG
  have i3 := hB3.cell 3
  have q3 := hB3.frozen 3
  obtain ⟨w4, hw4⟩ : ∃ w4, w4 = (if 0 < r.fuse then w3.setCell ⟨G, 3, none⟩ (.int .i64 (r.fuse - 1)) else w3) := ⟨_, rfl⟩
  have HF34 : Hid (Fr (fun k => k = G) w3 w4) := Lib.hid (by
    rw [hw4]; split
    · exact (Fr.refl _ w3).setCell (S := fun k => k = G) (p := ⟨G, 3, none⟩) (fun _ => rfl) _
    · exact Fr.refl _ _)
  have HB4 : Hid (Blk w4 G 48 #[.int .i64 r.size, .slice A1 r.sure.length c1, .slice A2 r.fresh.length c2, .int .i64 r.burn.fuse, .bool false]) := Lib.hid (by
    rw [hw4]
    unfold RP.burn
    split
    · exact hB3.set 3 _
    · exact hB3)
  have HS4 := Lib.hid (hS3.fr HF34.out (by omega))
  have HR4 := Lib.hid (hR3.fr HF34.out (by omega))
  have HW4 := Lib.hid hw4
  clear hS3 hR3 hB3 hw4
  go_upto_region 8 with fail
  all_goals
    first
      | rw [show w3.setCell ⟨G, 3, none⟩ (.int .i64 (r.fuse - 1)) = w4 from by rw [HW4.out, if_pos (by assumption)]]
      | rw [show w3 = w4 from by rw [HW4.out, if_neg (by omega)]]
    clear i3 q3 hfb hz' t0 t1
    have d2 : w4.cell? ⟨G, 2, none⟩ = some (.slice A2 r.fresh.length c2) := HB4.out.cell 2
    have d2a := fun o : Obj => (New.al (New.refl w4) o).cell_ d2
    have d2b := fun o o' : Obj => (New.al (New.al (New.refl w4) o) o').cell_ d2
    have hSN : ∀ w', New w4 w' → w'.rangeAt (G + 1) 0 (u8s s) ∧ w'.cell? ⟨G, 2, none⟩ = some (.slice A2 r.fresh.length c2) := fun w' hN => ⟨(New.blk hN HS4.out).range, hN.cell_ d2⟩
    have HR4' : Hid (RdT 75 w4 65 A2 r.fresh.length (flatP r.fresh)) := Lib.hid (((H.out.new HN3.out).fresh).fr HF34.out (fun k hk => by subst hk; exact IsT.not_blk HB3.out (by decide)))
    have hu := Try.underlying31
    have hi : (Try.prog.info? 31).map (·.size) = some (u8s s).length := by rw [u8s_len, HS.out.1]; rfl
    have hn := HT2.out
    have z1 := putZ_zero
    have z2 := putZ_size
    have z3 := putZ_ne
    have z4 := put_fold (x := x) HS.out
    have z5 := putA_size (x := x) HS.out
    have z6 := put_fold2 (x := x) HS.out #[putZ[0]'(by rw [putZ_size]; omega), putZ[1]'(by rw [putZ_size]; omega), putZ[2]'(by rw [putZ_size]; omega), putZ[3]'(by rw [putZ_size]; omega), putZ[4]'(by rw [putZ_size]; omega), putZ[5]'(by rw [putZ_size]; omega), putZ[6]'(by rw [putZ_size]; omega), putZ[7]'(by rw [putZ_size]; omega), putZ[8]'(by rw [putZ_size]; omega), putZ[9]'(by rw [putZ_size]; omega), putZ[10]'(by rw [putZ_size]; omega), putZ[11]'(by rw [putZ_size]; omega), putZ[12]'(by rw [putZ_size]; omega), putZ[13]'(by rw [putZ_size]; omega), putZ[14]'(by rw [putZ_size]; omega), putZ[15]'(by rw [putZ_size]; omega), putZ[16]'(by rw [putZ_size]; omega), putZ[17]'(by rw [putZ_size]; omega), putZ[18]'(by rw [putZ_size]; omega), putZ[19]'(by rw [putZ_size]; omega), putZ[20]'(by rw [putZ_size]; omega), putZ[21]'(by rw [putZ_size]; omega), putZ[22]'(by rw [putZ_size]; omega), putZ[23]'(by rw [putZ_size]; omega), putZ[24]'(by rw [putZ_size]; omega), putZ[25]'(by rw [putZ_size]; omega), putZ[26]'(by rw [putZ_size]; omega), putZ[27]'(by rw [putZ_size]; omega), putZ[28]'(by rw [putZ_size]; omega), putZ[29]'(by rw [putZ_size]; omega), putZ[30]'(by rw [putZ_size]; omega), putZ[31]'(by rw [putZ_size]; omega), putZ[32]'(by rw [putZ_size]; omega), putZ[33]'(by rw [putZ_size]; omega), putZ[34]'(by rw [putZ_size]; omega), putZ[35]'(by rw [putZ_size]; omega), putZ[36]'(by rw [putZ_size]; omega), putZ[37]'(by rw [putZ_size]; omega), putZ[38]'(by rw [putZ_size]; omega), putZ[39]'(by rw [putZ_size]; omega), putZ[40]'(by rw [putZ_size]; omega), putZ[41]'(by rw [putZ_size]; omega), putZ[42]'(by rw [putZ_size]; omega), putZ[43]'(by rw [putZ_size]; omega), putZ[44]'(by rw [putZ_size]; omega), putZ[45]'(by rw [putZ_size]; omega), putZ[46]'(by rw [putZ_size]; omega), putZ[47]'(by rw [putZ_size]; omega), putZ[48]'(by rw [putZ_size]; omega), putZ[49]'(by rw [putZ_size]; omega), putZ[50]'(by rw [putZ_size]; omega), putZ[51]'(by rw [putZ_size]; omega), putZ[52]'(by rw [putZ_size]; omega), putZ[53]'(by rw [putZ_size]; omega), putZ[54]'(by rw [putZ_size]; omega), putZ[55]'(by rw [putZ_size]; omega), putZ[56]'(by rw [putZ_size]; omega), putZ[57]'(by rw [putZ_size]; omega), putZ[58]'(by rw [putZ_size]; omega), putZ[59]'(by rw [putZ_size]; omega), putZ[60]'(by rw [putZ_size]; omega), putZ[61]'(by rw [putZ_size]; omega), putZ[62]'(by rw [putZ_size]; omega), putZ[63]'(by rw [putZ_size]; omega), putZ[64]'(by rw [putZ_size]; omega)] rfl
    have zl : (u8s s).length = 64 := by rw [u8s_len, HS.out.1]
    have hP1 := fun u hu => flatP_cell r.fresh u hu
    have HP1 := Lib.hid hP1
    clear hP1
    refine wp_region_T (fun w' => w'.rangeAt (G + 1) 0 (u8s s) ∧ w'.cell? ⟨G, 2, none⟩ = some (.slice A2 r.fresh.length c2)) 10 (by kernel_rfl) ?_
    refine wpAnyT_take (i := 1) (v := .pointer (some ⟨G, 2, none⟩)) rfl (by kernel_rfl) (by kernel_rfl) (by kernel_rfl) (by kernel_rfl) (fun _ _ _ h => h) (Or.inl ⟨by rfl, fun w hSw => by have h1 := hSw.1; have h2 := hSw.2; clear hSw; go_simp⟩) (hSN _ (by repeat (first | with_reducible exact New.refl _ | with_reducible assumption | with_reducible refine New.dr ?_ | with_reducible refine New.al ?_ _) : New w4 _)) ?_
    try simp only [Act.put, List.setIfInBounds_toArray, List.set_cons_zero, List.set_cons_succ]
    refine wpAnyT_take (i := 2) (v := .slice A2 r.fresh.length c2) rfl (by kernel_rfl) (by kernel_rfl) (by kernel_rfl) (by kernel_rfl) (fun _ _ _ h => h) (Or.inl ⟨by rfl, fun w hSw => by have h1 := hSw.1; have h2 := hSw.2; clear hSw; go_simp⟩) (hSN _ (by repeat (first | with_reducible exact New.refl _ | with_reducible assumption | with_reducible refine New.dr ?_ | with_reducible refine New.al ?_ _) : New w4 _)) ?_
    try simp only [Act.put, List.setIfInBounds_toArray, List.set_cons_zero, List.set_cons_succ]
    refine wpAnyT_take (i := 4) (v := .int .i64 x) rfl (by kernel_rfl) (by kernel_rfl) (by kernel_rfl) (by kernel_rfl) (fun _ _ _ h => h) (Or.inl ⟨by rfl, fun w hSw => by have h1 := hSw.1; have h2 := hSw.2; clear hSw; go_simp⟩) (hSN _ (by repeat (first | with_reducible exact New.refl _ | with_reducible assumption | with_reducible refine New.dr ?_ | with_reducible refine New.al ?_ _) : New w4 _)) ?_
    try simp only [Act.put, List.setIfInBounds_toArray, List.set_cons_zero, List.set_cons_succ]
    refine wpAnyT_take (i := 5) (v := .agg (u8s s).toArray) rfl (by kernel_rfl) (by kernel_rfl) (by kernel_rfl) (by kernel_rfl) (fun _ _ _ h => h) (yieldsIf_load_mid (by rfl) _ _ rfl _ _ rfl _ _ (fun w hSw => hSw.1) hu rfl hi) (hSN _ (by repeat (first | with_reducible exact New.refl _ | with_reducible assumption | with_reducible refine New.dr ?_ | with_reducible refine New.al ?_ _) : New w4 _)) ?_
    try simp only [Act.put, List.setIfInBounds_toArray, List.set_cons_zero, List.set_cons_succ]
    refine wpAnyT_take (i := 6) (v := .agg (putA x s)) rfl (by kernel_rfl) (by kernel_rfl) (by kernel_rfl) (by kernel_rfl) (fun _ _ _ h => h) (Or.inl ⟨by rfl, fun w hSw => by have h1 := hSw.1; have h2 := hSw.2; clear hSw; go_simp⟩) (hSN _ (by repeat (first | with_reducible exact New.refl _ | with_reducible assumption | with_reducible refine New.dr ?_ | with_reducible refine New.al ?_ _) : New w4 _)) ?_
    try simp only [Act.put, List.setIfInBounds_toArray, List.set_cons_zero, List.set_cons_succ]
    refine wpAnyT_ready (rs := [0, 7]) (by kernel_rfl) (by simp) (AllT.cons (i := 0) rfl (fun K hK => ?_) (AllT.cons (i := 7) rfl (fun K hK => ?_) AllT.nil))
    · skip
      go_simp
      try simp only [Act.put, List.setIfInBounds_toArray, List.set_cons_zero, List.set_cons_succ]
      refine hK.out _ _ (fun _ => hSN _ (by repeat (first | with_reducible exact New.refl _ | with_reducible assumption | with_reducible refine New.dr ?_ | with_reducible refine New.al ?_ _) : New w4 _)) ?_
      refine wpAnyT_ready (rs := [3, 7]) (by kernel_rfl) (by simp) (AllT.cons (i := 3) rfl (fun K hK => ?_) (AllT.cons (i := 7) rfl (fun K hK => ?_) AllT.nil))
      · skip
        refine step_app elP _ (by rfl) (.tmp 33) (.tmp 35) (by rfl) w4.heap.size (.slice (some ⟨_, 0, none⟩) 0 0) 0 [] (by rfl) (own_lit (by repeat (first | with_reducible exact Blk.new' _ _ _ (by first | rfl | (simp; done)) | with_reducible refine Blk.drew ?_ | with_reducible refine Blk.alloc ?_ _ | with_reducible refine Blk.fr ?_ hF1 (by simp [Value.ownBlock]))) (by first | (simp; done) | (simp; omega))) A2 r.fresh.length c2 (flatP r.fresh) (by rfl) ((by repeat (first | with_reducible exact New.refl _ | with_reducible assumption | with_reducible refine New.dr ?_ | with_reducible refine New.al ?_ _) : New w4 _).rd HR4'.out) HP1.out (by unfold maxLen; omega) (by omega) (by first | (simp; done) | (simp; omega)) ?_
        intro A1' d1 w5 hO1 hF1 hA1
        have hN1 : New w4 w5 := (by repeat (first | with_reducible exact New.refl _ | with_reducible assumption | with_reducible refine New.dr ?_ | with_reducible refine New.al ?_ _) : New w4 _).fr hF1 (by intro k hk; simp [Value.ownBlock] at hk; omega)
        rw [Nat.zero_add, List.nil_append] at hO1
        rw [Nat.zero_add] at hA1
        rw [Nat.zero_add]
        try simp only [Act.put, List.setIfInBounds_toArray, List.set_cons_zero, List.set_cons_succ]
        refine hK.out _ _ (fun _ => hSN _ (by repeat (first | with_reducible exact New.refl _ | with_reducible assumption | with_reducible refine New.dr ?_ | with_reducible refine New.al ?_ _) : New w4 _)) ?_
        refine wpAnyT_ready (rs := [7]) (by kernel_rfl) (by simp) (AllT.cons (i := 7) rfl (fun K hK => ?_) AllT.nil)
        go_simp
        try simp only [Act.put, List.setIfInBounds_toArray, List.set_cons_zero, List.set_cons_succ]
        refine hK.out _ _ (fun _ => hSN _ (by repeat (first | with_reducible exact New.refl _ | with_reducible assumption | with_reducible refine New.dr ?_ | with_reducible refine New.al ?_ _) : New w4 _)) ?_
        refine wpAnyT_ready (rs := [8]) (by kernel_rfl) (by simp) (AllT.cons (i := 8) rfl (fun K hK => ?_) AllT.nil)
        refine step_app elP _ (by rfl) (.tmp 36) (.tmp 40) (by rfl) w4.heap.size (.slice A1' r.fresh.length d1) r.fresh.length (flatP r.fresh) (by rfl) (own_fr (S := NoB) hO1 (by repeat (first | with_reducible exact Fr.refl _ _ | with_reducible refine Fr.drew ?_ | with_reducible refine Fr.alloc ?_ _)) (fun _ _ h => h)) (some ⟨_, 0, none⟩) 1 1 (putA x s).toList (by rfl) (Rd.ofBlk (p := fun _ => True) (t := 75) (cs := putA x s) (by repeat (first | with_reducible exact Blk.new' _ _ _ (by first | rfl | (simp; done)) | with_reducible refine Blk.drew ?_ | with_reducible refine Blk.alloc ?_ _ | with_reducible refine Blk.fr ?_ hF1 (by simp [Value.ownBlock]))) 65 1 (by rw [z5]) trivial) (by intro u hu; exact PU.one ⟨x, s⟩ u (by simpa [putA] using hu)) (by unfold maxLen; omega) (by omega) ((by repeat (first | with_reducible exact New.refl _ | with_reducible assumption | with_reducible refine New.dr ?_ | with_reducible refine New.al ?_ _) : New w4 _).size) ?_
        intro A2' d2' w6 hO2 hF2 hA2
        have hN2 : New w4 w6 := (by repeat (first | with_reducible exact New.refl _ | with_reducible assumption | with_reducible refine New.dr ?_ | with_reducible refine New.al ?_ _) : New w4 _).fr hF2 (by intro k hk; exact (own_lt hO1 k hk).1)
        have HO2 := Lib.hid hO2
        have hK6 := hN2.blk HB4.out
        have h60 := hK6.cell 2
        have h6f := hK6.frozen 2
        clear hO2 hA2 hF2 hA1 hO1 hF1
        try simp only [Act.put, List.setIfInBounds_toArray, List.set_cons_zero, List.set_cons_succ]
        refine hK.out _ _ (fun _ => hSN _ (by repeat (first | with_reducible exact New.refl _ | with_reducible assumption | with_reducible refine New.dr ?_ | with_reducible refine New.al ?_ _) : New w4 _)) ?_
        refine wpAnyT_take (i := 9) (v := .pointer (some ⟨G, 2, none⟩)) rfl (by kernel_rfl) (by kernel_rfl) (by kernel_rfl) (by kernel_rfl) (fun _ _ _ h => h) (Or.inl ⟨by rfl, fun w hSw => by have h1 := hSw.1; have h2 := hSw.2; clear hSw; go_simp⟩) (hSN _ (by repeat (first | with_reducible exact New.refl _ | with_reducible assumption | with_reducible refine New.dr ?_ | with_reducible refine New.al ?_ _) : New w4 _)) ?_
        try simp only [Act.put, List.setIfInBounds_toArray, List.set_cons_zero, List.set_cons_succ]
        refine wpAnyT_ready (rs := [10]) (by kernel_rfl) (by simp) (AllT.cons (i := 10) rfl (fun K hK => ?_) AllT.nil)
        go_simp
        try simp only [Act.put, List.setIfInBounds_toArray, List.set_cons_zero, List.set_cons_succ]
        refine hK.out _ _ (fun h => absurd rfl h) ?_
        refine wpAnyT_done (by kernel_rfl) ?_ _
        obtain ⟨w7, hw7⟩ : ∃ w7 : World, w7 = w6.setCell ⟨G, 2, none⟩ (.slice A2' (r.fresh.length + 1) d2') := ⟨_, rfl⟩
        have HB7 : Hid (Blk w7 G 48 #[.int .i64 r.size, .slice A1 r.sure.length c1, .slice A2' (r.fresh.length + 1) d2', .int .i64 r.burn.fuse, .bool false]) := Lib.hid (by rw [hw7]; exact hK6.set 2 _)
        have HF7 : Hid (Fr (fun k => k = G) w6 w7) := Lib.hid (by rw [hw7]; exact (Fr.refl (fun k => k = G) w6).setCell (p := ⟨G, 2, none⟩) (fun _ => rfl) _)
        have HR7 := Lib.hid ((New.blk hN2 HR4.out).fr HF7.out (by omega))
        have HN2 := Lib.hid hN2
        have HK6 := Lib.hid hK6
        try rw [← hw7]
        clear hw7 hK6 h60 h6f hN2 hN1 hSN z1 z2 z3 z4 z5 z6 zl hi hu d2 d2a d2b
        go_wp2_with (first
          | ((with_reducible refine atOp ⟨some 43, .load _ _, _, _, _, _⟩ ?_); refine wpList_load_any rfl _ rfl Try.underlying48 rfl rfl rfl HB7.out ?_)
          | ((with_reducible refine atOp ⟨none, .store 48 (.tmp 6) _, _, _, _, _⟩ ?_); refine wpList_store_any rfl (.tmp 6) (.tmp 43) rfl rfl rfl rfl HR7.out rfl (rf_one _ _ _ _ _ _ _ _ _) ?_; intro w8 hb8 hf8; have HB8 := Lib.hid hb8; have HF8 := Lib.hid hf8; clear hb8 hf8))
        refine bodyPost_ret (results_row2 rfl _ _ (G + 1 + 1) _ _ rfl HB8.out Try.underlying48 rfl rfl) rfl ?_
        have hF48 : Fr (fun k => k = G ∨ k = G + 1 + 1) w4 w8 := ((HN2.out.toFr _).trans (HF7.out.mono fun b _ h => .inl h)).trans (HF8.out.mono fun b _ h => .inr h)
        have hN8 : New w w8 := ((HN3.out.fr HF34.out (fun k hk => by have := HGW.out; omega)).fr hF48 (fun k hk => by have := HGW.out; omega))
        refine ⟨⟨A1, c1, A2', d2', ?_, ?_⟩, hN8⟩
        · rw [HW.out]
          unfold RfV
          simp only [List.length_append, List.length_singleton]
          have : r.burn.down = false := HDN.out
          rw [this]
          rfl
        · rw [HW.out]
          refine ⟨?_, ?_, ?_⟩
          · have hF38 : Fr (fun k => k = G ∨ k = G + 1 + 1) w3 w8 := (HF34.out.mono fun b _ h => .inl h).trans hF48
            exact (H.out.new HN3.out).sure.fr hF38 (fun k hk => by rcases hk with rfl | rfl <;> first | exact IsT.not_blk HB3.out (by decide) | exact IsT.not_blk HR3.out (by decide))
          · have h6 : RdT 75 w6 65 A2' (r.fresh.length + 1) (flatP (r.fresh ++ [⟨x, s⟩])) := by
              have := RdT.own HO2.out rfl
              rw [flatP_app, flatP_one]
              simpa [putA] using this
            have hF68 : Fr (fun k => k = G ∨ k = G + 1 + 1) w6 w8 := (HF7.out.mono fun b _ h => .inl h).trans (HF8.out.mono fun b _ h => .inr h)
            have := h6.fr hF68 (fun k hk => by rcases hk with rfl | rfl <;> first | exact IsT.not_blk HK6.out (by decide) | exact IsT.not_blk (New.blk HN2.out HR4.out) (by decide))
            simpa using this
          · rw [← HW.out]; exact H.out.ok.write x HS.out
      · skip
        go_simp
        try simp only [Act.put, List.setIfInBounds_toArray, List.set_cons_zero, List.set_cons_succ]
        refine hK.out _ _ (fun _ => hSN _ (by repeat (first | with_reducible exact New.refl _ | with_reducible assumption | with_reducible refine New.dr ?_ | with_reducible refine New.al ?_ _) : New w4 _)) ?_
        refine wpAnyT_ready (rs := [3]) (by kernel_rfl) (by simp) (AllT.cons (i := 3) rfl (fun K hK => ?_) AllT.nil)
        refine step_app elP _ (by rfl) (.tmp 33) (.tmp 35) (by rfl) w4.heap.size (.slice (some ⟨_, 0, none⟩) 0 0) 0 [] (by rfl) (own_lit (by repeat (first | with_reducible exact Blk.new' _ _ _ (by first | rfl | (simp; done)) | with_reducible refine Blk.drew ?_ | with_reducible refine Blk.alloc ?_ _ | with_reducible refine Blk.fr ?_ hF1 (by simp [Value.ownBlock]))) (by first | (simp; done) | (simp; omega))) A2 r.fresh.length c2 (flatP r.fresh) (by rfl) ((by repeat (first | with_reducible exact New.refl _ | with_reducible assumption | with_reducible refine New.dr ?_ | with_reducible refine New.al ?_ _) : New w4 _).rd HR4'.out) HP1.out (by unfold maxLen; omega) (by omega) (by first | (simp; done) | (simp; omega)) ?_
        intro A1' d1 w5 hO1 hF1 hA1
        have hN1 : New w4 w5 := (by repeat (first | with_reducible exact New.refl _ | with_reducible assumption | with_reducible refine New.dr ?_ | with_reducible refine New.al ?_ _) : New w4 _).fr hF1 (by intro k hk; simp [Value.ownBlock] at hk; omega)
        rw [Nat.zero_add, List.nil_append] at hO1
        rw [Nat.zero_add] at hA1
        rw [Nat.zero_add]
        try simp only [Act.put, List.setIfInBounds_toArray, List.set_cons_zero, List.set_cons_succ]
        refine hK.out _ _ (fun _ => hSN _ (by repeat (first | with_reducible exact New.refl _ | with_reducible assumption | with_reducible refine New.dr ?_ | with_reducible refine New.al ?_ _) : New w4 _)) ?_
        refine wpAnyT_ready (rs := [8]) (by kernel_rfl) (by simp) (AllT.cons (i := 8) rfl (fun K hK => ?_) AllT.nil)
        refine step_app elP _ (by rfl) (.tmp 36) (.tmp 40) (by rfl) w4.heap.size (.slice A1' r.fresh.length d1) r.fresh.length (flatP r.fresh) (by rfl) (own_fr (S := NoB) hO1 (by repeat (first | with_reducible exact Fr.refl _ _ | with_reducible refine Fr.drew ?_ | with_reducible refine Fr.alloc ?_ _)) (fun _ _ h => h)) (some ⟨_, 0, none⟩) 1 1 (putA x s).toList (by rfl) (Rd.ofBlk (p := fun _ => True) (t := 75) (cs := putA x s) (by repeat (first | with_reducible exact Blk.new' _ _ _ (by first | rfl | (simp; done)) | with_reducible refine Blk.drew ?_ | with_reducible refine Blk.alloc ?_ _ | with_reducible refine Blk.fr ?_ hF1 (by simp [Value.ownBlock]))) 65 1 (by rw [z5]) trivial) (by intro u hu; exact PU.one ⟨x, s⟩ u (by simpa [putA] using hu)) (by unfold maxLen; omega) (by omega) ((by repeat (first | with_reducible exact New.refl _ | with_reducible assumption | with_reducible refine New.dr ?_ | with_reducible refine New.al ?_ _) : New w4 _).size) ?_
        intro A2' d2' w6 hO2 hF2 hA2
        have hN2 : New w4 w6 := (by repeat (first | with_reducible exact New.refl _ | with_reducible assumption | with_reducible refine New.dr ?_ | with_reducible refine New.al ?_ _) : New w4 _).fr hF2 (by intro k hk; exact (own_lt hO1 k hk).1)
        have HO2 := Lib.hid hO2
        have hK6 := hN2.blk HB4.out
        have h60 := hK6.cell 2
        have h6f := hK6.frozen 2
        clear hO2 hA2 hF2 hA1 hO1 hF1
        try simp only [Act.put, List.setIfInBounds_toArray, List.set_cons_zero, List.set_cons_succ]
        refine hK.out _ _ (fun _ => hSN _ (by repeat (first | with_reducible exact New.refl _ | with_reducible assumption | with_reducible refine New.dr ?_ | with_reducible refine New.al ?_ _) : New w4 _)) ?_
        refine wpAnyT_take (i := 9) (v := .pointer (some ⟨G, 2, none⟩)) rfl (by kernel_rfl) (by kernel_rfl) (by kernel_rfl) (by kernel_rfl) (fun _ _ _ h => h) (Or.inl ⟨by rfl, fun w hSw => by have h1 := hSw.1; have h2 := hSw.2; clear hSw; go_simp⟩) (hSN _ (by repeat (first | with_reducible exact New.refl _ | with_reducible assumption | with_reducible refine New.dr ?_ | with_reducible refine New.al ?_ _) : New w4 _)) ?_
        try simp only [Act.put, List.setIfInBounds_toArray, List.set_cons_zero, List.set_cons_succ]
        refine wpAnyT_ready (rs := [10]) (by kernel_rfl) (by simp) (AllT.cons (i := 10) rfl (fun K hK => ?_) AllT.nil)
        go_simp
        try simp only [Act.put, List.setIfInBounds_toArray, List.set_cons_zero, List.set_cons_succ]
        refine hK.out _ _ (fun h => absurd rfl h) ?_
        refine wpAnyT_done (by kernel_rfl) ?_ _
        obtain ⟨w7, hw7⟩ : ∃ w7 : World, w7 = w6.setCell ⟨G, 2, none⟩ (.slice A2' (r.fresh.length + 1) d2') := ⟨_, rfl⟩
        have HB7 : Hid (Blk w7 G 48 #[.int .i64 r.size, .slice A1 r.sure.length c1, .slice A2' (r.fresh.length + 1) d2', .int .i64 r.burn.fuse, .bool false]) := Lib.hid (by rw [hw7]; exact hK6.set 2 _)
        have HF7 : Hid (Fr (fun k => k = G) w6 w7) := Lib.hid (by rw [hw7]; exact (Fr.refl (fun k => k = G) w6).setCell (p := ⟨G, 2, none⟩) (fun _ => rfl) _)
        have HR7 := Lib.hid ((New.blk hN2 HR4.out).fr HF7.out (by omega))
        have HN2 := Lib.hid hN2
        have HK6 := Lib.hid hK6
        try rw [← hw7]
        clear hw7 hK6 h60 h6f hN2 hN1 hSN z1 z2 z3 z4 z5 z6 zl hi hu d2 d2a d2b
        go_wp2_with (first
          | ((with_reducible refine atOp ⟨some 43, .load _ _, _, _, _, _⟩ ?_); refine wpList_load_any rfl _ rfl Try.underlying48 rfl rfl rfl HB7.out ?_)
          | ((with_reducible refine atOp ⟨none, .store 48 (.tmp 6) _, _, _, _, _⟩ ?_); refine wpList_store_any rfl (.tmp 6) (.tmp 43) rfl rfl rfl rfl HR7.out rfl (rf_one _ _ _ _ _ _ _ _ _) ?_; intro w8 hb8 hf8; have HB8 := Lib.hid hb8; have HF8 := Lib.hid hf8; clear hb8 hf8))
        refine bodyPost_ret (results_row2 rfl _ _ (G + 1 + 1) _ _ rfl HB8.out Try.underlying48 rfl rfl) rfl ?_
        have hF48 : Fr (fun k => k = G ∨ k = G + 1 + 1) w4 w8 := ((HN2.out.toFr _).trans (HF7.out.mono fun b _ h => .inl h)).trans (HF8.out.mono fun b _ h => .inr h)
        have hN8 : New w w8 := ((HN3.out.fr HF34.out (fun k hk => by have := HGW.out; omega)).fr hF48 (fun k hk => by have := HGW.out; omega))
        refine ⟨⟨A1, c1, A2', d2', ?_, ?_⟩, hN8⟩
        · rw [HW.out]
          unfold RfV
          simp only [List.length_append, List.length_singleton]
          have : r.burn.down = false := HDN.out
          rw [this]
          rfl
        · rw [HW.out]
          refine ⟨?_, ?_, ?_⟩
          · have hF38 : Fr (fun k => k = G ∨ k = G + 1 + 1) w3 w8 := (HF34.out.mono fun b _ h => .inl h).trans hF48
            exact (H.out.new HN3.out).sure.fr hF38 (fun k hk => by rcases hk with rfl | rfl <;> first | exact IsT.not_blk HB3.out (by decide) | exact IsT.not_blk HR3.out (by decide))
          · have h6 : RdT 75 w6 65 A2' (r.fresh.length + 1) (flatP (r.fresh ++ [⟨x, s⟩])) := by
              have := RdT.own HO2.out rfl
              rw [flatP_app, flatP_one]
              simpa [putA] using this
            have hF68 : Fr (fun k => k = G ∨ k = G + 1 + 1) w6 w8 := (HF7.out.mono fun b _ h => .inl h).trans (HF8.out.mono fun b _ h => .inr h)
            have := h6.fr hF68 (fun k hk => by rcases hk with rfl | rfl <;> first | exact IsT.not_blk HK6.out (by decide) | exact IsT.not_blk (New.blk HN2.out HR4.out) (by decide))
            simpa using this
          · rw [← HW.out]; exact H.out.ok.write x HS.out
    · skip
      go_simp
      try simp only [Act.put, List.setIfInBounds_toArray, List.set_cons_zero, List.set_cons_succ]
      refine hK.out _ _ (fun _ => hSN _ (by repeat (first | with_reducible exact New.refl _ | with_reducible assumption | with_reducible refine New.dr ?_ | with_reducible refine New.al ?_ _) : New w4 _)) ?_
      refine wpAnyT_ready (rs := [0]) (by kernel_rfl) (by simp) (AllT.cons (i := 0) rfl (fun K hK => ?_) AllT.nil)
      go_simp
      try simp only [Act.put, List.setIfInBounds_toArray, List.set_cons_zero, List.set_cons_succ]
      refine hK.out _ _ (fun _ => hSN _ (by repeat (first | with_reducible exact New.refl _ | with_reducible assumption | with_reducible refine New.dr ?_ | with_reducible refine New.al ?_ _) : New w4 _)) ?_
      refine wpAnyT_ready (rs := [3]) (by kernel_rfl) (by simp) (AllT.cons (i := 3) rfl (fun K hK => ?_) AllT.nil)
      refine step_app elP _ (by rfl) (.tmp 33) (.tmp 35) (by rfl) w4.heap.size (.slice (some ⟨_, 0, none⟩) 0 0) 0 [] (by rfl) (own_lit (by repeat (first | with_reducible exact Blk.new' _ _ _ (by first | rfl | (simp; done)) | with_reducible refine Blk.drew ?_ | with_reducible refine Blk.alloc ?_ _ | with_reducible refine Blk.fr ?_ hF1 (by simp [Value.ownBlock]))) (by first | (simp; done) | (simp; omega))) A2 r.fresh.length c2 (flatP r.fresh) (by rfl) ((by repeat (first | with_reducible exact New.refl _ | with_reducible assumption | with_reducible refine New.dr ?_ | with_reducible refine New.al ?_ _) : New w4 _).rd HR4'.out) HP1.out (by unfold maxLen; omega) (by omega) (by first | (simp; done) | (simp; omega)) ?_
      intro A1' d1 w5 hO1 hF1 hA1
      have hN1 : New w4 w5 := (by repeat (first | with_reducible exact New.refl _ | with_reducible assumption | with_reducible refine New.dr ?_ | with_reducible refine New.al ?_ _) : New w4 _).fr hF1 (by intro k hk; simp [Value.ownBlock] at hk; omega)
      rw [Nat.zero_add, List.nil_append] at hO1
      rw [Nat.zero_add] at hA1
      rw [Nat.zero_add]
      try simp only [Act.put, List.setIfInBounds_toArray, List.set_cons_zero, List.set_cons_succ]
      refine hK.out _ _ (fun _ => hSN _ (by repeat (first | with_reducible exact New.refl _ | with_reducible assumption | with_reducible refine New.dr ?_ | with_reducible refine New.al ?_ _) : New w4 _)) ?_
      refine wpAnyT_ready (rs := [8]) (by kernel_rfl) (by simp) (AllT.cons (i := 8) rfl (fun K hK => ?_) AllT.nil)
      refine step_app elP _ (by rfl) (.tmp 36) (.tmp 40) (by rfl) w4.heap.size (.slice A1' r.fresh.length d1) r.fresh.length (flatP r.fresh) (by rfl) (own_fr (S := NoB) hO1 (by repeat (first | with_reducible exact Fr.refl _ _ | with_reducible refine Fr.drew ?_ | with_reducible refine Fr.alloc ?_ _)) (fun _ _ h => h)) (some ⟨_, 0, none⟩) 1 1 (putA x s).toList (by rfl) (Rd.ofBlk (p := fun _ => True) (t := 75) (cs := putA x s) (by repeat (first | with_reducible exact Blk.new' _ _ _ (by first | rfl | (simp; done)) | with_reducible refine Blk.drew ?_ | with_reducible refine Blk.alloc ?_ _ | with_reducible refine Blk.fr ?_ hF1 (by simp [Value.ownBlock]))) 65 1 (by rw [z5]) trivial) (by intro u hu; exact PU.one ⟨x, s⟩ u (by simpa [putA] using hu)) (by unfold maxLen; omega) (by omega) ((by repeat (first | with_reducible exact New.refl _ | with_reducible assumption | with_reducible refine New.dr ?_ | with_reducible refine New.al ?_ _) : New w4 _).size) ?_
      intro A2' d2' w6 hO2 hF2 hA2
      have hN2 : New w4 w6 := (by repeat (first | with_reducible exact New.refl _ | with_reducible assumption | with_reducible refine New.dr ?_ | with_reducible refine New.al ?_ _) : New w4 _).fr hF2 (by intro k hk; exact (own_lt hO1 k hk).1)
      have HO2 := Lib.hid hO2
      have hK6 := hN2.blk HB4.out
      have h60 := hK6.cell 2
      have h6f := hK6.frozen 2
      clear hO2 hA2 hF2 hA1 hO1 hF1
      try simp only [Act.put, List.setIfInBounds_toArray, List.set_cons_zero, List.set_cons_succ]
      refine hK.out _ _ (fun _ => hSN _ (by repeat (first | with_reducible exact New.refl _ | with_reducible assumption | with_reducible refine New.dr ?_ | with_reducible refine New.al ?_ _) : New w4 _)) ?_
      refine wpAnyT_take (i := 9) (v := .pointer (some ⟨G, 2, none⟩)) rfl (by kernel_rfl) (by kernel_rfl) (by kernel_rfl) (by kernel_rfl) (fun _ _ _ h => h) (Or.inl ⟨by rfl, fun w hSw => by have h1 := hSw.1; have h2 := hSw.2; clear hSw; go_simp⟩) (hSN _ (by repeat (first | with_reducible exact New.refl _ | with_reducible assumption | with_reducible refine New.dr ?_ | with_reducible refine New.al ?_ _) : New w4 _)) ?_
      try simp only [Act.put, List.setIfInBounds_toArray, List.set_cons_zero, List.set_cons_succ]
      refine wpAnyT_ready (rs := [10]) (by kernel_rfl) (by simp) (AllT.cons (i := 10) rfl (fun K hK => ?_) AllT.nil)
      go_simp
      try simp only [Act.put, List.setIfInBounds_toArray, List.set_cons_zero, List.set_cons_succ]
      refine hK.out _ _ (fun h => absurd rfl h) ?_
      refine wpAnyT_done (by kernel_rfl) ?_ _
      obtain ⟨w7, hw7⟩ : ∃ w7 : World, w7 = w6.setCell ⟨G, 2, none⟩ (.slice A2' (r.fresh.length + 1) d2') := ⟨_, rfl⟩
      have HB7 : Hid (Blk w7 G 48 #[.int .i64 r.size, .slice A1 r.sure.length c1, .slice A2' (r.fresh.length + 1) d2', .int .i64 r.burn.fuse, .bool false]) := Lib.hid (by rw [hw7]; exact hK6.set 2 _)
      have HF7 : Hid (Fr (fun k => k = G) w6 w7) := Lib.hid (by rw [hw7]; exact (Fr.refl (fun k => k = G) w6).setCell (p := ⟨G, 2, none⟩) (fun _ => rfl) _)
      have HR7 := Lib.hid ((New.blk hN2 HR4.out).fr HF7.out (by omega))
      have HN2 := Lib.hid hN2
      have HK6 := Lib.hid hK6
      try rw [← hw7]
      clear hw7 hK6 h60 h6f hN2 hN1 hSN z1 z2 z3 z4 z5 z6 zl hi hu d2 d2a d2b
      go_wp2_with (first
        | ((with_reducible refine atOp ⟨some 43, .load _ _, _, _, _, _⟩ ?_); refine wpList_load_any rfl _ rfl Try.underlying48 rfl rfl rfl HB7.out ?_)
        | ((with_reducible refine atOp ⟨none, .store 48 (.tmp 6) _, _, _, _, _⟩ ?_); refine wpList_store_any rfl (.tmp 6) (.tmp 43) rfl rfl rfl rfl HR7.out rfl (rf_one _ _ _ _ _ _ _ _ _) ?_; intro w8 hb8 hf8; have HB8 := Lib.hid hb8; have HF8 := Lib.hid hf8; clear hb8 hf8))
      refine bodyPost_ret (results_row2 rfl _ _ (G + 1 + 1) _ _ rfl HB8.out Try.underlying48 rfl rfl) rfl ?_
      have hF48 : Fr (fun k => k = G ∨ k = G + 1 + 1) w4 w8 := ((HN2.out.toFr _).trans (HF7.out.mono fun b _ h => .inl h)).trans (HF8.out.mono fun b _ h => .inr h)
      have hN8 : New w w8 := ((HN3.out.fr HF34.out (fun k hk => by have := HGW.out; omega)).fr hF48 (fun k hk => by have := HGW.out; omega))
      refine ⟨⟨A1, c1, A2', d2', ?_, ?_⟩, hN8⟩
      · rw [HW.out]
        unfold RfV
        simp only [List.length_append, List.length_singleton]
        have : r.burn.down = false := HDN.out
        rw [this]
        rfl
      · rw [HW.out]
        refine ⟨?_, ?_, ?_⟩
        · have hF38 : Fr (fun k => k = G ∨ k = G + 1 + 1) w3 w8 := (HF34.out.mono fun b _ h => .inl h).trans hF48
          exact (H.out.new HN3.out).sure.fr hF38 (fun k hk => by rcases hk with rfl | rfl <;> first | exact IsT.not_blk HB3.out (by decide) | exact IsT.not_blk HR3.out (by decide))
        · have h6 : RdT 75 w6 65 A2' (r.fresh.length + 1) (flatP (r.fresh ++ [⟨x, s⟩])) := by
            have := RdT.own HO2.out rfl
            rw [flatP_app, flatP_one]
            simpa [putA] using this
          have hF68 : Fr (fun k => k = G ∨ k = G + 1 + 1) w6 w8 := (HF7.out.mono fun b _ h => .inl h).trans (HF8.out.mono fun b _ h => .inr h)
          have := h6.fr hF68 (fun k hk => by rcases hk with rfl | rfl <;> first | exact IsT.not_blk HK6.out (by decide) | exact IsT.not_blk (New.blk HN2.out HR4.out) (by decide))
          simpa using this
        · rw [← HW.out]; exact H.out.ok.write x HS.out
    -- behind the region
end Go.Proofs.Ytpdgnidoglmgcaa
