/- Texts of one proof, one behind the other: DrB, DrC, DrD, DrE. No condition but each one's own. -/
import Derived.Test.YtdojmjglnlkmoaaDoorRecordPlaysM20
import Derived.Test.YtdojmjglnlkmoaaDoorRecordPlaysM3
/- The reference's disk: written. No condition but that it can be read. -/
namespace Go.Proofs.YtdojmjglnlkmoaaDoor
set_option linter.unusedVariables false
set_option linter.unusedSimpArgs false
set_option linter.constructorNameAsVariable false
open Go.RowKit Go.Maps

theorem rf_one (a : Int) (A : Option Addr) (n c : Nat) (B : Option Addr) (m d : Nat) (e : Int) (f : Bool) : (#[Value.int .i64 a, .slice A n c, .slice B m d, .int .i64 e, .bool f]).all (·.oneCell') = true := by simp [Value.oneCell']
set_option maxHeartbeats 4000000 in
set_option maxRecDepth 100000 in
theorem rwrite_in (r : RP) (A1 : Option Addr) (c1 : Nat) (A2 : Option Addr) (c2 : Nat) (x : Int) (s : List Int) (w : World) (h : RfIn w r A1 A2) (hs : SecOk s) (hn : r.tot ≤ 100000) (hx : (Lit.int .i64 x).wf = true) (hf : (Lit.int .i64 r.fuse).wf = true) (hw : 0 ≤ x ∧ x < r.size) (hd : ¬ (r.fuse = 0 ∨ r.down = true)) :
    Calls Tryd.prog 11 #[.agg (RfV r A1 c1 A2 c2), .int .i64 x, .agg (secA s)] w fun e w' => RfEnd w' (r.write x s) 0 e ∧ New w w' := by
  have H := Lib.hid h
  have HS := Lib.hid hs
  have HT2 : Hid (r.fresh.length ≤ 100000) := Lib.hid (by unfold RP.tot at hn; omega)
  have hfb := bounds_i64 hf
  have t0 : decide (x < 0) = false := decide_eq_false (by omega)
  have t1 : decide (r.size ≤ x) = false := decide_eq_false (by omega)
  have hz' : (r.fuse == 0) = false := by simp; exact fun e => hd (.inl e)
  have hdn : r.down = false := by
    cases hq : r.down with
    | true => exact absurd (.inr hq) hd
    | false => rfl
  have HW : Hid (r.write x s = { r.burn with fresh := r.fresh ++ [⟨x, s⟩] }) := Lib.hid (by unfold RP.write RP.within; rw [decide_eq_true hw, if_pos rfl, if_neg hd])
  unfold RfV
  rw [hdn]
  have HDN := Lib.hid hdn
  clear h hs hn hx hf hw hd hdn
  go_enter Tryd.func11, Tryd.ntmps11
  go_upto_region 6 with fail
  obtain ⟨w3, hw3⟩ : ∃ w3 : World, w3 = ((w.alloc (.cells #[.int .i64 r.size, .slice A1 r.sure.length c1, .slice A2 r.fresh.length c2, .int .i64 r.fuse, .bool false] 33)).alloc (.cells (secA s) 23)).alloc (.cells #[.int .i64 0, .slice none 0 0, .slice none 0 0, .int .i64 0, .bool false] 33) := ⟨_, rfl⟩
  obtain ⟨G, hG⟩ : ∃ G, G = w.heap.size := ⟨_, rfl⟩
  rw [← hG]
  have HN3 : Hid (New w w3) := Lib.hid (by rw [hw3]; exact (((New.refl w).al _).al _).al _)
  have hB3 : Blk w3 G 33 #[.int .i64 r.size, .slice A1 r.sure.length c1, .slice A2 r.fresh.length c2, .int .i64 r.fuse, .bool false] := by rw [hw3, hG]; exact ((Blk.new _ _ _).alloc _).alloc _
  have HB3 := Lib.hid hB3
  have hS3 : Blk w3 (G + 1) 23 (secA s) := by rw [hw3, hG]; exact (Blk.new' _ _ _ (by simp)).alloc _
  have hR3 : Blk w3 (G + 1 + 1) 33 #[.int .i64 0, .slice none 0 0, .slice none 0 0, .int .i64 0, .bool false] := by rw [hw3, hG]; exact Blk.new' _ _ _ (by simp)
  have HR3 := Lib.hid hR3
  rw [← hw3]
  have HGW : Hid (G = w.heap.size) := Lib.hid hG
  clear hw3 hG
  have i3 := hB3.cell 3
  have q3 := hB3.frozen 3
  obtain ⟨w4, hw4⟩ : ∃ w4, w4 = (if 0 < r.fuse then w3.setCell ⟨G, 3, none⟩ (.int .i64 (r.fuse - 1)) else w3) := ⟨_, rfl⟩
  have HF34 : Hid (Fr (fun k => k = G) w3 w4) := Lib.hid (by
    rw [hw4]; split
    · exact (Fr.refl _ w3).setCell (S := fun k => k = G) (p := ⟨G, 3, none⟩) (fun _ => rfl) _
    · exact Fr.refl _ _)
  have HB4 : Hid (Blk w4 G 33 #[.int .i64 r.size, .slice A1 r.sure.length c1, .slice A2 r.fresh.length c2, .int .i64 r.burn.fuse, .bool false]) := Lib.hid (by
    rw [hw4]
    unfold RP.burn
    split
    · exact hB3.set 3 _
    · exact hB3)
  have HS4 := Lib.hid (hS3.fr HF34.out (by omega))
  have HR4 := Lib.hid (hR3.fr HF34.out (by omega))
  have HW4 := Lib.hid hw4
  clear hS3 hR3 hB3 hw4
  go_upto_region 8 with fail
  all_goals
    first
      | rw [show w3.setCell ⟨G, 3, none⟩ (.int .i64 (r.fuse - 1)) = w4 from by rw [HW4.out, if_pos (by assumption)]]
      | rw [show w3 = w4 from by rw [HW4.out, if_neg (by omega)]]
    clear i3 q3 hfb hz' t0 t1
    have d2 : w4.cell? ⟨G, 2, none⟩ = some (.slice A2 r.fresh.length c2) := HB4.out.cell 2
    have d2a := fun o : Obj => (New.al (New.refl w4) o).cell_ d2
    have d2b := fun o o' : Obj => (New.al (New.al (New.refl w4) o) o').cell_ d2
    have hSN : ∀ w', New w4 w' → w'.rangeAt (G + 1) 0 (u8s s) ∧ w'.cell? ⟨G, 2, none⟩ = some (.slice A2 r.fresh.length c2) := fun w' hN => ⟨(New.blk hN HS4.out).range, hN.cell_ d2⟩
    have HR4' : Hid (RdT 87 w4 65 A2 r.fresh.length (flatP r.fresh)) := Lib.hid (((H.out.new HN3.out).fresh).fr HF34.out (fun k hk => by subst hk; exact IsT.not_blk HB3.out (by decide)))
    have hu := Tryd.underlying23
    have hi : (Tryd.prog.info? 23).map (·.size) = some (u8s s).length := by rw [u8s_len, HS.out.1]; rfl
    have hn := HT2.out
    have z1 := putZ_zero
    have z2 := putZ_size
    have z3 := putZ_ne
    have z4 := put_fold (x := x) HS.out
    have z5 := putA_size (x := x) HS.out
    have z6 := put_fold2 (x := x) HS.out #[putZ[0]'(by rw [putZ_size]; omega), putZ[1]'(by rw [putZ_size]; omega), putZ[2]'(by rw [putZ_size]; omega), putZ[3]'(by rw [putZ_size]; omega), putZ[4]'(by rw [putZ_size]; omega), putZ[5]'(by rw [putZ_size]; omega), putZ[6]'(by rw [putZ_size]; omega), putZ[7]'(by rw [putZ_size]; omega), putZ[8]'(by rw [putZ_size]; omega), putZ[9]'(by rw [putZ_size]; omega), putZ[10]'(by rw [putZ_size]; omega), putZ[11]'(by rw [putZ_size]; omega), putZ[12]'(by rw [putZ_size]; omega), putZ[13]'(by rw [putZ_size]; omega), putZ[14]'(by rw [putZ_size]; omega), putZ[15]'(by rw [putZ_size]; omega), putZ[16]'(by rw [putZ_size]; omega), putZ[17]'(by rw [putZ_size]; omega), putZ[18]'(by rw [putZ_size]; omega), putZ[19]'(by rw [putZ_size]; omega), putZ[20]'(by rw [putZ_size]; omega), putZ[21]'(by rw [putZ_size]; omega), putZ[22]'(by rw [putZ_size]; omega), putZ[23]'(by rw [putZ_size]; omega), putZ[24]'(by rw [putZ_size]; omega), putZ[25]'(by rw [putZ_size]; omega), putZ[26]'(by rw [putZ_size]; omega), putZ[27]'(by rw [putZ_size]; omega), putZ[28]'(by rw [putZ_size]; omega), putZ[29]'(by rw [putZ_size]; omega), putZ[30]'(by rw [putZ_size]; omega), putZ[31]'(by rw [putZ_size]; omega), putZ[32]'(by rw [putZ_size]; omega), putZ[33]'(by rw [putZ_size]; omega), putZ[34]'(by rw [putZ_size]; omega), putZ[35]'(by rw [putZ_size]; omega), putZ[36]'(by rw [putZ_size]; omega), putZ[37]'(by rw [putZ_size]; omega), putZ[38]'(by rw [putZ_size]; omega), putZ[39]'(by rw [putZ_size]; omega), putZ[40]'(by rw [putZ_size]; omega), putZ[41]'(by rw [putZ_size]; omega), putZ[42]'(by rw [putZ_size]; omega), putZ[43]'(by rw [putZ_size]; omega), putZ[44]'(by rw [putZ_size]; omega), putZ[45]'(by rw [putZ_size]; omega), putZ[46]'(by rw [putZ_size]; omega), putZ[47]'(by rw [putZ_size]; omega), putZ[48]'(by rw [putZ_size]; omega), putZ[49]'(by rw [putZ_size]; omega), putZ[50]'(by rw [putZ_size]; omega), putZ[51]'(by rw [putZ_size]; omega), putZ[52]'(by rw [putZ_size]; omega), putZ[53]'(by rw [putZ_size]; omega), putZ[54]'(by rw [putZ_size]; omega), putZ[55]'(by rw [putZ_size]; omega), putZ[56]'(by rw [putZ_size]; omega), putZ[57]'(by rw [putZ_size]; omega), putZ[58]'(by rw [putZ_size]; omega), putZ[59]'(by rw [putZ_size]; omega), putZ[60]'(by rw [putZ_size]; omega), putZ[61]'(by rw [putZ_size]; omega), putZ[62]'(by rw [putZ_size]; omega), putZ[63]'(by rw [putZ_size]; omega), putZ[64]'(by rw [putZ_size]; omega)] rfl
    have zl : (u8s s).length = 64 := by rw [u8s_len, HS.out.1]
    have hP1 := fun u hu => flatP_cell r.fresh u hu
    have HP1 := Lib.hid hP1
    clear hP1
    refine wp_region_T (fun w' => w'.rangeAt (G + 1) 0 (u8s s) ∧ w'.cell? ⟨G, 2, none⟩ = some (.slice A2 r.fresh.length c2)) 10 (by kernel_rfl) ?_
    refine wpAnyT_take (i := 1) (v := .pointer (some ⟨G, 2, none⟩)) rfl (by kernel_rfl) (by kernel_rfl) (by kernel_rfl) (by kernel_rfl) (fun _ _ _ h => h) (Or.inl ⟨by rfl, fun w hSw => by have h1 := hSw.1; have h2 := hSw.2; clear hSw; go_simp⟩) (hSN _ (by repeat (first | with_reducible exact New.refl _ | with_reducible assumption | with_reducible refine New.dr ?_ | with_reducible refine New.al ?_ _) : New w4 _)) ?_
    try simp only [Act.put, List.setIfInBounds_toArray, List.set_cons_zero, List.set_cons_succ]
    refine wpAnyT_take (i := 2) (v := .slice A2 r.fresh.length c2) rfl (by kernel_rfl) (by kernel_rfl) (by kernel_rfl) (by kernel_rfl) (fun _ _ _ h => h) (Or.inl ⟨by rfl, fun w hSw => by have h1 := hSw.1; have h2 := hSw.2; clear hSw; go_simp⟩) (hSN _ (by repeat (first | with_reducible exact New.refl _ | with_reducible assumption | with_reducible refine New.dr ?_ | with_reducible refine New.al ?_ _) : New w4 _)) ?_
    try simp only [Act.put, List.setIfInBounds_toArray, List.set_cons_zero, List.set_cons_succ]
    refine wpAnyT_take (i := 4) (v := .int .i64 x) rfl (by kernel_rfl) (by kernel_rfl) (by kernel_rfl) (by kernel_rfl) (fun _ _ _ h => h) (Or.inl ⟨by rfl, fun w hSw => by have h1 := hSw.1; have h2 := hSw.2; clear hSw; go_simp⟩) (hSN _ (by repeat (first | with_reducible exact New.refl _ | with_reducible assumption | with_reducible refine New.dr ?_ | with_reducible refine New.al ?_ _) : New w4 _)) ?_
    try simp only [Act.put, List.setIfInBounds_toArray, List.set_cons_zero, List.set_cons_succ]
    refine wpAnyT_take (i := 5) (v := .agg (u8s s).toArray) rfl (by kernel_rfl) (by kernel_rfl) (by kernel_rfl) (by kernel_rfl) (fun _ _ _ h => h) (yieldsIf_load_mid (by rfl) _ _ rfl _ _ rfl _ _ (fun w hSw => hSw.1) hu rfl hi) (hSN _ (by repeat (first | with_reducible exact New.refl _ | with_reducible assumption | with_reducible refine New.dr ?_ | with_reducible refine New.al ?_ _) : New w4 _)) ?_
    try simp only [Act.put, List.setIfInBounds_toArray, List.set_cons_zero, List.set_cons_succ]
    refine wpAnyT_take (i := 6) (v := .agg (putA x s)) rfl (by kernel_rfl) (by kernel_rfl) (by kernel_rfl) (by kernel_rfl) (fun _ _ _ h => h) (Or.inl ⟨by rfl, fun w hSw => by have h1 := hSw.1; have h2 := hSw.2; clear hSw; go_simp⟩) (hSN _ (by repeat (first | with_reducible exact New.refl _ | with_reducible assumption | with_reducible refine New.dr ?_ | with_reducible refine New.al ?_ _) : New w4 _)) ?_
    try simp only [Act.put, List.setIfInBounds_toArray, List.set_cons_zero, List.set_cons_succ]
    refine wpAnyT_ready (rs := [0, 7]) (by kernel_rfl) (by simp) (AllT.cons (i := 0) rfl (fun K hK => ?_) (AllT.cons (i := 7) rfl (fun K hK => ?_) AllT.nil))
    · skip
      go_simp
      try simp only [Act.put, List.setIfInBounds_toArray, List.set_cons_zero, List.set_cons_succ]
      refine hK.out _ _ (fun _ => hSN _ (by repeat (first | with_reducible exact New.refl _ | with_reducible assumption | with_reducible refine New.dr ?_ | with_reducible refine New.al ?_ _) : New w4 _)) ?_
      refine wpAnyT_ready (rs := [3, 7]) (by kernel_rfl) (by simp) (AllT.cons (i := 3) rfl (fun K hK => ?_) (AllT.cons (i := 7) rfl (fun K hK => ?_) AllT.nil))
      · skip
        refine step_app elP _ (by rfl) (.tmp 33) (.tmp 35) (by rfl) w4.heap.size (.slice (some ⟨_, 0, none⟩) 0 0) 0 [] (by rfl) (own_lit (by repeat (first | with_reducible exact Blk.new' _ _ _ (by first | rfl | (simp; done)) | with_reducible refine Blk.drew ?_ | with_reducible refine Blk.alloc ?_ _ | with_reducible refine Blk.fr ?_ hF1 (by simp [Value.ownBlock]))) (by first | (simp; done) | (simp; omega))) A2 r.fresh.length c2 (flatP r.fresh) (by rfl) ((by repeat (first | with_reducible exact New.refl _ | with_reducible assumption | with_reducible refine New.dr ?_ | with_reducible refine New.al ?_ _) : New w4 _).rd HR4'.out) HP1.out (by unfold maxLen; omega) (by omega) (by first | (simp; done) | (simp; omega)) ?_
        intro A1' d1 w5 hO1 hF1 hA1
        have hN1 : New w4 w5 := (by repeat (first | with_reducible exact New.refl _ | with_reducible assumption | with_reducible refine New.dr ?_ | with_reducible refine New.al ?_ _) : New w4 _).fr hF1 (by intro k hk; simp [Value.ownBlock] at hk; omega)
        rw [Nat.zero_add, List.nil_append] at hO1
        rw [Nat.zero_add] at hA1
        rw [Nat.zero_add]
        try simp only [Act.put, List.setIfInBounds_toArray, List.set_cons_zero, List.set_cons_succ]
        refine hK.out _ _ (fun _ => hSN _ (by repeat (first | with_reducible exact New.refl _ | with_reducible assumption | with_reducible refine New.dr ?_ | with_reducible refine New.al ?_ _) : New w4 _)) ?_
        refine wpAnyT_ready (rs := [7]) (by kernel_rfl) (by simp) (AllT.cons (i := 7) rfl (fun K hK => ?_) AllT.nil)
        go_simp
        try simp only [Act.put, List.setIfInBounds_toArray, List.set_cons_zero, List.set_cons_succ]
        refine hK.out _ _ (fun _ => hSN _ (by repeat (first | with_reducible exact New.refl _ | with_reducible assumption | with_reducible refine New.dr ?_ | with_reducible refine New.al ?_ _) : New w4 _)) ?_
        refine wpAnyT_ready (rs := [8]) (by kernel_rfl) (by simp) (AllT.cons (i := 8) rfl (fun K hK => ?_) AllT.nil)
        refine step_app elP _ (by rfl) (.tmp 36) (.tmp 40) (by rfl) w4.heap.size (.slice A1' r.fresh.length d1) r.fresh.length (flatP r.fresh) (by rfl) (own_fr (S := NoB) hO1 (by repeat (first | with_reducible exact Fr.refl _ _ | with_reducible refine Fr.drew ?_ | with_reducible refine Fr.alloc ?_ _)) (fun _ _ h => h)) (some ⟨_, 0, none⟩) 1 1 (putA x s).toList (by rfl) (Rd.ofBlk (p := fun _ => True) (t := 87) (cs := putA x s) (by repeat (first | with_reducible exact Blk.new' _ _ _ (by first | rfl | (simp; done)) | with_reducible refine Blk.drew ?_ | with_reducible refine Blk.alloc ?_ _ | with_reducible refine Blk.fr ?_ hF1 (by simp [Value.ownBlock]))) 65 1 (by rw [z5]) trivial) (by intro u hu; exact PU.one ⟨x, s⟩ u (by simpa [putA] using hu)) (by unfold maxLen; omega) (by omega) ((by repeat (first | with_reducible exact New.refl _ | with_reducible assumption | with_reducible refine New.dr ?_ | with_reducible refine New.al ?_ _) : New w4 _).size) ?_
        intro A2' d2' w6 hO2 hF2 hA2
        have hN2 : New w4 w6 := (by repeat (first | with_reducible exact New.refl _ | with_reducible assumption | with_reducible refine New.dr ?_ | with_reducible refine New.al ?_ _) : New w4 _).fr hF2 (by intro k hk; exact (own_lt hO1 k hk).1)
        have HO2 := Lib.hid hO2
        have hK6 := hN2.blk HB4.out
        have h60 := hK6.cell 2
        have h6f := hK6.frozen 2
        clear hO2 hA2 hF2 hA1 hO1 hF1
        try simp only [Act.put, List.setIfInBounds_toArray, List.set_cons_zero, List.set_cons_succ]
        refine hK.out _ _ (fun _ => hSN _ (by repeat (first | with_reducible exact New.refl _ | with_reducible assumption | with_reducible refine New.dr ?_ | with_reducible refine New.al ?_ _) : New w4 _)) ?_
        refine wpAnyT_take (i := 9) (v := .pointer (some ⟨G, 2, none⟩)) rfl (by kernel_rfl) (by kernel_rfl) (by kernel_rfl) (by kernel_rfl) (fun _ _ _ h => h) (Or.inl ⟨by rfl, fun w hSw => by have h1 := hSw.1; have h2 := hSw.2; clear hSw; go_simp⟩) (hSN _ (by repeat (first | with_reducible exact New.refl _ | with_reducible assumption | with_reducible refine New.dr ?_ | with_reducible refine New.al ?_ _) : New w4 _)) ?_
        try simp only [Act.put, List.setIfInBounds_toArray, List.set_cons_zero, List.set_cons_succ]
        refine wpAnyT_ready (rs := [10]) (by kernel_rfl) (by simp) (AllT.cons (i := 10) rfl (fun K hK => ?_) AllT.nil)
        go_simp
        try simp only [Act.put, List.setIfInBounds_toArray, List.set_cons_zero, List.set_cons_succ]
        refine hK.out _ _ (fun h => absurd rfl h) ?_
        refine wpAnyT_done (by kernel_rfl) ?_ _
        obtain ⟨w7, hw7⟩ : ∃ w7 : World, w7 = w6.setCell ⟨G, 2, none⟩ (.slice A2' (r.fresh.length + 1) d2') := ⟨_, rfl⟩
        have HB7 : Hid (Blk w7 G 33 #[.int .i64 r.size, .slice A1 r.sure.length c1, .slice A2' (r.fresh.length + 1) d2', .int .i64 r.burn.fuse, .bool false]) := Lib.hid (by rw [hw7]; exact hK6.set 2 _)
        have HF7 : Hid (Fr (fun k => k = G) w6 w7) := Lib.hid (by rw [hw7]; exact (Fr.refl (fun k => k = G) w6).setCell (p := ⟨G, 2, none⟩) (fun _ => rfl) _)
        have HR7 := Lib.hid ((New.blk hN2 HR4.out).fr HF7.out (by omega))
        have HN2 := Lib.hid hN2
        have HK6 := Lib.hid hK6
        try rw [← hw7]
        clear hw7 hK6 h60 h6f hN2 hN1 hSN z1 z2 z3 z4 z5 z6 zl hi hu d2 d2a d2b
        go_wp2_with (first
          | ((with_reducible refine atOp ⟨some 43, .load _ _, _, _, _, _⟩ ?_); refine wpList_load_any rfl _ rfl Tryd.underlying33 rfl rfl rfl HB7.out ?_)
          | ((with_reducible refine atOp ⟨none, .store 33 (.tmp 6) _, _, _, _, _⟩ ?_); refine wpList_store_any rfl (.tmp 6) (.tmp 43) rfl rfl rfl rfl HR7.out rfl (rf_one _ _ _ _ _ _ _ _ _) ?_; intro w8 hb8 hf8; have HB8 := Lib.hid hb8; have HF8 := Lib.hid hf8; clear hb8 hf8))
        refine bodyPost_ret (results_row2 rfl _ _ (G + 1 + 1) _ _ rfl HB8.out Tryd.underlying33 rfl rfl) rfl ?_
        have hF48 : Fr (fun k => k = G ∨ k = G + 1 + 1) w4 w8 := ((HN2.out.toFr _).trans (HF7.out.mono fun b _ h => .inl h)).trans (HF8.out.mono fun b _ h => .inr h)
        have hN8 : New w w8 := ((HN3.out.fr HF34.out (fun k hk => by have := HGW.out; omega)).fr hF48 (fun k hk => by have := HGW.out; omega))
        refine ⟨⟨A1, c1, A2', d2', ?_, ?_⟩, hN8⟩
        · rw [HW.out]
          unfold RfV
          simp only [List.length_append, List.length_singleton]
          have : r.burn.down = false := HDN.out
          rw [this]
          rfl
        · rw [HW.out]
          refine ⟨?_, ?_, ?_⟩
          · have hF38 : Fr (fun k => k = G ∨ k = G + 1 + 1) w3 w8 := (HF34.out.mono fun b _ h => .inl h).trans hF48
            exact (H.out.new HN3.out).sure.fr hF38 (fun k hk => by rcases hk with rfl | rfl <;> first | exact IsT.not_blk HB3.out (by decide) | exact IsT.not_blk HR3.out (by decide))
          · have h6 : RdT 87 w6 65 A2' (r.fresh.length + 1) (flatP (r.fresh ++ [⟨x, s⟩])) := by
              have := RdT.own HO2.out rfl
              rw [flatP_app, flatP_one]
              simpa [putA] using this
            have hF68 : Fr (fun k => k = G ∨ k = G + 1 + 1) w6 w8 := (HF7.out.mono fun b _ h => .inl h).trans (HF8.out.mono fun b _ h => .inr h)
            have := h6.fr hF68 (fun k hk => by rcases hk with rfl | rfl <;> first | exact IsT.not_blk HK6.out (by decide) | exact IsT.not_blk (New.blk HN2.out HR4.out) (by decide))
            simpa using this
          · rw [← HW.out]; exact H.out.ok.write x HS.out
      · skip
        go_simp
        try simp only [Act.put, List.setIfInBounds_toArray, List.set_cons_zero, List.set_cons_succ]
        refine hK.out _ _ (fun _ => hSN _ (by repeat (first | with_reducible exact New.refl _ | with_reducible assumption | with_reducible refine New.dr ?_ | with_reducible refine New.al ?_ _) : New w4 _)) ?_
        refine wpAnyT_ready (rs := [3]) (by kernel_rfl) (by simp) (AllT.cons (i := 3) rfl (fun K hK => ?_) AllT.nil)
        refine step_app elP _ (by rfl) (.tmp 33) (.tmp 35) (by rfl) w4.heap.size (.slice (some ⟨_, 0, none⟩) 0 0) 0 [] (by rfl) (own_lit (by repeat (first | with_reducible exact Blk.new' _ _ _ (by first | rfl | (simp; done)) | with_reducible refine Blk.drew ?_ | with_reducible refine Blk.alloc ?_ _ | with_reducible refine Blk.fr ?_ hF1 (by simp [Value.ownBlock]))) (by first | (simp; done) | (simp; omega))) A2 r.fresh.length c2 (flatP r.fresh) (by rfl) ((by repeat (first | with_reducible exact New.refl _ | with_reducible assumption | with_reducible refine New.dr ?_ | with_reducible refine New.al ?_ _) : New w4 _).rd HR4'.out) HP1.out (by unfold maxLen; omega) (by omega) (by first | (simp; done) | (simp; omega)) ?_
        intro A1' d1 w5 hO1 hF1 hA1
        have hN1 : New w4 w5 := (by repeat (first | with_reducible exact New.refl _ | with_reducible assumption | with_reducible refine New.dr ?_ | with_reducible refine New.al ?_ _) : New w4 _).fr hF1 (by intro k hk; simp [Value.ownBlock] at hk; omega)
        rw [Nat.zero_add, List.nil_append] at hO1
        rw [Nat.zero_add] at hA1
        rw [Nat.zero_add]
        try simp only [Act.put, List.setIfInBounds_toArray, List.set_cons_zero, List.set_cons_succ]
        refine hK.out _ _ (fun _ => hSN _ (by repeat (first | with_reducible exact New.refl _ | with_reducible assumption | with_reducible refine New.dr ?_ | with_reducible refine New.al ?_ _) : New w4 _)) ?_
        refine wpAnyT_ready (rs := [8]) (by kernel_rfl) (by simp) (AllT.cons (i := 8) rfl (fun K hK => ?_) AllT.nil)
        refine step_app elP _ (by rfl) (.tmp 36) (.tmp 40) (by rfl) w4.heap.size (.slice A1' r.fresh.length d1) r.fresh.length (flatP r.fresh) (by rfl) (own_fr (S := NoB) hO1 (by repeat (first | with_reducible exact Fr.refl _ _ | with_reducible refine Fr.drew ?_ | with_reducible refine Fr.alloc ?_ _)) (fun _ _ h => h)) (some ⟨_, 0, none⟩) 1 1 (putA x s).toList (by rfl) (Rd.ofBlk (p := fun _ => True) (t := 87) (cs := putA x s) (by repeat (first | with_reducible exact Blk.new' _ _ _ (by first | rfl | (simp; done)) | with_reducible refine Blk.drew ?_ | with_reducible refine Blk.alloc ?_ _ | with_reducible refine Blk.fr ?_ hF1 (by simp [Value.ownBlock]))) 65 1 (by rw [z5]) trivial) (by intro u hu; exact PU.one ⟨x, s⟩ u (by simpa [putA] using hu)) (by unfold maxLen; omega) (by omega) ((by repeat (first | with_reducible exact New.refl _ | with_reducible assumption | with_reducible refine New.dr ?_ | with_reducible refine New.al ?_ _) : New w4 _).size) ?_
        intro A2' d2' w6 hO2 hF2 hA2
        have hN2 : New w4 w6 := (by repeat (first | with_reducible exact New.refl _ | with_reducible assumption | with_reducible refine New.dr ?_ | with_reducible refine New.al ?_ _) : New w4 _).fr hF2 (by intro k hk; exact (own_lt hO1 k hk).1)
        have HO2 := Lib.hid hO2
        have hK6 := hN2.blk HB4.out
        have h60 := hK6.cell 2
        have h6f := hK6.frozen 2
        clear hO2 hA2 hF2 hA1 hO1 hF1
        try simp only [Act.put, List.setIfInBounds_toArray, List.set_cons_zero, List.set_cons_succ]
        refine hK.out _ _ (fun _ => hSN _ (by repeat (first | with_reducible exact New.refl _ | with_reducible assumption | with_reducible refine New.dr ?_ | with_reducible refine New.al ?_ _) : New w4 _)) ?_
        refine wpAnyT_take (i := 9) (v := .pointer (some ⟨G, 2, none⟩)) rfl (by kernel_rfl) (by kernel_rfl) (by kernel_rfl) (by kernel_rfl) (fun _ _ _ h => h) (Or.inl ⟨by rfl, fun w hSw => by have h1 := hSw.1; have h2 := hSw.2; clear hSw; go_simp⟩) (hSN _ (by repeat (first | with_reducible exact New.refl _ | with_reducible assumption | with_reducible refine New.dr ?_ | with_reducible refine New.al ?_ _) : New w4 _)) ?_
        try simp only [Act.put, List.setIfInBounds_toArray, List.set_cons_zero, List.set_cons_succ]
        refine wpAnyT_ready (rs := [10]) (by kernel_rfl) (by simp) (AllT.cons (i := 10) rfl (fun K hK => ?_) AllT.nil)
        go_simp
        try simp only [Act.put, List.setIfInBounds_toArray, List.set_cons_zero, List.set_cons_succ]
        refine hK.out _ _ (fun h => absurd rfl h) ?_
        refine wpAnyT_done (by kernel_rfl) ?_ _
        obtain ⟨w7, hw7⟩ : ∃ w7 : World, w7 = w6.setCell ⟨G, 2, none⟩ (.slice A2' (r.fresh.length + 1) d2') := ⟨_, rfl⟩
        have HB7 : Hid (Blk w7 G 33 #[.int .i64 r.size, .slice A1 r.sure.length c1, .slice A2' (r.fresh.length + 1) d2', .int .i64 r.burn.fuse, .bool false]) := Lib.hid (by rw [hw7]; exact hK6.set 2 _)
        have HF7 : Hid (Fr (fun k => k = G) w6 w7) := Lib.hid (by rw [hw7]; exact (Fr.refl (fun k => k = G) w6).setCell (p := ⟨G, 2, none⟩) (fun _ => rfl) _)
        have HR7 := Lib.hid ((New.blk hN2 HR4.out).fr HF7.out (by omega))
        have HN2 := Lib.hid hN2
        have HK6 := Lib.hid hK6
        try rw [← hw7]
        clear hw7 hK6 h60 h6f hN2 hN1 hSN z1 z2 z3 z4 z5 z6 zl hi hu d2 d2a d2b
        go_wp2_with (first
          | ((with_reducible refine atOp ⟨some 43, .load _ _, _, _, _, _⟩ ?_); refine wpList_load_any rfl _ rfl Tryd.underlying33 rfl rfl rfl HB7.out ?_)
          | ((with_reducible refine atOp ⟨none, .store 33 (.tmp 6) _, _, _, _, _⟩ ?_); refine wpList_store_any rfl (.tmp 6) (.tmp 43) rfl rfl rfl rfl HR7.out rfl (rf_one _ _ _ _ _ _ _ _ _) ?_; intro w8 hb8 hf8; have HB8 := Lib.hid hb8; have HF8 := Lib.hid hf8; clear hb8 hf8))
        refine bodyPost_ret (results_row2 rfl _ _ (G + 1 + 1) _ _ rfl HB8.out Tryd.underlying33 rfl rfl) rfl ?_
        have hF48 : Fr (fun k => k = G ∨ k = G + 1 + 1) w4 w8 := ((HN2.out.toFr _).trans (HF7.out.mono fun b _ h => .inl h)).trans (HF8.out.mono fun b _ h => .inr h)
        have hN8 : New w w8 := ((HN3.out.fr HF34.out (fun k hk => by have := HGW.out; omega)).fr hF48 (fun k hk => by have := HGW.out; omega))
        refine ⟨⟨A1, c1, A2', d2', ?_, ?_⟩, hN8⟩
        · rw [HW.out]
          unfold RfV
          simp only [List.length_append, List.length_singleton]
          have : r.burn.down = false := HDN.out
          rw [this]
          rfl
        · rw [HW.out]
          refine ⟨?_, ?_, ?_⟩
          · have hF38 : Fr (fun k => k = G ∨ k = G + 1 + 1) w3 w8 := (HF34.out.mono fun b _ h => .inl h).trans hF48
            exact (H.out.new HN3.out).sure.fr hF38 (fun k hk => by rcases hk with rfl | rfl <;> first | exact IsT.not_blk HB3.out (by decide) | exact IsT.not_blk HR3.out (by decide))
          · have h6 : RdT 87 w6 65 A2' (r.fresh.length + 1) (flatP (r.fresh ++ [⟨x, s⟩])) := by
              have := RdT.own HO2.out rfl
              rw [flatP_app, flatP_one]
              simpa [putA] using this
            have hF68 : Fr (fun k => k = G ∨ k = G + 1 + 1) w6 w8 := (HF7.out.mono fun b _ h => .inl h).trans (HF8.out.mono fun b _ h => .inr h)
            have := h6.fr hF68 (fun k hk => by rcases hk with rfl | rfl <;> first | exact IsT.not_blk HK6.out (by decide) | exact IsT.not_blk (New.blk HN2.out HR4.out) (by decide))
            simpa using this
          · rw [← HW.out]; exact H.out.ok.write x HS.out
    · skip
      go_simp
      try simp only [Act.put, List.setIfInBounds_toArray, List.set_cons_zero, List.set_cons_succ]
      refine hK.out _ _ (fun _ => hSN _ (by repeat (first | with_reducible exact New.refl _ | with_reducible assumption | with_reducible refine New.dr ?_ | with_reducible refine New.al ?_ _) : New w4 _)) ?_
      refine wpAnyT_ready (rs := [0]) (by kernel_rfl) (by simp) (AllT.cons (i := 0) rfl (fun K hK => ?_) AllT.nil)
      go_simp
      try simp only [Act.put, List.setIfInBounds_toArray, List.set_cons_zero, List.set_cons_succ]
      refine hK.out _ _ (fun _ => hSN _ (by repeat (first | with_reducible exact New.refl _ | with_reducible assumption | with_reducible refine New.dr ?_ | with_reducible refine New.al ?_ _) : New w4 _)) ?_
      refine wpAnyT_ready (rs := [3]) (by kernel_rfl) (by simp) (AllT.cons (i := 3) rfl (fun K hK => ?_) AllT.nil)
      refine step_app elP _ (by rfl) (.tmp 33) (.tmp 35) (by rfl) w4.heap.size (.slice (some ⟨_, 0, none⟩) 0 0) 0 [] (by rfl) (own_lit (by repeat (first | with_reducible exact Blk.new' _ _ _ (by first | rfl | (simp; done)) | with_reducible refine Blk.drew ?_ | with_reducible refine Blk.alloc ?_ _ | with_reducible refine Blk.fr ?_ hF1 (by simp [Value.ownBlock]))) (by first | (simp; done) | (simp; omega))) A2 r.fresh.length c2 (flatP r.fresh) (by rfl) ((by repeat (first | with_reducible exact New.refl _ | with_reducible assumption | with_reducible refine New.dr ?_ | with_reducible refine New.al ?_ _) : New w4 _).rd HR4'.out) HP1.out (by unfold maxLen; omega) (by omega) (by first | (simp; done) | (simp; omega)) ?_
      intro A1' d1 w5 hO1 hF1 hA1
      have hN1 : New w4 w5 := (by repeat (first | with_reducible exact New.refl _ | with_reducible assumption | with_reducible refine New.dr ?_ | with_reducible refine New.al ?_ _) : New w4 _).fr hF1 (by intro k hk; simp [Value.ownBlock] at hk; omega)
      rw [Nat.zero_add, List.nil_append] at hO1
      rw [Nat.zero_add] at hA1
      rw [Nat.zero_add]
      try simp only [Act.put, List.setIfInBounds_toArray, List.set_cons_zero, List.set_cons_succ]
      refine hK.out _ _ (fun _ => hSN _ (by repeat (first | with_reducible exact New.refl _ | with_reducible assumption | with_reducible refine New.dr ?_ | with_reducible refine New.al ?_ _) : New w4 _)) ?_
      refine wpAnyT_ready (rs := [8]) (by kernel_rfl) (by simp) (AllT.cons (i := 8) rfl (fun K hK => ?_) AllT.nil)
      refine step_app elP _ (by rfl) (.tmp 36) (.tmp 40) (by rfl) w4.heap.size (.slice A1' r.fresh.length d1) r.fresh.length (flatP r.fresh) (by rfl) (own_fr (S := NoB) hO1 (by repeat (first | with_reducible exact Fr.refl _ _ | with_reducible refine Fr.drew ?_ | with_reducible refine Fr.alloc ?_ _)) (fun _ _ h => h)) (some ⟨_, 0, none⟩) 1 1 (putA x s).toList (by rfl) (Rd.ofBlk (p := fun _ => True) (t := 87) (cs := putA x s) (by repeat (first | with_reducible exact Blk.new' _ _ _ (by first | rfl | (simp; done)) | with_reducible refine Blk.drew ?_ | with_reducible refine Blk.alloc ?_ _ | with_reducible refine Blk.fr ?_ hF1 (by simp [Value.ownBlock]))) 65 1 (by rw [z5]) trivial) (by intro u hu; exact PU.one ⟨x, s⟩ u (by simpa [putA] using hu)) (by unfold maxLen; omega) (by omega) ((by repeat (first | with_reducible exact New.refl _ | with_reducible assumption | with_reducible refine New.dr ?_ | with_reducible refine New.al ?_ _) : New w4 _).size) ?_
      intro A2' d2' w6 hO2 hF2 hA2
      have hN2 : New w4 w6 := (by repeat (first | with_reducible exact New.refl _ | with_reducible assumption | with_reducible refine New.dr ?_ | with_reducible refine New.al ?_ _) : New w4 _).fr hF2 (by intro k hk; exact (own_lt hO1 k hk).1)
      have HO2 := Lib.hid hO2
      have hK6 := hN2.blk HB4.out
      have h60 := hK6.cell 2
      have h6f := hK6.frozen 2
      clear hO2 hA2 hF2 hA1 hO1 hF1
      try simp only [Act.put, List.setIfInBounds_toArray, List.set_cons_zero, List.set_cons_succ]
      refine hK.out _ _ (fun _ => hSN _ (by repeat (first | with_reducible exact New.refl _ | with_reducible assumption | with_reducible refine New.dr ?_ | with_reducible refine New.al ?_ _) : New w4 _)) ?_
      refine wpAnyT_take (i := 9) (v := .pointer (some ⟨G, 2, none⟩)) rfl (by kernel_rfl) (by kernel_rfl) (by kernel_rfl) (by kernel_rfl) (fun _ _ _ h => h) (Or.inl ⟨by rfl, fun w hSw => by have h1 := hSw.1; have h2 := hSw.2; clear hSw; go_simp⟩) (hSN _ (by repeat (first | with_reducible exact New.refl _ | with_reducible assumption | with_reducible refine New.dr ?_ | with_reducible refine New.al ?_ _) : New w4 _)) ?_
      try simp only [Act.put, List.setIfInBounds_toArray, List.set_cons_zero, List.set_cons_succ]
      refine wpAnyT_ready (rs := [10]) (by kernel_rfl) (by simp) (AllT.cons (i := 10) rfl (fun K hK => ?_) AllT.nil)
      go_simp
      try simp only [Act.put, List.setIfInBounds_toArray, List.set_cons_zero, List.set_cons_succ]
      refine hK.out _ _ (fun h => absurd rfl h) ?_
      refine wpAnyT_done (by kernel_rfl) ?_ _
      obtain ⟨w7, hw7⟩ : ∃ w7 : World, w7 = w6.setCell ⟨G, 2, none⟩ (.slice A2' (r.fresh.length + 1) d2') := ⟨_, rfl⟩
      have HB7 : Hid (Blk w7 G 33 #[.int .i64 r.size, .slice A1 r.sure.length c1, .slice A2' (r.fresh.length + 1) d2', .int .i64 r.burn.fuse, .bool false]) := Lib.hid (by rw [hw7]; exact hK6.set 2 _)
      have HF7 : Hid (Fr (fun k => k = G) w6 w7) := Lib.hid (by rw [hw7]; exact (Fr.refl (fun k => k = G) w6).setCell (p := ⟨G, 2, none⟩) (fun _ => rfl) _)
      have HR7 := Lib.hid ((New.blk hN2 HR4.out).fr HF7.out (by omega))
      have HN2 := Lib.hid hN2
      have HK6 := Lib.hid hK6
      try rw [← hw7]
      clear hw7 hK6 h60 h6f hN2 hN1 hSN z1 z2 z3 z4 z5 z6 zl hi hu d2 d2a d2b
      go_wp2_with (first
        | ((with_reducible refine atOp ⟨some 43, .load _ _, _, _, _, _⟩ ?_); refine wpList_load_any rfl _ rfl Tryd.underlying33 rfl rfl rfl HB7.out ?_)
        | ((with_reducible refine atOp ⟨none, .store 33 (.tmp 6) _, _, _, _, _⟩ ?_); refine wpList_store_any rfl (.tmp 6) (.tmp 43) rfl rfl rfl rfl HR7.out rfl (rf_one _ _ _ _ _ _ _ _ _) ?_; intro w8 hb8 hf8; have HB8 := Lib.hid hb8; have HF8 := Lib.hid hf8; clear hb8 hf8))
      refine bodyPost_ret (results_row2 rfl _ _ (G + 1 + 1) _ _ rfl HB8.out Tryd.underlying33 rfl rfl) rfl ?_
      have hF48 : Fr (fun k => k = G ∨ k = G + 1 + 1) w4 w8 := ((HN2.out.toFr _).trans (HF7.out.mono fun b _ h => .inl h)).trans (HF8.out.mono fun b _ h => .inr h)
      have hN8 : New w w8 := ((HN3.out.fr HF34.out (fun k hk => by have := HGW.out; omega)).fr hF48 (fun k hk => by have := HGW.out; omega))
      refine ⟨⟨A1, c1, A2', d2', ?_, ?_⟩, hN8⟩
      · rw [HW.out]
        unfold RfV
        simp only [List.length_append, List.length_singleton]
        have : r.burn.down = false := HDN.out
        rw [this]
        rfl
      · rw [HW.out]
        refine ⟨?_, ?_, ?_⟩
        · have hF38 : Fr (fun k => k = G ∨ k = G + 1 + 1) w3 w8 := (HF34.out.mono fun b _ h => .inl h).trans hF48
          exact (H.out.new HN3.out).sure.fr hF38 (fun k hk => by rcases hk with rfl | rfl <;> first | exact IsT.not_blk HB3.out (by decide) | exact IsT.not_blk HR3.out (by decide))
        · have h6 : RdT 87 w6 65 A2' (r.fresh.length + 1) (flatP (r.fresh ++ [⟨x, s⟩])) := by
            have := RdT.own HO2.out rfl
            rw [flatP_app, flatP_one]
            simpa [putA] using this
          have hF68 : Fr (fun k => k = G ∨ k = G + 1 + 1) w6 w8 := (HF7.out.mono fun b _ h => .inl h).trans (HF8.out.mono fun b _ h => .inr h)
          have := h6.fr hF68 (fun k hk => by rcases hk with rfl | rfl <;> first | exact IsT.not_blk HK6.out (by decide) | exact IsT.not_blk (New.blk HN2.out HR4.out) (by decide))
          simpa using this
        · rw [← HW.out]; exact H.out.ok.write x HS.out
    -- behind the region
end Go.Proofs.YtdojmjglnlkmoaaDoor
/- The reference's disk: written in whatever state. No condition but that it can be read. -/
namespace Go.Proofs.YtdojmjglnlkmoaaDoor
set_option linter.unusedVariables false
set_option linter.unusedSimpArgs false
set_option linter.constructorNameAsVariable false
open Go.RowKit Go.Maps

set_option maxHeartbeats 4000000 in
set_option maxRecDepth 100000 in
theorem rwrite_no (r : RP) (A1 : Option Addr) (c1 : Nat) (A2 : Option Addr) (c2 : Nat) (x : Int) (s : List Int) (w : World) (h : RfIn w r A1 A2) (hs : SecOk s) (hx : (Lit.int .i64 x).wf = true) (hz : -9223372036854775808 ≤ r.size ∧ r.size ≤ 9223372036854775807) (hw : ¬ (0 ≤ x ∧ x < r.size)) :
    Calls Tryd.prog 11 #[.agg (RfV r A1 c1 A2 c2), .int .i64 x, .agg (secA s)] w fun e w' => RfEnd w' r 1 e ∧ New w w' := by
  have H := Lib.hid h
  have hxb := bounds_i64 hx
  have ht : decide (x < 0) = true ∨ (decide (x < 0) = false ∧ decide (r.size ≤ x) = true) := by
    by_cases h0 : x < 0
    · exact .inl (decide_eq_true h0)
    · exact .inr ⟨decide_eq_false h0, decide_eq_true (by omega)⟩
  unfold RfV
  clear h hx hw hs
  rcases ht with t0 | ⟨t0, t1⟩
  all_goals
    go_enter Tryd.func11, Tryd.ntmps11
    go_upto_region 2 with fail
    obtain ⟨w3, hw3⟩ : ∃ w3 : World, w3 = ((w.alloc (.cells #[.int .i64 r.size, .slice A1 r.sure.length c1, .slice A2 r.fresh.length c2, .int .i64 r.fuse, .bool r.down] 33)).alloc (.cells (secA s) 23)).alloc (.cells #[.int .i64 0, .slice none 0 0, .slice none 0 0, .int .i64 0, .bool false] 33) := ⟨_, rfl⟩
    obtain ⟨G, hG⟩ : ∃ G, G = w.heap.size := ⟨_, rfl⟩
    rw [← hG]
    have HN3 : Hid (New w w3) := Lib.hid (by rw [hw3]; exact (((New.refl w).al _).al _).al _)
    have HB3 : Hid (Blk w3 G 33 #[.int .i64 r.size, .slice A1 r.sure.length c1, .slice A2 r.fresh.length c2, .int .i64 r.fuse, .bool r.down]) := Lib.hid (by rw [hw3, hG]; exact ((Blk.new _ _ _).alloc _).alloc _)
    have HR3 : Hid (Blk w3 (G + 1 + 1) 33 #[.int .i64 0, .slice none 0 0, .slice none 0 0, .int .i64 0, .bool false]) := Lib.hid (by rw [hw3, hG]; exact Blk.new' _ _ _ (by simp))
    rw [← hw3]
    have HGW : Hid (G = w.heap.size) := Lib.hid hG
    clear hw3 hG
    go_wp2_with (first
      | ((with_reducible refine atOp ⟨some 16, .load _ _, _, _, _, _⟩ ?_); refine wpList_load_any rfl _ rfl Tryd.underlying33 rfl rfl rfl HB3.out ?_)
      | ((with_reducible refine atOp ⟨none, .store 33 (.tmp 6) _, _, _, _, _⟩ ?_); refine wpList_store_any rfl (.tmp 6) (.tmp 16) rfl rfl rfl rfl HR3.out rfl (rf_one _ _ _ _ _ _ _ _ _) ?_; intro w8 hb8 hf8; have HB8 := Lib.hid hb8; have HF8 := Lib.hid hf8; clear hb8 hf8))
    refine bodyPost_ret (results_row2 rfl _ _ (G + 1 + 1) _ _ rfl HB8.out Tryd.underlying33 rfl rfl) rfl ?_
    refine ⟨⟨A1, c1, A2, c2, rfl, (H.out.new HN3.out).fr HF8.out (fun k hk => by subst hk; exact IsT.not_blk HR3.out (by decide))⟩, HN3.out.fr HF8.out (fun k hk => by have := HGW.out; omega)⟩
set_option maxHeartbeats 4000000 in
set_option maxRecDepth 100000 in
theorem rwrite_down (r : RP) (A1 : Option Addr) (c1 : Nat) (A2 : Option Addr) (c2 : Nat) (x : Int) (s : List Int) (w : World) (h : RfIn w r A1 A2) (hs : SecOk s) (hx : (Lit.int .i64 x).wf = true) (hw : 0 ≤ x ∧ x < r.size) (hd : r.fuse = 0 ∨ r.down = true) :
    Calls Tryd.prog 11 #[.agg (RfV r A1 c1 A2 c2), .int .i64 x, .agg (secA s)] w fun e w' => RfEnd w' { r with down := true } 14 e ∧ New w w' := by
  have H := Lib.hid h
  have hxb := bounds_i64 hx
  have t0 : decide (x < 0) = false := decide_eq_false (by omega)
  have t1 : decide (r.size ≤ x) = false := decide_eq_false (by omega)
  obtain ⟨dn, hdn⟩ : ∃ dn, dn = r.down := ⟨_, rfl⟩
  have ht : (r.fuse == 0) = true ∨ ((r.fuse == 0) = false ∧ dn = true) := by
    by_cases h0 : r.fuse = 0
    · exact .inl (by simp [h0])
    · exact .inr ⟨by simp [h0], by rw [hdn]; exact hd.resolve_left h0⟩
  unfold RfV
  rw [← hdn]
  clear h hx hw hs hd hdn
  have ht2 : (dn = false ∧ (r.fuse == 0) = true) ∨ (dn = true ∧ (r.fuse == 0) = true) ∨ (dn = true ∧ (r.fuse == 0) = false) := by
    rcases ht with h | ⟨h1, h2⟩
    · cases dn
      · exact .inl ⟨rfl, h⟩
      · exact .inr (.inl ⟨rfl, h⟩)
    · exact .inr (.inr ⟨h2, h1⟩)
  clear ht
  rcases ht2 with ⟨rfl, t2⟩ | ⟨rfl, t2⟩ | ⟨rfl, t2⟩
  all_goals
    go_enter Tryd.func11, Tryd.ntmps11
    go_upto_region 4 with fail
    obtain ⟨G, hG⟩ : ∃ G, G = w.heap.size := ⟨_, rfl⟩
    rw [← hG]
    first
      | (obtain ⟨dd, hdd⟩ : ∃ dd, dd = true := ⟨_, rfl⟩; obtain ⟨w3, hw3⟩ : ∃ w3 : World, w3 = ((w.alloc (.cells #[.int .i64 r.size, .slice A1 r.sure.length c1, .slice A2 r.fresh.length c2, .int .i64 r.fuse, .bool true] 33)).alloc (.cells (secA s) 23)).alloc (.cells #[.int .i64 0, .slice none 0 0, .slice none 0 0, .int .i64 0, .bool false] 33) := ⟨_, rfl⟩; rw [← hw3]; have hw4 : w3 = ((w.alloc (.cells #[.int .i64 r.size, .slice A1 r.sure.length c1, .slice A2 r.fresh.length c2, .int .i64 r.fuse, .bool dd] 33)).alloc (.cells (secA s) 23)).alloc (.cells #[.int .i64 0, .slice none 0 0, .slice none 0 0, .int .i64 0, .bool false] 33) := by rw [hw3, hdd]
         clear hw3; have hw3 := hw4; clear hw4; have HDD := Lib.hid hdd; clear hdd)
      | (obtain ⟨dd, hdd⟩ : ∃ dd, dd = false := ⟨_, rfl⟩; obtain ⟨w3, hw3⟩ : ∃ w3 : World, w3 = ((w.alloc (.cells #[.int .i64 r.size, .slice A1 r.sure.length c1, .slice A2 r.fresh.length c2, .int .i64 r.fuse, .bool false] 33)).alloc (.cells (secA s) 23)).alloc (.cells #[.int .i64 0, .slice none 0 0, .slice none 0 0, .int .i64 0, .bool false] 33) := ⟨_, rfl⟩; rw [← hw3]; have hw4 : w3 = ((w.alloc (.cells #[.int .i64 r.size, .slice A1 r.sure.length c1, .slice A2 r.fresh.length c2, .int .i64 r.fuse, .bool dd] 33)).alloc (.cells (secA s) 23)).alloc (.cells #[.int .i64 0, .slice none 0 0, .slice none 0 0, .int .i64 0, .bool false] 33) := by rw [hw3, hdd]
         clear hw3; have hw3 := hw4; clear hw4; have HDD := Lib.hid hdd; clear hdd)
    have HN3 : Hid (New w w3) := Lib.hid (by rw [hw3]; exact (((New.refl w).al _).al _).al _)
    have HB3 : Hid (Blk w3 G 33 #[.int .i64 r.size, .slice A1 r.sure.length c1, .slice A2 r.fresh.length c2, .int .i64 r.fuse, .bool dd]) := Lib.hid (by rw [hw3, hG]; exact ((Blk.new _ _ _).alloc _).alloc _)
    have HR3 : Hid (Blk w3 (G + 1 + 1) 33 #[.int .i64 0, .slice none 0 0, .slice none 0 0, .int .i64 0, .bool false]) := Lib.hid (by rw [hw3, hG]; exact Blk.new' _ _ _ (by simp))
    have HGW : Hid (G = w.heap.size) := Lib.hid hG
    have i4 := HB3.out.cell 4
    have q4 := HB3.out.frozen 4
    clear hw3 hG
    go_upto_region 5 with fail
    obtain ⟨w4, hw4⟩ : ∃ w4 : World, w4 = w3.setCell ⟨G, 4, none⟩ (.bool true) := ⟨_, rfl⟩
    have HB4 : Hid (Blk w4 G 33 #[.int .i64 r.size, .slice A1 r.sure.length c1, .slice A2 r.fresh.length c2, .int .i64 r.fuse, .bool true]) := Lib.hid (by rw [hw4]; exact HB3.out.set 4 _)
    have HF4 : Hid (Fr (fun k => k = G) w3 w4) := Lib.hid (by rw [hw4]; exact (Fr.refl (fun k => k = G) w3).setCell (p := ⟨G, 4, none⟩) (fun _ => rfl) _)
    have HR4 := Lib.hid (HR3.out.fr HF4.out (by omega))
    rw [← hw4]
    clear hw4 i4 q4
    go_wp2_with (first
      | ((with_reducible refine atOp ⟨some 25, .load _ _, _, _, _, _⟩ ?_); refine wpList_load_any rfl _ rfl Tryd.underlying33 rfl rfl rfl HB4.out ?_)
      | ((with_reducible refine atOp ⟨none, .store 33 (.tmp 6) _, _, _, _, _⟩ ?_); refine wpList_store_any rfl (.tmp 6) (.tmp 25) rfl rfl rfl rfl HR4.out rfl (rf_one _ _ _ _ _ _ _ _ _) ?_; intro w8 hb8 hf8; have HB8 := Lib.hid hb8; have HF8 := Lib.hid hf8; clear hb8 hf8))
    refine bodyPost_ret (results_row2 rfl _ _ (G + 1 + 1) _ _ rfl HB8.out Tryd.underlying33 rfl rfl) rfl ?_
    have hF38 : Fr (fun k => k = G ∨ k = G + 1 + 1) w3 w8 := (HF4.out.mono fun b _ h => .inl h).trans (HF8.out.mono fun b _ h => .inr h)
    have hI := (H.out.new HN3.out).fr hF38 (fun k hk => by rcases hk with rfl | rfl <;> first | exact IsT.not_blk HB3.out (by decide) | exact IsT.not_blk HR3.out (by decide))
    exact ⟨⟨A1, c1, A2, c2, rfl, ⟨hI.sure, hI.fresh, hI.ok⟩⟩, HN3.out.fr hF38 (fun k hk => by have := HGW.out; omega)⟩
/-- Write, whole. -/
theorem rwrite_any (r : RP) (A1 : Option Addr) (c1 : Nat) (A2 : Option Addr) (c2 : Nat) (x : Int) (s : List Int) (w : World) (h : RfIn w r A1 A2) (hs : SecOk s) (hn : r.tot ≤ 100000) (hx : (Lit.int .i64 x).wf = true) (hf : (Lit.int .i64 r.fuse).wf = true) (hz : -9223372036854775808 ≤ r.size ∧ r.size ≤ 9223372036854775807) :
    Calls Tryd.prog 11 #[.agg (RfV r A1 c1 A2 c2), .int .i64 x, .agg (secA s)] w fun e w' => RfEnd w' (r.write x s) (r.wcode x) e ∧ New w w' := by
  by_cases hw : 0 ≤ x ∧ x < r.size
  · have e1 : r.within x = true := decide_eq_true hw
    by_cases hd : r.fuse = 0 ∨ r.down = true
    · have : r.write x s = { r with down := true } := by unfold RP.write; rw [e1, if_pos rfl, if_pos hd]
      rw [this, show r.wcode x = 14 from by unfold RP.wcode; rw [e1, if_pos rfl, if_pos hd]]
      exact rwrite_down r A1 c1 A2 c2 x s w h hs hx hw hd
    · rw [show r.wcode x = 0 from by unfold RP.wcode; rw [e1, if_pos rfl, if_neg hd]]
      exact rwrite_in r A1 c1 A2 c2 x s w h hs hn hx hf hw hd
  · have e1 : r.within x = false := decide_eq_false hw
    rw [show r.write x s = r from by unfold RP.write; rw [e1, if_neg (by simp)], show r.wcode x = 1 from by unfold RP.wcode; rw [e1, if_neg (by simp)]]
    exact rwrite_no r A1 c1 A2 c2 x s w h hs hx hz hw
end Go.Proofs.YtdojmjglnlkmoaaDoor
/- The reference's disk: synced. No condition but that it can be read. -/
namespace Go.Proofs.YtdojmjglnlkmoaaDoor
set_option linter.unusedVariables false
set_option linter.unusedSimpArgs false
set_option linter.constructorNameAsVariable false
open Go.RowKit Go.Maps

set_option maxHeartbeats 4000000 in
set_option maxRecDepth 100000 in
theorem rsync_down (r : RP) (A1 : Option Addr) (c1 : Nat) (A2 : Option Addr) (c2 : Nat) (w : World) (h : RfIn w r A1 A2) (hd : r.down = true) :
    Calls Tryd.prog 43 #[.agg (RfV r A1 c1 A2 c2)] w fun e w' => RfEnd w' r 14 e ∧ New w w' := by
  have H := Lib.hid h
  have HDN := Lib.hid hd
  unfold RfV
  rw [hd]
  clear h hd
  go_enter Tryd.func43, Tryd.ntmps43
  go_upto_region 2 with fail
  obtain ⟨w3, hw3⟩ : ∃ w3 : World, w3 = (w.alloc (.cells #[.int .i64 r.size, .slice A1 r.sure.length c1, .slice A2 r.fresh.length c2, .int .i64 r.fuse, .bool true] 33)).alloc (.cells #[.int .i64 0, .slice none 0 0, .slice none 0 0, .int .i64 0, .bool false] 33) := ⟨_, rfl⟩
  obtain ⟨G, hG⟩ : ∃ G, G = w.heap.size := ⟨_, rfl⟩
  rw [← hG]
  have HN3 : Hid (New w w3) := Lib.hid (by rw [hw3]; exact ((New.refl w).al _).al _)
  have HB3 : Hid (Blk w3 G 33 #[.int .i64 r.size, .slice A1 r.sure.length c1, .slice A2 r.fresh.length c2, .int .i64 r.fuse, .bool true]) := Lib.hid (by rw [hw3, hG]; exact (Blk.new _ _ _).alloc _)
  have HR3 : Hid (Blk w3 (G + 1) 33 #[.int .i64 0, .slice none 0 0, .slice none 0 0, .int .i64 0, .bool false]) := Lib.hid (by rw [hw3, hG]; exact Blk.new' _ _ _ (by simp))
  rw [← hw3]
  have HGW : Hid (G = w.heap.size) := Lib.hid hG
  clear hw3 hG
  go_wp2_with (first
    | ((with_reducible refine atOp ⟨some 6, .load _ _, _, _, _, _⟩ ?_); refine wpList_load_any rfl _ rfl Tryd.underlying33 rfl rfl rfl HB3.out ?_)
    | ((with_reducible refine atOp ⟨none, .store 33 (.tmp 2) _, _, _, _, _⟩ ?_); refine wpList_store_any rfl (.tmp 2) (.tmp 6) rfl rfl rfl rfl HR3.out rfl (rf_one _ _ _ _ _ _ _ _ _) ?_; intro w8 hb8 hf8; have HB8 := Lib.hid hb8; have HF8 := Lib.hid hf8; clear hb8 hf8))
  refine bodyPost_ret (results_row2 rfl _ _ (G + 1) _ _ rfl HB8.out Tryd.underlying33 rfl rfl) rfl ?_
  refine ⟨⟨A1, c1, A2, c2, ?_, (H.out.new HN3.out).fr HF8.out (fun k hk => by subst hk; exact IsT.not_blk HR3.out (by decide))⟩, HN3.out.fr HF8.out (fun k hk => by have := HGW.out; omega)⟩
  unfold RfV
  rw [HDN.out]
  rfl
set_option maxHeartbeats 4000000 in
set_option maxRecDepth 100000 in
theorem rsync_in (r : RP) (A1 : Option Addr) (c1 : Nat) (A2 : Option Addr) (c2 : Nat) (w : World) (h : RfIn w r A1 A2) (hd : r.down = false) (hn : r.tot ≤ 100000) :
    Calls Tryd.prog 43 #[.agg (RfV r A1 c1 A2 c2)] w fun e w' => RfEnd w' r.sync 0 e ∧ New w w' := by
  have H := Lib.hid h
  have HDN := Lib.hid hd
  have hn1 : r.sure.length + r.fresh.length ≤ 100000 := hn
  have HW : Hid (r.sync = { r with sure := r.sure ++ r.fresh, fresh := [] }) := Lib.hid (by unfold RP.sync; rw [hd, if_neg (by simp)])
  have HP1 : Hid (∀ u ∈ flatP r.sure, u.oneCell' = true) := Lib.hid (flatP_cell _)
  have HP2 : Hid (∀ u ∈ flatP r.fresh, u.oneCell' = true) := Lib.hid (flatP_cell _)
  unfold RfV
  rw [hd]
  clear h hd hn
  go_enter Tryd.func43, Tryd.ntmps43
  go_upto_region 3 with fail
  obtain ⟨w3, hw3⟩ : ∃ w3 : World, w3 = (w.alloc (.cells #[.int .i64 r.size, .slice A1 r.sure.length c1, .slice A2 r.fresh.length c2, .int .i64 r.fuse, .bool false] 33)).alloc (.cells #[.int .i64 0, .slice none 0 0, .slice none 0 0, .int .i64 0, .bool false] 33) := ⟨_, rfl⟩
  obtain ⟨G, hG⟩ : ∃ G, G = w.heap.size := ⟨_, rfl⟩
  rw [← hG]
  have HN3 : Hid (New w w3) := Lib.hid (by rw [hw3]; exact ((New.refl w).al _).al _)
  have HB3 : Hid (Blk w3 G 33 #[.int .i64 r.size, .slice A1 r.sure.length c1, .slice A2 r.fresh.length c2, .int .i64 r.fuse, .bool false]) := Lib.hid (by rw [hw3, hG]; exact (Blk.new _ _ _).alloc _)
  have HR3 : Hid (Blk w3 (G + 1) 33 #[.int .i64 0, .slice none 0 0, .slice none 0 0, .int .i64 0, .bool false]) := Lib.hid (by rw [hw3, hG]; exact Blk.new' _ _ _ (by simp))
  rw [← hw3]
  have HGW : Hid (G = w.heap.size) := Lib.hid hG
  clear hw3 hG
  have hSN : ∀ w', New w3 w' → w'.cell? ⟨G, 1, none⟩ = some (.slice A1 r.sure.length c1) ∧ w'.cell? ⟨G, 2, none⟩ = some (.slice A2 r.fresh.length c2) := fun w' hN => ⟨hN.cell_ (HB3.out.cell 1), hN.cell_ (HB3.out.cell 2)⟩
  refine wp_region_T (fun w' => w'.cell? ⟨G, 1, none⟩ = some (.slice A1 r.sure.length c1) ∧ w'.cell? ⟨G, 2, none⟩ = some (.slice A2 r.fresh.length c2)) 8 (by kernel_rfl) ?_
  refine wpAnyT_take (i := 1) (v := .pointer (some ⟨G, 1, none⟩)) rfl (by kernel_rfl) (by kernel_rfl) (by kernel_rfl) (by kernel_rfl) (fun _ _ _ h => h) (Or.inl ⟨by rfl, fun w hSw => by have h1 := hSw.1; have h2 := hSw.2; clear hSw; go_simp⟩) (hSN _ (by repeat (first | with_reducible exact New.refl _ | with_reducible assumption | with_reducible refine New.dr ?_ | with_reducible refine New.al ?_ _) : New w3 _)) ?_
  try simp only [Act.put, List.setIfInBounds_toArray, List.set_cons_zero, List.set_cons_succ]
  refine wpAnyT_take (i := 2) (v := .slice A1 r.sure.length c1) rfl (by kernel_rfl) (by kernel_rfl) (by kernel_rfl) (by kernel_rfl) (fun _ _ _ h => h) (Or.inl ⟨by rfl, fun w hSw => by have h1 := hSw.1; have h2 := hSw.2; clear hSw; go_simp⟩) (hSN _ (by repeat (first | with_reducible exact New.refl _ | with_reducible assumption | with_reducible refine New.dr ?_ | with_reducible refine New.al ?_ _) : New w3 _)) ?_
  try simp only [Act.put, List.setIfInBounds_toArray, List.set_cons_zero, List.set_cons_succ]
  refine wpAnyT_take (i := 4) (v := .pointer (some ⟨G, 2, none⟩)) rfl (by kernel_rfl) (by kernel_rfl) (by kernel_rfl) (by kernel_rfl) (fun _ _ _ h => h) (Or.inl ⟨by rfl, fun w hSw => by have h1 := hSw.1; have h2 := hSw.2; clear hSw; go_simp⟩) (hSN _ (by repeat (first | with_reducible exact New.refl _ | with_reducible assumption | with_reducible refine New.dr ?_ | with_reducible refine New.al ?_ _) : New w3 _)) ?_
  try simp only [Act.put, List.setIfInBounds_toArray, List.set_cons_zero, List.set_cons_succ]
  refine wpAnyT_take (i := 5) (v := .slice A2 r.fresh.length c2) rfl (by kernel_rfl) (by kernel_rfl) (by kernel_rfl) (by kernel_rfl) (fun _ _ _ h => h) (Or.inl ⟨by rfl, fun w hSw => by have h1 := hSw.1; have h2 := hSw.2; clear hSw; go_simp⟩) (hSN _ (by repeat (first | with_reducible exact New.refl _ | with_reducible assumption | with_reducible refine New.dr ?_ | with_reducible refine New.al ?_ _) : New w3 _)) ?_
  try simp only [Act.put, List.setIfInBounds_toArray, List.set_cons_zero, List.set_cons_succ]
  refine wpAnyT_ready (rs := [0]) (by kernel_rfl) (by simp) (AllT.cons (i := 0) rfl (fun K hK => ?_) AllT.nil)
  go_simp
  try simp only [Act.put, List.setIfInBounds_toArray, List.set_cons_zero, List.set_cons_succ]
  refine hK.out _ _ (fun _ => hSN _ (by repeat (first | with_reducible exact New.refl _ | with_reducible assumption | with_reducible refine New.dr ?_ | with_reducible refine New.al ?_ _) : New w3 _)) ?_
  refine wpAnyT_ready (rs := [3]) (by kernel_rfl) (by simp) (AllT.cons (i := 3) rfl (fun K hK => ?_) AllT.nil)
  refine step_app elP _ (by rfl) (.tmp 7) (.tmp 9) (by rfl) w3.heap.size (.slice (some ⟨_, 0, none⟩) 0 0) 0 [] (by rfl) (own_lit (by repeat (first | with_reducible exact Blk.new' _ _ _ (by first | rfl | (simp; done)) | with_reducible refine Blk.drew ?_ | with_reducible refine Blk.alloc ?_ _ | with_reducible refine Blk.fr ?_ hF1 (by simp [Value.ownBlock]))) (by first | (simp; done) | (simp; omega))) A1 r.sure.length c1 (flatP r.sure) (by rfl) ((by repeat (first | with_reducible exact New.refl _ | with_reducible assumption | with_reducible refine New.dr ?_ | with_reducible refine New.al ?_ _) : New w3 _).rd (H.out.new HN3.out).sure) HP1.out (by unfold maxLen; omega) (by omega) (by first | (simp; done) | (simp; omega)) ?_
  intro A1' d1 w5 hO1 hF1 hA1
  have hN1 : New w3 w5 := (by repeat (first | with_reducible exact New.refl _ | with_reducible assumption | with_reducible refine New.dr ?_ | with_reducible refine New.al ?_ _) : New w3 _).fr hF1 (by intro k hk; simp [Value.ownBlock] at hk; omega)
  rw [Nat.zero_add, List.nil_append] at hO1
  rw [Nat.zero_add] at hA1
  rw [Nat.zero_add]
  try simp only [Act.put, List.setIfInBounds_toArray, List.set_cons_zero, List.set_cons_succ]
  refine hK.out _ _ (fun _ => hSN _ (by repeat (first | with_reducible exact New.refl _ | with_reducible assumption | with_reducible refine New.dr ?_ | with_reducible refine New.al ?_ _) : New w3 _)) ?_
  refine wpAnyT_ready (rs := [6]) (by kernel_rfl) (by simp) (AllT.cons (i := 6) rfl (fun K hK => ?_) AllT.nil)
  refine step_app elP _ (by rfl) (.tmp 10) (.tmp 12) (by rfl) w3.heap.size (.slice A1' r.sure.length d1) r.sure.length (flatP r.sure) (by rfl) (own_fr (S := NoB) hO1 (by repeat (first | with_reducible exact Fr.refl _ _ | with_reducible refine Fr.drew ?_ | with_reducible refine Fr.alloc ?_ _)) (fun _ _ h => h)) A2 r.fresh.length c2 (flatP r.fresh) (by rfl) ((by repeat (first | with_reducible exact New.refl _ | with_reducible assumption | with_reducible refine New.dr ?_ | with_reducible refine New.al ?_ _) : New w3 _).rd (H.out.new HN3.out).fresh) HP2.out (by unfold maxLen; omega) (by omega) ((by repeat (first | with_reducible exact New.refl _ | with_reducible assumption | with_reducible refine New.dr ?_ | with_reducible refine New.al ?_ _) : New w3 _).size) ?_
  intro A2' d2' w6 hO2 hF2 hA2
  have hN2 : New w3 w6 := (by repeat (first | with_reducible exact New.refl _ | with_reducible assumption | with_reducible refine New.dr ?_ | with_reducible refine New.al ?_ _) : New w3 _).fr hF2 (by intro k hk; exact (own_lt hO1 k hk).1)
  have HO2 := Lib.hid hO2
  have hK6 := hN2.blk HB3.out
  have h60 := hK6.cell 1
  have h6f := hK6.frozen 1
  clear hO2 hA2 hF2 hA1 hO1 hF1
  try simp only [Act.put, List.setIfInBounds_toArray, List.set_cons_zero, List.set_cons_succ]
  refine hK.out _ _ (fun _ => hSN _ (by repeat (first | with_reducible exact New.refl _ | with_reducible assumption | with_reducible refine New.dr ?_ | with_reducible refine New.al ?_ _) : New w3 _)) ?_
  refine wpAnyT_take (i := 7) (v := .pointer (some ⟨G, 1, none⟩)) rfl (by kernel_rfl) (by kernel_rfl) (by kernel_rfl) (by kernel_rfl) (fun _ _ _ h => h) (Or.inl ⟨by rfl, fun w hSw => by have h1 := hSw.1; have h2 := hSw.2; clear hSw; go_simp⟩) (hSN _ (by repeat (first | with_reducible exact New.refl _ | with_reducible assumption | with_reducible refine New.dr ?_ | with_reducible refine New.al ?_ _) : New w3 _)) ?_
  try simp only [Act.put, List.setIfInBounds_toArray, List.set_cons_zero, List.set_cons_succ]
  refine wpAnyT_ready (rs := [8]) (by kernel_rfl) (by simp) (AllT.cons (i := 8) rfl (fun K hK => ?_) AllT.nil)
  go_simp
  try simp only [Act.put, List.setIfInBounds_toArray, List.set_cons_zero, List.set_cons_succ]
  refine hK.out _ _ (fun h => absurd rfl h) ?_
  refine wpAnyT_done (by kernel_rfl) ?_ _
  obtain ⟨w7, hw7⟩ : ∃ w7 : World, w7 = w6.setCell ⟨G, 1, none⟩ (.slice A2' (r.sure.length + r.fresh.length) d2') := ⟨_, rfl⟩
  have HB7 : Hid (Blk w7 G 33 #[.int .i64 r.size, .slice A2' (r.sure.length + r.fresh.length) d2', .slice A2 r.fresh.length c2, .int .i64 r.fuse, .bool false]) := Lib.hid (by rw [hw7]; exact hK6.set 1 _)
  have HF7 : Hid (Fr (fun k => k = G) w6 w7) := Lib.hid (by rw [hw7]; exact (Fr.refl (fun k => k = G) w6).setCell (p := ⟨G, 1, none⟩) (fun _ => rfl) _)
  have HN2 := Lib.hid hN2
  have HK6 := Lib.hid hK6
  have i72 := HB7.out.cell 2
  have q72 := HB7.out.frozen 2
  try rw [← hw7]
  clear hw7 hK6 h60 h6f hN2 hN1 hSN
  go_upto_region 5 with fail
  obtain ⟨w9, hw9⟩ : ∃ w9 : World, w9 = w7.setCell ⟨G, 2, none⟩ (.slice none 0 0) := ⟨_, rfl⟩
  have HB9 : Hid (Blk w9 G 33 #[.int .i64 r.size, .slice A2' (r.sure.length + r.fresh.length) d2', .slice none 0 0, .int .i64 r.fuse, .bool false]) := Lib.hid (by rw [hw9]; exact HB7.out.set 2 _)
  have HF9 : Hid (Fr (fun k => k = G) w6 w9) := Lib.hid (by rw [hw9]; exact HF7.out.setCell (p := ⟨G, 2, none⟩) (fun _ => rfl) _)
  have HR9 := Lib.hid ((New.blk HN2.out HR3.out).fr HF9.out (by omega))
  try rw [← hw9]
  clear hw9 i72 q72
  go_wp2_with (first
    | ((with_reducible refine atOp ⟨some 16, .load _ _, _, _, _, _⟩ ?_); refine wpList_load_any rfl _ rfl Tryd.underlying33 rfl rfl rfl HB9.out ?_)
    | ((with_reducible refine atOp ⟨none, .store 33 (.tmp 2) _, _, _, _, _⟩ ?_); refine wpList_store_any rfl (.tmp 2) (.tmp 16) rfl rfl rfl rfl HR9.out rfl (rf_one _ _ _ _ _ _ _ _ _) ?_; intro w8 hb8 hf8; have HB8 := Lib.hid hb8; have HF8 := Lib.hid hf8; clear hb8 hf8))
  refine bodyPost_ret (results_row2 rfl _ _ (G + 1) _ _ rfl HB8.out Tryd.underlying33 rfl rfl) rfl ?_
  have hF68 : Fr (fun k => k = G ∨ k = G + 1) w6 w8 := (HF9.out.mono fun b _ h => .inl h).trans (HF8.out.mono fun b _ h => .inr h)
  have hN8 : New w w8 := (HN3.out.tr HN2.out).fr hF68 (fun k hk => by have := HGW.out; omega)
  refine ⟨⟨A2', d2', none, 0, ?_, ?_⟩, hN8⟩
  · rw [HW.out]
    unfold RfV
    simp only [List.length_append, List.length_nil]
    rw [HDN.out]
    rfl
  · rw [HW.out]
    refine ⟨?_, RdT.nil, ?_⟩
    · have h6 : RdT 87 w6 65 A2' (r.sure.length + r.fresh.length) (flatP (r.sure ++ r.fresh)) := by
        have := RdT.own HO2.out rfl
        rw [flatP_app]
        exact this
      have := h6.fr hF68 (fun k hk => by rcases hk with rfl | rfl <;> first | exact IsT.not_blk HK6.out (by decide) | exact IsT.not_blk (New.blk HN2.out HR3.out) (by decide))
      simpa using this
    · rw [← HW.out]; exact H.out.ok.sync
theorem rsync_any (r : RP) (A1 : Option Addr) (c1 : Nat) (A2 : Option Addr) (c2 : Nat) (w : World) (h : RfIn w r A1 A2) (hn : r.tot ≤ 100000) :
    Calls Tryd.prog 43 #[.agg (RfV r A1 c1 A2 c2)] w fun e w' => RfEnd w' r.sync r.scode e ∧ New w w' := by
  cases hd : r.down with
  | true =>
    rw [show r.sync = r from by unfold RP.sync; rw [hd, if_pos rfl], show r.scode = 14 from by unfold RP.scode; rw [hd, if_pos rfl]]
    exact rsync_down r A1 c1 A2 c2 w h hd
  | false =>
    rw [show r.scode = 0 from by unfold RP.scode; rw [hd, if_neg (by simp)]]
    exact rsync_in r A1 c1 A2 c2 w h hd hn
end Go.Proofs.YtdojmjglnlkmoaaDoor
/- The reference's disk: which places wait. No condition but that it can be read. -/
namespace Go.Proofs.YtdojmjglnlkmoaaDoor
set_option linter.unusedVariables false
set_option linter.unusedSimpArgs false
set_option linter.constructorNameAsVariable false
open Go.RowKit Go.Maps

/-- What is known at a round of Waits. -/
structure WI (w w0 : World) (L : List PU) (j : Nat) (v : Value) (wr : World) : Prop where
  own : wr.ownsRow w0.heap.size 3 1 v (waits (L.take j)).length (i64s (waits (L.take j)))
  new : New w0 wr
theorem WI.dn {w w0 wr : World} {L : List PU} {j : Nat} {v : Value} (h : WI w w0 L j v wr) (n : Nat) : WI w w0 L j v (wr.drewN n) := ⟨own_fr (S := NoB) h.own ((Fr.refl _ _).drewN n) (fun _ _ x => x), h.new.dn n⟩
def isNew (L : List PU) (k : Nat) (x : Int) : Bool := !((L.take k).map PU.pos).contains x
theorem isNew_0 (L : List PU) (x : Int) : isNew L 0 x = true := by simp [isNew]
theorem isNew_step {L : List PU} {k : Nat} (hk : k < L.length) (x : Int) : isNew L (k + 1) x = (isNew L k x && (L[k].pos != x)) := by
  unfold isNew
  rw [List.take_succ_eq_append_getElem hk]
  simp only [List.map_append, List.map_cons, List.map_nil]
  rw [Bool.eq_iff_iff]
  simp
  intro _
  exact ⟨fun h e => h e.symm, fun h e => h e.symm⟩
theorem waits_step {L : List PU} {i : Nat} (hi : i < L.length) : waits (L.take (i + 1)) = if isNew L i L[i].pos = true then waits (L.take i) ++ [L[i].pos] else waits (L.take i) := by
  rw [List.take_succ_eq_append_getElem hi, waits_snoc]
  by_cases h : L[i].pos ∈ waits (L.take i)
  · have h2 := (mem_waits _ _).1 h
    rw [if_pos h, if_neg (by simp only [isNew, Bool.not_eq_true']; rw [List.contains_iff_mem.2 h2]; simp)]
  · have h2 : L[i].pos ∉ (L.take i).map PU.pos := fun e => h ((mem_waits _ _).2 e)
    rw [if_neg h, if_pos (by simp only [isNew, Bool.not_eq_true']; rw [Bool.eq_false_iff]; intro e; exact h2 (List.contains_iff_mem.1 e))]

set_option maxHeartbeats 4000000 in
set_option maxRecDepth 100000 in
theorem rwaits_any (r : RP) (A1 : Option Addr) (c1 : Nat) (A2 : Option Addr) (c2 : Nat) (w : World) (h : RfIn w r A1 A2) (hn : r.tot ≤ 100000) :
    Calls Tryd.prog 44 #[.agg (RfV r A1 c1 A2 c2)] w fun e w' => (∃ A c, e = .returned (.slice A (waits r.fresh).length c) ∧ w'.ownsRow w.heap.size 3 1 (.slice A (waits r.fresh).length c) (waits r.fresh).length (i64s (waits r.fresh))) ∧ New w w' := by
  have H := Lib.hid h
  have hn1 : r.fresh.length ≤ 100000 := by unfold RP.tot at hn; omega
  unfold RfV
  clear h hn
  go_enter Tryd.func44, Tryd.ntmps44
  go_upto_region 1 with fail
  obtain ⟨w0, hw0⟩ : ∃ w0 : World, w0 = w.alloc (.cells #[.int .i64 r.size, .slice A1 r.sure.length c1, .slice A2 r.fresh.length c2, .int .i64 r.fuse, .bool r.down] 33) := ⟨_, rfl⟩
  obtain ⟨G, hG⟩ : ∃ G, G = w.heap.size := ⟨_, rfl⟩
  rw [← hG]
  have HN0 : Hid (New w w0) := Lib.hid (by rw [hw0]; exact (New.refl w).al _)
  have HB0 : Hid (Blk w0 G 33 #[.int .i64 r.size, .slice A1 r.sure.length c1, .slice A2 r.fresh.length c2, .int .i64 r.fuse, .bool r.down]) := Lib.hid (by rw [hw0, hG]; exact Blk.new _ _ _)
  rw [← hw0]
  have HGW : Hid (G = w.heap.size) := Lib.hid hG
  clear hw0 hG
  obtain ⟨L, hL⟩ : ∃ L, L = r.fresh := ⟨_, rfl⟩
  have HI := Lib.hid (H.out.new HN0.out)
  have HR : Hid (RdT 87 w0 65 A2 L.length (flatP L)) := Lib.hid (by rw [hL]; exact HI.out.fresh)
  have HOK : Hid (∀ x ∈ L, SecOk x.s) := Lib.hid (by rw [hL]; exact HI.out.ok.2)
  rw [← hL] at HB0 hn1
  rw [← hL]
  have HLE := Lib.hid hL
  clear hL
  generalize hln : L.length = n at HB0 HR hn1
  have HLN := Lib.hid hln
  clear hln HI
  go_wp2_with fail
  go_loopw [3, 4, 5, 6] (fun v i _ _ wr => ∃ (j : Nat), j ≤ n ∧ i = .int .i64 j ∧ Hid (WI w w0 L j v wr)) (fun _ i _ _ _ => n - (intOf i).toNat)
  case atStart => exact ⟨0, Nat.zero_le _, rfl, Lib.hid ⟨World.ownsRow_nil _ _ _ _, New.refl _⟩⟩
  case round =>
    obtain ⟨j, hj, rfl, HW⟩ := hrel
    have k2 := (New.blk HW.out.new HB0.out).cell 2
    by_cases hlt : j < n
    · as_aux_lemma =>
      obtain ⟨gA, oA, hl, rfl, -, cp, -⟩ := rd_put (HW.out.new.rd HR.out) HLN.out HOK.out hlt
      have hst := waits_step hl
      have HCP := Lib.hid cp
      generalize hpx : L[j].pos = px at cp hst HCP
      have HST := Lib.hid hst
      have HPX := Lib.hid hpx
      clear hst cp hpx
      go_wp2_with fail
      obtain ⟨wo, hwo⟩ : ∃ wo : World, wo = wr := ⟨_, rfl⟩
      rw [← hwo] at HW k2 HCP
      rw [← hwo]
      clear hwo
      go_loopw [5, 6] (fun b i wr => ∃ (k : Nat) (m : Nat), k ≤ j ∧ i = .int .i64 k ∧ b = .bool (isNew L k px) ∧ wr = wo.drewN m) (fun _ i _ => j - (intOf i).toNat)
      case atStart => exact ⟨0, 0, by omega, rfl, by rw [isNew_0], rfl⟩
      case round =>
        obtain ⟨k, m, hk, rfl, rfl, rfl⟩ := hrel
        by_cases hkj : k < j
        · as_aux_lemma =>
          obtain ⟨gB, oB, hlB, hAB, -, cq, -⟩ := rd_put (HW.out.new.rd HR.out) HLN.out HOK.out (show k < n by omega)
          injection hAB with hAB
          injection hAB with h1 h2
          subst h1 h2
          have hns := isNew_step hlB px
          generalize L[k].pos = py at cq hns
          have HNS := Lib.hid hns
          have cj := HCP.out
          clear hns
          generalize isNew L k px = b at HNS ⊢
          rcases b with _ | _
          · go_wp2_with fail
            go_quiet (fail)
            go_wp2_with fail
            go_roundw
            case rel => exact ⟨k + 1, m + nq, by omega, by go_num, by rw [HNS.out]; rfl, rfl⟩
            case measure => simp [intOf]; omega
          · go_wp2_with fail
            go_quiet (fail)
            go_wp2_with fail
            go_roundw
            case rel => exact ⟨k + 1, m + nq, by omega, by go_num, by rw [HNS.out]; simp, rfl⟩
            case measure => simp [intOf]; omega
        · as_aux_lemma =>
          obtain rfl : k = j := by omega
          have HWm := Lib.hid (HW.out.dn m)
          obtain ⟨wm, hwm⟩ : ∃ wm : World, wm = wo.drewN m := ⟨_, rfl⟩
          have cj : wm.cell? ⟨gA, oA + k * 65, none⟩ = some (.int .i64 px) := by rw [hwm]; exact HCP.out
          rw [← hwm] at HWm
          have d2 := (New.blk HWm.out.new HB0.out).cell 2
          rw [← hwm]
          clear hwm k2
          have HCJ := Lib.hid cj
          clear cj
          obtain ⟨A, c, rfl, hnc, hcm, -, -⟩ := own_shape HWm.out.own
          have hwl := waits_len (L.take k)
          have hwl2 : (L.take k).length ≤ k := List.length_take_le _ _
          obtain ⟨z, hz⟩ : ∃ z, z = waits (L.take k) := ⟨_, rfl⟩
          have hown : wm.ownsRow w0.heap.size 3 1 (.slice A z.length c) z.length (i64s z) := by rw [hz]; exact HWm.out.own
          have HST2 : Hid (waits (L.take (k + 1)) = if isNew L k px = true then z ++ [px] else z) := Lib.hid (by rw [HST.out, hz])
          rw [← hz] at hnc hwl
          rw [← hz]
          have HOWN := Lib.hid hown
          have HNW := Lib.hid HWm.out.new
          have hzl : z.length ≤ 100000 := by omega
          clear hz hown HWm HST
          generalize isNew L k px = b at HST2 ⊢
          have cj := HCJ.out
          have hws : w0.heap.size ≤ wm.heap.size := HNW.out.size
          rcases b with _ | _
          · go_wp2_with fail
            go_roundw
            case rel =>
              refine ⟨k + 1, by omega, by go_num, Lib.hid ⟨?_, HNW.out⟩⟩
              rw [HST2.out, if_neg (by simp)]
              exact HOWN.out
            case measure => simp [intOf]; omega
          · go_wp2_with (at_builtin; refine wpList_app elI _ rfl (.tmp 36) (.tmp 43) rfl w0.heap.size (.slice A z.length c) z.length (i64s z) rfl (New.own (New.al (New.refl wm) _) HOWN.out) (some ⟨wm.heap.size, 0, none⟩) 1 1 [.int .i64 px] rfl (Rd.ofBlk (p := fun _ => True) (t := 3) (cs := #[.int .i64 px]) (Blk.new' _ _ _ rfl) 1 1 rfl trivial) (by simp [Value.oneCell']) (by unfold maxLen; omega) (by omega) (by simp; omega) ?_; intro A' c' w3 hO3 hF3 hA3; have HO3 := Lib.hid hO3; have HF3 := Lib.hid hF3; clear hO3 hF3 hA3)
            go_roundw
            case rel =>
              refine ⟨k + 1, by omega, by go_num, Lib.hid ⟨?_, ?_⟩⟩
              · rw [HST2.out, if_pos rfl, List.length_append, i64s_app]
                exact HO3.out
              · exact ((HNW.out).al _).fr HF3.out (fun q hq => (own_lt HOWN.out q hq).1)
            case measure => simp [intOf]; omega
    · as_aux_lemma =>
      obtain rfl : j = n := by omega
      have hf : waits (L.take j) = waits L := by rw [List.take_of_length_le (by rw [HLN.out]; omega)]
      have ho := HW.out.own
      rw [hf] at ho
      have HNW := Lib.hid HW.out.new
      obtain ⟨A, c, rfl, hnc, hcm, -, -⟩ := own_shape ho
      have HO := Lib.hid ho
      clear hf ho HW hnc hcm
      go_wp2_with fail
      go_ret
      rw [← HLE.out]
      exact ⟨⟨A, c, rfl, own_base HO.out (fun k hk => by have := (own_lt HO.out k hk).1; have := HN0.out.size; omega)⟩, HN0.out.tr HNW.out⟩
end Go.Proofs.YtdojmjglnlkmoaaDoor
