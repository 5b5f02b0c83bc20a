/- The document's timer: Stop. No condition but that its list can be read. -/
import Derived.Test.YtbgjoohnognagaaTpC
namespace Go.Proofs.Ytbgjoohnognagaa
open Go.RowKit

set_option maxHeartbeats 4000000 in
theorem rstop_no (t : RT) (L : List Rn) (a now : Int) (w : World) (h : RIn w t L) (hp : place L a = none) :
    Calls Try.prog 20 #[.agg #[.int .i64 t.lt, .int .i64 t.mt, .int .i64 t.lm, .float .f64 t.mean, .slice t.A t.n t.c], .int .u64 a, .int .i64 now] w fun e w' =>
      e = .returned (.tuple #[.agg #[.int .i64 t.lt, .int .i64 t.mt, .int .i64 t.lm, .float .f64 t.mean, .slice t.A t.n t.c], .bool false]) ∧ New w w' := by
  have H := Lib.hid h
  have HQ := Lib.hid (placeI_none hp)
  have hpl := fun (w' : World) (hN : New w w') => rplace_any t L a w' (H.out.new hN)
  have hdr := fun (w' : World) (hN : New w w') => rdrop_no t L a w' (H.out.new hN) hp
  obtain ⟨lt, mt, lm, mean, A, n, c⟩ := t
  dsimp only at hpl hdr ⊢
  have HPL := Lib.hid hpl
  have HDR := Lib.hid hdr
  clear h hp hpl hdr
  obtain ⟨w0, bx, bz, hw0, hbx, hbz, hB, hZ, hN0, hx1, hz1, hxz⟩ := two_blk w 48 #[.int .i64 lt, .int .i64 mt, .int .i64 lm, .float .f64 mean, .slice A n c] #[.int .i64 0, .int .i64 0, .int .i64 0, .float .f64 0, .slice none 0 0]
  have HBX := Lib.hid hB
  have HBZ := Lib.hid hZ
  have HN0 : Hid (New w w0) := Lib.hid hN0
  have HW := Lib.hid hw0
  have HBE := Lib.hid hbx
  have HZE := Lib.hid hbz
  clear hB hZ hN0 hw0 hbx hbz
  go_enter Try.func20, Try.ntmps20
  go_upto_region 1 with fail
  rw [← HW.out, ← HZE.out, ← HBE.out]
  go_wp2_with ((with_reducible refine atOpS ⟨some 9, .load _ _, _, _, _, _⟩ ?_); refine row_load rowT rfl (.tmp 3) rfl rfl HBX.out rfl ?_)
  refine (HPL.out w0 HN0.out).mono ?_
  rw [HQ.out]
  rintro e w1 ⟨rfl, hN1⟩
  have HN1 : Hid (New w0 w1) := Lib.hid hN1
  have HBX := Lib.hid (HN1.out.blk HBX.out)
  have HBZ := Lib.hid (HN1.out.blk HBZ.out)
  clear hN1
  go_wp2_with ((with_reducible refine atOpS ⟨some 37, .load _ _, _, _, _, _⟩ ?_); refine row_load rowT rfl (.tmp 3) rfl rfl HBX.out rfl ?_)
  refine (HDR.out w1 (HN0.out.tr HN1.out)).mono ?_
  rintro e w2 ⟨rfl, hN2⟩
  have HN2 : Hid (New w1 w2) := Lib.hid hN2
  have HBZ := Lib.hid (HN2.out.blk HBZ.out)
  clear hN2
  go_wp2_with ((with_reducible refine atOpS ⟨none, .store 48 _ _, _, _, _, _⟩ ?_); refine row_store rowT rfl (.tmp 6) (.tmp 40) rfl rfl rfl HBZ.out rfl rfl (RT.one ⟨_, _, _, _, _, _, _⟩) ?_; intro wz hBz hFz; have z0 := hBz.cell 0; have z1 := hBz.cell 1; have z2 := hBz.cell 2; have z3 := hBz.cell 3; have z4 := hBz.cell 4; have HFz := Lib.hid hFz; clear hBz hFz)
  refine bodyPost_ret (v := .tuple #[.agg #[.int .i64 lt, .int .i64 mt, .int .i64 lm, .float .f64 mean, .slice A n c], .bool false]) (by simp [results, Try.results20, go_sem, z0, z1, z2, z3, z4]) rfl ⟨rfl, ?_⟩
  exact ((HN0.out.tr HN1.out).tr HN2.out).fr HFz.out (fun k hk => by omega)

set_option maxHeartbeats 8000000 in
set_option maxRecDepth 100000 in
theorem rstop_yes (t : RT) (L : List Rn) (a now : Int) (w : World) (h : RIn w t L) (hF : ∀ r ∈ L, r.Fair) (hm : t.mean < 18446744073709551616) (i : Nat) (hi : i < L.length) (hp : place L a = some i) :
    Calls Try.prog 20 #[.agg #[.int .i64 t.lt, .int .i64 t.mt, .int .i64 t.lm, .float .f64 t.mean, .slice t.A t.n t.c], .int .u64 a, .int .i64 now] w fun e w' =>
      (∃ A' c' r, MeanN t.mean now L[i] r ∧ e = .returned (.tuple #[.agg #[.int .i64 t.lt, .int .i64 t.mt, .int .i64 t.lm, .float .f64 r, .slice A' (t.n - 1) c'], .bool true]) ∧ RIn w' ⟨t.lt, t.mt, t.lm, r, A', t.n - 1, c'⟩ (L.eraseIdx i)) ∧ New w w' := by
  have H := Lib.hid h
  have HQ := Lib.hid (placeI_some hp)
  have hin : i < t.n := by have := h.len; omega
  have hle := h.le
  have hfx := hF L[i] (List.getElem_mem _)
  have htk := tickZ_in now
  have htc := rtick_any now
  have hy := (key_int (tickZ now - L[i].b)).1
  have hmn := fun w => rmean_any t.mean (floatOfInt .f64 (tickZ now - L[i].b)) 4593671619917905920 hm hy (by decide) w
  have hME : ∀ r, MeanN t.mean now L[i] r = (if L[i].s = 1 then MeanR t.mean (floatOfInt .f64 (tickZ now - L[i].b)) 4593671619917905920 r else r = t.mean) := fun _ => rfl
  have hbx0 := hfx.b0
  have hbx1 := hfx.b1
  have hpl := fun (w' : World) (hN : New w w') => rplace_any t L a w' (H.out.new hN)
  have hdr := fun (r : Nat) (w' : World) (hN : New w w') => rdrop_yes ⟨t.lt, t.mt, t.lm, r, t.A, t.n, t.c⟩ L a w' (let k := H.out.new hN; ⟨k.rd, k.len, k.le, k.nc⟩) i hp
  obtain ⟨g, o, hA, -, -, -⟩ := h.rd.out (by omega) (by omega)
  obtain ⟨g', o', hl2, hA2, -, -, -, c1, -, -, c4⟩ := rd_elem h.rd hin
  rw [hA] at hA2
  injection hA2 with hA2
  injection hA2 with hA2 hA3
  subst hA2 hA3
  obtain ⟨lt, mt, lm, mean, A, n, c⟩ := t
  dsimp only at hpl hdr hin hle hA hmn hME hm c1 c4 ⊢
  subst hA
  generalize hE : MeanN mean now L[i] = MN at hME ⊢
  generalize L[i] = x at hfx hmn hy hME hbx0 hbx1 c1 c4
  generalize hyy : floatOfInt .f64 (tickZ now - x.b) = y at hmn hy hME
  generalize tickZ now = tk at htk htc hyy
  obtain ⟨xn, b, xd, xl, xs⟩ := x
  dsimp only at hmn hy hME hbx0 hbx1 hyy c1 c4
  have HTC := Lib.hid htc
  have HMN := Lib.hid hmn
  have HME := Lib.hid hME
  have HPL := Lib.hid hpl
  have HDR := Lib.hid hdr
  have hwr : IntKind.i64.wrap (tk - b) = tk - b := IntWalk.i64_in _ (by omega)
  have HYY := Lib.hid hyy
  have HWR := Lib.hid hwr
  have HC1 := Lib.hid c1
  have HC4 := Lib.hid c4
  clear hp hF hfx htc hmn hME hy hE hyy hwr hl2 h hpl hdr c1 c4 hi
  have hi0 : (0 : Int) ≤ (i : Int) := by omega
  have hi1 : (i : Int) < (n : Int) := by omega
  obtain ⟨w0, bx, bz, hw0, hbx, hbz, hB, hZ, hN0, hx1, hz1, hxz⟩ := two_blk w 48 #[.int .i64 lt, .int .i64 mt, .int .i64 lm, .float .f64 mean, .slice (some ⟨g, o, none⟩) n c] #[.int .i64 0, .int .i64 0, .int .i64 0, .float .f64 0, .slice none 0 0]
  have HBX := Lib.hid hB
  have HBZ := Lib.hid hZ
  have HN0 : Hid (New w w0) := Lib.hid hN0
  have HW := Lib.hid hw0
  have HBE := Lib.hid hbx
  have HZE := Lib.hid hbz
  clear hB hZ hN0 hw0 hbx hbz
  go_enter Try.func20, Try.ntmps20
  go_upto_region 1 with fail
  rw [← HW.out, ← HZE.out, ← HBE.out]
  go_wp2_with ((with_reducible refine atOpS ⟨some 9, .load _ _, _, _, _, _⟩ ?_); refine row_load rowT rfl (.tmp 3) rfl rfl HBX.out rfl ?_)
  refine (HPL.out w0 HN0.out).mono ?_
  rw [HQ.out]
  rintro e w3 ⟨rfl, hN3⟩
  have HNw3 : Hid (New w w3) := Lib.hid (HN0.out.tr hN3)
  have HBX := Lib.hid (New.blk hN3 HBX.out)
  have HBZ := Lib.hid (New.blk hN3 HBZ.out)
  have k3 : w3.cell? ⟨bx, 3, none⟩ = some (.float .f64 mean) := HBX.out.cell 3
  have k4 : w3.cell? ⟨bx, 4, none⟩ = some (.slice (some ⟨g, o, none⟩) n c) := HBX.out.cell 4
  have j1 := HNw3.out.cell_ HC1.out
  have j4 := HNw3.out.cell_ HC4.out
  clear hN3
  by_cases hs : xs = 1
  · subst hs
    go_upto_region 3 with fail
    go_cut [8] (fun s8 wx => s8 = .int .i64 i ∧ ∃ w5 r, wx = w5.setCell ⟨bx, 3, none⟩ (.float .f64 r) ∧ Hid (MeanR mean y 4593671619917905920 r) ∧ Hid (New w3 w5))
    case first =>
      as_aux_lemma =>
        have hSN : ∀ w', New w3 w' → (fun w' => w'.cell? ⟨bx, 3, none⟩ = some (.float .f64 mean) ∧ w'.cell? ⟨bx, 4, none⟩ = some (.slice (some ⟨g, o, none⟩) n c) ∧ w'.cell? ⟨g, o + i * 5 + 1, none⟩ = some (.int .i64 b)) w' := fun w' hN => ⟨hN.cell_ k3, hN.cell_ k4, hN.cell_ j1⟩
        have HFZ : Hid (∀ w', New w3 w' → w'.frozen? ⟨bx, 3, none⟩ = false) := Lib.hid fun w' hN => (hN.blk HBX.out).frozen 3
        refine wp_region_T (fun w' => w'.cell? ⟨bx, 3, none⟩ = some (.float .f64 mean) ∧ w'.cell? ⟨bx, 4, none⟩ = some (.slice (some ⟨g, o, none⟩) n c) ∧ w'.cell? ⟨g, o + i * 5 + 1, none⟩ = some (.int .i64 b)) 14 (by kernel_rfl) ?_
        refine wpAnyT_take (i := 0) (oi := ⟨_, _, _, _, _, _⟩) (v := .pointer (some ⟨bx, 3, none⟩)) rfl (by kernel_rfl) (by kernel_rfl) (by kernel_rfl) (by kernel_rfl) (fun _ _ _ h => h) (Or.inl ⟨by rfl, fun w hSw => by have h1 := hSw.1; have h2 := hSw.2.1; have h3 := hSw.2.2; clear hSw; go_simp⟩) (hSN _ (by repeat (first | with_reducible exact New.refl _ | with_reducible assumption | with_reducible refine New.dr ?_ | with_reducible refine New.al ?_ _) : New w3 _)) ?_
        try simp only [Act.put, List.setIfInBounds_toArray, List.set_cons_zero, List.set_cons_succ]
        refine wpAnyT_take (i := 1) (oi := ⟨_, _, _, _, _, _⟩) (v := .float .f64 mean) rfl (by kernel_rfl) (by kernel_rfl) (by kernel_rfl) (by kernel_rfl) (fun _ _ _ h => h) (Or.inl ⟨by rfl, fun w hSw => by have h1 := hSw.1; have h2 := hSw.2.1; have h3 := hSw.2.2; clear hSw; go_simp⟩) (hSN _ (by repeat (first | with_reducible exact New.refl _ | with_reducible assumption | with_reducible refine New.dr ?_ | with_reducible refine New.al ?_ _) : New w3 _)) ?_
        try simp only [Act.put, List.setIfInBounds_toArray, List.set_cons_zero, List.set_cons_succ]
        refine wpAnyT_take (i := 2) (oi := ⟨_, _, _, _, _, _⟩) (v := .int .i64 now) rfl (by kernel_rfl) (by kernel_rfl) (by kernel_rfl) (by kernel_rfl) (fun _ _ _ h => h) (Or.inl ⟨by rfl, fun w hSw => by have h1 := hSw.1; have h2 := hSw.2.1; have h3 := hSw.2.2; clear hSw; go_simp⟩) (hSN _ (by repeat (first | with_reducible exact New.refl _ | with_reducible assumption | with_reducible refine New.dr ?_ | with_reducible refine New.al ?_ _) : New w3 _)) ?_
        try simp only [Act.put, List.setIfInBounds_toArray, List.set_cons_zero, List.set_cons_succ]
        refine wpAnyT_take (i := 4) (oi := ⟨_, _, _, _, _, _⟩) (v := .pointer (some ⟨bx, 4, none⟩)) rfl (by kernel_rfl) (by kernel_rfl) (by kernel_rfl) (by kernel_rfl) (fun _ _ _ h => h) (Or.inl ⟨by rfl, fun w hSw => by have h1 := hSw.1; have h2 := hSw.2.1; have h3 := hSw.2.2; clear hSw; go_simp⟩) (hSN _ (by repeat (first | with_reducible exact New.refl _ | with_reducible assumption | with_reducible refine New.dr ?_ | with_reducible refine New.al ?_ _) : New w3 _)) ?_
        try simp only [Act.put, List.setIfInBounds_toArray, List.set_cons_zero, List.set_cons_succ]
        refine wpAnyT_take (i := 5) (oi := ⟨_, _, _, _, _, _⟩) (v := .slice (some ⟨g, o, none⟩) n c) rfl (by kernel_rfl) (by kernel_rfl) (by kernel_rfl) (by kernel_rfl) (fun _ _ _ h => h) (Or.inl ⟨by rfl, fun w hSw => by have h1 := hSw.1; have h2 := hSw.2.1; have h3 := hSw.2.2; clear hSw; go_simp⟩) (hSN _ (by repeat (first | with_reducible exact New.refl _ | with_reducible assumption | with_reducible refine New.dr ?_ | with_reducible refine New.al ?_ _) : New w3 _)) ?_
        try simp only [Act.put, List.setIfInBounds_toArray, List.set_cons_zero, List.set_cons_succ]
        refine wpAnyT_take (i := 6) (oi := ⟨_, _, _, _, _, _⟩) (v := .int .i64 i) rfl (by kernel_rfl) (by kernel_rfl) (by kernel_rfl) (by kernel_rfl) (fun _ _ _ h => h) (Or.inl ⟨by rfl, fun w hSw => by have h1 := hSw.1; have h2 := hSw.2.1; have h3 := hSw.2.2; clear hSw; go_simp⟩) (hSN _ (by repeat (first | with_reducible exact New.refl _ | with_reducible assumption | with_reducible refine New.dr ?_ | with_reducible refine New.al ?_ _) : New w3 _)) ?_
        try simp only [Act.put, List.setIfInBounds_toArray, List.set_cons_zero, List.set_cons_succ]
        refine wpAnyT_take (i := 7) (oi := ⟨_, _, _, _, _, _⟩) (v := .pointer (some ⟨g, o + i * 5, none⟩)) rfl (by kernel_rfl) (by kernel_rfl) (by kernel_rfl) (by kernel_rfl) (fun _ _ _ h => h) (Or.inl ⟨by rfl, fun w hSw => by have h1 := hSw.1; have h2 := hSw.2.1; have h3 := hSw.2.2; clear hSw; go_simp⟩) (hSN _ (by repeat (first | with_reducible exact New.refl _ | with_reducible assumption | with_reducible refine New.dr ?_ | with_reducible refine New.al ?_ _) : New w3 _)) ?_
        try simp only [Act.put, List.setIfInBounds_toArray, List.set_cons_zero, List.set_cons_succ]
        refine wpAnyT_take (i := 8) (oi := ⟨_, _, _, _, _, _⟩) (v := .pointer (some ⟨g, o + i * 5 + 1, none⟩)) rfl (by kernel_rfl) (by kernel_rfl) (by kernel_rfl) (by kernel_rfl) (fun _ _ _ h => h) (Or.inl ⟨by rfl, fun w hSw => by have h1 := hSw.1; have h2 := hSw.2.1; have h3 := hSw.2.2; clear hSw; go_simp⟩) (hSN _ (by repeat (first | with_reducible exact New.refl _ | with_reducible assumption | with_reducible refine New.dr ?_ | with_reducible refine New.al ?_ _) : New w3 _)) ?_
        try simp only [Act.put, List.setIfInBounds_toArray, List.set_cons_zero, List.set_cons_succ]
        refine wpAnyT_take (i := 9) (oi := ⟨_, _, _, _, _, _⟩) (v := .int .i64 b) rfl (by kernel_rfl) (by kernel_rfl) (by kernel_rfl) (by kernel_rfl) (fun _ _ _ h => h) (Or.inl ⟨by rfl, fun w hSw => by have h1 := hSw.1; have h2 := hSw.2.1; have h3 := hSw.2.2; clear hSw; go_simp⟩) (hSN _ (by repeat (first | with_reducible exact New.refl _ | with_reducible assumption | with_reducible refine New.dr ?_ | with_reducible refine New.al ?_ _) : New w3 _)) ?_
        try simp only [Act.put, List.setIfInBounds_toArray, List.set_cons_zero, List.set_cons_succ]
        refine wpAnyT_ready (rs := [3]) (by kernel_rfl) (by simp) (AllT.cons (i := 3) (o := ⟨_, _, _, _, _, _⟩) rfl (fun K hK => ?_) AllT.nil)
        go_simp
        refine (HTC.out _).mono ?_
        rintro e w4 ⟨rfl, rfl⟩
        try go_simp
        try simp only [Act.put, List.setIfInBounds_toArray, List.set_cons_zero, List.set_cons_succ]
        refine hK.out _ _ (fun _ => hSN _ (by repeat (first | with_reducible exact New.refl _ | with_reducible assumption | with_reducible refine New.dr ?_ | with_reducible refine New.al ?_ _) : New w3 _)) ?_
        refine wpAnyT_take (i := 10) (oi := ⟨_, _, _, _, _, _⟩) (v := .int .i64 (tk - b)) rfl (by kernel_rfl) (by kernel_rfl) (by kernel_rfl) (by kernel_rfl) (fun _ _ _ h => h) (Or.inl ⟨by rfl, fun w hSw => by have h1 := hSw.1; have h2 := hSw.2.1; have h3 := hSw.2.2; clear hSw; have hq := HWR.out; go_simp⟩) (hSN _ (by repeat (first | with_reducible exact New.refl _ | with_reducible assumption | with_reducible refine New.dr ?_ | with_reducible refine New.al ?_ _) : New w3 _)) ?_
        try simp only [Act.put, List.setIfInBounds_toArray, List.set_cons_zero, List.set_cons_succ]
        refine wpAnyT_take (i := 11) (oi := ⟨_, _, _, _, _, _⟩) (v := .float .f64 y) rfl (by kernel_rfl) (by kernel_rfl) (by kernel_rfl) (by kernel_rfl) (fun _ _ _ h => h) (Or.inl ⟨by rfl, fun w hSw => by have h1 := hSw.1; have h2 := hSw.2.1; have h3 := hSw.2.2; clear hSw; have hq := HYY.out; go_simp⟩) (hSN _ (by repeat (first | with_reducible exact New.refl _ | with_reducible assumption | with_reducible refine New.dr ?_ | with_reducible refine New.al ?_ _) : New w3 _)) ?_
        try simp only [Act.put, List.setIfInBounds_toArray, List.set_cons_zero, List.set_cons_succ]
        refine wpAnyT_ready (rs := [12]) (by kernel_rfl) (by simp) (AllT.cons (i := 12) (o := ⟨_, _, _, _, _, _⟩) rfl (fun K hK => ?_) AllT.nil)
        go_simp
        refine (HMN.out _).mono ?_
        rintro e w5 ⟨r, rfl, hr5, hN5'⟩
        have hN5 : New w3 w5 := New.tr ((by repeat (first | with_reducible exact New.refl _ | with_reducible assumption | with_reducible refine New.dr ?_ | with_reducible refine New.al ?_ _) : New w3 _)) hN5'
        try go_simp
        try simp only [Act.put, List.setIfInBounds_toArray, List.set_cons_zero, List.set_cons_succ]
        refine hK.out _ _ (fun _ => hSN _ (by repeat (first | with_reducible exact New.refl _ | with_reducible assumption | with_reducible refine New.dr ?_ | with_reducible refine New.al ?_ _) : New w3 _)) ?_
        refine wpAnyT_take (i := 13) (oi := ⟨_, _, _, _, _, _⟩) (v := .pointer (some ⟨bx, 3, none⟩)) rfl (by kernel_rfl) (by kernel_rfl) (by kernel_rfl) (by kernel_rfl) (fun _ _ _ h => h) (Or.inl ⟨by rfl, fun w hSw => by have h1 := hSw.1; have h2 := hSw.2.1; have h3 := hSw.2.2; clear hSw; go_simp⟩) (hSN _ (by repeat (first | with_reducible exact New.refl _ | with_reducible assumption | with_reducible refine New.dr ?_ | with_reducible refine New.al ?_ _) : New w3 _)) ?_
        try simp only [Act.put, List.setIfInBounds_toArray, List.set_cons_zero, List.set_cons_succ]
        refine wpAnyT_ready (rs := [14]) (by kernel_rfl) (by simp) (AllT.cons (i := 14) (o := ⟨_, _, _, _, _, _⟩) rfl (fun K hK => ?_) AllT.nil)
        have hst := fun m => run_store_float (P := Try.prog) (m := m) (r := r) (hSN _ hN5).1 (HFZ.out _ hN5)
        go_simp
        try simp only [Act.put, List.setIfInBounds_toArray, List.set_cons_zero, List.set_cons_succ]
        refine hK.out _ _ (fun h => absurd rfl h) ?_
        refine wpAnyT_done (by kernel_rfl) ?_ _
        try go_wp2_with fail
        go_meet
        refine ⟨rfl, w5, r, rfl, Lib.hid hr5, Lib.hid hN5⟩
    case rest =>
      obtain ⟨rfl, w5, r, rfl, HMR, HN5⟩ := hcut
      have hB6 : Blk (w5.setCell ⟨bx, 3, none⟩ (.float .f64 r)) bx 48 #[.int .i64 lt, .int .i64 mt, .int .i64 lm, .float .f64 r, .slice (some ⟨g, o, none⟩) n c] := by have := (HN5.out.blk HBX.out).set 3 (.float .f64 r); simpa using this
      have hZ6 : Blk (w5.setCell ⟨bx, 3, none⟩ (.float .f64 r)) bz 48 #[.int .i64 0, .int .i64 0, .int .i64 0, .float .f64 0, .slice none 0 0] := (HN5.out.blk HBZ.out).far (p := ⟨bx, 3, none⟩) (fun e => hxz e.symm) _
      have hN6 : New w (w5.setCell ⟨bx, 3, none⟩ (.float .f64 r)) := (HNw3.out.tr HN5.out).set (p := ⟨bx, 3, none⟩) hx1 _
      have HBX := Lib.hid hB6
      have HBZ := Lib.hid hZ6
      have HN6 := Lib.hid hN6
      clear hB6 hZ6 hN6 k3 k4 j1 j4
      generalize (w5.setCell ⟨bx, 3, none⟩ (.float .f64 r)) = w6 at HBX HBZ HN6 ⊢
      go_wp2_with ((with_reducible refine atOpS ⟨some 37, .load _ _, _, _, _, _⟩ ?_); refine row_load rowT rfl (.tmp 3) rfl rfl HBX.out rfl ?_)
      refine (HDR.out r w6 HN6.out).mono ?_
      rintro e w7 ⟨⟨A7, c7, rfl, hR7⟩, hN7⟩
      have HN7 : Hid (New w6 w7) := Lib.hid hN7
      have HR7 := Lib.hid hR7
      have HBZ := Lib.hid (HN7.out.blk HBZ.out)
      clear hN7 hR7
      go_wp2_with ((with_reducible refine atOpS ⟨none, .store 48 _ _, _, _, _, _⟩ ?_); refine row_store rowT rfl (.tmp 6) (.tmp 40) rfl rfl rfl HBZ.out rfl rfl (RT.one ⟨_, _, _, _, _, _, _⟩) ?_; intro wz hBz hFz; have z0 := hBz.cell 0; have z1 := hBz.cell 1; have z2 := hBz.cell 2; have z3 := hBz.cell 3; have z4 := hBz.cell 4; have HFz := Lib.hid hFz; clear hBz hFz)
      refine bodyPost_ret (v := .tuple #[.agg #[.int .i64 lt, .int .i64 mt, .int .i64 lm, .float .f64 r, .slice A7 (n - 1) c7], .bool true]) (by simp [results, Try.results20, go_sem, z0, z1, z2, z3, z4]) rfl ⟨⟨A7, c7, r, ?_, rfl, ?_⟩, ?_⟩
      · rw [HME.out]; exact HMR.out
      · exact HR7.out.fr HFz.out (fun k hk => by subst hk; exact IsT.not_blk HBZ.out (by decide))
      · exact (HN6.out.tr HN7.out).fr HFz.out (fun k hk => by omega)
  · have HS := Lib.hid hs
    have hs2 : (xs == 1) = false := by simpa using hs
    clear hs
    go_wp2_with ((with_reducible refine atOpS ⟨some 37, .load _ _, _, _, _, _⟩ ?_); refine row_load rowT rfl (.tmp 3) rfl rfl HBX.out rfl ?_)
    refine (HDR.out mean w3 HNw3.out).mono ?_
    rintro e w7 ⟨⟨A7, c7, rfl, hR7⟩, hN7⟩
    have HN7 : Hid (New w3 w7) := Lib.hid hN7
    have HR7 := Lib.hid hR7
    have HBZ := Lib.hid (HN7.out.blk HBZ.out)
    clear hN7 hR7
    go_wp2_with ((with_reducible refine atOpS ⟨none, .store 48 _ _, _, _, _, _⟩ ?_); refine row_store rowT rfl (.tmp 6) (.tmp 40) rfl rfl rfl HBZ.out rfl rfl (RT.one ⟨_, _, _, _, _, _, _⟩) ?_; intro wz hBz hFz; have z0 := hBz.cell 0; have z1 := hBz.cell 1; have z2 := hBz.cell 2; have z3 := hBz.cell 3; have z4 := hBz.cell 4; have HFz := Lib.hid hFz; clear hBz hFz)
    refine bodyPost_ret (v := .tuple #[.agg #[.int .i64 lt, .int .i64 mt, .int .i64 lm, .float .f64 mean, .slice A7 (n - 1) c7], .bool true]) (by simp [results, Try.results20, go_sem, z0, z1, z2, z3, z4]) rfl ⟨⟨A7, c7, mean, ?_, rfl, ?_⟩, ?_⟩
    · rw [HME.out, if_neg HS.out]
    · exact HR7.out.fr HFz.out (fun k hk => by subst hk; exact IsT.not_blk HBZ.out (by decide))
    · exact (HNw3.out.tr HN7.out).fr HFz.out (fun k hk => by omega)
end Go.Proofs.Ytbgjoohnognagaa
