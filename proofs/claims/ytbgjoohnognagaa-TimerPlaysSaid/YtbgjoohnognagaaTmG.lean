/- Timers: Stop. No condition but the timer's own. -/
import Derived.Test.YtbgjoohnognagaaTmF
import Derived.Test.YtbgjoohnognagaaLast
import Derived.Test.YtbgjoohnognagaaMeans
import Derived.Deep.CutBlock
import Derived.Deep.DeepCutAuto
namespace Go.Proofs.Ytbgjoohnognagaa
open Go.RowKit

theorem run_store_float {P : Program} {w : World} {a : Addr} {u : Value} {r : Nat} {m : Mode} (h : w.cell? a = some u) (hf : w.frozen? a = false) : (store a (.float .f64 r) m).run P w = .ok () (w.setCell a (.float .f64 r)) := by
  rw [run_store _ _ _ _ _ rfl, h]
  simp [hf]
theorem stop_no (base g : Nat) (v : Value) (L : List Rn) (least most limit : Int) (mean : Nat) (a now : Int) (w : World) (hT : Tm w base g v L least most limit mean) (hp : place L a = none) :
    Calls Try.prog 14 #[.pointer (some ⟨g, 0, none⟩), .int .u64 a, .int .i64 now] w fun e w' => e = .returned (.bool false) ∧ New w w' := by
  have HQ := Lib.hid (placeI_none hp)
  have HT := Lib.hid hT
  clear hp hT
  go_enter Try.func14, Try.ntmps14
  go_wp2_with fail
  refine (place_any base g v L least most limit mean a w HT.out).mono ?_
  rw [HQ.out]
  rintro e w1 ⟨rfl, hb1⟩
  go_wp2_with fail
  go_ret
  exact ⟨rfl, hb1⟩
/-- What a timer's mean is behind an answer to a thing that was sent once. -/
def MeanN (mean : Nat) (now : Int) (x : Rn) (r : Nat) : Prop := if x.s = 1 then MeanR mean (floatOfInt .f64 (tickZ now - x.b)) 4593671619917905920 r else r = mean
set_option maxHeartbeats 4000000 in
set_option maxRecDepth 100000 in
theorem stop_yes (base g : Nat) (v : Value) (L : List Rn) (least most limit : Int) (mean : Nat) (a now : Int) (w : World) (hT : Tm w base g v L least most limit mean) (hF : ∀ r ∈ L, r.Fair) (hm : mean < 18446744073709551616) (i : Nat) (hi : i < L.length) (hp : place L a = some i) :
    Calls Try.prog 14 #[.pointer (some ⟨g, 0, none⟩), .int .u64 a, .int .i64 now] w fun e w' => e = .returned (.bool true) ∧
      ∃ v' r, MeanN mean now L[i] r ∧ Tm w' base g v' (L.eraseIdx i) least most limit r ∧ Fr (fun k => k = g ∨ v.ownBlock = some k) w w' ∧ v'.ownBlock = v.ownBlock := by
  have HQ := Lib.hid (placeI_some hp)
  have HP := Lib.hid hp
  have HT := Lib.hid hT
  have hfx := hF L[i] (List.getElem_mem _)
  have htk := tickZ_in now
  have htc := tick_any now
  have hy := (key_int (tickZ now - L[i].b)).1
  have hmn := fun w => mean_any mean (floatOfInt .f64 (tickZ now - L[i].b)) 4593671619917905920 hm hy (by decide) w
  have hME : ∀ r, MeanN mean now L[i] r = (if L[i].s = 1 then MeanR mean (floatOfInt .f64 (tickZ now - L[i].b)) 4593671619917905920 r else r = mean) := fun _ => rfl
  have hbx0 := hfx.b0
  have hbx1 := hfx.b1
  obtain ⟨A, c, rfl, hnc, hcm, -, -⟩ := own_shape hT.2.2.1
  obtain ⟨g', o', hl2, rfl, -, -, hrg⟩ := rd_row (f := Rn.cells) (L := L) (fun _ => rfl) (by omega) (Rd.own hT.2.2.1 rfl) hi
  have h4 : w.cell? ⟨g, 4, none⟩ = some (.slice (some ⟨g', o', none⟩) L.length c) := hT.2.1.cell 4
  generalize hE : MeanN mean now L[i] = MN at hME ⊢
  generalize L[i] = x at hfx hmn hy hME hbx0 hbx1 hrg
  generalize hyy : floatOfInt .f64 (tickZ now - x.b) = y at hmn hy hME
  generalize tickZ now = tk at htk htc hyy
  obtain ⟨xn, b, xd, xl, xs⟩ := x
  dsimp only at hmn hy hME hbx0 hbx1 hyy
  have HTC := Lib.hid htc
  have HMN := Lib.hid hmn
  have HME := Lib.hid hME
  have HRG := Lib.hid hrg
  have hwr : IntKind.i64.wrap (tk - b) = tk - b := by first | exact IntWalk.i64_in _ (by omega) | (simp [IntKind.wrap]; omega)
  have HYY := Lib.hid hyy
  have HWR := Lib.hid hwr
  clear hp hT hF hfx htc hmn hME hrg hy hE hyy hwr hl2
  go_enter Try.func14, Try.ntmps14
  go_wp2_with fail
  refine (place_any base g _ L least most limit mean a w HT.out).mono ?_
  rw [HQ.out]
  rintro e w1 ⟨rfl, hb1⟩
  have HN1 : Hid (New w w1) := Lib.hid hb1
  have HT1 := Lib.hid (HT.out.new hb1)
  have HRG1 : Hid (w1.rangeAt g' (o' + i * 5) [.int .u64 xn, .int .i64 b, .int .i64 xd, .int .i64 xl, .int .i64 xs]) := Lib.hid (New.range hb1 HRG.out)
  have j4 := New.cell_ hb1 h4
  have hi0 : (0 : Int) ≤ (i : Int) := by omega
  have hi1 : (i : Int) < (L.length : Int) := by omega
  have HI : Hid (i < L.length) := Lib.hid hi
  have HNG := Lib.hid (HT1.out.ne)
  clear hb1 h4 hi
  by_cases hs : xs = 1
  · subst hs
    go_upto_region 6 with ((with_reducible refine atOpS ⟨some 20, .load _ _, _, _, _, _⟩ ?_); refine row_load_at rowR rfl (.tmp 19) rfl rfl HRG1.out rfl ?_)
    obtain ⟨w3, hw3⟩ : ∃ w3 : World, w3 = w1.alloc (.cells #[.int .u64 xn, .int .i64 b, .int .i64 xd, .int .i64 xl, .int .i64 1] 65) := ⟨_, rfl⟩
    obtain ⟨bx, hbx⟩ : ∃ bx, bx = w1.heap.size := ⟨_, rfl⟩
    have HN3 : Hid (New w1 w3) := Lib.hid (by rw [hw3]; exact (New.refl w1).al _)
    have HB3 : Hid (Blk w3 bx 65 #[.int .u64 xn, .int .i64 b, .int .i64 xd, .int .i64 xl, .int .i64 1]) := Lib.hid (by rw [hw3, hbx]; exact Blk.new _ _ _)
    rw [← hw3, ← hbx]
    clear hw3 hbx
    go_cut [7] (fun s7 wx => s7 = .int .i64 i ∧ ∃ w5 r, wx = w5.setCell ⟨g, 3, none⟩ (.float .f64 r) ∧ Hid (MeanR mean y 4593671619917905920 r) ∧ Hid (New w3 w5))
    case first =>
      as_aux_lemma =>
        have hB3 := (HT1.out.new HN3.out).2.1
        have hSN : ∀ w', New w3 w' → w'.cell? ⟨g, 3, none⟩ = some (.float .f64 mean) ∧ w'.cell? ⟨bx, 1, none⟩ = some (.int .i64 b) := fun w' hN => ⟨hN.cell_ (hB3.cell 3), hN.cell_ (HB3.out.cell 1)⟩
        have hFZ : ∀ w', New w3 w' → w'.frozen? ⟨g, 3, none⟩ = false := fun w' hN => (hN.blk hB3).frozen 3
        have HFZ := Lib.hid hFZ
        clear hFZ hB3
        refine wp_region_T (fun w' => w'.cell? ⟨g, 3, none⟩ = some (.float .f64 mean) ∧ w'.cell? ⟨bx, 1, none⟩ = some (.int .i64 b)) 14 (by kernel_rfl) ?_
        refine wpAnyT_take (i := 0) (oi := ⟨_, _, _, _, _, _⟩) (v := .pointer (some ⟨g, 0, none⟩)) rfl (by kernel_rfl) (by kernel_rfl) (by kernel_rfl) (by kernel_rfl) (fun _ _ _ h => h) (Or.inl ⟨by rfl, fun w hSw => by have h1 := hSw.1; have h2 := hSw.2; clear hSw; go_simp⟩) (hSN _ (by repeat (first | with_reducible exact New.refl _ | with_reducible assumption | with_reducible refine New.dr ?_ | with_reducible refine New.al ?_ _) : New w3 _)) ?_
        try simp only [Act.put, List.setIfInBounds_toArray, List.set_cons_zero, List.set_cons_succ]
        refine wpAnyT_take (i := 1) (oi := ⟨_, _, _, _, _, _⟩) (v := .pointer (some ⟨g, 0, none⟩)) rfl (by kernel_rfl) (by kernel_rfl) (by kernel_rfl) (by kernel_rfl) (fun _ _ _ h => h) (Or.inl ⟨by rfl, fun w hSw => by have h1 := hSw.1; have h2 := hSw.2; clear hSw; go_simp⟩) (hSN _ (by repeat (first | with_reducible exact New.refl _ | with_reducible assumption | with_reducible refine New.dr ?_ | with_reducible refine New.al ?_ _) : New w3 _)) ?_
        try simp only [Act.put, List.setIfInBounds_toArray, List.set_cons_zero, List.set_cons_succ]
        refine wpAnyT_take (i := 2) (oi := ⟨_, _, _, _, _, _⟩) (v := .pointer (some ⟨g, 0, none⟩)) rfl (by kernel_rfl) (by kernel_rfl) (by kernel_rfl) (by kernel_rfl) (fun _ _ _ h => h) (Or.inl ⟨by rfl, fun w hSw => by have h1 := hSw.1; have h2 := hSw.2; clear hSw; go_simp⟩) (hSN _ (by repeat (first | with_reducible exact New.refl _ | with_reducible assumption | with_reducible refine New.dr ?_ | with_reducible refine New.al ?_ _) : New w3 _)) ?_
        try simp only [Act.put, List.setIfInBounds_toArray, List.set_cons_zero, List.set_cons_succ]
        refine wpAnyT_take (i := 3) (oi := ⟨_, _, _, _, _, _⟩) (v := .pointer (some ⟨g, 3, none⟩)) rfl (by kernel_rfl) (by kernel_rfl) (by kernel_rfl) (by kernel_rfl) (fun _ _ _ h => h) (Or.inl ⟨by rfl, fun w hSw => by have h1 := hSw.1; have h2 := hSw.2; clear hSw; go_simp⟩) (hSN _ (by repeat (first | with_reducible exact New.refl _ | with_reducible assumption | with_reducible refine New.dr ?_ | with_reducible refine New.al ?_ _) : New w3 _)) ?_
        try simp only [Act.put, List.setIfInBounds_toArray, List.set_cons_zero, List.set_cons_succ]
        refine wpAnyT_take (i := 4) (oi := ⟨_, _, _, _, _, _⟩) (v := .float .f64 mean) rfl (by kernel_rfl) (by kernel_rfl) (by kernel_rfl) (by kernel_rfl) (fun _ _ _ h => h) (Or.inl ⟨by rfl, fun w hSw => by have h1 := hSw.1; have h2 := hSw.2; clear hSw; go_simp⟩) (hSN _ (by repeat (first | with_reducible exact New.refl _ | with_reducible assumption | with_reducible refine New.dr ?_ | with_reducible refine New.al ?_ _) : New w3 _)) ?_
        try simp only [Act.put, List.setIfInBounds_toArray, List.set_cons_zero, List.set_cons_succ]
        refine wpAnyT_take (i := 5) (oi := ⟨_, _, _, _, _, _⟩) (v := .int .i64 now) rfl (by kernel_rfl) (by kernel_rfl) (by kernel_rfl) (by kernel_rfl) (fun _ _ _ h => h) (Or.inl ⟨by rfl, fun w hSw => by have h1 := hSw.1; have h2 := hSw.2; clear hSw; go_simp⟩) (hSN _ (by repeat (first | with_reducible exact New.refl _ | with_reducible assumption | with_reducible refine New.dr ?_ | with_reducible refine New.al ?_ _) : New w3 _)) ?_
        try simp only [Act.put, List.setIfInBounds_toArray, List.set_cons_zero, List.set_cons_succ]
        refine wpAnyT_take (i := 7) (oi := ⟨_, _, _, _, _, _⟩) (v := .pointer (some ⟨bx, 1, none⟩)) rfl (by kernel_rfl) (by kernel_rfl) (by kernel_rfl) (by kernel_rfl) (fun _ _ _ h => h) (Or.inl ⟨by rfl, fun w hSw => by have h1 := hSw.1; have h2 := hSw.2; clear hSw; go_simp⟩) (hSN _ (by repeat (first | with_reducible exact New.refl _ | with_reducible assumption | with_reducible refine New.dr ?_ | with_reducible refine New.al ?_ _) : New w3 _)) ?_
        try simp only [Act.put, List.setIfInBounds_toArray, List.set_cons_zero, List.set_cons_succ]
        refine wpAnyT_take (i := 8) (oi := ⟨_, _, _, _, _, _⟩) (v := .int .i64 b) rfl (by kernel_rfl) (by kernel_rfl) (by kernel_rfl) (by kernel_rfl) (fun _ _ _ h => h) (Or.inl ⟨by rfl, fun w hSw => by have h1 := hSw.1; have h2 := hSw.2; clear hSw; go_simp⟩) (hSN _ (by repeat (first | with_reducible exact New.refl _ | with_reducible assumption | with_reducible refine New.dr ?_ | with_reducible refine New.al ?_ _) : New w3 _)) ?_
        try simp only [Act.put, List.setIfInBounds_toArray, List.set_cons_zero, List.set_cons_succ]
        refine wpAnyT_ready (rs := [6]) (by kernel_rfl) (by simp) (AllT.cons (i := 6) (o := ⟨_, _, _, _, _, _⟩) rfl (fun K hK => ?_) AllT.nil)
        go_simp
        refine (HTC.out _).mono ?_
        rintro e w4 ⟨rfl, rfl⟩
        try go_simp
        try simp only [Act.put, List.setIfInBounds_toArray, List.set_cons_zero, List.set_cons_succ]
        refine hK.out _ _ (fun _ => hSN _ (by repeat (first | with_reducible exact New.refl _ | with_reducible assumption | with_reducible refine New.dr ?_ | with_reducible refine New.al ?_ _) : New w3 _)) ?_
        refine wpAnyT_take (i := 9) (oi := ⟨_, _, _, _, _, _⟩) (v := .int .i64 (tk - b)) rfl (by kernel_rfl) (by kernel_rfl) (by kernel_rfl) (by kernel_rfl) (fun _ _ _ h => h) (Or.inl ⟨by rfl, fun w hSw => by have h1 := hSw.1; have h2 := hSw.2; clear hSw; have hq := HWR.out; go_simp⟩) (hSN _ (by repeat (first | with_reducible exact New.refl _ | with_reducible assumption | with_reducible refine New.dr ?_ | with_reducible refine New.al ?_ _) : New w3 _)) ?_
        try simp only [Act.put, List.setIfInBounds_toArray, List.set_cons_zero, List.set_cons_succ]
        refine wpAnyT_take (i := 10) (oi := ⟨_, _, _, _, _, _⟩) (v := .float .f64 y) rfl (by kernel_rfl) (by kernel_rfl) (by kernel_rfl) (by kernel_rfl) (fun _ _ _ h => h) (Or.inl ⟨by rfl, fun w hSw => by have h1 := hSw.1; have h2 := hSw.2; clear hSw; have hq := HYY.out; go_simp⟩) (hSN _ (by repeat (first | with_reducible exact New.refl _ | with_reducible assumption | with_reducible refine New.dr ?_ | with_reducible refine New.al ?_ _) : New w3 _)) ?_
        try simp only [Act.put, List.setIfInBounds_toArray, List.set_cons_zero, List.set_cons_succ]
        refine wpAnyT_ready (rs := [11]) (by kernel_rfl) (by simp) (AllT.cons (i := 11) (o := ⟨_, _, _, _, _, _⟩) rfl (fun K hK => ?_) AllT.nil)
        go_simp
        refine (HMN.out _).mono ?_
        rintro e w5 ⟨r, rfl, hr5, hN5'⟩
        have hN5 : New w3 w5 := New.tr ((by repeat (first | with_reducible exact New.refl _ | with_reducible assumption | with_reducible refine New.dr ?_ | with_reducible refine New.al ?_ _) : New w3 _)) hN5'
        try go_simp
        try simp only [Act.put, List.setIfInBounds_toArray, List.set_cons_zero, List.set_cons_succ]
        refine hK.out _ _ (fun _ => hSN _ (by repeat (first | with_reducible exact New.refl _ | with_reducible assumption | with_reducible refine New.dr ?_ | with_reducible refine New.al ?_ _) : New w3 _)) ?_
        refine wpAnyT_ready (rs := [12]) (by kernel_rfl) (by simp) (AllT.cons (i := 12) (o := ⟨_, _, _, _, _, _⟩) rfl (fun K hK => ?_) AllT.nil)
        go_simp
        try simp only [Act.put, List.setIfInBounds_toArray, List.set_cons_zero, List.set_cons_succ]
        refine hK.out _ _ (fun _ => hSN _ (by repeat (first | with_reducible exact New.refl _ | with_reducible assumption | with_reducible refine New.dr ?_ | with_reducible refine New.al ?_ _) : New w3 _)) ?_
        refine wpAnyT_ready (rs := [13]) (by kernel_rfl) (by simp) (AllT.cons (i := 13) (o := ⟨_, _, _, _, _, _⟩) rfl (fun K hK => ?_) AllT.nil)
        go_simp
        try simp only [Act.put, List.setIfInBounds_toArray, List.set_cons_zero, List.set_cons_succ]
        refine hK.out _ _ (fun _ => hSN _ (by repeat (first | with_reducible exact New.refl _ | with_reducible assumption | with_reducible refine New.dr ?_ | with_reducible refine New.al ?_ _) : New w3 _)) ?_
        refine wpAnyT_ready (rs := [14]) (by kernel_rfl) (by simp) (AllT.cons (i := 14) (o := ⟨_, _, _, _, _, _⟩) rfl (fun K hK => ?_) AllT.nil)
        have hst := fun m => run_store_float (P := Try.prog) (m := m) (r := r) (hSN _ hN5).1 (HFZ.out _ hN5)
        go_simp
        try simp only [Act.put, List.setIfInBounds_toArray, List.set_cons_zero, List.set_cons_succ]
        refine hK.out _ _ (fun h => absurd rfl h) ?_
        refine wpAnyT_done (by kernel_rfl) ?_ _
        try go_wp2_with fail
        go_meet
        exact ⟨rfl, w5, r, rfl, Lib.hid hr5, Lib.hid hN5⟩
    case rest =>
      obtain ⟨rfl, w5, r, rfl, HMR, HN5⟩ := hcut
      have hT5 := HT1.out.new (HN3.out.tr HN5.out)
      have hT6 : Tm (w5.setCell ⟨g, 3, none⟩ (.float .f64 r)) base g _ L least most limit r := ⟨hT5.1, by have := hT5.2.1.set 3 (.float .f64 r); simpa using this, own_fr hT5.2.2.1 ((Fr.refl (fun k => k = g) w5).setCell (p := ⟨g, 3, none⟩) (fun _ => rfl) _) hT5.ne, hT5.2.2.2⟩
      have HT6 := Lib.hid hT6
      have hF6 : Fr (fun k => k = g) w (w5.setCell ⟨g, 3, none⟩ (.float .f64 r)) := (((HN1.out.tr HN3.out).tr HN5.out).toFr (fun k => k = g)).setCell (p := ⟨g, 3, none⟩) (fun _ => rfl) _
      have HF6 := Lib.hid hF6
      clear hT5 hT6 hF6
      generalize (w5.setCell ⟨g, 3, none⟩ (.float .f64 r)) = w6 at HT6 HF6 ⊢
      go_wp2_with fail
      refine (drop_yes base g _ L least most limit r a w6 HT6.out i HP.out).mono ?_
      rintro e w7 ⟨rfl, v7, hT7, hF7, hv7⟩
      have HT7 := Lib.hid hT7
      have HF7 := Lib.hid hF7
      have HV7 := Lib.hid hv7
      clear hT7 hF7 hv7
      go_wp2_with fail
      go_ret
      refine ⟨rfl, v7, r, ?_, HT7.out, ?_, HV7.out⟩
      · rw [HME.out]; exact HMR.out
      · exact (HF6.out.mono (fun k _ hk => .inl hk)).trans HF7.out
  · have HS := Lib.hid hs
    have hs2 : (xs == 1) = false := by simpa using hs
    clear hs
    go_wp2_with ((with_reducible refine atOpS ⟨some 20, .load _ _, _, _, _, _⟩ ?_); refine row_load_at rowR rfl (.tmp 19) rfl rfl HRG1.out rfl ?_)
    obtain ⟨w3, hw3⟩ : ∃ w3 : World, w3 = w1.alloc (.cells #[.int .u64 xn, .int .i64 b, .int .i64 xd, .int .i64 xl, .int .i64 xs] 65) := ⟨_, rfl⟩
    have HN3 : Hid (New w1 w3) := Lib.hid (by rw [hw3]; exact (New.refl w1).al _)
    rw [← hw3]
    clear hw3
    refine (drop_yes base g _ L least most limit mean a w3 (HT1.out.new HN3.out) i HP.out).mono ?_
    rintro e w7 ⟨rfl, v7, hT7, hF7, hv7⟩
    have HT7 := Lib.hid hT7
    have HF7 := Lib.hid hF7
    have HV7 := Lib.hid hv7
    clear hT7 hF7 hv7
    go_wp2_with fail
    go_ret
    refine ⟨rfl, v7, mean, ?_, HT7.out, ?_, HV7.out⟩
    · rw [HME.out, if_neg HS.out]
    · exact ((HN1.out.tr HN3.out).toFr _).trans HF7.out
end Go.Proofs.Ytbgjoohnognagaa
