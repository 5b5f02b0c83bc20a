/- The law's same: it answers true where the timer and the document's hold the same. No condition but that. -/
import Derived.Test.YtbgjoohnognagaaTpE
namespace Go.Proofs.Ytbgjoohnognagaa
open Go.RowKit

def LeastOf (L : List Rn) (dv : Int) (tb : Bool) : Prop := (L = [] ∧ dv = 0 ∧ tb = false) ∨ ∃ m, Minned L m ∧ dv = m.d ∧ tb = true
theorem next_is {L : List Rn} {e : Ending} {dv : Int} {tb : Bool} (h : NextEnd L e) (k : LeastOf L dv tb) : e = .returned (.tuple #[.int .i64 dv, .bool tb]) := by
  rcases h with ⟨h1, h2⟩ | ⟨m, h1, h2⟩
  · rcases k with ⟨k1, k2, k3⟩ | ⟨m', k1, k2, k3⟩
    · rw [h2, k2, k3]
    · rw [h1] at k1; exact absurd k1.1 (by simp)
  · rcases k with ⟨k1, k2, k3⟩ | ⟨m', k1, k2, k3⟩
    · rw [k1] at h1; exact absurd h1.1 (by simp)
    · have e1 : m.d = m'.d := Int.le_antisymm (h1.2 _ k1.1) (k1.2 _ h1.1)
      rw [h2, k2, k3, e1]
theorem least_first {L : List Rn} (hl : 0 < L.length) : Minned (L.take 1) L[0] := by
  rw [List.take_succ_eq_append_getElem hl]
  refine ⟨by simp, fun x hx => ?_⟩
  simp at hx
  rw [hx]; omega
/-- What same's loop holds behind k things. -/
def SI (L : List Rn) (k : Nat) (dv : Int) (tb : Bool) : Prop := LeastOf (L.take k) dv tb ∧ (tb = decide (0 < k))

set_option maxHeartbeats 16000000 in
set_option maxRecDepth 100000 in
theorem same_any (base g : Nat) (v : Value) (L : List Rn) (least most limit : Int) (mean : Nat) (t : RT) (r a : Int) (w : World) (hT : Tm w base g v L least most limit mean) (h : RIn w t L) (hF : ∀ r ∈ L, r.Fair)
    (hb : bitsOf t.mean = bitsOf mean) (hm1 : mean < 18446744073709551616) (hm2 : t.mean < 18446744073709551616) (hr : TickR mean least most r) (hr2 : TickR t.mean t.lt t.mt r) :
    Calls Try.prog 24 #[.pointer (some ⟨g, 0, none⟩), .agg #[.int .i64 t.lt, .int .i64 t.mt, .int .i64 t.lm, .float .f64 t.mean, .slice t.A t.n t.c], .int .u64 a] w fun e w' => e = .returned (.bool true) ∧ New w w' := by
  have HT := Lib.hid hT
  have H := Lib.hid h
  have HL := Lib.hid h.len
  have HFA := Lib.hid hF
  have hle := h.le
  have HR := Lib.hid h.rd
  have hme := fun (w' : World) (hN : New w w') => tmean_any base g v L least most limit mean w' (hT.new hN)
  have hb1 := fun w => bits_any mean hm1 w
  have hb2 := fun w => bits_any t.mean hm2 w
  rw [hb] at hb2
  have hiv := fun (w' : World) (hN : New w w') => interval_any base g v L least most limit mean r w' (hT.new hN) hr
  have hrv := fun w => rinterval_any t r w hr2
  have hle' := fun (w' : World) (hN : New w w') => len_any base g v L least most limit mean w' (hT.new hN)
  rw [h.len] at hle'
  have hse := fun (w' : World) (hN : New w w') => sent_any base g v L least most limit mean a w' (hT.new hN)
  have hpl := fun (w' : World) (hN : New w w') => rplace_any t L a w' (h.new hN)
  have hnx := fun (w' : World) (hN : New w w') => next_any base g v L least most limit mean w' (hT.new hN) hF
  obtain ⟨lt, mt, lm, mean2, A, n, c⟩ := t
  dsimp only at hle HL HR hb2 hrv hle' hpl ⊢
  generalize bitsOf mean = bb at hb1 hb2
  have HME0 := Lib.hid hme
  have HB1 := Lib.hid hb1
  have HB2 := Lib.hid hb2
  have HIV0 := Lib.hid hiv
  have HRV := Lib.hid hrv
  have HLE0 := Lib.hid hle'
  have HSE0 := Lib.hid hse
  have HPL := Lib.hid hpl
  have HNX := Lib.hid hnx
  clear hT h hF hb hm1 hm2 hr hr2 hme hb1 hb2 hiv hrv hle' hse hpl hnx
  obtain ⟨w0, bx, hw0, hbx, hB, hN0, hx1, hx2⟩ := box_blk w 48 #[.int .i64 lt, .int .i64 mt, .int .i64 lm, .float .f64 mean2, .slice A n c]
  have HBX := Lib.hid hB
  have HN0 : Hid (New w w0) := Lib.hid hN0
  have HW := Lib.hid hw0
  have HBE := Lib.hid hbx
  have x4 : w0.cell? ⟨bx, 4, none⟩ = some (.slice A n c) := hB.cell 4
  clear hB hN0 hw0 hbx
  go_enter Try.func24, Try.ntmps24
  go_upto_region 1 with fail
  rw [← HW.out, ← HBE.out]
  go_wp2_with fail
  go_loopw [7, 8, 18] (fun d b i wr => ∃ (k : Nat) (dv : Int) (tb : Bool), k ≤ n ∧ i = .int .i64 k ∧ d = .int .i64 dv ∧ b = .bool tb ∧ Hid (SI L k dv tb) ∧ Hid (New w0 wr)) (fun _ _ i _ => n - (intOf i).toNat)
  case atStart => exact ⟨0, 0, false, by omega, rfl, rfl, rfl, Lib.hid ⟨.inl ⟨by simp, rfl, rfl⟩, by simp⟩, Lib.hid (New.refl _)⟩
  case round =>
    obtain ⟨k, dv, tb, hk, rfl, rfl, rfl, HI, HN⟩ := hrel
    by_cases hlt : k < n
    · as_aux_lemma =>
      obtain ⟨go, o, hl, rfl, -, -, hrg⟩ := rd_row (f := Rn.cells) (L := L) (fun _ => rfl) (by omega) (New.rd (HN0.out.tr HN.out) HR.out) hlt
      have hI := HI.out
      have hmin : ∀ m, Minned (L.take k) m → L[k].d < m.d → SI L (k + 1) L[k].d true := fun m hm hd => ⟨.inr ⟨L[k], min_less hm hl hd, rfl, rfl⟩, by simp⟩
      have hkeep : ∀ m, Minned (L.take k) m → ¬ L[k].d < m.d → SI L (k + 1) m.d true := fun m hm hd => ⟨.inr ⟨m, min_more hm hl hd, rfl, rfl⟩, by simp⟩
      have hfst : k = 0 → SI L (k + 1) L[k].d true := fun e => by subst e; exact ⟨.inr ⟨L[0], least_first hl, rfl, rfl⟩, by simp⟩
      generalize L[k] = x at hrg hmin hkeep hfst
      obtain ⟨xn, xb, xd, xl, xs⟩ := x
      dsimp only at hmin hkeep hfst
      have HRG : Hid (wr.rangeAt go (o + k * 5) [.int .u64 xn, .int .i64 xb, .int .i64 xd, .int .i64 xl, .int .i64 xs]) := Lib.hid hrg
      have hki : (0 : Int) ≤ (k : Int) := by omega
      have hkn : (k : Int) < (n : Int) := by omega
      have HN3 : Hid (∀ o, New w0 (wr.alloc o)) := Lib.hid fun o => HN.out.al o
      rcases tb with _ | _
      · have hk0 : k = 0 := by have := hI.2; simp at this; exact this
        have HS := Lib.hid (hfst hk0)
        clear hI hmin hkeep hfst hrg hl HI hk0
        go_wp2_with ((with_reducible refine atOpS ⟨some 21, .load _ _, _, _, _, _⟩ ?_); refine row_load_at rowQ rfl (.tmp 20) rfl rfl HRG.out rfl ?_)
        go_roundw
        case rel => exact ⟨k + 1, xd, true, by omega, by go_num, rfl, rfl, HS, Lib.hid (HN3.out _)⟩
        case measure => simp [intOf]; omega
      · obtain ⟨m, hm, hdv⟩ : ∃ m, Minned (L.take k) m ∧ dv = m.d := by
          rcases hI.1 with ⟨_, _, h⟩ | ⟨m, h1, h2, _⟩
          · cases h
          · exact ⟨m, h1, h2⟩
        by_cases hd : xd < m.d
        · have HS := Lib.hid (hmin m hm hd)
          rw [← hdv] at hd
          clear hI hmin hkeep hfst hrg hl HI hm hdv
          go_wp2_with ((with_reducible refine atOpS ⟨some 21, .load _ _, _, _, _, _⟩ ?_); refine row_load_at rowQ rfl (.tmp 20) rfl rfl HRG.out rfl ?_)
          go_roundw
          case rel => exact ⟨k + 1, xd, true, by omega, by go_num, rfl, rfl, HS, Lib.hid (HN3.out _)⟩
          case measure => simp [intOf]; omega
        · have HS := Lib.hid (hkeep m hm hd)
          rw [← hdv] at hd HS
          clear hI hmin hkeep hfst hrg hl HI hm hdv
          go_wp2_with ((with_reducible refine atOpS ⟨some 21, .load _ _, _, _, _, _⟩ ?_); refine row_load_at rowQ rfl (.tmp 20) rfl rfl HRG.out rfl ?_)
          go_roundw
          case rel => exact ⟨k + 1, dv, true, by omega, by go_num, rfl, rfl, HS, Lib.hid (HN3.out _)⟩
          case measure => simp [intOf]; omega
    · as_aux_lemma =>
      obtain rfl : k = n := by omega
      have hI := HI.out.1
      rw [List.take_of_length_le (by rw [HL.out]; omega)] at hI
      have HI2 := Lib.hid hI
      have HNw : Hid (New w wr) := Lib.hid (HN0.out.tr HN.out)
      have HBw := Lib.hid (HN.out.blk HBX.out)
      clear hI HI x4
      obtain ⟨sn, hsn⟩ : ∃ sn, sn = sentOf L a := ⟨_, rfl⟩
      have hse := HSE0.out
      rw [← hsn] at hse
      have HSE1 := Lib.hid hse
      clear hse HSE0
      rcases hp : place L a with _ | i
      · have HQ := Lib.hid (placeI_none hp)
        have hs0 : sn = 0 := by rw [hsn]; simp [sentOf, hp]
        subst hs0
        clear hp hsn
        go_wp2_with ((with_reducible refine atOpS ⟨some 33, .load _ _, _, _, _, _⟩ ?_); refine row_load rowT rfl (.tmp 4) rfl rfl HBw.out rfl ?_)
        refine (HPL.out wr HNw.out).mono ?_
        rw [HQ.out]
        rintro e w5 ⟨rfl, hN5⟩
        have HN5 : Hid (New w w5) := Lib.hid (HNw.out.tr hN5)
        have HB5 := Lib.hid (New.blk hN5 HBw.out)
        clear hN5
        generalize (0 : Int) = sn at HSE1
        go_wp2_with fail
        refine (HNX.out w5 HN5.out).mono ?_
        rintro e w6 ⟨he, hN6⟩
        have he' := next_is he HI2.out
        subst he'
        have HNw6 : Hid (New w w6) := Lib.hid (HN5.out.tr hN6)
        have HB6 := Lib.hid (New.blk hN6 HB5.out)
        have HME := Lib.hid (fun w' (hN : New w6 w') => HME0.out w' (HNw6.out.tr hN))
        have HIV := Lib.hid (fun w' (hN : New w6 w') => HIV0.out w' (HNw6.out.tr hN))
        have HLE := Lib.hid (fun w' (hN : New w6 w') => HLE0.out w' (HNw6.out.tr hN))
        have HSE := Lib.hid (fun w' (hN : New w6 w') => HSE1.out w' (HNw6.out.tr hN))
        have hSN : ∀ w', New w6 w' → (fun w' => w'.rangeAt bx 0 [.int .i64 lt, .int .i64 mt, .int .i64 lm, .float .f64 mean2, .slice A k c] ∧ w'.cell? ⟨bx, 3, none⟩ = some (.float .f64 mean2) ∧ w'.cell? ⟨bx, 4, none⟩ = some (.slice A k c)) w' := fun w' hN => ⟨New.range hN HB6.out.range, hN.cell_ (HB6.out.cell 3), hN.cell_ (HB6.out.cell 4)⟩
        clear he hN6
        go_wp2_with fail
        refine wp_region_H (fun w' => w'.rangeAt bx 0 [.int .i64 lt, .int .i64 mt, .int .i64 lm, .float .f64 mean2, .slice A k c] ∧ w'.cell? ⟨bx, 3, none⟩ = some (.float .f64 mean2) ∧ w'.cell? ⟨bx, 4, none⟩ = some (.slice A k c)) (by kernel_rfl) ?_
        refine wpAnyH_take (i := 0) (oi := ⟨_, _, _, _, _, _⟩) (v := .pointer (some ⟨g, 0, none⟩)) rfl (by kernel_rfl) (by kernel_rfl) (by kernel_rfl) (fun _ _ _ h => h) (Or.inl ⟨by rfl, fun w hSw => by have h1 := hSw.2.1; have h2 := hSw.2.2; clear hSw; go_simp⟩) (hSN _ (by repeat (first | with_reducible exact New.refl _ | with_reducible assumption | with_reducible refine New.dr ?_ | with_reducible refine New.al ?_ _) : New w6 _)) ?_
        try simp only [Act.put, List.setIfInBounds_toArray, List.set_cons_zero, List.set_cons_succ]
        refine wpAnyH_take (i := 3) (oi := ⟨_, _, _, _, _, _⟩) (v := .pointer (some ⟨bx, 3, none⟩)) rfl (by kernel_rfl) (by kernel_rfl) (by kernel_rfl) (fun _ _ _ h => h) (Or.inl ⟨by rfl, fun w hSw => by have h1 := hSw.2.1; have h2 := hSw.2.2; clear hSw; go_simp⟩) (hSN _ (by repeat (first | with_reducible exact New.refl _ | with_reducible assumption | with_reducible refine New.dr ?_ | with_reducible refine New.al ?_ _) : New w6 _)) ?_
        try simp only [Act.put, List.setIfInBounds_toArray, List.set_cons_zero, List.set_cons_succ]
        refine wpAnyH_take (i := 4) (oi := ⟨_, _, _, _, _, _⟩) (v := .float .f64 mean2) rfl (by kernel_rfl) (by kernel_rfl) (by kernel_rfl) (fun _ _ _ h => h) (Or.inl ⟨by rfl, fun w hSw => by have h1 := hSw.2.1; have h2 := hSw.2.2; clear hSw; go_simp⟩) (hSN _ (by repeat (first | with_reducible exact New.refl _ | with_reducible assumption | with_reducible refine New.dr ?_ | with_reducible refine New.al ?_ _) : New w6 _)) ?_
        try simp only [Act.put, List.setIfInBounds_toArray, List.set_cons_zero, List.set_cons_succ]
        refine wpAnyH_ready (rs := [1]) (by kernel_rfl) (by simp) (AllH.cons (i := 1) (o := ⟨_, _, _, _, _, _⟩) rfl (fun K hK => ?_) AllH.nil)
        go_simp
        refine (HME.out _ (by repeat (first | with_reducible exact New.refl _ | with_reducible assumption | with_reducible refine New.dr ?_ | with_reducible refine New.al ?_ _) : New w6 _)).mono ?_
        rintro e w7 ⟨rfl, rfl⟩
        try go_simp
        try simp only [Act.put, List.setIfInBounds_toArray, List.set_cons_zero, List.set_cons_succ]
        refine hK.out _ _ (hSN _ (by repeat (first | with_reducible exact New.refl _ | with_reducible assumption | with_reducible refine New.dr ?_ | with_reducible refine New.al ?_ _) : New w6 _)) ?_
        refine wpAnyH_ready (rs := [2]) (by kernel_rfl) (by simp) (AllH.cons (i := 2) (o := ⟨_, _, _, _, _, _⟩) rfl (fun K hK => ?_) AllH.nil)
        go_simp
        refine (HB1.out _).mono ?_
        rintro e w7 ⟨rfl, rfl⟩
        try go_simp
        try simp only [Act.put, List.setIfInBounds_toArray, List.set_cons_zero, List.set_cons_succ]
        refine hK.out _ _ (hSN _ (by repeat (first | with_reducible exact New.refl _ | with_reducible assumption | with_reducible refine New.dr ?_ | with_reducible refine New.al ?_ _) : New w6 _)) ?_
        refine wpAnyH_ready (rs := [5]) (by kernel_rfl) (by simp) (AllH.cons (i := 5) (o := ⟨_, _, _, _, _, _⟩) rfl (fun K hK => ?_) AllH.nil)
        go_simp
        refine (HB2.out _).mono ?_
        rintro e w7 ⟨rfl, rfl⟩
        try go_simp
        try simp only [Act.put, List.setIfInBounds_toArray, List.set_cons_zero, List.set_cons_succ]
        refine hK.out _ _ (hSN _ (by repeat (first | with_reducible exact New.refl _ | with_reducible assumption | with_reducible refine New.dr ?_ | with_reducible refine New.al ?_ _) : New w6 _)) ?_
        refine wpAnyH_take (i := 6) (oi := ⟨_, _, _, _, _, _⟩) (v := .bool true) rfl (by kernel_rfl) (by kernel_rfl) (by kernel_rfl) (fun _ _ _ h => h) (Or.inl ⟨by rfl, fun w hSw => by have h1 := hSw.2.1; have h2 := hSw.2.2; clear hSw; go_simp⟩) (hSN _ (by repeat (first | with_reducible exact New.refl _ | with_reducible assumption | with_reducible refine New.dr ?_ | with_reducible refine New.al ?_ _) : New w6 _)) ?_
        try simp only [Act.put, List.setIfInBounds_toArray, List.set_cons_zero, List.set_cons_succ]
        refine wpAnyH_take (i := 7) (oi := ⟨_, _, _, _, _, _⟩) (v := .bool true) rfl (by kernel_rfl) (by kernel_rfl) (by kernel_rfl) (fun _ _ _ h => h) (Or.inl ⟨by rfl, fun w hSw => by have h1 := hSw.2.1; have h2 := hSw.2.2; clear hSw; go_simp⟩) (hSN _ (by repeat (first | with_reducible exact New.refl _ | with_reducible assumption | with_reducible refine New.dr ?_ | with_reducible refine New.al ?_ _) : New w6 _)) ?_
        try simp only [Act.put, List.setIfInBounds_toArray, List.set_cons_zero, List.set_cons_succ]
        refine wpAnyH_take (i := 8) (oi := ⟨_, _, _, _, _, _⟩) (v := .pointer (some ⟨g, 0, none⟩)) rfl (by kernel_rfl) (by kernel_rfl) (by kernel_rfl) (fun _ _ _ h => h) (Or.inl ⟨by rfl, fun w hSw => by have h1 := hSw.2.1; have h2 := hSw.2.2; clear hSw; go_simp⟩) (hSN _ (by repeat (first | with_reducible exact New.refl _ | with_reducible assumption | with_reducible refine New.dr ?_ | with_reducible refine New.al ?_ _) : New w6 _)) ?_
        try simp only [Act.put, List.setIfInBounds_toArray, List.set_cons_zero, List.set_cons_succ]
        refine wpAnyH_take (i := 10) (oi := ⟨_, _, _, _, _, _⟩) (v := .agg #[.int .i64 lt, .int .i64 mt, .int .i64 lm, .float .f64 mean2, .slice A k c]) rfl (by kernel_rfl) (by kernel_rfl) (by kernel_rfl) (fun _ _ _ h => h) (yields_row rowT (by rfl) (.tmp 4) (by rfl) (b := bx) (off := 0) (cs := [.int .i64 lt, .int .i64 mt, .int .i64 lm, .float .f64 mean2, .slice A k c]) rfl (fun w hSw => hSw.1) rfl) (hSN _ (by repeat (first | with_reducible exact New.refl _ | with_reducible assumption | with_reducible refine New.dr ?_ | with_reducible refine New.al ?_ _) : New w6 _)) ?_
        try simp only [Act.put, List.setIfInBounds_toArray, List.set_cons_zero, List.set_cons_succ]
        refine wpAnyH_ready (rs := [9]) (by kernel_rfl) (by simp) (AllH.cons (i := 9) (o := ⟨_, _, _, _, _, _⟩) rfl (fun K hK => ?_) AllH.nil)
        go_simp
        refine (HIV.out _ (by repeat (first | with_reducible exact New.refl _ | with_reducible assumption | with_reducible refine New.dr ?_ | with_reducible refine New.al ?_ _) : New w6 _)).mono ?_
        rintro e w7 ⟨rfl, hN'⟩
        have hN_w7 : New w6 w7 := New.tr ((by repeat (first | with_reducible exact New.refl _ | with_reducible assumption | with_reducible refine New.dr ?_ | with_reducible refine New.al ?_ _) : New w6 _)) hN'
        clear hN'
        try go_simp
        try simp only [Act.put, List.setIfInBounds_toArray, List.set_cons_zero, List.set_cons_succ]
        refine hK.out _ _ (hSN _ (by repeat (first | with_reducible exact New.refl _ | with_reducible assumption | with_reducible refine New.dr ?_ | with_reducible refine New.al ?_ _) : New w6 _)) ?_
        refine wpAnyH_ready (rs := [11]) (by kernel_rfl) (by simp) (AllH.cons (i := 11) (o := ⟨_, _, _, _, _, _⟩) rfl (fun K hK => ?_) AllH.nil)
        go_simp
        refine (HRV.out _).mono ?_
        rintro e w8 ⟨rfl, hN'⟩
        have hN_w8 : New w6 w8 := New.tr ((by repeat (first | with_reducible exact New.refl _ | with_reducible assumption | with_reducible refine New.dr ?_ | with_reducible refine New.al ?_ _) : New w6 _)) hN'
        clear hN'
        try go_simp
        try simp only [Act.put, List.setIfInBounds_toArray, List.set_cons_zero, List.set_cons_succ]
        refine hK.out _ _ (hSN _ (by repeat (first | with_reducible exact New.refl _ | with_reducible assumption | with_reducible refine New.dr ?_ | with_reducible refine New.al ?_ _) : New w6 _)) ?_
        refine wpAnyH_take (i := 12) (oi := ⟨_, _, _, _, _, _⟩) (v := .bool true) rfl (by kernel_rfl) (by kernel_rfl) (by kernel_rfl) (fun _ _ _ h => h) (Or.inl ⟨by rfl, fun w hSw => by have h1 := hSw.2.1; have h2 := hSw.2.2; clear hSw; go_simp⟩) (hSN _ (by repeat (first | with_reducible exact New.refl _ | with_reducible assumption | with_reducible refine New.dr ?_ | with_reducible refine New.al ?_ _) : New w6 _)) ?_
        try simp only [Act.put, List.setIfInBounds_toArray, List.set_cons_zero, List.set_cons_succ]
        refine wpAnyH_take (i := 13) (oi := ⟨_, _, _, _, _, _⟩) (v := .bool true) rfl (by kernel_rfl) (by kernel_rfl) (by kernel_rfl) (fun _ _ _ h => h) (Or.inl ⟨by rfl, fun w hSw => by have h1 := hSw.2.1; have h2 := hSw.2.2; clear hSw; go_simp⟩) (hSN _ (by repeat (first | with_reducible exact New.refl _ | with_reducible assumption | with_reducible refine New.dr ?_ | with_reducible refine New.al ?_ _) : New w6 _)) ?_
        try simp only [Act.put, List.setIfInBounds_toArray, List.set_cons_zero, List.set_cons_succ]
        refine wpAnyH_take (i := 14) (oi := ⟨_, _, _, _, _, _⟩) (v := .bool true) rfl (by kernel_rfl) (by kernel_rfl) (by kernel_rfl) (fun _ _ _ h => h) (Or.inl ⟨by rfl, fun w hSw => by have h1 := hSw.2.1; have h2 := hSw.2.2; clear hSw; go_simp⟩) (hSN _ (by repeat (first | with_reducible exact New.refl _ | with_reducible assumption | with_reducible refine New.dr ?_ | with_reducible refine New.al ?_ _) : New w6 _)) ?_
        try simp only [Act.put, List.setIfInBounds_toArray, List.set_cons_zero, List.set_cons_succ]
        refine wpAnyH_take (i := 15) (oi := ⟨_, _, _, _, _, _⟩) (v := .int .i64 dv) rfl (by kernel_rfl) (by kernel_rfl) (by kernel_rfl) (fun _ _ _ h => h) (Or.inl ⟨by rfl, fun w hSw => by have h1 := hSw.2.1; have h2 := hSw.2.2; clear hSw; go_simp⟩) (hSN _ (by repeat (first | with_reducible exact New.refl _ | with_reducible assumption | with_reducible refine New.dr ?_ | with_reducible refine New.al ?_ _) : New w6 _)) ?_
        try simp only [Act.put, List.setIfInBounds_toArray, List.set_cons_zero, List.set_cons_succ]
        refine wpAnyH_take (i := 16) (oi := ⟨_, _, _, _, _, _⟩) (v := .int .i64 dv) rfl (by kernel_rfl) (by kernel_rfl) (by kernel_rfl) (fun _ _ _ h => h) (Or.inl ⟨by rfl, fun w hSw => by have h1 := hSw.2.1; have h2 := hSw.2.2; clear hSw; go_simp⟩) (hSN _ (by repeat (first | with_reducible exact New.refl _ | with_reducible assumption | with_reducible refine New.dr ?_ | with_reducible refine New.al ?_ _) : New w6 _)) ?_
        try simp only [Act.put, List.setIfInBounds_toArray, List.set_cons_zero, List.set_cons_succ]
        refine wpAnyH_take (i := 17) (oi := ⟨_, _, _, _, _, _⟩) (v := .bool true) rfl (by kernel_rfl) (by kernel_rfl) (by kernel_rfl) (fun _ _ _ h => h) (Or.inl ⟨by rfl, fun w hSw => by have h1 := hSw.2.1; have h2 := hSw.2.2; clear hSw; go_simp⟩) (hSN _ (by repeat (first | with_reducible exact New.refl _ | with_reducible assumption | with_reducible refine New.dr ?_ | with_reducible refine New.al ?_ _) : New w6 _)) ?_
        try simp only [Act.put, List.setIfInBounds_toArray, List.set_cons_zero, List.set_cons_succ]
        refine wpAnyH_take (i := 18) (oi := ⟨_, _, _, _, _, _⟩) (v := .bool true) rfl (by kernel_rfl) (by kernel_rfl) (by kernel_rfl) (fun _ _ _ h => h) (Or.inl ⟨by rfl, fun w hSw => by have h1 := hSw.2.1; have h2 := hSw.2.2; clear hSw; go_simp⟩) (hSN _ (by repeat (first | with_reducible exact New.refl _ | with_reducible assumption | with_reducible refine New.dr ?_ | with_reducible refine New.al ?_ _) : New w6 _)) ?_
        try simp only [Act.put, List.setIfInBounds_toArray, List.set_cons_zero, List.set_cons_succ]
        refine wpAnyH_take (i := 19) (oi := ⟨_, _, _, _, _, _⟩) (v := .bool true) rfl (by kernel_rfl) (by kernel_rfl) (by kernel_rfl) (fun _ _ _ h => h) (Or.inl ⟨by rfl, fun w hSw => by have h1 := hSw.2.1; have h2 := hSw.2.2; clear hSw; go_simp⟩) (hSN _ (by repeat (first | with_reducible exact New.refl _ | with_reducible assumption | with_reducible refine New.dr ?_ | with_reducible refine New.al ?_ _) : New w6 _)) ?_
        try simp only [Act.put, List.setIfInBounds_toArray, List.set_cons_zero, List.set_cons_succ]
        refine wpAnyH_take (i := 20) (oi := ⟨_, _, _, _, _, _⟩) (v := .bool tb) rfl (by kernel_rfl) (by kernel_rfl) (by kernel_rfl) (fun _ _ _ h => h) (Or.inl ⟨by rfl, fun w hSw => by have h1 := hSw.2.1; have h2 := hSw.2.2; clear hSw; go_simp⟩) (hSN _ (by repeat (first | with_reducible exact New.refl _ | with_reducible assumption | with_reducible refine New.dr ?_ | with_reducible refine New.al ?_ _) : New w6 _)) ?_
        try simp only [Act.put, List.setIfInBounds_toArray, List.set_cons_zero, List.set_cons_succ]
        refine wpAnyH_take (i := 21) (oi := ⟨_, _, _, _, _, _⟩) (v := .bool tb) rfl (by kernel_rfl) (by kernel_rfl) (by kernel_rfl) (fun _ _ _ h => h) (Or.inl ⟨by rfl, fun w hSw => by have h1 := hSw.2.1; have h2 := hSw.2.2; clear hSw; go_simp⟩) (hSN _ (by repeat (first | with_reducible exact New.refl _ | with_reducible assumption | with_reducible refine New.dr ?_ | with_reducible refine New.al ?_ _) : New w6 _)) ?_
        try simp only [Act.put, List.setIfInBounds_toArray, List.set_cons_zero, List.set_cons_succ]
        refine wpAnyH_take (i := 22) (oi := ⟨_, _, _, _, _, _⟩) (v := .bool true) rfl (by kernel_rfl) (by kernel_rfl) (by kernel_rfl) (fun _ _ _ h => h) (Or.inl ⟨by rfl, fun w hSw => by have h1 := hSw.2.1; have h2 := hSw.2.2; clear hSw; go_simp⟩) (hSN _ (by repeat (first | with_reducible exact New.refl _ | with_reducible assumption | with_reducible refine New.dr ?_ | with_reducible refine New.al ?_ _) : New w6 _)) ?_
        try simp only [Act.put, List.setIfInBounds_toArray, List.set_cons_zero, List.set_cons_succ]
        refine wpAnyH_take (i := 23) (oi := ⟨_, _, _, _, _, _⟩) (v := .bool true) rfl (by kernel_rfl) (by kernel_rfl) (by kernel_rfl) (fun _ _ _ h => h) (Or.inl ⟨by rfl, fun w hSw => by have h1 := hSw.2.1; have h2 := hSw.2.2; clear hSw; go_simp⟩) (hSN _ (by repeat (first | with_reducible exact New.refl _ | with_reducible assumption | with_reducible refine New.dr ?_ | with_reducible refine New.al ?_ _) : New w6 _)) ?_
        try simp only [Act.put, List.setIfInBounds_toArray, List.set_cons_zero, List.set_cons_succ]
        refine wpAnyH_take (i := 24) (oi := ⟨_, _, _, _, _, _⟩) (v := .bool true) rfl (by kernel_rfl) (by kernel_rfl) (by kernel_rfl) (fun _ _ _ h => h) (Or.inl ⟨by rfl, fun w hSw => by have h1 := hSw.2.1; have h2 := hSw.2.2; clear hSw; go_simp⟩) (hSN _ (by repeat (first | with_reducible exact New.refl _ | with_reducible assumption | with_reducible refine New.dr ?_ | with_reducible refine New.al ?_ _) : New w6 _)) ?_
        try simp only [Act.put, List.setIfInBounds_toArray, List.set_cons_zero, List.set_cons_succ]
        refine wpAnyH_take (i := 25) (oi := ⟨_, _, _, _, _, _⟩) (v := .pointer (some ⟨g, 0, none⟩)) rfl (by kernel_rfl) (by kernel_rfl) (by kernel_rfl) (fun _ _ _ h => h) (Or.inl ⟨by rfl, fun w hSw => by have h1 := hSw.2.1; have h2 := hSw.2.2; clear hSw; go_simp⟩) (hSN _ (by repeat (first | with_reducible exact New.refl _ | with_reducible assumption | with_reducible refine New.dr ?_ | with_reducible refine New.al ?_ _) : New w6 _)) ?_
        try simp only [Act.put, List.setIfInBounds_toArray, List.set_cons_zero, List.set_cons_succ]
        refine wpAnyH_take (i := 27) (oi := ⟨_, _, _, _, _, _⟩) (v := .pointer (some ⟨bx, 4, none⟩)) rfl (by kernel_rfl) (by kernel_rfl) (by kernel_rfl) (fun _ _ _ h => h) (Or.inl ⟨by rfl, fun w hSw => by have h1 := hSw.2.1; have h2 := hSw.2.2; clear hSw; go_simp⟩) (hSN _ (by repeat (first | with_reducible exact New.refl _ | with_reducible assumption | with_reducible refine New.dr ?_ | with_reducible refine New.al ?_ _) : New w6 _)) ?_
        try simp only [Act.put, List.setIfInBounds_toArray, List.set_cons_zero, List.set_cons_succ]
        refine wpAnyH_take (i := 28) (oi := ⟨_, _, _, _, _, _⟩) (v := .slice A k c) rfl (by kernel_rfl) (by kernel_rfl) (by kernel_rfl) (fun _ _ _ h => h) (Or.inl ⟨by rfl, fun w hSw => by have h1 := hSw.2.1; have h2 := hSw.2.2; clear hSw; go_simp⟩) (hSN _ (by repeat (first | with_reducible exact New.refl _ | with_reducible assumption | with_reducible refine New.dr ?_ | with_reducible refine New.al ?_ _) : New w6 _)) ?_
        try simp only [Act.put, List.setIfInBounds_toArray, List.set_cons_zero, List.set_cons_succ]
        refine wpAnyH_take (i := 29) (oi := ⟨_, _, _, _, _, _⟩) (v := .int .i64 k) rfl (by kernel_rfl) (by kernel_rfl) (by kernel_rfl) (fun _ _ _ h => h) (Or.inl ⟨by rfl, fun w hSw => by have h1 := hSw.2.1; have h2 := hSw.2.2; clear hSw; go_simp⟩) (hSN _ (by repeat (first | with_reducible exact New.refl _ | with_reducible assumption | with_reducible refine New.dr ?_ | with_reducible refine New.al ?_ _) : New w6 _)) ?_
        try simp only [Act.put, List.setIfInBounds_toArray, List.set_cons_zero, List.set_cons_succ]
        refine wpAnyH_ready (rs := [26]) (by kernel_rfl) (by simp) (AllH.cons (i := 26) (o := ⟨_, _, _, _, _, _⟩) rfl (fun K hK => ?_) AllH.nil)
        go_simp
        refine (HLE.out _ (by repeat (first | with_reducible exact New.refl _ | with_reducible assumption | with_reducible refine New.dr ?_ | with_reducible refine New.al ?_ _) : New w6 _)).mono ?_
        rintro e w9 ⟨rfl, rfl⟩
        try go_simp
        try simp only [Act.put, List.setIfInBounds_toArray, List.set_cons_zero, List.set_cons_succ]
        refine hK.out _ _ (hSN _ (by repeat (first | with_reducible exact New.refl _ | with_reducible assumption | with_reducible refine New.dr ?_ | with_reducible refine New.al ?_ _) : New w6 _)) ?_
        refine wpAnyH_take (i := 30) (oi := ⟨_, _, _, _, _, _⟩) (v := .bool true) rfl (by kernel_rfl) (by kernel_rfl) (by kernel_rfl) (fun _ _ _ h => h) (Or.inl ⟨by rfl, fun w hSw => by have h1 := hSw.2.1; have h2 := hSw.2.2; clear hSw; go_simp⟩) (hSN _ (by repeat (first | with_reducible exact New.refl _ | with_reducible assumption | with_reducible refine New.dr ?_ | with_reducible refine New.al ?_ _) : New w6 _)) ?_
        try simp only [Act.put, List.setIfInBounds_toArray, List.set_cons_zero, List.set_cons_succ]
        refine wpAnyH_take (i := 31) (oi := ⟨_, _, _, _, _, _⟩) (v := .bool true) rfl (by kernel_rfl) (by kernel_rfl) (by kernel_rfl) (fun _ _ _ h => h) (Or.inl ⟨by rfl, fun w hSw => by have h1 := hSw.2.1; have h2 := hSw.2.2; clear hSw; go_simp⟩) (hSN _ (by repeat (first | with_reducible exact New.refl _ | with_reducible assumption | with_reducible refine New.dr ?_ | with_reducible refine New.al ?_ _) : New w6 _)) ?_
        try simp only [Act.put, List.setIfInBounds_toArray, List.set_cons_zero, List.set_cons_succ]
        refine wpAnyH_take (i := 32) (oi := ⟨_, _, _, _, _, _⟩) (v := .bool true) rfl (by kernel_rfl) (by kernel_rfl) (by kernel_rfl) (fun _ _ _ h => h) (Or.inl ⟨by rfl, fun w hSw => by have h1 := hSw.2.1; have h2 := hSw.2.2; clear hSw; go_simp⟩) (hSN _ (by repeat (first | with_reducible exact New.refl _ | with_reducible assumption | with_reducible refine New.dr ?_ | with_reducible refine New.al ?_ _) : New w6 _)) ?_
        try simp only [Act.put, List.setIfInBounds_toArray, List.set_cons_zero, List.set_cons_succ]
        refine wpAnyH_take (i := 33) (oi := ⟨_, _, _, _, _, _⟩) (v := .pointer (some ⟨g, 0, none⟩)) rfl (by kernel_rfl) (by kernel_rfl) (by kernel_rfl) (fun _ _ _ h => h) (Or.inl ⟨by rfl, fun w hSw => by have h1 := hSw.2.1; have h2 := hSw.2.2; clear hSw; go_simp⟩) (hSN _ (by repeat (first | with_reducible exact New.refl _ | with_reducible assumption | with_reducible refine New.dr ?_ | with_reducible refine New.al ?_ _) : New w6 _)) ?_
        try simp only [Act.put, List.setIfInBounds_toArray, List.set_cons_zero, List.set_cons_succ]
        refine wpAnyH_take (i := 34) (oi := ⟨_, _, _, _, _, _⟩) (v := .int .u64 a) rfl (by kernel_rfl) (by kernel_rfl) (by kernel_rfl) (fun _ _ _ h => h) (Or.inl ⟨by rfl, fun w hSw => by have h1 := hSw.2.1; have h2 := hSw.2.2; clear hSw; go_simp⟩) (hSN _ (by repeat (first | with_reducible exact New.refl _ | with_reducible assumption | with_reducible refine New.dr ?_ | with_reducible refine New.al ?_ _) : New w6 _)) ?_
        try simp only [Act.put, List.setIfInBounds_toArray, List.set_cons_zero, List.set_cons_succ]
        refine wpAnyH_take (i := 36) (oi := ⟨_, _, _, _, _, _⟩) (v := .int .i64 sn) rfl (by kernel_rfl) (by kernel_rfl) (by kernel_rfl) (fun _ _ _ h => h) (Or.inl ⟨by rfl, fun w hSw => by have h1 := hSw.2.1; have h2 := hSw.2.2; clear hSw; go_simp⟩) (hSN _ (by repeat (first | with_reducible exact New.refl _ | with_reducible assumption | with_reducible refine New.dr ?_ | with_reducible refine New.al ?_ _) : New w6 _)) ?_
        try simp only [Act.put, List.setIfInBounds_toArray, List.set_cons_zero, List.set_cons_succ]
        refine wpAnyH_ready (rs := [35]) (by kernel_rfl) (by simp) (AllH.cons (i := 35) (o := ⟨_, _, _, _, _, _⟩) rfl (fun K hK => ?_) AllH.nil)
        go_simp
        refine (HSE.out _ (by repeat (first | with_reducible exact New.refl _ | with_reducible assumption | with_reducible refine New.dr ?_ | with_reducible refine New.al ?_ _) : New w6 _)).mono ?_
        rintro e w10 ⟨rfl, hN'⟩
        have hN_w10 : New w6 w10 := New.tr ((by repeat (first | with_reducible exact New.refl _ | with_reducible assumption | with_reducible refine New.dr ?_ | with_reducible refine New.al ?_ _) : New w6 _)) hN'
        clear hN'
        try go_simp
        try simp only [Act.put, List.setIfInBounds_toArray, List.set_cons_zero, List.set_cons_succ]
        refine hK.out _ _ (hSN _ (by repeat (first | with_reducible exact New.refl _ | with_reducible assumption | with_reducible refine New.dr ?_ | with_reducible refine New.al ?_ _) : New w6 _)) ?_
        refine wpAnyH_take (i := 37) (oi := ⟨_, _, _, _, _, _⟩) (v := .bool true) rfl (by kernel_rfl) (by kernel_rfl) (by kernel_rfl) (fun _ _ _ h => h) (Or.inl ⟨by rfl, fun w hSw => by have h1 := hSw.2.1; have h2 := hSw.2.2; clear hSw; go_simp⟩) (hSN _ (by repeat (first | with_reducible exact New.refl _ | with_reducible assumption | with_reducible refine New.dr ?_ | with_reducible refine New.al ?_ _) : New w6 _)) ?_
        try simp only [Act.put, List.setIfInBounds_toArray, List.set_cons_zero, List.set_cons_succ]
        refine wpAnyH_take (i := 38) (oi := ⟨_, _, _, _, _, _⟩) (v := .bool true) rfl (by kernel_rfl) (by kernel_rfl) (by kernel_rfl) (fun _ _ _ h => h) (Or.inl ⟨by rfl, fun w hSw => by have h1 := hSw.2.1; have h2 := hSw.2.2; clear hSw; go_simp⟩) (hSN _ (by repeat (first | with_reducible exact New.refl _ | with_reducible assumption | with_reducible refine New.dr ?_ | with_reducible refine New.al ?_ _) : New w6 _)) ?_
        try simp only [Act.put, List.setIfInBounds_toArray, List.set_cons_zero, List.set_cons_succ]
        refine wpAnyH_ready (rs := [39]) (by kernel_rfl) (by simp) (AllH.cons (i := 39) (o := ⟨_, _, _, _, _, _⟩) rfl (fun K hK => ?_) AllH.nil)
        go_simp
        try simp only [Act.put, List.setIfInBounds_toArray, List.set_cons_zero, List.set_cons_succ]
        refine hK.out _ _ (hSN _ (by repeat (first | with_reducible exact New.refl _ | with_reducible assumption | with_reducible refine New.dr ?_ | with_reducible refine New.al ?_ _) : New w6 _)) ?_
        refine wpAnyH_done (by kernel_rfl) ?_ _
        try go_wp2_with fail
        go_ret
        exact ⟨rfl, HNw6.out.tr (by repeat (first | with_reducible exact New.refl _ | with_reducible assumption | with_reducible refine New.dr ?_ | with_reducible refine New.al ?_ _) : New w6 _)⟩
      · have HQ := Lib.hid (placeI_some hp)
        obtain ⟨hi, -⟩ := place_lt hp
        have hs0 : sn = L[i].s := by rw [hsn]; simp [sentOf, hp, hi]
        have hin : i < k := by have := HL.out; omega
        obtain ⟨gp, op, hlp, rfl, -, -, -, -, -, -, c4⟩ := rd_elem (New.rd HNw.out HR.out) hin
        rw [← hs0] at c4
        have hi0 : (0 : Int) ≤ (i : Int) := by omega
        have hi1 : (i : Int) < (k : Int) := by omega
        clear hp hsn hs0 hi hlp
        go_wp2_with ((with_reducible refine atOpS ⟨some 33, .load _ _, _, _, _, _⟩ ?_); refine row_load rowT rfl (.tmp 4) rfl rfl HBw.out rfl ?_)
        refine (HPL.out wr HNw.out).mono ?_
        rw [HQ.out]
        rintro e w5 ⟨rfl, hN5⟩
        have HN5 : Hid (New w w5) := Lib.hid (HNw.out.tr hN5)
        have HB5 := Lib.hid (New.blk hN5 HBw.out)
        have x4 : w5.cell? ⟨bx, 4, none⟩ = some (.slice (some ⟨gp, op, none⟩) k c) := HB5.out.cell 4
        have j4 := New.cell_ hN5 c4
        clear hN5 c4
        go_wp2_with fail
        refine (HNX.out w5 HN5.out).mono ?_
        rintro e w6 ⟨he, hN6⟩
        have he' := next_is he HI2.out
        subst he'
        have HNw6 : Hid (New w w6) := Lib.hid (HN5.out.tr hN6)
        have HB6 := Lib.hid (New.blk hN6 HB5.out)
        have HME := Lib.hid (fun w' (hN : New w6 w') => HME0.out w' (HNw6.out.tr hN))
        have HIV := Lib.hid (fun w' (hN : New w6 w') => HIV0.out w' (HNw6.out.tr hN))
        have HLE := Lib.hid (fun w' (hN : New w6 w') => HLE0.out w' (HNw6.out.tr hN))
        have HSE := Lib.hid (fun w' (hN : New w6 w') => HSE1.out w' (HNw6.out.tr hN))
        have hSN : ∀ w', New w6 w' → (fun w' => w'.rangeAt bx 0 [.int .i64 lt, .int .i64 mt, .int .i64 lm, .float .f64 mean2, .slice (some ⟨gp, op, none⟩) k c] ∧ w'.cell? ⟨bx, 3, none⟩ = some (.float .f64 mean2) ∧ w'.cell? ⟨bx, 4, none⟩ = some (.slice (some ⟨gp, op, none⟩) k c)) w' := fun w' hN => ⟨New.range hN HB6.out.range, hN.cell_ (HB6.out.cell 3), hN.cell_ (HB6.out.cell 4)⟩
        clear he hN6
        go_wp2_with fail
        refine wp_region_H (fun w' => w'.rangeAt bx 0 [.int .i64 lt, .int .i64 mt, .int .i64 lm, .float .f64 mean2, .slice (some ⟨gp, op, none⟩) k c] ∧ w'.cell? ⟨bx, 3, none⟩ = some (.float .f64 mean2) ∧ w'.cell? ⟨bx, 4, none⟩ = some (.slice (some ⟨gp, op, none⟩) k c)) (by kernel_rfl) ?_
        refine wpAnyH_take (i := 0) (oi := ⟨_, _, _, _, _, _⟩) (v := .pointer (some ⟨g, 0, none⟩)) rfl (by kernel_rfl) (by kernel_rfl) (by kernel_rfl) (fun _ _ _ h => h) (Or.inl ⟨by rfl, fun w hSw => by have h1 := hSw.2.1; have h2 := hSw.2.2; clear hSw; go_simp⟩) (hSN _ (by repeat (first | with_reducible exact New.refl _ | with_reducible assumption | with_reducible refine New.dr ?_ | with_reducible refine New.al ?_ _) : New w6 _)) ?_
        try simp only [Act.put, List.setIfInBounds_toArray, List.set_cons_zero, List.set_cons_succ]
        refine wpAnyH_take (i := 3) (oi := ⟨_, _, _, _, _, _⟩) (v := .pointer (some ⟨bx, 3, none⟩)) rfl (by kernel_rfl) (by kernel_rfl) (by kernel_rfl) (fun _ _ _ h => h) (Or.inl ⟨by rfl, fun w hSw => by have h1 := hSw.2.1; have h2 := hSw.2.2; clear hSw; go_simp⟩) (hSN _ (by repeat (first | with_reducible exact New.refl _ | with_reducible assumption | with_reducible refine New.dr ?_ | with_reducible refine New.al ?_ _) : New w6 _)) ?_
        try simp only [Act.put, List.setIfInBounds_toArray, List.set_cons_zero, List.set_cons_succ]
        refine wpAnyH_take (i := 4) (oi := ⟨_, _, _, _, _, _⟩) (v := .float .f64 mean2) rfl (by kernel_rfl) (by kernel_rfl) (by kernel_rfl) (fun _ _ _ h => h) (Or.inl ⟨by rfl, fun w hSw => by have h1 := hSw.2.1; have h2 := hSw.2.2; clear hSw; go_simp⟩) (hSN _ (by repeat (first | with_reducible exact New.refl _ | with_reducible assumption | with_reducible refine New.dr ?_ | with_reducible refine New.al ?_ _) : New w6 _)) ?_
        try simp only [Act.put, List.setIfInBounds_toArray, List.set_cons_zero, List.set_cons_succ]
        refine wpAnyH_ready (rs := [1]) (by kernel_rfl) (by simp) (AllH.cons (i := 1) (o := ⟨_, _, _, _, _, _⟩) rfl (fun K hK => ?_) AllH.nil)
        go_simp
        refine (HME.out _ (by repeat (first | with_reducible exact New.refl _ | with_reducible assumption | with_reducible refine New.dr ?_ | with_reducible refine New.al ?_ _) : New w6 _)).mono ?_
        rintro e w7 ⟨rfl, rfl⟩
        try go_simp
        try simp only [Act.put, List.setIfInBounds_toArray, List.set_cons_zero, List.set_cons_succ]
        refine hK.out _ _ (hSN _ (by repeat (first | with_reducible exact New.refl _ | with_reducible assumption | with_reducible refine New.dr ?_ | with_reducible refine New.al ?_ _) : New w6 _)) ?_
        refine wpAnyH_ready (rs := [2]) (by kernel_rfl) (by simp) (AllH.cons (i := 2) (o := ⟨_, _, _, _, _, _⟩) rfl (fun K hK => ?_) AllH.nil)
        go_simp
        refine (HB1.out _).mono ?_
        rintro e w7 ⟨rfl, rfl⟩
        try go_simp
        try simp only [Act.put, List.setIfInBounds_toArray, List.set_cons_zero, List.set_cons_succ]
        refine hK.out _ _ (hSN _ (by repeat (first | with_reducible exact New.refl _ | with_reducible assumption | with_reducible refine New.dr ?_ | with_reducible refine New.al ?_ _) : New w6 _)) ?_
        refine wpAnyH_ready (rs := [5]) (by kernel_rfl) (by simp) (AllH.cons (i := 5) (o := ⟨_, _, _, _, _, _⟩) rfl (fun K hK => ?_) AllH.nil)
        go_simp
        refine (HB2.out _).mono ?_
        rintro e w7 ⟨rfl, rfl⟩
        try go_simp
        try simp only [Act.put, List.setIfInBounds_toArray, List.set_cons_zero, List.set_cons_succ]
        refine hK.out _ _ (hSN _ (by repeat (first | with_reducible exact New.refl _ | with_reducible assumption | with_reducible refine New.dr ?_ | with_reducible refine New.al ?_ _) : New w6 _)) ?_
        refine wpAnyH_take (i := 6) (oi := ⟨_, _, _, _, _, _⟩) (v := .bool true) rfl (by kernel_rfl) (by kernel_rfl) (by kernel_rfl) (fun _ _ _ h => h) (Or.inl ⟨by rfl, fun w hSw => by have h1 := hSw.2.1; have h2 := hSw.2.2; clear hSw; go_simp⟩) (hSN _ (by repeat (first | with_reducible exact New.refl _ | with_reducible assumption | with_reducible refine New.dr ?_ | with_reducible refine New.al ?_ _) : New w6 _)) ?_
        try simp only [Act.put, List.setIfInBounds_toArray, List.set_cons_zero, List.set_cons_succ]
        refine wpAnyH_take (i := 7) (oi := ⟨_, _, _, _, _, _⟩) (v := .bool true) rfl (by kernel_rfl) (by kernel_rfl) (by kernel_rfl) (fun _ _ _ h => h) (Or.inl ⟨by rfl, fun w hSw => by have h1 := hSw.2.1; have h2 := hSw.2.2; clear hSw; go_simp⟩) (hSN _ (by repeat (first | with_reducible exact New.refl _ | with_reducible assumption | with_reducible refine New.dr ?_ | with_reducible refine New.al ?_ _) : New w6 _)) ?_
        try simp only [Act.put, List.setIfInBounds_toArray, List.set_cons_zero, List.set_cons_succ]
        refine wpAnyH_take (i := 8) (oi := ⟨_, _, _, _, _, _⟩) (v := .pointer (some ⟨g, 0, none⟩)) rfl (by kernel_rfl) (by kernel_rfl) (by kernel_rfl) (fun _ _ _ h => h) (Or.inl ⟨by rfl, fun w hSw => by have h1 := hSw.2.1; have h2 := hSw.2.2; clear hSw; go_simp⟩) (hSN _ (by repeat (first | with_reducible exact New.refl _ | with_reducible assumption | with_reducible refine New.dr ?_ | with_reducible refine New.al ?_ _) : New w6 _)) ?_
        try simp only [Act.put, List.setIfInBounds_toArray, List.set_cons_zero, List.set_cons_succ]
        refine wpAnyH_take (i := 10) (oi := ⟨_, _, _, _, _, _⟩) (v := .agg #[.int .i64 lt, .int .i64 mt, .int .i64 lm, .float .f64 mean2, .slice (some ⟨gp, op, none⟩) k c]) rfl (by kernel_rfl) (by kernel_rfl) (by kernel_rfl) (fun _ _ _ h => h) (yields_row rowT (by rfl) (.tmp 4) (by rfl) (b := bx) (off := 0) (cs := [.int .i64 lt, .int .i64 mt, .int .i64 lm, .float .f64 mean2, .slice (some ⟨gp, op, none⟩) k c]) rfl (fun w hSw => hSw.1) rfl) (hSN _ (by repeat (first | with_reducible exact New.refl _ | with_reducible assumption | with_reducible refine New.dr ?_ | with_reducible refine New.al ?_ _) : New w6 _)) ?_
        try simp only [Act.put, List.setIfInBounds_toArray, List.set_cons_zero, List.set_cons_succ]
        refine wpAnyH_ready (rs := [9]) (by kernel_rfl) (by simp) (AllH.cons (i := 9) (o := ⟨_, _, _, _, _, _⟩) rfl (fun K hK => ?_) AllH.nil)
        go_simp
        refine (HIV.out _ (by repeat (first | with_reducible exact New.refl _ | with_reducible assumption | with_reducible refine New.dr ?_ | with_reducible refine New.al ?_ _) : New w6 _)).mono ?_
        rintro e w7 ⟨rfl, hN'⟩
        have hN_w7 : New w6 w7 := New.tr ((by repeat (first | with_reducible exact New.refl _ | with_reducible assumption | with_reducible refine New.dr ?_ | with_reducible refine New.al ?_ _) : New w6 _)) hN'
        clear hN'
        try go_simp
        try simp only [Act.put, List.setIfInBounds_toArray, List.set_cons_zero, List.set_cons_succ]
        refine hK.out _ _ (hSN _ (by repeat (first | with_reducible exact New.refl _ | with_reducible assumption | with_reducible refine New.dr ?_ | with_reducible refine New.al ?_ _) : New w6 _)) ?_
        refine wpAnyH_ready (rs := [11]) (by kernel_rfl) (by simp) (AllH.cons (i := 11) (o := ⟨_, _, _, _, _, _⟩) rfl (fun K hK => ?_) AllH.nil)
        go_simp
        refine (HRV.out _).mono ?_
        rintro e w8 ⟨rfl, hN'⟩
        have hN_w8 : New w6 w8 := New.tr ((by repeat (first | with_reducible exact New.refl _ | with_reducible assumption | with_reducible refine New.dr ?_ | with_reducible refine New.al ?_ _) : New w6 _)) hN'
        clear hN'
        try go_simp
        try simp only [Act.put, List.setIfInBounds_toArray, List.set_cons_zero, List.set_cons_succ]
        refine hK.out _ _ (hSN _ (by repeat (first | with_reducible exact New.refl _ | with_reducible assumption | with_reducible refine New.dr ?_ | with_reducible refine New.al ?_ _) : New w6 _)) ?_
        refine wpAnyH_take (i := 12) (oi := ⟨_, _, _, _, _, _⟩) (v := .bool true) rfl (by kernel_rfl) (by kernel_rfl) (by kernel_rfl) (fun _ _ _ h => h) (Or.inl ⟨by rfl, fun w hSw => by have h1 := hSw.2.1; have h2 := hSw.2.2; clear hSw; go_simp⟩) (hSN _ (by repeat (first | with_reducible exact New.refl _ | with_reducible assumption | with_reducible refine New.dr ?_ | with_reducible refine New.al ?_ _) : New w6 _)) ?_
        try simp only [Act.put, List.setIfInBounds_toArray, List.set_cons_zero, List.set_cons_succ]
        refine wpAnyH_take (i := 13) (oi := ⟨_, _, _, _, _, _⟩) (v := .bool true) rfl (by kernel_rfl) (by kernel_rfl) (by kernel_rfl) (fun _ _ _ h => h) (Or.inl ⟨by rfl, fun w hSw => by have h1 := hSw.2.1; have h2 := hSw.2.2; clear hSw; go_simp⟩) (hSN _ (by repeat (first | with_reducible exact New.refl _ | with_reducible assumption | with_reducible refine New.dr ?_ | with_reducible refine New.al ?_ _) : New w6 _)) ?_
        try simp only [Act.put, List.setIfInBounds_toArray, List.set_cons_zero, List.set_cons_succ]
        refine wpAnyH_take (i := 14) (oi := ⟨_, _, _, _, _, _⟩) (v := .bool true) rfl (by kernel_rfl) (by kernel_rfl) (by kernel_rfl) (fun _ _ _ h => h) (Or.inl ⟨by rfl, fun w hSw => by have h1 := hSw.2.1; have h2 := hSw.2.2; clear hSw; go_simp⟩) (hSN _ (by repeat (first | with_reducible exact New.refl _ | with_reducible assumption | with_reducible refine New.dr ?_ | with_reducible refine New.al ?_ _) : New w6 _)) ?_
        try simp only [Act.put, List.setIfInBounds_toArray, List.set_cons_zero, List.set_cons_succ]
        refine wpAnyH_take (i := 15) (oi := ⟨_, _, _, _, _, _⟩) (v := .int .i64 dv) rfl (by kernel_rfl) (by kernel_rfl) (by kernel_rfl) (fun _ _ _ h => h) (Or.inl ⟨by rfl, fun w hSw => by have h1 := hSw.2.1; have h2 := hSw.2.2; clear hSw; go_simp⟩) (hSN _ (by repeat (first | with_reducible exact New.refl _ | with_reducible assumption | with_reducible refine New.dr ?_ | with_reducible refine New.al ?_ _) : New w6 _)) ?_
        try simp only [Act.put, List.setIfInBounds_toArray, List.set_cons_zero, List.set_cons_succ]
        refine wpAnyH_take (i := 16) (oi := ⟨_, _, _, _, _, _⟩) (v := .int .i64 dv) rfl (by kernel_rfl) (by kernel_rfl) (by kernel_rfl) (fun _ _ _ h => h) (Or.inl ⟨by rfl, fun w hSw => by have h1 := hSw.2.1; have h2 := hSw.2.2; clear hSw; go_simp⟩) (hSN _ (by repeat (first | with_reducible exact New.refl _ | with_reducible assumption | with_reducible refine New.dr ?_ | with_reducible refine New.al ?_ _) : New w6 _)) ?_
        try simp only [Act.put, List.setIfInBounds_toArray, List.set_cons_zero, List.set_cons_succ]
        refine wpAnyH_take (i := 17) (oi := ⟨_, _, _, _, _, _⟩) (v := .bool true) rfl (by kernel_rfl) (by kernel_rfl) (by kernel_rfl) (fun _ _ _ h => h) (Or.inl ⟨by rfl, fun w hSw => by have h1 := hSw.2.1; have h2 := hSw.2.2; clear hSw; go_simp⟩) (hSN _ (by repeat (first | with_reducible exact New.refl _ | with_reducible assumption | with_reducible refine New.dr ?_ | with_reducible refine New.al ?_ _) : New w6 _)) ?_
        try simp only [Act.put, List.setIfInBounds_toArray, List.set_cons_zero, List.set_cons_succ]
        refine wpAnyH_take (i := 18) (oi := ⟨_, _, _, _, _, _⟩) (v := .bool true) rfl (by kernel_rfl) (by kernel_rfl) (by kernel_rfl) (fun _ _ _ h => h) (Or.inl ⟨by rfl, fun w hSw => by have h1 := hSw.2.1; have h2 := hSw.2.2; clear hSw; go_simp⟩) (hSN _ (by repeat (first | with_reducible exact New.refl _ | with_reducible assumption | with_reducible refine New.dr ?_ | with_reducible refine New.al ?_ _) : New w6 _)) ?_
        try simp only [Act.put, List.setIfInBounds_toArray, List.set_cons_zero, List.set_cons_succ]
        refine wpAnyH_take (i := 19) (oi := ⟨_, _, _, _, _, _⟩) (v := .bool true) rfl (by kernel_rfl) (by kernel_rfl) (by kernel_rfl) (fun _ _ _ h => h) (Or.inl ⟨by rfl, fun w hSw => by have h1 := hSw.2.1; have h2 := hSw.2.2; clear hSw; go_simp⟩) (hSN _ (by repeat (first | with_reducible exact New.refl _ | with_reducible assumption | with_reducible refine New.dr ?_ | with_reducible refine New.al ?_ _) : New w6 _)) ?_
        try simp only [Act.put, List.setIfInBounds_toArray, List.set_cons_zero, List.set_cons_succ]
        refine wpAnyH_take (i := 20) (oi := ⟨_, _, _, _, _, _⟩) (v := .bool tb) rfl (by kernel_rfl) (by kernel_rfl) (by kernel_rfl) (fun _ _ _ h => h) (Or.inl ⟨by rfl, fun w hSw => by have h1 := hSw.2.1; have h2 := hSw.2.2; clear hSw; go_simp⟩) (hSN _ (by repeat (first | with_reducible exact New.refl _ | with_reducible assumption | with_reducible refine New.dr ?_ | with_reducible refine New.al ?_ _) : New w6 _)) ?_
        try simp only [Act.put, List.setIfInBounds_toArray, List.set_cons_zero, List.set_cons_succ]
        refine wpAnyH_take (i := 21) (oi := ⟨_, _, _, _, _, _⟩) (v := .bool tb) rfl (by kernel_rfl) (by kernel_rfl) (by kernel_rfl) (fun _ _ _ h => h) (Or.inl ⟨by rfl, fun w hSw => by have h1 := hSw.2.1; have h2 := hSw.2.2; clear hSw; go_simp⟩) (hSN _ (by repeat (first | with_reducible exact New.refl _ | with_reducible assumption | with_reducible refine New.dr ?_ | with_reducible refine New.al ?_ _) : New w6 _)) ?_
        try simp only [Act.put, List.setIfInBounds_toArray, List.set_cons_zero, List.set_cons_succ]
        refine wpAnyH_take (i := 22) (oi := ⟨_, _, _, _, _, _⟩) (v := .bool true) rfl (by kernel_rfl) (by kernel_rfl) (by kernel_rfl) (fun _ _ _ h => h) (Or.inl ⟨by rfl, fun w hSw => by have h1 := hSw.2.1; have h2 := hSw.2.2; clear hSw; go_simp⟩) (hSN _ (by repeat (first | with_reducible exact New.refl _ | with_reducible assumption | with_reducible refine New.dr ?_ | with_reducible refine New.al ?_ _) : New w6 _)) ?_
        try simp only [Act.put, List.setIfInBounds_toArray, List.set_cons_zero, List.set_cons_succ]
        refine wpAnyH_take (i := 23) (oi := ⟨_, _, _, _, _, _⟩) (v := .bool true) rfl (by kernel_rfl) (by kernel_rfl) (by kernel_rfl) (fun _ _ _ h => h) (Or.inl ⟨by rfl, fun w hSw => by have h1 := hSw.2.1; have h2 := hSw.2.2; clear hSw; go_simp⟩) (hSN _ (by repeat (first | with_reducible exact New.refl _ | with_reducible assumption | with_reducible refine New.dr ?_ | with_reducible refine New.al ?_ _) : New w6 _)) ?_
        try simp only [Act.put, List.setIfInBounds_toArray, List.set_cons_zero, List.set_cons_succ]
        refine wpAnyH_take (i := 24) (oi := ⟨_, _, _, _, _, _⟩) (v := .bool true) rfl (by kernel_rfl) (by kernel_rfl) (by kernel_rfl) (fun _ _ _ h => h) (Or.inl ⟨by rfl, fun w hSw => by have h1 := hSw.2.1; have h2 := hSw.2.2; clear hSw; go_simp⟩) (hSN _ (by repeat (first | with_reducible exact New.refl _ | with_reducible assumption | with_reducible refine New.dr ?_ | with_reducible refine New.al ?_ _) : New w6 _)) ?_
        try simp only [Act.put, List.setIfInBounds_toArray, List.set_cons_zero, List.set_cons_succ]
        refine wpAnyH_take (i := 25) (oi := ⟨_, _, _, _, _, _⟩) (v := .pointer (some ⟨g, 0, none⟩)) rfl (by kernel_rfl) (by kernel_rfl) (by kernel_rfl) (fun _ _ _ h => h) (Or.inl ⟨by rfl, fun w hSw => by have h1 := hSw.2.1; have h2 := hSw.2.2; clear hSw; go_simp⟩) (hSN _ (by repeat (first | with_reducible exact New.refl _ | with_reducible assumption | with_reducible refine New.dr ?_ | with_reducible refine New.al ?_ _) : New w6 _)) ?_
        try simp only [Act.put, List.setIfInBounds_toArray, List.set_cons_zero, List.set_cons_succ]
        refine wpAnyH_take (i := 27) (oi := ⟨_, _, _, _, _, _⟩) (v := .pointer (some ⟨bx, 4, none⟩)) rfl (by kernel_rfl) (by kernel_rfl) (by kernel_rfl) (fun _ _ _ h => h) (Or.inl ⟨by rfl, fun w hSw => by have h1 := hSw.2.1; have h2 := hSw.2.2; clear hSw; go_simp⟩) (hSN _ (by repeat (first | with_reducible exact New.refl _ | with_reducible assumption | with_reducible refine New.dr ?_ | with_reducible refine New.al ?_ _) : New w6 _)) ?_
        try simp only [Act.put, List.setIfInBounds_toArray, List.set_cons_zero, List.set_cons_succ]
        refine wpAnyH_take (i := 28) (oi := ⟨_, _, _, _, _, _⟩) (v := .slice (some ⟨gp, op, none⟩) k c) rfl (by kernel_rfl) (by kernel_rfl) (by kernel_rfl) (fun _ _ _ h => h) (Or.inl ⟨by rfl, fun w hSw => by have h1 := hSw.2.1; have h2 := hSw.2.2; clear hSw; go_simp⟩) (hSN _ (by repeat (first | with_reducible exact New.refl _ | with_reducible assumption | with_reducible refine New.dr ?_ | with_reducible refine New.al ?_ _) : New w6 _)) ?_
        try simp only [Act.put, List.setIfInBounds_toArray, List.set_cons_zero, List.set_cons_succ]
        refine wpAnyH_take (i := 29) (oi := ⟨_, _, _, _, _, _⟩) (v := .int .i64 k) rfl (by kernel_rfl) (by kernel_rfl) (by kernel_rfl) (fun _ _ _ h => h) (Or.inl ⟨by rfl, fun w hSw => by have h1 := hSw.2.1; have h2 := hSw.2.2; clear hSw; go_simp⟩) (hSN _ (by repeat (first | with_reducible exact New.refl _ | with_reducible assumption | with_reducible refine New.dr ?_ | with_reducible refine New.al ?_ _) : New w6 _)) ?_
        try simp only [Act.put, List.setIfInBounds_toArray, List.set_cons_zero, List.set_cons_succ]
        refine wpAnyH_ready (rs := [26]) (by kernel_rfl) (by simp) (AllH.cons (i := 26) (o := ⟨_, _, _, _, _, _⟩) rfl (fun K hK => ?_) AllH.nil)
        go_simp
        refine (HLE.out _ (by repeat (first | with_reducible exact New.refl _ | with_reducible assumption | with_reducible refine New.dr ?_ | with_reducible refine New.al ?_ _) : New w6 _)).mono ?_
        rintro e w9 ⟨rfl, rfl⟩
        try go_simp
        try simp only [Act.put, List.setIfInBounds_toArray, List.set_cons_zero, List.set_cons_succ]
        refine hK.out _ _ (hSN _ (by repeat (first | with_reducible exact New.refl _ | with_reducible assumption | with_reducible refine New.dr ?_ | with_reducible refine New.al ?_ _) : New w6 _)) ?_
        refine wpAnyH_take (i := 30) (oi := ⟨_, _, _, _, _, _⟩) (v := .bool true) rfl (by kernel_rfl) (by kernel_rfl) (by kernel_rfl) (fun _ _ _ h => h) (Or.inl ⟨by rfl, fun w hSw => by have h1 := hSw.2.1; have h2 := hSw.2.2; clear hSw; go_simp⟩) (hSN _ (by repeat (first | with_reducible exact New.refl _ | with_reducible assumption | with_reducible refine New.dr ?_ | with_reducible refine New.al ?_ _) : New w6 _)) ?_
        try simp only [Act.put, List.setIfInBounds_toArray, List.set_cons_zero, List.set_cons_succ]
        refine wpAnyH_take (i := 31) (oi := ⟨_, _, _, _, _, _⟩) (v := .bool true) rfl (by kernel_rfl) (by kernel_rfl) (by kernel_rfl) (fun _ _ _ h => h) (Or.inl ⟨by rfl, fun w hSw => by have h1 := hSw.2.1; have h2 := hSw.2.2; clear hSw; go_simp⟩) (hSN _ (by repeat (first | with_reducible exact New.refl _ | with_reducible assumption | with_reducible refine New.dr ?_ | with_reducible refine New.al ?_ _) : New w6 _)) ?_
        try simp only [Act.put, List.setIfInBounds_toArray, List.set_cons_zero, List.set_cons_succ]
        refine wpAnyH_take (i := 32) (oi := ⟨_, _, _, _, _, _⟩) (v := .bool true) rfl (by kernel_rfl) (by kernel_rfl) (by kernel_rfl) (fun _ _ _ h => h) (Or.inl ⟨by rfl, fun w hSw => by have h1 := hSw.2.1; have h2 := hSw.2.2; clear hSw; go_simp⟩) (hSN _ (by repeat (first | with_reducible exact New.refl _ | with_reducible assumption | with_reducible refine New.dr ?_ | with_reducible refine New.al ?_ _) : New w6 _)) ?_
        try simp only [Act.put, List.setIfInBounds_toArray, List.set_cons_zero, List.set_cons_succ]
        refine wpAnyH_take (i := 33) (oi := ⟨_, _, _, _, _, _⟩) (v := .pointer (some ⟨g, 0, none⟩)) rfl (by kernel_rfl) (by kernel_rfl) (by kernel_rfl) (fun _ _ _ h => h) (Or.inl ⟨by rfl, fun w hSw => by have h1 := hSw.2.1; have h2 := hSw.2.2; clear hSw; go_simp⟩) (hSN _ (by repeat (first | with_reducible exact New.refl _ | with_reducible assumption | with_reducible refine New.dr ?_ | with_reducible refine New.al ?_ _) : New w6 _)) ?_
        try simp only [Act.put, List.setIfInBounds_toArray, List.set_cons_zero, List.set_cons_succ]
        refine wpAnyH_take (i := 34) (oi := ⟨_, _, _, _, _, _⟩) (v := .int .u64 a) rfl (by kernel_rfl) (by kernel_rfl) (by kernel_rfl) (fun _ _ _ h => h) (Or.inl ⟨by rfl, fun w hSw => by have h1 := hSw.2.1; have h2 := hSw.2.2; clear hSw; go_simp⟩) (hSN _ (by repeat (first | with_reducible exact New.refl _ | with_reducible assumption | with_reducible refine New.dr ?_ | with_reducible refine New.al ?_ _) : New w6 _)) ?_
        try simp only [Act.put, List.setIfInBounds_toArray, List.set_cons_zero, List.set_cons_succ]
        refine wpAnyH_take (i := 36) (oi := ⟨_, _, _, _, _, _⟩) (v := .int .i64 sn) rfl (by kernel_rfl) (by kernel_rfl) (by kernel_rfl) (fun _ _ _ h => h) (Or.inl ⟨by rfl, fun w hSw => by have h1 := hSw.2.1; have h2 := hSw.2.2; clear hSw; go_simp⟩) (hSN _ (by repeat (first | with_reducible exact New.refl _ | with_reducible assumption | with_reducible refine New.dr ?_ | with_reducible refine New.al ?_ _) : New w6 _)) ?_
        try simp only [Act.put, List.setIfInBounds_toArray, List.set_cons_zero, List.set_cons_succ]
        refine wpAnyH_ready (rs := [35]) (by kernel_rfl) (by simp) (AllH.cons (i := 35) (o := ⟨_, _, _, _, _, _⟩) rfl (fun K hK => ?_) AllH.nil)
        go_simp
        refine (HSE.out _ (by repeat (first | with_reducible exact New.refl _ | with_reducible assumption | with_reducible refine New.dr ?_ | with_reducible refine New.al ?_ _) : New w6 _)).mono ?_
        rintro e w10 ⟨rfl, hN'⟩
        have hN_w10 : New w6 w10 := New.tr ((by repeat (first | with_reducible exact New.refl _ | with_reducible assumption | with_reducible refine New.dr ?_ | with_reducible refine New.al ?_ _) : New w6 _)) hN'
        clear hN'
        try go_simp
        try simp only [Act.put, List.setIfInBounds_toArray, List.set_cons_zero, List.set_cons_succ]
        refine hK.out _ _ (hSN _ (by repeat (first | with_reducible exact New.refl _ | with_reducible assumption | with_reducible refine New.dr ?_ | with_reducible refine New.al ?_ _) : New w6 _)) ?_
        refine wpAnyH_take (i := 37) (oi := ⟨_, _, _, _, _, _⟩) (v := .bool true) rfl (by kernel_rfl) (by kernel_rfl) (by kernel_rfl) (fun _ _ _ h => h) (Or.inl ⟨by rfl, fun w hSw => by have h1 := hSw.2.1; have h2 := hSw.2.2; clear hSw; go_simp⟩) (hSN _ (by repeat (first | with_reducible exact New.refl _ | with_reducible assumption | with_reducible refine New.dr ?_ | with_reducible refine New.al ?_ _) : New w6 _)) ?_
        try simp only [Act.put, List.setIfInBounds_toArray, List.set_cons_zero, List.set_cons_succ]
        refine wpAnyH_take (i := 38) (oi := ⟨_, _, _, _, _, _⟩) (v := .bool true) rfl (by kernel_rfl) (by kernel_rfl) (by kernel_rfl) (fun _ _ _ h => h) (Or.inl ⟨by rfl, fun w hSw => by have h1 := hSw.2.1; have h2 := hSw.2.2; clear hSw; go_simp⟩) (hSN _ (by repeat (first | with_reducible exact New.refl _ | with_reducible assumption | with_reducible refine New.dr ?_ | with_reducible refine New.al ?_ _) : New w6 _)) ?_
        try simp only [Act.put, List.setIfInBounds_toArray, List.set_cons_zero, List.set_cons_succ]
        refine wpAnyH_ready (rs := [39]) (by kernel_rfl) (by simp) (AllH.cons (i := 39) (o := ⟨_, _, _, _, _, _⟩) rfl (fun K hK => ?_) AllH.nil)
        go_simp
        try simp only [Act.put, List.setIfInBounds_toArray, List.set_cons_zero, List.set_cons_succ]
        refine hK.out _ _ (hSN _ (by repeat (first | with_reducible exact New.refl _ | with_reducible assumption | with_reducible refine New.dr ?_ | with_reducible refine New.al ?_ _) : New w6 _)) ?_
        refine wpAnyH_done (by kernel_rfl) ?_ _
        try go_wp2_with fail
        go_ret
        exact ⟨rfl, HNw6.out.tr (by repeat (first | with_reducible exact New.refl _ | with_reducible assumption | with_reducible refine New.dr ?_ | with_reducible refine New.al ?_ _) : New w6 _)⟩
end Go.Proofs.Ytbgjoohnognagaa
