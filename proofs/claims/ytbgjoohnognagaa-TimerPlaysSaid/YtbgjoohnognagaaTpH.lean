/- TimerPlays' walk. -/
import Derived.Test.YtbgjoohnognagaaTpG
import Derived.Test.YtbgjoohnognagaaLast
import Derived.Deep.CutBlock
import Derived.Deep.DeepCutAuto
namespace Go.Proofs.Ytbgjoohnognagaa
open Go.RowKit

theorem rowA : RowOf Try.prog 50 3 := RowOf.mk' Try.underlying50 rfl (by kernel_rfl)
/-- What holds behind a round's switch. -/
def PB (w : World) (base g bt bn ba : Nat) (a b c : Int) (k : Nat) (kd an nw : Int) (wx : World) : Prop :=
  TPS w base g bn a b c (k + 1) wx ∧ (∃ t0 : RT, Blk wx bt 48 t0.arr) ∧ Blk wx ba 50 #[.int .i64 kd, .int .u64 an, .int .i64 nw]

set_option maxHeartbeats 32000000 in
set_option maxRecDepth 100000 in
theorem plays_walk (a b c : Int) (A1 : Option Addr) (n1 c1 : Nat) (M : List A3) (w : World) (hn : n1 ≤ maxLen) (hM : M.length = n1) (hR : Rd (fun k => k < w.heap.size) w 3 A1 n1 (M.flatMap A3.cells)) :
    Calls Try.prog 5 #[.agg #[.int .i64 a, .int .i64 b, .int .i64 c], .slice A1 n1 c1] w fun e w' => e = .returned (.bool true) ∧ New w w' := by
  have HRM := Lib.hid hR
  have HM := Lib.hid hM
  unfold maxLen at hn
  clear hR hM
  go_enter Try.func5, Try.ntmps5
  go_wp2_with fail
  obtain ⟨w0, b3, hw0, hb3e, hB0, hN0, hx1, hx2⟩ := box_blk w 22 #[.int .i64 a, .int .i64 b, .int .i64 c]
  rw [← hw0, ← hb3e]
  clear hw0 hb3e
  refine (alive_any w0).mono ?_
  rintro e w1 ⟨rfl, hN1⟩
  have hb1 := New.blk hN1 hB0
  have i0 : w1.cell? ⟨b3, 0, none⟩ = some (.int .i64 a) := hb1.cell 0
  have i1 : w1.cell? ⟨b3, 1, none⟩ = some (.int .i64 b) := hb1.cell 1
  have i2 : w1.cell? ⟨b3, 2, none⟩ = some (.int .i64 c) := hb1.cell 2
  have HN1 : Hid (New w w1) := Lib.hid (New.tr hN0 hN1)
  clear hN1 hb1 hB0 hN0
  by_cases hbig : 100 < n1
  · as_aux_lemma =>
    go_wp2_with fail
    go_ret
    exact ⟨rfl, HN1.out⟩
  have hn1 : n1 ≤ 100 := by omega
  clear hn hbig
  by_cases hbad : a < 1 ∨ b < a ∨ 65536 < b ∨ c < 1 ∨ 1000 < c
  · have HBAD := Lib.hid hbad
    by_cases h0 : a < 1
    · as_aux_lemma =>
        have d0 : decide (a < 1) = true := decide_eq_true h0
        clear h0
        go_wp2_with fail
        refine (new_bad a b c w1 HBAD.out).mono ?_
        rintro e w2 ⟨rfl, rfl⟩
        go_wp2_with fail
        refine (is_some 1 1 _ (by omega)).mono ?_
        rintro e w2 ⟨rfl, rfl⟩
        go_wp2_with fail
        go_ret
        exact ⟨rfl, HN1.out⟩
    by_cases h1 : b < a
    · as_aux_lemma =>
        have d0 : decide (a < 1) = false := decide_eq_false h0
        have d1 : decide (b < a) = true := decide_eq_true h1
        clear h0 h1
        go_wp2_with fail
        refine (new_bad a b c w1 HBAD.out).mono ?_
        rintro e w2 ⟨rfl, rfl⟩
        go_wp2_with fail
        refine (is_some 1 1 _ (by omega)).mono ?_
        rintro e w2 ⟨rfl, rfl⟩
        go_wp2_with fail
        go_ret
        exact ⟨rfl, HN1.out⟩
    by_cases h2 : 65536 < b
    · as_aux_lemma =>
        have d0 : decide (a < 1) = false := decide_eq_false h0
        have d1 : decide (b < a) = false := decide_eq_false h1
        have d2 : decide (65536 < b) = true := decide_eq_true h2
        clear h0 h1 h2
        go_wp2_with fail
        refine (new_bad a b c w1 HBAD.out).mono ?_
        rintro e w2 ⟨rfl, rfl⟩
        go_wp2_with fail
        refine (is_some 1 1 _ (by omega)).mono ?_
        rintro e w2 ⟨rfl, rfl⟩
        go_wp2_with fail
        go_ret
        exact ⟨rfl, HN1.out⟩
    by_cases h3 : c < 1
    · as_aux_lemma =>
        have d0 : decide (a < 1) = false := decide_eq_false h0
        have d1 : decide (b < a) = false := decide_eq_false h1
        have d2 : decide (65536 < b) = false := decide_eq_false h2
        have d3 : decide (c < 1) = true := decide_eq_true h3
        clear h0 h1 h2 h3
        go_wp2_with fail
        refine (new_bad a b c w1 HBAD.out).mono ?_
        rintro e w2 ⟨rfl, rfl⟩
        go_wp2_with fail
        refine (is_some 1 1 _ (by omega)).mono ?_
        rintro e w2 ⟨rfl, rfl⟩
        go_wp2_with fail
        go_ret
        exact ⟨rfl, HN1.out⟩
    have h4 : 1000 < c := by
      rcases hbad with h | h | h | h | h
      · exact absurd h h0
      · exact absurd h h1
      · exact absurd h h2
      · exact absurd h h3
      · exact h
    clear hbad
    as_aux_lemma =>
      have d0 : decide (a < 1) = false := decide_eq_false h0
      have d1 : decide (b < a) = false := decide_eq_false h1
      have d2 : decide (65536 < b) = false := decide_eq_false h2
      have d3 : decide (c < 1) = false := decide_eq_false h3
      have d4 : decide (1000 < c) = true := decide_eq_true h4
      clear h0 h1 h2 h3 h4
      go_wp2_with fail
      refine (new_bad a b c w1 HBAD.out).mono ?_
      rintro e w2 ⟨rfl, rfl⟩
      go_wp2_with fail
      refine (is_some 1 1 _ (by omega)).mono ?_
      rintro e w2 ⟨rfl, rfl⟩
      go_wp2_with fail
      go_ret
      exact ⟨rfl, HN1.out⟩
  have ha1 : 1 ≤ a := by omega
  have hab' : a ≤ b := by omega
  have hb3 : b ≤ 65536 := by omega
  have hc4 : 1 ≤ c := by omega
  have hc5 : c ≤ 1000 := by omega
  have d0 : decide (a < 1) = false := decide_eq_false (by omega)
  have d1 : decide (b < a) = false := decide_eq_false (by omega)
  have d2 : decide (65536 < b) = false := decide_eq_false (by omega)
  have d3 : decide (c < 1) = false := decide_eq_false (by omega)
  have d4 : decide (1000 < c) = false := decide_eq_false (by omega)
  clear hbad
  go_wp2_with fail
  refine (new_any a b c w1.heap.size w1 ha1 hab' hb3 hc4 hc5 (Nat.le_refl _)).mono ?_
  rintro e w3 ⟨rfl, hT3, hN3⟩
  obtain ⟨g, hg⟩ : ∃ g, g = w1.heap.size := ⟨_, rfl⟩
  obtain ⟨base, hbs⟩ : ∃ base, base = w1.heap.size := ⟨_, rfl⟩
  rw [← hg]
  have HT3 : Hid (Tm w3 base g (.slice none 0 0) [] a b c 9221120237041090561) := Lib.hid (by rw [hg, hbs]; exact hT3)
  have hbase : w.heap.size ≤ base := by have := HN1.out.size; omega
  have HN3 : Hid (New w w3) := Lib.hid (HN1.out.tr hN3)
  have j0 := New.cell_ hN3 i0
  have j1 := New.cell_ hN3 i1
  have j2 := New.cell_ hN3 i2
  clear hT3 hN3 hg hbs i0 i1 i2
  go_upto_region 8 with fail
  go_cut [7] (fun s7 wx => ∃ bt, s7 = .pointer (some ⟨bt, 0, none⟩) ∧ Hid (Blk wx bt 48 #[.int .i64 a, .int .i64 b, .int .i64 c, .float .f64 9221120237041090561, .slice none 0 0] ∧ New w3 wx ∧ w3.heap.size ≤ bt))
  case first =>
    as_aux_lemma =>
      have hSN : ∀ w', New w3 w' → (fun w' => w'.cell? ⟨b3, 0, none⟩ = some (.int .i64 a) ∧ w'.cell? ⟨b3, 1, none⟩ = some (.int .i64 b) ∧ w'.cell? ⟨b3, 2, none⟩ = some (.int .i64 c)) w' := fun w' hN => ⟨hN.cell_ j0, hN.cell_ j1, hN.cell_ j2⟩
      refine wp_region_T (fun w' => w'.cell? ⟨b3, 0, none⟩ = some (.int .i64 a) ∧ w'.cell? ⟨b3, 1, none⟩ = some (.int .i64 b) ∧ w'.cell? ⟨b3, 2, none⟩ = some (.int .i64 c)) 9 (by kernel_rfl) ?_
      refine wpAnyT_take (i := 0) (oi := ⟨_, _, _, _, _, _⟩) (v := .pointer (some ⟨b3, 0, none⟩)) rfl (by kernel_rfl) (by kernel_rfl) (by kernel_rfl) (by kernel_rfl) (fun _ _ _ h => h) (Or.inl ⟨by rfl, fun w hSw => by have h1 := hSw.1; have h2 := hSw.2.1; have h3 := hSw.2.2; clear hSw; go_simp⟩) (hSN _ (by repeat (first | with_reducible exact New.refl _ | with_reducible assumption | with_reducible refine New.dr ?_ | with_reducible refine New.al ?_ _) : New w3 _)) ?_
      try simp only [Act.put, List.setIfInBounds_toArray, List.set_cons_zero, List.set_cons_succ]
      refine wpAnyT_take (i := 1) (oi := ⟨_, _, _, _, _, _⟩) (v := .int .i64 a) rfl (by kernel_rfl) (by kernel_rfl) (by kernel_rfl) (by kernel_rfl) (fun _ _ _ h => h) (Or.inl ⟨by rfl, fun w hSw => by have h1 := hSw.1; have h2 := hSw.2.1; have h3 := hSw.2.2; clear hSw; go_simp⟩) (hSN _ (by repeat (first | with_reducible exact New.refl _ | with_reducible assumption | with_reducible refine New.dr ?_ | with_reducible refine New.al ?_ _) : New w3 _)) ?_
      try simp only [Act.put, List.setIfInBounds_toArray, List.set_cons_zero, List.set_cons_succ]
      refine wpAnyT_take (i := 2) (oi := ⟨_, _, _, _, _, _⟩) (v := .pointer (some ⟨b3, 1, none⟩)) rfl (by kernel_rfl) (by kernel_rfl) (by kernel_rfl) (by kernel_rfl) (fun _ _ _ h => h) (Or.inl ⟨by rfl, fun w hSw => by have h1 := hSw.1; have h2 := hSw.2.1; have h3 := hSw.2.2; clear hSw; go_simp⟩) (hSN _ (by repeat (first | with_reducible exact New.refl _ | with_reducible assumption | with_reducible refine New.dr ?_ | with_reducible refine New.al ?_ _) : New w3 _)) ?_
      try simp only [Act.put, List.setIfInBounds_toArray, List.set_cons_zero, List.set_cons_succ]
      refine wpAnyT_take (i := 3) (oi := ⟨_, _, _, _, _, _⟩) (v := .int .i64 b) rfl (by kernel_rfl) (by kernel_rfl) (by kernel_rfl) (by kernel_rfl) (fun _ _ _ h => h) (Or.inl ⟨by rfl, fun w hSw => by have h1 := hSw.1; have h2 := hSw.2.1; have h3 := hSw.2.2; clear hSw; go_simp⟩) (hSN _ (by repeat (first | with_reducible exact New.refl _ | with_reducible assumption | with_reducible refine New.dr ?_ | with_reducible refine New.al ?_ _) : New w3 _)) ?_
      try simp only [Act.put, List.setIfInBounds_toArray, List.set_cons_zero, List.set_cons_succ]
      refine wpAnyT_take (i := 4) (oi := ⟨_, _, _, _, _, _⟩) (v := .pointer (some ⟨b3, 2, none⟩)) rfl (by kernel_rfl) (by kernel_rfl) (by kernel_rfl) (by kernel_rfl) (fun _ _ _ h => h) (Or.inl ⟨by rfl, fun w hSw => by have h1 := hSw.1; have h2 := hSw.2.1; have h3 := hSw.2.2; clear hSw; go_simp⟩) (hSN _ (by repeat (first | with_reducible exact New.refl _ | with_reducible assumption | with_reducible refine New.dr ?_ | with_reducible refine New.al ?_ _) : New w3 _)) ?_
      try simp only [Act.put, List.setIfInBounds_toArray, List.set_cons_zero, List.set_cons_succ]
      refine wpAnyT_take (i := 5) (oi := ⟨_, _, _, _, _, _⟩) (v := .int .i64 c) rfl (by kernel_rfl) (by kernel_rfl) (by kernel_rfl) (by kernel_rfl) (fun _ _ _ h => h) (Or.inl ⟨by rfl, fun w hSw => by have h1 := hSw.1; have h2 := hSw.2.1; have h3 := hSw.2.2; clear hSw; go_simp⟩) (hSN _ (by repeat (first | with_reducible exact New.refl _ | with_reducible assumption | with_reducible refine New.dr ?_ | with_reducible refine New.al ?_ _) : New w3 _)) ?_
      try simp only [Act.put, List.setIfInBounds_toArray, List.set_cons_zero, List.set_cons_succ]
      refine wpAnyT_ready (rs := [6, 8]) (by kernel_rfl) (by simp) (AllT.cons (i := 6) (o := ⟨_, _, _, _, _, _⟩) rfl (fun K hK => ?_) (AllT.cons (i := 8) (o := ⟨_, _, _, _, _, _⟩) rfl (fun K hK => ?_) AllT.nil))
      · skip
        go_simp
        refine (nan_any _).mono ?_
        rintro e w4 ⟨rfl, rfl⟩
        try go_simp
        try simp only [Act.put, List.setIfInBounds_toArray, List.set_cons_zero, List.set_cons_succ]
        refine hK.out _ _ (fun _ => hSN _ (by repeat (first | with_reducible exact New.refl _ | with_reducible assumption | with_reducible refine New.dr ?_ | with_reducible refine New.al ?_ _) : New w3 _)) ?_
        refine wpAnyT_take (i := 7) (oi := ⟨_, _, _, _, _, _⟩) (v := .agg #[.int .i64 a, .int .i64 b, .int .i64 c, .float .f64 9221120237041090561, .slice none 0 0]) rfl (by kernel_rfl) (by kernel_rfl) (by kernel_rfl) (by kernel_rfl) (fun _ _ _ h => h) (Or.inl ⟨by rfl, fun w hSw => by have h1 := hSw.1; have h2 := hSw.2.1; have h3 := hSw.2.2; clear hSw; go_simp⟩) (hSN _ (by repeat (first | with_reducible exact New.refl _ | with_reducible assumption | with_reducible refine New.dr ?_ | with_reducible refine New.al ?_ _) : New w3 _)) ?_
        try simp only [Act.put, List.setIfInBounds_toArray, List.set_cons_zero, List.set_cons_succ]
        refine wpAnyT_ready (rs := [8]) (by kernel_rfl) (by simp) (AllT.cons (i := 8) (o := ⟨_, _, _, _, _, _⟩) rfl (fun K hK => ?_) AllT.nil)
        refine step_row_alloc (by rfl) rfl (Z := .agg #[.int .i64 0, .int .i64 0, .int .i64 0, .float .f64 0, .slice none 0 0]) (n := 5) (by kernel_rfl) ?_
        intro gX wX hBX hNX hlX
        have hNA : New w3 wX := New.tr ((by repeat (first | with_reducible exact New.refl _ | with_reducible assumption | with_reducible refine New.dr ?_ | with_reducible refine New.al ?_ _) : New w3 _)) hNX
        have hlX' : w3.heap.size ≤ gX := Nat.le_trans (((by repeat (first | with_reducible exact New.refl _ | with_reducible assumption | with_reducible refine New.dr ?_ | with_reducible refine New.al ?_ _) : New w3 _)).size) hlX
        try simp only [Act.put, List.setIfInBounds_toArray, List.set_cons_zero, List.set_cons_succ]
        refine hK.out _ _ (fun _ => hSN _ (by repeat (first | with_reducible exact New.refl _ | with_reducible assumption | with_reducible refine New.dr ?_ | with_reducible refine New.al ?_ _) : New w3 _)) ?_
        refine wpAnyT_ready (rs := [9]) (by kernel_rfl) (by simp) (AllT.cons (i := 9) (o := ⟨_, _, _, _, _, _⟩) rfl (fun K hK => ?_) AllT.nil)
        refine step_row_store rowT (by rfl) (.tmp 7) (.tmp 71) rfl rfl rfl hBX rfl rfl (RT.one ⟨a, b, c, _, none, 0, 0⟩) ?_
        intro wY hBY hFY
        have hNY : New w3 wY := (by repeat (first | with_reducible exact New.refl _ | with_reducible assumption | with_reducible refine New.dr ?_ | with_reducible refine New.al ?_ _) : New w3 _).fr hFY (fun k hk => by omega)
        try simp only [Act.put, List.setIfInBounds_toArray, List.set_cons_zero, List.set_cons_succ]
        refine hK.out _ _ (fun h => absurd rfl h) ?_
        refine wpAnyT_done (by kernel_rfl) ?_ _
        try go_wp2_with fail
        go_meet
        exact ⟨gX, rfl, Lib.hid ⟨hBY, hNY, hlX'⟩⟩
      · skip
        refine step_row_alloc (by rfl) rfl (Z := .agg #[.int .i64 0, .int .i64 0, .int .i64 0, .float .f64 0, .slice none 0 0]) (n := 5) (by kernel_rfl) ?_
        intro gX wX hBX hNX hlX
        have hNA : New w3 wX := New.tr ((by repeat (first | with_reducible exact New.refl _ | with_reducible assumption | with_reducible refine New.dr ?_ | with_reducible refine New.al ?_ _) : New w3 _)) hNX
        have hlX' : w3.heap.size ≤ gX := Nat.le_trans (((by repeat (first | with_reducible exact New.refl _ | with_reducible assumption | with_reducible refine New.dr ?_ | with_reducible refine New.al ?_ _) : New w3 _)).size) hlX
        try simp only [Act.put, List.setIfInBounds_toArray, List.set_cons_zero, List.set_cons_succ]
        refine hK.out _ _ (fun _ => hSN _ (by repeat (first | with_reducible exact New.refl _ | with_reducible assumption | with_reducible refine New.dr ?_ | with_reducible refine New.al ?_ _) : New w3 _)) ?_
        refine wpAnyT_ready (rs := [6]) (by kernel_rfl) (by simp) (AllT.cons (i := 6) (o := ⟨_, _, _, _, _, _⟩) rfl (fun K hK => ?_) AllT.nil)
        go_simp
        refine (nan_any _).mono ?_
        rintro e w4 ⟨rfl, rfl⟩
        try go_simp
        try simp only [Act.put, List.setIfInBounds_toArray, List.set_cons_zero, List.set_cons_succ]
        refine hK.out _ _ (fun _ => hSN _ (by repeat (first | with_reducible exact New.refl _ | with_reducible assumption | with_reducible refine New.dr ?_ | with_reducible refine New.al ?_ _) : New w3 _)) ?_
        refine wpAnyT_take (i := 7) (oi := ⟨_, _, _, _, _, _⟩) (v := .agg #[.int .i64 a, .int .i64 b, .int .i64 c, .float .f64 9221120237041090561, .slice none 0 0]) rfl (by kernel_rfl) (by kernel_rfl) (by kernel_rfl) (by kernel_rfl) (fun _ _ _ h => h) (Or.inl ⟨by rfl, fun w hSw => by have h1 := hSw.1; have h2 := hSw.2.1; have h3 := hSw.2.2; clear hSw; go_simp⟩) (hSN _ (by repeat (first | with_reducible exact New.refl _ | with_reducible assumption | with_reducible refine New.dr ?_ | with_reducible refine New.al ?_ _) : New w3 _)) ?_
        try simp only [Act.put, List.setIfInBounds_toArray, List.set_cons_zero, List.set_cons_succ]
        refine wpAnyT_ready (rs := [9]) (by kernel_rfl) (by simp) (AllT.cons (i := 9) (o := ⟨_, _, _, _, _, _⟩) rfl (fun K hK => ?_) AllT.nil)
        refine step_row_store rowT (by rfl) (.tmp 7) (.tmp 71) rfl rfl rfl hBX rfl rfl (RT.one ⟨a, b, c, _, none, 0, 0⟩) ?_
        intro wY hBY hFY
        have hNY : New w3 wY := (by repeat (first | with_reducible exact New.refl _ | with_reducible assumption | with_reducible refine New.dr ?_ | with_reducible refine New.al ?_ _) : New w3 _).fr hFY (fun k hk => by omega)
        try simp only [Act.put, List.setIfInBounds_toArray, List.set_cons_zero, List.set_cons_succ]
        refine hK.out _ _ (fun h => absurd rfl h) ?_
        refine wpAnyT_done (by kernel_rfl) ?_ _
        try go_wp2_with fail
        go_meet
        exact ⟨gX, rfl, Lib.hid ⟨hBY, hNY, hlX'⟩⟩
  case rest =>
    obtain ⟨bt, rfl, HC⟩ := hcut
    have HI0 : Hid (TPS w base g bt a b c 0 wc) := Lib.hid ⟨.slice none 0 0, [], 9221120237041090561, ⟨a, b, c, 9221120237041090561, none, 0, 0⟩, ⟨HT3.out.new HC.out.2.1, ⟨RdT.nil, rfl, Nat.zero_le _, Nat.le_refl _⟩, HC.out.1, rfl, rfl, rfl, Okay.nil, HN3.out.tr HC.out.2.1⟩⟩
    have hbtw : w.heap.size ≤ bt := by have := HC.out.2.2; have := HN3.out.size; omega
    clear HC HT3 j0 j1 j2 d0 d1 d2 d3 d4 HN1
    go_wp2_with fail
    go_loopw [74] (fun i wr => ∃ (k : Nat), k ≤ n1 ∧ i = .int .i64 k ∧ Hid (TPS w base g bt a b c k wr)) (fun i _ => n1 - (intOf i).toNat)
    case atStart => exact ⟨0, Nat.zero_le _, rfl, HI0⟩
    case round =>
      obtain ⟨k, hk, rfl, HI⟩ := hrel
      by_cases hlt : k < n1
      · obtain ⟨v, L, m1, t, hP⟩ := HI.out
        obtain ⟨gA, oA, hl, rfl, -, -, hrg⟩ := rd_row (f := A3.cells) (L := M) (fun _ => rfl) (by omega) (New.rd hP.new HRM.out) hlt
        generalize M[k] = x at hrg
        obtain ⟨kd, an, nw⟩ := x
        have HRG : Hid (wr.rangeAt gA (oA + k * 3) [.int .i64 kd, .int .u64 an, .int .i64 nw]) := Lib.hid hrg
        have hki : (0 : Int) ≤ (k : Int) := by omega
        have hkn : (k : Int) < (n1 : Int) := by omega
        have HP := Lib.hid hP
        have hbtl : bt < wr.heap.size := hP.blk.lt
        have hnwr : w.heap.size ≤ wr.heap.size := hP.new.size
        clear hrg hP hl HI HI0
        go_upto_block 2 with ((with_reducible refine atOpS ⟨some 77, .load _ _, _, _, _, _⟩ ?_); refine row_load_at rowA rfl (.tmp 76) rfl rfl HRG.out rfl ?_)
        generalize (IntKind.u64.wrap kd).tmod 4 = q
        obtain ⟨w3', hw3⟩ : ∃ w3' : World, w3' = (wr.alloc (.cells #[.int .i64 kd, .int .u64 an, .int .i64 nw] 50)).alloc (.cells #[.int .i64 0, .int .i64 0, .int .i64 0, .float .f64 0, .slice none 0 0] 48) := ⟨_, rfl⟩
        obtain ⟨ba, hba⟩ : ∃ ba, ba = wr.heap.size := ⟨_, rfl⟩
        obtain ⟨bn, hbn⟩ : ∃ bn, bn = wr.heap.size + 1 := ⟨_, rfl⟩
        have hN3 : New wr w3' := by rw [hw3]; exact ((New.refl wr).al _).al _
        have HBA : Hid (Blk w3' ba 50 #[.int .i64 kd, .int .u64 an, .int .i64 nw]) := Lib.hid (by rw [hw3, hba]; exact (Blk.new wr _ _).alloc _)
        have HBN : Hid (Blk w3' bn 48 #[.int .i64 0, .int .i64 0, .int .i64 0, .float .f64 0, .slice none 0 0]) := Lib.hid (by rw [hw3, hbn]; exact Blk.new' _ _ _ (by simp))
        rw [← hw3, ← hbn, ← hba]
        have hab : ¬ ba = bn := by omega
        have htb : ¬ bt = bn := by omega
        have hbnw : w.heap.size ≤ bn := by omega
        clear hw3 hba hbn
        generalize w3' = w3 at *
        go_cut [11, 12, 13, 14, 15, 16, 17, 74] from 74 to 165 (fun s11 s12 s13 s14 s15 s16 s17 s74 wx => s74 = .int .i64 k ∧ ∃ okb, s11 = .bool okb ∧ s12 = .bool okb ∧ Hid (PB w base g bt bn ba a b c k kd an nw wx))
        case first =>
          have HT := Lib.hid (HP.out.tm.new hN3)
          have HR := Lib.hid (HP.out.rin.new hN3)
          have hBT := New.blk hN3 HP.out.blk
          have HOK := Lib.hid HP.out.ok
          have HNw : Hid (New w w3) := Lib.hid (HP.out.new.tr hN3)
          have he1 := HP.out.e1
          have he2 := HP.out.e2
          have he3 := HP.out.e3
          have hlk := HP.out.ok.len
          have hln := HP.out.rin.len
          obtain ⟨lt, mt, lm, m2, At, nt, ct⟩ := t
          dsimp only at he1 he2 he3 HOK hln
          subst he1 he2 he3
          have HBT : Hid (Blk w3 bt 48 #[.int .i64 lt, .int .i64 mt, .int .i64 lm, .float .f64 m2, .slice At nt ct]) := Lib.hid hBT
          obtain ⟨r, hr1, hr2⟩ := tickR_both HOK.out.bits HOK.out.l1 HOK.out.l2 ha1 hab' hb3
          have HTR1 := Lib.hid hr1
          have HTR2 : Hid (TickR m2 lt mt r) := Lib.hid hr2
          have hi1 := HBA.out.cell 1
          have hi2 := HBA.out.cell 2
          have HLN := Lib.hid hln
          clear hBT hN3 HP hr1 hr2 hln
          by_cases hq0 : q = 0
          · subst hq0
            rcases hp : place L an with _ | i
            · as_aux_lemma =>
                go_wp2_with ((with_reducible refine atOpS ⟨some 109, .load _ _, _, _, _, _⟩ ?_); refine row_load rowT rfl (.tmp 7) rfl rfl HBT.out rfl ?_)
                refine (rstart_yes ⟨lt, mt, lm, m2, At, nt, ct⟩ L an nw r w3 HR.out hp HTR2.out ha1 hb3 (by omega)).mono ?_
                rintro e w4 ⟨⟨A4, c4, rfl, hR4⟩, hN4⟩
                have HN4 : Hid (New w3 w4) := Lib.hid hN4
                have HR4 : Hid (RIn w4 ⟨lt, mt, lm, m2, A4, nt + 1, c4⟩ (L ++ [⟨an, tickZ nw, tickZ nw + r, r, 1⟩])) := Lib.hid hR4
                have HBN4 := Lib.hid (hN4.blk HBN.out)
                have HBA4 := Lib.hid (hN4.blk HBA.out)
                clear hN4 hR4
                go_wp2_with ((with_reducible refine atOpS ⟨none, .store 48 _ _, _, _, _, _⟩ ?_); refine row_store rowT rfl (.tmp 10) (.tmp 115) rfl rfl rfl HBN4.out rfl rfl (RT.one ⟨_, _, _, _, _, _, _⟩) ?_; intro w5 hB5 hF5; have HB5 := Lib.hid hB5; have HF5 := Lib.hid hF5; have hba5 := HBA4.out.fr hF5 hab; have i1 := hba5.cell 1; have i2 := hba5.cell 2; have HBA5 := Lib.hid hba5; clear hB5 hF5 hba5)
                have HT5 := Lib.hid (tm_not (HT.out.new HN4.out) HBN4.out HF5.out)
                have HR5 := Lib.hid (rin_not HR4.out HBN4.out HF5.out)
                have HBT5 := Lib.hid ((HN4.out.blk HBT.out).fr HF5.out htb)
                have HN5 : Hid (New w w5) := Lib.hid ((HNw.out.tr HN4.out).fr HF5.out (fun k hk => by omega))
                refine (start_yes base g v L lt mt lm m1 an nw r w5 HT5.out hp HTR1.out ha1 hb3 (by omega)).mono ?_
                rintro e w6 ⟨rfl, v6, hT6, hF6, -⟩
                go_wp2_with fail
                go_meet
                exact ⟨rfl, true, rfl, rfl, Lib.hid ⟨⟨v6, (L ++ [⟨an, tickZ nw, tickZ nw + r, r, 1⟩]), m1, ⟨lt, mt, lm, m2, A4, nt + 1, c4⟩, ⟨hT6, tm_rin HT5.out (fun k hk => hk) hF6 HR5.out, tm_blk HT5.out (fun k hk => hk) hF6 HB5.out (by decide) (by decide), rfl, rfl, rfl, (HOK.out.start (by have := HTR1.out.2.1; omega) (by have := HTR1.out.2.2; omega)), tm_New HT5.out (fun k hk => hk) hF6 HN5.out hbase⟩⟩, ⟨⟨lt, mt, lm, m2, At, nt, ct⟩, tm_blk HT5.out (fun k hk => hk) hF6 HBT5.out (by decide) (by decide)⟩, tm_blk HT5.out (fun k hk => hk) hF6 HBA5.out (by decide) (by decide)⟩⟩
            · obtain ⟨hi, -⟩ := place_lt hp
              as_aux_lemma =>
                go_wp2_with ((with_reducible refine atOpS ⟨some 109, .load _ _, _, _, _, _⟩ ?_); refine row_load rowT rfl (.tmp 7) rfl rfl HBT.out rfl ?_)
                refine (rstart_no ⟨lt, mt, lm, m2, At, nt, ct⟩ L an nw w3 HR.out i hp).mono ?_
                rintro e w4 ⟨rfl, hN4⟩
                have hR4 := HR.out.new hN4
                have HN4 : Hid (New w3 w4) := Lib.hid hN4
                have HR4 : Hid (RIn w4 ⟨lt, mt, lm, m2, At, nt, ct⟩ L) := Lib.hid hR4
                have HBN4 := Lib.hid (hN4.blk HBN.out)
                have HBA4 := Lib.hid (hN4.blk HBA.out)
                clear hN4 hR4
                go_wp2_with ((with_reducible refine atOpS ⟨none, .store 48 _ _, _, _, _, _⟩ ?_); refine row_store rowT rfl (.tmp 10) (.tmp 115) rfl rfl rfl HBN4.out rfl rfl (RT.one ⟨_, _, _, _, _, _, _⟩) ?_; intro w5 hB5 hF5; have HB5 := Lib.hid hB5; have HF5 := Lib.hid hF5; have hba5 := HBA4.out.fr hF5 hab; have i1 := hba5.cell 1; have i2 := hba5.cell 2; have HBA5 := Lib.hid hba5; clear hB5 hF5 hba5)
                have HT5 := Lib.hid (tm_not (HT.out.new HN4.out) HBN4.out HF5.out)
                have HR5 := Lib.hid (rin_not HR4.out HBN4.out HF5.out)
                have HBT5 := Lib.hid ((HN4.out.blk HBT.out).fr HF5.out htb)
                have HN5 : Hid (New w w5) := Lib.hid ((HNw.out.tr HN4.out).fr HF5.out (fun k hk => by omega))
                refine (start_no base g v L lt mt lm m1 an nw w5 HT5.out i hp).mono ?_
                rintro e w6 ⟨rfl, hN6⟩
                go_wp2_with fail
                go_meet
                exact ⟨rfl, false, rfl, rfl, Lib.hid ⟨⟨v, L, m1, ⟨lt, mt, lm, m2, At, nt, ct⟩, ⟨HT5.out.new hN6, HR5.out.new hN6, hN6.blk HB5.out, rfl, rfl, rfl, HOK.out.up, HN5.out.tr hN6⟩⟩, ⟨⟨lt, mt, lm, m2, At, nt, ct⟩, hN6.blk HBT5.out⟩, hN6.blk HBA5.out⟩⟩
          have hqb0 : (q == 0) = false := by simpa using hq0
          by_cases hq1 : q = 1
          · subst hq1
            rcases hp : place L an with _ | i
            · as_aux_lemma =>
                go_wp2_with ((with_reducible refine atOpS ⟨some 126, .load _ _, _, _, _, _⟩ ?_); refine row_load rowT rfl (.tmp 7) rfl rfl HBT.out rfl ?_)
                refine (rstop_no ⟨lt, mt, lm, m2, At, nt, ct⟩ L an nw w3 HR.out hp).mono ?_
                rintro e w4 ⟨rfl, hN4⟩
                have hR4 := HR.out.new hN4
                have HN4 : Hid (New w3 w4) := Lib.hid hN4
                have HR4 : Hid (RIn w4 ⟨lt, mt, lm, m2, At, nt, ct⟩ L) := Lib.hid hR4
                have HBN4 := Lib.hid (hN4.blk HBN.out)
                have HBA4 := Lib.hid (hN4.blk HBA.out)
                clear hN4 hR4
                go_wp2_with ((with_reducible refine atOpS ⟨none, .store 48 _ _, _, _, _, _⟩ ?_); refine row_store rowT rfl (.tmp 10) (.tmp 132) rfl rfl rfl HBN4.out rfl rfl (RT.one ⟨_, _, _, _, _, _, _⟩) ?_; intro w5 hB5 hF5; have HB5 := Lib.hid hB5; have HF5 := Lib.hid hF5; have hba5 := HBA4.out.fr hF5 hab; have i1 := hba5.cell 1; have i2 := hba5.cell 2; have HBA5 := Lib.hid hba5; clear hB5 hF5 hba5)
                have HT5 := Lib.hid (tm_not (HT.out.new HN4.out) HBN4.out HF5.out)
                have HR5 := Lib.hid (rin_not HR4.out HBN4.out HF5.out)
                have HBT5 := Lib.hid ((HN4.out.blk HBT.out).fr HF5.out htb)
                have HN5 : Hid (New w w5) := Lib.hid ((HNw.out.tr HN4.out).fr HF5.out (fun k hk => by omega))
                refine (stop_no base g v L lt mt lm m1 an nw w5 HT5.out hp).mono ?_
                rintro e w6 ⟨rfl, hN6⟩
                go_wp2_with fail
                go_meet
                exact ⟨rfl, false, rfl, rfl, Lib.hid ⟨⟨v, L, m1, ⟨lt, mt, lm, m2, At, nt, ct⟩, ⟨HT5.out.new hN6, HR5.out.new hN6, hN6.blk HB5.out, rfl, rfl, rfl, HOK.out.up, HN5.out.tr hN6⟩⟩, ⟨⟨lt, mt, lm, m2, At, nt, ct⟩, hN6.blk HBT5.out⟩, hN6.blk HBA5.out⟩⟩
            · obtain ⟨hi, -⟩ := place_lt hp
              as_aux_lemma =>
                go_wp2_with ((with_reducible refine atOpS ⟨some 126, .load _ _, _, _, _, _⟩ ?_); refine row_load rowT rfl (.tmp 7) rfl rfl HBT.out rfl ?_)
                refine (rstop_yes ⟨lt, mt, lm, m2, At, nt, ct⟩ L an nw w3 HR.out HOK.out.fair HOK.out.l2 i hi hp).mono ?_
                rintro e w4 ⟨⟨A4, c4, r2, hM2, rfl, hR4⟩, hN4⟩
                have HN4 : Hid (New w3 w4) := Lib.hid hN4
                have HR4 : Hid (RIn w4 ⟨lt, mt, lm, r2, A4, nt - 1, c4⟩ (L.eraseIdx i)) := Lib.hid hR4
                have HBN4 := Lib.hid (hN4.blk HBN.out)
                have HBA4 := Lib.hid (hN4.blk HBA.out)
                clear hN4 hR4
                go_wp2_with ((with_reducible refine atOpS ⟨none, .store 48 _ _, _, _, _, _⟩ ?_); refine row_store rowT rfl (.tmp 10) (.tmp 132) rfl rfl rfl HBN4.out rfl rfl (RT.one ⟨_, _, _, _, _, _, _⟩) ?_; intro w5 hB5 hF5; have HB5 := Lib.hid hB5; have HF5 := Lib.hid hF5; have hba5 := HBA4.out.fr hF5 hab; have i1 := hba5.cell 1; have i2 := hba5.cell 2; have HBA5 := Lib.hid hba5; clear hB5 hF5 hba5)
                have HT5 := Lib.hid (tm_not (HT.out.new HN4.out) HBN4.out HF5.out)
                have HR5 := Lib.hid (rin_not HR4.out HBN4.out HF5.out)
                have HBT5 := Lib.hid ((HN4.out.blk HBT.out).fr HF5.out htb)
                have HN5 : Hid (New w w5) := Lib.hid ((HNw.out.tr HN4.out).fr HF5.out (fun k hk => by omega))
                refine (stop_yes base g v L lt mt lm m1 an nw w5 HT5.out HOK.out.fair HOK.out.l1 i hi hp).mono ?_
                rintro e w6 ⟨rfl, v6, r1, hM1, hT6, hF6, -⟩
                go_wp2_with fail
                go_meet
                exact ⟨rfl, true, rfl, rfl, Lib.hid ⟨⟨v6, (L.eraseIdx i), r1, ⟨lt, mt, lm, r2, A4, nt - 1, c4⟩, ⟨hT6, tm_rin HT5.out (fun k hk => hk) hF6 HR5.out, tm_blk HT5.out (fun k hk => hk) hF6 HB5.out (by decide) (by decide), rfl, rfl, rfl, (HOK.out.erase i (meanN_same HOK.out.bits hM1 hM2) (meanN_lt HOK.out.l1 hM1) (meanN_lt HOK.out.l2 hM2)), tm_New HT5.out (fun k hk => hk) hF6 HN5.out hbase⟩⟩, ⟨⟨lt, mt, lm, m2, At, nt, ct⟩, tm_blk HT5.out (fun k hk => hk) hF6 HBT5.out (by decide) (by decide)⟩, tm_blk HT5.out (fun k hk => hk) hF6 HBA5.out (by decide) (by decide)⟩⟩
          have hqb1 : (q == 1) = false := by simpa using hq1
          by_cases hq2 : q = 2
          · subst hq2
            rcases hp : place L an with _ | i
            · as_aux_lemma =>
                go_wp2_with ((with_reducible refine atOpS ⟨some 143, .load _ _, _, _, _, _⟩ ?_); refine row_load rowT rfl (.tmp 7) rfl rfl HBT.out rfl ?_)
                refine (rdrop_no ⟨lt, mt, lm, m2, At, nt, ct⟩ L an w3 HR.out hp).mono ?_
                rintro e w4 ⟨rfl, hN4⟩
                have hR4 := HR.out.new hN4
                have HN4 : Hid (New w3 w4) := Lib.hid hN4
                have HR4 : Hid (RIn w4 ⟨lt, mt, lm, m2, At, nt, ct⟩ L) := Lib.hid hR4
                have HBN4 := Lib.hid (hN4.blk HBN.out)
                have HBA4 := Lib.hid (hN4.blk HBA.out)
                clear hN4 hR4
                go_wp2_with ((with_reducible refine atOpS ⟨none, .store 48 _ _, _, _, _, _⟩ ?_); refine row_store rowT rfl (.tmp 10) (.tmp 147) rfl rfl rfl HBN4.out rfl rfl (RT.one ⟨_, _, _, _, _, _, _⟩) ?_; intro w5 hB5 hF5; have HB5 := Lib.hid hB5; have HF5 := Lib.hid hF5; have hba5 := HBA4.out.fr hF5 hab; have i1 := hba5.cell 1; have i2 := hba5.cell 2; have HBA5 := Lib.hid hba5; clear hB5 hF5 hba5)
                have HT5 := Lib.hid (tm_not (HT.out.new HN4.out) HBN4.out HF5.out)
                have HR5 := Lib.hid (rin_not HR4.out HBN4.out HF5.out)
                have HBT5 := Lib.hid ((HN4.out.blk HBT.out).fr HF5.out htb)
                have HN5 : Hid (New w w5) := Lib.hid ((HNw.out.tr HN4.out).fr HF5.out (fun k hk => by omega))
                refine (drop_no base g v L lt mt lm m1 an w5 HT5.out hp).mono ?_
                rintro e w6 ⟨rfl, hN6⟩
                go_wp2_with fail
                go_meet
                exact ⟨rfl, false, rfl, rfl, Lib.hid ⟨⟨v, L, m1, ⟨lt, mt, lm, m2, At, nt, ct⟩, ⟨HT5.out.new hN6, HR5.out.new hN6, hN6.blk HB5.out, rfl, rfl, rfl, HOK.out.up, HN5.out.tr hN6⟩⟩, ⟨⟨lt, mt, lm, m2, At, nt, ct⟩, hN6.blk HBT5.out⟩, hN6.blk HBA5.out⟩⟩
            · obtain ⟨hi, -⟩ := place_lt hp
              as_aux_lemma =>
                go_wp2_with ((with_reducible refine atOpS ⟨some 143, .load _ _, _, _, _, _⟩ ?_); refine row_load rowT rfl (.tmp 7) rfl rfl HBT.out rfl ?_)
                refine (rdrop_yes ⟨lt, mt, lm, m2, At, nt, ct⟩ L an w3 HR.out i hp).mono ?_
                rintro e w4 ⟨⟨A4, c4, rfl, hR4⟩, hN4⟩
                have HN4 : Hid (New w3 w4) := Lib.hid hN4
                have HR4 : Hid (RIn w4 ⟨lt, mt, lm, m2, A4, nt - 1, c4⟩ (L.eraseIdx i)) := Lib.hid hR4
                have HBN4 := Lib.hid (hN4.blk HBN.out)
                have HBA4 := Lib.hid (hN4.blk HBA.out)
                clear hN4 hR4
                go_wp2_with ((with_reducible refine atOpS ⟨none, .store 48 _ _, _, _, _, _⟩ ?_); refine row_store rowT rfl (.tmp 10) (.tmp 147) rfl rfl rfl HBN4.out rfl rfl (RT.one ⟨_, _, _, _, _, _, _⟩) ?_; intro w5 hB5 hF5; have HB5 := Lib.hid hB5; have HF5 := Lib.hid hF5; have hba5 := HBA4.out.fr hF5 hab; have i1 := hba5.cell 1; have i2 := hba5.cell 2; have HBA5 := Lib.hid hba5; clear hB5 hF5 hba5)
                have HT5 := Lib.hid (tm_not (HT.out.new HN4.out) HBN4.out HF5.out)
                have HR5 := Lib.hid (rin_not HR4.out HBN4.out HF5.out)
                have HBT5 := Lib.hid ((HN4.out.blk HBT.out).fr HF5.out htb)
                have HN5 : Hid (New w w5) := Lib.hid ((HNw.out.tr HN4.out).fr HF5.out (fun k hk => by omega))
                refine (drop_yes base g v L lt mt lm m1 an w5 HT5.out i hp).mono ?_
                rintro e w6 ⟨rfl, v6, hT6, hF6, -⟩
                go_wp2_with fail
                go_meet
                exact ⟨rfl, true, rfl, rfl, Lib.hid ⟨⟨v6, (L.eraseIdx i), m1, ⟨lt, mt, lm, m2, A4, nt - 1, c4⟩, ⟨hT6, tm_rin HT5.out (fun k hk => hk) hF6 HR5.out, tm_blk HT5.out (fun k hk => hk) hF6 HB5.out (by decide) (by decide), rfl, rfl, rfl, (HOK.out.erase i HOK.out.bits HOK.out.l1 HOK.out.l2), tm_New HT5.out (fun k hk => hk) hF6 HN5.out hbase⟩⟩, ⟨⟨lt, mt, lm, m2, At, nt, ct⟩, tm_blk HT5.out (fun k hk => hk) hF6 HBT5.out (by decide) (by decide)⟩, tm_blk HT5.out (fun k hk => hk) hF6 HBA5.out (by decide) (by decide)⟩⟩
          have hqb2 : (q == 2) = false := by simpa using hq2
          clear hq0 hq1 hq2
          as_aux_lemma =>
            obtain ⟨tk, htk⟩ : ∃ tk, tk = tickZ nw := ⟨_, rfl⟩
            have ht0 := (tickZ_in nw).1
            have ht1 := (tickZ_in nw).2
            have hdu := due_any base g v L lt mt lm m1 nw w3 HT.out HOK.out.fair hb3 (by omega)
            have hru := fun (w' : World) (hN : RIn w' ⟨lt, mt, lm, m2, At, nt, ct⟩ L) => rdue_any ⟨lt, mt, lm, m2, At, nt, ct⟩ L nw w' hN HOK.out.fair hb3 (by show 1 ≤ mt; omega)
            unfold RDue at hru
            dsimp only at hru
            rw [← htk] at hdu hru ht0 ht1
            have hok2 := HOK.out.dues (tk := tk) (mt := mt) (lm := lm) (by omega) hb3 hc5 ht0 ht1
            have hdl := dues_len tk mt lm L
            generalize dues tk mt lm L = D at hdu hru hok2 hdl
            have HRU := Lib.hid hru
            have HOK2 := Lib.hid hok2
            clear hru hok2 htk ht0 ht1
            go_wp2_with fail
            refine hdu.mono ?_
            rintro e w4 ⟨va, vt, v6, rfl, hT4, hOa, hOt, hF4, -⟩
            clear hdu
            have hS : ∀ k, (fun k => k = g) k → k = g ∨ v.ownBlock = some k := fun k hk => .inl hk
            have HT4 := Lib.hid hT4
            have HBT4 := Lib.hid (tm_blk HT.out hS hF4 HBT.out (by decide) (by decide))
            have HBN4' := Lib.hid (tm_blk HT.out hS hF4 HBN.out (by decide) (by decide))
            have hba4 := tm_blk HT.out hS hF4 HBA.out (by decide) (by decide)
            have HR4 := Lib.hid (tm_rin HT.out hS hF4 HR.out)
            have HNw4 : Hid (New w w4) := Lib.hid (tm_New HT.out hS hF4 HNw.out hbase)
            obtain ⟨Aa, ca, rfl, -, -, -, -⟩ := own_shape hOa
            obtain ⟨Av, cv, rfl, -, -, -, -⟩ := own_shape hOt
            have HOa := Lib.hid hOa
            have HOt := Lib.hid hOt
            have i1 := hba4.cell 1
            have i2 := hba4.cell 2
            have HBA4' := Lib.hid hba4
            clear hT4 hOa hOt hF4 hS hba4
            have HBT := HBT4
            go_wp2_with ((with_reducible refine atOpS ⟨some 90, .load _ _, _, _, _, _⟩ ?_); refine row_load rowT rfl (.tmp 7) rfl rfl HBT.out rfl ?_)
            refine (HRU.out w4 HR4.out).mono ?_
            rintro e w5 ⟨⟨A5, c5, wa, wt, rfl, hR5, hPa, hPt⟩, hN5⟩
            obtain ⟨Ba, da, rfl, -, -, -, -⟩ := own_shape hPa
            obtain ⟨Bv, dv, rfl, -, -, -, -⟩ := own_shape hPt
            have HN5 : Hid (New w4 w5) := Lib.hid hN5
            have HR5 := Lib.hid hR5
            have HPa := Lib.hid hPa
            have HPt := Lib.hid hPt
            have hsn : bn < w5.heap.size := (New.blk hN5 HBN4'.out).lt
            clear hN5 hR5 hPa hPt i1 i2
            go_upto_region 18 with ((with_reducible refine atOpS ⟨none, .store 48 (.tmp 15) _, _, _, _, _⟩ ?_); refine row_store rowT rfl (.tmp 15) (.tmp 94) rfl rfl rfl (Blk.new w5 _ _) rfl rfl (RT.one ⟨lt, mt, lm, m2, A5, D.left.length, c5⟩) ?_; intro w6 hB6 hF6; have HN6 : Hid (New w5 w6) := Lib.hid (((New.refl w5).al _).fr hF6 (fun k hk => by omega)); have HB6 := Lib.hid hB6; clear hB6 hF6)
            obtain ⟨b6, hb6⟩ : ∃ b6, b6 = w5.heap.size := ⟨_, rfl⟩
            rw [← hb6] at HB6 ⊢
            clear hb6
            have HBN6 := Lib.hid ((HN5.out.tr HN6.out).blk HBN4'.out)
            go_wp2_with (first
              | ((with_reducible refine atOpS ⟨some 97, .load _ _, _, _, _, _⟩ ?_); refine row_load rowT rfl (.tmp 15) rfl rfl HB6.out rfl ?_)
              | ((with_reducible refine atOpS ⟨none, .store 48 _ _, _, _, _, _⟩ ?_); refine row_store rowT rfl (.tmp 10) (.tmp 97) rfl rfl rfl HBN6.out rfl rfl (RT.one ⟨_, _, _, _, _, _, _⟩) ?_; intro w7 hB7 hF7; have HB7 := Lib.hid hB7; have HF7 := Lib.hid hF7; clear hB7 hF7))
            have HOa7 := Lib.hid (own_fr (New.own (HN5.out.tr HN6.out) HOa.out) HF7.out (fun k hk e => by subst e; exact own_ne (New.own (HN5.out.tr HN6.out) HOa.out) HBN6.out (by decide) hk))
            have HOt7 := Lib.hid (own_fr (New.own (HN5.out.tr HN6.out) HOt.out) HF7.out (fun k hk e => by subst e; exact own_ne (New.own (HN5.out.tr HN6.out) HOt.out) HBN6.out (by decide) hk))
            have HPa7 := Lib.hid (own_fr (New.own HN6.out HPa.out) HF7.out (fun k hk e => by subst e; exact own_ne (New.own HN6.out HPa.out) HBN6.out (by decide) hk))
            have HPt7 := Lib.hid (own_fr (New.own HN6.out HPt.out) HF7.out (fun k hk e => by subst e; exact own_ne (New.own HN6.out HPt.out) HBN6.out (by decide) hk))
            have HWA := Lib.hid (wide_any Aa Ba D.again.length D.again.length ca da D.again D.again w7 (Rd.own HOa7.out rfl) (Rd.own HPa7.out rfl) (by omega) (by omega))
            refine HWA.out.mono ?_
            rw [show decide (D.again = D.again) = true from decide_eq_true rfl]
            rintro e w8 ⟨rfl, hN8⟩
            have HN8 : Hid (New w7 w8) := Lib.hid hN8
            clear hN8
            go_wp2_with fail
            refine (wide_any Av Bv D.late.length D.late.length cv dv D.late D.late w8 (Rd.own (New.own HN8.out HOt7.out) rfl) (Rd.own (New.own HN8.out HPt7.out) rfl) (by omega) (by omega)).mono ?_
            rw [show decide (D.late = D.late) = true from decide_eq_true rfl]
            rintro e w9 ⟨rfl, hN9⟩
            have HN9 : Hid (New w7 w9) := Lib.hid (HN8.out.tr hN9)
            clear hN9
            go_wp2_with fail
            go_meet
            have h56 := HN5.out.tr HN6.out
            exact ⟨rfl, true, rfl, rfl, Lib.hid ⟨⟨v6, D.left, m1, ⟨lt, mt, lm, m2, A5, D.left.length, c5⟩, ⟨(tm_not (HT4.out.new h56) HBN6.out HF7.out).new HN9.out, (rin_not (HR5.out.new HN6.out) HBN6.out HF7.out).new HN9.out, HN9.out.blk HB7.out, rfl, rfl, rfl, HOK2.out, ((HNw4.out.tr h56).fr HF7.out (fun k hk => by omega)).tr HN9.out⟩⟩, ⟨⟨lt, mt, lm, m2, At, nt, ct⟩, HN9.out.blk ((h56.blk HBT4.out).fr HF7.out htb)⟩, HN9.out.blk ((h56.blk HBA4'.out).fr HF7.out hab)⟩⟩
        case rest =>
          as_aux_lemma =>
            obtain ⟨rfl, okb, rfl, rfl, HPB⟩ := hcut
            obtain ⟨⟨v6, L6, m6, t6, hP6⟩, ⟨t0, hB0⟩, hA6⟩ := HPB.out
            have HP6 := Lib.hid hP6
            have HB0 := Lib.hid hB0
            have HA6 := Lib.hid hA6
            have HBN6 := Lib.hid hP6.blk
            obtain ⟨r, hr1, hr2⟩ := tickR_both hP6.ok.bits hP6.ok.l1 hP6.ok.l2 ha1 hab' hb3
            have HTR1 := Lib.hid hr1
            have HTR2 : Hid (TickR t6.mean t6.lt t6.mt r) := Lib.hid (by rw [hP6.e1, hP6.e2]; exact hr2)
            clear hP6 hB0 hA6 HPB HP hN3 hr1 hr2 HBN HBA
            rcases okb with _ | _
            all_goals
              go_wp2_with (first
                | ((with_reducible refine atOpS ⟨some 153, .load _ _, _, _, _, _⟩ ?_); refine row_load rowT rfl (.tmp 10) rfl rfl HBN6.out rfl ?_)
                | ((with_reducible refine atOpS ⟨none, .store 48 _ _, _, _, _, _⟩ ?_); refine row_store rowT rfl (.tmp 7) (.tmp 153) rfl rfl rfl HB0.out rfl rfl (RT.one t6) ?_; intro w7 hB7 hF7; have hA7 := HA6.out.fr hF7 (fun e => Blk.ne_ HA6.out HB0.out (by decide) e); have k1 := hA7.cell 1; have HB7 := Lib.hid hB7; have HF7 := Lib.hid hF7; clear hB7 hF7 hA7)
                | ((with_reducible refine atOpS ⟨some 159, .load _ _, _, _, _, _⟩ ?_); refine row_load rowT rfl (.tmp 7) rfl rfl HB7.out rfl ?_))
              have hT7 := tm_not HP6.out.tm HB0.out HF7.out
              have hR7 := rin_not HP6.out.rin HB0.out HF7.out
              have HT7 := Lib.hid hT7
              have HR7 := Lib.hid hR7
              clear hT7 hR7
              refine (same_any base g v6 L6 a b c m6 t6 r an w7 HT7.out HR7.out HP6.out.ok.fair HP6.out.ok.bits HP6.out.ok.l1 HP6.out.ok.l2 HTR1.out HTR2.out).mono ?_
              rintro e w8 ⟨rfl, hN8⟩
              have HN8 : Hid (New w7 w8) := Lib.hid hN8
              clear hN8
              go_wp2_with fail
              go_roundw
              case rel => exact ⟨k + 1, by omega, by go_num, Lib.hid ⟨v6, L6, m6, t6, ⟨HT7.out.new HN8.out, HR7.out.new HN8.out, HN8.out.blk HB7.out, HP6.out.e1, HP6.out.e2, HP6.out.e3, HP6.out.ok, (HP6.out.new.fr HF7.out (fun q hq => by omega)).tr HN8.out⟩⟩⟩
              case measure => simp [intOf]; omega
      · as_aux_lemma =>
        obtain rfl : k = n1 := by omega
        obtain ⟨v, L, m1, t, hP⟩ := HI.out
        go_wp2_with fail
        go_ret
        exact ⟨rfl, hP.new⟩
end Go.Proofs.Ytbgjoohnognagaa
