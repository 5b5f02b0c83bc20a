/- The document's timer: Drop. No condition but that its list can be read. -/
import Derived.Test.YtbgjoohnognagaaTpB
namespace Go.Proofs.Ytbgjoohnognagaa
open Go.RowKit

theorem Rd.take {p : Nat → Prop} {w : World} {size n : Nat} {A : Option Addr} {xs : List Value} (h : Rd p w size A n xs) {k : Nat} (hk : k ≤ n) : Rd p w size A k (xs.take (k * size)) := by
  have hm : k * size ≤ n * size := Nat.mul_le_mul_right _ hk
  refine ⟨by rw [List.length_take, h.1]; omega, fun h0 => ?_⟩
  obtain ⟨ad, e, hp, hb, hc⟩ := h.2 (by omega)
  refine ⟨ad, e, hp, hb, fun j u hu => hc j u ?_⟩
  rw [List.getElem?_take] at hu
  split at hu
  · exact hu
  · cases hu
theorem add_at_ (g o j : Nat) : (⟨g, o, none⟩ : Addr).add j = ⟨g, o + j, none⟩ := by
  unfold Addr.add
  by_cases hj : j = 0 <;> simp [hj]

set_option maxHeartbeats 4000000 in
theorem rdrop_no (t : RT) (L : List Rn) (a : Int) (w : World) (h : RIn w t L) (hp : place L a = none) :
    Calls Try.prog 21 #[.agg #[.int .i64 t.lt, .int .i64 t.mt, .int .i64 t.lm, .float .f64 t.mean, .slice t.A t.n t.c], .int .u64 a] w fun e w' =>
      e = .returned (.tuple #[.agg #[.int .i64 t.lt, .int .i64 t.mt, .int .i64 t.lm, .float .f64 t.mean, .slice t.A t.n t.c], .bool false]) ∧ New w w' := by
  have H := Lib.hid h
  have HQ := Lib.hid (placeI_none hp)
  have hpl := fun (w' : World) (hN : New w w') => rplace_any t L a w' (H.out.new hN)
  obtain ⟨lt, mt, lm, mean, A, n, c⟩ := t
  dsimp only at hpl ⊢
  have HPL := Lib.hid hpl
  clear h hp hpl
  obtain ⟨w0, bx, bz, hw0, hbx, hbz, hB, hZ, hN0, hx1, hz1, hxz⟩ := two_blk w 48 #[.int .i64 lt, .int .i64 mt, .int .i64 lm, .float .f64 mean, .slice A n c] #[.int .i64 0, .int .i64 0, .int .i64 0, .float .f64 0, .slice none 0 0]
  have HBX := Lib.hid hB
  have HBZ := Lib.hid hZ
  have HN0 : Hid (New w w0) := Lib.hid hN0
  have HW := Lib.hid hw0
  have HBE := Lib.hid hbx
  have HZE := Lib.hid hbz
  clear hB hZ hN0 hw0 hbx hbz
  go_enter Try.func21, Try.ntmps21
  go_upto_region 1 with fail
  rw [← HW.out, ← HZE.out, ← HBE.out]
  go_wp2_with ((with_reducible refine atOpS ⟨some 7, .load _ _, _, _, _, _⟩ ?_); refine row_load rowT rfl (.tmp 2) rfl rfl HBX.out rfl ?_)
  refine (HPL.out w0 HN0.out).mono ?_
  rw [HQ.out]
  rintro e w1 ⟨rfl, hN1⟩
  have HN1 : Hid (New w0 w1) := Lib.hid hN1
  have HBX := Lib.hid (HN1.out.blk HBX.out)
  have HBZ := Lib.hid (HN1.out.blk HBZ.out)
  clear hN1
  go_wp2_with (first | ((with_reducible refine atOpS ⟨some 12, .load _ _, _, _, _, _⟩ ?_); refine row_load rowT rfl (.tmp 2) rfl rfl HBX.out rfl ?_) | ((with_reducible refine atOpS ⟨none, .store 48 _ _, _, _, _, _⟩ ?_); refine row_store rowT rfl (.tmp 4) (.tmp 12) rfl rfl rfl HBZ.out rfl rfl (RT.one ⟨_, _, _, _, _, _, _⟩) ?_; intro wz hBz hFz; have z0 := hBz.cell 0; have z1 := hBz.cell 1; have z2 := hBz.cell 2; have z3 := hBz.cell 3; have z4 := hBz.cell 4; have HFz := Lib.hid hFz; clear hBz hFz))
  refine bodyPost_ret (v := .tuple #[.agg #[.int .i64 lt, .int .i64 mt, .int .i64 lm, .float .f64 mean, .slice A n c], .bool false]) (by simp [results, Try.results21, go_sem, z0, z1, z2, z3, z4]) rfl ⟨rfl, ?_⟩
  exact (HN0.out.tr HN1.out).fr HFz.out (fun k hk => by omega)

set_option maxHeartbeats 8000000 in
set_option maxRecDepth 100000 in
theorem rdrop_yes (t : RT) (L : List Rn) (a : Int) (w : World) (h : RIn w t L) (i : Nat) (hp : place L a = some i) :
    Calls Try.prog 21 #[.agg #[.int .i64 t.lt, .int .i64 t.mt, .int .i64 t.lm, .float .f64 t.mean, .slice t.A t.n t.c], .int .u64 a] w fun e w' =>
      (∃ A' c', e = .returned (.tuple #[.agg #[.int .i64 t.lt, .int .i64 t.mt, .int .i64 t.lm, .float .f64 t.mean, .slice A' (t.n - 1) c'], .bool true]) ∧ RIn w' ⟨t.lt, t.mt, t.lm, t.mean, A', t.n - 1, c'⟩ (L.eraseIdx i)) ∧ New w w' := by
  have H := Lib.hid h
  have HQ := Lib.hid (placeI_some hp)
  obtain ⟨hi, -⟩ := place_lt hp
  have hin : i < t.n := by have := h.len; omega
  have hle := h.le
  have hnc := h.nc
  have hpl := fun (w' : World) (hN : New w w') => rplace_any t L a w' (H.out.new hN)
  obtain ⟨g, o, hA, -, -, -⟩ := h.rd.out (by omega) (by omega)
  obtain ⟨lt, mt, lm, mean, A, n, c⟩ := t
  dsimp only at hpl hin hle hnc hA ⊢
  subst hA
  have HPL := Lib.hid hpl
  have HLE : Hid (L.length = n) := Lib.hid h.len
  have hcl : c ≤ maxLen ∨ maxLen < c := by omega
  clear h hp hpl hi hcl
  obtain ⟨w0, bx, bz, hw0, hbx, hbz, hB, hZ, hN0, hx1, hz1, hxz⟩ := two_blk w 48 #[.int .i64 lt, .int .i64 mt, .int .i64 lm, .float .f64 mean, .slice (some ⟨g, o, none⟩) n c] #[.int .i64 0, .int .i64 0, .int .i64 0, .float .f64 0, .slice none 0 0]
  have HBX := Lib.hid hB
  have HBZ := Lib.hid hZ
  have HN0 : Hid (New w w0) := Lib.hid hN0
  have HW := Lib.hid hw0
  have HBE := Lib.hid hbx
  have HZE := Lib.hid hbz
  clear hB hZ hN0 hw0 hbx hbz
  go_enter Try.func21, Try.ntmps21
  go_upto_region 1 with fail
  rw [← HW.out, ← HZE.out, ← HBE.out]
  go_wp2_with ((with_reducible refine atOpS ⟨some 7, .load _ _, _, _, _, _⟩ ?_); refine row_load rowT rfl (.tmp 2) rfl rfl HBX.out rfl ?_)
  refine (HPL.out w0 HN0.out).mono ?_
  rw [HQ.out]
  rintro e w2 ⟨rfl, hN2⟩
  have HNw2 : Hid (New w w2) := Lib.hid (HN0.out.tr hN2)
  have HBX2 := Lib.hid (New.blk hN2 HBX.out)
  have HBZ2 := Lib.hid (New.blk hN2 HBZ.out)
  have HR2 := Lib.hid ((H.out.new HNw2.out).rd)
  have HNbx : Hid (bx < w2.heap.size) := Lib.hid HBX2.out.lt
  have hb4 : w2.cell? ⟨bx, 4, none⟩ = some (.slice (some ⟨g, o, none⟩) n c) := HBX2.out.cell 4
  clear hN2 HBX HBZ
  go_upto_region 4 with fail
  go_cut [6] (fun s6 wx => s6 = .int .i64 i ∧ ∃ A4 d4, Hid (Blk wx bx 48 #[.int .i64 lt, .int .i64 mt, .int .i64 lm, .float .f64 mean, .slice A4 (n - 1) d4] ∧ Blk wx bz 48 #[.int .i64 0, .int .i64 0, .int .i64 0, .float .f64 0, .slice none 0 0] ∧
    wx.ownsRow w2.heap.size 76 5 (.slice A4 (n - 1) d4) (n - 1) (flat (L.eraseIdx i)) ∧ New w wx))
  case first =>
    as_aux_lemma =>
      have hSN : ∀ w', New w2 w' → (fun w' => w'.cell? ⟨bx, 4, none⟩ = some (.slice (some ⟨g, o, none⟩) n c)) w' := fun w' hN => hN.cell_ hb4
      have HT1 := Lib.hid (HR2.out.take (k := i) (by omega))
      have hd := Rd.drop HR2.out (k := i + 1) (cap := c) (by omega) hnc
      rw [Option.map_some, add_at_] at hd
      obtain ⟨X10, hX10⟩ : ∃ X10 : Option Addr, (if c = i + 1 then some (⟨g, o, none⟩ : Addr) else some ⟨g, o + (i + 1) * 5, none⟩) = X10 := ⟨_, rfl⟩
      rw [hX10] at hd
      have HX10 := Lib.hid hX10
      have hwr : IntKind.i64.wrap ((i : Int) + 1) = (i : Int) + 1 := IntWalk.i64_in _ (by omega)
      have HWR := Lib.hid hwr
      have HT2 := Lib.hid hd
      have HLc := Lib.hid (flat_cell L)
      have HDL := Lib.hid (flat_del L i (by have := HLE.out; omega))
      have h0 : (0 : Int) ≤ (i : Int) := by omega
      have h1 : (i : Int) ≤ (n : Int) := by omega
      have h2 : (0 : Int) ≤ (i : Int) + 1 := by omega
      have h3 : (i : Int) + 1 ≤ (n : Int) := by omega
      have h5 : (i : Int) ≤ (c : Int) := by omega
      have h6 : i ≤ c := by omega
      have h7 : i + 1 ≤ n := by omega
      have h8 : i + 1 ≤ c := by omega
      have h9 : ((i : Int) + 1).toNat = i + 1 := by omega
      have HC9 := Lib.hid h9
      clear hd h9 hX10 hwr
      refine wp_region_T (fun w' => w'.cell? ⟨bx, 4, none⟩ = some (.slice (some ⟨g, o, none⟩) n c)) 13 (by kernel_rfl) ?_
      refine wpAnyT_take (i := 1) (oi := ⟨_, _, _, _, _, _⟩) (v := .pointer (some ⟨bx, 4, none⟩)) rfl (by kernel_rfl) (by kernel_rfl) (by kernel_rfl) (by kernel_rfl) (fun _ _ _ h => h) (Or.inl ⟨by rfl, fun w hSw => by go_simp⟩) (hSN _ (by repeat (first | with_reducible exact New.refl _ | with_reducible assumption | with_reducible refine New.dr ?_ | with_reducible refine New.al ?_ _) : New w2 _)) ?_
      try simp only [Act.put, List.setIfInBounds_toArray, List.set_cons_zero, List.set_cons_succ]
      refine wpAnyT_take (i := 2) (oi := ⟨_, _, _, _, _, _⟩) (v := .slice (some ⟨g, o, none⟩) n c) rfl (by kernel_rfl) (by kernel_rfl) (by kernel_rfl) (by kernel_rfl) (fun _ _ _ h => h) (Or.inl ⟨by rfl, fun w hSw => by go_simp⟩) (hSN _ (by repeat (first | with_reducible exact New.refl _ | with_reducible assumption | with_reducible refine New.dr ?_ | with_reducible refine New.al ?_ _) : New w2 _)) ?_
      try simp only [Act.put, List.setIfInBounds_toArray, List.set_cons_zero, List.set_cons_succ]
      refine wpAnyT_take (i := 3) (oi := ⟨_, _, _, _, _, _⟩) (v := .int .i64 i) rfl (by kernel_rfl) (by kernel_rfl) (by kernel_rfl) (by kernel_rfl) (fun _ _ _ h => h) (Or.inl ⟨by rfl, fun w hSw => by go_simp⟩) (hSN _ (by repeat (first | with_reducible exact New.refl _ | with_reducible assumption | with_reducible refine New.dr ?_ | with_reducible refine New.al ?_ _) : New w2 _)) ?_
      try simp only [Act.put, List.setIfInBounds_toArray, List.set_cons_zero, List.set_cons_succ]
      refine wpAnyT_take (i := 4) (oi := ⟨_, _, _, _, _, _⟩) (v := .slice (some ⟨g, o, none⟩) i c) rfl (by kernel_rfl) (by kernel_rfl) (by kernel_rfl) (by kernel_rfl) (fun _ _ _ h => h) (Or.inl ⟨by rfl, fun w hSw => by go_simp⟩) (hSN _ (by repeat (first | with_reducible exact New.refl _ | with_reducible assumption | with_reducible refine New.dr ?_ | with_reducible refine New.al ?_ _) : New w2 _)) ?_
      try simp only [Act.put, List.setIfInBounds_toArray, List.set_cons_zero, List.set_cons_succ]
      refine wpAnyT_take (i := 6) (oi := ⟨_, _, _, _, _, _⟩) (v := .pointer (some ⟨bx, 4, none⟩)) rfl (by kernel_rfl) (by kernel_rfl) (by kernel_rfl) (by kernel_rfl) (fun _ _ _ h => h) (Or.inl ⟨by rfl, fun w hSw => by go_simp⟩) (hSN _ (by repeat (first | with_reducible exact New.refl _ | with_reducible assumption | with_reducible refine New.dr ?_ | with_reducible refine New.al ?_ _) : New w2 _)) ?_
      try simp only [Act.put, List.setIfInBounds_toArray, List.set_cons_zero, List.set_cons_succ]
      refine wpAnyT_take (i := 7) (oi := ⟨_, _, _, _, _, _⟩) (v := .slice (some ⟨g, o, none⟩) n c) rfl (by kernel_rfl) (by kernel_rfl) (by kernel_rfl) (by kernel_rfl) (fun _ _ _ h => h) (Or.inl ⟨by rfl, fun w hSw => by go_simp⟩) (hSN _ (by repeat (first | with_reducible exact New.refl _ | with_reducible assumption | with_reducible refine New.dr ?_ | with_reducible refine New.al ?_ _) : New w2 _)) ?_
      try simp only [Act.put, List.setIfInBounds_toArray, List.set_cons_zero, List.set_cons_succ]
      refine wpAnyT_take (i := 8) (oi := ⟨_, _, _, _, _, _⟩) (v := .int .i64 i) rfl (by kernel_rfl) (by kernel_rfl) (by kernel_rfl) (by kernel_rfl) (fun _ _ _ h => h) (Or.inl ⟨by rfl, fun w hSw => by go_simp⟩) (hSN _ (by repeat (first | with_reducible exact New.refl _ | with_reducible assumption | with_reducible refine New.dr ?_ | with_reducible refine New.al ?_ _) : New w2 _)) ?_
      try simp only [Act.put, List.setIfInBounds_toArray, List.set_cons_zero, List.set_cons_succ]
      refine wpAnyT_take (i := 9) (oi := ⟨_, _, _, _, _, _⟩) (v := .int .i64 ((i : Int) + 1)) rfl (by kernel_rfl) (by kernel_rfl) (by kernel_rfl) (by kernel_rfl) (fun _ _ _ h => h) (Or.inl ⟨by rfl, fun w hSw => by have hq := HWR.out; go_simp⟩) (hSN _ (by repeat (first | with_reducible exact New.refl _ | with_reducible assumption | with_reducible refine New.dr ?_ | with_reducible refine New.al ?_ _) : New w2 _)) ?_
      try simp only [Act.put, List.setIfInBounds_toArray, List.set_cons_zero, List.set_cons_succ]
      refine wpAnyT_take (i := 10) (oi := ⟨_, _, _, _, _, _⟩) (v := (.slice X10 (n - (i + 1)) (c - (i + 1)))) rfl (by kernel_rfl) (by kernel_rfl) (by kernel_rfl) (by kernel_rfl) (fun _ _ _ h => h) (Or.inl ⟨by rfl, fun w hSw => by have hq := HX10.out; have hq9 := HC9.out; go_simp⟩) (hSN _ (by repeat (first | with_reducible exact New.refl _ | with_reducible assumption | with_reducible refine New.dr ?_ | with_reducible refine New.al ?_ _) : New w2 _)) ?_
      try simp only [Act.put, List.setIfInBounds_toArray, List.set_cons_zero, List.set_cons_succ]
      refine wpAnyT_ready (rs := [0]) (by kernel_rfl) (by simp) (AllT.cons (i := 0) (o := ⟨_, _, _, _, _, _⟩) rfl (fun K hK => ?_) AllT.nil)
      refine step_bs0 elQ (by rfl) rfl ?_
      intro g0 w3 hB0 hN0' hl0
      have hN3 : New w2 w3 := New.tr ((by repeat (first | with_reducible exact New.refl _ | with_reducible assumption | with_reducible refine New.dr ?_ | with_reducible refine New.al ?_ _) : New w2 _)) hN0'
      have hl0' : w2.heap.size ≤ g0 := hl0
      try simp only [Act.put, List.setIfInBounds_toArray, List.set_cons_zero, List.set_cons_succ]
      refine hK.out _ _ (fun _ => hSN _ (by repeat (first | with_reducible exact New.refl _ | with_reducible assumption | with_reducible refine New.dr ?_ | with_reducible refine New.al ?_ _) : New w2 _)) ?_
      refine wpAnyT_ready (rs := [5]) (by kernel_rfl) (by simp) (AllT.cons (i := 5) (o := ⟨_, _, _, _, _, _⟩) rfl (fun K hK => ?_) AllT.nil)
      refine step_app elQ _ (by rfl) (.tmp 13) (.tmp 17) (by rfl) w2.heap.size (.slice (some ⟨g0, 0, none⟩) 0 0) 0 [] (by rfl) (own_lit hB0 hl0') (some ⟨g, o, none⟩) i c ((flat L).take (i * 5)) (by rfl) ((by repeat (first | with_reducible exact New.refl _ | with_reducible assumption | with_reducible refine New.dr ?_ | with_reducible refine New.al ?_ _) : New w2 _).rd HT1.out) (fun u hu => HLc.out u (List.mem_of_mem_take hu)) (by unfold maxLen; omega) (by omega) ((by repeat (first | with_reducible exact New.refl _ | with_reducible assumption | with_reducible refine New.dr ?_ | with_reducible refine New.al ?_ _) : New w2 _).size) ?_
      intro A3 d3 w4 hO3 hF3 hA3
      have hN4 : New w2 w4 := (by repeat (first | with_reducible exact New.refl _ | with_reducible assumption | with_reducible refine New.dr ?_ | with_reducible refine New.al ?_ _) : New w2 _).fr hF3 (by intro k hk; simp [Value.ownBlock] at hk; omega)
      rw [Nat.zero_add, List.nil_append] at hO3
      rw [Nat.zero_add]
      try simp only [Act.put, List.setIfInBounds_toArray, List.set_cons_zero, List.set_cons_succ]
      refine hK.out _ _ (fun _ => hSN _ (by repeat (first | with_reducible exact New.refl _ | with_reducible assumption | with_reducible refine New.dr ?_ | with_reducible refine New.al ?_ _) : New w2 _)) ?_
      refine wpAnyT_ready (rs := [11]) (by kernel_rfl) (by simp) (AllT.cons (i := 11) (o := ⟨_, _, _, _, _, _⟩) rfl (fun K hK => ?_) AllT.nil)
      refine step_app elQ _ (by rfl) (.tmp 18) (.tmp 23) (by rfl) w2.heap.size (.slice A3 i d3) i ((flat L).take (i * 5)) (by rfl) hO3 X10 (n - (i + 1)) (c - (i + 1)) ((flat L).drop ((i + 1) * 5)) (by rfl) ((by repeat (first | with_reducible exact New.refl _ | with_reducible assumption | with_reducible refine New.dr ?_ | with_reducible refine New.al ?_ _) : New w2 _).rd HT2.out) (fun u hu => HLc.out u (List.mem_of_mem_drop hu)) (by unfold maxLen; omega) (by omega) ((by repeat (first | with_reducible exact New.refl _ | with_reducible assumption | with_reducible refine New.dr ?_ | with_reducible refine New.al ?_ _) : New w2 _).size) ?_
      intro A4 d4 w5 hO4 hF4 hA4
      have hN5 : New w2 w5 := (by repeat (first | with_reducible exact New.refl _ | with_reducible assumption | with_reducible refine New.dr ?_ | with_reducible refine New.al ?_ _) : New w2 _).fr hF4 (fun k hk => (own_lt hO3 k hk).1)
      have e1 : i + (n - (i + 1)) = n - 1 := by omega
      rw [e1, HDL.out] at hO4
      rw [e1]
      try simp only [Act.put, List.setIfInBounds_toArray, List.set_cons_zero, List.set_cons_succ]
      refine hK.out _ _ (fun _ => hSN _ (by repeat (first | with_reducible exact New.refl _ | with_reducible assumption | with_reducible refine New.dr ?_ | with_reducible refine New.al ?_ _) : New w2 _)) ?_
      refine wpAnyT_take (i := 12) (oi := ⟨_, _, _, _, _, _⟩) (v := .pointer (some ⟨bx, 4, none⟩)) rfl (by kernel_rfl) (by kernel_rfl) (by kernel_rfl) (by kernel_rfl) (fun _ _ _ h => h) (Or.inl ⟨by rfl, fun w hSw => by go_simp⟩) (hSN _ (by repeat (first | with_reducible exact New.refl _ | with_reducible assumption | with_reducible refine New.dr ?_ | with_reducible refine New.al ?_ _) : New w2 _)) ?_
      try simp only [Act.put, List.setIfInBounds_toArray, List.set_cons_zero, List.set_cons_succ]
      refine wpAnyT_ready (rs := [13]) (by kernel_rfl) (by simp) (AllT.cons (i := 13) (o := ⟨_, _, _, _, _, _⟩) rfl (fun K hK => ?_) AllT.nil)
      have hB5 := hN5.blk HBX2.out
      have m4 := hB5.cell 4
      have q4 := hB5.frozen 4
      have HO4 := Lib.hid hO4
      have HN5 := Lib.hid hN5
      have HB5 := Lib.hid hB5
      clear hO4 hA4 hF4 hB5
      go_simp
      try simp only [Act.put, List.setIfInBounds_toArray, List.set_cons_zero, List.set_cons_succ]
      refine hK.out _ _ (fun h => absurd rfl h) ?_
      refine wpAnyT_done (by kernel_rfl) ?_ _
      try go_wp2_with fail
      go_meet
      refine ⟨rfl, A4, d4, Lib.hid ⟨?_, ?_, ?_, ?_⟩⟩
      · have := HB5.out.set 4 (.slice A4 (n - 1) d4); simpa using this
      · exact (HN5.out.blk HBZ2.out).far (p := ⟨bx, 4, none⟩) (fun e => hxz e.symm) _
      · exact own_fr HO4.out ((Fr.refl (fun k => k = bx) w5).setCell (p := ⟨bx, 4, none⟩) (fun _ => rfl) _) (fun k hk e => by have := (own_lt HO4.out k hk).1; have := HNbx.out; omega)
      · exact (HNw2.out.tr HN5.out).set (p := ⟨bx, 4, none⟩) hx1 _
  case rest =>
    obtain ⟨rfl, A4, d4, HI⟩ := hcut
    have HBX := Lib.hid HI.out.1
    have HBZ := Lib.hid HI.out.2.1
    go_wp2_with (first | ((with_reducible refine atOpS ⟨some 26, .load _ _, _, _, _, _⟩ ?_); refine row_load rowT rfl (.tmp 2) rfl rfl HBX.out rfl ?_) | ((with_reducible refine atOpS ⟨none, .store 48 _ _, _, _, _, _⟩ ?_); refine row_store rowT rfl (.tmp 4) (.tmp 26) rfl rfl rfl HBZ.out rfl rfl (RT.one ⟨_, _, _, _, _, _, _⟩) ?_; intro wz hBz hFz; have z0 := hBz.cell 0; have z1 := hBz.cell 1; have z2 := hBz.cell 2; have z3 := hBz.cell 3; have z4 := hBz.cell 4; have HFz := Lib.hid hFz; clear hBz hFz))
    refine bodyPost_ret (v := .tuple #[.agg #[.int .i64 lt, .int .i64 mt, .int .i64 lm, .float .f64 mean, .slice A4 (n - 1) d4], .bool true]) (by simp [results, Try.results21, go_sem, z0, z1, z2, z3, z4]) rfl ⟨⟨A4, d4, rfl, ?_⟩, ?_⟩
    · have hO := HI.out.2.2.1
      obtain ⟨A', c', hv, hnc', -, -, -⟩ := own_shape hO
      injection hv with _ _ hv
      refine ⟨RdT.own (own_fr hO HFz.out (fun k hk e => by have := (own_lt hO k hk).1; have := HBZ2.out.lt; omega)) rfl, ?_, by show n - 1 ≤ 1000; omega, by show n - 1 ≤ d4; omega⟩
      show (L.eraseIdx i).length = n - 1
      rw [List.length_eraseIdx_of_lt (by have := HLE.out; omega), HLE.out]
    · exact HI.out.2.2.2.fr HFz.out (fun k hk => by omega)
end Go.Proofs.Ytbgjoohnognagaa
