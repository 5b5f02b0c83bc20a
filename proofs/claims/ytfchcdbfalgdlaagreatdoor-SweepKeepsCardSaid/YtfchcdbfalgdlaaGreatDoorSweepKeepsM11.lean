/- Texts of one proof, one behind the other: LgC. No condition but each one's own. -/
import Derived.Test.YtfchcdbfalgdlaaGreatDoorSweepKeepsM9
import Derived.Test.YtfchcdbfalgdlaaGreatDoorSweepKeepsM10
namespace Go.Proofs.YtfchcdbfalgdlaaGreatDoor
set_option linter.unusedVariables false
set_option linter.unusedSimpArgs false
set_option linter.constructorNameAsVariable false
open Go.RowKit Go.Sort
theorem raw_of {xs : List Int} {k : Nat} (h : k ≤ xs.length) : (Rs.mk xs 0).raw k = (xs.take k, ⟨xs.drop k, 0⟩) := by
 have hl : (Rs.mk xs 0).left = xs.length := if_pos rfl
 unfold Rs.raw
 rw [hl, if_neg (by omega)]
theorem num_of {xs : List Int} {k : Nat} (h : k ≤ xs.length) : (Rs.mk xs 0).num k = (valL (xs.take k), ⟨xs.drop k, 0⟩) := by
 unfold Rs.num
 rw [raw_of h]
structure PartOk (s : List Int) (gen place kind : Nat) : Prop where
 g : valL (s.take 4) = gen
 p : valL ((s.drop 4).take 4) = place
 k : valL ((s.drop 8).take 1) = kind
def PartSays (r : Option (List Int)) (B : Nat) (e : Ending) (w' : World) : Prop :=
 match r with
 | none => e = .returned (.tuple #[.slice none 0 0, .bool false])
 | some f => ∃ A c, e = .returned (.tuple #[.slice A f.length c, .bool true]) ∧ w'.ownsRow B 5 1 (.slice A f.length c) f.length (u8s f)
theorem part_far {w : World} {gl gd n : Nat} {l : LG} (h : Lg w gl gd l n) (place kind : Nat) (hp : l.size ≤ place) (hn : n ≤ 16384) :
    Calls Tryz.prog 142 #[.pointer (some ⟨gl, 0, none⟩), .int .i64 place, .int .i64 kind] w fun e w' => PartSays none w.heap.size e w' ∧ w = w' := by
 have c2 := h.c2
 have hp' : (l.size : Int) ≤ (place : Int) := by omega
 clear h
 go_enter Tryz.func142, Tryz.ntmps142
 go_wp2_with fail
 go_ret2
 exact ⟨rfl, rfl⟩
set_option maxHeartbeats 4000000 in
set_option maxRecDepth 100000 in
theorem part_in {w : World} {gl gd base bs bf : Nat} {v : Value} {p : DP} {l : LG} (h : Lg w gl gd l p.size) (hD : Dk w base gd bs bf v p) (place kind : Nat) (hp : place < l.size) (hk : kind ≤ 2) (s : List Int) (hs : s = p.rget ((l.first + place : Nat) : Int)) :
    Calls Tryz.prog 142 #[.pointer (some ⟨gl, 0, none⟩), .int .i64 place, .int .i64 kind] w fun e w' => (PartOk s l.gen place kind → PartSays (some (s.drop 9)) w.heap.size e w') ∧ (¬ PartOk s l.gen place kind → PartSays none w.heap.size e w') ∧ New w w' := by
 have HLG := Lib.hid h
 have HD := Lib.hid hD
 have hsz := hD.ok.s2
 have hfit := h.ok.fit
 have hgen := h.ok.gen
 have HS : Hid (SecOk s) := Lib.hid (by rw [hs]; exact hD.ok.rget _)
 obtain ⟨a, ha⟩ : ∃ a, a = l.first + place := ⟨_, rfl⟩
 have e1 : (l.first : Int) + (place : Int) = (a : Int) := by omega
 have e2 : IntKind.i64.wrap (a : Int) = (a : Int) := IntWalk.i64_in _ (by omega)
 have HRC : Hid (p.rcode (a : Int) = 0) := Lib.hid (by unfold DP.rcode DP.within; rw [decide_eq_true (by omega), if_pos rfl])
 have HRG : Hid (p.rget (a : Int) = s) := Lib.hid (by rw [hs, ha])
 obtain ⟨fs, hfs⟩ : ∃ fs, fs = l.first := ⟨_, rfl⟩
 obtain ⟨sz, hsz2⟩ : ∃ sz, sz = l.size := ⟨_, rfl⟩
 obtain ⟨gen, hgn⟩ : ∃ gen, gen = l.gen := ⟨_, rfl⟩
 have c0 := h.c0
 have c1 := h.c1
 have c2 := h.c2
 have c3 := h.c3
 rw [← hfs] at c1 e1
 have hsz3 : sz ≤ 16384 := by omega
 rw [← hsz2] at c2 hp
 rw [← hgn] at c3 hgen ⊢
 have q0 : ∀ p : HW (New w), p.w.cell? ⟨gl, 0, none⟩ = some (.pointer (some ⟨gd, 0, none⟩)) := fun p => p.h.cell_ c0
 have q1 : ∀ p : HW (New w), p.w.cell? ⟨gl, 1, none⟩ = some (.int .i64 fs) := fun p => p.h.cell_ c1
 have HC3 := Lib.hid c3
 have hszA : (secA s).size = 64 := by rw [secA_size, HS.out.1]
 have HSZ := Lib.hid hszA
 clear hszA h hD hs ha hfs hsz2 hgn c0 c1 c3 hfit
 have hpl : (place : Int) < (sz : Int) := by omega
 go_enter Tryz.func142, Tryz.ntmps142
 go_wp2_with fail
 apply wp_join (α := Nat) (fun b w3 => New w w3 ∧ Blk w3 b 68 (secA s))
 case h1 =>
  intro K' hK'
  refine wp_region_tree (New w) (.take 0 (.take 1 (.take 2 (.take 3 (.take 4 (.take 5 (.take 6 (.take 7 (.take 8 (.take 9 (.two 10 (.take 11 (.take 12 (.take 13 (.act 14 (.act 15 (.take 16 .done)))))) 14 (.act 10 (.take 11 (.take 12 (.take 13 (.act 15 (.take 16 .done))))))))))))))))) (by kernel_rfl) (by kernel_rfl) (New.dr (New.refl w)) (fun hne => ?_)
  iterate 10 (refine tree_take (o := ⟨_, _, _, _, _, _⟩) rfl (fun K hK => ?_); go_simp; refine hK _ ?_; clear hK K)
  refine ⟨?_, ?_⟩
  · refine act_ok (o := ⟨_, _, _, _, _, _⟩) rfl (fun K hK => ?_) (.inl rfl)
    go_simp
    refine (read_all (HD.out.new (New.dr (New.refl w))) (a : Int)).mono ?_
    rintro e w1 ⟨rfl, hN1⟩
    rw [HRG.out, HRC.out, errD_0]
    have HN1 : Hid (New w w1) := Lib.hid (New.tr (New.dr (New.refl w)) hN1)
    clear hN1
    go_simp
    refine hK.out _ _ HN1.out ?_
    clear hK K
    iterate 3 (refine tree_take (o := ⟨_, _, _, _, _, _⟩) rfl (fun K hK => ?_); go_simp; refine hK _ ?_; clear hK K)
    refine act_alloc (o := ⟨_, _, _, _, _, _⟩) rfl rfl rfl secInfo ?_
    intro b8 w2 hb8 hB2 hN2
    have HL2 : Hid (w.heap.size ≤ b8) := Lib.hid (by have := HN1.out.size; omega)
    refine ⟨HN1.out.tr hN2, ?_⟩
    clear hb8
    simp only [Act.put, List.setIfInBounds_toArray, List.set_cons_zero, List.set_cons_succ]
    refine act_store (o := ⟨_, _, _, _, _, _⟩) (cs := secA s) rfl rfl (.tmp 8) (.tmp 29) rfl (by rw [HSZ.out]; rfl) rfl rfl hB2 (by rw [HSZ.out]; rfl) (secA_one _) ?_
    intro w3 hB3 hF3
    have hN3 : New w w3 := (HN1.out.tr hN2).fr hF3 (fun k hk => by have := HL2.out; omega)
    refine ⟨hN3, ?_⟩
    simp only [Act.put, List.setIfInBounds_toArray, List.set_cons_zero, List.set_cons_succ]
    refine tree_take (o := ⟨_, _, _, _, _, _⟩) rfl (fun K hK => ?_); go_simp; refine hK _ ?_; clear hK K
    refine tree_done ?_
    exact hK'.out b8 w3 ⟨hN3, hB3⟩
  · refine act_alloc (o := ⟨_, _, _, _, _, _⟩) rfl rfl rfl secInfo ?_
    intro b8 w2 hb8 hB2 hN2
    have HN2 : Hid (New w w2) := Lib.hid ((New.dr (New.refl w)).tr hN2)
    have HB2 := Lib.hid hB2
    have HL2 : Hid (w.heap.size ≤ b8) := Lib.hid (by rw [hb8]; exact Nat.le_refl _)
    refine ⟨HN2.out, ?_⟩
    clear hb8 hB2 hN2
    simp only [Act.put, List.setIfInBounds_toArray, List.set_cons_zero, List.set_cons_succ]
    refine tree_act (o := ⟨_, _, _, _, _, _⟩) rfl (fun K hK => ?_) (.inl rfl)
    go_simp
    refine (read_all (HD.out.new HN2.out) (a : Int)).mono ?_
    rintro e w1 ⟨rfl, hN1⟩
    rw [HRG.out, HRC.out, errD_0]
    have HB1 := Lib.hid (hN1.blk HB2.out)
    have HN1 : Hid (New w w1) := Lib.hid (HN2.out.tr hN1)
    clear hN1
    go_simp
    refine hK.out _ _ HN1.out ?_
    clear hK K
    iterate 3 (refine tree_take (o := ⟨_, _, _, _, _, _⟩) rfl (fun K hK => ?_); go_simp; refine hK _ ?_; clear hK K)
    refine act_store (o := ⟨_, _, _, _, _, _⟩) (cs := secA s) rfl rfl (.tmp 8) (.tmp 29) rfl (by rw [HSZ.out]; rfl) rfl rfl HB1.out (by rw [HSZ.out]; rfl) (secA_one _) ?_
    intro w3 hB3 hF3
    have hN3 : New w w3 := HN1.out.fr hF3 (fun k hk => by have := HL2.out; omega)
    refine ⟨hN3, ?_⟩
    simp only [Act.put, List.setIfInBounds_toArray, List.set_cons_zero, List.set_cons_succ]
    refine tree_take (o := ⟨_, _, _, _, _, _⟩) rfl (fun K hK => ?_); go_simp; refine hK _ ?_; clear hK K
    refine tree_done ?_
    exact hK'.out b8 w3 ⟨hN3, hB3⟩
 case h2 =>
  rintro b8 w3 ⟨hN3, hB3⟩
  have HN3 := Lib.hid hN3
  have HB3 := Lib.hid hB3
  clear hN3 hB3 q0 q1 e1 e2 c2
  go_wp2_with fail
  have hR3 : Rd (fun _ => True) w3 1 (some ⟨b8, 0, none⟩) 64 (u8s s) := by
   have h := Rd.ofBlk (p := fun _ => True) HB3.out 1 64 (by rw [HSZ.out]) trivial
   rwa [secA_list] at h
  refine (from_any (some ⟨b8, 0, none⟩) 64 64 s w3 hR3 HS.out.2 (by omega)).mono ?_
  rintro e w4 ⟨r, rfl, hRI, hN4, hr⟩
  have HRI := Lib.hid hRI
  have HN4 : Hid (New w w4) := Lib.hid (HN3.out.tr hN4)
  have HRL : Hid (w.heap.size ≤ r) := Lib.hid (by have := HN3.out.size; omega)
  have HGL : Hid (gl ≠ r) := Lib.hid (by have := HLG.out.blk.lt; have := HRL.out; omega)
  clear hR3 hRI hN4 hr
  have HC4 : Hid (w4.cell? ⟨gl, 3, none⟩ = some (.int .u32 gen)) := Lib.hid (HN4.out.cell_ HC3.out)
  have HL64 : Hid (s.length = 64) := Lib.hid HS.out.1
  have q3 : ∀ p : HW (CellIs ⟨gl, 3, none⟩ (.int .u32 gen)), p.w.cell? ⟨gl, 3, none⟩ = some (.int .u32 gen) := CellIs.all _ _
  have x1 := num_of (xs := s) (k := 4) (by rw [HL64.out]; decide)
  have x2 := num_of (xs := s.drop 4) (k := 4) (by rw [List.length_drop, HL64.out]; decide)
  have x3 := num_of (xs := s.drop 8) (k := 1) (by rw [List.length_drop, HL64.out]; decide)
  have X1 := Lib.hid x1
  have X2 : Hid ((Rs.mk (s.drop 4) 0).num 4 = (valL ((s.drop 4).take 4), ⟨s.drop 8, 0⟩)) := Lib.hid (by rw [x2, List.drop_drop])
  have X3 : Hid ((Rs.mk (s.drop 8) 0).num 1 = (valL ((s.drop 8).take 1), ⟨s.drop 9, 0⟩)) := Lib.hid (by rw [x3, List.drop_drop])
  have hb1 : valL (s.take 4) < 18446744073709551616 := by
   have := valL_lt (xs := s.take 4) (fun x hx => HS.out.2 x (List.mem_of_mem_take hx))
   rw [List.length_take, HL64.out] at this
   exact Nat.lt_of_lt_of_le this (by decide)
  clear x1 x2 x3
  obtain ⟨v1, hv1⟩ : ∃ v1, v1 = valL (s.take 4) := ⟨_, rfl⟩
  obtain ⟨v2, hv2⟩ : ∃ v2, v2 = valL ((s.drop 4).take 4) := ⟨_, rfl⟩
  obtain ⟨v3, hv3⟩ : ∃ v3, v3 = valL ((s.drop 8).take 1) := ⟨_, rfl⟩
  have HV : Hid (v1 = valL (s.take 4) ∧ v2 = valL ((s.drop 4).take 4) ∧ v3 = valL ((s.drop 8).take 1)) := Lib.hid ⟨hv1, hv2, hv3⟩
  rw [← hv1] at X1 hb1
  rw [← hv2] at X2
  rw [← hv3] at X3
  clear hv1 hv2 hv3 hb1
  have k1 : IntKind.u64.wrap (place : Int) = (place : Int) := by rw [IntKind.wrap_u64]; omega
  have kg : IntKind.u64.wrap (gen : Int) = (gen : Int) := by rw [IntKind.wrap_u64]; omega
  have k2 : IntKind.u64.wrap (kind : Int) = (kind : Int) := by rw [IntKind.wrap_u64]; omega
  have hgen2 : (gen : Int) < 4294967296 := by omega
  have hsc : s.length = 64 := HL64.out
  by_cases t1 : v1 = gen
  · have d1 : (v1 : Int) = (gen : Int) := by omega
    by_cases t2 : v2 = place
    · have d2 : (v2 : Int) = (place : Int) := by omega
      by_cases t3 : v3 = kind
      · have d3 : (v3 : Int) = (kind : Int) := by omega
        have x9 := raw_of (xs := s.drop 9) (k := 55) (by rw [List.length_drop, HL64.out]; decide)
        have h55 : (s.drop 9).length = 55 := by rw [List.length_drop, HL64.out]
        have e55 : (s.drop 9).take 55 = s.drop 9 := List.take_of_length_le (by rw [h55]; exact Nat.le_refl _)
        have f55 : (s.drop 9).drop 55 = [] := List.drop_of_length_le (by rw [h55]; exact Nat.le_refl _)
        have X9 : Hid ((Rs.mk (s.drop 9) 0).raw 55 = (s.drop 9, ⟨[], 0⟩)) := Lib.hid (by rw [x9, e55, f55])
        have H55 := Lib.hid h55
        clear h55 e55 f55
        clear x9
        go_wp2_with fail
        refine wp_region_mixH (CellIs ⟨gl, 3, none⟩ (.int .u32 gen)) [(true, 0), (true, 2), (true, 3), (true, 4), (true, 5), (true, 6), (false, 1), (true, 7), (true, 8), (true, 9), (true, 11), (true, 12), (false, 10), (true, 13), (true, 14), (true, 15), (true, 16), (true, 18), (true, 19), (false, 17), (true, 20), (true, 21)] (by kernel_rfl) (by kernel_rfl) ((New.dr (New.refl _)).cell_ HC4.out) (fun hne => ?_)
        iterate 6 (refine mix_take (o := ⟨_, _, _, _, _, _⟩) rfl (fun K hK => ?_); go_simp; refine hK _ ?_; clear hK K)
        refine mix_act (o := ⟨_, _, _, _, _, _⟩) rfl (fun K hK => ?_) (.inl rfl)
        go_simp
        refine (rnum_any (HRI.out.new (New.dr (New.refl _))) 4 (by omega)).mono ?_
        rintro e w5 ⟨rfl, hRI1, hF1⟩
        rw [X1.out] at hRI1 ⊢
        have HC5 : Hid (w5.cell? ⟨gl, 3, none⟩ = some (.int .u32 gen)) := Lib.hid (hF1.cell_some ((New.dr (New.refl w4)).cell_ HC4.out) HGL.out)
        have HN5 : Hid (New w w5) := Lib.hid ((New.dr HN4.out).fr hF1 (fun k hk => by have := HRL.out; omega))
        have HRI1 := Lib.hid hRI1
        clear hRI1 hF1
        go_simp
        refine hK.out _ _ (fun _ => HC5.out) ?_
        clear hK K
        iterate 5 (refine mix_take (o := ⟨_, _, _, _, _, _⟩) rfl (fun K hK => ?_); go_simp; refine hK _ ?_; clear hK K)
        refine mix_act (o := ⟨_, _, _, _, _, _⟩) rfl (fun K hK => ?_) (.inl rfl)
        go_simp
        refine (rnum_any HRI1.out 4 (by omega)).mono ?_
        rintro e w6 ⟨rfl, hRI2, hF2⟩
        rw [X2.out] at hRI2 ⊢
        have HC6 : Hid (w6.cell? ⟨gl, 3, none⟩ = some (.int .u32 gen)) := Lib.hid (hF2.cell_some HC5.out HGL.out)
        have HN6 : Hid (New w w6) := Lib.hid (HN5.out.fr hF2 (fun k hk => by have := HRL.out; omega))
        have HRI2 := Lib.hid hRI2
        clear hRI2 hF2
        go_simp
        refine hK.out _ _ (fun _ => HC6.out) ?_
        clear hK K
        iterate 6 (refine mix_take (o := ⟨_, _, _, _, _, _⟩) rfl (fun K hK => ?_); go_simp; refine hK _ ?_; clear hK K)
        refine mix_act (o := ⟨_, _, _, _, _, _⟩) rfl (fun K hK => ?_) (.inl rfl)
        go_simp
        refine (rnum_any HRI2.out 1 (by omega)).mono ?_
        rintro e w7 ⟨rfl, hRI3, hF3⟩
        rw [X3.out] at hRI3 ⊢
        have HC7 : Hid (w7.cell? ⟨gl, 3, none⟩ = some (.int .u32 gen)) := Lib.hid (hF3.cell_some HC6.out HGL.out)
        have HN7 : Hid (New w w7) := Lib.hid (HN6.out.fr hF3 (fun k hk => by have := HRL.out; omega))
        have HRI3 := Lib.hid hRI3
        clear hRI3 hF3
        go_simp
        refine hK.out _ _ (fun _ => HC7.out) ?_
        clear hK K
        iterate 2 (refine mix_take (o := ⟨_, _, _, _, _, _⟩) rfl (fun K hK => ?_); go_simp; refine hK _ ?_; clear hK K)
        refine mix_done ?_
        go_wp2_with fail
        refine (rraw_any HRI3.out 55 (by omega)).mono ?_
        rintro e w8 ⟨⟨A, c, rfl, hO⟩, -, hF8⟩
        rw [X9.out] at hO ⊢
        dsimp only at hO ⊢
        rw [H55.out] at hO ⊢
        have HO := Lib.hid hO
        have HN8 : Hid (New w w8) := Lib.hid (HN7.out.fr hF8 (fun k hk => by have := HRL.out; omega))
        clear hO hF8
        go_wp2_with fail
        go_ret2
        exact ⟨fun _ => ⟨A, c, by rw [H55.out]; rfl, by rw [H55.out]; exact own_base HO.out (fun k hk => by have := (own_lt HO.out k hk).1; have := HN7.out.size; omega)⟩, fun h => absurd ⟨by have := HV.out; omega, by have := HV.out; omega, by have := HV.out; omega⟩ h, HN8.out⟩
      · have d3 : ¬ ((v3 : Int) = (kind : Int)) := by omega
        go_wp2_with fail
        refine wp_region_mixH (CellIs ⟨gl, 3, none⟩ (.int .u32 gen)) [(true, 0), (true, 2), (true, 3), (true, 4), (true, 5), (true, 6), (false, 1), (true, 7), (true, 8), (true, 9), (true, 11), (true, 12), (false, 10), (true, 13), (true, 14), (true, 15), (true, 16), (true, 18), (true, 19), (false, 17), (true, 20), (true, 21)] (by kernel_rfl) (by kernel_rfl) ((New.dr (New.refl _)).cell_ HC4.out) (fun hne => ?_)
        iterate 6 (refine mix_take (o := ⟨_, _, _, _, _, _⟩) rfl (fun K hK => ?_); go_simp; refine hK _ ?_; clear hK K)
        refine mix_act (o := ⟨_, _, _, _, _, _⟩) rfl (fun K hK => ?_) (.inl rfl)
        go_simp
        refine (rnum_any (HRI.out.new (New.dr (New.refl _))) 4 (by omega)).mono ?_
        rintro e w5 ⟨rfl, hRI1, hF1⟩
        rw [X1.out] at hRI1 ⊢
        have HC5 : Hid (w5.cell? ⟨gl, 3, none⟩ = some (.int .u32 gen)) := Lib.hid (hF1.cell_some ((New.dr (New.refl w4)).cell_ HC4.out) HGL.out)
        have HN5 : Hid (New w w5) := Lib.hid ((New.dr HN4.out).fr hF1 (fun k hk => by have := HRL.out; omega))
        have HRI1 := Lib.hid hRI1
        clear hRI1 hF1
        go_simp
        refine hK.out _ _ (fun _ => HC5.out) ?_
        clear hK K
        iterate 5 (refine mix_take (o := ⟨_, _, _, _, _, _⟩) rfl (fun K hK => ?_); go_simp; refine hK _ ?_; clear hK K)
        refine mix_act (o := ⟨_, _, _, _, _, _⟩) rfl (fun K hK => ?_) (.inl rfl)
        go_simp
        refine (rnum_any HRI1.out 4 (by omega)).mono ?_
        rintro e w6 ⟨rfl, hRI2, hF2⟩
        rw [X2.out] at hRI2 ⊢
        have HC6 : Hid (w6.cell? ⟨gl, 3, none⟩ = some (.int .u32 gen)) := Lib.hid (hF2.cell_some HC5.out HGL.out)
        have HN6 : Hid (New w w6) := Lib.hid (HN5.out.fr hF2 (fun k hk => by have := HRL.out; omega))
        have HRI2 := Lib.hid hRI2
        clear hRI2 hF2
        go_simp
        refine hK.out _ _ (fun _ => HC6.out) ?_
        clear hK K
        iterate 6 (refine mix_take (o := ⟨_, _, _, _, _, _⟩) rfl (fun K hK => ?_); go_simp; refine hK _ ?_; clear hK K)
        refine mix_act (o := ⟨_, _, _, _, _, _⟩) rfl (fun K hK => ?_) (.inl rfl)
        go_simp
        refine (rnum_any HRI2.out 1 (by omega)).mono ?_
        rintro e w7 ⟨rfl, hRI3, hF3⟩
        rw [X3.out] at hRI3 ⊢
        have HC7 : Hid (w7.cell? ⟨gl, 3, none⟩ = some (.int .u32 gen)) := Lib.hid (hF3.cell_some HC6.out HGL.out)
        have HN7 : Hid (New w w7) := Lib.hid (HN6.out.fr hF3 (fun k hk => by have := HRL.out; omega))
        have HRI3 := Lib.hid hRI3
        clear hRI3 hF3
        go_simp
        refine hK.out _ _ (fun _ => HC7.out) ?_
        clear hK K
        iterate 2 (refine mix_take (o := ⟨_, _, _, _, _, _⟩) rfl (fun K hK => ?_); go_simp; refine hK _ ?_; clear hK K)
        refine mix_done ?_
        have T3 := Lib.hid t3
        clear t1 t2 d1 d2 k1 k2 kg q3 hne hsc hgen2 hgen hpl t3
        go_wp2_with fail
        go_ret2
        exact ⟨fun h => absurd h (fun h => by have := HV.out; have := h.k; have := T3.out; omega), fun _ => rfl, HN7.out⟩
    · have d2 : ¬ ((v2 : Int) = (place : Int)) := by omega
      go_wp2_with fail
      refine wp_region_mixH (CellIs ⟨gl, 3, none⟩ (.int .u32 gen)) [(true, 0), (true, 2), (true, 3), (true, 4), (true, 5), (true, 6), (false, 1), (true, 7), (true, 8), (true, 9), (true, 11), (true, 12), (false, 10), (true, 13), (true, 14), (true, 15), (true, 16), (true, 18), (true, 19), (false, 17), (true, 20), (true, 21)] (by kernel_rfl) (by kernel_rfl) ((New.dr (New.refl _)).cell_ HC4.out) (fun hne => ?_)
      iterate 6 (refine mix_take (o := ⟨_, _, _, _, _, _⟩) rfl (fun K hK => ?_); go_simp; refine hK _ ?_; clear hK K)
      refine mix_act (o := ⟨_, _, _, _, _, _⟩) rfl (fun K hK => ?_) (.inl rfl)
      go_simp
      refine (rnum_any (HRI.out.new (New.dr (New.refl _))) 4 (by omega)).mono ?_
      rintro e w5 ⟨rfl, hRI1, hF1⟩
      rw [X1.out] at hRI1 ⊢
      have HC5 : Hid (w5.cell? ⟨gl, 3, none⟩ = some (.int .u32 gen)) := Lib.hid (hF1.cell_some ((New.dr (New.refl w4)).cell_ HC4.out) HGL.out)
      have HN5 : Hid (New w w5) := Lib.hid ((New.dr HN4.out).fr hF1 (fun k hk => by have := HRL.out; omega))
      have HRI1 := Lib.hid hRI1
      clear hRI1 hF1
      go_simp
      refine hK.out _ _ (fun _ => HC5.out) ?_
      clear hK K
      iterate 5 (refine mix_take (o := ⟨_, _, _, _, _, _⟩) rfl (fun K hK => ?_); go_simp; refine hK _ ?_; clear hK K)
      refine mix_act (o := ⟨_, _, _, _, _, _⟩) rfl (fun K hK => ?_) (.inl rfl)
      go_simp
      refine (rnum_any HRI1.out 4 (by omega)).mono ?_
      rintro e w6 ⟨rfl, hRI2, hF2⟩
      rw [X2.out] at hRI2 ⊢
      have HC6 : Hid (w6.cell? ⟨gl, 3, none⟩ = some (.int .u32 gen)) := Lib.hid (hF2.cell_some HC5.out HGL.out)
      have HN6 : Hid (New w w6) := Lib.hid (HN5.out.fr hF2 (fun k hk => by have := HRL.out; omega))
      have HRI2 := Lib.hid hRI2
      clear hRI2 hF2
      go_simp
      refine hK.out _ _ (fun _ => HC6.out) ?_
      clear hK K
      iterate 6 (refine mix_take (o := ⟨_, _, _, _, _, _⟩) rfl (fun K hK => ?_); go_simp; refine hK _ ?_; clear hK K)
      refine mix_act (o := ⟨_, _, _, _, _, _⟩) rfl (fun K hK => ?_) (.inr HC6.out)
      go_simp
      refine hK.out _ _ (fun _ => HC6.out) ?_
      clear hK K
      iterate 2 (refine mix_take (o := ⟨_, _, _, _, _, _⟩) rfl (fun K hK => ?_); go_simp; refine hK _ ?_; clear hK K)
      refine mix_done ?_
      go_wp2_with fail
      go_ret2
      exact ⟨fun h => absurd h (fun h => by have := HV.out; have := h.p; omega), fun _ => rfl, HN6.out⟩
  · have d1 : ¬ ((v1 : Int) = (gen : Int)) := by omega
    go_wp2_with fail
    refine wp_region_mixH (CellIs ⟨gl, 3, none⟩ (.int .u32 gen)) [(true, 0), (true, 2), (true, 3), (true, 4), (true, 5), (true, 6), (false, 1), (true, 7), (true, 8), (true, 9), (true, 11), (true, 12), (false, 10), (true, 13), (true, 14), (true, 15), (true, 16), (true, 18), (true, 19), (false, 17), (true, 20), (true, 21)] (by kernel_rfl) (by kernel_rfl) ((New.dr (New.refl _)).cell_ HC4.out) (fun hne => ?_)
    iterate 6 (refine mix_take (o := ⟨_, _, _, _, _, _⟩) rfl (fun K hK => ?_); go_simp; refine hK _ ?_; clear hK K)
    refine mix_act (o := ⟨_, _, _, _, _, _⟩) rfl (fun K hK => ?_) (.inl rfl)
    go_simp
    refine (rnum_any (HRI.out.new (New.dr (New.refl _))) 4 (by omega)).mono ?_
    rintro e w5 ⟨rfl, hRI1, hF1⟩
    rw [X1.out] at hRI1 ⊢
    have HC5 : Hid (w5.cell? ⟨gl, 3, none⟩ = some (.int .u32 gen)) := Lib.hid (hF1.cell_some ((New.dr (New.refl w4)).cell_ HC4.out) HGL.out)
    have HN5 : Hid (New w w5) := Lib.hid ((New.dr HN4.out).fr hF1 (fun k hk => by have := HRL.out; omega))
    have HRI1 := Lib.hid hRI1
    clear hRI1 hF1
    go_simp
    refine hK.out _ _ (fun _ => HC5.out) ?_
    clear hK K
    iterate 5 (refine mix_take (o := ⟨_, _, _, _, _, _⟩) rfl (fun K hK => ?_); go_simp; refine hK _ ?_; clear hK K)
    refine mix_act (o := ⟨_, _, _, _, _, _⟩) rfl (fun K hK => ?_) (.inr HC5.out)
    go_simp
    refine hK.out _ _ (fun _ => HC5.out) ?_
    clear hK K
    iterate 6 (refine mix_take (o := ⟨_, _, _, _, _, _⟩) rfl (fun K hK => ?_); go_simp; refine hK _ ?_; clear hK K)
    refine mix_act (o := ⟨_, _, _, _, _, _⟩) rfl (fun K hK => ?_) (.inr HC5.out)
    go_simp
    refine hK.out _ _ (fun _ => HC5.out) ?_
    clear hK K
    iterate 2 (refine mix_take (o := ⟨_, _, _, _, _, _⟩) rfl (fun K hK => ?_); go_simp; refine hK _ ?_; clear hK K)
    refine mix_done ?_
    go_wp2_with fail
    go_ret2
    exact ⟨fun h => absurd h (fun h => by have := HV.out; have := h.g; omega), fun _ => rfl, HN5.out⟩
end Go.Proofs.YtfchcdbfalgdlaaGreatDoor
