/- Texts of one proof, one behind the other: LgC, SEq, LgD, LgE. No condition but each one's own. -/
import Derived.Test.YteeclfejgpgooaaDoorLogPlaysM13
import Derived.Test.YteeclfejgpgooaaDoorLogPlaysM12
import Derived.Test.YteeclfejgpgooaaDoorLogPlaysM4
import Derived.Test.YteeclfejgpgooaaDoorLogPlaysM3
import Derived.Deep.QuietTactic
import Derived.BigQuiet
import Derived.Lib.Hide
import Derived.Test.YteeclfejgpgooaaDoorLogPlaysM1
/- The part of a frame that a sector has. No condition. -/
namespace Go.Proofs.YteeclfejgpgooaaDoor
set_option linter.unusedVariables false
set_option linter.unusedSimpArgs false
set_option linter.constructorNameAsVariable false
open Go.RowKit Go.Sort

theorem raw_of {xs : List Int} {k : Nat} (h : k ≤ xs.length) : (Rs.mk xs 0).raw k = (xs.take k, ⟨xs.drop k, 0⟩) := by
  have hl : (Rs.mk xs 0).left = xs.length := if_pos rfl
  unfold Rs.raw
  rw [hl, if_neg (by omega)]
theorem num_of {xs : List Int} {k : Nat} (h : k ≤ xs.length) : (Rs.mk xs 0).num k = (valL (xs.take k), ⟨xs.drop k, 0⟩) := by
  unfold Rs.num
  rw [raw_of h]
/-- Has a sector a part of that kind, of that place? -/
structure PartOk (s : List Int) (gen place kind : Nat) : Prop where
  g : valL (s.take 4) = gen
  p : valL ((s.drop 4).take 4) = place
  k : valL ((s.drop 8).take 1) = kind
def PartSays (r : Option (List Int)) (B : Nat) (e : Ending) (w' : World) : Prop :=
  match r with
  | none => e = .returned (.tuple #[.slice none 0 0, .bool false])
  | some f => ∃ A c, e = .returned (.tuple #[.slice A f.length c, .bool true]) ∧ w'.ownsRow B 5 1 (.slice A f.length c) f.length (u8s f)
theorem part_far {w : World} {gl gd n : Nat} {l : LG} (h : Lg w gl gd l n) (place kind : Nat) (hp : l.size ≤ place) (hn : n ≤ 16384) :
    Calls Tryd.prog 55 #[.pointer (some ⟨gl, 0, none⟩), .int .i64 place, .int .i64 kind] w fun e w' => PartSays none w.heap.size e w' ∧ w = w' := by
  have c2 := h.c2
  have hp' : (l.size : Int) ≤ (place : Int) := by omega
  clear h
  go_enter Tryd.func55, Tryd.ntmps55
  go_wp2_with fail
  go_ret2
  exact ⟨rfl, rfl⟩
theorem nat_ne {a b : Nat} (h : a ≠ b) : (!decide (a = b)) = true := by simp [h]
set_option maxHeartbeats 4000000 in
set_option maxRecDepth 100000 in
theorem part_in {w : World} {gl gd base bs bf : Nat} {v : Value} {p : DP} {l : LG} (h : Lg w gl gd l p.size) (hD : Dk w base gd bs bf v p) (place kind : Nat) (hp : place < l.size) (hk : kind ≤ 2) (s : List Int) (hs : s = p.rget ((l.first + place : Nat) : Int)) :
    Calls Tryd.prog 55 #[.pointer (some ⟨gl, 0, none⟩), .int .i64 place, .int .i64 kind] w fun e w' => (PartOk s l.gen place kind → PartSays (some (s.drop 9)) w.heap.size e w') ∧ (¬ PartOk s l.gen place kind → PartSays none w.heap.size e w') ∧ New w w' := by
  have HLG := Lib.hid h
  have HD := Lib.hid hD
  have hsz := hD.ok.s2
  have hfit := h.ok.fit
  have hgen := h.ok.gen
  have HS : Hid (SecOk s) := Lib.hid (by rw [hs]; exact hD.ok.rget _)
  obtain ⟨a, ha⟩ : ∃ a, a = l.first + place := ⟨_, rfl⟩
  have e1 : (l.first : Int) + (place : Int) = (a : Int) := by omega
  have e2 : IntKind.i64.wrap (a : Int) = (a : Int) := IntWalk.i64_in _ (by omega)
  have HRC : Hid (p.rcode (a : Int) = 0) := Lib.hid (by unfold DP.rcode DP.within; rw [decide_eq_true (by omega), if_pos rfl])
  have HRG : Hid (p.rget (a : Int) = s) := Lib.hid (by rw [hs, ha])
  obtain ⟨fs, hfs⟩ : ∃ fs, fs = l.first := ⟨_, rfl⟩
  obtain ⟨sz, hsz2⟩ : ∃ sz, sz = l.size := ⟨_, rfl⟩
  obtain ⟨gen, hgn⟩ : ∃ gen, gen = l.gen := ⟨_, rfl⟩
  have c0 := h.c0
  have c1 := h.c1
  have c2 := h.c2
  have c3 := h.c3
  rw [← hfs] at c1 e1
  have hsz3 : sz ≤ 16384 := by omega
  rw [← hsz2] at c2 hp
  rw [← hgn] at c3 hgen ⊢
  have q0 : ∀ p : HW (New w), p.w.cell? ⟨gl, 0, none⟩ = some (.pointer (some ⟨gd, 0, none⟩)) := fun p => p.h.cell_ c0
  have q1 : ∀ p : HW (New w), p.w.cell? ⟨gl, 1, none⟩ = some (.int .i64 fs) := fun p => p.h.cell_ c1
  have HC3 := Lib.hid c3
  have hszA : (secA s).size = 64 := by rw [secA_size, HS.out.1]
  have HSZ := Lib.hid hszA
  clear hszA h hD hs ha hfs hsz2 hgn c0 c1 c3 hfit
  have hpl : (place : Int) < (sz : Int) := by omega
  go_enter Tryd.func55, Tryd.ntmps55
  go_wp2_with fail
  apply wp_join (α := Nat) (fun b w3 => New w w3 ∧ Blk w3 b 35 (secA s))
  case h1 =>
    intro K' hK'
    refine wp_region_tree (New w) (.take 0 (.take 1 (.take 2 (.take 3 (.take 4 (.take 5 (.take 6 (.take 7 (.take 8 (.take 9 (.two 10 (.take 11 (.take 12 (.take 13 (.act 14 (.act 15 (.take 16 .done)))))) 14 (.act 10 (.take 11 (.take 12 (.take 13 (.act 15 (.take 16 .done))))))))))))))))) (by kernel_rfl) (by kernel_rfl) (New.dr (New.refl w)) (fun hne => ?_)
    iterate 10 (refine tree_take (o := ⟨_, _, _, _, _, _⟩) rfl (fun K hK => ?_); go_simp; refine hK _ ?_; clear hK K)
    refine ⟨?_, ?_⟩
    · refine act_ok (o := ⟨_, _, _, _, _, _⟩) rfl (fun K hK => ?_) (.inl rfl)
      go_simp
      refine (read_all (HD.out.new (New.dr (New.refl w))) (a : Int)).mono ?_
      rintro e w1 ⟨rfl, hN1⟩
      rw [HRG.out, HRC.out, errD_0]
      have HN1 : Hid (New w w1) := Lib.hid (New.tr (New.dr (New.refl w)) hN1)
      clear hN1
      go_simp
      refine hK.out _ _ HN1.out ?_
      clear hK K
      iterate 3 (refine tree_take (o := ⟨_, _, _, _, _, _⟩) rfl (fun K hK => ?_); go_simp; refine hK _ ?_; clear hK K)
      refine act_alloc (o := ⟨_, _, _, _, _, _⟩) rfl rfl rfl secInfo ?_
      intro b8 w2 hb8 hB2 hN2
      have HL2 : Hid (w.heap.size ≤ b8) := Lib.hid (by have := HN1.out.size; omega)
      refine ⟨HN1.out.tr hN2, ?_⟩
      clear hb8
      simp only [Act.put, List.setIfInBounds_toArray, List.set_cons_zero, List.set_cons_succ]
      refine act_store (o := ⟨_, _, _, _, _, _⟩) (cs := secA s) rfl rfl (.tmp 8) (.tmp 29) rfl (by rw [HSZ.out]; rfl) rfl rfl hB2 (by rw [HSZ.out]; rfl) (secA_one _) ?_
      intro w3 hB3 hF3
      have hN3 : New w w3 := (HN1.out.tr hN2).fr hF3 (fun k hk => by have := HL2.out; omega)
      refine ⟨hN3, ?_⟩
      simp only [Act.put, List.setIfInBounds_toArray, List.set_cons_zero, List.set_cons_succ]
      refine tree_take (o := ⟨_, _, _, _, _, _⟩) rfl (fun K hK => ?_); go_simp; refine hK _ ?_; clear hK K
      refine tree_done ?_
      exact hK'.out b8 w3 ⟨hN3, hB3⟩
    · refine act_alloc (o := ⟨_, _, _, _, _, _⟩) rfl rfl rfl secInfo ?_
      intro b8 w2 hb8 hB2 hN2
      have HN2 : Hid (New w w2) := Lib.hid ((New.dr (New.refl w)).tr hN2)
      have HB2 := Lib.hid hB2
      have HL2 : Hid (w.heap.size ≤ b8) := Lib.hid (by rw [hb8]; exact Nat.le_refl _)
      refine ⟨HN2.out, ?_⟩
      clear hb8 hB2 hN2
      simp only [Act.put, List.setIfInBounds_toArray, List.set_cons_zero, List.set_cons_succ]
      refine tree_act (o := ⟨_, _, _, _, _, _⟩) rfl (fun K hK => ?_) (.inl rfl)
      go_simp
      refine (read_all (HD.out.new HN2.out) (a : Int)).mono ?_
      rintro e w1 ⟨rfl, hN1⟩
      rw [HRG.out, HRC.out, errD_0]
      have HB1 := Lib.hid (hN1.blk HB2.out)
      have HN1 : Hid (New w w1) := Lib.hid (HN2.out.tr hN1)
      clear hN1
      go_simp
      refine hK.out _ _ HN1.out ?_
      clear hK K
      iterate 3 (refine tree_take (o := ⟨_, _, _, _, _, _⟩) rfl (fun K hK => ?_); go_simp; refine hK _ ?_; clear hK K)
      refine act_store (o := ⟨_, _, _, _, _, _⟩) (cs := secA s) rfl rfl (.tmp 8) (.tmp 29) rfl (by rw [HSZ.out]; rfl) rfl rfl HB1.out (by rw [HSZ.out]; rfl) (secA_one _) ?_
      intro w3 hB3 hF3
      have hN3 : New w w3 := HN1.out.fr hF3 (fun k hk => by have := HL2.out; omega)
      refine ⟨hN3, ?_⟩
      simp only [Act.put, List.setIfInBounds_toArray, List.set_cons_zero, List.set_cons_succ]
      refine tree_take (o := ⟨_, _, _, _, _, _⟩) rfl (fun K hK => ?_); go_simp; refine hK _ ?_; clear hK K
      refine tree_done ?_
      exact hK'.out b8 w3 ⟨hN3, hB3⟩
  case h2 =>
    rintro b8 w3 ⟨hN3, hB3⟩
    have HN3 := Lib.hid hN3
    have HB3 := Lib.hid hB3
    clear hN3 hB3 q0 q1 e1 e2 c2
    go_wp2_with fail
    have hR3 : Rd (fun _ => True) w3 1 (some ⟨b8, 0, none⟩) 64 (u8s s) := by
      have h := Rd.ofBlk (p := fun _ => True) HB3.out 1 64 (by rw [HSZ.out]) trivial
      rwa [secA_list] at h
    refine (from_any (some ⟨b8, 0, none⟩) 64 64 s w3 hR3 HS.out.2 (by omega)).mono ?_
    rintro e w4 ⟨r, rfl, hRI, hN4, hr⟩
    have HRI := Lib.hid hRI
    have HN4 : Hid (New w w4) := Lib.hid (HN3.out.tr hN4)
    have HRL : Hid (w.heap.size ≤ r) := Lib.hid (by have := HN3.out.size; omega)
    have HGL : Hid (gl ≠ r) := Lib.hid (by have := HLG.out.blk.lt; have := HRL.out; omega)
    clear hR3 hRI hN4 hr
    have HC4 : Hid (w4.cell? ⟨gl, 3, none⟩ = some (.int .u32 gen)) := Lib.hid (HN4.out.cell_ HC3.out)
    have HL64 : Hid (s.length = 64) := Lib.hid HS.out.1
    have q3 : ∀ p : HW (CellIs ⟨gl, 3, none⟩ (.int .u32 gen)), p.w.cell? ⟨gl, 3, none⟩ = some (.int .u32 gen) := CellIs.all _ _
    have x1 := num_of (xs := s) (k := 4) (by rw [HL64.out]; decide)
    have x2 := num_of (xs := s.drop 4) (k := 4) (by rw [List.length_drop, HL64.out]; decide)
    have x3 := num_of (xs := s.drop 8) (k := 1) (by rw [List.length_drop, HL64.out]; decide)
    have X1 := Lib.hid x1
    have X2 : Hid ((Rs.mk (s.drop 4) 0).num 4 = (valL ((s.drop 4).take 4), ⟨s.drop 8, 0⟩)) := Lib.hid (by rw [x2, List.drop_drop])
    have X3 : Hid ((Rs.mk (s.drop 8) 0).num 1 = (valL ((s.drop 8).take 1), ⟨s.drop 9, 0⟩)) := Lib.hid (by rw [x3, List.drop_drop])
    have hb1 : valL (s.take 4) < 18446744073709551616 := by
      have := valL_lt (xs := s.take 4) (fun x hx => HS.out.2 x (List.mem_of_mem_take hx))
      rw [List.length_take, HL64.out] at this
      exact Nat.lt_of_lt_of_le this (by decide)
    clear x1 x2 x3
    obtain ⟨v1, hv1⟩ : ∃ v1, v1 = valL (s.take 4) := ⟨_, rfl⟩
    obtain ⟨v2, hv2⟩ : ∃ v2, v2 = valL ((s.drop 4).take 4) := ⟨_, rfl⟩
    obtain ⟨v3, hv3⟩ : ∃ v3, v3 = valL ((s.drop 8).take 1) := ⟨_, rfl⟩
    have HV : Hid (v1 = valL (s.take 4) ∧ v2 = valL ((s.drop 4).take 4) ∧ v3 = valL ((s.drop 8).take 1)) := Lib.hid ⟨hv1, hv2, hv3⟩
    rw [← hv1] at X1 hb1
    rw [← hv2] at X2
    rw [← hv3] at X3
    clear hv1 hv2 hv3 hb1
    have k1 : IntKind.u64.wrap (place : Int) = (place : Int) := by rw [IntKind.wrap_u64]; omega
    have kg : IntKind.u64.wrap (gen : Int) = (gen : Int) := by rw [IntKind.wrap_u64]; omega
    have k2 : IntKind.u64.wrap (kind : Int) = (kind : Int) := by rw [IntKind.wrap_u64]; omega
    have hgen2 : (gen : Int) < 4294967296 := by omega
    have hsc : s.length = 64 := HL64.out
    by_cases t1 : v1 = gen
    · have d1 : (v1 : Int) = (gen : Int) := by omega
      by_cases t2 : v2 = place
      · have d2 : (v2 : Int) = (place : Int) := by omega
        by_cases t3 : v3 = kind
        · have d3 : (v3 : Int) = (kind : Int) := by omega
          have x9 := raw_of (xs := s.drop 9) (k := 55) (by rw [List.length_drop, HL64.out]; decide)
          have h55 : (s.drop 9).length = 55 := by rw [List.length_drop, HL64.out]
          have e55 : (s.drop 9).take 55 = s.drop 9 := List.take_of_length_le (by rw [h55]; exact Nat.le_refl _)
          have f55 : (s.drop 9).drop 55 = [] := List.drop_of_length_le (by rw [h55]; exact Nat.le_refl _)
          have X9 : Hid ((Rs.mk (s.drop 9) 0).raw 55 = (s.drop 9, ⟨[], 0⟩)) := Lib.hid (by rw [x9, e55, f55])
          have H55 := Lib.hid h55
          clear h55 e55 f55
          clear x9
          go_wp2_with fail
          refine wp_region_mixH (CellIs ⟨gl, 3, none⟩ (.int .u32 gen)) [(true, 0), (true, 2), (true, 3), (true, 4), (true, 5), (true, 6), (false, 1), (true, 7), (true, 8), (true, 9), (true, 11), (true, 12), (false, 10), (true, 13), (true, 14), (true, 15), (true, 16), (true, 18), (true, 19), (false, 17), (true, 20), (true, 21)] (by kernel_rfl) (by kernel_rfl) ((New.dr (New.refl _)).cell_ HC4.out) (fun hne => ?_)
          iterate 6 (refine mix_take (o := ⟨_, _, _, _, _, _⟩) rfl (fun K hK => ?_); go_simp; refine hK _ ?_; clear hK K)
          refine mix_act (o := ⟨_, _, _, _, _, _⟩) rfl (fun K hK => ?_) (.inl rfl)
          go_simp
          refine (rnum_any (HRI.out.new (New.dr (New.refl _))) 4 (by omega)).mono ?_
          rintro e w5 ⟨rfl, hRI1, hF1⟩
          rw [X1.out] at hRI1 ⊢
          have HC5 : Hid (w5.cell? ⟨gl, 3, none⟩ = some (.int .u32 gen)) := Lib.hid (hF1.cell_some ((New.dr (New.refl w4)).cell_ HC4.out) HGL.out)
          have HN5 : Hid (New w w5) := Lib.hid ((New.dr HN4.out).fr hF1 (fun k hk => by have := HRL.out; omega))
          have HRI1 := Lib.hid hRI1
          clear hRI1 hF1
          go_simp
          refine hK.out _ _ (fun _ => HC5.out) ?_
          clear hK K
          iterate 5 (refine mix_take (o := ⟨_, _, _, _, _, _⟩) rfl (fun K hK => ?_); go_simp; refine hK _ ?_; clear hK K)
          refine mix_act (o := ⟨_, _, _, _, _, _⟩) rfl (fun K hK => ?_) (.inl rfl)
          go_simp
          refine (rnum_any HRI1.out 4 (by omega)).mono ?_
          rintro e w6 ⟨rfl, hRI2, hF2⟩
          rw [X2.out] at hRI2 ⊢
          have HC6 : Hid (w6.cell? ⟨gl, 3, none⟩ = some (.int .u32 gen)) := Lib.hid (hF2.cell_some HC5.out HGL.out)
          have HN6 : Hid (New w w6) := Lib.hid (HN5.out.fr hF2 (fun k hk => by have := HRL.out; omega))
          have HRI2 := Lib.hid hRI2
          clear hRI2 hF2
          go_simp
          refine hK.out _ _ (fun _ => HC6.out) ?_
          clear hK K
          iterate 6 (refine mix_take (o := ⟨_, _, _, _, _, _⟩) rfl (fun K hK => ?_); go_simp; refine hK _ ?_; clear hK K)
          refine mix_act (o := ⟨_, _, _, _, _, _⟩) rfl (fun K hK => ?_) (.inl rfl)
          go_simp
          refine (rnum_any HRI2.out 1 (by omega)).mono ?_
          rintro e w7 ⟨rfl, hRI3, hF3⟩
          rw [X3.out] at hRI3 ⊢
          have HC7 : Hid (w7.cell? ⟨gl, 3, none⟩ = some (.int .u32 gen)) := Lib.hid (hF3.cell_some HC6.out HGL.out)
          have HN7 : Hid (New w w7) := Lib.hid (HN6.out.fr hF3 (fun k hk => by have := HRL.out; omega))
          have HRI3 := Lib.hid hRI3
          clear hRI3 hF3
          go_simp
          refine hK.out _ _ (fun _ => HC7.out) ?_
          clear hK K
          iterate 2 (refine mix_take (o := ⟨_, _, _, _, _, _⟩) rfl (fun K hK => ?_); go_simp; refine hK _ ?_; clear hK K)
          refine mix_done ?_
          go_wp2_with fail
          refine (rraw_any HRI3.out 55 (by omega)).mono ?_
          rintro e w8 ⟨⟨A, c, rfl, hO⟩, -, hF8⟩
          rw [X9.out] at hO ⊢
          dsimp only at hO ⊢
          rw [H55.out] at hO ⊢
          have HO := Lib.hid hO
          have HN8 : Hid (New w w8) := Lib.hid (HN7.out.fr hF8 (fun k hk => by have := HRL.out; omega))
          clear hO hF8
          go_wp2_with fail
          go_ret2
          exact ⟨fun _ => ⟨A, c, by rw [H55.out]; rfl, by rw [H55.out]; exact own_base HO.out (fun k hk => by have := (own_lt HO.out k hk).1; have := HN7.out.size; omega)⟩, fun h => absurd ⟨by have := HV.out; omega, by have := HV.out; omega, by have := HV.out; omega⟩ h, HN8.out⟩
        · have d3 : ¬ ((v3 : Int) = (kind : Int)) := by omega
          go_wp2_with fail
          refine wp_region_mixH (CellIs ⟨gl, 3, none⟩ (.int .u32 gen)) [(true, 0), (true, 2), (true, 3), (true, 4), (true, 5), (true, 6), (false, 1), (true, 7), (true, 8), (true, 9), (true, 11), (true, 12), (false, 10), (true, 13), (true, 14), (true, 15), (true, 16), (true, 18), (true, 19), (false, 17), (true, 20), (true, 21)] (by kernel_rfl) (by kernel_rfl) ((New.dr (New.refl _)).cell_ HC4.out) (fun hne => ?_)
          iterate 6 (refine mix_take (o := ⟨_, _, _, _, _, _⟩) rfl (fun K hK => ?_); go_simp; refine hK _ ?_; clear hK K)
          refine mix_act (o := ⟨_, _, _, _, _, _⟩) rfl (fun K hK => ?_) (.inl rfl)
          go_simp
          refine (rnum_any (HRI.out.new (New.dr (New.refl _))) 4 (by omega)).mono ?_
          rintro e w5 ⟨rfl, hRI1, hF1⟩
          rw [X1.out] at hRI1 ⊢
          have HC5 : Hid (w5.cell? ⟨gl, 3, none⟩ = some (.int .u32 gen)) := Lib.hid (hF1.cell_some ((New.dr (New.refl w4)).cell_ HC4.out) HGL.out)
          have HN5 : Hid (New w w5) := Lib.hid ((New.dr HN4.out).fr hF1 (fun k hk => by have := HRL.out; omega))
          have HRI1 := Lib.hid hRI1
          clear hRI1 hF1
          go_simp
          refine hK.out _ _ (fun _ => HC5.out) ?_
          clear hK K
          iterate 5 (refine mix_take (o := ⟨_, _, _, _, _, _⟩) rfl (fun K hK => ?_); go_simp; refine hK _ ?_; clear hK K)
          refine mix_act (o := ⟨_, _, _, _, _, _⟩) rfl (fun K hK => ?_) (.inl rfl)
          go_simp
          refine (rnum_any HRI1.out 4 (by omega)).mono ?_
          rintro e w6 ⟨rfl, hRI2, hF2⟩
          rw [X2.out] at hRI2 ⊢
          have HC6 : Hid (w6.cell? ⟨gl, 3, none⟩ = some (.int .u32 gen)) := Lib.hid (hF2.cell_some HC5.out HGL.out)
          have HN6 : Hid (New w w6) := Lib.hid (HN5.out.fr hF2 (fun k hk => by have := HRL.out; omega))
          have HRI2 := Lib.hid hRI2
          clear hRI2 hF2
          go_simp
          refine hK.out _ _ (fun _ => HC6.out) ?_
          clear hK K
          iterate 6 (refine mix_take (o := ⟨_, _, _, _, _, _⟩) rfl (fun K hK => ?_); go_simp; refine hK _ ?_; clear hK K)
          refine mix_act (o := ⟨_, _, _, _, _, _⟩) rfl (fun K hK => ?_) (.inl rfl)
          go_simp
          refine (rnum_any HRI2.out 1 (by omega)).mono ?_
          rintro e w7 ⟨rfl, hRI3, hF3⟩
          rw [X3.out] at hRI3 ⊢
          have HC7 : Hid (w7.cell? ⟨gl, 3, none⟩ = some (.int .u32 gen)) := Lib.hid (hF3.cell_some HC6.out HGL.out)
          have HN7 : Hid (New w w7) := Lib.hid (HN6.out.fr hF3 (fun k hk => by have := HRL.out; omega))
          have HRI3 := Lib.hid hRI3
          clear hRI3 hF3
          go_simp
          refine hK.out _ _ (fun _ => HC7.out) ?_
          clear hK K
          iterate 2 (refine mix_take (o := ⟨_, _, _, _, _, _⟩) rfl (fun K hK => ?_); go_simp; refine hK _ ?_; clear hK K)
          refine mix_done ?_
          have T3 := Lib.hid t3
          clear t1 t2 d1 d2 k1 k2 kg q3 hne hsc hgen2 hgen hpl t3
          go_wp2_with fail
          go_ret2
          exact ⟨fun h => absurd h (fun h => by have := HV.out; have := h.k; have := T3.out; omega), fun _ => rfl, HN7.out⟩
      · have d2 : ¬ ((v2 : Int) = (place : Int)) := by omega
        go_wp2_with fail
        refine wp_region_mixH (CellIs ⟨gl, 3, none⟩ (.int .u32 gen)) [(true, 0), (true, 2), (true, 3), (true, 4), (true, 5), (true, 6), (false, 1), (true, 7), (true, 8), (true, 9), (true, 11), (true, 12), (false, 10), (true, 13), (true, 14), (true, 15), (true, 16), (true, 18), (true, 19), (false, 17), (true, 20), (true, 21)] (by kernel_rfl) (by kernel_rfl) ((New.dr (New.refl _)).cell_ HC4.out) (fun hne => ?_)
        iterate 6 (refine mix_take (o := ⟨_, _, _, _, _, _⟩) rfl (fun K hK => ?_); go_simp; refine hK _ ?_; clear hK K)
        refine mix_act (o := ⟨_, _, _, _, _, _⟩) rfl (fun K hK => ?_) (.inl rfl)
        go_simp
        refine (rnum_any (HRI.out.new (New.dr (New.refl _))) 4 (by omega)).mono ?_
        rintro e w5 ⟨rfl, hRI1, hF1⟩
        rw [X1.out] at hRI1 ⊢
        have HC5 : Hid (w5.cell? ⟨gl, 3, none⟩ = some (.int .u32 gen)) := Lib.hid (hF1.cell_some ((New.dr (New.refl w4)).cell_ HC4.out) HGL.out)
        have HN5 : Hid (New w w5) := Lib.hid ((New.dr HN4.out).fr hF1 (fun k hk => by have := HRL.out; omega))
        have HRI1 := Lib.hid hRI1
        clear hRI1 hF1
        go_simp
        refine hK.out _ _ (fun _ => HC5.out) ?_
        clear hK K
        iterate 5 (refine mix_take (o := ⟨_, _, _, _, _, _⟩) rfl (fun K hK => ?_); go_simp; refine hK _ ?_; clear hK K)
        refine mix_act (o := ⟨_, _, _, _, _, _⟩) rfl (fun K hK => ?_) (.inl rfl)
        go_simp
        refine (rnum_any HRI1.out 4 (by omega)).mono ?_
        rintro e w6 ⟨rfl, hRI2, hF2⟩
        rw [X2.out] at hRI2 ⊢
        have HC6 : Hid (w6.cell? ⟨gl, 3, none⟩ = some (.int .u32 gen)) := Lib.hid (hF2.cell_some HC5.out HGL.out)
        have HN6 : Hid (New w w6) := Lib.hid (HN5.out.fr hF2 (fun k hk => by have := HRL.out; omega))
        have HRI2 := Lib.hid hRI2
        clear hRI2 hF2
        go_simp
        refine hK.out _ _ (fun _ => HC6.out) ?_
        clear hK K
        iterate 6 (refine mix_take (o := ⟨_, _, _, _, _, _⟩) rfl (fun K hK => ?_); go_simp; refine hK _ ?_; clear hK K)
        refine mix_act (o := ⟨_, _, _, _, _, _⟩) rfl (fun K hK => ?_) (.inr HC6.out)
        go_simp
        refine hK.out _ _ (fun _ => HC6.out) ?_
        clear hK K
        iterate 2 (refine mix_take (o := ⟨_, _, _, _, _, _⟩) rfl (fun K hK => ?_); go_simp; refine hK _ ?_; clear hK K)
        refine mix_done ?_
        go_wp2_with fail
        go_ret2
        exact ⟨fun h => absurd h (fun h => by have := HV.out; have := h.p; omega), fun _ => rfl, HN6.out⟩
    · have d1 : ¬ ((v1 : Int) = (gen : Int)) := by omega
      go_wp2_with fail
      refine wp_region_mixH (CellIs ⟨gl, 3, none⟩ (.int .u32 gen)) [(true, 0), (true, 2), (true, 3), (true, 4), (true, 5), (true, 6), (false, 1), (true, 7), (true, 8), (true, 9), (true, 11), (true, 12), (false, 10), (true, 13), (true, 14), (true, 15), (true, 16), (true, 18), (true, 19), (false, 17), (true, 20), (true, 21)] (by kernel_rfl) (by kernel_rfl) ((New.dr (New.refl _)).cell_ HC4.out) (fun hne => ?_)
      iterate 6 (refine mix_take (o := ⟨_, _, _, _, _, _⟩) rfl (fun K hK => ?_); go_simp; refine hK _ ?_; clear hK K)
      refine mix_act (o := ⟨_, _, _, _, _, _⟩) rfl (fun K hK => ?_) (.inl rfl)
      go_simp
      refine (rnum_any (HRI.out.new (New.dr (New.refl _))) 4 (by omega)).mono ?_
      rintro e w5 ⟨rfl, hRI1, hF1⟩
      rw [X1.out] at hRI1 ⊢
      have HC5 : Hid (w5.cell? ⟨gl, 3, none⟩ = some (.int .u32 gen)) := Lib.hid (hF1.cell_some ((New.dr (New.refl w4)).cell_ HC4.out) HGL.out)
      have HN5 : Hid (New w w5) := Lib.hid ((New.dr HN4.out).fr hF1 (fun k hk => by have := HRL.out; omega))
      have HRI1 := Lib.hid hRI1
      clear hRI1 hF1
      go_simp
      refine hK.out _ _ (fun _ => HC5.out) ?_
      clear hK K
      iterate 5 (refine mix_take (o := ⟨_, _, _, _, _, _⟩) rfl (fun K hK => ?_); go_simp; refine hK _ ?_; clear hK K)
      refine mix_act (o := ⟨_, _, _, _, _, _⟩) rfl (fun K hK => ?_) (.inr HC5.out)
      go_simp
      refine hK.out _ _ (fun _ => HC5.out) ?_
      clear hK K
      iterate 6 (refine mix_take (o := ⟨_, _, _, _, _, _⟩) rfl (fun K hK => ?_); go_simp; refine hK _ ?_; clear hK K)
      refine mix_act (o := ⟨_, _, _, _, _, _⟩) rfl (fun K hK => ?_) (.inr HC5.out)
      go_simp
      refine hK.out _ _ (fun _ => HC5.out) ?_
      clear hK K
      iterate 2 (refine mix_take (o := ⟨_, _, _, _, _, _⟩) rfl (fun K hK => ?_); go_simp; refine hK _ ?_; clear hK K)
      refine mix_done ?_
      go_wp2_with fail
      go_ret2
      exact ⟨fun h => absurd h (fun h => by have := HV.out; have := h.g; omega), fun _ => rfl, HN5.out⟩
end Go.Proofs.YteeclfejgpgooaaDoor
/- slices.Equal of bytes. No condition. -/
namespace Go.Proofs.YteeclfejgpgooaaDoor
set_option linter.unusedVariables false
set_option linter.unusedSimpArgs false
set_option linter.constructorNameAsVariable false
open Go.RowKit

theorem sequal_any {p q : Nat → Prop} (A B : Option Addr) (n m c d : Nat) (xs ys : List Int) (w : World) (hx : Rd p w 1 A n (u8s xs)) (hy : Rd q w 1 B m (u8s ys)) (bx : Byt xs) (by_ : Byt ys) (hn : n ≤ 1000000000) (hm : m ≤ 1000000000) :
    Calls Tryd.prog 58 #[.slice A n c, .slice B m d] w fun e w' => e = .returned (.bool (decide (xs = ys))) ∧ New w w' := by
  have hxl : xs.length = n := by have := hx.1; rw [u8s_len] at this; omega
  have hyl : ys.length = m := by have := hy.1; rw [u8s_len] at this; omega
  obtain ⟨r, hr⟩ : ∃ r, r = decide (xs = ys) := ⟨_, rfl⟩
  rw [← hr]
  have HR := Lib.hid hr
  clear hr
  by_cases hnm : n = m
  · subst hnm
    have HX := Lib.hid hx
    have HY := Lib.hid hy
    have HXL := Lib.hid hxl
    have HYL := Lib.hid hyl
    clear hx hy hxl hyl bx by_
    go_enter Tryd.func58, Tryd.ntmps58
    go_wp2_with fail
    go_loopw [13] (fun i wr => ∃ k N : Nat, k ≤ n ∧ i = .int .i64 k ∧ Hid (xs.take k = ys.take k) ∧ Hid (wr = w.drewN N)) (fun i _ => n - (intOf i).toNat)
    case atStart => exact ⟨0, 0, Nat.zero_le _, rfl, Lib.hid rfl, Lib.hid rfl⟩
    case round =>
      obtain ⟨k, N, hk, rfl, HE, HWR⟩ := hrel
      by_cases hlt : k < n
      · obtain ⟨g, o, rfl, -, -, hcx⟩ := HX.out.out (by omega) (by omega)
        obtain ⟨g2, o2, rfl, -, -, hcy⟩ := HY.out.out (by omega) (by omega)
        have hxk : k < xs.length := by rw [HXL.out]; exact hlt
        have hyk : k < ys.length := by rw [HYL.out]; exact hlt
        have c1 : ∀ j, (wr.drewN j).cell? ⟨g, o + k, none⟩ = some (.int .u8 xs[k]) := fun j => by
          rw [HWR.out]
          exact hcx k _ (by unfold u8s; rw [List.getElem?_map, List.getElem?_eq_getElem hxk]; rfl)
        have c2 : ∀ j, (wr.drewN j).cell? ⟨g2, o2 + k, none⟩ = some (.int .u8 ys[k]) := fun j => by
          rw [HWR.out]
          exact hcy k _ (by unfold u8s; rw [List.getElem?_map, List.getElem?_eq_getElem hyk]; rfl)
        have hlt' : (k : Int) < (n : Int) := by omega
        have hk0 : (0 : Int) ≤ (k : Int) := by omega
        obtain ⟨x, hx⟩ : ∃ x, x = xs[k] := ⟨_, rfl⟩
        obtain ⟨y, hy⟩ : ∃ y, y = ys[k] := ⟨_, rfl⟩
        rw [← hx] at c1
        rw [← hy] at c2
        have HT : Hid (xs.take (k + 1) = xs.take k ++ [x] ∧ ys.take (k + 1) = ys.take k ++ [y] ∧ xs[k]? = some x ∧ ys[k]? = some y) :=
          Lib.hid ⟨by rw [List.take_succ_eq_append_getElem hxk, hx], by rw [List.take_succ_eq_append_getElem hyk, hy], by rw [List.getElem?_eq_getElem hxk, hx], by rw [List.getElem?_eq_getElem hyk, hy]⟩
        clear hcx hcy hx hy hxk hyk HX HY HXL HYL
        by_cases he : x = y
        · have hne : (x != y) = false := by simp [he]
          have HEn : Hid (xs.take (k + 1) = ys.take (k + 1)) := Lib.hid (by rw [HT.out.1, HT.out.2.1, HE.out, he])
          clear he HE
          go_wp2_with fail
          go_quiet (fail)
          go_wp2_with fail
          go_roundw
          case rel => exact ⟨k + 1, _, by omega, by go_num, HEn, Lib.hid (by rw [HWR.out, World.drewN_drewN])⟩
          case measure => simp [intOf]; omega
        · have hne : (x != y) = true := by simp [he]
          have HD : Hid (decide (xs = ys) = false) := Lib.hid (decide_eq_false (fun e => he (by
            have h1 := HT.out.2.2.1
            rw [e, HT.out.2.2.2] at h1
            injection h1 with h1
            exact h1.symm)))
          clear he
          go_wp2_with fail
          go_quiet (fail)
          go_wp2_with fail
          go_ret
          exact ⟨by rw [HR.out, HD.out]; rfl, by rw [HWR.out]; exact ((New.refl w).dn _).dn _⟩
      · have HD : Hid (decide (xs = ys) = true) := Lib.hid (decide_eq_true (by
          have h := HE.out
          rwa [List.take_of_length_le (by rw [HXL.out]; omega), List.take_of_length_le (by rw [HYL.out]; omega)] at h))
        go_wp2_with fail
        go_ret
        exact ⟨by rw [HR.out, HD.out]; rfl, by rw [HWR.out]; exact (New.refl w).dn _⟩
  · have HD : Hid (decide (xs = ys) = false) := Lib.hid (decide_eq_false (fun e => hnm (by rw [← hxl, ← hyl, e])))
    have hnm' : ¬ ((n : Int) = (m : Int)) := by omega
    clear hx hy hxl hyl bx by_
    go_enter Tryd.func58, Tryd.ntmps58
    go_wp2_with fail
    go_ret
    exact ⟨by rw [HR.out, HD.out]; rfl, New.refl w⟩
end Go.Proofs.YteeclfejgpgooaaDoor
/- The next record of a log. sha's tables are as they were laid. No condition else. -/
namespace Go.Proofs.YteeclfejgpgooaaDoor
set_option linter.unusedVariables false
set_option linter.unusedSimpArgs false
set_option linter.constructorNameAsVariable false
open Go.RowKit Go.Sort

theorem take9 {s : List Int} : s.take 9 = s.take 4 ++ (s.drop 4).take 4 ++ (s.drop 8).take 1 := by
  have h1 : s.take 9 = s.take 8 ++ (s.drop 8).take 1 := by rw [show 9 = 8 + 1 from rfl, List.take_add]
  have h2 : s.take 8 = s.take 4 ++ (s.drop 4).take 4 := by rw [show 8 = 4 + 4 from rfl, List.take_add]
  rw [h1, h2]
theorem valL_4 {xs : List Int} (hb : Byt xs) (hl : xs.length = 4) (n : Nat) (hn : n < 4294967296) : valL xs = n ↔ xs = beL 4 n := by
  constructor
  · intro h
    rw [← h, ← hl]
    exact (beL_valL xs hb).symm
  · rintro rfl
    exact valL_beL 4 n (by omega)
theorem valL_1 {xs : List Int} (hb : Byt xs) (hl : xs.length = 1) (n : Nat) : valL xs = n ↔ xs = [(n : Int)] := by
  match xs, hl with
  | [x], _ =>
    have := hb x (by simp)
    have e : valL [x] = x.toNat := by simp [valL]
    rw [e]
    constructor
    · intro h
      rw [← h]
      congr 1
      omega
    · intro h
      injection h with h
      omega
theorem part_hdr {s : List Int} (hs : SecOk s) {l : LG} {i : Nat} (hg : l.gen < 4294967296) (hi : l.used + i < 4294967296) : PartOk s l.gen (l.used + i) (if i = 0 then 1 else 2) ↔ s.take 9 = l.hdr i := by
  have b1 : Byt (s.take 4) := fun x hx => hs.2 x (List.mem_of_mem_take hx)
  have b2 : Byt ((s.drop 4).take 4) := fun x hx => hs.2 x (List.mem_of_mem_drop (List.mem_of_mem_take hx))
  have b3 : Byt ((s.drop 8).take 1) := fun x hx => hs.2 x (List.mem_of_mem_drop (List.mem_of_mem_take hx))
  have l1 : (s.take 4).length = 4 := by rw [List.length_take, hs.1]; rfl
  have l2 : ((s.drop 4).take 4).length = 4 := by rw [List.length_take, List.length_drop, hs.1]; rfl
  have l3 : ((s.drop 8).take 1).length = 1 := by rw [List.length_take, List.length_drop, hs.1]; rfl
  have ek : (((if i = 0 then 1 else 2 : Nat)) : Int) = (if i = 0 then 1 else 2 : Int) := by split <;> rfl
  rw [take9]
  unfold LG.hdr
  constructor
  · rintro ⟨h1, h2, h3⟩
    rw [(valL_4 b1 l1 _ hg).1 h1, (valL_4 b2 l2 _ hi).1 h2, (valL_1 b3 l3 _).1 h3, ek]
  · intro h
    have h12 := List.append_inj h (by simp [l1, l2, beL_len])
    have h1 := List.append_inj h12.1 (by simp [l1, beL_len])
    exact ⟨(valL_4 b1 l1 _ hg).2 h1.1, (valL_4 b2 l2 _ hi).2 h1.2, (valL_1 b3 l3 _).2 (by rw [ek]; exact h12.2)⟩
/-- A block of bytes that is new since block B. -/
def RB (B : Nat) (w : World) (k : Nat) : Prop := B ≤ k ∧ IsT 5 w k
def NextSays (l : LG) (r : Option (List Int)) (w : World) (gl gd n : Nat) (e : Ending) (w' : World) : Prop :=
  match r with
  | none => e = .returned (.tuple #[.slice none 0 0, .bool false]) ∧ New w w'
  | some b => ∃ A c, e = .returned (.tuple #[.slice A b.length c, .bool true]) ∧ b.length ≤ c ∧ c ≤ maxLen ∧ Byt b ∧ Rd (RB w.heap.size w') w' 1 A b.length (u8s b) ∧ Lg w' gl gd (l.step b) n ∧ Fr (fun k => k = gl) w w'
theorem tagInfo : (Tryd.prog.info? 65).map (fun i => (i.zero, i.size)) = some (some (.agg (secA (List.replicate 16 0))), 16) := by kernel_rfl
/-- What is known behind some of the rounds. -/
structure NxI (w w' : World) (p : DP) (l : LG) (k : Nat) (v : Value) : Prop where
  new : New w w'
  own : w'.ownsRow w.heap.size 5 1 v (55 * k) (u8s (frameL p l k))
  hdr : ∀ i, i < k → (sct p l i).take 9 = l.hdr i
  fit : l.used + k ≤ l.size
set_option maxHeartbeats 8000000 in
set_option maxRecDepth 100000 in
theorem next_any {w : World} {gl gd base bs bf : Nat} {v : Value} {p : DP} {l : LG} (h : Lg w gl gd l p.size) (hD : Dk w base gd bs bf v p) (hL : ShaIn 3 2 w) :
    Calls Tryd.prog 40 #[.pointer (some ⟨gl, 0, none⟩)] w (NextSays l (nextL p l) w gl gd p.size) := by
  have HLG := Lib.hid h
  have HD := Lib.hid hD
  have HL := Lib.hid hL
  have hsz := hD.ok.s2
  have hfit := h.ok.fit
  have hgen := h.ok.gen
  have hused := h.ok.used
  have HOK := Lib.hid hD.ok
  have HSO : Hid (∀ i, SecOk (sct p l i)) := Lib.hid fun i => sct_ok hD.ok l i
  obtain ⟨us, hus⟩ : ∃ us, us = l.used := ⟨_, rfl⟩
  have HUS := Lib.hid hus
  have c4 := h.c4
  rw [← hus] at c4
  have hu1 : us ≤ 16384 := by omega
  -- what the first part answers
  have HP0a : Hid (l.size ≤ us → ∀ W, New w W → Calls Tryd.prog 55 #[.pointer (some ⟨gl, 0, none⟩), .int .i64 us, .int .i64 1] W fun e w' => PartSays none W.heap.size e w' ∧ W = w') :=
    Lib.hid fun hle W hN => part_far (h.new hN) us 1 hle hsz
  have HP0b : Hid (us < l.size → ∀ W, New w W → Calls Tryd.prog 55 #[.pointer (some ⟨gl, 0, none⟩), .int .i64 us, .int .i64 1] W fun e w' => ((sct p l 0).take 9 = l.hdr 0 → PartSays (some ((sct p l 0).drop 9)) W.heap.size e w') ∧ (¬ (sct p l 0).take 9 = l.hdr 0 → PartSays none W.heap.size e w') ∧ New W w') :=
    Lib.hid fun hlt W hN => by
      have hq := part_in (h.new hN) (hD.new hN) us 1 hlt (by omega) (sct p l 0) (by unfold sct; rw [Nat.add_zero, hus])
      refine hq.mono fun e w' ⟨a, b, c⟩ => ?_
      have hh := part_hdr (s := sct p l 0) (sct_ok hD.ok l 0) (l := l) (i := 0) hgen (by omega)
      rw [Nat.add_zero, ← hus, if_pos rfl] at hh
      exact ⟨fun x => a (hh.2 x), fun x => b (fun y => x (hh.1 y)), c⟩
  have HPKa : Hid (∀ j, l.size ≤ j → ∀ W, New w W → Calls Tryd.prog 55 #[.pointer (some ⟨gl, 0, none⟩), .int .i64 (j : Int), .int .i64 2] W fun e w' => PartSays none W.heap.size e w' ∧ W = w') :=
    Lib.hid fun j hle W hN => part_far (h.new hN) j 2 hle hsz
  have HPKb : Hid (∀ j k, j = us + k → 1 ≤ k → j < l.size → ∀ W, New w W → Calls Tryd.prog 55 #[.pointer (some ⟨gl, 0, none⟩), .int .i64 (j : Int), .int .i64 2] W fun e w' => ((sct p l k).take 9 = l.hdr k → PartSays (some ((sct p l k).drop 9)) W.heap.size e w') ∧ (¬ (sct p l k).take 9 = l.hdr k → PartSays none W.heap.size e w') ∧ New W w') :=
    Lib.hid fun j k hj hk1 hlt W hN => by
      have hq := part_in (h.new hN) (hD.new hN) j 2 hlt (by omega) (sct p l k) (by unfold sct; rw [hj, hus, Nat.add_assoc])
      refine hq.mono fun e w' ⟨a, b, c⟩ => ?_
      have hh := part_hdr (s := sct p l k) (sct_ok hD.ok l k) (l := l) (i := k) hgen (by omega)
      rw [← hus, ← hj, if_neg (by omega)] at hh
      exact ⟨fun x => a (hh.2 x), fun x => b (fun y => x (hh.1 y)), c⟩
  obtain ⟨NX, hNX⟩ : ∃ NX, NX = nextL p l := ⟨_, rfl⟩
  rw [← hNX]
  have HNX := Lib.hid hNX
  have hsl : l.size ≤ 16384 := by omega
  clear h hD hL hNX hus hgen hused hfit hsz
  go_enter Tryd.func40, Tryd.ntmps40
  by_cases h0 : us < l.size
  rotate_left
  · have HN : Hid (NX = none) := Lib.hid (by rw [HNX.out]; exact nextL_none (fun hx => by have := hx.room; have := HUS.out; omega))
    go_wp2_with fail
    refine (HP0a.out (by omega) w (New.refl w)).mono ?_
    rintro e w' ⟨he, rfl⟩
    unfold PartSays at he
    dsimp only at he
    subst he
    go_wp2_with fail
    go_ret2
    rw [HN.out]
    exact ⟨rfl, New.refl w⟩
  by_cases hh0 : (sct p l 0).take 9 = l.hdr 0
  rotate_left
  · have HN : Hid (NX = none) := Lib.hid (by rw [HNX.out]; exact nextL_none (fun hx => hh0 (hx.hdr 0 (Nat.pos_of_ne_zero hx.pos))))
    have HH := Lib.hid hh0
    clear hh0
    go_wp2_with fail
    refine (HP0b.out h0 w (New.refl w)).mono ?_
    rintro e w' ⟨-, he, hN1⟩
    have he := he HH.out
    have HN1 := Lib.hid hN1
    unfold PartSays at he
    dsimp only at he
    subst he
    clear hN1
    go_wp2_with fail
    go_ret2
    rw [HN.out]
    exact ⟨rfl, HN1.out⟩
  have HH0 := Lib.hid hh0
  clear hh0
  obtain ⟨mn, hmn⟩ : ∃ mn, mn = l.many p := ⟨_, rfl⟩
  have HMN := Lib.hid hmn
  obtain ⟨N, hN⟩ : ∃ N, N = secN mn := ⟨_, rfl⟩
  have HNN := Lib.hid hN
  have hNle : N ≤ 1193 := by rw [hN]; exact secN_le mn
  have hmnb : mn < 4294967296 := by
    have h55 := (HSO.out 0).1
    have := valL_lt (xs := ((sct p l 0).drop 9).take 4) (fun x hx => (HSO.out 0).2 x (List.mem_of_mem_drop (List.mem_of_mem_take hx)))
    rw [List.length_take, List.length_drop, h55] at this
    rw [hmn]
    exact this
  have HFR1 : Hid (frameL p l 1 = (sct p l 0).drop 9) := Lib.hid (by simp [frameL])
  have HF55 : Hid (((sct p l 0).drop 9).length = 55) := Lib.hid (by rw [List.length_drop, (HSO.out 0).1])
  have HFB : Hid (Byt ((sct p l 0).drop 9)) := Lib.hid (fun x hx => (HSO.out 0).2 x (List.mem_of_mem_drop hx))
  have HVAL : Hid (valL ((((sct p l 0).drop 9).take 4).take 4) = mn) := Lib.hid (by rw [List.take_take, hmn]; rfl)
  clear hmn hN
  have em : IntKind.i64.wrap (mn : Int) = (mn : Int) := IntWalk.i64_in _ (by omega)
  have hmn' : (mn : Int) < 4294967296 := by omega
  go_wp2_with fail
  refine (HP0b.out h0 w (New.refl w)).mono ?_
  rintro e w1 ⟨he, -, hN1⟩
  have he := he HH0.out
  have HN1 := Lib.hid hN1
  unfold PartSays at he
  dsimp only at he
  obtain ⟨A, c, rfl, hO⟩ := he
  rw [HF55.out] at hO ⊢
  obtain ⟨g, cap, hv, hNc, hcm⟩ := own_form hO (by omega)
  injection hv with hv1 hv2 hv3
  subst hv1 hv3
  have HO := Lib.hid hO
  clear hO hN1 hv2
  have hc4 : ¬ c = 4 := by omega
  go_wp2_with fail
  refine (from_any (some ⟨g, 0, none⟩) 4 c (((sct p l 0).drop 9).take 4) w1 ((Rd.own HO.out rfl).take (by omega)) (fun x hx => HFB.out x (List.mem_of_mem_take hx)) (by omega)).mono ?_
  rintro e w2 ⟨r, rfl, hRI, hN2, hr⟩
  have HRI := Lib.hid hRI
  have HN2 := Lib.hid hN2
  have HR := Lib.hid hr
  clear hRI hN2 hr
  go_wp2_with fail
  have x1 := num_of (xs := ((sct p l 0).drop 9).take 4) (k := 4) (by rw [List.length_take, HF55.out]; decide)
  rw [HVAL.out] at x1
  refine (rnum_any HRI.out 4 (by omega)).mono ?_
  rintro e w3 ⟨rfl, -, hF3⟩
  rw [x1]
  dsimp only
  have HN3 : Hid (New w1 w3) := Lib.hid (HN2.out.fr hF3 (fun k hk => by have := HR.out; omega))
  clear x1 hF3
  go_wp2_with fail
  refine (sectors_any (mn : Int) w3).mono ?_
  rintro e w' ⟨rfl, rfl⟩
  rw [secs_N, ← HNN.out]
  by_cases hN0 : N = 0
  · have HN : Hid (NX = none) := Lib.hid (by rw [HNX.out]; exact nextL_none (fun hx => hx.pos (by rw [← HMN.out, ← HNN.out, hN0])))
    subst hN0
    go_wp2_with fail
    go_ret2
    rw [HN.out]
    exact ⟨rfl, HN1.out.tr HN3.out⟩
  have hN0' : ((N : Int) == 0) = false := by simp; omega
  have HI1 : Hid (NxI w w3 p l 1 (.slice (some ⟨g, 0, none⟩) 55 c)) := Lib.hid ⟨HN1.out.tr HN3.out, by rw [HFR1.out]; exact HN3.out.own HO.out, fun i hi => by
    obtain rfl : i = 0 := by omega
    exact HH0.out, by have := HUS.out; omega⟩
  clear HRI HO HN1 HN2 HN3 HR hmnb hmn' em
  go_wp2_with fail
  go_loopw [4, 8] (fun f i wr => ∃ (k g d fl : Nat), 1 ≤ k ∧ k ≤ N ∧ Hid (fl = 55 * k) ∧ fl ≤ d ∧ d ≤ maxLen ∧ i = .int .i64 k ∧ f = .slice (some ⟨g, 0, none⟩) fl d ∧ Hid (NxI w wr p l k (.slice (some ⟨g, 0, none⟩) fl d))) (fun _ i _ => N - (intOf i).toNat)
  case atStart => exact ⟨1, g, c, 55, by omega, by omega, Lib.hid rfl, hNc, hcm, rfl, rfl, HI1⟩
  case round =>
    clear HI1 hNc hcm
    obtain ⟨k, g, d, fl, hk1, hk, HFL, hfd, hdm, rfl, rfl, HI⟩ := hrel
    have hfl : fl ≤ 66000 := by have := HFL.out; omega
    by_cases hlt : k < N
    · obtain ⟨j, hj⟩ : ∃ j, j = us + k := ⟨_, rfl⟩
      have e1 : (us : Int) + (k : Int) = (j : Int) := by omega
      have e2 : IntKind.i64.wrap (j : Int) = (j : Int) := IntWalk.i64_in _ (by omega)
      have hk' : (k : Int) < (N : Int) := by omega
      have c4' : wr.cell? ⟨gl, 4, none⟩ = some (.int .i64 us) := HI.out.new.cell_ c4
      have HJ := Lib.hid hj
      clear hj
      by_cases hjs : l.size ≤ j
      · have HN : Hid (NX = none) := Lib.hid (by rw [HNX.out]; exact nextL_none (fun hx => by have := hx.fit; rw [← HMN.out, ← HNN.out] at this; have := HUS.out; have := HJ.out; omega))
        go_wp2_with fail
        refine (HPKa.out j hjs wr HI.out.new).mono ?_
        rintro e w' ⟨he, rfl⟩
        unfold PartSays at he
        dsimp only at he
        subst he
        go_wp2_with fail
        go_ret2
        rw [HN.out]
        exact ⟨rfl, HI.out.new⟩
      · by_cases hhk : (sct p l k).take 9 = l.hdr k
        · have HHK := Lib.hid hhk
          have HK55 : Hid (((sct p l k).drop 9).length = 55) := Lib.hid (by rw [List.length_drop, (HSO.out k).1])
          clear hhk
          go_wp2_with fail
          refine (HPKb.out j k HJ.out hk1 (by omega) wr HI.out.new).mono ?_
          rintro e w1 ⟨he, -, hN1⟩
          have he := he HHK.out
          have HN1 : Hid (New w w1) := Lib.hid (HI.out.new.tr hN1)
          have HOk : Hid (w1.ownsRow w.heap.size 5 1 (.slice (some ⟨g, 0, none⟩) fl d) fl (u8s (frameL p l k))) := Lib.hid (by
            have := hN1.own HI.out.own
            rwa [← HFL.out] at this)
          unfold PartSays at he
          dsimp only at he
          obtain ⟨A2, c2, rfl, hO2⟩ := he
          rw [HK55.out] at hO2 ⊢
          have HO2 := Lib.hid hO2
          clear hO2 hN1
          go_wp2_with ((with_reducible refine atOp ⟨some 53, _, _, _, _, _⟩ ?_); refine wpList_app elB _ rfl (.tmp 51) (.tmp 52) rfl w.heap.size (.slice (some ⟨g, 0, none⟩) fl d) fl (u8s (frameL p l k)) rfl HOk.out A2 55 c2 (u8s ((sct p l k).drop 9)) rfl (Rd.own HO2.out rfl) (u8s_one _) (by unfold maxLen; omega) (by omega) HN1.out.size ?_; intro A3 d3 w3 hO3 hF3 hA3; have HO3 := Lib.hid hO3; have HF3 := Lib.hid hF3; clear hO3 hF3 hA3)
          obtain ⟨g3, cap3, hv3, hNc3, hcm3⟩ := own_form HO3.out (by omega)
          injection hv3 with hv31 hv32 hv33
          subst hv31 hv33
          have HN3 : Hid (New w w3) := Lib.hid (HN1.out.fr HF3.out (fun k hk => (own_lt HOk.out k hk).1))
          have HFL2 : Hid (fl + 55 = 55 * (k + 1)) := Lib.hid (by have := HFL.out; omega)
          have HI2 : Hid (NxI w w3 p l (k + 1) (.slice (some ⟨g3, 0, none⟩) (fl + 55) d3)) := Lib.hid ⟨HN3.out, by
            rw [← HFL2.out, frameL_succ]
            have := HO3.out
            unfold u8s at this ⊢
            rw [List.map_append]
            exact this, fun i hi => by
              rcases Nat.lt_or_ge i k with h | h
              · exact HI.out.hdr i h
              · obtain rfl : i = k := by omega
                exact HHK.out, by have := HJ.out; have := HUS.out; omega⟩
          clear hv32
          go_roundw
          case rel => exact ⟨k + 1, g3, d3, fl + 55, by omega, by omega, HFL2, hNc3, hcm3, by go_num, rfl, HI2⟩
          case measure => simp [intOf]; omega
        · have HN : Hid (NX = none) := Lib.hid (by rw [HNX.out]; exact nextL_none (fun hx => hhk (hx.hdr k (by rw [← HMN.out, ← HNN.out]; exact hlt))))
          have HHK := Lib.hid hhk
          clear hhk
          go_wp2_with fail
          refine (HPKb.out j k HJ.out hk1 (by omega) wr HI.out.new).mono ?_
          rintro e w1 ⟨-, he, hN1⟩
          have he := he HHK.out
          have HN1 : Hid (New w w1) := Lib.hid (HI.out.new.tr hN1)
          unfold PartSays at he
          dsimp only at he
          subst he
          clear hN1
          go_wp2_with fail
          go_ret2
          rw [HN.out]
          exact ⟨rfl, HN1.out⟩
    · have hkN : k = N := by omega
      rw [hkN] at HI HFL
      have hltZ : ¬ (k : Int) < (N : Int) := by omega
      clear hkN hk hk1
      have hpos := secN_pos (n := mn) (by rw [← HNN.out]; exact hN0)
      have hfit20 : 20 + mn ≤ fl := by have := HFL.out; have := HNN.out; omega
      have hmn1 : 1 ≤ mn := hpos.1
      have hmn2 : mn ≤ 65536 := hpos.2.1
      obtain ⟨m20, hm20⟩ : ∃ m20, m20 = 20 + mn := ⟨_, rfl⟩
      have e1 : (20 : Int) + (mn : Int) = (m20 : Int) := by omega
      have e2 : IntKind.i64.wrap (m20 : Int) = (m20 : Int) := IntWalk.i64_in _ (by omega)
      have e3 : m20 - 20 = mn := by omega
      have e4 : ¬ d = 20 := by omega
      have e5 : m20 ≤ d := by omega
      have e6 : 20 ≤ m20 := by omega
      have e7 : (m20 : Int) ≤ (d : Int) := by omega
      have e8 : (20 : Int) ≤ (m20 : Int) := by omega
      obtain ⟨bd, hbd⟩ : ∃ bd, bd = l.body p := ⟨_, rfl⟩
      have HBD : Hid (bd = ((frameL p l N).drop 20).take mn) := Lib.hid (by rw [hbd, LG.body, ← HMN.out, ← HNN.out])
      have HBL : Hid (bd.length = mn) := Lib.hid (by rw [hbd, LG.body_len HOK.out (by rw [← HMN.out, ← HNN.out]; exact hN0), HMN.out])
      have HBB : Hid (Byt bd) := Lib.hid (by rw [hbd]; exact LG.body_byt HOK.out l)
      have HBE := Lib.hid hbd
      have HRB : Hid (Rd (RB w.heap.size wr) wr 1 (some ⟨g, 20, none⟩) mn (u8s bd)) := Lib.hid (by
        have h := ((Rd.own HI.out.own (by rw [HFL.out])).imp (q := RB w.heap.size wr) (fun k hk => ⟨(own_lt HI.out.own k hk).1, own_isT' HI.out.own hk⟩)).drop (k := 20) (cap := d) (by rw [← HFL.out]; omega) (by rw [← HFL.out]; exact hfd)
        rw [if_neg e4] at h
        have h2 : Rd (RB w.heap.size wr) wr 1 (some ⟨g, 20, none⟩) (55 * N - 20) (u8s ((frameL p l N).drop 20)) := by
          have e : u8s ((frameL p l N).drop 20) = (u8s (frameL p l N)).drop (20 * 1) := by unfold u8s; rw [List.map_drop]
          rw [e]
          exact h
        have h3 := h2.take (k := mn) (by rw [← HFL.out]; omega)
        rw [← HBD.out] at h3
        exact h3)
      clear hm20 hbd hpos
      have c4' : wr.cell? ⟨gl, 4, none⟩ = some (.int .i64 us) := HI.out.new.cell_ c4
      have HLGr : Hid (Lg wr gl gd l p.size) := Lib.hid (HLG.out.new HI.out.new)
      have hgen := HLGr.out.c3
      obtain ⟨gn, hgn⟩ : ∃ gn, gn = l.gen := ⟨_, rfl⟩
      rw [← hgn] at hgen
      have q3 : ∀ p : HW (New wr), p.w.cell? ⟨gl, 3, none⟩ = some (.int .u32 gn) := fun p => p.h.cell_ hgen
      obtain ⟨tg, htg⟩ : ∃ tg, tg = l.tag := ⟨_, rfl⟩
      have HTG : Hid (∀ W, New wr W → W.rangeAt gl 5 (u8s tg)) := Lib.hid fun W hN => by rw [htg]; exact (HLGr.out.new hN).tagAt
      have HTL : Hid (tg.length = 16 ∧ Byt tg ∧ gn < 4294967296) := Lib.hid ⟨by rw [htg]; exact HLG.out.ok.len, by rw [htg]; exact HLG.out.ok.byt, by rw [hgn]; exact HLG.out.ok.gen⟩
      obtain ⟨TL, hTL⟩ : ∃ TL, TL = tagL tg gn bd := ⟨_, rfl⟩
      have HTE : Hid (TL = tagL l.tag l.gen bd) := Lib.hid (by rw [hTL, htg, hgn])
      have HT16 : Hid (TL.length = 16 ∧ Byt TL) := Lib.hid (by rw [hTL]; exact ⟨tagL_len _ _ _, tagL_byt _ _ _⟩)
      have HTLE := Lib.hid hTL
      have hszT : (secA TL).size = 16 := by rw [secA_size, HT16.out.1]
      have HSZ := Lib.hid hszT
      clear hgen hgn htg hTL hszT
      go_wp2_with fail
      apply wp_join (α := Nat) (fun b w5 => New wr w5 ∧ Blk w5 b 65 (secA TL))
      case h1 =>
        intro K' hK'
        refine wp_region_tree (New wr) (.take 0 (.take 1 (.take 2 (.take 3 (.take 4 (.take 5 (.take 6 (.take 7 (.take 8 (.two 9 (.act 10 (.act 11 .done)) 10 (.act 9 (.act 11 .done)))))))))))) (by kernel_rfl) (by kernel_rfl) (New.dr (New.refl wr)) (fun hne => ?_)
        iterate 3 (refine tree_take (o := ⟨_, _, _, _, _, _⟩) rfl (fun K hK => ?_); go_simp; refine hK _ ?_; clear hK K)
        refine tree_take_row (o := ⟨_, _, _, _, _, _⟩) rfl rfl (.tmp 60) rfl rfl (fun W hN => HTG.out W hN) Tryd.underlying65 rfl (by rw [u8s_len, HTL.out.1]; rfl) ?_
        simp only [Act.put, List.setIfInBounds_toArray, List.set_cons_zero, List.set_cons_succ]
        iterate 5 (refine tree_take (o := ⟨_, _, _, _, _, _⟩) rfl (fun K hK => ?_); go_simp; refine hK _ ?_; clear hK K)
        refine ⟨?_, ?_⟩
        · refine act_ok (o := ⟨_, _, _, _, _, _⟩) rfl (fun K hK => ?_) (.inl rfl)
          go_simp
          refine (tagged_any tg gn (some ⟨g, 20, none⟩) mn (d - 20) bd wr.drew (((HL.out.new HI.out.new)).new (New.dr (New.refl wr))) ((New.dr (New.refl wr)).rd HRB.out) HBB.out HTL.out.1 HTL.out.2.1 HTL.out.2.2 (by omega)).mono ?_
          rintro e w4 ⟨rfl, hN4⟩
          rw [← HTLE.out]
          have HN4 : Hid (New wr w4) := Lib.hid (New.tr (New.dr (New.refl wr)) hN4)
          clear hN4
          go_simp
          refine hK.out _ _ HN4.out ?_
          clear hK K
          refine tree_act_alloc (o := ⟨_, _, _, _, _, _⟩) rfl rfl rfl tagInfo ?_
          intro b5 w5 hb5 hB5 hN5
          have HL5 : Hid (wr.heap.size ≤ b5) := Lib.hid (by have := HN4.out.size; omega)
          refine ⟨HN4.out.tr hN5, ?_⟩
          clear hb5
          simp only [Act.put, List.setIfInBounds_toArray, List.set_cons_zero, List.set_cons_succ]
          refine act_store (o := ⟨_, _, _, _, _, _⟩) (cs := secA TL) rfl rfl (.tmp 12) (.tmp 67) rfl (by rw [HSZ.out]; rfl) rfl rfl hB5 (by rw [HSZ.out]; rfl) (secA_one _) ?_
          intro w6 hB6 hF6
          have hN6 : New wr w6 := (HN4.out.tr hN5).fr hF6 (fun k hk => by have := HL5.out; omega)
          refine ⟨hN6, ?_⟩
          simp only [Act.put, List.setIfInBounds_toArray, List.set_cons_zero, List.set_cons_succ]
          refine tree_done ?_
          exact hK'.out b5 w6 ⟨hN6, hB6⟩
        · refine act_alloc (o := ⟨_, _, _, _, _, _⟩) rfl rfl rfl tagInfo ?_
          intro b5 w5 hb5 hB5 hN5
          have HN5 : Hid (New wr w5) := Lib.hid ((New.dr (New.refl wr)).tr hN5)
          have HB5 := Lib.hid hB5
          have HL5 : Hid (wr.heap.size ≤ b5) := Lib.hid (by rw [hb5]; exact Nat.le_refl _)
          refine ⟨HN5.out, ?_⟩
          clear hb5 hB5 hN5
          simp only [Act.put, List.setIfInBounds_toArray, List.set_cons_zero, List.set_cons_succ]
          refine tree_act (o := ⟨_, _, _, _, _, _⟩) rfl (fun K hK => ?_) (.inl rfl)
          go_simp
          refine (tagged_any tg gn (some ⟨g, 20, none⟩) mn (d - 20) bd w5 (((HL.out.new HI.out.new)).new HN5.out) (HN5.out.rd HRB.out) HBB.out HTL.out.1 HTL.out.2.1 HTL.out.2.2 (by omega)).mono ?_
          rintro e w4 ⟨rfl, hN4⟩
          rw [← HTLE.out]
          have HB4 := Lib.hid (hN4.blk HB5.out)
          have HN4 : Hid (New wr w4) := Lib.hid (HN5.out.tr hN4)
          clear hN4
          go_simp
          refine hK.out _ _ HN4.out ?_
          clear hK K
          refine act_store (o := ⟨_, _, _, _, _, _⟩) (cs := secA TL) rfl rfl (.tmp 12) (.tmp 67) rfl (by rw [HSZ.out]; rfl) rfl rfl HB4.out (by rw [HSZ.out]; rfl) (secA_one _) ?_
          intro w6 hB6 hF6
          have hN6 : New wr w6 := HN4.out.fr hF6 (fun k hk => by have := HL5.out; omega)
          refine ⟨hN6, ?_⟩
          simp only [Act.put, List.setIfInBounds_toArray, List.set_cons_zero, List.set_cons_succ]
          refine tree_done ?_
          exact hK'.out b5 w6 ⟨hN6, hB6⟩
      case h2 =>
        rintro b5 w5 ⟨hN5, hB5⟩
        have HN5 := Lib.hid hN5
        have HB5 := Lib.hid hB5
        clear hN5 hB5 q3
        have HLG5 : Hid (Lg w5 gl gd l p.size) := Lib.hid (HLGr.out.new HN5.out)
        have HNw : Hid (New w w5) := Lib.hid (HI.out.new.tr HN5.out)
        obtain ⟨fx, hfx⟩ : ∃ fx, fx = ((frameL p l N).drop 4).take 16 := ⟨_, rfl⟩
        have HFX := Lib.hid hfx
        have hd4 : ¬ d = 4 := by omega
        have hd20 : 20 ≤ d := by omega
        have hd20i : (20 : Int) ≤ (d : Int) := by omega
        have HRF : Hid (∀ W, New w5 W → Rd (fun k => w.heap.size ≤ k) W 1 (some ⟨g, 4, none⟩) 16 (u8s fx)) := Lib.hid (fun W hN => by
          have h := ((Rd.own HI.out.own (by rw [HFL.out])).imp (q := fun k => w.heap.size ≤ k) (fun k hk => (own_lt HI.out.own k hk).1)).drop (k := 4) (cap := d) (by rw [← HFL.out]; omega) (by rw [← HFL.out]; exact hfd)
          rw [if_neg hd4] at h
          have h2 : Rd (fun k => w.heap.size ≤ k) wr 1 (some ⟨g, 4, none⟩) (55 * N - 4) (u8s ((frameL p l N).drop 4)) := by
            have e : u8s ((frameL p l N).drop 4) = (u8s (frameL p l N)).drop (4 * 1) := by unfold u8s; rw [List.map_drop]
            rw [e]
            exact h
          have h3 := h2.take (k := 16) (by rw [← HFL.out]; omega)
          rw [← hfx] at h3
          exact hN.rd (HN5.out.rd h3))
        have HRT : Hid (∀ W, New w5 W → Rd (fun _ => True) W 1 (some ⟨b5, 0, none⟩) 16 (u8s TL)) := Lib.hid (fun W hN => by
          have h := Rd.ofBlk (p := fun _ => True) (hN.blk HB5.out) 1 16 (by rw [HSZ.out]) trivial
          rwa [secA_list] at h)
        have HFB : Hid (Byt fx) := Lib.hid (by rw [hfx]; exact fun x hx => frameL_byt HOK.out l N x (List.mem_of_mem_drop (List.mem_of_mem_take hx)))
        clear hfx
        have hb5 : w5.cell? ⟨gl, 4, none⟩ = some (.int .i64 us) := HN5.out.cell_ c4'
        by_cases htt : fx = TL
        · have hdec : decide (fx = TL) = true := decide_eq_true htt
          have HDEC := Lib.hid hdec
          have HNx : Hid (l.Next p) := Lib.hid ⟨by have := HUS.out; omega, by rw [← HMN.out, ← HNN.out]; exact hN0, by rw [← HMN.out, ← HNN.out]; exact HI.out.fit, by rw [← HMN.out, ← HNN.out]; exact HI.out.hdr, by rw [← HMN.out, ← HNN.out, ← HFX.out, htt, HTE.out, HBE.out]⟩
          have HN : Hid (NX = some bd) := Lib.hid (by rw [HNX.out, nextL_some HNx.out, HBE.out])
          clear htt hdec
          go_wp2_with fail
          refine wp_region_mixH (New w5) [(true, 0), (true, 1), (true, 2), (false, 3), (true, 4)] (by kernel_rfl) (by kernel_rfl) (New.dr (New.refl w5)) (fun hne => ?_)
          iterate 3 (refine mix_take (o := ⟨_, _, _, _, _, _⟩) rfl (fun K hK => ?_); go_simp; refine hK _ ?_; clear hK K)
          refine mix_act (o := ⟨_, _, _, _, _, _⟩) rfl (fun K hK => ?_) (.inl rfl)
          go_simp
          refine (sequal_any (some ⟨g, 4, none⟩) (some ⟨b5, 0, none⟩) 16 16 (d - 4) 16 fx TL w5.drew (HRF.out _ (New.dr (New.refl w5))) (HRT.out _ (New.dr (New.refl w5))) HFB.out HT16.out.2 (by omega) (by omega)).mono ?_
          rintro e w6 ⟨rfl, hN6⟩
          rw [HDEC.out]
          have HN6 : Hid (New w5 w6) := Lib.hid (New.tr (New.dr (New.refl w5)) hN6)
          clear hN6
          go_simp
          refine hK.out _ _ (fun _ => HN6.out) ?_
          clear hK K
          iterate 1 (refine mix_take (o := ⟨_, _, _, _, _, _⟩) rfl (fun K hK => ?_); go_simp; refine hK _ ?_; clear hK K)
          refine mix_done ?_
          have HLG6 : Hid (Lg w6 gl gd l p.size) := Lib.hid (HLG5.out.new HN6.out)
          have HB6 : Hid (Blk w6 b5 65 (secA TL)) := Lib.hid (HN6.out.blk HB5.out)
          have c6 : w6.cell? ⟨gl, 4, none⟩ = some (.int .i64 us) := HN6.out.cell_ hb5
          have f6 : w6.frozen? ⟨gl, 4, none⟩ = false := HLG6.out.blk.frozen 4
          obtain ⟨u2', hu2'⟩ : ∃ u2, u2 = us + N := ⟨_, rfl⟩
          have g1 : (us : Int) + (N : Int) = (u2' : Int) := by omega
          have g2 : IntKind.i64.wrap (u2' : Int) = (u2' : Int) := IntWalk.i64_in _ (by omega)
          have HU2 : Hid (u2' = l.used + secN bd.length ∧ u2' ≤ l.size) := Lib.hid ⟨by rw [hu2', HBL.out, HUS.out, HNN.out], by have := HNx.out.fit; rw [← HMN.out, ← HNN.out] at this; have := HUS.out; omega⟩
          clear hu2' hb5 c4' e1 e2 e3 e4 e5 e6 e7 e8
          go_upto_region 20 with fail
          obtain ⟨w7, hw7⟩ : ∃ w7, w7 = w6.setCell ⟨gl, 4, none⟩ (.int .i64 u2') := ⟨_, rfl⟩
          have HLG7 : Hid (Lg w7 gl gd { l with used := u2' } p.size) := Lib.hid (by rw [hw7]; exact HLG6.out.setUsed u2' HU2.out.2)
          have HF7r : Hid (Fr (fun k => k = gl) wr w7) := Lib.hid (by rw [hw7]; exact Fr.setCell (S := fun k => k = gl) (p := ⟨gl, 4, none⟩) ((HN5.out.tr HN6.out).toFr _) (fun _ => rfl) _)
          have HF7 : Hid (Fr (fun k => k = gl) w w7) := Lib.hid ((HI.out.new.toFr _).trans HF7r.out)
          have HB7 : Hid (Blk w7 b5 65 (secA TL)) := Lib.hid (by
            rw [hw7]
            refine HB6.out.far (fun e => ?_) _
            exact Blk.ne_ HB6.out HLG6.out.blk (by decide) e)
          rw [← hw7]
          clear hw7 c6 f6 g1 g2
          refine wp_region_list ?_
          refine wpList_step fun K hK => ?_
          go_simp
          refine hK _ _ ?_
          clear hK K
          refine wpList_load_any rfl _ rfl Tryd.underlying65 rfl (by rw [HSZ.out]; rfl) rfl HB7.out ?_
          iterate 2 (refine wpList_step fun K hK => ?_; go_simp; refine hK _ _ ?_; clear hK K)
          refine wpList_store_part rfl (.tmp 84) (.tmp 82) rfl rfl rfl HLG7.out.blk (cells := u8s TL) (by rw [u8s_len, HT16.out.1, lgA_len HLG7.out.ok.len]; decide) (by rw [u8s_len, HT16.out.1]; rfl) (u8s_one _) ?_
          intro w8 hb8 hf8
          have HB8 := Lib.hid hb8
          have HF8 := Lib.hid hf8
          clear hb8 hf8
          simp only [Act.put, List.setIfInBounds_toArray, List.set_cons_zero, List.set_cons_succ]
          go_wp2_with fail
          go_ret2
          rw [HN.out]
          have HF8r : Fr (fun k => k = gl) wr w8 := HF7r.out.trans HF8.out
          have HRBd : Rd (RB w.heap.size w8) w8 1 (some ⟨g, 20, none⟩) mn (u8s bd) := by
            have hne : ∀ k, RB w.heap.size wr k → ¬ k = gl := fun k hk hs => by
              have := HLG.out.blk.lt
              have := hk.1
              omega
            exact (HRB.out.fr HF8r hne).imp (fun k hk => ⟨hk.1, hk.2.fr HF8r (hne k hk)⟩)
          refine ⟨some ⟨g, 20, none⟩, d - 20, by rw [HBL.out]; rfl, by rw [HBL.out]; omega, by omega, HBB.out, by rw [HBL.out]; exact HRBd, ⟨?_, HNx.out.ok HOK.out HLG.out.ok |> fun h => by rw [HBE.out]; exact h⟩, HF7.out.trans HF8.out⟩
          have := HB8.out
          rw [lgA_tag HLG7.out.ok.len gd TL HT16.out.1] at this
          have e : l.step bd = { ({ l with used := u2' } : LG) with tag := TL } := by
            unfold LG.step
            rw [← HU2.out.1, ← HTE.out]
          rw [e]
          exact this
        · have hdec : decide (fx = TL) = false := decide_eq_false htt
          have HDEC := Lib.hid hdec
          have HN : Hid (NX = none) := Lib.hid (by rw [HNX.out]; exact nextL_none (fun hx => htt (by have := hx.tag; rw [← HMN.out, ← HNN.out, ← HFX.out, ← HBE.out] at this; rw [this, HTE.out])))
          clear htt hdec
          go_wp2_with fail
          refine wp_region_mixH (New w5) [(true, 0), (true, 1), (true, 2), (false, 3), (true, 4)] (by kernel_rfl) (by kernel_rfl) (New.dr (New.refl w5)) (fun hne => ?_)
          iterate 3 (refine mix_take (o := ⟨_, _, _, _, _, _⟩) rfl (fun K hK => ?_); go_simp; refine hK _ ?_; clear hK K)
          refine mix_act (o := ⟨_, _, _, _, _, _⟩) rfl (fun K hK => ?_) (.inl rfl)
          go_simp
          refine (sequal_any (some ⟨g, 4, none⟩) (some ⟨b5, 0, none⟩) 16 16 (d - 4) 16 fx TL w5.drew (HRF.out _ (New.dr (New.refl w5))) (HRT.out _ (New.dr (New.refl w5))) HFB.out HT16.out.2 (by omega) (by omega)).mono ?_
          rintro e w6 ⟨rfl, hN6⟩
          rw [HDEC.out]
          have HN6 : Hid (New w5 w6) := Lib.hid (New.tr (New.dr (New.refl w5)) hN6)
          clear hN6
          go_simp
          refine hK.out _ _ (fun _ => HN6.out) ?_
          clear hK K
          iterate 1 (refine mix_take (o := ⟨_, _, _, _, _, _⟩) rfl (fun K hK => ?_); go_simp; refine hK _ ?_; clear hK K)
          refine mix_done ?_
          go_wp2_with fail
          go_ret2
          rw [HN.out]
          exact ⟨rfl, HNw.out.tr HN6.out⟩
end Go.Proofs.YteeclfejgpgooaaDoor
/- What is behind a log's records is overwritten. No condition. -/
namespace Go.Proofs.YteeclfejgpgooaaDoor
set_option linter.unusedVariables false
set_option linter.unusedSimpArgs false
set_option linter.constructorNameAsVariable false
open Go.RowKit Go.Sort

/-- A disk that went on: what it is now; what else is as it was. -/
structure DkTo (w : World) (base g bs bf : Nat) (v : Value) (p : DP) (w' : World) (v' : Value) : Prop where
  dk : Dk w' base g bs bf v' p
  fr : Fr (DkOurs g bs bf v) w w'
  own : ∀ k, v'.ownBlock = some k → base ≤ k ∧ (v.ownBlock = some k ∨ w.heap.size ≤ k)
section
variable {w w' w'' : World} {base g bs bf : Nat} {v v' v'' : Value} {p q : DP}
theorem DkTo.same (h : Dk w base g bs bf v p) (hN : New w w') : DkTo w base g bs bf v p w' v := ⟨h.new hN, hN.toFr _, fun k hk => ⟨(h.ours k (.inr (.inr (.inr hk)))).1, .inl hk⟩⟩
theorem DkTo.new (h : DkTo w base g bs bf v p w' v') (hN : New w' w'') : DkTo w base g bs bf v p w'' v' := ⟨h.dk.new hN, h.fr.trans (hN.toFr _), h.own⟩
theorem DkTo.tr (h : DkTo w base g bs bf v p w' v') (k : DkTo w' base g bs bf v' q w'' v'') : DkTo w base g bs bf v q w'' v'' :=
  ⟨k.dk, h.fr.trans' k.fr (fun b hb ho => by
    rcases ho with ho | ho | ho | ho
    · exact .inl ho
    · exact .inr (.inl ho)
    · exact .inr (.inr (.inl ho))
    · rcases (h.own b ho).2 with h1 | h1
      · exact .inr (.inr (.inr h1))
      · omega), fun b hb => ⟨(k.own b hb).1, by
    rcases (k.own b hb).2 with h1 | h1
    · exact (h.own b h1).2
    · exact .inr (by have := h.fr.size; omega)⟩⟩
end
theorem dk_notBlk {w : World} {base g bs bf : Nat} {v : Value} {p : DP} (h : Dk w base g bs bf v p) {k t : Nat} {cs : Array Value} (hk : Blk w k t cs) (h1 : k ≠ g) (h2 : t ≠ 3) : ¬ DkOurs g bs bf v k := by
  rintro (ho | ho | ho | ho)
  · exact h1 ho
  · exact blk_map hk h.ms ho
  · exact blk_map hk h.mw ho
  · exact own_ne h.own hk (Ne.symm h2) ho
theorem lg_apart {w : World} {base gl g bs bf n : Nat} {v : Value} {p : DP} {l : LG} (h : Dk w base g bs bf v p) (hl : Lg w gl g l n) : ¬ DkOurs g bs bf v gl :=
  dk_notBlk h hl.blk (fun e => Blk.ne_ (g := gl) (g' := g) hl.blk h.blk (by decide) e) (by decide)
theorem wipeN_size (p : DP) (l : LG) : ∀ k, (wipeN p l k).1.size = p.size
  | 0 => rfl
  | k + 1 => by
    have ih := wipeN_size p l k
    simp only [wipeN]
    split
    · exact ih
    · split
      · exact (DP.doWrite_size _ _ _).trans ih
      · exact ih
theorem wipeN_bad {p : DP} {l : LG} {k : Nat} (h : (wipeN p l k).2.2 ≠ 0) : ∀ j, wipeN p l (k + j) = wipeN p l k
  | 0 => rfl
  | j + 1 => by
    have ih := wipeN_bad h j
    rw [← Nat.add_assoc]
    simp only [wipeN]
    rw [ih, if_pos h]
theorem wipeN_skip {p : DP} {l : LG} {k : Nat} (h : (wipeN p l k).2.2 = 0) (hg : ¬ valL ((sct (wipeN p l k).1 l k).take 4) = l.gen) : wipeN p l (k + 1) = wipeN p l k := by
  simp only [wipeN]
  rw [if_neg (by rw [h]; simp), if_neg hg]
theorem wipeN_hit {p : DP} {l : LG} {k : Nat} (h : (wipeN p l k).2.2 = 0) (hg : valL ((sct (wipeN p l k).1 l k).take 4) = l.gen) : wipeN p l (k + 1) = ((wipeN p l k).1.doWrite ((l.first + l.used + k : Nat) : Int) sec0, (if (wipeN p l k).1.wcode ((l.first + l.used + k : Nat) : Int) = 0 then true else (wipeN p l k).2.1), (wipeN p l k).1.wcode ((l.first + l.used + k : Nat) : Int)) := by
  simp only [wipeN]
  rw [if_neg (by rw [h]; simp), if_pos hg]
theorem errD_ret {a b : Int} (h : a = b) : Ending.returned (errD a) = Ending.returned (errD b) := by rw [h]
/-- wipe's answer. -/
def WipeSays (w : World) (base g bs bf : Nat) (v : Value) (r : DP × Int) (e : Ending) (w' : World) : Prop := e = .returned (errD r.2) ∧ ∃ v', DkTo w base g bs bf v r.1 w' v'
/-- The two cells that are read. -/
def Cells2 (gl : Nat) (x y : Value) (w : World) : Prop := w.cell? ⟨gl, 0, none⟩ = some x ∧ w.cell? ⟨gl, 1, none⟩ = some y
set_option maxHeartbeats 3000000 in
set_option maxRecDepth 100000 in
theorem wipe_any {w : World} {gl gd base bs bf : Nat} {v : Value} {p : DP} {l : LG} (h : Lg w gl gd l p.size) (hD : Dk w base gd bs bf v p) :
    Calls Tryd.prog 41 #[.pointer (some ⟨gl, 0, none⟩)] w (WipeSays w base gd bs bf v (wipeL p l)) := by
  have HLG := Lib.hid h
  have HAP : Hid (¬ DkOurs gd bs bf v gl) := Lib.hid (lg_apart hD h)
  have HD0 : Hid (DkTo w base gd bs bf v p w v) := Lib.hid (DkTo.same hD (New.refl w))
  have hsz := hD.ok.s2
  have hfit := h.ok.fit
  have hused := h.ok.used
  have HGN : Hid (l.gen < 4294967296) := Lib.hid h.ok.gen
  obtain ⟨us, hus⟩ : ∃ us, us = l.used := ⟨_, rfl⟩
  obtain ⟨fs, hfs⟩ : ∃ fs, fs = l.first := ⟨_, rfl⟩
  obtain ⟨sz, hsz2⟩ : ∃ sz, sz = l.size := ⟨_, rfl⟩
  obtain ⟨gen, hgn⟩ : ∃ gen, gen = l.gen := ⟨_, rfl⟩
  have c4 := h.c4
  rw [← hus] at c4 hused
  rw [← hgn] at HGN
  rw [← hfs] at hfit
  rw [← hsz2] at hused hfit
  have hu1 : us ≤ sz := hused
  have hsz1 : fs + sz ≤ 16384 := by omega
  have HEQ : Hid (us = l.used ∧ fs = l.first ∧ sz = l.size ∧ gen = l.gen) := Lib.hid ⟨hus, hfs, hsz2, hgn⟩
  have HPS : Hid (fs + sz ≤ p.size) := Lib.hid hfit
  have HLC : Hid (∀ W : World, W.heap[gl]? = w.heap[gl]? → W.cell? ⟨gl, 0, none⟩ = some (.pointer (some ⟨gd, 0, none⟩)) ∧ W.cell? ⟨gl, 1, none⟩ = some (.int .i64 fs) ∧ W.cell? ⟨gl, 2, none⟩ = some (.int .i64 sz) ∧ W.cell? ⟨gl, 3, none⟩ = some (.int .u32 gen)) := Lib.hid fun W hW => by
    have hb : Lg W gl gd l p.size := ⟨hW.trans h.blk, h.ok⟩
    rw [hfs, hsz2, hgn]
    exact ⟨hb.c0, hb.c1, hb.c2, hb.c3⟩
  have HLT := Lib.hid h.blk.lt
  obtain ⟨WL, hWL⟩ : ∃ WL, WL = wipeL p l := ⟨_, rfl⟩
  rw [← hWL]
  have HWL : Hid (WL = (if (wipeN p l (sz - us)).2.2 ≠ 0 then ((wipeN p l (sz - us)).1, (wipeN p l (sz - us)).2.2) else if (wipeN p l (sz - us)).2.1 = true then ((wipeN p l (sz - us)).1.doSync, (wipeN p l (sz - us)).1.scode) else ((wipeN p l (sz - us)).1, 0))) := Lib.hid (by rw [hWL, hsz2, hus]; rfl)
  clear h hD hfit hused hus hfs hsz2 hgn hsz hWL
  go_enter Tryd.func41, Tryd.ntmps41
  go_wp2_with fail
  go_loopw [3, 4] (fun wd i wr => ∃ (k : Nat) (i0 : Nat) (b : Bool) (v' : Value), Hid (i0 = us + k) ∧ i0 ≤ sz ∧ i = .int .i64 i0 ∧ wd = .bool b ∧ Hid (b = (wipeN p l k).2.1) ∧ Hid ((wipeN p l k).2.2 = 0) ∧ Hid (DkTo w base gd bs bf v (wipeN p l k).1 wr v')) (fun _ i _ => sz - (intOf i).toNat)
  case atStart => exact ⟨0, us, false, v, Lib.hid rfl, hu1, rfl, rfl, Lib.hid rfl, Lib.hid rfl, HD0⟩
  case round =>
    clear HD0 c4
    obtain ⟨k, i, b, v', HI, hi, rfl, rfl, HB, HE, HD⟩ := hrel
    have hcs := HLC.out wr (HD.out.fr.block gl HLT.out HAP.out)
    have HGL : Hid (wr.heap[gl]? = w.heap[gl]?) := Lib.hid (HD.out.fr.block gl HLT.out HAP.out)
    have c2 := hcs.2.2.1
    have c0' := hcs.1
    have c1' := hcs.2.1
    have HC := Lib.hid hcs
    clear hcs
    have q0 : ∀ p : HW (New wr), p.w.cell? ⟨gl, 0, none⟩ = some (.pointer (some ⟨gd, 0, none⟩)) := fun p => p.h.cell_ c0'
    have q1 : ∀ p : HW (New wr), p.w.cell? ⟨gl, 1, none⟩ = some (.int .i64 fs) := fun p => p.h.cell_ c1'
    clear c0' c1'
    by_cases hlt : i < sz
    · have hlt' : (i : Int) < (sz : Int) := by omega
      obtain ⟨a, ha⟩ : ∃ a, a = fs + i := ⟨_, rfl⟩
      have e1 : (fs : Int) + (i : Int) = (a : Int) := by omega
      have e2 : IntKind.i64.wrap (a : Int) = (a : Int) := IntWalk.i64_in _ (by omega)
      have HA : Hid (a = l.first + l.used + k) := Lib.hid (by have := HI.out; have := HEQ.out; omega)
      obtain ⟨q, hq⟩ : ∃ q, q = (wipeN p l k).1 := ⟨_, rfl⟩
      have HQ := Lib.hid hq
      rw [← hq] at HD
      have HQS : Hid (q.size = p.size) := Lib.hid (by rw [hq]; exact wipeN_size p l k)
      obtain ⟨s, hs⟩ : ∃ s, s = q.rget (a : Int) := ⟨_, rfl⟩
      have HSC : Hid (s = sct (wipeN p l k).1 l k) := Lib.hid (by rw [hs, ← hq, sct, HA.out])
      have HS : Hid (SecOk s) := Lib.hid (by rw [hs]; exact HD.out.dk.ok.rget _)
      have HRG : Hid (q.rget (a : Int) = s) := Lib.hid hs.symm
      have HWI : Hid (q.within (a : Int) = true) := Lib.hid (by unfold DP.within; have := HQS.out; have := HPS.out; exact decide_eq_true (by omega))
      have HRC : Hid (q.rcode (a : Int) = 0) := Lib.hid (by unfold DP.rcode; rw [HWI.out, if_pos rfl])
      have hszA : (secA s).size = 64 := by rw [secA_size, HS.out.1]
      have HSZ := Lib.hid hszA
      have HAA := Lib.hid ha
      clear hszA hq hs ha
      go_wp2_with fail
      apply wp_join (α := Nat) (fun b w3 => New wr w3 ∧ Blk w3 b 35 (secA s))
      case h1 =>
        intro K' hK'
        refine wp_region_tree (New wr) (.take 0 (.take 1 (.take 2 (.take 3 (.take 4 (.take 5 (.take 6 (.take 7 (.take 8 (.take 9 (.two 10 (.take 11 (.take 12 (.take 13 (.act 14 (.act 15 (.take 16 .done)))))) 14 (.act 10 (.take 11 (.take 12 (.take 13 (.act 15 (.take 16 .done))))))))))))))))) (by kernel_rfl) (by kernel_rfl) (New.dr (New.refl wr)) (fun hne => ?_)
        iterate 10 (refine tree_take (o := ⟨_, _, _, _, _, _⟩) rfl (fun K hK => ?_); go_simp; refine hK _ ?_; clear hK K)
        refine ⟨?_, ?_⟩
        · refine act_ok (o := ⟨_, _, _, _, _, _⟩) rfl (fun K hK => ?_) (.inl rfl)
          go_simp
          refine (read_all (HD.out.dk.new (New.dr (New.refl wr))) (a : Int)).mono ?_
          rintro e w1 ⟨rfl, hN1⟩
          rw [HRG.out, HRC.out, errD_0]
          have HN1 : Hid (New wr w1) := Lib.hid (New.tr (New.dr (New.refl wr)) hN1)
          clear hN1
          go_simp
          refine hK.out _ _ HN1.out ?_
          clear hK K
          iterate 3 (refine tree_take (o := ⟨_, _, _, _, _, _⟩) rfl (fun K hK => ?_); go_simp; refine hK _ ?_; clear hK K)
          refine tree_act_alloc (o := ⟨_, _, _, _, _, _⟩) rfl rfl rfl secInfo ?_
          intro b8 w2 hb8 hB2 hN2
          have HL2 : Hid (wr.heap.size ≤ b8) := Lib.hid (by have := HN1.out.size; omega)
          refine ⟨HN1.out.tr hN2, ?_⟩
          clear hb8
          simp only [Act.put, List.setIfInBounds_toArray, List.set_cons_zero, List.set_cons_succ]
          refine act_store (o := ⟨_, _, _, _, _, _⟩) (cs := secA s) rfl rfl (.tmp 5) (.tmp 32) rfl (by rw [HSZ.out]; rfl) rfl rfl hB2 (by rw [HSZ.out]; rfl) (secA_one _) ?_
          intro w3 hB3 hF3
          have hN3 : New wr w3 := (HN1.out.tr hN2).fr hF3 (fun k hk => by have := HL2.out; omega)
          refine ⟨hN3, ?_⟩
          simp only [Act.put, List.setIfInBounds_toArray, List.set_cons_zero, List.set_cons_succ]
          iterate 1 (refine tree_take (o := ⟨_, _, _, _, _, _⟩) rfl (fun K hK => ?_); go_simp; refine hK _ ?_; clear hK K)
          refine tree_done ?_
          exact hK'.out b8 w3 ⟨hN3, hB3⟩
        · refine act_alloc (o := ⟨_, _, _, _, _, _⟩) rfl rfl rfl secInfo ?_
          intro b8 w2 hb8 hB2 hN2
          have HN2 : Hid (New wr w2) := Lib.hid ((New.dr (New.refl wr)).tr hN2)
          have HB2 := Lib.hid hB2
          have HL2 : Hid (wr.heap.size ≤ b8) := Lib.hid (by rw [hb8]; exact Nat.le_refl _)
          refine ⟨HN2.out, ?_⟩
          clear hb8 hB2 hN2
          simp only [Act.put, List.setIfInBounds_toArray, List.set_cons_zero, List.set_cons_succ]
          refine tree_act (o := ⟨_, _, _, _, _, _⟩) rfl (fun K hK => ?_) (.inl rfl)
          go_simp
          refine (read_all (HD.out.dk.new HN2.out) (a : Int)).mono ?_
          rintro e w1 ⟨rfl, hN1⟩
          rw [HRG.out, HRC.out, errD_0]
          have HB1 := Lib.hid (hN1.blk HB2.out)
          have HN1 : Hid (New wr w1) := Lib.hid (HN2.out.tr hN1)
          clear hN1
          go_simp
          refine hK.out _ _ HN1.out ?_
          clear hK K
          iterate 3 (refine tree_take (o := ⟨_, _, _, _, _, _⟩) rfl (fun K hK => ?_); go_simp; refine hK _ ?_; clear hK K)
          refine act_store (o := ⟨_, _, _, _, _, _⟩) (cs := secA s) rfl rfl (.tmp 5) (.tmp 32) rfl (by rw [HSZ.out]; rfl) rfl rfl HB1.out (by rw [HSZ.out]; rfl) (secA_one _) ?_
          intro w3 hB3 hF3
          have hN3 : New wr w3 := HN1.out.fr hF3 (fun k hk => by have := HL2.out; omega)
          refine ⟨hN3, ?_⟩
          simp only [Act.put, List.setIfInBounds_toArray, List.set_cons_zero, List.set_cons_succ]
          iterate 1 (refine tree_take (o := ⟨_, _, _, _, _, _⟩) rfl (fun K hK => ?_); go_simp; refine hK _ ?_; clear hK K)
          refine tree_done ?_
          exact hK'.out b8 w3 ⟨hN3, hB3⟩
      case h2 =>
        rintro b8 w3 ⟨hN3, hB3⟩
        have HN3 := Lib.hid hN3
        have HB3 := Lib.hid hB3
        clear hN3 hB3 q0 q1 c2
        have HC3 := Lib.hid (HN3.out.cell_ HC.out.2.2.2)
        have HR4 : Hid (∀ W, New w3 W → Rd (fun _ => True) W 1 (some ⟨b8, 0, none⟩) 4 (u8s (s.take 4))) := Lib.hid (fun W hN => by
          have h := Rd.ofBlk (p := fun _ => True) (hN.blk HB3.out) 1 64 (by rw [HSZ.out]) trivial
          rw [secA_list] at h
          exact h.take (by omega))
        have q3 : ∀ p : HW (New w3), p.w.cell? ⟨gl, 3, none⟩ = some (.int .u32 gen) := fun p => p.h.cell_ HC3.out
        have kg : IntKind.u64.wrap (gen : Int) = (gen : Int) := by have := HGN.out; rw [IntKind.wrap_u64]; omega
        obtain ⟨v1, hv1⟩ : ∃ v1, v1 = valL (s.take 4) := ⟨_, rfl⟩
        have X1 : Hid ((Rs.mk (s.take 4) 0).num 4 = (v1, ⟨[], 0⟩)) := Lib.hid (by
          rw [num_of (by rw [List.length_take, HS.out.1]; decide), List.take_of_length_le (by rw [List.length_take, HS.out.1]; decide), List.drop_of_length_le (by rw [List.length_take, HS.out.1]; decide), hv1])
        have HV1 := Lib.hid hv1
        have hgl0 : (gen : Int) < 18446744073709551616 := by have := HGN.out; omega
        have HGL8 : Hid (gl < w3.heap.size) := Lib.hid (by have := HLT.out; have := HD.out.fr.size; have := HN3.out.size; omega)
        clear hv1 hgl0
        by_cases t1 : v1 = gen
        · have d1 : (v1 : Int) = (gen : Int) := by omega
          have T1 := Lib.hid t1
          clear t1
          go_wp2_with fail
          refine wp_region_mixH (New w3) [(true, 0), (true, 3), (true, 4), (true, 5), (true, 6), (true, 7), (false, 1), (false, 2), (true, 8), (true, 9)] (by kernel_rfl) (by kernel_rfl) (New.dr (New.refl w3)) (fun hne => ?_)
          iterate 6 (refine mix_take (o := ⟨_, _, _, _, _, _⟩) rfl (fun K hK => ?_); go_simp; refine hK _ ?_; clear hK K)
          refine mix_act (o := ⟨_, _, _, _, _, _⟩) rfl (fun K hK => ?_) (.inl rfl)
          go_simp
          refine (from_any (some ⟨b8, 0, none⟩) 4 64 (s.take 4) w3.drew (HR4.out _ (New.dr (New.refl w3))) (fun x hx => HS.out.2 x (List.mem_of_mem_take hx)) (by omega)).mono ?_
          rintro e w4 ⟨r, rfl, hRI, hN4, hr⟩
          have HRI := Lib.hid hRI
          have HN4 : Hid (New w3 w4) := Lib.hid ((New.dr (New.refl w3)).tr hN4)
          have HRL : Hid (w3.heap.size ≤ r) := Lib.hid hr
          clear hRI hN4 hr
          go_simp
          refine hK.out _ _ (fun _ => HN4.out) ?_
          clear hK K
          refine mix_act (o := ⟨_, _, _, _, _, _⟩) rfl (fun K hK => ?_) (.inl rfl)
          go_simp
          refine (rnum_any HRI.out 4 (by omega)).mono ?_
          rintro e w5 ⟨rfl, -, hF5⟩
          rw [X1.out]
          dsimp only
          have HN5 : Hid (New w3 w5) := Lib.hid (HN4.out.fr hF5 (fun k hk => by have := HRL.out; omega))
          clear hF5
          go_simp
          refine hK.out _ _ (fun _ => HN5.out) ?_
          clear hK K
          iterate 2 (refine mix_take (o := ⟨_, _, _, _, _, _⟩) rfl (fun K hK => ?_); go_simp; refine hK _ ?_; clear hK K)
          refine mix_done ?_
          have HD5 : Hid (DkTo w base gd bs bf v q w5 v') := Lib.hid (HD.out.new (HN3.out.tr HN5.out))
          clear q3 HRI kg d1
          have HG : Hid (valL ((sct (wipeN p l k).1 l k).take 4) = l.gen) := Lib.hid (by rw [← HSC.out, ← HV1.out, T1.out, HEQ.out.2.2.2])
          have HHIT := Lib.hid (wipeN_hit HE.out HG.out)
          have HC5 : Hid (w5.cell? ⟨gl, 0, none⟩ = some (.pointer (some ⟨gd, 0, none⟩)) ∧ w5.cell? ⟨gl, 1, none⟩ = some (.int .i64 fs)) := Lib.hid ⟨HN5.out.cell_ (HN3.out.cell_ HC.out.1), HN5.out.cell_ (HN3.out.cell_ HC.out.2.1)⟩
          have q0 : ∀ p : HW (Cells2 gl (.pointer (some ⟨gd, 0, none⟩)) (.int .i64 fs)), p.w.cell? ⟨gl, 0, none⟩ = some (.pointer (some ⟨gd, 0, none⟩)) := fun p => p.h.1
          have q1 : ∀ p : HW (Cells2 gl (.pointer (some ⟨gd, 0, none⟩)) (.int .i64 fs)), p.w.cell? ⟨gl, 1, none⟩ = some (.int .i64 fs) := fun p => p.h.2
          have HWX := Lib.hid (write_all (HD5.out.dk.new (New.dr (New.refl w5))) (a : Int) sec0_ok)
          obtain ⟨wc, hwc⟩ : ∃ wc, wc = q.wcode (a : Int) := ⟨_, rfl⟩
          rw [← hwc] at HWX
          have HWC := Lib.hid hwc
          obtain ⟨q2, hq2⟩ : ∃ q2, q2 = q.doWrite (a : Int) sec0 := ⟨_, rfl⟩
          rw [← hq2] at HWX
          have HQ2 := Lib.hid hq2
          obtain ⟨z0, hz0⟩ : ∃ z0, z0 = secA sec0 := ⟨_, rfl⟩
          rw [← hz0] at HWX
          have HZ0 : Hid ((#[.int .u8 0, .int .u8 0, .int .u8 0, .int .u8 0, .int .u8 0, .int .u8 0, .int .u8 0, .int .u8 0, .int .u8 0, .int .u8 0, .int .u8 0, .int .u8 0, .int .u8 0, .int .u8 0, .int .u8 0, .int .u8 0, .int .u8 0, .int .u8 0, .int .u8 0, .int .u8 0, .int .u8 0, .int .u8 0, .int .u8 0, .int .u8 0, .int .u8 0, .int .u8 0, .int .u8 0, .int .u8 0, .int .u8 0, .int .u8 0, .int .u8 0, .int .u8 0, .int .u8 0, .int .u8 0, .int .u8 0, .int .u8 0, .int .u8 0, .int .u8 0, .int .u8 0, .int .u8 0, .int .u8 0, .int .u8 0, .int .u8 0, .int .u8 0, .int .u8 0, .int .u8 0, .int .u8 0, .int .u8 0, .int .u8 0, .int .u8 0, .int .u8 0, .int .u8 0, .int .u8 0, .int .u8 0, .int .u8 0, .int .u8 0, .int .u8 0, .int .u8 0, .int .u8 0, .int .u8 0, .int .u8 0, .int .u8 0, .int .u8 0, .int .u8 0] : Array Value) = z0) := Lib.hid (by rw [hz0]; rfl)
          clear hwc hq2 hz0
          by_cases hc0 : wc = 0
          · have hz := hc0
            subst hc0
            clear hz
            go_wp2_with fail
            refine wp_region_mixH (Cells2 gl (.pointer (some ⟨gd, 0, none⟩)) (.int .i64 fs)) [(true, 0), (true, 1), (true, 2), (true, 3), (true, 4), (true, 5), (true, 6), (true, 7), (true, 8), (true, 9), (true, 10), (false, 11), (true, 12)] (by kernel_rfl) (by kernel_rfl) ⟨(New.dr (New.refl w5)).cell_ HC5.out.1, (New.dr (New.refl w5)).cell_ HC5.out.2⟩ (fun hne => ?_)
            iterate 11 (refine mix_take (o := ⟨_, _, _, _, _, _⟩) rfl (fun K hK => ?_); go_simp; refine hK _ ?_; clear hK K)
            refine mix_act (o := ⟨_, _, _, _, _, _⟩) rfl (fun K hK => ?_) (.inl rfl)
            go_simp
            rw [HZ0.out]
            refine HWX.out.mono ?_
            rintro e w6 ⟨rfl, v2, hD6, hF6, ho6⟩
            have HD6 : Hid (DkTo w base gd bs bf v q2 w6 v2) := Lib.hid ((HD5.out.new (New.dr (New.refl w5))).tr ⟨hD6, hF6, ho6⟩)
            have HC6 : Hid (Cells2 gl (.pointer (some ⟨gd, 0, none⟩)) (.int .i64 fs) w6) := Lib.hid (by
              have := HLC.out w6 (HD6.out.fr.block gl HLT.out HAP.out)
              exact ⟨this.1, this.2.1⟩)
            clear hD6 hF6 ho6
            rw [errD_0]
            go_simp
            refine hK.out _ _ (fun _ => HC6.out) ?_
            clear hK K
            iterate 1 (refine mix_take (o := ⟨_, _, _, _, _, _⟩) rfl (fun K hK => ?_); go_simp; refine hK _ ?_; clear hK K)
            refine mix_done ?_
            clear q0 q1
            have HW3 : Hid (wipeN p l (k + 1) = (q2, true, 0)) := Lib.hid (by rw [HHIT.out, ← HQ.out, ← HA.out, ← HWC.out, ← HQ2.out, if_pos rfl])
            have HJ : Hid (i + 1 = us + (k + 1)) := Lib.hid (by have := HI.out; omega)
            go_wp2_with fail
            go_roundw
            case rel => exact ⟨k + 1, i + 1, true, v2, HJ, by omega, by go_num, rfl, Lib.hid (by rw [HW3.out]), Lib.hid (by rw [HW3.out]), Lib.hid (by rw [HW3.out]; exact HD6.out)⟩
            case measure => simp [intOf]; omega
          · have HWE : Hid (errD wc = .iface 63 (.int .i64 wc)) := Lib.hid (errD_n hc0)
            have HC0 := Lib.hid hc0
            clear hc0
            go_wp2_with fail
            refine wp_region_mixH (Cells2 gl (.pointer (some ⟨gd, 0, none⟩)) (.int .i64 fs)) [(true, 0), (true, 1), (true, 2), (true, 3), (true, 4), (true, 5), (true, 6), (true, 7), (true, 8), (true, 9), (true, 10), (false, 11), (true, 12)] (by kernel_rfl) (by kernel_rfl) ⟨(New.dr (New.refl w5)).cell_ HC5.out.1, (New.dr (New.refl w5)).cell_ HC5.out.2⟩ (fun hne => ?_)
            iterate 11 (refine mix_take (o := ⟨_, _, _, _, _, _⟩) rfl (fun K hK => ?_); go_simp; refine hK _ ?_; clear hK K)
            refine mix_act (o := ⟨_, _, _, _, _, _⟩) rfl (fun K hK => ?_) (.inl rfl)
            go_simp
            rw [HZ0.out]
            refine HWX.out.mono ?_
            rintro e w6 ⟨rfl, v2, hD6, hF6, ho6⟩
            have HD6 : Hid (DkTo w base gd bs bf v q2 w6 v2) := Lib.hid ((HD5.out.new (New.dr (New.refl w5))).tr ⟨hD6, hF6, ho6⟩)
            have HC6 : Hid (Cells2 gl (.pointer (some ⟨gd, 0, none⟩)) (.int .i64 fs) w6) := Lib.hid (by
              have := HLC.out w6 (HD6.out.fr.block gl HLT.out HAP.out)
              exact ⟨this.1, this.2.1⟩)
            clear hD6 hF6 ho6
            rw [HWE.out]
            go_simp
            refine hK.out _ _ (fun _ => HC6.out) ?_
            clear hK K
            iterate 1 (refine mix_take (o := ⟨_, _, _, _, _, _⟩) rfl (fun K hK => ?_); go_simp; refine hK _ ?_; clear hK K)
            refine mix_done ?_
            clear q0 q1
            have HW3 : Hid (WL = (q2, wc)) := Lib.hid (by
              obtain ⟨j, hj⟩ : ∃ j, sz - us = k + 1 + j := ⟨sz - us - (k + 1), by have := HI.out; omega⟩
              have e1 : wipeN p l (k + 1) = (q2, (wipeN p l k).2.1, wc) := by rw [HHIT.out, ← HQ.out, ← HA.out, ← HWC.out, ← HQ2.out, if_neg HC0.out]
              have e2 : wipeN p l (sz - us) = (q2, (wipeN p l k).2.1, wc) := by
                rw [hj, wipeN_bad (by rw [e1]; exact HC0.out), e1]
              rw [HWL.out, e2, if_pos HC0.out])
            go_wp2_with fail
            go_ret
            rw [HW3.out]
            exact ⟨(congrArg Ending.returned HWE.out).symm, v2, HD6.out⟩
        · have d1 : ¬ ((v1 : Int) = (gen : Int)) := by omega
          have T1 := Lib.hid t1
          clear t1
          go_wp2_with fail
          refine wp_region_mixH (New w3) [(true, 0), (true, 3), (true, 4), (true, 5), (true, 6), (true, 7), (false, 1), (false, 2), (true, 8), (true, 9)] (by kernel_rfl) (by kernel_rfl) (New.dr (New.refl w3)) (fun hne => ?_)
          iterate 6 (refine mix_take (o := ⟨_, _, _, _, _, _⟩) rfl (fun K hK => ?_); go_simp; refine hK _ ?_; clear hK K)
          refine mix_act (o := ⟨_, _, _, _, _, _⟩) rfl (fun K hK => ?_) (.inl rfl)
          go_simp
          refine (from_any (some ⟨b8, 0, none⟩) 4 64 (s.take 4) w3.drew (HR4.out _ (New.dr (New.refl w3))) (fun x hx => HS.out.2 x (List.mem_of_mem_take hx)) (by omega)).mono ?_
          rintro e w4 ⟨r, rfl, hRI, hN4, hr⟩
          have HRI := Lib.hid hRI
          have HN4 : Hid (New w3 w4) := Lib.hid ((New.dr (New.refl w3)).tr hN4)
          have HRL : Hid (w3.heap.size ≤ r) := Lib.hid hr
          clear hRI hN4 hr
          go_simp
          refine hK.out _ _ (fun _ => HN4.out) ?_
          clear hK K
          refine mix_act (o := ⟨_, _, _, _, _, _⟩) rfl (fun K hK => ?_) (.inl rfl)
          go_simp
          refine (rnum_any HRI.out 4 (by omega)).mono ?_
          rintro e w5 ⟨rfl, -, hF5⟩
          rw [X1.out]
          dsimp only
          have HN5 : Hid (New w3 w5) := Lib.hid (HN4.out.fr hF5 (fun k hk => by have := HRL.out; omega))
          clear hF5
          go_simp
          refine hK.out _ _ (fun _ => HN5.out) ?_
          clear hK K
          iterate 2 (refine mix_take (o := ⟨_, _, _, _, _, _⟩) rfl (fun K hK => ?_); go_simp; refine hK _ ?_; clear hK K)
          refine mix_done ?_
          have HD5 : Hid (DkTo w base gd bs bf v q w5 v') := Lib.hid (HD.out.new (HN3.out.tr HN5.out))
          clear q3 HRI kg
          have HG : Hid (¬ valL ((sct (wipeN p l k).1 l k).take 4) = l.gen) := Lib.hid (by rw [← HSC.out, ← HV1.out, ← HEQ.out.2.2.2]; exact T1.out)
          have HSK := Lib.hid (wipeN_skip HE.out HG.out)
          have HJ : Hid (i + 1 = us + (k + 1)) := Lib.hid (by have := HI.out; omega)
          go_wp2_with fail
          go_roundw
          case rel => exact ⟨k + 1, i + 1, b, v', HJ, by omega, by go_num, rfl, Lib.hid (by rw [HSK.out]; exact HB.out), Lib.hid (by rw [HSK.out]; exact HE.out), Lib.hid (by rw [HSK.out, ← HQ.out]; exact HD5.out)⟩
          case measure => simp [intOf]; omega
    · have hltn : ¬ (i : Int) < (sz : Int) := by omega
      have hkk : k = sz - us := by have := HI.out; omega
      subst hkk
      clear q0 q1
      obtain ⟨q, hq⟩ : ∃ q, q = (wipeN p l (sz - us)).1 := ⟨_, rfl⟩
      rw [← hq] at HD
      have HQ := Lib.hid hq
      have c0 := HC.out.1
      clear hq
      cases b with
      | false =>
        have HW3 : Hid (WL = (q, 0)) := Lib.hid (by rw [HWL.out, if_neg (by rw [HE.out]; simp), if_neg (by rw [← HB.out]; simp), ← HQ.out])
        go_wp2_with fail
        go_ret
        rw [HW3.out]
        exact ⟨(congrArg Ending.returned errD_0).symm, v', HD.out⟩
      | true =>
        have HW3 : Hid (WL = (q.doSync, q.scode)) := Lib.hid (by rw [HWL.out, if_neg (by rw [HE.out]; simp), if_pos HB.out.symm, ← HQ.out])
        go_wp2_with fail
        refine (sync_all HD.out.dk).mono ?_
        rintro e w6 ⟨rfl, v2, hD6, hF6, ho6⟩
        have HD6 : Hid (DkTo w base gd bs bf v q.doSync w6 v2) := Lib.hid (HD.out.tr ⟨hD6, hF6, ho6⟩)
        clear hD6 hF6 ho6
        obtain ⟨ev, hev⟩ : ∃ ev, ev = errD q.scode := ⟨_, rfl⟩
        have HEV := Lib.hid hev
        rw [← hev]
        clear hev
        go_wp2_with fail
        go_ret
        rw [HW3.out]
        exact ⟨congrArg Ending.returned HEV.out, v2, HD6.out⟩
end Go.Proofs.YteeclfejgpgooaaDoor
