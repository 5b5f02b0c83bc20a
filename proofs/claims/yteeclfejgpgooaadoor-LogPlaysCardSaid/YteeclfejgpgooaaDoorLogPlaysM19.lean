/- Texts of one proof, one behind the other: DrE, DrF, LhB, LhC. No condition but each one's own. -/
import Derived.Test.YteeclfejgpgooaaDoorLogPlaysM18
import Derived.Deep.CutBlock
import Derived.Test.YteeclfejgpgooaaDoorLogPlaysM17
import Derived.WalkArith
/- The reference's disk: which places wait. No condition but that it can be read. -/
namespace Go.Proofs.YteeclfejgpgooaaDoor
set_option linter.unusedVariables false
set_option linter.unusedSimpArgs false
set_option linter.constructorNameAsVariable false
open Go.RowKit Go.Maps

/-- What is known at a round of Waits. -/
structure WI (w w0 : World) (L : List PU) (j : Nat) (v : Value) (wr : World) : Prop where
  own : wr.ownsRow w0.heap.size 3 1 v (waits (L.take j)).length (i64s (waits (L.take j)))
  new : New w0 wr
theorem WI.dn {w w0 wr : World} {L : List PU} {j : Nat} {v : Value} (h : WI w w0 L j v wr) (n : Nat) : WI w w0 L j v (wr.drewN n) := ⟨own_fr (S := NoB) h.own ((Fr.refl _ _).drewN n) (fun _ _ x => x), h.new.dn n⟩
def isNew (L : List PU) (k : Nat) (x : Int) : Bool := !((L.take k).map PU.pos).contains x
theorem isNew_0 (L : List PU) (x : Int) : isNew L 0 x = true := by simp [isNew]
theorem isNew_step {L : List PU} {k : Nat} (hk : k < L.length) (x : Int) : isNew L (k + 1) x = (isNew L k x && (L[k].pos != x)) := by
  unfold isNew
  rw [List.take_succ_eq_append_getElem hk]
  simp only [List.map_append, List.map_cons, List.map_nil]
  rw [Bool.eq_iff_iff]
  simp
  intro _
  exact ⟨fun h e => h e.symm, fun h e => h e.symm⟩
theorem waits_step {L : List PU} {i : Nat} (hi : i < L.length) : waits (L.take (i + 1)) = if isNew L i L[i].pos = true then waits (L.take i) ++ [L[i].pos] else waits (L.take i) := by
  rw [List.take_succ_eq_append_getElem hi, waits_snoc]
  by_cases h : L[i].pos ∈ waits (L.take i)
  · have h2 := (mem_waits _ _).1 h
    rw [if_pos h, if_neg (by simp only [isNew, Bool.not_eq_true']; rw [List.contains_iff_mem.2 h2]; simp)]
  · have h2 : L[i].pos ∉ (L.take i).map PU.pos := fun e => h ((mem_waits _ _).2 e)
    rw [if_neg h, if_pos (by simp only [isNew, Bool.not_eq_true']; rw [Bool.eq_false_iff]; intro e; exact h2 (List.contains_iff_mem.1 e))]

set_option maxHeartbeats 4000000 in
set_option maxRecDepth 100000 in
theorem rwaits_any (r : RP) (A1 : Option Addr) (c1 : Nat) (A2 : Option Addr) (c2 : Nat) (w : World) (h : RfIn w r A1 A2) (hn : r.tot ≤ 100000) :
    Calls Tryd.prog 18 #[.agg (RfV r A1 c1 A2 c2)] w fun e w' => (∃ A c, e = .returned (.slice A (waits r.fresh).length c) ∧ w'.ownsRow w.heap.size 3 1 (.slice A (waits r.fresh).length c) (waits r.fresh).length (i64s (waits r.fresh))) ∧ New w w' := by
  have H := Lib.hid h
  have hn1 : r.fresh.length ≤ 100000 := by unfold RP.tot at hn; omega
  unfold RfV
  clear h hn
  go_enter Tryd.func18, Tryd.ntmps18
  go_upto_region 1 with fail
  obtain ⟨w0, hw0⟩ : ∃ w0 : World, w0 = w.alloc (.cells #[.int .i64 r.size, .slice A1 r.sure.length c1, .slice A2 r.fresh.length c2, .int .i64 r.fuse, .bool r.down] 32) := ⟨_, rfl⟩
  obtain ⟨G, hG⟩ : ∃ G, G = w.heap.size := ⟨_, rfl⟩
  rw [← hG]
  have HN0 : Hid (New w w0) := Lib.hid (by rw [hw0]; exact (New.refl w).al _)
  have HB0 : Hid (Blk w0 G 32 #[.int .i64 r.size, .slice A1 r.sure.length c1, .slice A2 r.fresh.length c2, .int .i64 r.fuse, .bool r.down]) := Lib.hid (by rw [hw0, hG]; exact Blk.new _ _ _)
  rw [← hw0]
  have HGW : Hid (G = w.heap.size) := Lib.hid hG
  clear hw0 hG
  obtain ⟨L, hL⟩ : ∃ L, L = r.fresh := ⟨_, rfl⟩
  have HI := Lib.hid (H.out.new HN0.out)
  have HR : Hid (RdT 92 w0 65 A2 L.length (flatP L)) := Lib.hid (by rw [hL]; exact HI.out.fresh)
  have HOK : Hid (∀ x ∈ L, SecOk x.s) := Lib.hid (by rw [hL]; exact HI.out.ok.2)
  rw [← hL] at HB0 hn1
  rw [← hL]
  have HLE := Lib.hid hL
  clear hL
  generalize hln : L.length = n at HB0 HR hn1
  have HLN := Lib.hid hln
  clear hln HI
  go_wp2_with fail
  go_loopw [3, 4, 5, 6] (fun v i _ _ wr => ∃ (j : Nat), j ≤ n ∧ i = .int .i64 j ∧ Hid (WI w w0 L j v wr)) (fun _ i _ _ _ => n - (intOf i).toNat)
  case atStart => exact ⟨0, Nat.zero_le _, rfl, Lib.hid ⟨World.ownsRow_nil _ _ _ _, New.refl _⟩⟩
  case round =>
    obtain ⟨j, hj, rfl, HW⟩ := hrel
    have k2 := (New.blk HW.out.new HB0.out).cell 2
    by_cases hlt : j < n
    · as_aux_lemma =>
      obtain ⟨gA, oA, hl, rfl, -, cp, -⟩ := rd_put (HW.out.new.rd HR.out) HLN.out HOK.out hlt
      have hst := waits_step hl
      have HCP := Lib.hid cp
      generalize hpx : L[j].pos = px at cp hst HCP
      have HST := Lib.hid hst
      have HPX := Lib.hid hpx
      clear hst cp hpx
      go_wp2_with fail
      obtain ⟨wo, hwo⟩ : ∃ wo : World, wo = wr := ⟨_, rfl⟩
      rw [← hwo] at HW k2 HCP
      rw [← hwo]
      clear hwo
      go_loopw [5, 6] (fun b i wr => ∃ (k : Nat) (m : Nat), k ≤ j ∧ i = .int .i64 k ∧ b = .bool (isNew L k px) ∧ wr = wo.drewN m) (fun _ i _ => j - (intOf i).toNat)
      case atStart => exact ⟨0, 0, by omega, rfl, by rw [isNew_0], rfl⟩
      case round =>
        obtain ⟨k, m, hk, rfl, rfl, rfl⟩ := hrel
        by_cases hkj : k < j
        · as_aux_lemma =>
          obtain ⟨gB, oB, hlB, hAB, -, cq, -⟩ := rd_put (HW.out.new.rd HR.out) HLN.out HOK.out (show k < n by omega)
          injection hAB with hAB
          injection hAB with h1 h2
          subst h1 h2
          have hns := isNew_step hlB px
          generalize L[k].pos = py at cq hns
          have HNS := Lib.hid hns
          have cj := HCP.out
          clear hns
          generalize isNew L k px = b at HNS ⊢
          rcases b with _ | _
          · go_wp2_with fail
            go_quiet (fail)
            go_wp2_with fail
            go_roundw
            case rel => exact ⟨k + 1, m + nq, by omega, by go_num, by rw [HNS.out]; rfl, rfl⟩
            case measure => simp [intOf]; omega
          · go_wp2_with fail
            go_quiet (fail)
            go_wp2_with fail
            go_roundw
            case rel => exact ⟨k + 1, m + nq, by omega, by go_num, by rw [HNS.out]; simp, rfl⟩
            case measure => simp [intOf]; omega
        · as_aux_lemma =>
          obtain rfl : k = j := by omega
          have HWm := Lib.hid (HW.out.dn m)
          obtain ⟨wm, hwm⟩ : ∃ wm : World, wm = wo.drewN m := ⟨_, rfl⟩
          have cj : wm.cell? ⟨gA, oA + k * 65, none⟩ = some (.int .i64 px) := by rw [hwm]; exact HCP.out
          rw [← hwm] at HWm
          have d2 := (New.blk HWm.out.new HB0.out).cell 2
          rw [← hwm]
          clear hwm k2
          have HCJ := Lib.hid cj
          clear cj
          obtain ⟨A, c, rfl, hnc, hcm, -, -⟩ := own_shape HWm.out.own
          have hwl := waits_len (L.take k)
          have hwl2 : (L.take k).length ≤ k := List.length_take_le _ _
          obtain ⟨z, hz⟩ : ∃ z, z = waits (L.take k) := ⟨_, rfl⟩
          have hown : wm.ownsRow w0.heap.size 3 1 (.slice A z.length c) z.length (i64s z) := by rw [hz]; exact HWm.out.own
          have HST2 : Hid (waits (L.take (k + 1)) = if isNew L k px = true then z ++ [px] else z) := Lib.hid (by rw [HST.out, hz])
          rw [← hz] at hnc hwl
          rw [← hz]
          have HOWN := Lib.hid hown
          have HNW := Lib.hid HWm.out.new
          have hzl : z.length ≤ 100000 := by omega
          clear hz hown HWm HST
          generalize isNew L k px = b at HST2 ⊢
          have cj := HCJ.out
          have hws : w0.heap.size ≤ wm.heap.size := HNW.out.size
          rcases b with _ | _
          · go_wp2_with fail
            go_roundw
            case rel =>
              refine ⟨k + 1, by omega, by go_num, Lib.hid ⟨?_, HNW.out⟩⟩
              rw [HST2.out, if_neg (by simp)]
              exact HOWN.out
            case measure => simp [intOf]; omega
          · go_wp2_with (at_builtin; refine wpList_app elI _ rfl (.tmp 36) (.tmp 43) rfl w0.heap.size (.slice A z.length c) z.length (i64s z) rfl (New.own (New.al (New.refl wm) _) HOWN.out) (some ⟨wm.heap.size, 0, none⟩) 1 1 [.int .i64 px] rfl (Rd.ofBlk (p := fun _ => True) (t := 3) (cs := #[.int .i64 px]) (Blk.new' _ _ _ rfl) 1 1 rfl trivial) (by simp [Value.oneCell']) (by unfold maxLen; omega) (by omega) (by simp; omega) ?_; intro A' c' w3 hO3 hF3 hA3; have HO3 := Lib.hid hO3; have HF3 := Lib.hid hF3; clear hO3 hF3 hA3)
            go_roundw
            case rel =>
              refine ⟨k + 1, by omega, by go_num, Lib.hid ⟨?_, ?_⟩⟩
              · rw [HST2.out, if_pos rfl, List.length_append, i64s_app]
                exact HO3.out
              · exact ((HNW.out).al _).fr HF3.out (fun q hq => (own_lt HOWN.out q hq).1)
            case measure => simp [intOf]; omega
    · as_aux_lemma =>
      obtain rfl : j = n := by omega
      have hf : waits (L.take j) = waits L := by rw [List.take_of_length_le (by rw [HLN.out]; omega)]
      have ho := HW.out.own
      rw [hf] at ho
      have HNW := Lib.hid HW.out.new
      obtain ⟨A, c, rfl, hnc, hcm, -, -⟩ := own_shape ho
      have HO := Lib.hid ho
      clear hf ho HW hnc hcm
      go_wp2_with fail
      go_ret
      rw [← HLE.out]
      exact ⟨⟨A, c, rfl, own_base HO.out (fun k hk => by have := (own_lt HO.out k hk).1; have := HN0.out.size; omega)⟩, HN0.out.tr HNW.out⟩
end Go.Proofs.YteeclfejgpgooaaDoor
/- The reference's disk: the power cut. No condition but that it can be read. -/
namespace Go.Proofs.YteeclfejgpgooaaDoor
set_option linter.unusedVariables false
set_option linter.unusedSimpArgs false
set_option linter.constructorNameAsVariable false
open Go.RowKit Go.Maps

theorem rInfo : (Tryd.prog.info? 32).map (fun i => (i.zero, i.size)) = some (some (.agg #[.int .i64 0, .slice none 0 0, .slice none 0 0, .int .i64 0, .bool false]), 5) := by kernel_rfl
/-- The disk that Cut makes, at block g. -/
def CutI (w3 : World) (size : Int) (g : Nat) (L : List PU) (wx : World) : Prop := ∃ A c, Blk wx g 32 #[.int .i64 size, .slice A L.length c, .slice none 0 0, .int .i64 (-1), .bool false] ∧ wx.ownsRow w3.heap.size 92 65 (.slice A L.length c) L.length (flatP L) ∧ New w3 wx ∧ w3.heap.size ≤ g
theorem cutR_skip {r : RP} {keep : List Bool} {j : Nat} (h : keep.getD j false = false) : cutR r keep (j + 1) = cutR r keep j := by simp only [cutR, h]; rfl
theorem cutR_stop {r : RP} {keep : List Bool} {j : Nat} (h : keep.length ≤ j) : ∀ k, cutR r keep (j + k) = cutR r keep j
  | 0 => rfl
  | k + 1 => by
    rw [← Nat.add_assoc, cutR_skip (by rw [List.getD_eq_getElem?_getD, List.getElem?_eq_none (by omega)]; rfl)]
    exact cutR_stop h k
theorem cutR_take {r : RP} {keep : List Bool} {j : Nat} (h : keep.getD j false = true) : cutR r keep (j + 1) = cutR r keep j ++ [⟨(waits r.fresh).getD j 0, getS r.fresh ((waits r.fresh).getD j 0)⟩] := by simp only [cutR, h, if_true]; rfl

set_option maxHeartbeats 8000000 in
set_option maxRecDepth 100000 in
theorem rcut_any (r : RP) (A1 : Option Addr) (c1 : Nat) (A2 : Option Addr) (c2 : Nat) {q : Nat → Prop} (A : Option Addr) (n c : Nat) (keep : List Bool) (w : World) (h : RfIn w r A1 A2) (hR : Rd q w 1 A n (bools keep)) (hq : ∀ k, q k → k < w.heap.size) (hn : r.tot ≤ 10000) (hn2 : n ≤ maxLen) :
    Calls Tryd.prog 34 #[.agg (RfV r A1 c1 A2 c2), .slice A n c] w fun e w' => RfEnd1 w' (r.cut keep) e ∧ New w w' := by
  have H := Lib.hid h
  have HR := Lib.hid hR
  have HQ := Lib.hid hq
  have hkl : keep.length = n := by have := hR.1; rw [bools_len] at this; omega
  have HKL := Lib.hid hkl
  have hn1 : r.sure.length + r.fresh.length ≤ 10000 := hn
  unfold maxLen at hn2
  have HP1 : Hid (∀ u ∈ flatP r.sure, u.oneCell' = true) := Lib.hid (flatP_cell _)
  unfold RfV
  clear h hR hkl hn hq
  go_enter Tryd.func34, Tryd.ntmps34
  go_upto_region 1 with fail
  obtain ⟨w3, hw3⟩ : ∃ w3 : World, w3 = (w.alloc (.cells #[.int .i64 r.size, .slice A1 r.sure.length c1, .slice A2 r.fresh.length c2, .int .i64 r.fuse, .bool r.down] 32)).alloc (.cells #[.int .i64 0, .slice none 0 0, .slice none 0 0, .int .i64 0, .bool false] 32) := ⟨_, rfl⟩
  obtain ⟨G, hG⟩ : ∃ G, G = w.heap.size := ⟨_, rfl⟩
  rw [← hG]
  have HN3 : Hid (New w w3) := Lib.hid (by rw [hw3]; exact ((New.refl w).al _).al _)
  have HB3 : Hid (Blk w3 G 32 #[.int .i64 r.size, .slice A1 r.sure.length c1, .slice A2 r.fresh.length c2, .int .i64 r.fuse, .bool r.down]) := Lib.hid (by rw [hw3, hG]; exact (Blk.new _ _ _).alloc _)
  have HR3 : Hid (Blk w3 (G + 1) 32 #[.int .i64 0, .slice none 0 0, .slice none 0 0, .int .i64 0, .bool false]) := Lib.hid (by rw [hw3, hG]; exact Blk.new' _ _ _ (by simp))
  rw [← hw3]
  have HGW : Hid (G = w.heap.size) := Lib.hid hG
  clear hw3 hG
  go_cut [5] (fun s5 wx => ∃ gX, s5 = .pointer (some ⟨gX, 0, none⟩) ∧ Hid (CutI w3 r.size gX r.sure wx))
  case first =>
    have hSN : ∀ w', New w3 w' → w'.cell? ⟨G, 0, none⟩ = some (.int .i64 r.size) ∧ w'.cell? ⟨G, 1, none⟩ = some (.slice A1 r.sure.length c1) := fun w' hN => ⟨hN.cell_ (HB3.out.cell 0), hN.cell_ (HB3.out.cell 1)⟩
    refine wp_region_T (fun w' => w'.cell? ⟨G, 0, none⟩ = some (.int .i64 r.size) ∧ w'.cell? ⟨G, 1, none⟩ = some (.slice A1 r.sure.length c1)) 8 (by kernel_rfl) ?_
    refine wpAnyT_take (i := 0) (oi := ⟨_, _, _, _, _, _⟩) (v := .pointer (some ⟨G, 0, none⟩)) rfl (by kernel_rfl) (by kernel_rfl) (by kernel_rfl) (by kernel_rfl) (fun _ _ _ h => h) (Or.inl ⟨by rfl, fun w hSw => by have h1 := hSw.1; have h2 := hSw.2; clear hSw; go_simp⟩) (hSN _ (by repeat (first | with_reducible exact New.refl _ | with_reducible assumption | with_reducible refine New.dr ?_ | with_reducible refine New.al ?_ _) : New w3 _)) ?_
    try simp only [Act.put, List.setIfInBounds_toArray, List.set_cons_zero, List.set_cons_succ]
    refine wpAnyT_take (i := 1) (oi := ⟨_, _, _, _, _, _⟩) (v := .int .i64 r.size) rfl (by kernel_rfl) (by kernel_rfl) (by kernel_rfl) (by kernel_rfl) (fun _ _ _ h => h) (Or.inl ⟨by rfl, fun w hSw => by have h1 := hSw.1; have h2 := hSw.2; clear hSw; go_simp⟩) (hSN _ (by repeat (first | with_reducible exact New.refl _ | with_reducible assumption | with_reducible refine New.dr ?_ | with_reducible refine New.al ?_ _) : New w3 _)) ?_
    try simp only [Act.put, List.setIfInBounds_toArray, List.set_cons_zero, List.set_cons_succ]
    refine wpAnyT_take (i := 3) (oi := ⟨_, _, _, _, _, _⟩) (v := .pointer (some ⟨G, 1, none⟩)) rfl (by kernel_rfl) (by kernel_rfl) (by kernel_rfl) (by kernel_rfl) (fun _ _ _ h => h) (Or.inl ⟨by rfl, fun w hSw => by have h1 := hSw.1; have h2 := hSw.2; clear hSw; go_simp⟩) (hSN _ (by repeat (first | with_reducible exact New.refl _ | with_reducible assumption | with_reducible refine New.dr ?_ | with_reducible refine New.al ?_ _) : New w3 _)) ?_
    try simp only [Act.put, List.setIfInBounds_toArray, List.set_cons_zero, List.set_cons_succ]
    refine wpAnyT_take (i := 4) (oi := ⟨_, _, _, _, _, _⟩) (v := .slice A1 r.sure.length c1) rfl (by kernel_rfl) (by kernel_rfl) (by kernel_rfl) (by kernel_rfl) (fun _ _ _ h => h) (Or.inl ⟨by rfl, fun w hSw => by have h1 := hSw.1; have h2 := hSw.2; clear hSw; go_simp⟩) (hSN _ (by repeat (first | with_reducible exact New.refl _ | with_reducible assumption | with_reducible refine New.dr ?_ | with_reducible refine New.al ?_ _) : New w3 _)) ?_
    try simp only [Act.put, List.setIfInBounds_toArray, List.set_cons_zero, List.set_cons_succ]
    refine wpAnyT_ready (rs := [2, 7]) (by kernel_rfl) (by simp) (AllT.cons (i := 2) (o := ⟨_, _, _, _, _, _⟩) rfl (fun K hK => ?_) (AllT.cons (i := 7) (o := ⟨_, _, _, _, _, _⟩) rfl (fun K hK => ?_) AllT.nil))
    · skip
      go_simp
      try simp only [Act.put, List.setIfInBounds_toArray, List.set_cons_zero, List.set_cons_succ]
      refine hK.out _ _ (fun _ => hSN _ (by repeat (first | with_reducible exact New.refl _ | with_reducible assumption | with_reducible refine New.dr ?_ | with_reducible refine New.al ?_ _) : New w3 _)) ?_
      refine wpAnyT_ready (rs := [5, 7]) (by kernel_rfl) (by simp) (AllT.cons (i := 5) (o := ⟨_, _, _, _, _, _⟩) rfl (fun K hK => ?_) (AllT.cons (i := 7) (o := ⟨_, _, _, _, _, _⟩) rfl (fun K hK => ?_) AllT.nil))
      · skip
        refine step_app elP _ (by rfl) (.tmp 12) (.tmp 14) (by rfl) w3.heap.size (.slice (some ⟨_, 0, none⟩) 0 0) 0 [] (by rfl) (own_lit (by repeat (first | with_reducible exact Blk.new' _ _ _ (by first | rfl | (simp; done)) | with_reducible refine Blk.drew ?_ | with_reducible refine Blk.alloc ?_ _ | with_reducible refine Blk.fr ?_ hF1 (by simp [Value.ownBlock]) | with_reducible refine New.blk hNX ?_)) (by first | omega | (simp; done) | (simp; omega))) A1 r.sure.length c1 (flatP r.sure) (by rfl) ((by repeat (first | with_reducible exact New.refl _ | with_reducible assumption | with_reducible refine New.dr ?_ | with_reducible refine New.al ?_ _) : New w3 _).rd (H.out.new HN3.out).sure) HP1.out (by unfold maxLen; omega) (by omega) (by first | omega | (simp; done) | (simp; omega)) ?_
        intro A1' d1 w5 hO1 hF1 hA1
        have hN1 : New w3 w5 := (by repeat (first | with_reducible exact New.refl _ | with_reducible assumption | with_reducible refine New.dr ?_ | with_reducible refine New.al ?_ _) : New w3 _).fr hF1 (by intro k hk; simp [Value.ownBlock] at hk; omega)
        rw [Nat.zero_add, List.nil_append] at hO1
        rw [Nat.zero_add] at hA1
        rw [Nat.zero_add]
        try simp only [Act.put, List.setIfInBounds_toArray, List.set_cons_zero, List.set_cons_succ]
        refine hK.out _ _ (fun _ => hSN _ (by repeat (first | with_reducible exact New.refl _ | with_reducible assumption | with_reducible refine New.dr ?_ | with_reducible refine New.al ?_ _) : New w3 _)) ?_
        refine wpAnyT_take (i := 6) (oi := ⟨_, _, _, _, _, _⟩) (v := (.agg #[.int .i64 r.size, .slice A1' r.sure.length d1, .slice none 0 0, .int .i64 (-1), .bool false])) rfl (by kernel_rfl) (by kernel_rfl) (by kernel_rfl) (by kernel_rfl) (fun _ _ _ h => h) (Or.inl ⟨by rfl, fun w hSw => by have h1 := hSw.1; have h2 := hSw.2; clear hSw; go_simp⟩) (hSN _ (by repeat (first | with_reducible exact New.refl _ | with_reducible assumption | with_reducible refine New.dr ?_ | with_reducible refine New.al ?_ _) : New w3 _)) ?_
        try simp only [Act.put, List.setIfInBounds_toArray, List.set_cons_zero, List.set_cons_succ]
        refine wpAnyT_ready (rs := [7]) (by kernel_rfl) (by simp) (AllT.cons (i := 7) (o := ⟨_, _, _, _, _, _⟩) rfl (fun K hK => ?_) AllT.nil)
        refine step_allocn (by rfl) rfl rInfo ?_
        intro gX wX hBX hNX hlX
        have hNA : New w3 wX := New.tr (by repeat (first | with_reducible exact New.refl _ | with_reducible assumption | with_reducible refine New.dr ?_ | with_reducible refine New.al ?_ _) : New w3 _) hNX
        have hltX := hBX.lt
        have hszX : w3.heap.size ≤ wX.heap.size := hNA.size
        have hl3 : w3.heap.size ≤ gX := by have h1 : w3.heap.size ≤ _ := Nat.le_trans (by repeat (first | with_reducible exact New.refl _ | with_reducible assumption | with_reducible refine New.dr ?_ | with_reducible refine New.al ?_ _) : New w3 _).size hlX; exact h1
        have hO1 := New.own hNX hO1
        try simp only [Act.put, List.setIfInBounds_toArray, List.set_cons_zero, List.set_cons_succ]
        refine hK.out _ _ (fun _ => hSN _ (by repeat (first | with_reducible exact New.refl _ | with_reducible assumption | with_reducible refine New.dr ?_ | with_reducible refine New.al ?_ _) : New w3 _)) ?_
        refine wpAnyT_ready (rs := [8]) (by kernel_rfl) (by simp) (AllT.cons (i := 8) (o := ⟨_, _, _, _, _, _⟩) rfl (fun K hK => ?_) AllT.nil)
        refine step_store_any (by rfl) (.tmp 5) (.tmp 16) rfl rfl rfl rfl hBX rfl (rf_one _ _ _ _ _ _ _ _ _) ?_
        intro wY hBY hFY
        have hNY : New w3 wY := (by repeat (first | with_reducible exact New.refl _ | with_reducible assumption | with_reducible refine New.dr ?_ | with_reducible refine New.al ?_ _) : New w3 _).fr hFY (fun k hk => by omega)
        have hOY : wY.ownsRow w3.heap.size 92 65 (.slice A1' r.sure.length d1) r.sure.length (flatP r.sure) := by
          refine own_fr (S := fun k => k = gX) (w := _) ?_ hFY (fun k hk e => ?_)
          · exact hO1
          · subst e; exact own_ne hO1 hBX (by decide) hk
        try simp only [Act.put, List.setIfInBounds_toArray, List.set_cons_zero, List.set_cons_succ]
        refine hK.out _ _ (fun h => absurd rfl h) ?_
        refine wpAnyT_done (by kernel_rfl) ?_ _
        try go_wp2_with fail
        go_meet
        exact ⟨gX, rfl, Lib.hid ⟨A1', d1, hBY, hOY, hNY, hl3⟩⟩
      · skip
        refine step_allocn (by rfl) rfl rInfo ?_
        intro gX wX hBX hNX hlX
        have hNA : New w3 wX := New.tr (by repeat (first | with_reducible exact New.refl _ | with_reducible assumption | with_reducible refine New.dr ?_ | with_reducible refine New.al ?_ _) : New w3 _) hNX
        have hltX := hBX.lt
        have hszX : w3.heap.size ≤ wX.heap.size := hNA.size
        have hl3 : w3.heap.size ≤ gX := by have h1 : w3.heap.size ≤ _ := Nat.le_trans (by repeat (first | with_reducible exact New.refl _ | with_reducible assumption | with_reducible refine New.dr ?_ | with_reducible refine New.al ?_ _) : New w3 _).size hlX; exact h1
        simp at hlX
        try simp only [Act.put, List.setIfInBounds_toArray, List.set_cons_zero, List.set_cons_succ]
        refine hK.out _ _ (fun _ => hSN _ (by repeat (first | with_reducible exact New.refl _ | with_reducible assumption | with_reducible refine New.dr ?_ | with_reducible refine New.al ?_ _) : New w3 _)) ?_
        refine wpAnyT_ready (rs := [5]) (by kernel_rfl) (by simp) (AllT.cons (i := 5) (o := ⟨_, _, _, _, _, _⟩) rfl (fun K hK => ?_) AllT.nil)
        refine step_app elP _ (by rfl) (.tmp 12) (.tmp 14) (by rfl) w3.heap.size (.slice (some ⟨_, 0, none⟩) 0 0) 0 [] (by rfl) (own_lit (by repeat (first | with_reducible exact Blk.new' _ _ _ (by first | rfl | (simp; done)) | with_reducible refine Blk.drew ?_ | with_reducible refine Blk.alloc ?_ _ | with_reducible refine Blk.fr ?_ hF1 (by simp [Value.ownBlock]) | with_reducible refine New.blk hNX ?_)) (by first | omega | (simp; done) | (simp; omega))) A1 r.sure.length c1 (flatP r.sure) (by rfl) ((by repeat (first | with_reducible exact New.refl _ | with_reducible assumption | with_reducible refine New.dr ?_ | with_reducible refine New.al ?_ _) : New w3 _).rd (H.out.new HN3.out).sure) HP1.out (by unfold maxLen; omega) (by omega) (by first | omega | (simp; done) | (simp; omega)) ?_
        intro A1' d1 w5 hO1 hF1 hA1
        have hN1 : New w3 w5 := (by repeat (first | with_reducible exact New.refl _ | with_reducible assumption | with_reducible refine New.dr ?_ | with_reducible refine New.al ?_ _) : New w3 _).fr hF1 (by intro k hk; simp [Value.ownBlock] at hk; omega)
        have hBX := Blk.fr (New.blk (by repeat (first | with_reducible exact New.refl _ | with_reducible assumption | with_reducible refine New.dr ?_ | with_reducible refine New.al ?_ _) : New wX _) hBX) hF1 (by simp [Value.ownBlock]; omega)
        rw [Nat.zero_add, List.nil_append] at hO1
        rw [Nat.zero_add] at hA1
        rw [Nat.zero_add]
        try simp only [Act.put, List.setIfInBounds_toArray, List.set_cons_zero, List.set_cons_succ]
        refine hK.out _ _ (fun _ => hSN _ (by repeat (first | with_reducible exact New.refl _ | with_reducible assumption | with_reducible refine New.dr ?_ | with_reducible refine New.al ?_ _) : New w3 _)) ?_
        refine wpAnyT_take (i := 6) (oi := ⟨_, _, _, _, _, _⟩) (v := (.agg #[.int .i64 r.size, .slice A1' r.sure.length d1, .slice none 0 0, .int .i64 (-1), .bool false])) rfl (by kernel_rfl) (by kernel_rfl) (by kernel_rfl) (by kernel_rfl) (fun _ _ _ h => h) (Or.inl ⟨by rfl, fun w hSw => by have h1 := hSw.1; have h2 := hSw.2; clear hSw; go_simp⟩) (hSN _ (by repeat (first | with_reducible exact New.refl _ | with_reducible assumption | with_reducible refine New.dr ?_ | with_reducible refine New.al ?_ _) : New w3 _)) ?_
        try simp only [Act.put, List.setIfInBounds_toArray, List.set_cons_zero, List.set_cons_succ]
        refine wpAnyT_ready (rs := [8]) (by kernel_rfl) (by simp) (AllT.cons (i := 8) (o := ⟨_, _, _, _, _, _⟩) rfl (fun K hK => ?_) AllT.nil)
        refine step_store_any (by rfl) (.tmp 5) (.tmp 16) rfl rfl rfl rfl hBX rfl (rf_one _ _ _ _ _ _ _ _ _) ?_
        intro wY hBY hFY
        have hNY : New w3 wY := (by repeat (first | with_reducible exact New.refl _ | with_reducible assumption | with_reducible refine New.dr ?_ | with_reducible refine New.al ?_ _) : New w3 _).fr hFY (fun k hk => by omega)
        have hOY : wY.ownsRow w3.heap.size 92 65 (.slice A1' r.sure.length d1) r.sure.length (flatP r.sure) := by
          refine own_fr (S := fun k => k = gX) (w := _) ?_ hFY (fun k hk e => ?_)
          · exact hO1
          · subst e; exact own_ne hO1 hBX (by decide) hk
        try simp only [Act.put, List.setIfInBounds_toArray, List.set_cons_zero, List.set_cons_succ]
        refine hK.out _ _ (fun h => absurd rfl h) ?_
        refine wpAnyT_done (by kernel_rfl) ?_ _
        try go_wp2_with fail
        go_meet
        exact ⟨gX, rfl, Lib.hid ⟨A1', d1, hBY, hOY, hNY, hl3⟩⟩
    · skip
      refine step_allocn (by rfl) rfl rInfo ?_
      intro gX wX hBX hNX hlX
      have hNA : New w3 wX := New.tr (by repeat (first | with_reducible exact New.refl _ | with_reducible assumption | with_reducible refine New.dr ?_ | with_reducible refine New.al ?_ _) : New w3 _) hNX
      have hltX := hBX.lt
      have hszX : w3.heap.size ≤ wX.heap.size := hNA.size
      have hl3 : w3.heap.size ≤ gX := by have h1 : w3.heap.size ≤ _ := Nat.le_trans (by repeat (first | with_reducible exact New.refl _ | with_reducible assumption | with_reducible refine New.dr ?_ | with_reducible refine New.al ?_ _) : New w3 _).size hlX; exact h1
      skip
      try simp only [Act.put, List.setIfInBounds_toArray, List.set_cons_zero, List.set_cons_succ]
      refine hK.out _ _ (fun _ => hSN _ (by repeat (first | with_reducible exact New.refl _ | with_reducible assumption | with_reducible refine New.dr ?_ | with_reducible refine New.al ?_ _) : New w3 _)) ?_
      refine wpAnyT_ready (rs := [2]) (by kernel_rfl) (by simp) (AllT.cons (i := 2) (o := ⟨_, _, _, _, _, _⟩) rfl (fun K hK => ?_) AllT.nil)
      go_simp
      try simp only [Act.put, List.setIfInBounds_toArray, List.set_cons_zero, List.set_cons_succ]
      refine hK.out _ _ (fun _ => hSN _ (by repeat (first | with_reducible exact New.refl _ | with_reducible assumption | with_reducible refine New.dr ?_ | with_reducible refine New.al ?_ _) : New w3 _)) ?_
      refine wpAnyT_ready (rs := [5]) (by kernel_rfl) (by simp) (AllT.cons (i := 5) (o := ⟨_, _, _, _, _, _⟩) rfl (fun K hK => ?_) AllT.nil)
      refine step_app elP _ (by rfl) (.tmp 12) (.tmp 14) (by rfl) w3.heap.size (.slice (some ⟨_, 0, none⟩) 0 0) 0 [] (by rfl) (own_lit (by repeat (first | with_reducible exact Blk.new' _ _ _ (by first | rfl | (simp; done)) | with_reducible refine Blk.drew ?_ | with_reducible refine Blk.alloc ?_ _ | with_reducible refine Blk.fr ?_ hF1 (by simp [Value.ownBlock]) | with_reducible refine New.blk hNX ?_)) (by first | omega | (simp; done) | (simp; omega))) A1 r.sure.length c1 (flatP r.sure) (by rfl) ((by repeat (first | with_reducible exact New.refl _ | with_reducible assumption | with_reducible refine New.dr ?_ | with_reducible refine New.al ?_ _) : New w3 _).rd (H.out.new HN3.out).sure) HP1.out (by unfold maxLen; omega) (by omega) (by first | omega | (simp; done) | (simp; omega)) ?_
      intro A1' d1 w5 hO1 hF1 hA1
      have hN1 : New w3 w5 := (by repeat (first | with_reducible exact New.refl _ | with_reducible assumption | with_reducible refine New.dr ?_ | with_reducible refine New.al ?_ _) : New w3 _).fr hF1 (by intro k hk; simp [Value.ownBlock] at hk; omega)
      have hBX := Blk.fr (New.blk (by repeat (first | with_reducible exact New.refl _ | with_reducible assumption | with_reducible refine New.dr ?_ | with_reducible refine New.al ?_ _) : New wX _) hBX) hF1 (by simp [Value.ownBlock]; omega)
      rw [Nat.zero_add, List.nil_append] at hO1
      rw [Nat.zero_add] at hA1
      rw [Nat.zero_add]
      try simp only [Act.put, List.setIfInBounds_toArray, List.set_cons_zero, List.set_cons_succ]
      refine hK.out _ _ (fun _ => hSN _ (by repeat (first | with_reducible exact New.refl _ | with_reducible assumption | with_reducible refine New.dr ?_ | with_reducible refine New.al ?_ _) : New w3 _)) ?_
      refine wpAnyT_take (i := 6) (oi := ⟨_, _, _, _, _, _⟩) (v := (.agg #[.int .i64 r.size, .slice A1' r.sure.length d1, .slice none 0 0, .int .i64 (-1), .bool false])) rfl (by kernel_rfl) (by kernel_rfl) (by kernel_rfl) (by kernel_rfl) (fun _ _ _ h => h) (Or.inl ⟨by rfl, fun w hSw => by have h1 := hSw.1; have h2 := hSw.2; clear hSw; go_simp⟩) (hSN _ (by repeat (first | with_reducible exact New.refl _ | with_reducible assumption | with_reducible refine New.dr ?_ | with_reducible refine New.al ?_ _) : New w3 _)) ?_
      try simp only [Act.put, List.setIfInBounds_toArray, List.set_cons_zero, List.set_cons_succ]
      refine wpAnyT_ready (rs := [8]) (by kernel_rfl) (by simp) (AllT.cons (i := 8) (o := ⟨_, _, _, _, _, _⟩) rfl (fun K hK => ?_) AllT.nil)
      refine step_store_any (by rfl) (.tmp 5) (.tmp 16) rfl rfl rfl rfl hBX rfl (rf_one _ _ _ _ _ _ _ _ _) ?_
      intro wY hBY hFY
      have hNY : New w3 wY := (by repeat (first | with_reducible exact New.refl _ | with_reducible assumption | with_reducible refine New.dr ?_ | with_reducible refine New.al ?_ _) : New w3 _).fr hFY (fun k hk => by omega)
      have hOY : wY.ownsRow w3.heap.size 92 65 (.slice A1' r.sure.length d1) r.sure.length (flatP r.sure) := by
        refine own_fr (S := fun k => k = gX) (w := _) ?_ hFY (fun k hk e => ?_)
        · exact hO1
        · subst e; exact own_ne hO1 hBX (by decide) hk
      try simp only [Act.put, List.setIfInBounds_toArray, List.set_cons_zero, List.set_cons_succ]
      refine hK.out _ _ (fun h => absurd rfl h) ?_
      refine wpAnyT_done (by kernel_rfl) ?_ _
      try go_wp2_with fail
      go_meet
      exact ⟨gX, rfl, Lib.hid ⟨A1', d1, hBY, hOY, hNY, hl3⟩⟩
  obtain ⟨gX, rfl, HC0⟩ := hcut
  obtain ⟨AS, cS, hBc, hOc, hNc, hgX⟩ := HC0.out
  have HGX := Lib.hid hgX
  have HBc := Lib.hid (New.blk hNc HB3.out)
  have HNc := Lib.hid hNc
  have HNw : Hid (New w wc) := Lib.hid (HN3.out.tr hNc)
  clear hBc hOc hNc hgX
  go_wp2_with ((with_reducible refine atOp ⟨some 17, .load _ _, _, _, _, _⟩ ?_); refine wpList_load_any rfl _ rfl Tryd.underlying32 rfl rfl rfl HBc.out ?_)
  refine (rwaits_any r A1 c1 A2 c2 wc (H.out.new HNw.out) (by unfold RP.tot; omega)).mono ?_
  rintro e w4 ⟨⟨AW, cW, rfl, hW4⟩, hN4⟩
  have hwl : (waits r.fresh).length ≤ 10000 := by have := waits_len r.fresh; omega
  obtain ⟨m, hm⟩ : ∃ m, m = (waits r.fresh).length := ⟨_, rfl⟩
  rw [← hm] at hW4 hwl
  rw [← hm]
  have HW4 : Hid (RdT 3 w4 1 AW m (i64s (waits r.fresh))) := Lib.hid (RdT.own hW4 rfl)
  have HWN4 : Hid (∀ k, AW.map Addr.block = some k → wc.heap.size ≤ k) := Lib.hid (fun k hk => (own_lt hW4 k (by cases AW <;> simp_all [Value.ownBlock])).1)
  have HN4 := Lib.hid hN4
  have HC4 : Hid (CutI w3 r.size gX (cutR r keep 0) w4) := Lib.hid (by
    obtain ⟨A', c', h1, h2, h3, h4⟩ := HC0.out
    exact ⟨A', c', New.blk hN4 h1, New.own hN4 h2, h3.tr hN4, h4⟩)
  have HM := Lib.hid hm
  clear hW4 hN4 hm HC0
  go_wp2_with fail
  go_loopw [7] (fun i wr => ∃ (j : Nat), j ≤ m ∧ i = .int .i64 j ∧ Hid (CutI w3 r.size gX (cutR r keep j) wr) ∧ Hid (RdT 3 wr 1 AW m (i64s (waits r.fresh)))) (fun i _ => m - (intOf i).toNat)
  case atStart => exact ⟨0, Nat.zero_le _, rfl, HC4, HW4⟩
  case round =>
    obtain ⟨j, hj, rfl, HCI, HWI⟩ := hrel
    obtain ⟨A', c', hBI, hOI, hNI, -⟩ := HCI.out
    by_cases hgo : j < m ∧ j < n
    · as_aux_lemma =>
      obtain ⟨hjm, hjn⟩ := hgo
      have HBI := Lib.hid hBI
      have HOI := Lib.hid hOI
      have hcl := cutR_len r keep j
      obtain ⟨gK, oK, rfl, hgK, hpK, ck⟩ := rd_bool ((HN3.out.tr hNI).rd HR.out) hjn
      cases hb : keep.getD j false with
      | false =>
        as_aux_lemma =>
        rw [hb] at ck
        have hsk := cutR_skip (r := r) hb
        have HZ : Hid (CutI w3 r.size gX (cutR r keep (j + 1)) wr) := Lib.hid (by rw [hsk]; exact HCI.out)
        clear hb hsk hBI hOI hNI hcl
        go_wp2_with fail
        go_roundw
        case rel => exact ⟨j + 1, by omega, by go_num, HZ, HWI⟩
        case measure => simp [intOf]; omega
      | true =>
        as_aux_lemma =>
        rw [hb] at ck
        have hst := cutR_take (r := r) hb
        obtain ⟨gW, oW, rfl, hgW, hpW, cw⟩ := rd_int HWI.out hjm
        obtain ⟨x, hx⟩ : ∃ x, x = (waits r.fresh).getD j 0 := ⟨_, rfl⟩
        rw [← hx] at cw hst
        obtain ⟨s, hs⟩ : ∃ s, s = getS r.fresh x := ⟨_, rfl⟩
        rw [← hs] at hst
        have HC := Lib.hid hst
        have HSX : Hid (getS r.fresh x = s) := Lib.hid hs.symm
        have HSO : Hid (SecOk s) := Lib.hid (by rw [hs]; exact lastP_ok H.out.ok.2 x)
        have HCW := Lib.hid cw
        have HFO : Hid (∀ a ∈ r.fresh, SecOk a.s) := Lib.hid H.out.ok.2
        have HFI : Hid (RdT 92 wr 65 A2 r.fresh.length (flatP r.fresh)) := Lib.hid (((H.out.new HN3.out).new hNI).fresh)
        have HGI : Hid (Blk wr G 32 #[.int .i64 r.size, .slice A1 r.sure.length c1, .slice A2 r.fresh.length c2, .int .i64 r.fuse, .bool r.down]) := Lib.hid (New.blk hNI HB3.out)
        have HWN : Hid ((Value.slice A' (cutR r keep j).length c').ownBlock ≠ some gW) := Lib.hid (fun e => IsT.not_own hOI (show (92 : Nat) ≠ 3 by decide) e hpW)
        clear hb hst hx hs cw hBI hOI
        go_upto_region 7 with fail
        obtain ⟨wi, hwi⟩ : ∃ wi : World, wi = wr := ⟨_, rfl⟩
        rw [← hwi] at HCI HWI HBI HOI hNI HCW HFI HGI
        rw [← hwi]
        clear hwi
        have hNI := hNI
        have hSI : ∀ w', New wi w' → w'.cell? ⟨G, 2, none⟩ = some (.slice A2 r.fresh.length c2) ∧ w'.cell? ⟨gW, oW + j, none⟩ = some (.int .i64 x) := fun w' hN => ⟨hN.cell_ (HGI.out.cell 2), hN.cell_ HCW.out⟩
        refine wp_region_T (fun w' => w'.cell? ⟨G, 2, none⟩ = some (.slice A2 r.fresh.length c2) ∧ w'.cell? ⟨gW, oW + j, none⟩ = some (.int .i64 x)) 12 (by kernel_rfl) ?_
        refine wpAnyT_take (i := 0) (oi := ⟨_, _, _, _, _, _⟩) (v := .pointer (some ⟨G, 2, none⟩)) rfl (by kernel_rfl) (by kernel_rfl) (by kernel_rfl) (by kernel_rfl) (fun _ _ _ h => h) (Or.inl ⟨by rfl, fun w hSw => by have h1 := hSw.1; have h2 := hSw.2; clear hSw; go_simp⟩) (hSI _ (by repeat (first | with_reducible exact New.refl _ | with_reducible assumption | with_reducible refine New.dr ?_ | with_reducible refine New.al ?_ _) : New wi _)) ?_
        try simp only [Act.put, List.setIfInBounds_toArray, List.set_cons_zero, List.set_cons_succ]
        refine wpAnyT_take (i := 1) (oi := ⟨_, _, _, _, _, _⟩) (v := .slice A2 r.fresh.length c2) rfl (by kernel_rfl) (by kernel_rfl) (by kernel_rfl) (by kernel_rfl) (fun _ _ _ h => h) (Or.inl ⟨by rfl, fun w hSw => by have h1 := hSw.1; have h2 := hSw.2; clear hSw; go_simp⟩) (hSI _ (by repeat (first | with_reducible exact New.refl _ | with_reducible assumption | with_reducible refine New.dr ?_ | with_reducible refine New.al ?_ _) : New wi _)) ?_
        try simp only [Act.put, List.setIfInBounds_toArray, List.set_cons_zero, List.set_cons_succ]
        refine wpAnyT_take (i := 2) (oi := ⟨_, _, _, _, _, _⟩) (v := .slice (some ⟨gW, oW, none⟩) m cW) rfl (by kernel_rfl) (by kernel_rfl) (by kernel_rfl) (by kernel_rfl) (fun _ _ _ h => h) (Or.inl ⟨by rfl, fun w hSw => by have h1 := hSw.1; have h2 := hSw.2; clear hSw; go_simp⟩) (hSI _ (by repeat (first | with_reducible exact New.refl _ | with_reducible assumption | with_reducible refine New.dr ?_ | with_reducible refine New.al ?_ _) : New wi _)) ?_
        try simp only [Act.put, List.setIfInBounds_toArray, List.set_cons_zero, List.set_cons_succ]
        refine wpAnyT_take (i := 3) (oi := ⟨_, _, _, _, _, _⟩) (v := .int .i64 j) rfl (by kernel_rfl) (by kernel_rfl) (by kernel_rfl) (by kernel_rfl) (fun _ _ _ h => h) (Or.inl ⟨by rfl, fun w hSw => by have h1 := hSw.1; have h2 := hSw.2; clear hSw; go_simp⟩) (hSI _ (by repeat (first | with_reducible exact New.refl _ | with_reducible assumption | with_reducible refine New.dr ?_ | with_reducible refine New.al ?_ _) : New wi _)) ?_
        try simp only [Act.put, List.setIfInBounds_toArray, List.set_cons_zero, List.set_cons_succ]
        refine wpAnyT_take (i := 4) (oi := ⟨_, _, _, _, _, _⟩) (v := .pointer (some ⟨gW, oW + j, none⟩)) rfl (by kernel_rfl) (by kernel_rfl) (by kernel_rfl) (by kernel_rfl) (fun _ _ _ h => h) (Or.inl ⟨by rfl, fun w hSw => by have h1 := hSw.1; have h2 := hSw.2; clear hSw; go_simp⟩) (hSI _ (by repeat (first | with_reducible exact New.refl _ | with_reducible assumption | with_reducible refine New.dr ?_ | with_reducible refine New.al ?_ _) : New wi _)) ?_
        try simp only [Act.put, List.setIfInBounds_toArray, List.set_cons_zero, List.set_cons_succ]
        refine wpAnyT_take (i := 5) (oi := ⟨_, _, _, _, _, _⟩) (v := .int .i64 x) rfl (by kernel_rfl) (by kernel_rfl) (by kernel_rfl) (by kernel_rfl) (fun _ _ _ h => h) (Or.inl ⟨by rfl, fun w hSw => by have h1 := hSw.1; have h2 := hSw.2; clear hSw; go_simp⟩) (hSI _ (by repeat (first | with_reducible exact New.refl _ | with_reducible assumption | with_reducible refine New.dr ?_ | with_reducible refine New.al ?_ _) : New wi _)) ?_
        try simp only [Act.put, List.setIfInBounds_toArray, List.set_cons_zero, List.set_cons_succ]
        refine wpAnyT_ready (rs := [6, 10]) (by kernel_rfl) (by simp) (AllT.cons (i := 6) (o := ⟨_, _, _, _, _, _⟩) rfl (fun K hK => ?_) (AllT.cons (i := 10) (o := ⟨_, _, _, _, _, _⟩) rfl (fun K hK => ?_) AllT.nil))
        · skip
          go_simp
          refine (get_any A2 r.fresh.length c2 r.fresh x _ ((by repeat (first | with_reducible exact New.refl _ | with_reducible assumption | with_reducible refine New.dr ?_ | with_reducible refine New.al ?_ _) : New wi _).rd HFI.out) rfl HFO.out (by omega)).mono ?_
          rw [HSX.out]
          rintro e w5 ⟨rfl, hN5'⟩
          have hN5 : New wi w5 := New.tr (by repeat (first | with_reducible exact New.refl _ | with_reducible assumption | with_reducible refine New.dr ?_ | with_reducible refine New.al ?_ _) : New wi _) hN5'
          try have hBS := New.blk hN5' hBS
          go_wp2_with fail
          try simp only [Act.put, List.setIfInBounds_toArray, List.set_cons_zero, List.set_cons_succ]
          refine hK.out _ _ (fun _ => hSI _ (by repeat (first | with_reducible exact New.refl _ | with_reducible assumption | with_reducible refine New.dr ?_ | with_reducible refine New.al ?_ _) : New wi _)) ?_
          refine wpAnyT_take (i := 7) (oi := ⟨_, _, _, _, _, _⟩) (v := (.tuple #[.agg (secA s), .bool (lastP r.fresh x).isSome])) rfl (by kernel_rfl) (by kernel_rfl) (by kernel_rfl) (by kernel_rfl) (fun _ _ _ h => h) (Or.inl ⟨by rfl, fun w hSw => by have h1 := hSw.1; have h2 := hSw.2; clear hSw; go_simp⟩) (hSI _ (by repeat (first | with_reducible exact New.refl _ | with_reducible assumption | with_reducible refine New.dr ?_ | with_reducible refine New.al ?_ _) : New wi _)) ?_
          try simp only [Act.put, List.setIfInBounds_toArray, List.set_cons_zero, List.set_cons_succ]
          refine wpAnyT_take (i := 8) (oi := ⟨_, _, _, _, _, _⟩) (v := .agg (secA s)) rfl (by kernel_rfl) (by kernel_rfl) (by kernel_rfl) (by kernel_rfl) (fun _ _ _ h => h) (Or.inl ⟨by rfl, fun w hSw => by have h1 := hSw.1; have h2 := hSw.2; clear hSw; go_simp⟩) (hSI _ (by repeat (first | with_reducible exact New.refl _ | with_reducible assumption | with_reducible refine New.dr ?_ | with_reducible refine New.al ?_ _) : New wi _)) ?_
          try simp only [Act.put, List.setIfInBounds_toArray, List.set_cons_zero, List.set_cons_succ]
          refine wpAnyT_take (i := 9) (oi := ⟨_, _, _, _, _, _⟩) (v := (.bool (lastP r.fresh x).isSome)) rfl (by kernel_rfl) (by kernel_rfl) (by kernel_rfl) (by kernel_rfl) (fun _ _ _ h => h) (Or.inl ⟨by rfl, fun w hSw => by have h1 := hSw.1; have h2 := hSw.2; clear hSw; go_simp⟩) (hSI _ (by repeat (first | with_reducible exact New.refl _ | with_reducible assumption | with_reducible refine New.dr ?_ | with_reducible refine New.al ?_ _) : New wi _)) ?_
          try simp only [Act.put, List.setIfInBounds_toArray, List.set_cons_zero, List.set_cons_succ]
          refine wpAnyT_ready (rs := [10]) (by kernel_rfl) (by simp) (AllT.cons (i := 10) (o := ⟨_, _, _, _, _, _⟩) rfl (fun K hK => ?_) AllT.nil)
          refine step_allocn (by rfl) rfl secInfo ?_
          intro gS wS hBS hNS hlS
          have hNSi : New wi wS := New.tr (by repeat (first | with_reducible exact New.refl _ | with_reducible assumption | with_reducible refine New.dr ?_ | with_reducible refine New.al ?_ _) : New wi _) hNS
          have hgS : wi.heap.size ≤ gS := Nat.le_trans (by repeat (first | with_reducible exact New.refl _ | with_reducible assumption | with_reducible refine New.dr ?_ | with_reducible refine New.al ?_ _) : New wi _).size hlS
          try simp only [Act.put, List.setIfInBounds_toArray, List.set_cons_zero, List.set_cons_succ]
          refine hK.out _ _ (fun _ => hSI _ (by repeat (first | with_reducible exact New.refl _ | with_reducible assumption | with_reducible refine New.dr ?_ | with_reducible refine New.al ?_ _) : New wi _)) ?_
          refine wpAnyT_ready (rs := [11]) (by kernel_rfl) (by simp) (AllT.cons (i := 11) (o := ⟨_, _, _, _, _, _⟩) rfl (fun K hK => ?_) AllT.nil)
          refine step_store_any (cs0 := secA sec0) (by rfl) (.tmp 8) (.tmp 43) rfl (by rw [secA_size, HSO.out.1]; rfl) rfl rfl hBS (by rw [secA_size, secA_size, HSO.out.1]; rfl) (secA_one s) ?_
          intro wT hBT hFT
          have hNT : New wi wT := (by repeat (first | with_reducible exact New.refl _ | with_reducible assumption | with_reducible refine New.dr ?_ | with_reducible refine New.al ?_ _) : New wi _).fr hFT (fun k hk => by omega)
          have hBS := hBT
          try simp only [Act.put, List.setIfInBounds_toArray, List.set_cons_zero, List.set_cons_succ]
          refine hK.out _ _ (fun _ => hSI _ hNT) ?_
          refine wpAnyT_ready (rs := [12]) (by kernel_rfl) (by simp) (AllT.cons (i := 12) (o := ⟨_, _, _, _, _, _⟩) rfl (fun K hK => ?_) AllT.nil)
          go_simp
          try simp only [Act.put, List.setIfInBounds_toArray, List.set_cons_zero, List.set_cons_succ]
          refine hK.out _ _ (fun h => absurd rfl h) ?_
          refine wpAnyT_done (by kernel_rfl) ?_ _
          obtain ⟨wm, hwm⟩ : ∃ wm : World, wm = wT := ⟨_, rfl⟩
          rw [← hwm] at hNT hBS
          rw [← hwm]
          clear hwm
          have HNM : Hid (New w3 wm) := Lib.hid ((hNI.tr hNT))
          have HBM := Lib.hid (New.blk hNT HBI.out)
          have HOM := Lib.hid (New.own hNT HOI.out)
          have HSM := Lib.hid hBS
          have HCM : Hid (wm.cell? ⟨gW, oW + j, none⟩ = some (.int .i64 x)) := Lib.hid (hNT.cell_ HCW.out)
          have HWS : Hid (RdT 3 wm 1 (some ⟨gW, oW, none⟩) m (i64s (waits r.fresh))) := Lib.hid (HWI.out.new hNT)
          have HN3M : Hid (w3.heap.size ≤ wm.heap.size) := Lib.hid HNM.out.size
          clear hNT hBS
          have hSM : ∀ w', New wm w' → w'.rangeAt gS 0 (u8s s) ∧ w'.cell? ⟨gX, 1, none⟩ = some (.slice A' (cutR r keep j).length c') ∧ w'.cell? ⟨gW, oW + j, none⟩ = some (.int .i64 x) := fun w' hN => ⟨(New.blk hN HSM.out).range, hN.cell_ (HBM.out.cell 1), hN.cell_ HCM.out⟩
          have hu := Tryd.underlying35
          have hi : (Tryd.prog.info? 35).map (·.size) = some (u8s s).length := by rw [u8s_len, HSO.out.1]; rfl
          have z1 := putZ_zero
          have z2 := putZ_size
          have z3 := putZ_ne
          have z4 := put_fold (x := x) HSO.out
          have z5 := putA_size (x := x) HSO.out
          have z6 := put_fold2 (x := x) HSO.out #[putZ[0]'(by rw [putZ_size]; omega), putZ[1]'(by rw [putZ_size]; omega), putZ[2]'(by rw [putZ_size]; omega), putZ[3]'(by rw [putZ_size]; omega), putZ[4]'(by rw [putZ_size]; omega), putZ[5]'(by rw [putZ_size]; omega), putZ[6]'(by rw [putZ_size]; omega), putZ[7]'(by rw [putZ_size]; omega), putZ[8]'(by rw [putZ_size]; omega), putZ[9]'(by rw [putZ_size]; omega), putZ[10]'(by rw [putZ_size]; omega), putZ[11]'(by rw [putZ_size]; omega), putZ[12]'(by rw [putZ_size]; omega), putZ[13]'(by rw [putZ_size]; omega), putZ[14]'(by rw [putZ_size]; omega), putZ[15]'(by rw [putZ_size]; omega), putZ[16]'(by rw [putZ_size]; omega), putZ[17]'(by rw [putZ_size]; omega), putZ[18]'(by rw [putZ_size]; omega), putZ[19]'(by rw [putZ_size]; omega), putZ[20]'(by rw [putZ_size]; omega), putZ[21]'(by rw [putZ_size]; omega), putZ[22]'(by rw [putZ_size]; omega), putZ[23]'(by rw [putZ_size]; omega), putZ[24]'(by rw [putZ_size]; omega), putZ[25]'(by rw [putZ_size]; omega), putZ[26]'(by rw [putZ_size]; omega), putZ[27]'(by rw [putZ_size]; omega), putZ[28]'(by rw [putZ_size]; omega), putZ[29]'(by rw [putZ_size]; omega), putZ[30]'(by rw [putZ_size]; omega), putZ[31]'(by rw [putZ_size]; omega), putZ[32]'(by rw [putZ_size]; omega), putZ[33]'(by rw [putZ_size]; omega), putZ[34]'(by rw [putZ_size]; omega), putZ[35]'(by rw [putZ_size]; omega), putZ[36]'(by rw [putZ_size]; omega), putZ[37]'(by rw [putZ_size]; omega), putZ[38]'(by rw [putZ_size]; omega), putZ[39]'(by rw [putZ_size]; omega), putZ[40]'(by rw [putZ_size]; omega), putZ[41]'(by rw [putZ_size]; omega), putZ[42]'(by rw [putZ_size]; omega), putZ[43]'(by rw [putZ_size]; omega), putZ[44]'(by rw [putZ_size]; omega), putZ[45]'(by rw [putZ_size]; omega), putZ[46]'(by rw [putZ_size]; omega), putZ[47]'(by rw [putZ_size]; omega), putZ[48]'(by rw [putZ_size]; omega), putZ[49]'(by rw [putZ_size]; omega), putZ[50]'(by rw [putZ_size]; omega), putZ[51]'(by rw [putZ_size]; omega), putZ[52]'(by rw [putZ_size]; omega), putZ[53]'(by rw [putZ_size]; omega), putZ[54]'(by rw [putZ_size]; omega), putZ[55]'(by rw [putZ_size]; omega), putZ[56]'(by rw [putZ_size]; omega), putZ[57]'(by rw [putZ_size]; omega), putZ[58]'(by rw [putZ_size]; omega), putZ[59]'(by rw [putZ_size]; omega), putZ[60]'(by rw [putZ_size]; omega), putZ[61]'(by rw [putZ_size]; omega), putZ[62]'(by rw [putZ_size]; omega), putZ[63]'(by rw [putZ_size]; omega), putZ[64]'(by rw [putZ_size]; omega)] rfl
          have zl : (u8s s).length = 64 := by rw [u8s_len, HSO.out.1]
          go_upto_region 8 with fail
          refine wp_region_T (fun w' => w'.rangeAt gS 0 (u8s s) ∧ w'.cell? ⟨gX, 1, none⟩ = some (.slice A' (cutR r keep j).length c') ∧ w'.cell? ⟨gW, oW + j, none⟩ = some (.int .i64 x)) 11 (by kernel_rfl) ?_
          refine wpAnyT_take (i := 0) (oi := ⟨_, _, _, _, _, _⟩) (v := .pointer (some ⟨gX, 1, none⟩)) rfl (by kernel_rfl) (by kernel_rfl) (by kernel_rfl) (by kernel_rfl) (fun _ _ _ h => h) (Or.inl ⟨by rfl, fun w hSw => by have h1 := hSw.1; have h2 := hSw.2.1; have h3 := hSw.2.2; clear hSw; go_simp⟩) (hSM _ (by repeat (first | with_reducible exact New.refl _ | with_reducible assumption | with_reducible refine New.dr ?_ | with_reducible refine New.al ?_ _) : New wm _)) ?_
          try simp only [Act.put, List.setIfInBounds_toArray, List.set_cons_zero, List.set_cons_succ]
          refine wpAnyT_take (i := 1) (oi := ⟨_, _, _, _, _, _⟩) (v := (.slice A' (cutR r keep j).length c')) rfl (by kernel_rfl) (by kernel_rfl) (by kernel_rfl) (by kernel_rfl) (fun _ _ _ h => h) (Or.inl ⟨by rfl, fun w hSw => by have h1 := hSw.1; have h2 := hSw.2.1; have h3 := hSw.2.2; clear hSw; go_simp⟩) (hSM _ (by repeat (first | with_reducible exact New.refl _ | with_reducible assumption | with_reducible refine New.dr ?_ | with_reducible refine New.al ?_ _) : New wm _)) ?_
          try simp only [Act.put, List.setIfInBounds_toArray, List.set_cons_zero, List.set_cons_succ]
          refine wpAnyT_take (i := 2) (oi := ⟨_, _, _, _, _, _⟩) (v := .slice (some ⟨gW, oW, none⟩) m cW) rfl (by kernel_rfl) (by kernel_rfl) (by kernel_rfl) (by kernel_rfl) (fun _ _ _ h => h) (Or.inl ⟨by rfl, fun w hSw => by have h1 := hSw.1; have h2 := hSw.2.1; have h3 := hSw.2.2; clear hSw; go_simp⟩) (hSM _ (by repeat (first | with_reducible exact New.refl _ | with_reducible assumption | with_reducible refine New.dr ?_ | with_reducible refine New.al ?_ _) : New wm _)) ?_
          try simp only [Act.put, List.setIfInBounds_toArray, List.set_cons_zero, List.set_cons_succ]
          refine wpAnyT_take (i := 3) (oi := ⟨_, _, _, _, _, _⟩) (v := .int .i64 j) rfl (by kernel_rfl) (by kernel_rfl) (by kernel_rfl) (by kernel_rfl) (fun _ _ _ h => h) (Or.inl ⟨by rfl, fun w hSw => by have h1 := hSw.1; have h2 := hSw.2.1; have h3 := hSw.2.2; clear hSw; go_simp⟩) (hSM _ (by repeat (first | with_reducible exact New.refl _ | with_reducible assumption | with_reducible refine New.dr ?_ | with_reducible refine New.al ?_ _) : New wm _)) ?_
          try simp only [Act.put, List.setIfInBounds_toArray, List.set_cons_zero, List.set_cons_succ]
          refine wpAnyT_take (i := 4) (oi := ⟨_, _, _, _, _, _⟩) (v := .pointer (some ⟨gW, oW + j, none⟩)) rfl (by kernel_rfl) (by kernel_rfl) (by kernel_rfl) (by kernel_rfl) (fun _ _ _ h => h) (Or.inl ⟨by rfl, fun w hSw => by have h1 := hSw.1; have h2 := hSw.2.1; have h3 := hSw.2.2; clear hSw; go_simp⟩) (hSM _ (by repeat (first | with_reducible exact New.refl _ | with_reducible assumption | with_reducible refine New.dr ?_ | with_reducible refine New.al ?_ _) : New wm _)) ?_
          try simp only [Act.put, List.setIfInBounds_toArray, List.set_cons_zero, List.set_cons_succ]
          refine wpAnyT_take (i := 5) (oi := ⟨_, _, _, _, _, _⟩) (v := .int .i64 x) rfl (by kernel_rfl) (by kernel_rfl) (by kernel_rfl) (by kernel_rfl) (fun _ _ _ h => h) (Or.inl ⟨by rfl, fun w hSw => by have h1 := hSw.1; have h2 := hSw.2.1; have h3 := hSw.2.2; clear hSw; go_simp⟩) (hSM _ (by repeat (first | with_reducible exact New.refl _ | with_reducible assumption | with_reducible refine New.dr ?_ | with_reducible refine New.al ?_ _) : New wm _)) ?_
          try simp only [Act.put, List.setIfInBounds_toArray, List.set_cons_zero, List.set_cons_succ]
          refine wpAnyT_take (i := 6) (oi := ⟨_, _, _, _, _, _⟩) (v := .agg (u8s s).toArray) rfl (by kernel_rfl) (by kernel_rfl) (by kernel_rfl) (by kernel_rfl) (fun _ _ _ h => h) (yieldsIf_load_mid (by rfl) _ _ rfl _ _ rfl _ _ (fun w hSw => hSw.1) hu rfl hi) (hSM _ (by repeat (first | with_reducible exact New.refl _ | with_reducible assumption | with_reducible refine New.dr ?_ | with_reducible refine New.al ?_ _) : New wm _)) ?_
          try simp only [Act.put, List.setIfInBounds_toArray, List.set_cons_zero, List.set_cons_succ]
          refine wpAnyT_take (i := 7) (oi := ⟨_, _, _, _, _, _⟩) (v := .agg (putA x s)) rfl (by kernel_rfl) (by kernel_rfl) (by kernel_rfl) (by kernel_rfl) (fun _ _ _ h => h) (Or.inl ⟨by rfl, fun w hSw => by have h1 := hSw.1; have h2 := hSw.2.1; have h3 := hSw.2.2; clear hSw; go_simp⟩) (hSM _ (by repeat (first | with_reducible exact New.refl _ | with_reducible assumption | with_reducible refine New.dr ?_ | with_reducible refine New.al ?_ _) : New wm _)) ?_
          try simp only [Act.put, List.setIfInBounds_toArray, List.set_cons_zero, List.set_cons_succ]
          refine wpAnyT_ready (rs := [8]) (by kernel_rfl) (by simp) (AllT.cons (i := 8) (o := ⟨_, _, _, _, _, _⟩) rfl (fun K hK => ?_) AllT.nil)
          go_simp
          try simp only [Act.put, List.setIfInBounds_toArray, List.set_cons_zero, List.set_cons_succ]
          refine hK.out _ _ (fun _ => hSM _ (by repeat (first | with_reducible exact New.refl _ | with_reducible assumption | with_reducible refine New.dr ?_ | with_reducible refine New.al ?_ _) : New wm _)) ?_
          refine wpAnyT_ready (rs := [9]) (by kernel_rfl) (by simp) (AllT.cons (i := 9) (o := ⟨_, _, _, _, _, _⟩) rfl (fun K hK => ?_) AllT.nil)
          refine step_app elP _ (by rfl) (.tmp 46) (.tmp 53) (by rfl) w3.heap.size (.slice A' (cutR r keep j).length c') (cutR r keep j).length (flatP (cutR r keep j)) (by rfl) (New.own (by repeat (first | with_reducible exact New.refl _ | with_reducible assumption | with_reducible refine New.dr ?_ | with_reducible refine New.al ?_ _) : New wm _) HOM.out) (some ⟨_, 0, none⟩) 1 1 (putA x s).toList (by rfl) (Rd.ofBlk (p := fun _ => True) (t := 92) (cs := putA x s) (by repeat (first | with_reducible exact Blk.new' _ _ _ (by first | rfl | (simp; done)) | with_reducible refine Blk.drew ?_ | with_reducible refine Blk.alloc ?_ _ | with_reducible refine Blk.fr ?_ hF1 (by simp [Value.ownBlock]) | with_reducible refine New.blk hNX ?_)) 65 1 (by rw [z5]) trivial) (by intro u hu; exact PU.one ⟨x, s⟩ u (by simpa [putA] using hu)) (by unfold maxLen; omega) (by omega) (Nat.le_trans HN3M.out (by repeat (first | with_reducible exact New.refl _ | with_reducible assumption | with_reducible refine New.dr ?_ | with_reducible refine New.al ?_ _) : New wm _).size) ?_
          intro A4 c4 wN hON hFN hAN
          have hBN : Blk wN gX 32 #[.int .i64 r.size, .slice A' (cutR r keep j).length c', .slice none 0 0, .int .i64 (-1), .bool false] := (New.blk (by repeat (first | with_reducible exact New.refl _ | with_reducible assumption | with_reducible refine New.dr ?_ | with_reducible refine New.al ?_ _) : New wm _) HBM.out).fr hFN (fun e => own_ne HOM.out HBM.out (by decide) e)
          have n1 := hBN.cell 1
          have n1f := hBN.frozen 1
          have hSE : wN.rangeAt gS 0 (u8s s) ∧ wN.cell? ⟨gX, 1, none⟩ = some (.slice A' (cutR r keep j).length c') ∧ wN.cell? ⟨gW, oW + j, none⟩ = some (.int .i64 x) := ⟨((New.blk (by repeat (first | with_reducible exact New.refl _ | with_reducible assumption | with_reducible refine New.dr ?_ | with_reducible refine New.al ?_ _) : New wm _) HSM.out).fr hFN (fun e => own_ne HOM.out HSM.out (by decide) e)).range, n1, hFN.cell_some ((by repeat (first | with_reducible exact New.refl _ | with_reducible assumption | with_reducible refine New.dr ?_ | with_reducible refine New.al ?_ _) : New wm _).cell_ HCM.out) (fun e => HWN.out e)⟩
          try simp only [Act.put, List.setIfInBounds_toArray, List.set_cons_zero, List.set_cons_succ]
          refine hK.out _ _ (fun _ => hSE) ?_
          refine wpAnyT_take (i := 10) (oi := ⟨_, _, _, _, _, _⟩) (v := .pointer (some ⟨gX, 1, none⟩)) rfl (by kernel_rfl) (by kernel_rfl) (by kernel_rfl) (by kernel_rfl) (fun _ _ _ h => h) (Or.inl ⟨by rfl, fun w hSw => by have h1 := hSw.1; have h2 := hSw.2.1; have h3 := hSw.2.2; clear hSw; go_simp⟩) (hSE) ?_
          try simp only [Act.put, List.setIfInBounds_toArray, List.set_cons_zero, List.set_cons_succ]
          refine wpAnyT_ready (rs := [11]) (by kernel_rfl) (by simp) (AllT.cons (i := 11) (o := ⟨_, _, _, _, _, _⟩) rfl (fun K hK => ?_) AllT.nil)
          go_simp
          try simp only [Act.put, List.setIfInBounds_toArray, List.set_cons_zero, List.set_cons_succ]
          refine hK.out _ _ (fun h => absurd rfl h) ?_
          refine wpAnyT_done (by kernel_rfl) ?_ _
          have hNN : Fr (fun k => (Value.slice A' (cutR r keep j).length c').ownBlock = some k) wm wN := ((by repeat (first | with_reducible exact New.refl _ | with_reducible assumption | with_reducible refine New.dr ?_ | with_reducible refine New.al ?_ _) : New wm _).toFr _).trans hFN
          have hBZ := hBN.set 1 (.slice A4 ((cutR r keep j).length + 1) c4)
          have hFZ : Fr (fun k => k = gX) wN (wN.setCell ⟨gX, 1, none⟩ (.slice A4 ((cutR r keep j).length + 1) c4)) := (Fr.refl (fun k => k = gX) wN).setCell (p := ⟨gX, 1, none⟩) (fun _ => rfl) _
          have hOZ := own_fr hON hFZ (fun k hk e => by subst e; exact own_ne hON hBN (by decide) hk)
          have hNZ : New w3 (wN.setCell ⟨gX, 1, none⟩ (.slice A4 ((cutR r keep j).length + 1) c4)) := (HNM.out.fr hNN (fun k hk => (own_lt HOM.out k hk).1)).fr hFZ (fun k hk => by have := HGX.out; omega)
          have hWZ : RdT 3 (wN.setCell ⟨gX, 1, none⟩ (.slice A4 ((cutR r keep j).length + 1) c4)) 1 (some ⟨gW, oW, none⟩) m (i64s (waits r.fresh)) := (HWS.out.fr hNN (fun k hk => IsT.not_own HOM.out (by decide) hk)).fr hFZ (fun k hk => by subst hk; exact IsT.not_blk hBN (by decide))
          have hC := HC.out
          clear n1 n1f hSE hSM z1 z2 z3 z4 z5 z6 zl hu hi
          have HZ : Hid (CutI w3 r.size gX (cutR r keep (j + 1)) (wN.setCell ⟨gX, 1, none⟩ (.slice A4 ((cutR r keep j).length + 1) c4))) := Lib.hid (by
            rw [hC]
            refine ⟨A4, c4, ?_, ?_, hNZ, HGX.out⟩
            · rw [List.length_append]; exact hBZ
            · rw [List.length_append, flatP_app, flatP_one]; simpa [putA] using hOZ)
          have HWZ := Lib.hid hWZ
          clear hC hBZ hFZ hOZ hNZ hWZ hNN hBN hON hFN hAN
          go_wp2_with fail
          go_roundw
          case rel => exact ⟨j + 1, by omega, by go_num, HZ, HWZ⟩
          case measure => simp [intOf]; omega
        · skip
          refine step_allocn (by rfl) rfl secInfo ?_
          intro gS wS hBS hNS hlS
          have hNSi : New wi wS := New.tr (by repeat (first | with_reducible exact New.refl _ | with_reducible assumption | with_reducible refine New.dr ?_ | with_reducible refine New.al ?_ _) : New wi _) hNS
          have hgS : wi.heap.size ≤ gS := Nat.le_trans (by repeat (first | with_reducible exact New.refl _ | with_reducible assumption | with_reducible refine New.dr ?_ | with_reducible refine New.al ?_ _) : New wi _).size hlS
          try simp only [Act.put, List.setIfInBounds_toArray, List.set_cons_zero, List.set_cons_succ]
          refine hK.out _ _ (fun _ => hSI _ (by repeat (first | with_reducible exact New.refl _ | with_reducible assumption | with_reducible refine New.dr ?_ | with_reducible refine New.al ?_ _) : New wi _)) ?_
          refine wpAnyT_ready (rs := [6]) (by kernel_rfl) (by simp) (AllT.cons (i := 6) (o := ⟨_, _, _, _, _, _⟩) rfl (fun K hK => ?_) AllT.nil)
          go_simp
          refine (get_any A2 r.fresh.length c2 r.fresh x _ ((by repeat (first | with_reducible exact New.refl _ | with_reducible assumption | with_reducible refine New.dr ?_ | with_reducible refine New.al ?_ _) : New wi _).rd HFI.out) rfl HFO.out (by omega)).mono ?_
          rw [HSX.out]
          rintro e w5 ⟨rfl, hN5'⟩
          have hN5 : New wi w5 := New.tr (by repeat (first | with_reducible exact New.refl _ | with_reducible assumption | with_reducible refine New.dr ?_ | with_reducible refine New.al ?_ _) : New wi _) hN5'
          try have hBS := New.blk hN5' hBS
          go_wp2_with fail
          try simp only [Act.put, List.setIfInBounds_toArray, List.set_cons_zero, List.set_cons_succ]
          refine hK.out _ _ (fun _ => hSI _ (by repeat (first | with_reducible exact New.refl _ | with_reducible assumption | with_reducible refine New.dr ?_ | with_reducible refine New.al ?_ _) : New wi _)) ?_
          refine wpAnyT_take (i := 7) (oi := ⟨_, _, _, _, _, _⟩) (v := (.tuple #[.agg (secA s), .bool (lastP r.fresh x).isSome])) rfl (by kernel_rfl) (by kernel_rfl) (by kernel_rfl) (by kernel_rfl) (fun _ _ _ h => h) (Or.inl ⟨by rfl, fun w hSw => by have h1 := hSw.1; have h2 := hSw.2; clear hSw; go_simp⟩) (hSI _ (by repeat (first | with_reducible exact New.refl _ | with_reducible assumption | with_reducible refine New.dr ?_ | with_reducible refine New.al ?_ _) : New wi _)) ?_
          try simp only [Act.put, List.setIfInBounds_toArray, List.set_cons_zero, List.set_cons_succ]
          refine wpAnyT_take (i := 8) (oi := ⟨_, _, _, _, _, _⟩) (v := .agg (secA s)) rfl (by kernel_rfl) (by kernel_rfl) (by kernel_rfl) (by kernel_rfl) (fun _ _ _ h => h) (Or.inl ⟨by rfl, fun w hSw => by have h1 := hSw.1; have h2 := hSw.2; clear hSw; go_simp⟩) (hSI _ (by repeat (first | with_reducible exact New.refl _ | with_reducible assumption | with_reducible refine New.dr ?_ | with_reducible refine New.al ?_ _) : New wi _)) ?_
          try simp only [Act.put, List.setIfInBounds_toArray, List.set_cons_zero, List.set_cons_succ]
          refine wpAnyT_take (i := 9) (oi := ⟨_, _, _, _, _, _⟩) (v := (.bool (lastP r.fresh x).isSome)) rfl (by kernel_rfl) (by kernel_rfl) (by kernel_rfl) (by kernel_rfl) (fun _ _ _ h => h) (Or.inl ⟨by rfl, fun w hSw => by have h1 := hSw.1; have h2 := hSw.2; clear hSw; go_simp⟩) (hSI _ (by repeat (first | with_reducible exact New.refl _ | with_reducible assumption | with_reducible refine New.dr ?_ | with_reducible refine New.al ?_ _) : New wi _)) ?_
          try simp only [Act.put, List.setIfInBounds_toArray, List.set_cons_zero, List.set_cons_succ]
          refine wpAnyT_ready (rs := [11]) (by kernel_rfl) (by simp) (AllT.cons (i := 11) (o := ⟨_, _, _, _, _, _⟩) rfl (fun K hK => ?_) AllT.nil)
          refine step_store_any (cs0 := secA sec0) (by rfl) (.tmp 8) (.tmp 43) rfl (by rw [secA_size, HSO.out.1]; rfl) rfl rfl hBS (by rw [secA_size, secA_size, HSO.out.1]; rfl) (secA_one s) ?_
          intro wT hBT hFT
          have hNT : New wi wT := (by repeat (first | with_reducible exact New.refl _ | with_reducible assumption | with_reducible refine New.dr ?_ | with_reducible refine New.al ?_ _) : New wi _).fr hFT (fun k hk => by omega)
          have hBS := hBT
          try simp only [Act.put, List.setIfInBounds_toArray, List.set_cons_zero, List.set_cons_succ]
          refine hK.out _ _ (fun _ => hSI _ hNT) ?_
          refine wpAnyT_ready (rs := [12]) (by kernel_rfl) (by simp) (AllT.cons (i := 12) (o := ⟨_, _, _, _, _, _⟩) rfl (fun K hK => ?_) AllT.nil)
          go_simp
          try simp only [Act.put, List.setIfInBounds_toArray, List.set_cons_zero, List.set_cons_succ]
          refine hK.out _ _ (fun h => absurd rfl h) ?_
          refine wpAnyT_done (by kernel_rfl) ?_ _
          obtain ⟨wm, hwm⟩ : ∃ wm : World, wm = wT := ⟨_, rfl⟩
          rw [← hwm] at hNT hBS
          rw [← hwm]
          clear hwm
          have HNM : Hid (New w3 wm) := Lib.hid ((hNI.tr hNT))
          have HBM := Lib.hid (New.blk hNT HBI.out)
          have HOM := Lib.hid (New.own hNT HOI.out)
          have HSM := Lib.hid hBS
          have HCM : Hid (wm.cell? ⟨gW, oW + j, none⟩ = some (.int .i64 x)) := Lib.hid (hNT.cell_ HCW.out)
          have HWS : Hid (RdT 3 wm 1 (some ⟨gW, oW, none⟩) m (i64s (waits r.fresh))) := Lib.hid (HWI.out.new hNT)
          have HN3M : Hid (w3.heap.size ≤ wm.heap.size) := Lib.hid HNM.out.size
          clear hNT hBS
          have hSM : ∀ w', New wm w' → w'.rangeAt gS 0 (u8s s) ∧ w'.cell? ⟨gX, 1, none⟩ = some (.slice A' (cutR r keep j).length c') ∧ w'.cell? ⟨gW, oW + j, none⟩ = some (.int .i64 x) := fun w' hN => ⟨(New.blk hN HSM.out).range, hN.cell_ (HBM.out.cell 1), hN.cell_ HCM.out⟩
          have hu := Tryd.underlying35
          have hi : (Tryd.prog.info? 35).map (·.size) = some (u8s s).length := by rw [u8s_len, HSO.out.1]; rfl
          have z1 := putZ_zero
          have z2 := putZ_size
          have z3 := putZ_ne
          have z4 := put_fold (x := x) HSO.out
          have z5 := putA_size (x := x) HSO.out
          have z6 := put_fold2 (x := x) HSO.out #[putZ[0]'(by rw [putZ_size]; omega), putZ[1]'(by rw [putZ_size]; omega), putZ[2]'(by rw [putZ_size]; omega), putZ[3]'(by rw [putZ_size]; omega), putZ[4]'(by rw [putZ_size]; omega), putZ[5]'(by rw [putZ_size]; omega), putZ[6]'(by rw [putZ_size]; omega), putZ[7]'(by rw [putZ_size]; omega), putZ[8]'(by rw [putZ_size]; omega), putZ[9]'(by rw [putZ_size]; omega), putZ[10]'(by rw [putZ_size]; omega), putZ[11]'(by rw [putZ_size]; omega), putZ[12]'(by rw [putZ_size]; omega), putZ[13]'(by rw [putZ_size]; omega), putZ[14]'(by rw [putZ_size]; omega), putZ[15]'(by rw [putZ_size]; omega), putZ[16]'(by rw [putZ_size]; omega), putZ[17]'(by rw [putZ_size]; omega), putZ[18]'(by rw [putZ_size]; omega), putZ[19]'(by rw [putZ_size]; omega), putZ[20]'(by rw [putZ_size]; omega), putZ[21]'(by rw [putZ_size]; omega), putZ[22]'(by rw [putZ_size]; omega), putZ[23]'(by rw [putZ_size]; omega), putZ[24]'(by rw [putZ_size]; omega), putZ[25]'(by rw [putZ_size]; omega), putZ[26]'(by rw [putZ_size]; omega), putZ[27]'(by rw [putZ_size]; omega), putZ[28]'(by rw [putZ_size]; omega), putZ[29]'(by rw [putZ_size]; omega), putZ[30]'(by rw [putZ_size]; omega), putZ[31]'(by rw [putZ_size]; omega), putZ[32]'(by rw [putZ_size]; omega), putZ[33]'(by rw [putZ_size]; omega), putZ[34]'(by rw [putZ_size]; omega), putZ[35]'(by rw [putZ_size]; omega), putZ[36]'(by rw [putZ_size]; omega), putZ[37]'(by rw [putZ_size]; omega), putZ[38]'(by rw [putZ_size]; omega), putZ[39]'(by rw [putZ_size]; omega), putZ[40]'(by rw [putZ_size]; omega), putZ[41]'(by rw [putZ_size]; omega), putZ[42]'(by rw [putZ_size]; omega), putZ[43]'(by rw [putZ_size]; omega), putZ[44]'(by rw [putZ_size]; omega), putZ[45]'(by rw [putZ_size]; omega), putZ[46]'(by rw [putZ_size]; omega), putZ[47]'(by rw [putZ_size]; omega), putZ[48]'(by rw [putZ_size]; omega), putZ[49]'(by rw [putZ_size]; omega), putZ[50]'(by rw [putZ_size]; omega), putZ[51]'(by rw [putZ_size]; omega), putZ[52]'(by rw [putZ_size]; omega), putZ[53]'(by rw [putZ_size]; omega), putZ[54]'(by rw [putZ_size]; omega), putZ[55]'(by rw [putZ_size]; omega), putZ[56]'(by rw [putZ_size]; omega), putZ[57]'(by rw [putZ_size]; omega), putZ[58]'(by rw [putZ_size]; omega), putZ[59]'(by rw [putZ_size]; omega), putZ[60]'(by rw [putZ_size]; omega), putZ[61]'(by rw [putZ_size]; omega), putZ[62]'(by rw [putZ_size]; omega), putZ[63]'(by rw [putZ_size]; omega), putZ[64]'(by rw [putZ_size]; omega)] rfl
          have zl : (u8s s).length = 64 := by rw [u8s_len, HSO.out.1]
          go_upto_region 8 with fail
          refine wp_region_T (fun w' => w'.rangeAt gS 0 (u8s s) ∧ w'.cell? ⟨gX, 1, none⟩ = some (.slice A' (cutR r keep j).length c') ∧ w'.cell? ⟨gW, oW + j, none⟩ = some (.int .i64 x)) 11 (by kernel_rfl) ?_
          refine wpAnyT_take (i := 0) (oi := ⟨_, _, _, _, _, _⟩) (v := .pointer (some ⟨gX, 1, none⟩)) rfl (by kernel_rfl) (by kernel_rfl) (by kernel_rfl) (by kernel_rfl) (fun _ _ _ h => h) (Or.inl ⟨by rfl, fun w hSw => by have h1 := hSw.1; have h2 := hSw.2.1; have h3 := hSw.2.2; clear hSw; go_simp⟩) (hSM _ (by repeat (first | with_reducible exact New.refl _ | with_reducible assumption | with_reducible refine New.dr ?_ | with_reducible refine New.al ?_ _) : New wm _)) ?_
          try simp only [Act.put, List.setIfInBounds_toArray, List.set_cons_zero, List.set_cons_succ]
          refine wpAnyT_take (i := 1) (oi := ⟨_, _, _, _, _, _⟩) (v := (.slice A' (cutR r keep j).length c')) rfl (by kernel_rfl) (by kernel_rfl) (by kernel_rfl) (by kernel_rfl) (fun _ _ _ h => h) (Or.inl ⟨by rfl, fun w hSw => by have h1 := hSw.1; have h2 := hSw.2.1; have h3 := hSw.2.2; clear hSw; go_simp⟩) (hSM _ (by repeat (first | with_reducible exact New.refl _ | with_reducible assumption | with_reducible refine New.dr ?_ | with_reducible refine New.al ?_ _) : New wm _)) ?_
          try simp only [Act.put, List.setIfInBounds_toArray, List.set_cons_zero, List.set_cons_succ]
          refine wpAnyT_take (i := 2) (oi := ⟨_, _, _, _, _, _⟩) (v := .slice (some ⟨gW, oW, none⟩) m cW) rfl (by kernel_rfl) (by kernel_rfl) (by kernel_rfl) (by kernel_rfl) (fun _ _ _ h => h) (Or.inl ⟨by rfl, fun w hSw => by have h1 := hSw.1; have h2 := hSw.2.1; have h3 := hSw.2.2; clear hSw; go_simp⟩) (hSM _ (by repeat (first | with_reducible exact New.refl _ | with_reducible assumption | with_reducible refine New.dr ?_ | with_reducible refine New.al ?_ _) : New wm _)) ?_
          try simp only [Act.put, List.setIfInBounds_toArray, List.set_cons_zero, List.set_cons_succ]
          refine wpAnyT_take (i := 3) (oi := ⟨_, _, _, _, _, _⟩) (v := .int .i64 j) rfl (by kernel_rfl) (by kernel_rfl) (by kernel_rfl) (by kernel_rfl) (fun _ _ _ h => h) (Or.inl ⟨by rfl, fun w hSw => by have h1 := hSw.1; have h2 := hSw.2.1; have h3 := hSw.2.2; clear hSw; go_simp⟩) (hSM _ (by repeat (first | with_reducible exact New.refl _ | with_reducible assumption | with_reducible refine New.dr ?_ | with_reducible refine New.al ?_ _) : New wm _)) ?_
          try simp only [Act.put, List.setIfInBounds_toArray, List.set_cons_zero, List.set_cons_succ]
          refine wpAnyT_take (i := 4) (oi := ⟨_, _, _, _, _, _⟩) (v := .pointer (some ⟨gW, oW + j, none⟩)) rfl (by kernel_rfl) (by kernel_rfl) (by kernel_rfl) (by kernel_rfl) (fun _ _ _ h => h) (Or.inl ⟨by rfl, fun w hSw => by have h1 := hSw.1; have h2 := hSw.2.1; have h3 := hSw.2.2; clear hSw; go_simp⟩) (hSM _ (by repeat (first | with_reducible exact New.refl _ | with_reducible assumption | with_reducible refine New.dr ?_ | with_reducible refine New.al ?_ _) : New wm _)) ?_
          try simp only [Act.put, List.setIfInBounds_toArray, List.set_cons_zero, List.set_cons_succ]
          refine wpAnyT_take (i := 5) (oi := ⟨_, _, _, _, _, _⟩) (v := .int .i64 x) rfl (by kernel_rfl) (by kernel_rfl) (by kernel_rfl) (by kernel_rfl) (fun _ _ _ h => h) (Or.inl ⟨by rfl, fun w hSw => by have h1 := hSw.1; have h2 := hSw.2.1; have h3 := hSw.2.2; clear hSw; go_simp⟩) (hSM _ (by repeat (first | with_reducible exact New.refl _ | with_reducible assumption | with_reducible refine New.dr ?_ | with_reducible refine New.al ?_ _) : New wm _)) ?_
          try simp only [Act.put, List.setIfInBounds_toArray, List.set_cons_zero, List.set_cons_succ]
          refine wpAnyT_take (i := 6) (oi := ⟨_, _, _, _, _, _⟩) (v := .agg (u8s s).toArray) rfl (by kernel_rfl) (by kernel_rfl) (by kernel_rfl) (by kernel_rfl) (fun _ _ _ h => h) (yieldsIf_load_mid (by rfl) _ _ rfl _ _ rfl _ _ (fun w hSw => hSw.1) hu rfl hi) (hSM _ (by repeat (first | with_reducible exact New.refl _ | with_reducible assumption | with_reducible refine New.dr ?_ | with_reducible refine New.al ?_ _) : New wm _)) ?_
          try simp only [Act.put, List.setIfInBounds_toArray, List.set_cons_zero, List.set_cons_succ]
          refine wpAnyT_take (i := 7) (oi := ⟨_, _, _, _, _, _⟩) (v := .agg (putA x s)) rfl (by kernel_rfl) (by kernel_rfl) (by kernel_rfl) (by kernel_rfl) (fun _ _ _ h => h) (Or.inl ⟨by rfl, fun w hSw => by have h1 := hSw.1; have h2 := hSw.2.1; have h3 := hSw.2.2; clear hSw; go_simp⟩) (hSM _ (by repeat (first | with_reducible exact New.refl _ | with_reducible assumption | with_reducible refine New.dr ?_ | with_reducible refine New.al ?_ _) : New wm _)) ?_
          try simp only [Act.put, List.setIfInBounds_toArray, List.set_cons_zero, List.set_cons_succ]
          refine wpAnyT_ready (rs := [8]) (by kernel_rfl) (by simp) (AllT.cons (i := 8) (o := ⟨_, _, _, _, _, _⟩) rfl (fun K hK => ?_) AllT.nil)
          go_simp
          try simp only [Act.put, List.setIfInBounds_toArray, List.set_cons_zero, List.set_cons_succ]
          refine hK.out _ _ (fun _ => hSM _ (by repeat (first | with_reducible exact New.refl _ | with_reducible assumption | with_reducible refine New.dr ?_ | with_reducible refine New.al ?_ _) : New wm _)) ?_
          refine wpAnyT_ready (rs := [9]) (by kernel_rfl) (by simp) (AllT.cons (i := 9) (o := ⟨_, _, _, _, _, _⟩) rfl (fun K hK => ?_) AllT.nil)
          refine step_app elP _ (by rfl) (.tmp 46) (.tmp 53) (by rfl) w3.heap.size (.slice A' (cutR r keep j).length c') (cutR r keep j).length (flatP (cutR r keep j)) (by rfl) (New.own (by repeat (first | with_reducible exact New.refl _ | with_reducible assumption | with_reducible refine New.dr ?_ | with_reducible refine New.al ?_ _) : New wm _) HOM.out) (some ⟨_, 0, none⟩) 1 1 (putA x s).toList (by rfl) (Rd.ofBlk (p := fun _ => True) (t := 92) (cs := putA x s) (by repeat (first | with_reducible exact Blk.new' _ _ _ (by first | rfl | (simp; done)) | with_reducible refine Blk.drew ?_ | with_reducible refine Blk.alloc ?_ _ | with_reducible refine Blk.fr ?_ hF1 (by simp [Value.ownBlock]) | with_reducible refine New.blk hNX ?_)) 65 1 (by rw [z5]) trivial) (by intro u hu; exact PU.one ⟨x, s⟩ u (by simpa [putA] using hu)) (by unfold maxLen; omega) (by omega) (Nat.le_trans HN3M.out (by repeat (first | with_reducible exact New.refl _ | with_reducible assumption | with_reducible refine New.dr ?_ | with_reducible refine New.al ?_ _) : New wm _).size) ?_
          intro A4 c4 wN hON hFN hAN
          have hBN : Blk wN gX 32 #[.int .i64 r.size, .slice A' (cutR r keep j).length c', .slice none 0 0, .int .i64 (-1), .bool false] := (New.blk (by repeat (first | with_reducible exact New.refl _ | with_reducible assumption | with_reducible refine New.dr ?_ | with_reducible refine New.al ?_ _) : New wm _) HBM.out).fr hFN (fun e => own_ne HOM.out HBM.out (by decide) e)
          have n1 := hBN.cell 1
          have n1f := hBN.frozen 1
          have hSE : wN.rangeAt gS 0 (u8s s) ∧ wN.cell? ⟨gX, 1, none⟩ = some (.slice A' (cutR r keep j).length c') ∧ wN.cell? ⟨gW, oW + j, none⟩ = some (.int .i64 x) := ⟨((New.blk (by repeat (first | with_reducible exact New.refl _ | with_reducible assumption | with_reducible refine New.dr ?_ | with_reducible refine New.al ?_ _) : New wm _) HSM.out).fr hFN (fun e => own_ne HOM.out HSM.out (by decide) e)).range, n1, hFN.cell_some ((by repeat (first | with_reducible exact New.refl _ | with_reducible assumption | with_reducible refine New.dr ?_ | with_reducible refine New.al ?_ _) : New wm _).cell_ HCM.out) (fun e => HWN.out e)⟩
          try simp only [Act.put, List.setIfInBounds_toArray, List.set_cons_zero, List.set_cons_succ]
          refine hK.out _ _ (fun _ => hSE) ?_
          refine wpAnyT_take (i := 10) (oi := ⟨_, _, _, _, _, _⟩) (v := .pointer (some ⟨gX, 1, none⟩)) rfl (by kernel_rfl) (by kernel_rfl) (by kernel_rfl) (by kernel_rfl) (fun _ _ _ h => h) (Or.inl ⟨by rfl, fun w hSw => by have h1 := hSw.1; have h2 := hSw.2.1; have h3 := hSw.2.2; clear hSw; go_simp⟩) (hSE) ?_
          try simp only [Act.put, List.setIfInBounds_toArray, List.set_cons_zero, List.set_cons_succ]
          refine wpAnyT_ready (rs := [11]) (by kernel_rfl) (by simp) (AllT.cons (i := 11) (o := ⟨_, _, _, _, _, _⟩) rfl (fun K hK => ?_) AllT.nil)
          go_simp
          try simp only [Act.put, List.setIfInBounds_toArray, List.set_cons_zero, List.set_cons_succ]
          refine hK.out _ _ (fun h => absurd rfl h) ?_
          refine wpAnyT_done (by kernel_rfl) ?_ _
          have hNN : Fr (fun k => (Value.slice A' (cutR r keep j).length c').ownBlock = some k) wm wN := ((by repeat (first | with_reducible exact New.refl _ | with_reducible assumption | with_reducible refine New.dr ?_ | with_reducible refine New.al ?_ _) : New wm _).toFr _).trans hFN
          have hBZ := hBN.set 1 (.slice A4 ((cutR r keep j).length + 1) c4)
          have hFZ : Fr (fun k => k = gX) wN (wN.setCell ⟨gX, 1, none⟩ (.slice A4 ((cutR r keep j).length + 1) c4)) := (Fr.refl (fun k => k = gX) wN).setCell (p := ⟨gX, 1, none⟩) (fun _ => rfl) _
          have hOZ := own_fr hON hFZ (fun k hk e => by subst e; exact own_ne hON hBN (by decide) hk)
          have hNZ : New w3 (wN.setCell ⟨gX, 1, none⟩ (.slice A4 ((cutR r keep j).length + 1) c4)) := (HNM.out.fr hNN (fun k hk => (own_lt HOM.out k hk).1)).fr hFZ (fun k hk => by have := HGX.out; omega)
          have hWZ : RdT 3 (wN.setCell ⟨gX, 1, none⟩ (.slice A4 ((cutR r keep j).length + 1) c4)) 1 (some ⟨gW, oW, none⟩) m (i64s (waits r.fresh)) := (HWS.out.fr hNN (fun k hk => IsT.not_own HOM.out (by decide) hk)).fr hFZ (fun k hk => by subst hk; exact IsT.not_blk hBN (by decide))
          have hC := HC.out
          clear n1 n1f hSE hSM z1 z2 z3 z4 z5 z6 zl hu hi
          have HZ : Hid (CutI w3 r.size gX (cutR r keep (j + 1)) (wN.setCell ⟨gX, 1, none⟩ (.slice A4 ((cutR r keep j).length + 1) c4))) := Lib.hid (by
            rw [hC]
            refine ⟨A4, c4, ?_, ?_, hNZ, HGX.out⟩
            · rw [List.length_append]; exact hBZ
            · rw [List.length_append, flatP_app, flatP_one]; simpa [putA] using hOZ)
          have HWZ := Lib.hid hWZ
          clear hC hBZ hFZ hOZ hNZ hWZ hNN hBN hON hFN hAN
          go_wp2_with fail
          go_roundw
          case rel => exact ⟨j + 1, by omega, by go_num, HZ, HWZ⟩
          case measure => simp [intOf]; omega
    · as_aux_lemma =>
      have hfin : cutR r keep j = cutR r keep (waits r.fresh).length := by
        have := HM.out
        have := HKL.out
        by_cases hjm : j < m
        · have h2 : keep.length ≤ j := by omega
          rw [← cutR_stop h2 ((waits r.fresh).length - j)]
          congr 1
          omega
        · have : j = m := by omega
          rw [this, HM.out]
      have HFIN := Lib.hid hfin
      have hRB : Blk wr (G + 1) 32 #[.int .i64 0, .slice none 0 0, .slice none 0 0, .int .i64 0, .bool false] := New.blk hNI HR3.out
      have HRB := Lib.hid hRB
      have HBI := Lib.hid hBI
      have HOI := Lib.hid hOI
      have HNI := Lib.hid hNI
      have hcl := cutR_len r keep j
      have hex : ¬ j < m ∨ (j < m ∧ ¬ j < n) := by omega
      clear hRB hBI hOI hNI hfin hgo
      have hlt3 := HR3.out.lt
      have hgx := HGX.out
      rcases hex with hjm | ⟨hjm, hjn⟩
      all_goals
        go_wp2_with (first
          | ((with_reducible refine atOp ⟨some 56, .load _ _, _, _, _, _⟩ ?_); refine wpList_load_any rfl _ rfl Tryd.underlying32 rfl rfl rfl HBI.out ?_)
          | ((with_reducible refine atOp ⟨none, .store 32 (.tmp 4) _, _, _, _, _⟩ ?_); refine wpList_store_any rfl (.tmp 4) (.tmp 56) rfl rfl rfl rfl HRB.out rfl (rf_one _ _ _ _ _ _ _ _ _) ?_; intro w8 hb8 hf8; have HB8 := Lib.hid hb8; have HF8 := Lib.hid hf8; clear hb8 hf8))
        refine bodyPost_ret (results_row1 rfl _ _ (G + 1) _ _ rfl HB8.out Tryd.underlying32 rfl rfl) rfl ?_
        have h6 : RdT 92 wr 65 A' (cutR r keep j).length (flatP (cutR r keep j)) := RdT.own HOI.out rfl
        have h8 := h6.fr HF8.out (fun k hk => by subst hk; exact IsT.not_blk HRB.out (by decide))
        have hN8 : New w w8 := (HN3.out.tr HNI.out).fr HF8.out (fun k hk => by have := HGW.out; omega)
        have he : RfV (r.cut keep) A' c' none 0 = #[.int .i64 r.size, .slice A' (cutR r keep j).length c', .slice none 0 0, .int .i64 (-1), .bool false] := by
          unfold RfV RP.cut
          rw [← HFIN.out]
          rfl
        refine ⟨⟨A', c', none, 0, by rw [he], ⟨?_, RdT.nil, H.out.ok.cut keep⟩⟩, hN8⟩
        have : (r.cut keep).sure = cutR r keep j := HFIN.out.symm
        rw [this]
        exact h8
end Go.Proofs.YteeclfejgpgooaaDoor
/- The reference's next record. Its tables are as they were laid. No condition else. -/
namespace Go.Proofs.YteeclfejgpgooaaDoor
set_option linter.unusedVariables false
set_option linter.unusedSimpArgs false
set_option linter.constructorNameAsVariable false
open Go.RowKit Go.Sort

def RNextSays (r : Option (List Int)) (w : World) (e : Ending) (w' : World) : Prop :=
  match r with
  | none => e = .returned (.slice none 0 0) ∧ New w w'
  | some b => ∃ g o c, e = .returned (.slice (some ⟨g, o, none⟩) b.length c) ∧ b.length ≤ c ∧ c ≤ maxLen ∧ Byt b ∧ Rd (RB w.heap.size w') w' 1 (some ⟨g, o, none⟩) b.length (u8s b) ∧ New w w'
theorem blk_rd {w : World} {g T o n : Nat} {s : List Int} (hb : Blk w g T (secA s)) (h : o + n ≤ s.length) : Rd (fun _ => True) w 1 (some ⟨g, o, none⟩) n (u8s ((s.drop o).take n)) :=
  ⟨by rw [u8s_len, List.length_take, List.length_drop]; omega, fun _ => ⟨_, rfl, trivial, hb.lt, fun j u hu => by
    have hj := (List.getElem?_eq_some_iff.1 hu).1
    rw [u8s_len, List.length_take, List.length_drop] at hj
    have e : (⟨g, o, none⟩ : Addr).add j = ⟨g, o + j, none⟩ := by
      unfold Addr.add
      by_cases hj0 : j = 0 <;> simp [hj0]
    rw [e, hb.cell]
    unfold secA
    rw [List.getElem?_toArray, ← hu]
    unfold u8s
    rw [List.getElem?_map, List.getElem?_map, List.getElem?_take_of_lt (by omega), List.getElem?_drop]⟩⟩
theorem take_succ_at (s : List Int) {j : Nat} (h : j < s.length) : s.take (j + 1) = s.take j ++ [at_ s j] := by
  unfold at_
  rw [List.take_succ_eq_append_getElem h, List.getD_eq_getElem?_getD, List.getElem?_eq_getElem h]
  rfl
theorem secF_get (l : LG) (b : List Int) {i j : Nat} (hj : j < 64) : ∀ {k : Nat}, i < k → (secF l b k)[i * 64 + j]? = some (.int .u8 (at_ (l.sec b i) j))
  | 0, h => absurd h (by omega)
  | k + 1, h => by
    have hl : ∀ k, (secF l b k).length = k * 64 := fun k => by
      induction k with
      | zero => rfl
      | succ k ih => rw [secF_succ, List.length_append, ih, u8s_len, LG.sec, pad64_len (l.raw_len b k)]; omega
    rw [secF_succ]
    by_cases hk : i = k
    · subst hk
      rw [List.getElem?_append_right (by rw [hl]; omega), hl]
      have e : i * 64 + j - i * 64 = j := by omega
      have h64 : (l.sec b i).length = 64 := by rw [LG.sec, pad64_len (l.raw_len b i)]
      rw [e]
      unfold u8s at_
      rw [List.getElem?_map, List.getElem?_eq_getElem (by omega), List.getD_eq_getElem?_getD, List.getElem?_eq_getElem (by omega)]
      rfl
    · rw [List.getElem?_append_left (by rw [hl]; omega)]
      exact secF_get l b hj (by omega)
/-- A round over the sectors that are read. -/
structure RfI (w wr : World) (p : DP) (l : LG) (k : Nat) (v : Value) : Prop where
  new : New w wr
  own : wr.ownsRow w.heap.size 5 1 v (55 * k) (u8s (frameL p l k))
set_option maxHeartbeats 3000000 in
set_option maxRecDepth 100000 in
theorem rnext_any {w : World} {p : DP} {l : LG} (r : RP) (A1 : Option Addr) (c1 : Nat) (A2 : Option Addr) (c2 : Nat) (A : Option Addr) (c : Nat) (hr : RfIn w r A1 A2) (hM : Mt p r) (hp : p.Ok) (hn : r.tot ≤ 1000000) (hI : RlIn w l A) (hl : l.Ok p.size) (hL : RShaIn 1 0 w) :
    Calls Tryd.prog 42 #[.agg (RfV r A1 c1 A2 c2), .agg (rlV l A c)] w (RNextSays (nextL p l) w) := by
  have hsz := hp.s2
  have hfit := hl.fit
  have hused := hl.used
  have HOK := Lib.hid hp
  have HL := Lib.hid hL
  have HI := Lib.hid hI
  have HSO : Hid (∀ i, SecOk (sct p l i)) := Lib.hid fun i => sct_ok hp l i
  obtain ⟨XR, hXR⟩ : ∃ XR, XR = RfV r A1 c1 A2 c2 := ⟨_, rfl⟩
  obtain ⟨XL, hXL⟩ : ∃ XL, XL = rlV l A c := ⟨_, rfl⟩
  have HRD : Hid (∀ i (a : Int), a = ((l.first + l.used + i : Nat) : Int) → l.used + i < l.size → ∀ W, New w W → Calls Tryd.prog 20 #[.agg XR, .int .i64 a] W fun e w' => e = .returned (.tuple #[.agg (secA (sct p l i)), .int .i64 0]) ∧ New W w') := Lib.hid fun i a ha hi W hN => by
    subst ha
    have hwi : p.within ((l.first + l.used + i : Nat) : Int) = true := by unfold DP.within; exact decide_eq_true (by omega)
    have h := rread_any r A1 c1 A2 c2 ((l.first + l.used + i : Nat) : Int) W (hr.new hN) hn (WalkArith.wf_i64 (by omega)) (by rw [hM.size]; omega)
    rw [hM.rget, hM.rcode, DP.rcode, hwi, if_pos rfl] at h
    rw [hXR]
    exact h
  have HFRM : Hid (∀ (B : Option Addr) (n d : Nat) (b : List Int) W, New w W → Rd (fun _ => True) W 1 B n (u8s b) → Byt b → n ≤ 70000 → ∀ K, K = (n + 74) / 55 → Calls Tryd.prog 53 #[.agg XL, .slice B n d] W fun e w' => (∃ C cc, e = .returned (.slice C K cc) ∧ w'.ownsRow W.heap.size 35 64 (.slice C K cc) K (secF l b K)) ∧ New W w') := Lib.hid fun B n d b W hN hR hb h7 K hK => by
    rw [hXL]
    exact rframe_any l A c B n d b (hL.new hN) (hI.new hN) hR hb h7 K hK
  obtain ⟨us, hus⟩ : ∃ us, us = l.used := ⟨_, rfl⟩
  obtain ⟨fs, hfs⟩ : ∃ fs, fs = l.first := ⟨_, rfl⟩
  obtain ⟨sz, hsz2⟩ : ∃ sz, sz = l.size := ⟨_, rfl⟩
  have HEQ : Hid (us = l.used ∧ fs = l.first ∧ sz = l.size) := Lib.hid ⟨hus, hfs, hsz2⟩
  have HXL : Hid (XL[0]? = some (.int .i64 fs) ∧ XL[1]? = some (.int .i64 sz) ∧ XL[2]? = some (.int .i64 us) ∧ XL.size = 6) := Lib.hid (by rw [hXL, hus, hfs, hsz2]; exact ⟨rfl, rfl, rfl, rfl⟩)
  have HXR : Hid (XR.size = 5) := Lib.hid (by rw [hXR]; rfl)
  obtain ⟨NX, hNX⟩ : ∃ NX, NX = nextL p l := ⟨_, rfl⟩
  rw [← hXR, ← hXL, ← hNX]
  have HNX := Lib.hid hNX
  have hu1 : us ≤ sz := by omega
  have hs1 : fs + sz ≤ 16384 := by omega
  clear hr hM hp hn hI hl hL hXR hXL hNX hus hfs hsz2 hsz hfit hused
  go_enter Tryd.func42, Tryd.ntmps42
  go_upto_region 1 with fail
  obtain ⟨w0, hw0⟩ : ∃ w0 : World, w0 = (w.alloc (.cells XR 32)).alloc (.cells XL 45) := ⟨_, rfl⟩
  obtain ⟨b2, hb2⟩ : ∃ b2, b2 = w.heap.size := ⟨_, rfl⟩
  obtain ⟨b3, hb3⟩ : ∃ b3, b3 = w.heap.size + 1 := ⟨_, rfl⟩
  have HN0 : Hid (New w w0) := Lib.hid (by rw [hw0]; exact New.al (New.al (New.refl _) _) _)
  have HB2 : Hid (Blk w0 b2 32 XR) := Lib.hid (by rw [hw0, hb2]; exact (Blk.new _ _ _).alloc _)
  have HB3 : Hid (Blk w0 b3 45 XL) := Lib.hid (by rw [hw0, hb3]; exact Blk.new' _ _ _ (by simp))
  rw [← hw0, ← hb3, ← hb2]
  clear hw0 hb2 hb3
  have HC : Hid (∀ W, New w0 W → W.cell? ⟨b3, 0, none⟩ = some (.int .i64 fs) ∧ W.cell? ⟨b3, 1, none⟩ = some (.int .i64 sz) ∧ W.cell? ⟨b3, 2, none⟩ = some (.int .i64 us)) := Lib.hid fun W hN => by
    have h := hN.blk HB3.out
    exact ⟨by rw [h.cell, HXL.out.1], by rw [h.cell, HXL.out.2.1], by rw [h.cell, HXL.out.2.2.1]⟩
  obtain ⟨c30, c31, c32⟩ := HC.out w0 (New.refl _)
  by_cases h0 : us < sz
  rotate_left
  · have HN : Hid (NX = none) := Lib.hid (by rw [HNX.out]; exact nextL_none (fun hx => by have := hx.room; have := HEQ.out; omega))
    go_wp2_with fail
    go_ret
    rw [HN.out]
    exact ⟨rfl, HN0.out⟩
  obtain ⟨fu, hfu⟩ : ∃ fu, fu = fs + us := ⟨_, rfl⟩
  have e1 : (fs : Int) + (us : Int) = (fu : Int) := by omega
  have e2 : IntKind.i64.wrap (fu : Int) = (fu : Int) := IntWalk.i64_in _ (by omega)
  have HFU : Hid (fu = l.first + l.used) := Lib.hid (by have := HEQ.out; omega)
  have hfu1 : fu ≤ 16384 := by omega
  clear hfu
  have HSZ : Hid (∀ i, (secA (sct p l i)).size = 64) := Lib.hid fun i => by rw [secA_size, (HSO.out i).1]
  go_upto_region 4 with (first
    | ((with_reducible refine atOp ⟨some 26, .load _ _, _, _, _, _⟩ ?_); refine wpList_load_any rfl _ rfl Tryd.underlying32 rfl (by rw [HXR.out]; rfl) rfl HB2.out ?_)
    | (go_at_call 20; refine (HRD.out 0 (fu : Int) (by rw [Nat.add_zero, ← HFU.out]) (by have := HEQ.out; omega) w0 HN0.out).mono ?_; rintro e w1 ⟨rfl, hN1⟩; have HN1 := Lib.hid hN1; clear hN1)
    | ((with_reducible refine atOp ⟨some 5, .alloc _, _, _, _, _⟩ ?_); refine wpList_newvar (s := sct p l 0) rfl rfl rfl _ _ rfl secInfo rfl rfl rfl (HSO.out 0).1 ?_))
  obtain ⟨w2, hw2⟩ : ∃ w2 : World, w2 = w1.alloc (.cells (secA (sct p l 0)) 35) := ⟨_, rfl⟩
  obtain ⟨b5, hb5⟩ : ∃ b5, b5 = w1.heap.size := ⟨_, rfl⟩
  have HB5 : Hid (Blk w2 b5 35 (secA (sct p l 0))) := Lib.hid (by rw [hw2, hb5]; exact Blk.new _ _ _)
  have HN2 : Hid (New w0 w2) := Lib.hid (by rw [hw2]; exact New.al HN1.out _)
  rw [← hw2, ← hb5]
  clear hw2 hb5 c30 c31 c32
  obtain ⟨mn, hmn⟩ : ∃ mn, mn = l.many p := ⟨_, rfl⟩
  have HMN := Lib.hid hmn
  obtain ⟨N, hN⟩ : ∃ N, N = secN mn := ⟨_, rfl⟩
  have HNN := Lib.hid hN
  have hNle : N ≤ 1193 := by rw [hN]; exact secN_le mn
  have hmnb : mn < 4294967296 := by
    have h55 := (HSO.out 0).1
    have := valL_lt (xs := ((sct p l 0).drop 9).take 4) (fun x hx => (HSO.out 0).2 x (List.mem_of_mem_drop (List.mem_of_mem_take hx)))
    rw [List.length_take, List.length_drop, h55] at this
    rw [hmn]
    exact this
  have HVAL : Hid (valL (((sct p l 0).drop 9).take 4) = mn) := Lib.hid (by rw [hmn]; rfl)
  have em : IntKind.i64.wrap (mn : Int) = (mn : Int) := IntWalk.i64_in _ (by omega)
  have hmn' : (mn : Int) < 4294967296 := by omega
  clear hmn hN hmnb
  go_wp2_with fail
  refine (value_any (some ⟨b5, 9, none⟩) 4 55 (((sct p l 0).drop 9).take 4) w2 (blk_rd HB5.out (by rw [(HSO.out 0).1]; decide)) (fun x hx => (HSO.out 0).2 x (List.mem_of_mem_drop (List.mem_of_mem_take hx))) (by omega)).mono ?_
  rintro e w' ⟨rfl, rfl⟩
  rw [HVAL.out]
  go_wp2_with fail
  refine (rsectors_any (mn : Int) w2).mono ?_
  rintro e w' ⟨rfl, rfl⟩
  rw [secs_N, ← HNN.out]
  clear em hmn'
  obtain ⟨c30, c31, c32⟩ := HC.out w2 HN2.out
  by_cases hN0 : N = 0
  · have HN : Hid (NX = none) := Lib.hid (by rw [HNX.out]; exact nextL_none (fun hx => hx.pos (by rw [← HMN.out, ← HNN.out, hN0])))
    subst hN0
    go_wp2_with fail
    go_ret
    rw [HN.out]
    exact ⟨rfl, HN0.out.tr HN2.out⟩
  have hN0' : ((N : Int) == 0) = false := by simp; omega
  by_cases hfit : us + N ≤ sz
  rotate_left
  · have HN : Hid (NX = none) := Lib.hid (by rw [HNX.out]; exact nextL_none (fun hx => hfit (by have := hx.fit; rw [← HMN.out, ← HNN.out] at this; have := HEQ.out; omega)))
    have g1 : (sz : Int) < (us : Int) + (N : Int) := by omega
    clear hN0
    go_wp2_with fail
    go_ret
    rw [HN.out]
    exact ⟨rfl, HN0.out.tr HN2.out⟩
  have g1 : ¬ (sz : Int) < (us : Int) + (N : Int) := by omega
  have HN0z := Lib.hid hN0
  clear hN0
  have HF0 : Hid (RfI w0 w2 p l 0 (.slice none 0 0)) := Lib.hid ⟨HN2.out, World.ownsRow_nil _ _ _ _⟩
  go_wp2_with fail
  go_loopw [9, 10] (fun f i wr => ∃ (k m : Nat) (A : Option Addr) (d : Nat), k ≤ N ∧ Hid (m = 55 * k) ∧ m ≤ 66000 ∧ i = .int .i64 k ∧ f = .slice A m d ∧ Hid (RfI w0 wr p l k (.slice A m d))) (fun _ i _ => N - (intOf i).toNat)
  case atStart => exact ⟨0, 0, none, 0, Nat.zero_le _, Lib.hid rfl, by omega, rfl, rfl, HF0⟩
  case round =>
    clear HF0 c30 c31 c32
    obtain ⟨k, m, A3, d, hk, HM, hm, rfl, rfl, HF⟩ := hrel
    obtain ⟨c30, c31, c32⟩ := HC.out wr HF.out.new
    have HB2r : Hid (Blk wr b2 32 XR) := Lib.hid (HF.out.new.blk HB2.out)
    by_cases hlt : k < N
    · obtain ⟨a, ha⟩ : ∃ a, a = fu + k := ⟨_, rfl⟩
      have f1 : (fu : Int) + (k : Int) = (a : Int) := by omega
      have f2 : IntKind.i64.wrap (a : Int) = (a : Int) := IntWalk.i64_in _ (by omega)
      have HA : Hid (a = l.first + l.used + k) := Lib.hid (by have := HFU.out; omega)
      have hklt : (k : Int) < (N : Int) := by omega
      have hk0 : (0 : Int) ≤ (k : Int) := by omega
      have H55 : Hid (((sct p l k).drop 9).length = 55) := Lib.hid (by rw [List.length_drop, (HSO.out k).1])
      clear ha
      go_upto_region 13 with (first
        | ((with_reducible refine atOp ⟨some 57, .load _ _, _, _, _, _⟩ ?_); refine wpList_load_any rfl _ rfl Tryd.underlying32 rfl (by rw [HXR.out]; rfl) rfl HB2r.out ?_)
        | (go_at_call 20; refine (HRD.out k (a : Int) (by rw [← HA.out]) (by have := HEQ.out; omega) wr (HN0.out.tr HF.out.new)).mono ?_; rintro e w1 ⟨rfl, hN1⟩; have HN1 := Lib.hid hN1; clear hN1)
        | ((with_reducible refine atOp ⟨some 11, .alloc _, _, _, _, _⟩ ?_); refine wpList_newvar (s := sct p l k) rfl rfl rfl _ _ rfl secInfo rfl rfl rfl (HSO.out k).1 ?_))
      obtain ⟨w4, hw4⟩ : ∃ w4 : World, w4 = w1.alloc (.cells (secA (sct p l k)) 35) := ⟨_, rfl⟩
      obtain ⟨b11, hb11⟩ : ∃ b11, b11 = w1.heap.size := ⟨_, rfl⟩
      have HB11 : Hid (Blk w4 b11 35 (secA (sct p l k))) := Lib.hid (by rw [hw4, hb11]; exact Blk.new _ _ _)
      have HN4 : Hid (New wr w4) := Lib.hid (by rw [hw4]; exact New.al HN1.out _)
      rw [← hw4, ← hb11]
      clear hw4 hb11
      have HFO : Hid (w4.ownsRow w0.heap.size 5 1 (.slice A3 m d) m (u8s (frameL p l k))) := Lib.hid (by have := HN4.out.own HF.out.own; rwa [← HM.out] at this)
      have HRD9 : Hid (Rd (fun _ => True) w4 1 (some ⟨b11, 9, none⟩) 55 (u8s ((sct p l k).drop 9))) := Lib.hid (by
        have h := blk_rd (o := 9) (n := 55) HB11.out (by rw [(HSO.out k).1]; decide)
        rwa [List.take_of_length_le (by rw [H55.out]; exact Nat.le_refl _)] at h)
      go_wp2_with ((with_reducible refine atOp ⟨some 70, _, _, _, _, _⟩ ?_); refine wpList_app elB _ rfl (.tmp 68) (.tmp 69) rfl w0.heap.size (.slice A3 m d) m _ rfl HFO.out (some ⟨b11, 9, none⟩) 55 55 (u8s ((sct p l k).drop 9)) rfl HRD9.out (u8s_one _) (by unfold maxLen; omega) (by omega) (HF.out.new.tr HN4.out).size ?_; intro A6 c6 w6 hO6 hF6 hA6; have HF6 := Lib.hid hF6; have HO6 := Lib.hid hO6; clear hO6 hF6 hA6)
      have HM2 : Hid (m + 55 = 55 * (k + 1)) := Lib.hid (by have := HM.out; omega)
      have HR2 : Hid (RfI w0 w6 p l (k + 1) (.slice A6 (m + 55) c6)) := Lib.hid ⟨(HF.out.new.tr HN4.out).fr HF6.out (fun k hk => (own_lt HFO.out k hk).1), by
        rw [← HM2.out, frameL_succ]
        have := HO6.out
        unfold u8s at this ⊢
        rw [List.map_append]
        exact this⟩
      go_roundw
      case rel => exact ⟨k + 1, m + 55, A6, c6, by omega, HM2, by have := HM2.out; omega, by go_num, rfl, HR2⟩
      case measure => simp [intOf]; omega
    · have hkN : k = N := by omega
      have hkn : ¬ (k : Int) < (N : Int) := by omega
      rw [hkN] at HF HM
      clear hkN hk hlt
      have hpos := secN_pos (n := mn) (by rw [← HNN.out]; exact HN0z.out)
      have hfit20 : 20 + mn ≤ m := by have := HM.out; have := HNN.out; omega
      have hmn1 : 1 ≤ mn := hpos.1
      have hmn2 : mn ≤ 65536 := hpos.2.1
      obtain ⟨g, d', hv, hmd, hdm⟩ := own_form HF.out.own (by have := HM.out; omega)
      injection hv with hv1 hv2 hv3
      subst hv1 hv3
      have hmd : m ≤ d := by have := HM.out; omega
      obtain ⟨m20, hm20⟩ : ∃ m20, m20 = 20 + mn := ⟨_, rfl⟩
      have f1 : (20 : Int) + (mn : Int) = (m20 : Int) := by omega
      have f2 : IntKind.i64.wrap (m20 : Int) = (m20 : Int) := IntWalk.i64_in _ (by omega)
      have f3 : m20 - 20 = mn := by omega
      have f4 : ¬ d = 20 := by omega
      have f5 : m20 ≤ d := by omega
      have f6 : 20 ≤ m20 := by omega
      have f7 : (m20 : Int) ≤ (d : Int) := by omega
      have f8 : (20 : Int) ≤ (m20 : Int) := by omega
      obtain ⟨bd, hbd⟩ : ∃ bd, bd = l.body p := ⟨_, rfl⟩
      have HBD : Hid (bd = ((frameL p l N).drop 20).take mn) := Lib.hid (by rw [hbd, LG.body, ← HMN.out, ← HNN.out])
      have HBL : Hid (bd.length = mn) := Lib.hid (by rw [hbd, LG.body_len HOK.out (by rw [← HMN.out, ← HNN.out]; exact HN0z.out), HMN.out])
      have HBB : Hid (Byt bd) := Lib.hid (by rw [hbd]; exact LG.body_byt HOK.out l)
      have HBE := Lib.hid hbd
      have HRB : Hid (Rd (RB w0.heap.size wr) wr 1 (some ⟨g, 20, none⟩) mn (u8s bd)) := Lib.hid (by
        have h := ((Rd.own HF.out.own (by rw [HM.out])).imp (q := RB w0.heap.size wr) (fun k hk => ⟨(own_lt HF.out.own k hk).1, own_isT' HF.out.own hk⟩)).drop (k := 20) (cap := d) (by rw [← HM.out]; omega) (by rw [← HM.out]; exact hmd)
        rw [if_neg f4] at h
        have h2 : Rd (RB w0.heap.size wr) wr 1 (some ⟨g, 20, none⟩) (55 * N - 20) (u8s ((frameL p l N).drop 20)) := by
          have e : u8s ((frameL p l N).drop 20) = (u8s (frameL p l N)).drop (20 * 1) := by unfold u8s; rw [List.map_drop]
          rw [e]
          exact h
        have h3 := h2.take (k := mn) (by rw [← HM.out]; omega)
        rw [← HBD.out] at h3
        exact h3)
      have HB3r : Hid (Blk wr b3 45 XL) := Lib.hid (HF.out.new.blk HB3.out)
      have HNK : Hid (N = (mn + 74) / 55) := Lib.hid (by have := HNN.out; omega)
      clear hbd hv2 hpos c30 c31 c32
      go_upto_region 15 with fail
      clear f1 f2 f3 f4 f5 f6 f7 f8
      go_wp2_with (first
        | ((with_reducible refine atOp ⟨some 75, .load _ _, _, _, _, _⟩ ?_); refine wpList_load_any rfl _ rfl Tryd.underlying45 rfl (by rw [HXL.out.2.2.2]; rfl) rfl HB3r.out ?_)
        | (go_at_call 53; refine (HFRM.out (some ⟨g, 20, none⟩) mn (d - 20) bd wr (HN0.out.tr HF.out.new) (HRB.out.imp (fun _ _ => trivial)) HBB.out (by omega) N HNK.out).mono ?_; rintro e w5 ⟨⟨C, cc, rfl, hO5⟩, hN5⟩; have HO5 := Lib.hid hO5; have HN5 := Lib.hid hN5; clear hO5 hN5))
      obtain ⟨gw, ccw, hvw, hNw, hcw⟩ := own_form HO5.out (by have := HN0z.out; omega)
      injection hvw with hw1 hw2 hw3
      subst hw1 hw3
      have HWC : Hid (∀ i j, i < N → j < 64 → w5.cell? ⟨gw, i * 64 + j, none⟩ = some (.int .u8 (at_ (l.sec bd i) j))) := Lib.hid fun i j hi hj => by
        obtain ⟨g', o', he, -, -, hc⟩ := (Rd.own HO5.out rfl).out (by omega) (by omega)
        injection he with he
        injection he with e1 e2
        subst e1 e2
        have := hc (i * 64 + j) _ (secF_get l bd hj hi)
        rwa [Nat.zero_add] at this
      have HRB5 : Hid (Rd (RB w0.heap.size w5) w5 1 (some ⟨g, 20, none⟩) mn (u8s bd)) := Lib.hid (HRB.out.frT (S := NoB) (HN5.out.toFr _) (fun _ x => x.elim))
      have HN05 : Hid (New w0 w5) := Lib.hid (HF.out.new.tr HN5.out)
      have HMT0 : Hid (∀ i, i < 0 → (sct p l i).take (endL mn N i) = (l.sec bd i).take (endL mn N i)) := Lib.hid fun i hi => absurd hi (by omega)
      have hNw2 : N ≤ cc := hNw
      clear hw2 HB3r HRB HF HM HO5 hkn
      have hNz0 : 1 ≤ N := by have := HN0z.out; omega
      have HNW0 : Hid (New w5 w5) := Lib.hid (New.refl _)
      go_wp2_with fail
      go_loopw [15] (fun i wr => ∃ (k : Nat), k ≤ N ∧ i = .int .i64 k ∧ Hid (New w5 wr) ∧ Hid (∀ i, i < k → (sct p l i).take (endL mn N i) = (l.sec bd i).take (endL mn N i))) (fun i _ => N - (intOf i).toNat)
      case atStart => exact ⟨0, Nat.zero_le _, rfl, HNW0, HMT0⟩
      case round =>
        clear HNW0 HMT0 HB2r
        obtain ⟨k, hk, rfl, HN, HMT⟩ := hrel
        obtain ⟨c30, c31, c32⟩ := HC.out wr (HN05.out.tr HN.out)
        have HB2r : Hid (Blk wr b2 32 XR) := Lib.hid ((HN05.out.tr HN.out).blk HB2.out)
        by_cases hlt : k < N
        · obtain ⟨a, ha⟩ : ∃ a, a = fu + k := ⟨_, rfl⟩
          have h1 : (fu : Int) + (k : Int) = (a : Int) := by omega
          have h2 : IntKind.i64.wrap (a : Int) = (a : Int) := IntWalk.i64_in _ (by omega)
          have HA : Hid (a = l.first + l.used + k) := Lib.hid (by have := HFU.out; omega)
          have hklt : (k : Int) < (N : Int) := by omega
          have hk0 : (0 : Int) ≤ (k : Int) := by omega
          obtain ⟨k1, hk1⟩ : ∃ k1, k1 = N - 1 := ⟨_, rfl⟩
          have h3 : (N : Int) - 1 = (k1 : Int) := by omega
          obtain ⟨en, hen⟩ : ∃ en, en = endL mn N k := ⟨_, rfl⟩
          have HEN := Lib.hid hen
          have hen64 : en ≤ 64 := by rw [hen]; exact endL_le _ _ _
          have HSX : Hid ((sct p l k).length = 64 ∧ (l.sec bd k).length = 64) := Lib.hid ⟨(HSO.out k).1, by rw [LG.sec, pad64_len (l.raw_len bd k)]⟩
          clear ha
          go_upto_region 20 with (first
            | ((with_reducible refine atOp ⟨some 84, .load _ _, _, _, _, _⟩ ?_); refine wpList_load_any rfl _ rfl Tryd.underlying32 rfl (by rw [HXR.out]; rfl) rfl HB2r.out ?_)
            | (go_at_call 20; refine (HRD.out k (a : Int) (by rw [← HA.out]) (by have := HEQ.out; omega) wr (HN0.out.tr (HN05.out.tr HN.out))).mono ?_; rintro e w1 ⟨rfl, hN1⟩; have HN1 := Lib.hid hN1; clear hN1)
            | ((with_reducible refine atOp ⟨some 16, .alloc _, _, _, _, _⟩ ?_); refine wpList_newvar (s := sct p l k) rfl rfl rfl _ _ rfl secInfo rfl rfl rfl (HSO.out k).1 ?_))
          obtain ⟨w7, hw7⟩ : ∃ w7 : World, w7 = w1.alloc (.cells (secA (sct p l k)) 35) := ⟨_, rfl⟩
          obtain ⟨b16, hb16⟩ : ∃ b16, b16 = w1.heap.size := ⟨_, rfl⟩
          have HB16 : Hid (Blk w7 b16 35 (secA (sct p l k))) := Lib.hid (by rw [hw7, hb16]; exact Blk.new _ _ _)
          have HN7 : Hid (New w5 w7) := Lib.hid (by rw [hw7]; exact New.al (HN.out.tr HN1.out) _)
          rw [← hw7, ← hb16]
          clear hw7 hb16
          have HCX : Hid (∀ j, j < 64 → ∀ N, (w7.drewN N).cell? ⟨b16, j, none⟩ = some (.int .u8 (at_ (sct p l k) j))) := Lib.hid fun j hj N => by
            rw [(HB16.out.drewN N).cell j, secA_get (by rw [HSX.out.1]; exact hj)]
          have HCW : Hid (∀ j, j < 64 → ∀ N, (w7.drewN N).cell? ⟨gw, k * 64 + j, none⟩ = some (.int .u8 (at_ (l.sec bd k) j))) := Lib.hid fun j hj N => (HN7.out.dn N).cell_ (HWC.out k j hlt hj)
          by_cases hlast : k + 1 = N
          · have hkk : ((k : Int) == (k1 : Int)) = true := by simp; omega
            obtain ⟨n20, hn20⟩ : ∃ n20, n20 = 20 + mn := ⟨_, rfl⟩
            have t1 : (20 : Int) + (mn : Int) = (n20 : Int) := by omega
            obtain ⟨n19, hn19⟩ : ∃ n19, n19 = mn + 19 := ⟨_, rfl⟩
            have t2 : (n20 : Int) - 1 = (n19 : Int) := by omega
            obtain ⟨rm, hrm⟩ : ∃ rm, rm = n19 % 55 := ⟨_, rfl⟩
            have t3 : (n19 : Int) % 55 = (rm : Int) := by omega
            obtain ⟨r9, hr9⟩ : ∃ r9, r9 = 9 + rm := ⟨_, rfl⟩
            have t4 : (9 : Int) + (rm : Int) = (r9 : Int) := by omega
            have t5 : (r9 : Int) + 1 = (en : Int) := by rw [hen, endL, if_pos hlast]; omega
            have t6 : (0 : Int) ≤ (n19 : Int) := by omega
            have t7 : (rm : Int) < 55 := by omega
            clear hn20 hn19 hrm hr9 hen hlast
            have HEQ0 : Hid ((sct p l k).take 0 = (l.sec bd k).take 0) := Lib.hid rfl
            have HD0 : Hid (∃ N, w7 = w7.drewN N) := Lib.hid ⟨0, rfl⟩
            go_wp2_with fail
            go_loopw [19] (fun j wr => ∃ (j0 : Nat), j0 ≤ en ∧ j = .int .i64 j0 ∧ Hid (∃ N, wr = w7.drewN N) ∧ Hid ((sct p l k).take j0 = (l.sec bd k).take j0)) (fun j _ => en - (intOf j).toNat)
            case atStart => exact ⟨0, Nat.zero_le _, rfl, HD0, HEQ0⟩
            case round =>
              clear HD0 HEQ0
              obtain ⟨j, hj, rfl, HD, HT⟩ := hrel
              by_cases hjl : j < en
              · have hj64 : j < 64 := by omega
                have hj64' : (j : Int) < 64 := by omega
                have hjl' : (j : Int) < (en : Int) := by omega
                have hj0 : (0 : Int) ≤ (j : Int) := by omega
                obtain ⟨x, hx⟩ : ∃ x, x = at_ (sct p l k) j := ⟨_, rfl⟩
                obtain ⟨y, hy⟩ : ∃ y, y = at_ (l.sec bd k) j := ⟨_, rfl⟩
                have cx : ∀ M, (wr.drewN M).cell? ⟨b16, j, none⟩ = some (.int .u8 x) := fun M => by
                  obtain ⟨N', hN'⟩ := HD.out
                  rw [hN', World.drewN_drewN, hx]
                  exact HCX.out j hj64 _
                have cy : ∀ M, (wr.drewN M).cell? ⟨gw, k * 64 + j, none⟩ = some (.int .u8 y) := fun M => by
                  obtain ⟨N', hN'⟩ := HD.out
                  rw [hN', World.drewN_drewN, hy]
                  exact HCW.out j hj64 _
                have HXY := Lib.hid (And.intro hx hy)
                clear hx hy
                by_cases hxy : x = y
                · have hne : (x != y) = false := by simp [hxy]
                  have HT2 : Hid ((sct p l k).take (j + 1) = (l.sec bd k).take (j + 1)) := Lib.hid (by
                    rw [take_succ_at _ (by rw [HSX.out.1]; exact hj64), take_succ_at _ (by rw [HSX.out.2]; exact hj64), HT.out, ← HXY.out.1, ← HXY.out.2, hxy])
                  clear hxy
                  go_wp2_with fail
                  go_quiet (fail)
                  go_wp2_with fail
                  go_roundw
                  case rel => exact ⟨j + 1, by omega, by go_num, Lib.hid (by obtain ⟨N', hN'⟩ := HD.out; exact ⟨_, by rw [hN', World.drewN_drewN]⟩), HT2⟩
                  case measure => simp [intOf]; omega
                · have hne : (x != y) = true := by simp [hxy]
                  have HNn : Hid (NX = none) := Lib.hid (by
                    rw [HNX.out]
                    refine nextL_none (fun hx => hxy ?_)
                    have h := match_of_next HOK.out HMN.out HNN.out hx k hlt
                    rw [← HEN.out, ← HBE.out] at h
                    have h2 : ((sct p l k).take en)[j]? = ((l.sec bd k).take en)[j]? := by rw [h]
                    rw [List.getElem?_take_of_lt hjl, List.getElem?_take_of_lt hjl] at h2
                    rw [HXY.out.1, HXY.out.2]
                    unfold at_
                    rw [List.getD_eq_getElem?_getD, List.getD_eq_getElem?_getD, h2])
                  clear hxy
                  go_wp2_with fail
                  go_quiet (fail)
                  go_wp2_with fail
                  go_ret
                  rw [HNn.out]
                  exact ⟨rfl, by obtain ⟨N', hN'⟩ := HD.out; rw [hN']; exact (((HN0.out.tr HN05.out).tr HN7.out).dn _).dn _⟩
              · have hje : j = en := by omega
                have hjn : ¬ (j : Int) < (en : Int) := by omega
                have HMT2 : Hid (∀ i, i < k + 1 → (sct p l i).take (endL mn N i) = (l.sec bd i).take (endL mn N i)) := Lib.hid fun i hi => by
                  by_cases h : i = k
                  · subst h
                    rw [← HEN.out, ← hje]
                    exact HT.out
                  · exact HMT.out i (by omega)
                have HNd : Hid (New w5 wr) := Lib.hid (by obtain ⟨N', hN'⟩ := HD.out; rw [hN']; exact HN7.out.dn _)
                clear hje hj hjl
                go_wp2_with fail
                go_roundw
                case rel => exact ⟨k + 1, by omega, by go_num, HNd, HMT2⟩
                case measure => simp [intOf]; omega
          · have hkk : ((k : Int) == (k1 : Int)) = false := by simp; omega
            have t5 : (64 : Int) = (en : Int) := by rw [hen, endL, if_neg hlast]; rfl
            clear hen hlast
            have HEQ0 : Hid ((sct p l k).take 0 = (l.sec bd k).take 0) := Lib.hid rfl
            have HD0 : Hid (∃ N, w7 = w7.drewN N) := Lib.hid ⟨0, rfl⟩
            go_wp2_with fail
            try rw [t5]
            go_loopw [19] (fun j wr => ∃ (j0 : Nat), j0 ≤ en ∧ j = .int .i64 j0 ∧ Hid (∃ N, wr = w7.drewN N) ∧ Hid ((sct p l k).take j0 = (l.sec bd k).take j0)) (fun j _ => en - (intOf j).toNat)
            case atStart => exact ⟨0, Nat.zero_le _, rfl, HD0, HEQ0⟩
            case round =>
              clear HD0 HEQ0
              obtain ⟨j, hj, rfl, HD, HT⟩ := hrel
              by_cases hjl : j < en
              · have hj64 : j < 64 := by omega
                have hj64' : (j : Int) < 64 := by omega
                have hjl' : (j : Int) < (en : Int) := by omega
                have hj0 : (0 : Int) ≤ (j : Int) := by omega
                obtain ⟨x, hx⟩ : ∃ x, x = at_ (sct p l k) j := ⟨_, rfl⟩
                obtain ⟨y, hy⟩ : ∃ y, y = at_ (l.sec bd k) j := ⟨_, rfl⟩
                have cx : ∀ M, (wr.drewN M).cell? ⟨b16, j, none⟩ = some (.int .u8 x) := fun M => by
                  obtain ⟨N', hN'⟩ := HD.out
                  rw [hN', World.drewN_drewN, hx]
                  exact HCX.out j hj64 _
                have cy : ∀ M, (wr.drewN M).cell? ⟨gw, k * 64 + j, none⟩ = some (.int .u8 y) := fun M => by
                  obtain ⟨N', hN'⟩ := HD.out
                  rw [hN', World.drewN_drewN, hy]
                  exact HCW.out j hj64 _
                have HXY := Lib.hid (And.intro hx hy)
                clear hx hy
                by_cases hxy : x = y
                · have hne : (x != y) = false := by simp [hxy]
                  have HT2 : Hid ((sct p l k).take (j + 1) = (l.sec bd k).take (j + 1)) := Lib.hid (by
                    rw [take_succ_at _ (by rw [HSX.out.1]; exact hj64), take_succ_at _ (by rw [HSX.out.2]; exact hj64), HT.out, ← HXY.out.1, ← HXY.out.2, hxy])
                  clear hxy
                  go_wp2_with fail
                  go_quiet (fail)
                  go_wp2_with fail
                  go_roundw
                  case rel => exact ⟨j + 1, by omega, by go_num, Lib.hid (by obtain ⟨N', hN'⟩ := HD.out; exact ⟨_, by rw [hN', World.drewN_drewN]⟩), HT2⟩
                  case measure => simp [intOf]; omega
                · have hne : (x != y) = true := by simp [hxy]
                  have HNn : Hid (NX = none) := Lib.hid (by
                    rw [HNX.out]
                    refine nextL_none (fun hx => hxy ?_)
                    have h := match_of_next HOK.out HMN.out HNN.out hx k hlt
                    rw [← HEN.out, ← HBE.out] at h
                    have h2 : ((sct p l k).take en)[j]? = ((l.sec bd k).take en)[j]? := by rw [h]
                    rw [List.getElem?_take_of_lt hjl, List.getElem?_take_of_lt hjl] at h2
                    rw [HXY.out.1, HXY.out.2]
                    unfold at_
                    rw [List.getD_eq_getElem?_getD, List.getD_eq_getElem?_getD, h2])
                  clear hxy
                  go_wp2_with fail
                  go_quiet (fail)
                  go_wp2_with fail
                  go_ret
                  rw [HNn.out]
                  exact ⟨rfl, by obtain ⟨N', hN'⟩ := HD.out; rw [hN']; exact (((HN0.out.tr HN05.out).tr HN7.out).dn _).dn _⟩
              · have hje : j = en := by omega
                have hjn : ¬ (j : Int) < (en : Int) := by omega
                have HMT2 : Hid (∀ i, i < k + 1 → (sct p l i).take (endL mn N i) = (l.sec bd i).take (endL mn N i)) := Lib.hid fun i hi => by
                  by_cases h : i = k
                  · subst h
                    rw [← HEN.out, ← hje]
                    exact HT.out
                  · exact HMT.out i (by omega)
                have HNd : Hid (New w5 wr) := Lib.hid (by obtain ⟨N', hN'⟩ := HD.out; rw [hN']; exact HN7.out.dn _)
                clear hje hj hjl
                go_wp2_with fail
                go_roundw
                case rel => exact ⟨k + 1, by omega, by go_num, HNd, HMT2⟩
                case measure => simp [intOf]; omega
        · have hkN : k = N := by omega
          rw [hkN] at HMT
          have hkn : ¬ (k : Int) < (N : Int) := by omega
          have HNx : Hid (l.Next p) := Lib.hid (next_of_match HOK.out HMN.out HNN.out HN0z.out (by have := HEQ.out; omega) (by have := HEQ.out; omega) (by rw [← HBE.out]; exact HMT.out))
          have HNs : Hid (NX = some bd) := Lib.hid (by rw [HNX.out, nextL_some HNx.out, HBE.out])
          clear hkN hk hlt
          go_wp2_with fail
          go_ret
          rw [HNs.out]
          refine ⟨g, 20, d - 20, by rw [HBL.out]; rfl, by rw [HBL.out]; omega, by omega, HBB.out, ?_, (HN0.out.tr HN05.out).tr HN.out⟩
          rw [HBL.out]
          exact (HRB5.out.frT (S := NoB) (HN.out.toFr _) (fun _ x => x.elim)).imp (fun k hk => ⟨by have := HN0.out.size; have := hk.1; omega, hk.2⟩)
end Go.Proofs.YteeclfejgpgooaaDoor
/- The reference: what is behind a log's records is overwritten. No condition. -/
namespace Go.Proofs.YteeclfejgpgooaaDoor
set_option linter.unusedVariables false
set_option linter.unusedSimpArgs false
set_option linter.constructorNameAsVariable false
open Go.RowKit Go.Sort

/-- The disk behind something that was done to it: the matching one, and a number. -/
def RwSays (q : DP) (n : Int) (tot : Nat) (w : World) (e : Ending) (w' : World) : Prop :=
  ∃ r' A1 c1 A2 c2, e = .returned (.tuple #[.agg (RfV r' A1 c1 A2 c2), .int .i64 n]) ∧ RfIn w' r' A1 A2 ∧ Mt q r' ∧ r'.tot ≤ tot ∧ New w w'
/-- The reference's disk in its cell. -/
def RdB (q : DP) (tot b : Nat) (w : World) (XR : Array Value) : Prop := ∃ r' A1 c1 A2 c2, XR = RfV r' A1 c1 A2 c2 ∧ Blk w b 32 XR ∧ RfIn w r' A1 A2 ∧ Mt q r' ∧ r'.tot ≤ tot
theorem rf_all (r : RP) (A1 : Option Addr) (c1 : Nat) (A2 : Option Addr) (c2 : Nat) : (RfV r A1 c1 A2 c2).all (·.oneCell') = true := by simp [RfV, Value.oneCell']
theorem dp_fuse {q : DP} (h : q.Ok) : (Lit.int .i64 q.fuse).wf = true := WalkArith.wf_i64 (by have := h.fz; omega)
set_option maxHeartbeats 3000000 in
set_option maxRecDepth 100000 in
theorem rwipe_any {w : World} {p : DP} {l : LG} (r : RP) (A1 : Option Addr) (c1 : Nat) (A2 : Option Addr) (c2 : Nat) (A : Option Addr) (c : Nat) (hr : RfIn w r A1 A2) (hM : Mt p r) (hp : p.Ok) (hn : r.tot ≤ 50000) (hl : l.Ok p.size) :
    Calls Tryd.prog 44 #[.agg (RfV r A1 c1 A2 c2), .agg (rlV l A c)] w (RwSays (wipeL p l).1 (wipeL p l).2 (r.tot + l.size) w) := by
  have hsz := hp.s2
  have hfit := hl.fit
  have hused := hl.used
  have HOKN : Hid (∀ k, (wipeN p l k).1.Ok ∧ (wipeN p l k).1.size = p.size) := Lib.hid fun k => by
    induction k with
    | zero => exact ⟨hp, rfl⟩
    | succ k ih =>
      refine ⟨?_, wipeN_size p l (k + 1)⟩
      simp only [wipeN]
      split
      · exact ih.1
      · split
        · unfold DP.doWrite
          split
          · next hw =>
            unfold DP.within at hw
            split
            · exact ih.1.fall
            · exact ih.1.write (by have := of_decide_eq_true hw; rw [ih.2] at *; exact this) sec0_ok
          · exact ih.1
        · exact ih.1
  obtain ⟨XL, hXL⟩ : ∃ XL, XL = rlV l A c := ⟨_, rfl⟩
  obtain ⟨us, hus⟩ : ∃ us, us = l.used := ⟨_, rfl⟩
  obtain ⟨fs, hfs⟩ : ∃ fs, fs = l.first := ⟨_, rfl⟩
  obtain ⟨sz, hsz2⟩ : ∃ sz, sz = l.size := ⟨_, rfl⟩
  obtain ⟨gen, hgn⟩ : ∃ gen, gen = l.gen := ⟨_, rfl⟩
  have HGN : Hid (gen < 4294967296) := Lib.hid (by rw [hgn]; exact hl.gen)
  have HEQ : Hid (us = l.used ∧ fs = l.first ∧ sz = l.size ∧ gen = l.gen) := Lib.hid ⟨hus, hfs, hsz2, hgn⟩
  have HXL : Hid (XL[0]? = some (.int .i64 fs) ∧ XL[1]? = some (.int .i64 sz) ∧ XL[2]? = some (.int .i64 us) ∧ XL[3]? = some (.int .u32 gen) ∧ XL.size = 6) := Lib.hid (by rw [hXL, hus, hfs, hsz2, hgn]; exact ⟨rfl, rfl, rfl, rfl, rfl⟩)
  have HPS : Hid (fs + sz ≤ p.size) := Lib.hid (by omega)
  obtain ⟨WL, hWL⟩ : ∃ WL, WL = wipeL p l := ⟨_, rfl⟩
  have HWL : Hid (WL = (if (wipeN p l (sz - us)).2.2 ≠ 0 then ((wipeN p l (sz - us)).1, (wipeN p l (sz - us)).2.2) else if (wipeN p l (sz - us)).2.1 = true then ((wipeN p l (sz - us)).1.doSync, (wipeN p l (sz - us)).1.scode) else ((wipeN p l (sz - us)).1, 0))) := Lib.hid (by rw [hWL, hsz2, hus]; rfl)
  obtain ⟨tt, htt⟩ : ∃ tt, tt = r.tot := ⟨_, rfl⟩
  rw [← hXL, ← hWL, ← htt, ← hsz2]
  have htt1 : tt ≤ 50000 := by omega
  have hu1 : us ≤ sz := by omega
  have hs1 : fs + sz ≤ 16384 := by omega
  obtain ⟨X0, hX0⟩ : ∃ X0, X0 = RfV r A1 c1 A2 c2 := ⟨_, rfl⟩
  rw [← hX0]
  have HX0 : Hid (∀ W b, New w W → Blk W b 32 X0 → RdB p tt b W X0) := Lib.hid fun W b hN hb => ⟨r, A1, c1, A2, c2, hX0, hb, hr.new hN, hM, by omega⟩
  clear hr hM hp hn hl hXL hWL hus hfs hsz2 hgn hsz hfit hused htt hX0
  go_enter Tryd.func44, Tryd.ntmps44
  go_upto_region 1 with fail
  obtain ⟨w0, hw0⟩ : ∃ w0 : World, w0 = ((w.alloc (.cells X0 32)).alloc (.cells XL 45)).alloc (.cells #[.int .i64 0, .slice none 0 0, .slice none 0 0, .int .i64 0, .bool false] 32) := ⟨_, rfl⟩
  obtain ⟨b2, hb2⟩ : ∃ b2, b2 = w.heap.size := ⟨_, rfl⟩
  obtain ⟨b3, hb3⟩ : ∃ b3, b3 = w.heap.size + 1 := ⟨_, rfl⟩
  obtain ⟨b4, hb4⟩ : ∃ b4, b4 = w.heap.size + 1 + 1 := ⟨_, rfl⟩
  have HN0 : Hid (New w w0) := Lib.hid (by rw [hw0]; exact New.al (New.al (New.al (New.refl _) _) _) _)
  have HB2 : Hid (RdB p tt b2 w0 X0) := Lib.hid (HX0.out w0 b2 HN0.out (by rw [hw0, hb2]; exact ((Blk.new _ _ _).alloc _).alloc _))
  have HB3 : Hid (Blk w0 b3 45 XL) := Lib.hid (by rw [hw0, hb3]; exact (Blk.new' _ _ _ (by simp)).alloc _)
  have HB4 : Hid (Blk w0 b4 32 #[.int .i64 0, .slice none 0 0, .slice none 0 0, .int .i64 0, .bool false]) := Lib.hid (by rw [hw0, hb4]; exact Blk.new' _ _ _ (by simp))
  have HZ : Hid (b2 = w.heap.size ∧ b3 = w.heap.size + 1 ∧ b4 = w.heap.size + 2) := Lib.hid ⟨hb2, hb3, hb4⟩
  rw [← hw0, ← hb4, ← hb3, ← hb2]
  clear hw0 hb2 hb3 hb4
  have HC : Hid (∀ W, Fr (fun j => j = b2) w0 W → W.cell? ⟨b3, 0, none⟩ = some (.int .i64 fs) ∧ W.cell? ⟨b3, 1, none⟩ = some (.int .i64 sz) ∧ W.cell? ⟨b3, 2, none⟩ = some (.int .i64 us) ∧ W.cell? ⟨b3, 3, none⟩ = some (.int .u32 gen)) := Lib.hid fun W hF => by
    have h := HB3.out.fr hF (by have := HZ.out; omega)
    exact ⟨by rw [h.cell, HXL.out.1], by rw [h.cell, HXL.out.2.1], by rw [h.cell, HXL.out.2.2.1], by rw [h.cell, HXL.out.2.2.2.1]⟩
  have hc0 := (HC.out w0 (Fr.refl _ _)).2.2.1
  have HF0 : Hid (Fr (fun j => j = b2) w0 w0) := Lib.hid (Fr.refl _ _)
  go_wp2_with fail
  go_loopw [6, 7] (fun wd i wr => ∃ (k i0 : Nat) (b : Bool) (X : Array Value), Hid (i0 = us + k) ∧ i0 ≤ sz ∧ i = .int .i64 i0 ∧ wd = .bool b ∧ Hid (b = (wipeN p l k).2.1) ∧ Hid ((wipeN p l k).2.2 = 0) ∧ Hid (RdB (wipeN p l k).1 (tt + k) b2 wr X) ∧ Hid (Fr (fun j => j = b2) w0 wr)) (fun _ i _ => sz - (intOf i).toNat)
  case atStart => exact ⟨0, us, false, X0, Lib.hid rfl, hu1, rfl, rfl, Lib.hid rfl, Lib.hid rfl, HB2, HF0⟩
  case round =>
    clear HB2 HF0 hc0
    obtain ⟨k, i, b, X, HI, hi, rfl, rfl, HB, HE, HD, HF⟩ := hrel
    obtain ⟨c30, c31, -, c33⟩ := HC.out wr HF.out
    have HC33 := Lib.hid c33
    clear c33
    have hk1 : k ≤ sz := by have := HI.out; omega
    obtain ⟨q, hq⟩ : ∃ q, q = (wipeN p l k).1 := ⟨_, rfl⟩
    have HQ := Lib.hid hq
    rw [← hq] at HD
    have HQO : Hid (q.Ok ∧ q.size = p.size) := Lib.hid (by rw [hq]; exact HOKN.out k)
    clear hq
    obtain ⟨r1, D1, d1, D2, d2, hX, hBX, hR1, hM1, ht1⟩ := HD.out
    have HBX := Lib.hid hBX
    have HR1 := Lib.hid hR1
    have HM1 := Lib.hid hM1
    have HX := Lib.hid hX
    have HT1 : Hid (r1.tot ≤ tt + k) := Lib.hid ht1
    have HXS : Hid (X.size = 5) := Lib.hid (by rw [hX]; rfl)
    have ht1z : r1.tot ≤ 70000 := by omega
    clear hX hBX hR1 hM1 ht1 HD
    by_cases hlt : i < sz
    · obtain ⟨a, ha⟩ : ∃ a, a = fs + i := ⟨_, rfl⟩
      have e1 : (fs : Int) + (i : Int) = (a : Int) := by omega
      have e2 : IntKind.i64.wrap (a : Int) = (a : Int) := IntWalk.i64_in _ (by omega)
      have HA : Hid (a = l.first + l.used + k) := Lib.hid (by have := HI.out; have := HEQ.out; omega)
      have ha1 : a ≤ 16384 := by omega
      have hlt' : (i : Int) < (sz : Int) := by omega
      obtain ⟨s, hs⟩ : ∃ s, s = q.rget (a : Int) := ⟨_, rfl⟩
      have HSC : Hid (s = sct (wipeN p l k).1 l k) := Lib.hid (by rw [hs, HQ.out, sct, HA.out])
      have HS : Hid (SecOk s) := Lib.hid (by rw [hs]; exact HQO.out.1.rget _)
      have HWI : Hid (q.within (a : Int) = true) := Lib.hid (by unfold DP.within; have := HQO.out.2; have := HPS.out; exact decide_eq_true (by omega))
      have HRD : Hid (Calls Tryd.prog 20 #[.agg X, .int .i64 (a : Int)] wr fun e w' => e = .returned (.tuple #[.agg (secA s), .int .i64 0]) ∧ New wr w') := Lib.hid (by
        have h := rread_any r1 D1 d1 D2 d2 (a : Int) wr HR1.out (by omega) (WalkArith.wf_i64 (by omega)) (by rw [HM1.out.size]; have := HQO.out.1.s2; omega)
        rw [HM1.out.rget, HM1.out.rcode, DP.rcode, HWI.out, if_pos rfl, ← hs] at h
        rw [HX.out]
        exact h)
      have hszA : (secA s).size = 64 := by rw [secA_size, HS.out.1]
      have HSZ := Lib.hid hszA
      clear hszA hs ha
      go_upto_region 6 with (first
        | ((with_reducible refine atOp ⟨some 21, .load _ _, _, _, _, _⟩ ?_); refine wpList_load_any rfl _ rfl Tryd.underlying32 rfl (by rw [HXS.out]; rfl) rfl HBX.out ?_)
        | (go_at_call 20; refine HRD.out.mono ?_; rintro e w1 ⟨rfl, hN1⟩; have HN1 := Lib.hid hN1; clear hN1)
        | ((with_reducible refine atOp ⟨some 8, .alloc _, _, _, _, _⟩ ?_); refine wpList_newvar (s := s) rfl rfl rfl _ _ rfl secInfo rfl rfl rfl HS.out.1 ?_))
      obtain ⟨w3, hw3⟩ : ∃ w3 : World, w3 = w1.alloc (.cells (secA s) 35) := ⟨_, rfl⟩
      obtain ⟨b8, hb8⟩ : ∃ b8, b8 = w1.heap.size := ⟨_, rfl⟩
      have HB8 : Hid (Blk w3 b8 35 (secA s)) := Lib.hid (by rw [hw3, hb8]; exact Blk.new _ _ _)
      have HN3 : Hid (New wr w3) := Lib.hid (by rw [hw3]; exact New.al HN1.out _)
      rw [← hw3, ← hb8]
      clear hw3 hb8 c30 c31
      have q3 : ∀ p : HW (New w3), p.w.cell? ⟨b3, 3, none⟩ = some (.int .u32 gen) := fun p => (HN3.out.tr p.h).cell_ HC33.out
      have kg : IntKind.u64.wrap (gen : Int) = (gen : Int) := by have := HGN.out; rw [IntKind.wrap_u64]; omega
      obtain ⟨v1, hv1⟩ : ∃ v1, v1 = valL (s.take 4) := ⟨_, rfl⟩
      have HV1 := Lib.hid hv1
      have HVL : Hid (∀ W, New w3 W → Calls Tryd.prog 59 #[.slice (some ⟨b8, 0, none⟩) 4 64] W fun e w' => e = .returned (.int .u64 v1) ∧ W = w') := Lib.hid fun W hN => by
        have h := value_any (some ⟨b8, 0, none⟩) 4 64 ((s.drop 0).take 4) W (blk_rd (hN.blk HB8.out) (by rw [HS.out.1]; decide)) (fun x hx => HS.out.2 x (List.mem_of_mem_drop (List.mem_of_mem_take hx))) (by omega)
        rw [List.drop_zero, ← hv1] at h
        exact h
      clear hv1
      by_cases t1 : v1 = gen
      · have tt1 : (v1 : Int) = (gen : Int) := by omega
        have T1 := Lib.hid t1
        clear t1
        go_wp2_with fail
        refine wp_region_mixH (New w3) [(true, 0), (true, 2), (true, 3), (true, 4), (false, 1), (true, 5)] (by kernel_rfl) (by kernel_rfl) (New.dr (New.refl w3)) (fun hne => ?_)
        iterate 4 (refine mix_take (o := ⟨_, _, _, _, _, _⟩) rfl (fun K hK => ?_); go_simp; refine hK _ ?_; clear hK K)
        refine mix_act (o := ⟨_, _, _, _, _, _⟩) rfl (fun K hK => ?_) (.inl rfl)
        go_simp
        refine (HVL.out w3.drew (New.dr (New.refl w3))).mono ?_
        rintro e w5 ⟨rfl, hw5⟩
        have HN5 : Hid (New w3 w5) := Lib.hid (by rw [← hw5]; exact New.dr (New.refl w3))
        clear hw5
        go_simp
        refine hK.out _ _ (fun _ => HN5.out) ?_
        clear hK K
        iterate 1 (refine mix_take (o := ⟨_, _, _, _, _, _⟩) rfl (fun K hK => ?_); go_simp; refine hK _ ?_; clear hK K)
        refine mix_done ?_
        clear q3 kg tt1
        have HG : Hid (valL ((sct (wipeN p l k).1 l k).take 4) = l.gen) := Lib.hid (by rw [← HSC.out, ← HV1.out, T1.out, HEQ.out.2.2.2])
        have HHIT := Lib.hid (wipeN_hit HE.out HG.out)
        have HF5 : Hid (Fr (fun j => j = b2) w0 w5) := Lib.hid (HF.out.trans ((HN3.out.tr HN5.out).toFr _))
        obtain ⟨c30, c31, -, -⟩ := HC.out w5 HF5.out
        have HBX5 : Hid (Blk w5 b2 32 X) := Lib.hid ((HN3.out.tr HN5.out).blk HBX.out)
        obtain ⟨wc, hwc⟩ : ∃ wc, wc = q.wcode (a : Int) := ⟨_, rfl⟩
        have HWC := Lib.hid hwc
        obtain ⟨q2, hq2⟩ : ∃ q2, q2 = q.doWrite (a : Int) sec0 := ⟨_, rfl⟩
        have HQ2 := Lib.hid hq2
        have HWR : Hid (Calls Tryd.prog 11 #[.agg X, .int .i64 (a : Int), .agg (secA sec0)] w5 fun e w' => RfEnd w' (r1.write (a : Int) sec0) wc e ∧ New w5 w') := Lib.hid (by
          have h := rwrite_any r1 D1 d1 D2 d2 (a : Int) sec0 w5 (HR1.out.new (HN3.out.tr HN5.out)) sec0_ok (by omega) (WalkArith.wf_i64 (by omega)) (by rw [HM1.out.fuse]; exact dp_fuse HQO.out.1) (by rw [HM1.out.size]; have := HQO.out.1.s2; omega)
          rw [HM1.out.wcode, ← hwc] at h
          rw [HX.out]
          exact h)
        have HM2 : Hid (Mt q2 (r1.write (a : Int) sec0)) := Lib.hid (by rw [hq2]; exact HM1.out.write _ _)
        have HT2 : Hid ((r1.write (a : Int) sec0).tot ≤ tt + (k + 1)) := Lib.hid (by have := RP.tot_write r1 (a : Int) sec0; have := HT1.out; omega)
        obtain ⟨r2, hr2⟩ : ∃ r2, r2 = r1.write (a : Int) sec0 := ⟨_, rfl⟩
        rw [← hr2] at HWR HM2 HT2
        obtain ⟨z0, hz0⟩ : ∃ z0, z0 = secA sec0 := ⟨_, rfl⟩
        rw [← hz0] at HWR
        have HZ0 : Hid ((#[.int .u8 0, .int .u8 0, .int .u8 0, .int .u8 0, .int .u8 0, .int .u8 0, .int .u8 0, .int .u8 0, .int .u8 0, .int .u8 0, .int .u8 0, .int .u8 0, .int .u8 0, .int .u8 0, .int .u8 0, .int .u8 0, .int .u8 0, .int .u8 0, .int .u8 0, .int .u8 0, .int .u8 0, .int .u8 0, .int .u8 0, .int .u8 0, .int .u8 0, .int .u8 0, .int .u8 0, .int .u8 0, .int .u8 0, .int .u8 0, .int .u8 0, .int .u8 0, .int .u8 0, .int .u8 0, .int .u8 0, .int .u8 0, .int .u8 0, .int .u8 0, .int .u8 0, .int .u8 0, .int .u8 0, .int .u8 0, .int .u8 0, .int .u8 0, .int .u8 0, .int .u8 0, .int .u8 0, .int .u8 0, .int .u8 0, .int .u8 0, .int .u8 0, .int .u8 0, .int .u8 0, .int .u8 0, .int .u8 0, .int .u8 0, .int .u8 0, .int .u8 0, .int .u8 0, .int .u8 0, .int .u8 0, .int .u8 0, .int .u8 0, .int .u8 0] : Array Value) = z0) := Lib.hid (by rw [hz0]; rfl)
        have HW3 : Hid (wipeN p l (k + 1) = (q2, (if wc = 0 then true else b), wc)) := Lib.hid (by rw [HHIT.out, ← HQ.out, ← HA.out, ← hwc, ← hq2, ← HB.out])
        clear hwc hq2 hr2 hz0
        go_wp2_with ((with_reducible refine atOp ⟨some 36, .load _ _, _, _, _, _⟩ ?_); refine wpList_load_any rfl _ rfl Tryd.underlying32 rfl (by rw [HXS.out]; rfl) rfl HBX5.out ?_)
        rw [HZ0.out]
        refine HWR.out.mono ?_
        rintro e w6 ⟨⟨E1, f1, E2, f2, rfl, hR2⟩, hN6⟩
        obtain ⟨Y, hY⟩ : ∃ Y, Y = RfV r2 E1 f1 E2 f2 := ⟨_, rfl⟩
        rw [← hY]
        have HY := Lib.hid hY
        have HYS : Hid (Y.size = 5) := Lib.hid (by rw [hY]; rfl)
        have HYA : Hid (Y.all (·.oneCell') = true) := Lib.hid (by rw [hY]; exact rf_all _ _ _ _ _)
        have HR2 := Lib.hid hR2
        have HN6 := Lib.hid hN6
        clear hY hR2 hN6
        go_upto_region 8 with ((with_reducible refine atOp ⟨some 10, .alloc _, _, _, _, _⟩ ?_); refine wpList_newrow (C := Y) rfl rfl rfl _ _ rfl rInfo rfl rfl rfl HYS.out HYA.out ?_)
        obtain ⟨w7, hw7⟩ : ∃ w7 : World, w7 = w6.alloc (.cells Y 32) := ⟨_, rfl⟩
        obtain ⟨b10, hb10⟩ : ∃ b10, b10 = w6.heap.size := ⟨_, rfl⟩
        have HB10 : Hid (Blk w7 b10 32 Y) := Lib.hid (by rw [hw7, hb10]; exact Blk.new _ _ _)
        have HN7 : Hid (New w6 w7) := Lib.hid (by rw [hw7]; exact New.al (New.refl _) _)
        have HBX7 : Hid (Blk w7 b2 32 X) := Lib.hid (HN7.out.blk (HN6.out.blk HBX5.out))
        rw [← hw7, ← hb10]
        clear hw7 hb10
        have HB4c : Hid (Blk w7 b4 32 #[.int .i64 0, .slice none 0 0, .slice none 0 0, .int .i64 0, .bool false]) := Lib.hid (HB4.out.fr (HF5.out.trans ((HN6.out.tr HN7.out).toFr _)) (by have := HZ.out; omega))
        go_upto_region 9 with (first
          | ((with_reducible refine atOp ⟨some 45, .load _ _, _, _, _, _⟩ ?_); refine wpList_load_any rfl _ rfl Tryd.underlying32 rfl (by rw [HYS.out]; rfl) rfl HB10.out ?_)
          | ((with_reducible refine atOp ⟨none, .store 32 (.tmp 2) _, _, _, _, _⟩ ?_); refine wpList_store_any rfl (.tmp 2) (.tmp 45) rfl (by rw [HYS.out]; rfl) rfl rfl HBX7.out (by rw [HYS.out, HXS.out]) HYA.out ?_; intro w8 hb8 hf8; have HB8' := Lib.hid hb8; have HF8 := Lib.hid hf8; clear hb8 hf8))
        have HF8' : Hid (Fr (fun j => j = b2) w0 w8) := Lib.hid ((HF5.out.trans ((HN6.out.tr HN7.out).toFr _)).trans HF8.out)
        have HB48 : Hid (Blk w8 b4 32 #[.int .i64 0, .slice none 0 0, .slice none 0 0, .int .i64 0, .bool false]) := Lib.hid (HB4c.out.fr HF8.out (by have := HZ.out; omega))
        have HR8 : Hid (RfIn w8 r2 E1 E2) := Lib.hid ((HR2.out.new HN7.out).fr HF8.out (fun j hj => by
          have hj' : j = b2 := hj
          rw [hj']
          exact IsT.not_blk HBX7.out (by decide)))
        have HD8 : Hid (RdB q2 (tt + (k + 1)) b2 w8 Y) := Lib.hid ⟨r2, E1, f1, E2, f2, HY.out, HB8'.out, HR8.out, HM2.out, HT2.out⟩
        by_cases hc0 : wc = 0
        · have HW4 : Hid (wipeN p l (k + 1) = (q2, true, 0)) := Lib.hid (by rw [HW3.out, if_pos hc0, hc0])
          have HJ : Hid (i + 1 = us + (k + 1)) := Lib.hid (by have := HI.out; omega)
          subst hc0
          go_wp2_with fail
          go_roundw
          case rel => exact ⟨k + 1, i + 1, true, Y, HJ, by omega, by go_num, rfl, Lib.hid (by rw [HW4.out]), Lib.hid (by rw [HW4.out]), Lib.hid (by rw [HW4.out]; exact HD8.out), HF8'⟩
          case measure => simp [intOf]; omega
        · have HC0 := Lib.hid hc0
          have hcb : (wc != 0) = true := by simp [hc0]
          have HW4 : Hid (WL = (q2, wc)) := Lib.hid (by
            obtain ⟨j, hj⟩ : ∃ j, sz - us = k + 1 + j := ⟨sz - us - (k + 1), by have := HI.out; omega⟩
            have g1 : wipeN p l (sz - us) = (q2, (if wc = 0 then true else b), wc) := by
              rw [hj, wipeN_bad (by rw [HW3.out]; exact HC0.out), HW3.out]
            rw [HWL.out, g1, if_pos HC0.out])
          clear hc0
          go_wp2_with (first
            | ((with_reducible refine atOp ⟨some 48, .load _ _, _, _, _, _⟩ ?_); refine wpList_load_any rfl _ rfl Tryd.underlying32 rfl (by rw [HYS.out]; rfl) rfl HB8'.out ?_)
            | ((with_reducible refine atOp ⟨none, .store 32 (.tmp 4) _, _, _, _, _⟩ ?_); refine wpList_store_any rfl (.tmp 4) (.tmp 48) rfl (by rw [HYS.out]; rfl) rfl rfl HB48.out (by rw [HYS.out]; rfl) HYA.out ?_; intro w9 hb9 hf9; have HB9 := Lib.hid hb9; have HF9 := Lib.hid hf9; clear hb9 hf9))
          refine bodyPost_ret (results_row2' rfl _ _ b4 _ _ rfl HB9.out Tryd.underlying32 rfl (by rw [HYS.out]; rfl)) rfl ?_
          rw [HW4.out]
          refine ⟨r2, E1, f1, E2, f2, by rw [← HY.out]; rfl, HR8.out.fr HF9.out (fun j hj => ?_), HM2.out, by have := HT2.out; have := HI.out; omega, ?_⟩
          · have hj' : j = b4 := hj
            rw [hj']
            exact IsT.not_blk HB48.out (by decide)
          · exact (HN0.out.fr HF8'.out (fun j hj => by have := HZ.out; omega)).fr HF9.out (fun j hj => by have := HZ.out; omega)
      · have tt1 : ¬ ((v1 : Int) = (gen : Int)) := by omega
        have T1 := Lib.hid t1
        clear t1
        go_wp2_with fail
        refine wp_region_mixH (New w3) [(true, 0), (true, 2), (true, 3), (true, 4), (false, 1), (true, 5)] (by kernel_rfl) (by kernel_rfl) (New.dr (New.refl w3)) (fun hne => ?_)
        iterate 4 (refine mix_take (o := ⟨_, _, _, _, _, _⟩) rfl (fun K hK => ?_); go_simp; refine hK _ ?_; clear hK K)
        refine mix_act (o := ⟨_, _, _, _, _, _⟩) rfl (fun K hK => ?_) (.inl rfl)
        go_simp
        refine (HVL.out w3.drew (New.dr (New.refl w3))).mono ?_
        rintro e w5 ⟨rfl, hw5⟩
        have HN5 : Hid (New w3 w5) := Lib.hid (by rw [← hw5]; exact New.dr (New.refl w3))
        clear hw5
        go_simp
        refine hK.out _ _ (fun _ => HN5.out) ?_
        clear hK K
        iterate 1 (refine mix_take (o := ⟨_, _, _, _, _, _⟩) rfl (fun K hK => ?_); go_simp; refine hK _ ?_; clear hK K)
        refine mix_done ?_
        clear q3 kg
        have HG : Hid (¬ valL ((sct (wipeN p l k).1 l k).take 4) = l.gen) := Lib.hid (by rw [← HSC.out, ← HV1.out, ← HEQ.out.2.2.2]; exact T1.out)
        have HSK := Lib.hid (wipeN_skip HE.out HG.out)
        have HJ : Hid (i + 1 = us + (k + 1)) := Lib.hid (by have := HI.out; omega)
        have HD5 : Hid (RdB q (tt + (k + 1)) b2 w5 X) := Lib.hid ⟨r1, D1, d1, D2, d2, HX.out, (HN3.out.tr HN5.out).blk HBX.out, HR1.out.new (HN3.out.tr HN5.out), HM1.out, by have := HT1.out; omega⟩
        have HF5 : Hid (Fr (fun j => j = b2) w0 w5) := Lib.hid (HF.out.trans ((HN3.out.tr HN5.out).toFr _))
        go_wp2_with fail
        go_roundw
        case rel => exact ⟨k + 1, i + 1, b, X, HJ, by omega, by go_num, rfl, Lib.hid (by rw [HSK.out]; exact HB.out), Lib.hid (by rw [HSK.out]; exact HE.out), Lib.hid (by rw [HSK.out, ← HQ.out]; exact HD5.out), HF5⟩
        case measure => simp [intOf]; omega
    · have hltn : ¬ (i : Int) < (sz : Int) := by omega
      have hkk : k = sz - us := by have := HI.out; omega
      have HB4r : Hid (Blk wr b4 32 #[.int .i64 0, .slice none 0 0, .slice none 0 0, .int .i64 0, .bool false]) := Lib.hid (HB4.out.fr HF.out (by have := HZ.out; omega))
      have HNr : Hid (New w wr) := Lib.hid (HN0.out.fr HF.out (fun j hj => by have := HZ.out; omega))
      have HLT4 : Hid (w.heap.size ≤ b4) := Lib.hid (by have := HZ.out; omega)
      cases b with
      | false =>
        have HW3 : Hid (WL = (q, 0)) := Lib.hid (by rw [HWL.out, ← hkk, if_neg (by rw [HE.out]; simp), if_neg (by rw [← HB.out]; simp), ← HQ.out])
        clear hkk
        go_wp2_with (first
          | ((with_reducible refine atOp ⟨some 55, .load _ _, _, _, _, _⟩ ?_); refine wpList_load_any rfl _ rfl Tryd.underlying32 rfl (by rw [HXS.out]; rfl) rfl HBX.out ?_)
          | ((with_reducible refine atOp ⟨none, .store 32 (.tmp 4) _, _, _, _, _⟩ ?_); refine wpList_store_any rfl (.tmp 4) (.tmp 55) rfl (by rw [HXS.out]; rfl) rfl rfl HB4r.out (by rw [HXS.out]; rfl) (by rw [HX.out]; exact rf_all _ _ _ _ _) ?_; intro w9 hb9 hf9; have HB9 := Lib.hid hb9; have HF9 := Lib.hid hf9; clear hb9 hf9))
        refine bodyPost_ret (results_row2' rfl _ _ b4 _ _ rfl HB9.out Tryd.underlying32 rfl (by rw [HXS.out]; rfl)) rfl ?_
        rw [HW3.out]
        refine ⟨r1, D1, d1, D2, d2, by rw [← HX.out]; rfl, HR1.out.fr HF9.out (fun j hj => ?_), HM1.out, by have := HT1.out; omega, HNr.out.fr HF9.out (fun j hj => by have := HLT4.out; omega)⟩
        have hj' : j = b4 := hj
        rw [hj']
        exact IsT.not_blk HB4r.out (by decide)
      | true =>
        have HW3 : Hid (WL = (q.doSync, q.scode)) := Lib.hid (by rw [HWL.out, ← hkk, if_neg (by rw [HE.out]; simp), if_pos HB.out.symm, ← HQ.out])
        clear hkk
        have HSY : Hid (Calls Tryd.prog 33 #[.agg X] wr fun e w' => RfEnd w' r1.sync q.scode e ∧ New wr w') := Lib.hid (by
          have h := rsync_any r1 D1 d1 D2 d2 wr HR1.out (by omega)
          rw [HM1.out.scode] at h
          rw [HX.out]
          exact h)
        obtain ⟨sc, hsc⟩ : ∃ sc, sc = q.scode := ⟨_, rfl⟩
        rw [← hsc] at HSY HW3
        clear hsc
        go_wp2_with ((with_reducible refine atOp ⟨some 51, .load _ _, _, _, _, _⟩ ?_); refine wpList_load_any rfl _ rfl Tryd.underlying32 rfl (by rw [HXS.out]; rfl) rfl HBX.out ?_)
        refine HSY.out.mono ?_
        rintro e w6 ⟨⟨E1, f1, E2, f2, rfl, hR2⟩, hN6⟩
        obtain ⟨Y, hY⟩ : ∃ Y, Y = RfV r1.sync E1 f1 E2 f2 := ⟨_, rfl⟩
        rw [← hY]
        have HY := Lib.hid hY
        have HYS : Hid (Y.size = 5) := Lib.hid (by rw [hY]; rfl)
        have HYA : Hid (Y.all (·.oneCell') = true) := Lib.hid (by rw [hY]; exact rf_all _ _ _ _ _)
        have HR2 := Lib.hid hR2
        have HN6 := Lib.hid hN6
        have HB46 : Hid (Blk w6 b4 32 #[.int .i64 0, .slice none 0 0, .slice none 0 0, .int .i64 0, .bool false]) := Lib.hid (hN6.blk HB4r.out)
        clear hY hR2 hN6
        go_wp2_with ((with_reducible refine atOp ⟨none, .store 32 (.tmp 4) _, _, _, _, _⟩ ?_); refine wpList_store_any rfl (.tmp 4) (.tmp 53) rfl (by rw [HYS.out]; rfl) rfl rfl HB46.out (by rw [HYS.out]; rfl) HYA.out ?_; intro w9 hb9 hf9; have HB9 := Lib.hid hb9; have HF9 := Lib.hid hf9; clear hb9 hf9)
        refine bodyPost_ret (results_row2' rfl _ _ b4 _ _ rfl HB9.out Tryd.underlying32 rfl (by rw [HYS.out]; rfl)) rfl ?_
        rw [HW3.out]
        refine ⟨r1.sync, E1, f1, E2, f2, by rw [← HY.out]; rfl, HR2.out.fr HF9.out (fun j hj => ?_), HM1.out.sync, by have := RP.tot_sync r1; have := HT1.out; omega, (HNr.out.tr HN6.out).fr HF9.out (fun j hj => by have := HLT4.out; omega)⟩
        have hj' : j = b4 := hj
        rw [hj']
        exact IsT.not_blk HB46.out (by decide)
end Go.Proofs.YteeclfejgpgooaaDoor
