/- Texts of one proof, one behind the other: LgE, LgF, LgG, LgH, LhP, LkP. No condition but each one's own. -/
import Derived.Test.YtpifnmlnhddgeaaGreatDoorVaultNilM21
import Derived.Test.YtpifnmlnhddgeaaGreatDoorVaultNilM22
import Derived.Test.YtpifnmlnhddgeaaGreatDoorVaultNilM2
import Derived.Test.YtpifnmlnhddgeaaGreatDoorVaultNilM4
import Derived.Test.YtpifnmlnhddgeaaGreatDoorVaultNilM1
import Derived.Test.YtpifnmlnhddgeaaGreatDoorVaultNilM6
import Derived.Test.YtpifnmlnhddgeaaGreatDoorVaultNilM10
import Derived.Deep.CutBlock
import Derived.WalkArith
namespace Go.Proofs.YtpifnmlnhddgeaaGreatDoor
set_option linter.unusedVariables false
set_option linter.unusedSimpArgs false
set_option linter.constructorNameAsVariable false
open Go.RowKit Go.Sort
theorem lg_apart {w : World} {base gl g bs bf n : Nat} {v : Value} {p : DP} {l : LG} (h : Dk w base g bs bf v p) (hl : Lg w gl g l n) : ¬ DkOurs g bs bf v gl :=
 dk_notBlk h hl.blk (fun e => Blk.ne_ (g := gl) (g' := g) hl.blk h.blk (by decide) e) (by decide)
theorem wipeN_size (p : DP) (l : LG) : ∀ k, (wipeN p l k).1.size = p.size
 | 0 => rfl
 | k + 1 => by
  have ih := wipeN_size p l k
  simp only [wipeN]
  split
  · exact ih
  · split
    · exact (DP.doWrite_size _ _ _).trans ih
    · exact ih
theorem wipeN_bad {p : DP} {l : LG} {k : Nat} (h : (wipeN p l k).2.2 ≠ 0) : ∀ j, wipeN p l (k + j) = wipeN p l k
 | 0 => rfl
 | j + 1 => by
  have ih := wipeN_bad h j
  rw [← Nat.add_assoc]
  simp only [wipeN]
  rw [ih, if_pos h]
theorem wipeN_skip {p : DP} {l : LG} {k : Nat} (h : (wipeN p l k).2.2 = 0) (hg : ¬ valL ((sct (wipeN p l k).1 l k).take 4) = l.gen) : wipeN p l (k + 1) = wipeN p l k := by
 simp only [wipeN]
 rw [if_neg (by rw [h]; simp), if_neg hg]
theorem wipeN_hit {p : DP} {l : LG} {k : Nat} (h : (wipeN p l k).2.2 = 0) (hg : valL ((sct (wipeN p l k).1 l k).take 4) = l.gen) : wipeN p l (k + 1) = ((wipeN p l k).1.doWrite ((l.first + l.used + k : Nat) : Int) sec0, (if (wipeN p l k).1.wcode ((l.first + l.used + k : Nat) : Int) = 0 then true else (wipeN p l k).2.1), (wipeN p l k).1.wcode ((l.first + l.used + k : Nat) : Int)) := by
 simp only [wipeN]
 rw [if_neg (by rw [h]; simp), if_pos hg]
def WipeSays (w : World) (base g bs bf : Nat) (v : Value) (r : DP × Int) (e : Ending) (w' : World) : Prop := e = .returned (errD r.2) ∧ ∃ v', DkTo w base g bs bf v r.1 w' v'
def Cells2 (gl : Nat) (x y : Value) (w : World) : Prop := w.cell? ⟨gl, 0, none⟩ = some x ∧ w.cell? ⟨gl, 1, none⟩ = some y
set_option maxHeartbeats 3000000 in
set_option maxRecDepth 100000 in
theorem wipe_any {w : World} {gl gd base bs bf : Nat} {v : Value} {p : DP} {l : LG} (h : Lg w gl gd l p.size) (hD : Dk w base gd bs bf v p) :
    Calls Tryz.prog 205 #[.pointer (some ⟨gl, 0, none⟩)] w (WipeSays w base gd bs bf v (wipeL p l)) := by
 have HLG := Lib.hid h
 have HAP : Hid (¬ DkOurs gd bs bf v gl) := Lib.hid (lg_apart hD h)
 have HD0 : Hid (DkTo w base gd bs bf v p w v) := Lib.hid (DkTo.same hD (New.refl w))
 have hsz := hD.ok.s2
 have hfit := h.ok.fit
 have hused := h.ok.used
 have HGN : Hid (l.gen < 4294967296) := Lib.hid h.ok.gen
 obtain ⟨us, hus⟩ : ∃ us, us = l.used := ⟨_, rfl⟩
 obtain ⟨fs, hfs⟩ : ∃ fs, fs = l.first := ⟨_, rfl⟩
 obtain ⟨sz, hsz2⟩ : ∃ sz, sz = l.size := ⟨_, rfl⟩
 obtain ⟨gen, hgn⟩ : ∃ gen, gen = l.gen := ⟨_, rfl⟩
 have c4 := h.c4
 rw [← hus] at c4 hused
 rw [← hgn] at HGN
 rw [← hfs] at hfit
 rw [← hsz2] at hused hfit
 have hu1 : us ≤ sz := hused
 have hsz1 : fs + sz ≤ 16384 := by omega
 have HEQ : Hid (us = l.used ∧ fs = l.first ∧ sz = l.size ∧ gen = l.gen) := Lib.hid ⟨hus, hfs, hsz2, hgn⟩
 have HPS : Hid (fs + sz ≤ p.size) := Lib.hid hfit
 have HLC : Hid (∀ W : World, W.heap[gl]? = w.heap[gl]? → W.cell? ⟨gl, 0, none⟩ = some (.pointer (some ⟨gd, 0, none⟩)) ∧ W.cell? ⟨gl, 1, none⟩ = some (.int .i64 fs) ∧ W.cell? ⟨gl, 2, none⟩ = some (.int .i64 sz) ∧ W.cell? ⟨gl, 3, none⟩ = some (.int .u32 gen)) := Lib.hid fun W hW => by
  have hb : Lg W gl gd l p.size := ⟨hW.trans h.blk, h.ok⟩
  rw [hfs, hsz2, hgn]
  exact ⟨hb.c0, hb.c1, hb.c2, hb.c3⟩
 have HLT := Lib.hid h.blk.lt
 obtain ⟨WL, hWL⟩ : ∃ WL, WL = wipeL p l := ⟨_, rfl⟩
 rw [← hWL]
 have HWL : Hid (WL = (if (wipeN p l (sz - us)).2.2 ≠ 0 then ((wipeN p l (sz - us)).1, (wipeN p l (sz - us)).2.2) else if (wipeN p l (sz - us)).2.1 = true then ((wipeN p l (sz - us)).1.doSync, (wipeN p l (sz - us)).1.scode) else ((wipeN p l (sz - us)).1, 0))) := Lib.hid (by rw [hWL, hsz2, hus]; rfl)
 clear h hD hfit hused hus hfs hsz2 hgn hsz hWL
 go_enter Tryz.func205, Tryz.ntmps205
 go_wp2_with fail
 go_loopw [3, 4] (fun wd i wr => ∃ (k : Nat) (i0 : Nat) (b : Bool) (v' : Value), Hid (i0 = us + k) ∧ i0 ≤ sz ∧ i = .int .i64 i0 ∧ wd = .bool b ∧ Hid (b = (wipeN p l k).2.1) ∧ Hid ((wipeN p l k).2.2 = 0) ∧ Hid (DkTo w base gd bs bf v (wipeN p l k).1 wr v')) (fun _ i _ => sz - (intOf i).toNat)
 case atStart => exact ⟨0, us, false, v, Lib.hid rfl, hu1, rfl, rfl, Lib.hid rfl, Lib.hid rfl, HD0⟩
 case round =>
  clear HD0 c4
  obtain ⟨k, i, b, v', HI, hi, rfl, rfl, HB, HE, HD⟩ := hrel
  have hcs := HLC.out wr (HD.out.fr.block gl HLT.out HAP.out)
  have HGL : Hid (wr.heap[gl]? = w.heap[gl]?) := Lib.hid (HD.out.fr.block gl HLT.out HAP.out)
  have c2 := hcs.2.2.1
  have c0' := hcs.1
  have c1' := hcs.2.1
  have HC := Lib.hid hcs
  clear hcs
  have q0 : ∀ p : HW (New wr), p.w.cell? ⟨gl, 0, none⟩ = some (.pointer (some ⟨gd, 0, none⟩)) := fun p => p.h.cell_ c0'
  have q1 : ∀ p : HW (New wr), p.w.cell? ⟨gl, 1, none⟩ = some (.int .i64 fs) := fun p => p.h.cell_ c1'
  clear c0' c1'
  by_cases hlt : i < sz
  · have hlt' : (i : Int) < (sz : Int) := by omega
    obtain ⟨a, ha⟩ : ∃ a, a = fs + i := ⟨_, rfl⟩
    have e1 : (fs : Int) + (i : Int) = (a : Int) := by omega
    have e2 : IntKind.i64.wrap (a : Int) = (a : Int) := IntWalk.i64_in _ (by omega)
    have HA : Hid (a = l.first + l.used + k) := Lib.hid (by have := HI.out; have := HEQ.out; omega)
    obtain ⟨q, hq⟩ : ∃ q, q = (wipeN p l k).1 := ⟨_, rfl⟩
    have HQ := Lib.hid hq
    rw [← hq] at HD
    have HQS : Hid (q.size = p.size) := Lib.hid (by rw [hq]; exact wipeN_size p l k)
    obtain ⟨s, hs⟩ : ∃ s, s = q.rget (a : Int) := ⟨_, rfl⟩
    have HSC : Hid (s = sct (wipeN p l k).1 l k) := Lib.hid (by rw [hs, ← hq, sct, HA.out])
    have HS : Hid (SecOk s) := Lib.hid (by rw [hs]; exact HD.out.dk.ok.rget _)
    have HRG : Hid (q.rget (a : Int) = s) := Lib.hid hs.symm
    have HWI : Hid (q.within (a : Int) = true) := Lib.hid (by unfold DP.within; have := HQS.out; have := HPS.out; exact decide_eq_true (by omega))
    have HRC : Hid (q.rcode (a : Int) = 0) := Lib.hid (by unfold DP.rcode; rw [HWI.out, if_pos rfl])
    have hszA : (secA s).size = 64 := by rw [secA_size, HS.out.1]
    have HSZ := Lib.hid hszA
    have HAA := Lib.hid ha
    clear hszA hq hs ha
    go_wp2_with fail
    apply wp_join (α := Nat) (fun b w3 => New wr w3 ∧ Blk w3 b 155 (secA s))
    case h1 =>
     intro K' hK'
     refine wp_region_tree (New wr) (.take 0 (.take 1 (.take 2 (.take 3 (.take 4 (.take 5 (.take 6 (.take 7 (.take 8 (.take 9 (.two 10 (.take 11 (.take 12 (.take 13 (.act 14 (.act 15 (.take 16 .done)))))) 14 (.act 10 (.take 11 (.take 12 (.take 13 (.act 15 (.take 16 .done))))))))))))))))) (by kernel_rfl) (by kernel_rfl) (New.dr (New.refl wr)) (fun hne => ?_)
     iterate 10 (refine tree_take (o := ⟨_, _, _, _, _, _⟩) rfl (fun K hK => ?_); go_simp; refine hK _ ?_; clear hK K)
     refine ⟨?_, ?_⟩
     · refine act_ok (o := ⟨_, _, _, _, _, _⟩) rfl (fun K hK => ?_) (.inl rfl)
       go_simp
       refine (read_all (HD.out.dk.new (New.dr (New.refl wr))) (a : Int)).mono ?_
       rintro e w1 ⟨rfl, hN1⟩
       rw [HRG.out, HRC.out, errD_0]
       have HN1 : Hid (New wr w1) := Lib.hid (New.tr (New.dr (New.refl wr)) hN1)
       clear hN1
       go_simp
       refine hK.out _ _ HN1.out ?_
       clear hK K
       iterate 3 (refine tree_take (o := ⟨_, _, _, _, _, _⟩) rfl (fun K hK => ?_); go_simp; refine hK _ ?_; clear hK K)
       refine tree_act_alloc (o := ⟨_, _, _, _, _, _⟩) rfl rfl rfl secInfo ?_
       intro b8 w2 hb8 hB2 hN2
       have HL2 : Hid (wr.heap.size ≤ b8) := Lib.hid (by have := HN1.out.size; omega)
       refine ⟨HN1.out.tr hN2, ?_⟩
       clear hb8
       simp only [Act.put, List.setIfInBounds_toArray, List.set_cons_zero, List.set_cons_succ]
       refine act_store (o := ⟨_, _, _, _, _, _⟩) (cs := secA s) rfl rfl (.tmp 5) (.tmp 32) rfl (by rw [HSZ.out]; rfl) rfl rfl hB2 (by rw [HSZ.out]; rfl) (secA_one _) ?_
       intro w3 hB3 hF3
       have hN3 : New wr w3 := (HN1.out.tr hN2).fr hF3 (fun k hk => by have := HL2.out; omega)
       refine ⟨hN3, ?_⟩
       simp only [Act.put, List.setIfInBounds_toArray, List.set_cons_zero, List.set_cons_succ]
       iterate 1 (refine tree_take (o := ⟨_, _, _, _, _, _⟩) rfl (fun K hK => ?_); go_simp; refine hK _ ?_; clear hK K)
       refine tree_done ?_
       exact hK'.out b8 w3 ⟨hN3, hB3⟩
     · refine act_alloc (o := ⟨_, _, _, _, _, _⟩) rfl rfl rfl secInfo ?_
       intro b8 w2 hb8 hB2 hN2
       have HN2 : Hid (New wr w2) := Lib.hid ((New.dr (New.refl wr)).tr hN2)
       have HB2 := Lib.hid hB2
       have HL2 : Hid (wr.heap.size ≤ b8) := Lib.hid (by rw [hb8]; exact Nat.le_refl _)
       refine ⟨HN2.out, ?_⟩
       clear hb8 hB2 hN2
       simp only [Act.put, List.setIfInBounds_toArray, List.set_cons_zero, List.set_cons_succ]
       refine tree_act (o := ⟨_, _, _, _, _, _⟩) rfl (fun K hK => ?_) (.inl rfl)
       go_simp
       refine (read_all (HD.out.dk.new HN2.out) (a : Int)).mono ?_
       rintro e w1 ⟨rfl, hN1⟩
       rw [HRG.out, HRC.out, errD_0]
       have HB1 := Lib.hid (hN1.blk HB2.out)
       have HN1 : Hid (New wr w1) := Lib.hid (HN2.out.tr hN1)
       clear hN1
       go_simp
       refine hK.out _ _ HN1.out ?_
       clear hK K
       iterate 3 (refine tree_take (o := ⟨_, _, _, _, _, _⟩) rfl (fun K hK => ?_); go_simp; refine hK _ ?_; clear hK K)
       refine act_store (o := ⟨_, _, _, _, _, _⟩) (cs := secA s) rfl rfl (.tmp 5) (.tmp 32) rfl (by rw [HSZ.out]; rfl) rfl rfl HB1.out (by rw [HSZ.out]; rfl) (secA_one _) ?_
       intro w3 hB3 hF3
       have hN3 : New wr w3 := HN1.out.fr hF3 (fun k hk => by have := HL2.out; omega)
       refine ⟨hN3, ?_⟩
       simp only [Act.put, List.setIfInBounds_toArray, List.set_cons_zero, List.set_cons_succ]
       iterate 1 (refine tree_take (o := ⟨_, _, _, _, _, _⟩) rfl (fun K hK => ?_); go_simp; refine hK _ ?_; clear hK K)
       refine tree_done ?_
       exact hK'.out b8 w3 ⟨hN3, hB3⟩
    case h2 =>
     rintro b8 w3 ⟨hN3, hB3⟩
     have HN3 := Lib.hid hN3
     have HB3 := Lib.hid hB3
     clear hN3 hB3 q0 q1 c2
     have HC3 := Lib.hid (HN3.out.cell_ HC.out.2.2.2)
     have HR4 : Hid (∀ W, New w3 W → Rd (fun _ => True) W 1 (some ⟨b8, 0, none⟩) 4 (u8s (s.take 4))) := Lib.hid (fun W hN => by
      have h := Rd.ofBlk (p := fun _ => True) (hN.blk HB3.out) 1 64 (by rw [HSZ.out]) trivial
      rw [secA_list] at h
      exact h.take (by omega))
     have q3 : ∀ p : HW (New w3), p.w.cell? ⟨gl, 3, none⟩ = some (.int .u32 gen) := fun p => p.h.cell_ HC3.out
     have kg : IntKind.u64.wrap (gen : Int) = (gen : Int) := by have := HGN.out; rw [IntKind.wrap_u64]; omega
     obtain ⟨v1, hv1⟩ : ∃ v1, v1 = valL (s.take 4) := ⟨_, rfl⟩
     have X1 : Hid ((Rs.mk (s.take 4) 0).num 4 = (v1, ⟨[], 0⟩)) := Lib.hid (by
      rw [num_of (by rw [List.length_take, HS.out.1]; decide), List.take_of_length_le (by rw [List.length_take, HS.out.1]; decide), List.drop_of_length_le (by rw [List.length_take, HS.out.1]; decide), hv1])
     have HV1 := Lib.hid hv1
     have hgl0 : (gen : Int) < 18446744073709551616 := by have := HGN.out; omega
     have HGL8 : Hid (gl < w3.heap.size) := Lib.hid (by have := HLT.out; have := HD.out.fr.size; have := HN3.out.size; omega)
     clear hv1 hgl0
     by_cases t1 : v1 = gen
     · have d1 : (v1 : Int) = (gen : Int) := by omega
       have T1 := Lib.hid t1
       clear t1
       go_wp2_with fail
       refine wp_region_mixH (New w3) [(true, 0), (true, 3), (true, 4), (true, 5), (true, 6), (true, 7), (false, 1), (false, 2), (true, 8), (true, 9)] (by kernel_rfl) (by kernel_rfl) (New.dr (New.refl w3)) (fun hne => ?_)
       iterate 6 (refine mix_take (o := ⟨_, _, _, _, _, _⟩) rfl (fun K hK => ?_); go_simp; refine hK _ ?_; clear hK K)
       refine mix_act (o := ⟨_, _, _, _, _, _⟩) rfl (fun K hK => ?_) (.inl rfl)
       go_simp
       refine (from_any (some ⟨b8, 0, none⟩) 4 64 (s.take 4) w3.drew (HR4.out _ (New.dr (New.refl w3))) (fun x hx => HS.out.2 x (List.mem_of_mem_take hx)) (by omega)).mono ?_
       rintro e w4 ⟨r, rfl, hRI, hN4, hr⟩
       have HRI := Lib.hid hRI
       have HN4 : Hid (New w3 w4) := Lib.hid ((New.dr (New.refl w3)).tr hN4)
       have HRL : Hid (w3.heap.size ≤ r) := Lib.hid hr
       clear hRI hN4 hr
       go_simp
       refine hK.out _ _ (fun _ => HN4.out) ?_
       clear hK K
       refine mix_act (o := ⟨_, _, _, _, _, _⟩) rfl (fun K hK => ?_) (.inl rfl)
       go_simp
       refine (rnum_any HRI.out 4 (by omega)).mono ?_
       rintro e w5 ⟨rfl, -, hF5⟩
       rw [X1.out]
       dsimp only
       have HN5 : Hid (New w3 w5) := Lib.hid (HN4.out.fr hF5 (fun k hk => by have := HRL.out; omega))
       clear hF5
       go_simp
       refine hK.out _ _ (fun _ => HN5.out) ?_
       clear hK K
       iterate 2 (refine mix_take (o := ⟨_, _, _, _, _, _⟩) rfl (fun K hK => ?_); go_simp; refine hK _ ?_; clear hK K)
       refine mix_done ?_
       have HD5 : Hid (DkTo w base gd bs bf v q w5 v') := Lib.hid (HD.out.new (HN3.out.tr HN5.out))
       clear q3 HRI kg d1
       have HG : Hid (valL ((sct (wipeN p l k).1 l k).take 4) = l.gen) := Lib.hid (by rw [← HSC.out, ← HV1.out, T1.out, HEQ.out.2.2.2])
       have HHIT := Lib.hid (wipeN_hit HE.out HG.out)
       have HC5 : Hid (w5.cell? ⟨gl, 0, none⟩ = some (.pointer (some ⟨gd, 0, none⟩)) ∧ w5.cell? ⟨gl, 1, none⟩ = some (.int .i64 fs)) := Lib.hid ⟨HN5.out.cell_ (HN3.out.cell_ HC.out.1), HN5.out.cell_ (HN3.out.cell_ HC.out.2.1)⟩
       have q0 : ∀ p : HW (Cells2 gl (.pointer (some ⟨gd, 0, none⟩)) (.int .i64 fs)), p.w.cell? ⟨gl, 0, none⟩ = some (.pointer (some ⟨gd, 0, none⟩)) := fun p => p.h.1
       have q1 : ∀ p : HW (Cells2 gl (.pointer (some ⟨gd, 0, none⟩)) (.int .i64 fs)), p.w.cell? ⟨gl, 1, none⟩ = some (.int .i64 fs) := fun p => p.h.2
       have HWX := Lib.hid (write_all (HD5.out.dk.new (New.dr (New.refl w5))) (a : Int) sec0_ok)
       obtain ⟨wc, hwc⟩ : ∃ wc, wc = q.wcode (a : Int) := ⟨_, rfl⟩
       rw [← hwc] at HWX
       have HWC := Lib.hid hwc
       obtain ⟨q2, hq2⟩ : ∃ q2, q2 = q.doWrite (a : Int) sec0 := ⟨_, rfl⟩
       rw [← hq2] at HWX
       have HQ2 := Lib.hid hq2
       obtain ⟨z0, hz0⟩ : ∃ z0, z0 = secA sec0 := ⟨_, rfl⟩
       rw [← hz0] at HWX
       have HZ0 : Hid ((#[.int .u8 0, .int .u8 0, .int .u8 0, .int .u8 0, .int .u8 0, .int .u8 0, .int .u8 0, .int .u8 0, .int .u8 0, .int .u8 0, .int .u8 0, .int .u8 0, .int .u8 0, .int .u8 0, .int .u8 0, .int .u8 0, .int .u8 0, .int .u8 0, .int .u8 0, .int .u8 0, .int .u8 0, .int .u8 0, .int .u8 0, .int .u8 0, .int .u8 0, .int .u8 0, .int .u8 0, .int .u8 0, .int .u8 0, .int .u8 0, .int .u8 0, .int .u8 0, .int .u8 0, .int .u8 0, .int .u8 0, .int .u8 0, .int .u8 0, .int .u8 0, .int .u8 0, .int .u8 0, .int .u8 0, .int .u8 0, .int .u8 0, .int .u8 0, .int .u8 0, .int .u8 0, .int .u8 0, .int .u8 0, .int .u8 0, .int .u8 0, .int .u8 0, .int .u8 0, .int .u8 0, .int .u8 0, .int .u8 0, .int .u8 0, .int .u8 0, .int .u8 0, .int .u8 0, .int .u8 0, .int .u8 0, .int .u8 0, .int .u8 0, .int .u8 0] : Array Value) = z0) := Lib.hid (by rw [hz0]; rfl)
       clear hwc hq2 hz0
       by_cases hc0 : wc = 0
       · have hz := hc0
         subst hc0
         clear hz
         go_wp2_with fail
         refine wp_region_mixH (Cells2 gl (.pointer (some ⟨gd, 0, none⟩)) (.int .i64 fs)) [(true, 0), (true, 1), (true, 2), (true, 3), (true, 4), (true, 5), (true, 6), (true, 7), (true, 8), (true, 9), (true, 10), (false, 11), (true, 12)] (by kernel_rfl) (by kernel_rfl) ⟨(New.dr (New.refl w5)).cell_ HC5.out.1, (New.dr (New.refl w5)).cell_ HC5.out.2⟩ (fun hne => ?_)
         iterate 11 (refine mix_take (o := ⟨_, _, _, _, _, _⟩) rfl (fun K hK => ?_); go_simp; refine hK _ ?_; clear hK K)
         refine mix_act (o := ⟨_, _, _, _, _, _⟩) rfl (fun K hK => ?_) (.inl rfl)
         go_simp
         rw [HZ0.out]
         refine HWX.out.mono ?_
         rintro e w6 ⟨rfl, v2, hD6, hF6, ho6⟩
         have HD6 : Hid (DkTo w base gd bs bf v q2 w6 v2) := Lib.hid ((HD5.out.new (New.dr (New.refl w5))).tr ⟨hD6, hF6, ho6⟩)
         have HC6 : Hid (Cells2 gl (.pointer (some ⟨gd, 0, none⟩)) (.int .i64 fs) w6) := Lib.hid (by
          have := HLC.out w6 (HD6.out.fr.block gl HLT.out HAP.out)
          exact ⟨this.1, this.2.1⟩)
         clear hD6 hF6 ho6
         rw [errD_0]
         go_simp
         refine hK.out _ _ (fun _ => HC6.out) ?_
         clear hK K
         iterate 1 (refine mix_take (o := ⟨_, _, _, _, _, _⟩) rfl (fun K hK => ?_); go_simp; refine hK _ ?_; clear hK K)
         refine mix_done ?_
         clear q0 q1
         have HW3 : Hid (wipeN p l (k + 1) = (q2, true, 0)) := Lib.hid (by rw [HHIT.out, ← HQ.out, ← HA.out, ← HWC.out, ← HQ2.out, if_pos rfl])
         have HJ : Hid (i + 1 = us + (k + 1)) := Lib.hid (by have := HI.out; omega)
         go_wp2_with fail
         go_roundw
         case rel => exact ⟨k + 1, i + 1, true, v2, HJ, by omega, by go_num, rfl, Lib.hid (by rw [HW3.out]), Lib.hid (by rw [HW3.out]), Lib.hid (by rw [HW3.out]; exact HD6.out)⟩
         case measure => simp [intOf]; omega
       · have HWE : Hid (errD wc = .iface 99 (.int .i64 wc)) := Lib.hid (errD_n hc0)
         have HC0 := Lib.hid hc0
         clear hc0
         go_wp2_with fail
         refine wp_region_mixH (Cells2 gl (.pointer (some ⟨gd, 0, none⟩)) (.int .i64 fs)) [(true, 0), (true, 1), (true, 2), (true, 3), (true, 4), (true, 5), (true, 6), (true, 7), (true, 8), (true, 9), (true, 10), (false, 11), (true, 12)] (by kernel_rfl) (by kernel_rfl) ⟨(New.dr (New.refl w5)).cell_ HC5.out.1, (New.dr (New.refl w5)).cell_ HC5.out.2⟩ (fun hne => ?_)
         iterate 11 (refine mix_take (o := ⟨_, _, _, _, _, _⟩) rfl (fun K hK => ?_); go_simp; refine hK _ ?_; clear hK K)
         refine mix_act (o := ⟨_, _, _, _, _, _⟩) rfl (fun K hK => ?_) (.inl rfl)
         go_simp
         rw [HZ0.out]
         refine HWX.out.mono ?_
         rintro e w6 ⟨rfl, v2, hD6, hF6, ho6⟩
         have HD6 : Hid (DkTo w base gd bs bf v q2 w6 v2) := Lib.hid ((HD5.out.new (New.dr (New.refl w5))).tr ⟨hD6, hF6, ho6⟩)
         have HC6 : Hid (Cells2 gl (.pointer (some ⟨gd, 0, none⟩)) (.int .i64 fs) w6) := Lib.hid (by
          have := HLC.out w6 (HD6.out.fr.block gl HLT.out HAP.out)
          exact ⟨this.1, this.2.1⟩)
         clear hD6 hF6 ho6
         rw [HWE.out]
         go_simp
         refine hK.out _ _ (fun _ => HC6.out) ?_
         clear hK K
         iterate 1 (refine mix_take (o := ⟨_, _, _, _, _, _⟩) rfl (fun K hK => ?_); go_simp; refine hK _ ?_; clear hK K)
         refine mix_done ?_
         clear q0 q1
         have HW3 : Hid (WL = (q2, wc)) := Lib.hid (by
          obtain ⟨j, hj⟩ : ∃ j, sz - us = k + 1 + j := ⟨sz - us - (k + 1), by have := HI.out; omega⟩
          have e1 : wipeN p l (k + 1) = (q2, (wipeN p l k).2.1, wc) := by rw [HHIT.out, ← HQ.out, ← HA.out, ← HWC.out, ← HQ2.out, if_neg HC0.out]
          have e2 : wipeN p l (sz - us) = (q2, (wipeN p l k).2.1, wc) := by
           rw [hj, wipeN_bad (by rw [e1]; exact HC0.out), e1]
          rw [HWL.out, e2, if_pos HC0.out])
         go_wp2_with fail
         go_ret
         rw [HW3.out]
         exact ⟨(congrArg Ending.returned HWE.out).symm, v2, HD6.out⟩
     · have d1 : ¬ ((v1 : Int) = (gen : Int)) := by omega
       have T1 := Lib.hid t1
       clear t1
       go_wp2_with fail
       refine wp_region_mixH (New w3) [(true, 0), (true, 3), (true, 4), (true, 5), (true, 6), (true, 7), (false, 1), (false, 2), (true, 8), (true, 9)] (by kernel_rfl) (by kernel_rfl) (New.dr (New.refl w3)) (fun hne => ?_)
       iterate 6 (refine mix_take (o := ⟨_, _, _, _, _, _⟩) rfl (fun K hK => ?_); go_simp; refine hK _ ?_; clear hK K)
       refine mix_act (o := ⟨_, _, _, _, _, _⟩) rfl (fun K hK => ?_) (.inl rfl)
       go_simp
       refine (from_any (some ⟨b8, 0, none⟩) 4 64 (s.take 4) w3.drew (HR4.out _ (New.dr (New.refl w3))) (fun x hx => HS.out.2 x (List.mem_of_mem_take hx)) (by omega)).mono ?_
       rintro e w4 ⟨r, rfl, hRI, hN4, hr⟩
       have HRI := Lib.hid hRI
       have HN4 : Hid (New w3 w4) := Lib.hid ((New.dr (New.refl w3)).tr hN4)
       have HRL : Hid (w3.heap.size ≤ r) := Lib.hid hr
       clear hRI hN4 hr
       go_simp
       refine hK.out _ _ (fun _ => HN4.out) ?_
       clear hK K
       refine mix_act (o := ⟨_, _, _, _, _, _⟩) rfl (fun K hK => ?_) (.inl rfl)
       go_simp
       refine (rnum_any HRI.out 4 (by omega)).mono ?_
       rintro e w5 ⟨rfl, -, hF5⟩
       rw [X1.out]
       dsimp only
       have HN5 : Hid (New w3 w5) := Lib.hid (HN4.out.fr hF5 (fun k hk => by have := HRL.out; omega))
       clear hF5
       go_simp
       refine hK.out _ _ (fun _ => HN5.out) ?_
       clear hK K
       iterate 2 (refine mix_take (o := ⟨_, _, _, _, _, _⟩) rfl (fun K hK => ?_); go_simp; refine hK _ ?_; clear hK K)
       refine mix_done ?_
       have HD5 : Hid (DkTo w base gd bs bf v q w5 v') := Lib.hid (HD.out.new (HN3.out.tr HN5.out))
       clear q3 HRI kg
       have HG : Hid (¬ valL ((sct (wipeN p l k).1 l k).take 4) = l.gen) := Lib.hid (by rw [← HSC.out, ← HV1.out, ← HEQ.out.2.2.2]; exact T1.out)
       have HSK := Lib.hid (wipeN_skip HE.out HG.out)
       have HJ : Hid (i + 1 = us + (k + 1)) := Lib.hid (by have := HI.out; omega)
       go_wp2_with fail
       go_roundw
       case rel => exact ⟨k + 1, i + 1, b, v', HJ, by omega, by go_num, rfl, Lib.hid (by rw [HSK.out]; exact HB.out), Lib.hid (by rw [HSK.out]; exact HE.out), Lib.hid (by rw [HSK.out, ← HQ.out]; exact HD5.out)⟩
       case measure => simp [intOf]; omega
  · have hltn : ¬ (i : Int) < (sz : Int) := by omega
    have hkk : k = sz - us := by have := HI.out; omega
    subst hkk
    clear q0 q1
    obtain ⟨q, hq⟩ : ∃ q, q = (wipeN p l (sz - us)).1 := ⟨_, rfl⟩
    rw [← hq] at HD
    have HQ := Lib.hid hq
    have c0 := HC.out.1
    clear hq
    cases b with
    | false =>
     have HW3 : Hid (WL = (q, 0)) := Lib.hid (by rw [HWL.out, if_neg (by rw [HE.out]; simp), if_neg (by rw [← HB.out]; simp), ← HQ.out])
     go_wp2_with fail
     go_ret
     rw [HW3.out]
     exact ⟨(congrArg Ending.returned errD_0).symm, v', HD.out⟩
    | true =>
     have HW3 : Hid (WL = (q.doSync, q.scode)) := Lib.hid (by rw [HWL.out, if_neg (by rw [HE.out]; simp), if_pos HB.out.symm, ← HQ.out])
     go_wp2_with fail
     refine (sync_all HD.out.dk).mono ?_
     rintro e w6 ⟨rfl, v2, hD6, hF6, ho6⟩
     have HD6 : Hid (DkTo w base gd bs bf v q.doSync w6 v2) := Lib.hid (HD.out.tr ⟨hD6, hF6, ho6⟩)
     clear hD6 hF6 ho6
     obtain ⟨ev, hev⟩ : ∃ ev, ev = errD q.scode := ⟨_, rfl⟩
     have HEV := Lib.hid hev
     rw [← hev]
     clear hev
     go_wp2_with fail
     go_ret
     rw [HW3.out]
     exact ⟨congrArg Ending.returned HEV.out, v2, HD6.out⟩
end Go.Proofs.YtpifnmlnhddgeaaGreatDoor
namespace Go.Proofs.YtpifnmlnhddgeaaGreatDoor
set_option linter.unusedVariables false
set_option linter.unusedSimpArgs false
set_option linter.constructorNameAsVariable false
open Go.RowKit Go.Sort
def lg0 (first size gen : Nat) : LG := ⟨first, size, gen, 0, List.replicate 16 0, false⟩
theorem lg0_ok {first size gen n : Nat} (h : first + size ≤ n) (hg : gen < 4294967296) : (lg0 first size gen).Ok n := ⟨h, hg, Nat.zero_le _, rfl, fun x hx => by have := List.eq_of_mem_replicate hx; omega⟩
set_option maxRecDepth 100000 in
set_option maxHeartbeats 2000000 in
theorem at_good {w : World} {gd base bs bf : Nat} {v : Value} {p : DP} (hD : Dk w base gd bs bf v p) (a b c : Nat) (hb : 1 ≤ b) (hab : a + b ≤ p.size) (hc : c < 4294967296) (hc0 : c ≠ 0) :
    Calls Tryz.prog 204 #[.pointer (some ⟨gd, 0, none⟩), .int .i64 a, .int .i64 b, .int .u32 c] w fun e w' => e = .returned (.tuple #[.pointer (some ⟨w.heap.size, 0, none⟩), .nilIface]) ∧ Lg w' w.heap.size gd (lg0 a b c) p.size ∧ New w w' := by
 have HD := Lib.hid hD
 have hsz := hD.ok.s2
 obtain ⟨n, hn⟩ : ∃ n, n = p.size := ⟨_, rfl⟩
 have HL : Hid (∀ W, Dk W base gd bs bf v p → Calls Tryz.prog 38 #[.pointer (some ⟨gd, 0, none⟩)] W fun e w' => e = .returned (.int .i64 n) ∧ W = w') := Lib.hid fun W h => by rw [hn]; exact len_in h
 have HOK : Hid ((lg0 a b c).Ok p.size) := Lib.hid (lg0_ok hab hc)
 rw [← hn] at hab hsz
 obtain ⟨m, hm⟩ : ∃ m, m = n - a := ⟨_, rfl⟩
 have h5 : (n : Int) - (a : Int) = (m : Int) := by omega
 have h6 : (b : Int) ≤ (m : Int) := by omega
 have h3' : (a : Int) < (n : Int) := by omega
 have h2' : 1 ≤ (b : Int) := by omega
 have h1' : 0 ≤ (a : Int) := by omega
 have hcz : ((c : Int) == 0) = false := by simp; omega
 have hcy : ¬ (c : Int) = 0 := by omega
 clear hn hD hab hm hc hc0
 go_enter Tryz.func204, Tryz.ntmps204
 go_wp2_with (go_at_call 38; refine (HL.out _ HD.out).mono ?_; rintro e w' ⟨rfl, rfl⟩)
 go_ret2
 refine ⟨rfl, ⟨?_, HOK.out⟩, New.al (New.refl w) _⟩
 exact Blk.new _ _ _
end Go.Proofs.YtpifnmlnhddgeaaGreatDoor
namespace Go.Proofs.YtpifnmlnhddgeaaGreatDoor
set_option linter.unusedVariables false
set_option linter.unusedSimpArgs false
set_option linter.constructorNameAsVariable false
open Go.RowKit Go.Sort
theorem elBs : ElemOf Tryz.prog 241 122 1 24 := ElemOf.mk' (z := .slice none 0 0) Tryz.underlying241 (by kernel_rfl) rfl (by decide)
structure Recs (B : Nat) (w : World) (v : Value) (L : List (List Int)) : Prop where
 row : ∃ vs : List Value, w.ownsRow B 122 1 v L.length vs ∧ ∀ (i : Nat) l, L[i]? = some l → ∃ A c, vs[i]? = some (.slice A l.length c) ∧ l.length ≤ c ∧ c ≤ maxLen ∧ Byt l ∧ Rd (RB B w) w 1 A l.length (u8s l)
theorem Rd.frT {S : Nat → Prop} {B : Nat} {w w' : World} {A : Option Addr} {n : Nat} {xs : List Value} (h : Rd (RB B w) w 1 A n xs) (hF : Fr S w w') (hS : ∀ k, S k → B ≤ k → ¬ IsT 5 w k) : Rd (RB B w') w' 1 A n xs :=
 (h.fr hF (fun k hk hs => hS k hs hk.1 hk.2)).imp (fun k hk => ⟨hk.1, hk.2.fr hF (fun hs => hS k hs hk.1 hk.2)⟩)
theorem Recs.fr {S : Nat → Prop} {B : Nat} {w w' : World} {v : Value} {L : List (List Int)} (h : Recs B w v L) (hF : Fr S w w') (hS : ∀ k, S k → B ≤ k → ¬ IsT 5 w k ∧ ¬ IsT 122 w k) : Recs B w' v L := by
 obtain ⟨vs, ho, he⟩ := h.row
 refine ⟨vs, own_fr ho hF (fun k hk hs => (hS k hs (own_lt ho k hk).1).2 (own_isT' ho hk)), fun i l hl => ?_⟩
 obtain ⟨A, c, h1, h2, h3, h4, h5⟩ := he i l hl
 exact ⟨A, c, h1, h2, h3, h4, h5.frT hF (fun k hk hb => (hS k hk hb).1)⟩
theorem Recs.new {B : Nat} {w w' : World} {v : Value} {L : List (List Int)} (h : Recs B w v L) (hN : New w w') : Recs B w' v L := h.fr (S := NoB) (hN.toFr _) (fun _ x => x.elim)
theorem Recs.nil (B : Nat) (w : World) : Recs B w (.slice none 0 0) [] := ⟨[], ⟨rfl, .inl ⟨rfl, rfl⟩⟩, fun i l hl => by simp at hl⟩
theorem Recs.push {B : Nat} {w w' : World} {A A' A2 : Option Addr} {m c c' c2 : Nat} {L : List (List Int)} {l : List Int} {vs : List Value} (hvs : w.ownsRow B 122 1 (.slice A m c) m vs ∧ ∀ (i : Nat) l, L[i]? = some l → ∃ A c, vs[i]? = some (.slice A l.length c) ∧ l.length ≤ c ∧ c ≤ maxLen ∧ Byt l ∧ Rd (RB B w) w 1 A l.length (u8s l)) (hm : m = L.length)
    (ho : w'.ownsRow B 122 1 (.slice A' (m + 1) c') (m + 1) (vs ++ [.slice A2 l.length c2])) (hF : Fr (fun k => (Value.slice A m c).ownBlock = some k) w w') (hc : l.length ≤ c2 ∧ c2 ≤ maxLen) (hb : Byt l) (hR : Rd (RB B w) w 1 A2 l.length (u8s l)) : Recs B w' (.slice A' (m + 1) c') (L ++ [l]) := by
 have hT : ∀ k, (Value.slice A m c).ownBlock = some k → B ≤ k → ¬ IsT 5 w k := fun k hk _ => IsT.not_own hvs.1 (by decide) hk
 refine ⟨vs ++ [.slice A2 l.length c2], by rw [List.length_append, List.length_singleton, ← hm]; exact ho, fun i l' hl => ?_⟩
 have hvl : vs.length = m := by have := hvs.1.1; omega
 rcases Nat.lt_or_ge i L.length with hi | hi
 · rw [List.getElem?_append_left hi] at hl
   obtain ⟨A3, c3, h1, h2, h3, h4, h5⟩ := hvs.2 i l' hl
   exact ⟨A3, c3, by rw [List.getElem?_append_left (by omega)]; exact h1, h2, h3, h4, h5.frT hF hT⟩
 · rw [List.getElem?_append_right hi] at hl
   have hi0 : i - L.length = 0 := by
    have := (List.getElem?_eq_some_iff.1 hl).1
    simp at this
    omega
   rw [hi0] at hl
   obtain rfl : l = l' := by simpa using hl
   exact ⟨A2, c2, by rw [List.getElem?_append_right (by omega), show i - vs.length = 0 by omega]; rfl, hc.1, hc.2, hb, hR.frT hF hT⟩
theorem nextL_eq {p : DP} {l : LG} {b : List Int} (h : nextL p l = some b) : l.Next p ∧ b = l.body p := by
 unfold nextL at h
 split at h
 · next hx => injection h with h; exact ⟨hx, h.symm⟩
 · cases h
theorem step_used {p : DP} (hp : p.Ok) {l : LG} {b : List Int} (h : nextL p l = some b) : l.used + 1 ≤ (l.step b).used := by
 obtain ⟨hx, rfl⟩ := nextL_eq h
 have := hx.pos
 show l.used + 1 ≤ l.used + secN (l.body p).length
 rw [LG.body_len hp hx.pos]
 omega
def FreshSays (w : World) (gd base bs bf : Nat) (v : Value) (l : LG) (r : DP × Int) (n : Nat) (e : Ending) (w' : World) : Prop :=
 if r.2 = 0 then ∃ gl v', e = .returned (.tuple #[.pointer (some ⟨gl, 0, none⟩), .nilIface]) ∧ w.heap.size ≤ gl ∧ Lg w' gl gd l n ∧ DkTo w base gd bs bf v r.1 w' v'
 else ∃ v', e = .returned (.tuple #[.pointer none, errD r.2]) ∧ DkTo w base gd bs bf v r.1 w' v'
theorem wipeL_size (p : DP) (l : LG) : (wipeL p l).1.size = p.size := by
 unfold wipeL
 dsimp only
 split
 · exact wipeN_size _ _ _
 · split
   · exact (DP.doSync_size _).trans (wipeN_size _ _ _)
   · exact wipeN_size _ _ _
set_option maxRecDepth 100000 in
set_option maxHeartbeats 2000000 in
theorem fresh_good {w : World} {gd base bs bf : Nat} {v : Value} {p : DP} (hD : Dk w base gd bs bf v p) (a b c : Nat) (hb : 1 ≤ b) (hab : a + b ≤ p.size) (hc : c < 4294967296) (hc0 : c ≠ 0) :
    Calls Tryz.prog 117 #[.pointer (some ⟨gd, 0, none⟩), .int .i64 a, .int .i64 b, .int .u32 c] w (FreshSays w gd base bs bf v (lg0 a b c) (wipeL p (lg0 a b c)) p.size) := by
 have HA := Lib.hid (at_good hD a b c hb hab hc hc0)
 have HD := Lib.hid hD
 obtain ⟨r, hr⟩ : ∃ r, r = wipeL p (lg0 a b c) := ⟨_, rfl⟩
 rw [← hr]
 have HR := Lib.hid hr
 clear hD hb hab hc hc0 hr
 go_enter Tryz.func117, Tryz.ntmps117
 go_wp2_with fail
 refine HA.out.mono ?_
 rintro e w1 ⟨rfl, hLg, hN1⟩
 obtain ⟨gl, hgl⟩ : ∃ gl, gl = w.heap.size := ⟨_, rfl⟩
 rw [← hgl] at hLg ⊢
 have HGL : Hid (w.heap.size ≤ gl) := Lib.hid (by omega)
 have HLG := Lib.hid hLg
 have HN1 := Lib.hid hN1
 clear hgl hLg hN1
 go_wp2_with fail
 refine (wipe_any HLG.out (HD.out.new HN1.out)).mono ?_
 rintro e w2 ⟨he, v2, hD2⟩
 rw [← HR.out] at he hD2
 subst he
 have HD2 : Hid (DkTo w base gd bs bf v r.1 w2 v2) := Lib.hid ((DkTo.same HD.out HN1.out).tr hD2)
 have HLG2 : Hid (Lg w2 gl gd (lg0 a b c) p.size) := Lib.hid (HLG.out.fr hD2.fr (lg_apart (HD.out.new HN1.out) HLG.out))
 clear hD2
 by_cases h0 : r.2 = 0
 · have H0 := Lib.hid h0
   rw [h0, errD_0]
   clear h0
   go_wp2_with fail
   go_ret2
   unfold FreshSays
   rw [if_pos H0.out]
   exact ⟨gl, v2, rfl, HGL.out, HLG2.out, HD2.out⟩
 · have H0 := Lib.hid h0
   obtain ⟨ev, hev⟩ : ∃ ev, ev = r.2 := ⟨_, rfl⟩
   have HEV := Lib.hid hev
   rw [errD_n h0, ← hev]
   clear h0 hev
   go_wp2_with fail
   go_ret2
   unfold FreshSays
   rw [if_neg H0.out, errD_n H0.out, ← HEV.out]
   exact ⟨v2, rfl, HD2.out⟩
theorem runs_used {p : DP} (hp : p.Ok) {l : LG} {k : Nat} (h : (runs p l k).2.length = k ∧ k ≤ (runs p l k).1.used) {b : List Int} (hn : nextL p (runs p l k).1 = some b) : (runs p l (k + 1)).2.length = k + 1 ∧ k + 1 ≤ (runs p l (k + 1)).1.used := by
 rw [runs_some hn]
 have := step_used hp hn
 exact ⟨by simp [h.1], by dsimp only; omega⟩
theorem runL_at {p : DP} {l : LG} {k : Nat} (hk : k ≤ l.size + 1) (h : nextL p (runs p l k).1 = none) : runL p l = runs p l k := by
 obtain ⟨j, hj⟩ : ∃ j, l.size + 1 = k + j := ⟨l.size + 1 - k, by omega⟩
 unfold runL
 rw [hj, runs_none h j]
structure OpI (w : World) (gl gd : Nat) (p : DP) (l : LG) (k : Nat) (out b : Value) (ok : Bool) (wr : World) : Prop where
 new : New w wr
 recs : Recs w.heap.size wr out (runs p l k).2
 len : (runs p l k).2.length = k ∧ k ≤ (runs p l k).1.used
 yes : ok = true → ∃ bd A c, nextL p (runs p l k).1 = some bd ∧ b = .slice A bd.length c ∧ bd.length ≤ c ∧ c ≤ maxLen ∧ Byt bd ∧ Rd (RB w.heap.size wr) wr 1 A bd.length (u8s bd) ∧ Lg wr gl gd (runs p l (k + 1)).1 p.size
 no : ok = false → nextL p (runs p l k).1 = none ∧ Lg wr gl gd (runs p l k).1 p.size
theorem opI_of {w wr w' : World} {gl gd : Nat} {p : DP} {l : LG} {k : Nat} {out : Value} {e : Ending} (hgl : w.heap.size ≤ gl) (hN : New w wr) (hLg : Lg wr gl gd (runs p l k).1 p.size) (hR : Recs w.heap.size wr out (runs p l k).2) (hl : (runs p l k).2.length = k ∧ k ≤ (runs p l k).1.used)
    (h : NextSays (runs p l k).1 (nextL p (runs p l k).1) wr gl gd p.size e w') : ∃ A n c ok, e = .returned (.tuple #[.slice A n c, .bool ok]) ∧ OpI w gl gd p l k out (.slice A n c) ok w' := by
 cases hn : nextL p (runs p l k).1 with
 | none =>
  rw [hn] at h
  obtain ⟨he, hN'⟩ := h
  exact ⟨none, 0, 0, false, he, hN.tr hN', hR.new hN', hl, fun h => by (cases h), fun _ => ⟨hn, hLg.new hN'⟩⟩
 | some bd =>
  rw [hn] at h
  obtain ⟨A, c, he, h1, h2, h3, h4, h5, h6⟩ := h
  refine ⟨A, bd.length, c, true, he, hN.fr h6 (fun j hj => by (have hj' : j = gl := hj; omega)), hR.fr h6 (fun j hj _ => ?_), hl, fun _ => ⟨bd, A, c, hn, rfl, h1, h2, h3, h4.imp (fun j hj => ⟨Nat.le_trans hN.size hj.1, hj.2⟩), by rw [runs_some hn]; exact h5⟩, fun h => by (cases h)⟩
  have hj' : j = gl := hj
  rw [hj']
  exact ⟨IsT.not_blk hLg.blk (by decide), IsT.not_blk hLg.blk (by decide)⟩
def OpenSays (w : World) (gd base bs bf : Nat) (v : Value) (r : LG × List (List Int)) (x : DP × Int) (n : Nat) (e : Ending) (w' : World) : Prop :=
 if x.2 = 0 then ∃ gl A c v', e = .returned (.tuple #[.pointer (some ⟨gl, 0, none⟩), .slice A r.2.length c, .nilIface]) ∧ w.heap.size ≤ gl ∧ Lg w' gl gd r.1 n ∧ Recs w.heap.size w' (.slice A r.2.length c) r.2 ∧ DkTo w base gd bs bf v x.1 w' v'
 else ∃ v', e = .returned (.tuple #[.pointer none, .slice none 0 0, errD x.2]) ∧ DkTo w base gd bs bf v x.1 w' v'
set_option maxRecDepth 100000 in
set_option maxHeartbeats 4000000 in
theorem open_good {w : World} {gd base bs bf : Nat} {v : Value} {p : DP} (hD : Dk w base gd bs bf v p) (hL : ShaIn 1 0 w) (a b c : Nat) (hb : 1 ≤ b) (hab : a + b ≤ p.size) (hc : c < 4294967296) (hc0 : c ≠ 0) :
    Calls Tryz.prog 120 #[.pointer (some ⟨gd, 0, none⟩), .int .i64 a, .int .i64 b, .int .u32 c] w (OpenSays w gd base bs bf v (runL p (lg0 a b c)) (wipeL p (runL p (lg0 a b c)).1) p.size) := by
 have HA := Lib.hid (at_good hD a b c hb hab hc hc0)
 have HD := Lib.hid hD
 have HL := Lib.hid hL
 have HOK : Hid (p.Ok ∧ (lg0 a b c).Ok p.size) := Lib.hid ⟨hD.ok, lg0_ok hab hc⟩
 have hsz16 : b ≤ 16384 := by have := hD.ok.s2; omega
 obtain ⟨l, hl⟩ : ∃ l, l = lg0 a b c := ⟨_, rfl⟩
 have HLZ : Hid (l.size = b) := Lib.hid (by rw [hl]; rfl)
 rw [← hl] at HA HOK ⊢
 obtain ⟨r, hr⟩ : ∃ r, r = runL p l := ⟨_, rfl⟩
 obtain ⟨x, hx⟩ : ∃ x, x = wipeL p r.1 := ⟨_, rfl⟩
 rw [← hr, ← hx]
 have HR := Lib.hid hr
 have HX := Lib.hid hx
 clear hD hb hab hc hc0 hr hx hl hL
 go_enter Tryz.func120, Tryz.ntmps120
 go_wp2_with fail
 refine HA.out.mono ?_
 rintro e w1 ⟨rfl, hLg, hN1⟩
 obtain ⟨gl, hgl⟩ : ∃ gl, gl = w.heap.size := ⟨_, rfl⟩
 rw [← hgl] at hLg ⊢
 have HGL : Hid (w.heap.size ≤ gl) := Lib.hid (by omega)
 have HLG := Lib.hid hLg
 have HN1 := Lib.hid hN1
 clear hgl hLg hN1
 go_wp2_with fail
 refine (next_any (l := (runs p l 0).1) HLG.out (HD.out.new HN1.out) (HL.out.new HN1.out)).mono ?_
 intro e w2 h2
 obtain ⟨A2, n2, c2, ok2, rfl, hI⟩ := opI_of (out := .slice none 0 0) (k := 0) (l := l) HGL.out HN1.out HLG.out (Recs.nil _ _) ⟨rfl, Nat.zero_le _⟩ h2
 have HI := Lib.hid hI
 clear hI h2
 go_wp2_with fail
 go_loopw [13, 14, 15] (fun out b ok wr => ∃ (k : Nat) (A : Option Addr) (d : Nat) (B : Option Addr) (n e : Nat) (o : Bool), k ≤ 16384 ∧ out = .slice A k d ∧ b = .slice B n e ∧ ok = .bool o ∧ Hid (OpI w gl gd p l k (.slice A k d) (.slice B n e) o wr)) (fun out _ _ _ => 16400 - (match out with | .slice _ n _ => n | _ => 0))
 case atStart => exact ⟨0, none, 0, A2, n2, c2, ok2, Nat.zero_le _, rfl, rfl, rfl, HI⟩
 case round =>
  clear HI
  obtain ⟨k, A, d, B, n, e, o, hk, rfl, rfl, rfl, HI⟩ := hrel
  cases o with
  | true =>
   obtain ⟨bd, B', e', hn, hbv, h1, h2, h3, h4, h5⟩ := HI.out.yes rfl
   injection hbv with hb1 hb2 hb3
   subst hb1 hb3
   obtain ⟨vs, hvs1, hvs2⟩ := HI.out.recs.row
   have hkl : (runs p l k).2.length = k := HI.out.len.1
   rw [hkl] at hvs1
   have HVS := Lib.hid (And.intro hvs1 hvs2)
   have HKL := Lib.hid hkl
   have HNX := Lib.hid hn
   have HLEN := Lib.hid (runs_used HOK.out.1 HI.out.len hn)
   have hks : k + 1 ≤ 16384 := by
    have h6 := (runs_ok HOK.out.1 HOK.out.2 (k + 1)).1.used
    have h7 := (runs_ok HOK.out.1 HOK.out.2 (k + 1)).2.1
    have := HLEN.out.2
    have := HLZ.out
    omega
   have H12 := Lib.hid (And.intro h1 h2)
   have H3 := Lib.hid h3
   have H4 := Lib.hid h4
   have H5 := Lib.hid h5
   have HNB := Lib.hid hb2
   clear hvs1 hvs2 hkl hn h1 h2 h3 h4 h5 hb2
   go_wp2_with ((with_reducible refine atOp ⟨some 42, _, _, _, _, _⟩ ?_); refine wpList_app elBs _ rfl (.tmp 39) (.tmp 41) rfl w.heap.size (.slice A k d) k vs rfl (New.own (New.al (New.refl wr) _) HVS.out.1) (some ⟨wr.heap.size, 0, none⟩) 1 1 [.slice B n e] rfl (Rd.ofBlk (p := fun _ => True) (Blk.new wr 122 #[.slice B n e]) 1 1 rfl trivial) (by simp [Value.oneCell']) (by unfold maxLen; omega) (by omega) (New.al HI.out.new _).size ?_; intro A5 d5 w5 hO5 hF5 hA5; have HF5 := Lib.hid hF5; have HO5 := Lib.hid hO5; clear hO5 hF5 hA5)
   have HN5 : Hid (New w w5) := Lib.hid ((New.al HI.out.new _).fr HF5.out (fun j hj => (own_lt HVS.out.1 j hj).1))
   have HLG5 : Hid (Lg w5 gl gd (runs p l (k + 1)).1 p.size) := Lib.hid ((H5.out.new (New.al (New.refl wr) _)).fr HF5.out (fun hs => own_ne HVS.out.1 H5.out.blk (by decide) hs))
   have HRC5 : Hid (Recs w.heap.size w5 (.slice A5 (k + 1) d5) (runs p l (k + 1)).2) := Lib.hid (by
    rw [runs_some HNX.out]
    have hN : New wr (wr.alloc (.cells #[.slice B n e] 122)) := New.al (New.refl wr) _
    exact Recs.push (w := wr.alloc (.cells #[.slice B n e] 122)) ⟨New.own hN HVS.out.1, fun i l hl => by
     obtain ⟨A3, c3, g1, g2, g3, g4, g5⟩ := HVS.out.2 i l hl
     exact ⟨A3, c3, g1, g2, g3, g4, g5.frT (S := NoB) (hN.toFr _) (fun _ x => x.elim)⟩⟩ HKL.out.symm (by rw [← HNB.out]; exact HO5.out) HF5.out H12.out H3.out (H4.out.frT (S := NoB) (hN.toFr _) (fun _ x => x.elim)))
   refine (next_any (l := (runs p l (k + 1)).1) HLG5.out (HD.out.new HN5.out) (HL.out.new HN5.out)).mono ?_
   intro ee w6 h6
   obtain ⟨A6, n6, c6, ok6, rfl, hI6⟩ := opI_of (out := .slice A5 (k + 1) d5) HGL.out HN5.out HLG5.out HRC5.out HLEN.out h6
   have HI6 := Lib.hid hI6
   clear hI6 h6
   go_wp2_with fail
   go_roundw
   case rel => exact ⟨k + 1, A5, d5, A6, n6, c6, ok6, hks, rfl, rfl, rfl, HI6⟩
   case measure => simp; omega
  | false =>
   have hnn := HI.out.no rfl
   have hkl : (runs p l k).2.length = k := HI.out.len.1
   have hks : k ≤ l.size := by
    have h6 := (runs_ok HOK.out.1 HOK.out.2 k).1.used
    have h7 := (runs_ok HOK.out.1 HOK.out.2 k).2.1
    have := HI.out.len.2
    omega
   have HRK : Hid (r = runs p l k) := Lib.hid (by rw [HR.out]; exact runL_at (by omega) hnn.1)
   have HKL : Hid (r.2.length = k) := Lib.hid (by rw [HRK.out]; exact hkl)
   have HLGr : Hid (Lg wr gl gd r.1 p.size) := Lib.hid (by rw [HRK.out]; exact hnn.2)
   clear hnn hkl hks
   go_wp2_with fail
   refine (wipe_any HLGr.out (HD.out.new HI.out.new)).mono ?_
   rintro ee w2 ⟨he, v2, hD2⟩
   rw [← HX.out] at he hD2
   subst he
   have HD2 : Hid (DkTo w base gd bs bf v x.1 w2 v2) := Lib.hid ((DkTo.same HD.out HI.out.new).tr hD2)
   have HLG2 : Hid (Lg w2 gl gd r.1 p.size) := Lib.hid (HLGr.out.fr hD2.fr (lg_apart (HD.out.new HI.out.new) HLGr.out))
   have HRC2 : Hid (Recs w.heap.size w2 (.slice A k d) r.2) := Lib.hid (by
    rw [HRK.out]
    exact HI.out.recs.fr hD2.fr (fun j hj _ => ⟨dk_notT (HD.out.new HI.out.new) (by decide) (by decide) j hj, dk_notT (HD.out.new HI.out.new) (by decide) (by decide) j hj⟩))
   clear hD2
   by_cases h0 : x.2 = 0
   · have H0 := Lib.hid h0
     rw [h0, errD_0]
     clear h0
     go_wp2_with fail
     refine bodyPost_ret (v := .tuple #[.pointer (some ⟨gl, 0, none⟩), .slice A k d, .nilIface]) (by simp [results, Tryz.results120, go_sem]) rfl ?_
     unfold OpenSays
     rw [if_pos H0.out, HKL.out]
     exact ⟨gl, A, d, v2, rfl, HGL.out, HLG2.out, HRC2.out, HD2.out⟩
   · have H0 := Lib.hid h0
     obtain ⟨ev, hev⟩ : ∃ ev, ev = x.2 := ⟨_, rfl⟩
     have HEV := Lib.hid hev
     rw [errD_n h0, ← hev]
     clear h0 hev
     go_wp2_with fail
     refine bodyPost_ret (v := .tuple #[.pointer none, .slice none 0 0, .iface 99 (.int .i64 ev)]) (by simp [results, Tryz.results120, go_sem]) rfl ?_
     unfold OpenSays
     rw [if_neg H0.out, errD_n H0.out, ← HEV.out]
     exact ⟨v2, rfl, HD2.out⟩
end Go.Proofs.YtpifnmlnhddgeaaGreatDoor
namespace Go.Proofs.YtpifnmlnhddgeaaGreatDoor
set_option linter.unusedVariables false
set_option linter.unusedSimpArgs false
set_option linter.constructorNameAsVariable false
open Go.RowKit Go.Sort
theorem splice_pad {x : List Int} (h : x.length ≤ 64) : splice (u8s sec0) 0 (u8s x) = u8s (pad64 x) := by
 have e : u8s sec0 = List.replicate 64 (Value.int .u8 0) := by unfold u8s sec0; rw [List.map_replicate]
 have e2 : u8s (pad64 x) = u8s x ++ List.replicate (64 - x.length) (Value.int .u8 0) := by unfold u8s pad64; rw [List.map_append, List.map_replicate]
 unfold splice
 rw [e, e2, List.take_zero, List.nil_append, Nat.zero_add, u8s_len, List.drop_replicate]
theorem results_row2' {fn : Func} {p q : Tmp} {ty : TypeId} {P : Program} (h : fn.results = #[.cell p ty, .tmp q]) (tmps : Array Value) (w : World) (g : Nat) (cs : Array Value) (d : TypeDesc)
    (hp : tmps.getD p undef = .pointer (some ⟨g, 0, none⟩)) (hg : Blk w g ty cs) (hu : P.underlying ty = some d) (hd : d.isRow = true) (hi : (P.info? ty).map (·.size) = some cs.size) :
    (results fn tmps).run P w = .ok (.tuple #[.agg cs, tmps.getD q undef]) w := by
 have hp' : tmps[p]?.getD undef = .pointer (some ⟨g, 0, none⟩) := by simpa using hp
 simp [results, h, hp', asAddr, run_loadVar_row w g ty ty cs (0, 0) _ hg hu (by cases d <;> first | rfl | (simp [TypeDesc.isRow] at hd)) hi]
set_option maxHeartbeats 2000000 in
set_option maxRecDepth 100000 in
theorem sector_any {q : Nat → Prop} {w : World} {gl gd n : Nat} {l : LG} (h : Lg w gl gd l n) (place kind : Nat) (hp : place < 4294967296) (hk : kind < 256) (A : Option Addr) (m c : Nat) (b : List Int) (hR : Rd q w 1 A m (u8s b)) (hb : Byt b) (hm : m ≤ 55) :
    Calls Tryz.prog 318 #[.pointer (some ⟨gl, 0, none⟩), .int .i64 place, .int .i64 kind, .slice A m c] w fun e w' => e = .returned (.tuple #[.agg (secA (pad64 (beL 4 l.gen ++ beL 4 place ++ beL 1 kind ++ b))), .nilIface]) ∧ New w w' := by
 have HLG := Lib.hid h
 have HR := Lib.hid hR
 have HB := Lib.hid hb
 have HX : Hid (b.length = m) := Lib.hid (by have := hR.1; rw [u8s_len] at this; omega)
 have c3 := h.c3
 have hgen := h.ok.gen
 obtain ⟨gen, hgn⟩ : ∃ gen, gen = l.gen := ⟨_, rfl⟩
 rw [← hgn] at c3 hgen ⊢
 have HNUM4 : Hid (gen < 256 ^ 4 ∧ place < 256 ^ 4 ∧ kind < 256 ^ 1) := Lib.hid ⟨by omega, by omega, by omega⟩
 have k2 : IntKind.u64.wrap (place : Int) = (place : Int) := by rw [IntKind.wrap_u64]; omega
 have k3 : IntKind.u64.wrap (kind : Int) = (kind : Int) := by rw [IntKind.wrap_u64]; omega
 have k1 : IntKind.u64.wrap (gen : Int) = (gen : Int) := by rw [IntKind.wrap_u64]; omega
 obtain ⟨rs, hrs⟩ : ∃ rs, rs = beL 4 gen ++ beL 4 place ++ beL 1 kind ++ b := ⟨_, rfl⟩
 have HRS := Lib.hid hrs
 have hrl : rs.length = m + 9 := by rw [hrs]; simp only [List.length_append, beL_len, HX.out]; omega
 have HRL := Lib.hid hrl
 rw [← hrs]
 clear h hR hb hgn hp hk hrs hrl hgen
 go_enter Tryz.func318, Tryz.ntmps318
 go_upto_region 3 with fail
 have hz : (#[.int .u8 0, .int .u8 0, .int .u8 0, .int .u8 0, .int .u8 0, .int .u8 0, .int .u8 0, .int .u8 0, .int .u8 0, .int .u8 0, .int .u8 0, .int .u8 0, .int .u8 0, .int .u8 0, .int .u8 0, .int .u8 0, .int .u8 0, .int .u8 0, .int .u8 0, .int .u8 0, .int .u8 0, .int .u8 0, .int .u8 0, .int .u8 0, .int .u8 0, .int .u8 0, .int .u8 0, .int .u8 0, .int .u8 0, .int .u8 0, .int .u8 0, .int .u8 0, .int .u8 0, .int .u8 0, .int .u8 0, .int .u8 0, .int .u8 0, .int .u8 0, .int .u8 0, .int .u8 0, .int .u8 0, .int .u8 0, .int .u8 0, .int .u8 0, .int .u8 0, .int .u8 0, .int .u8 0, .int .u8 0, .int .u8 0, .int .u8 0, .int .u8 0, .int .u8 0, .int .u8 0, .int .u8 0, .int .u8 0, .int .u8 0, .int .u8 0, .int .u8 0, .int .u8 0, .int .u8 0, .int .u8 0, .int .u8 0, .int .u8 0, .int .u8 0] : Array Value) = secA sec0 := rfl
 rw [hz]
 obtain ⟨w1, hw1⟩ : ∃ w1 : World, w1 = ((w.alloc (.cells (secA sec0) 155)).alloc (.cells (secA sec0) 155)).alloc (.cells #[.nilIface, .slice none 0 0] 255) := ⟨_, rfl⟩
 obtain ⟨b8, hb8⟩ : ∃ b8, b8 = w.heap.size := ⟨_, rfl⟩
 obtain ⟨b10, hb10⟩ : ∃ b10, b10 = w.heap.size + 1 := ⟨_, rfl⟩
 obtain ⟨g, hg⟩ : ∃ g, g = w.heap.size + 1 + 1 := ⟨_, rfl⟩
 have HN1 : Hid (New w w1) := Lib.hid (by rw [hw1]; exact New.al (New.al (New.al (New.refl _) _) _) _)
 have HB8 : Hid (Blk w1 b8 155 (secA sec0)) := Lib.hid (by rw [hw1, hb8, ← hz]; exact ((Blk.new _ _ _).alloc _).alloc _)
 have HB10 : Hid (Blk w1 b10 155 (secA sec0)) := Lib.hid (by rw [hw1, hb10, ← hz]; exact (Blk.new' _ _ _ (by simp)).alloc _)
 have HW1 : Hid (WrIn w1 g g []) := Lib.hid ⟨⟨none, 0, by rw [hw1, hg]; exact Blk.new' _ _ _ (by simp), World.ownsRow_nil _ _ _ _⟩, Nat.le_refl _, fun x hx => nomatch hx⟩
 have HZ : Hid (b8 = w.heap.size ∧ b10 = w.heap.size + 1 ∧ g = w.heap.size + 2) := Lib.hid ⟨hb8, hb10, hg⟩
 rw [← hw1, ← hg, ← hb10, ← hb8]
 clear hw1 hb8 hb10 hg hz
 have c3w : w1.cell? ⟨gl, 3, none⟩ = some (.int .u32 gen) := HN1.out.cell_ c3
 have n0 : ((4 : Nat) : Int) = 4 := rfl
 go_wp2_with fail
 refine (wnum_any HW1.out gen 4 (by omega) HNUM4.out.1 (by simp)).mono ?_
 rintro e w2 ⟨rfl, hW2, hF2⟩
 have HW2 := Lib.hid hW2
 have HF2 : Hid (FW g g w1 w2) := Lib.hid hF2
 clear hW2 hF2
 go_wp2_with fail
 refine (wnum_any HW2.out place 4 (by omega) HNUM4.out.2.1 (by simp [beL_len])).mono ?_
 rintro e w3 ⟨rfl, hW3, hF3⟩
 have HW3 := Lib.hid hW3
 have HF3 : Hid (FW g g w1 w3) := Lib.hid (HF2.out.tr hF3)
 clear hW3 hF3
 go_wp2_with fail
 refine (wnum_any HW3.out kind 1 (by omega) HNUM4.out.2.2 (by simp [beL_len])).mono ?_
 rintro e w4 ⟨rfl, hW4, hF4⟩
 have HW4 := Lib.hid hW4
 have HF4 : Hid (FW g g w1 w4) := Lib.hid (HF3.out.tr hF4)
 clear hW4 hF4
 have HN4 : Hid (New w w4) := Lib.hid (HN1.out.fr HF4.out (fun k hk => by
  have := HZ.out
  rcases hk with rfl | hk
  · omega
  · have := hk.1; omega))
 go_wp2_with fail
 refine (wraw_any HW4.out A m c b (HN4.out.rd HR.out) HB.out (by simp [beL_len]; omega)).mono ?_
 rintro e w5 ⟨rfl, hW5, hF5⟩
 have HW5 : Hid (WrIn w5 g g rs) := Lib.hid (by
  have e : [] ++ beL 4 gen ++ beL 4 place ++ beL 1 kind ++ b = rs := by rw [HRS.out]; rfl
  rw [← e]
  exact hW5)
 have HF5 : Hid (FW g g w1 w5) := Lib.hid (HF4.out.tr hF5)
 clear hW5 hF5
 go_wp2_with fail
 refine (wdone_any HW5.out (by rw [HRL.out]; omega)).mono ?_
 rintro e w6 ⟨⟨B, d, rfl, hO⟩, hN6⟩
 rw [HRL.out] at hO ⊢
 have HO := Lib.hid hO
 have HN6 : Hid (New w5 w6) := Lib.hid hN6
 have HF6 : Hid (FW g g w1 w6) := Lib.hid (HF5.out.tr (FW.new hN6))
 have HNw6 : Hid (New w w6) := Lib.hid (HN1.out.fr HF6.out (fun k hk => by
  have := HZ.out
  rcases hk with rfl | hk
  · omega
  · have := hk.1; omega))
 clear hO hN6
 have HB86 : Hid (Blk w6 b8 155 (secA sec0)) := Lib.hid (HF6.out.blk HB8.out (by decide) (by have := HZ.out; omega))
 have HB106 : Hid (Blk w6 b10 155 (u8s sec0).toArray) := Lib.hid (HF6.out.blk HB10.out (by decide) (by have := HZ.out; omega))
 obtain ⟨m9, hm9⟩ : ∃ m9, m9 = m + 9 := ⟨_, rfl⟩
 have hm64 : m9 ≤ 64 := by omega
 have HM9 := Lib.hid hm9
 rw [← hm9] at HO ⊢
 have hp64 : (secA (pad64 rs)).size = 64 := by rw [secA_size, pad64_len (by rw [HRL.out]; omega)]
 have HP64 := Lib.hid hp64
 clear hm9 hp64
 have HSP : Hid (splice (u8s sec0) 0 (u8s rs) = u8s (pad64 rs)) := Lib.hid (splice_pad (by rw [HRL.out]; have := HM9.out; omega))
 go_wp2_with (first
  | ((with_reducible refine atOp ⟨some 41, _, _, _, _, _⟩ ?_); refine wpList_copyF (q := fun k => (Value.slice B m9 d).ownBlock = some k) rfl (.tmp 39) (.tmp 40) 122 122 rfl 5 Tryz.underlying122 rfl b10 0 64 64 B m9 d rfl rfl (u8s sec0) 155 HB106.out (u8s rs) (by rw [u8s_len, HRL.out, ← HM9.out]; exact (Nat.min_eq_left hm64).symm) ⟨m9, u8s rs, Rd.own HO.out rfl, List.take_length⟩ (by rw [u8s_len, u8s_len, HRL.out, ← HM9.out, sec0_ok.1]; omega) (u8s_one _) ?_; intro w7 hb7 hf7; rw [HSP.out] at hb7; have HB7 : Hid (Blk w7 b10 155 (secA (pad64 rs))) := Lib.hid hb7; have HF7 := Lib.hid hf7; have HB87 : Hid (Blk w7 b8 155 (secA sec0)) := Lib.hid (HB86.out.fr hf7 (by have := HZ.out; omega)); clear hb7 hf7)
  | ((with_reducible refine atOp ⟨some 42, .load _ _, _, _, _, _⟩ ?_); refine wpList_load_any rfl _ rfl Tryz.underlying155 rfl (by rw [HP64.out]; rfl) rfl HB7.out ?_)
  | ((with_reducible refine atOp ⟨none, .store 155 (.tmp 8) _, _, _, _, _⟩ ?_); refine wpList_store_any rfl (.tmp 8) (.tmp 42) rfl (by rw [HP64.out]; rfl) rfl rfl HB87.out (by rw [HP64.out]; rfl) (secA_one _) ?_; intro w8 hb8 hf8; have HB88 := Lib.hid hb8; have HF8 := Lib.hid hf8; clear hb8 hf8))
 exact bodyPost_ret (results_row2' rfl _ _ b8 _ _ rfl HB88.out Tryz.underlying155 rfl (by rw [HP64.out]; rfl)) rfl ⟨rfl, (HNw6.out.fr HF7.out (fun k hk => by have := HZ.out; omega)).fr HF8.out (fun k hk => by have := HZ.out; omega)⟩
end Go.Proofs.YtpifnmlnhddgeaaGreatDoor
namespace Go.Proofs.YtpifnmlnhddgeaaGreatDoor
set_option linter.unusedVariables false
set_option linter.unusedSimpArgs false
set_option linter.constructorNameAsVariable false
open Go.RowKit Go.Sort
def endL (n k i : Nat) : Nat := if i + 1 = k then 9 + (n + 19) % 55 + 1 else 64
theorem raw_end {l : LG} {b : List Int} {n k i : Nat} (hb : b.length = n) (hk : k = (n + 74) / 55) (hi : i < k) : (l.raw b i).length = endL n k i := by
 unfold LG.raw endL
 rw [List.length_append, LG.hdr_len, List.length_take, List.length_drop, LG.frame_len, hb]
 by_cases h : i + 1 = k
 · rw [if_pos h]; omega
 · rw [if_neg h]; omega
theorem sec_take {l : LG} {b : List Int} {n k i : Nat} (hb : b.length = n) (hk : k = (n + 74) / 55) (hi : i < k) : (l.sec b i).take (endL n k i) = l.raw b i := by
 have h := raw_end (l := l) hb hk hi
 unfold LG.sec pad64
 rw [List.take_append_of_le_length (by omega), ← h, List.take_length]
theorem frame_part {p : DP} (hp : p.Ok) (l : LG) : ∀ (k i : Nat), i < k → ((frameL p l k).drop (55 * i)).take 55 = (sct p l i).drop 9
 | 0, i, hi => absurd hi (by omega)
 | k + 1, i, hi => by
  rw [frameL_succ]
  have hl := frameL_len hp l k
  have hs : ((sct p l k).drop 9).length = 55 := by rw [List.length_drop, (sct_ok hp l k).1]
  by_cases h : i = k
  · subst h
    rw [List.drop_append_of_le_length (by omega), List.drop_of_length_le (by omega), List.nil_append, List.take_of_length_le (by omega)]
  · rw [List.drop_append_of_le_length (by omega), List.take_append_of_le_length (by rw [List.length_drop]; omega)]
    exact frame_part hp l k i (by omega)
theorem ext_parts : ∀ (k : Nat) (x y : List Int), x.length ≤ 55 * k → y.length ≤ 55 * k → (∀ i, i < k → (x.drop (55 * i)).take 55 = (y.drop (55 * i)).take 55) → x = y
 | 0, x, y, hx, hy, _ => by
  have h1 : x = [] := List.eq_nil_of_length_eq_zero (by omega)
  have h2 : y = [] := List.eq_nil_of_length_eq_zero (by omega)
  rw [h1, h2]
 | k + 1, x, y, hx, hy, h => by
  have h0 := h 0 (by omega)
  rw [Nat.mul_zero, List.drop_zero, List.drop_zero] at h0
  have h1 : x.drop 55 = y.drop 55 := ext_parts k _ _ (by rw [List.length_drop]; omega) (by rw [List.length_drop]; omega) fun i hi => by
   have h2 := h (i + 1) (by omega)
   rw [List.drop_drop, List.drop_drop]
   rwa [show 55 + 55 * i = 55 * (i + 1) by omega]
  rw [← List.take_append_drop 55 x, ← List.take_append_drop 55 y, h0, h1]
section
variable {p : DP} {l : LG} {n k : Nat}
theorem frame_head (hp : p.Ok) (hn : n = l.many p) (hk1 : 1 ≤ k) : (frameL p l k).take 4 = beL 4 n := by
 have h0 := frame_part hp l k 0 hk1
 rw [Nat.mul_zero, List.drop_zero] at h0
 have h4 : (frameL p l k).take 4 = ((sct p l 0).drop 9).take 4 := by
  rw [← h0, List.take_take]
  rfl
 have hb : Byt ((frameL p l k).take 4) := fun x hx => frameL_byt hp l k x (List.mem_of_mem_take hx)
 have hl : ((frameL p l k).take 4).length = 4 := by rw [List.length_take, frameL_len hp]; omega
 have hv : valL ((frameL p l k).take 4) = n := by rw [h4, hn]; rfl
 have := beL_valL _ hb
 rw [hl, hv] at this
 exact this.symm
theorem frame_split (hp : p.Ok) (hn : n = l.many p) (hk : k = secN n) (hk0 : k ≠ 0) : (frameL p l k).take (20 + n) = beL 4 n ++ ((frameL p l k).drop 4).take 16 ++ l.body p := by
 have h1 := frame_head (l := l) (k := k) hp hn (by omega)
 have h2 : l.body p = ((frameL p l k).drop 20).take n := by unfold LG.body; rw [← hn, ← hk]
 rw [h2, ← h1, show 20 + n = 4 + (16 + n) by omega, List.take_add, List.take_add, List.append_assoc, List.drop_drop]
theorem next_of_match (hp : p.Ok) (hn : n = l.many p) (hk : k = secN n) (hk0 : k ≠ 0) (hr : l.used < l.size) (hf : l.used + k ≤ l.size) (h : ∀ i, i < k → (sct p l i).take (endL n k i) = (l.sec (l.body p) i).take (endL n k i)) : l.Next p := by
 have hpos := secN_pos (n := n) (by rw [← hk]; exact hk0)
 have hkk : k = (n + 74) / 55 := by omega
 have hb : (l.body p).length = n := by rw [LG.body_len hp (by rw [← hn, ← hk]; exact hk0), hn]
 have hlen := frameL_len hp l k
 have hraw : ∀ i, i < k → (sct p l i).take (endL n k i) = l.raw (l.body p) i := fun i hi => by rw [h i hi, sec_take hb hkk hi]
 have hhdr : ∀ i, i < k → (sct p l i).take 9 = l.hdr i := fun i hi => by
  have h1 := congrArg (List.take 9) (hraw i hi)
  rw [List.take_take] at h1
  have h2 : min 9 (endL n k i) = 9 := by unfold endL; split <;> omega
  rw [h2] at h1
  rw [h1]
  unfold LG.raw
  rw [List.take_append_of_le_length (by rw [LG.hdr_len]; exact Nat.le_refl _), List.take_of_length_le (by rw [LG.hdr_len]; exact Nat.le_refl _)]
 have hfr : (frameL p l k).take (20 + n) = l.frame (l.body p) := by
  refine ext_parts k _ _ (by rw [List.length_take]; omega) (by rw [LG.frame_len, hb]; omega) fun i hi => ?_
  have h1 := congrArg (List.drop 9) (hraw i hi)
  have h2 : (l.raw (l.body p) i).drop 9 = ((l.frame (l.body p)).drop (55 * i)).take 55 := by
   unfold LG.raw
   rw [List.drop_append_of_le_length (by rw [LG.hdr_len]; exact Nat.le_refl _), List.drop_of_length_le (by rw [LG.hdr_len]; exact Nat.le_refl _), List.nil_append]
  rw [h2, List.drop_take] at h1
  rw [← h1, ← frame_part hp l k i hi, List.take_take, List.drop_take, List.take_take]
  congr 1
  unfold endL
  split <;> omega
 refine ⟨hr, by rw [← hn, ← hk]; exact hk0, by rw [← hn, ← hk]; exact hf, by rw [← hn, ← hk]; exact hhdr, ?_⟩
 rw [← hn, ← hk]
 rw [frame_split hp hn hk hk0, LG.frame, hb] at hfr
 have h1 := List.append_inj hfr (by rw [List.length_append, List.length_append, beL_len, tagL_len, List.length_take, List.length_drop, hlen]; omega)
 exact (List.append_inj h1.1 rfl).2
end
end Go.Proofs.YtpifnmlnhddgeaaGreatDoor
namespace Go.Proofs.YtpifnmlnhddgeaaGreatDoor
set_option linter.unusedVariables false
set_option linter.unusedSimpArgs false
set_option linter.constructorNameAsVariable false
open Go.RowKit Go.Sort
def chain (l : LG) (K : List (List Int)) : LG := K.foldl LG.step l
theorem chain_snoc (l : LG) (K : List (List Int)) (b : List Int) : chain l (K ++ [b]) = (chain l K).step b := by simp [chain]
theorem chain_same (l : LG) : ∀ K : List (List Int), (chain l K).first = l.first ∧ (chain l K).size = l.size ∧ (chain l K).gen = l.gen ∧ (chain l K).broken = l.broken
 | [] => ⟨rfl, rfl, rfl, rfl⟩
 | b :: K => chain_same (l.step b) K
theorem chain_take {l : LG} {K : List (List Int)} {j : Nat} (h : j < K.length) : chain l (K.take (j + 1)) = (chain l (K.take j)).step K[j] := by
 rw [List.take_succ_eq_append_getElem h, chain_snoc]
theorem chain_used {l : LG} {K : List (List Int)} {j : Nat} (h : j < K.length) : (chain l (K.take (j + 1))).used = (chain l (K.take j)).used + secN K[j].length := by
 rw [chain_take h]; rfl
theorem chain_mono {l : LG} {K : List (List Int)} {j : Nat} : ∀ d, j + d ≤ K.length → (chain l (K.take j)).used ≤ (chain l (K.take (j + d))).used
 | 0, _ => Nat.le_refl _
 | d + 1, h => by
  have h1 := chain_mono (l := l) (K := K) (j := j) d (by omega)
  have h2 := chain_used (l := l) (K := K) (j := j + d) (by omega)
  rw [← Nat.add_assoc, h2]
  omega
theorem chain_le {l : LG} {K : List (List Int)} {j k : Nat} (h : j ≤ k) (hk : k ≤ K.length) : (chain l (K.take j)).used ≤ (chain l (K.take k)).used := by
 have := chain_mono (l := l) (K := K) (j := j) (k - j) (by omega)
 rwa [show j + (k - j) = k by omega] at this
theorem chain_all (l : LG) (K : List (List Int)) : chain l (K.take K.length) = chain l K := by rw [List.take_length]
def RecOk (b : List Int) : Prop := secN b.length ≠ 0 ∧ Byt b
theorem chain_len {l : LG} {K : List (List Int)} (hK : ∀ x ∈ K, RecOk x) : ∀ j, j ≤ K.length → l.used + j ≤ (chain l (K.take j)).used
 | 0, _ => by simp [chain]
 | j + 1, h => by
  have h1 := chain_len (l := l) hK j (by omega)
  have h2 := chain_used (l := l) (K := K) (j := j) (by omega)
  have h3 := (hK _ (List.getElem_mem (show j < K.length by omega))).1
  omega
def NoGen (g : Nat) (s : List Int) : Prop := valL (s.take 4) ≠ g
theorem sec_head {l : LG} {b : List Int} (i : Nat) : (l.sec b i).take 9 = l.hdr i := by
 unfold LG.sec pad64 LG.raw
 rw [List.append_assoc, List.take_append_of_le_length (by rw [LG.hdr_len]; exact Nat.le_refl _), List.take_of_length_le (by rw [LG.hdr_len]; exact Nat.le_refl _)]
theorem hdr_gen {l : LG} (i : Nat) (h : l.gen < 4294967296) : valL ((l.hdr i).take 4) = l.gen := by
 unfold LG.hdr
 rw [List.append_assoc, List.take_append_of_le_length (by rw [beL_len]; exact Nat.le_refl _), List.take_of_length_le (by rw [beL_len]; exact Nat.le_refl _), valL_beL 4 _ (by omega)]
theorem noGen_hdr {l : LG} {s : List Int} {i : Nat} (hg : l.gen < 4294967296) (h : NoGen l.gen s) : s.take 9 ≠ l.hdr i := fun e => h (by
 have h1 := congrArg (List.take 4) e
 rw [List.take_take] at h1
 have h2 : min 4 9 = 4 := rfl
 rw [h2] at h1
 rw [h1, hdr_gen i hg])
theorem many_of_sec {p : DP} {l : LG} {b : List Int} (hb : b.length ≤ 65536) (h0 : sct p l 0 = l.sec b 0) : l.many p = b.length := by
 unfold LG.many
 rw [h0]
 unfold LG.sec pad64 LG.raw
 rw [List.append_assoc, List.drop_append_of_le_length (by rw [LG.hdr_len]; exact Nat.le_refl _), List.drop_of_length_le (by rw [LG.hdr_len]; exact Nat.le_refl _), List.nil_append, Nat.mul_zero, List.drop_zero]
 have hf := LG.frame_len l b
 rw [List.take_append_of_le_length (by rw [List.length_take]; omega), List.take_take]
 unfold LG.frame
 rw [List.append_assoc, List.take_append_of_le_length (by rw [beL_len]; decide), List.take_of_length_le (by rw [beL_len]; decide), valL_beL 4 _ (by omega)]
theorem next_of_secs {p : DP} (hp : p.Ok) {l : LG} {b : List Int} (hb : RecOk b) (hr : l.used + secN b.length ≤ l.size) (h : ∀ i, i < secN b.length → sct p l i = l.sec b i) : l.Next p ∧ l.body p = b := by
 obtain ⟨h1, h2, h3⟩ := secN_pos hb.1
 have hm : l.many p = b.length := many_of_sec h2 (h 0 (by omega))
 have hbody : l.body p = b := by
  have hlen := frameL_len hp l (secN b.length)
  have hfr : (frameL p l (secN b.length)).take (20 + b.length) = l.frame b := by
   refine ext_parts (secN b.length) _ _ (by rw [List.length_take]; omega) (by rw [LG.frame_len]; omega) fun i hi => ?_
   have hre := raw_end (l := l) (b := b) rfl h3 hi
   have hst := sec_take (l := l) (b := b) rfl h3 hi
   have e1 := congrArg (List.drop 9) hst
   have e2 : (l.raw b i).drop 9 = ((l.frame b).drop (55 * i)).take 55 := by
    unfold LG.raw
    rw [List.drop_append_of_le_length (by rw [LG.hdr_len]; exact Nat.le_refl _), List.drop_of_length_le (by rw [LG.hdr_len]; exact Nat.le_refl _), List.nil_append]
   rw [e2, List.drop_take, ← h i hi] at e1
   rw [← e1, ← frame_part hp l (secN b.length) i hi, List.take_take, List.drop_take, List.take_take]
   congr 1
   unfold endL
   split <;> omega
  have h4 : l.body p = ((frameL p l (secN b.length)).drop 20).take b.length := by unfold LG.body; rw [hm]
  have h5 : ((frameL p l (secN b.length)).take (20 + b.length)).drop 20 = ((frameL p l (secN b.length)).drop 20).take b.length := by
   rw [List.drop_take, show 20 + b.length - 20 = b.length by omega]
  rw [h4, ← h5, hfr]
  unfold LG.frame
  rw [List.drop_append_of_le_length (by rw [List.length_append, beL_len, tagL_len]; decide), List.drop_of_length_le (by rw [List.length_append, beL_len, tagL_len]; decide), List.nil_append]
 refine ⟨next_of_match (n := b.length) (k := secN b.length) hp hm.symm rfl hb.1 (by omega) hr fun i hi => ?_, hbody⟩
 rw [hbody, h i hi]
theorem no_next_0 {p : DP} {l : LG} (hg : l.gen < 4294967296) (h : NoGen l.gen (sct p l 0)) : ¬ l.Next p := fun hn => by
 have := hn.hdr 0 (by have := hn.pos; omega)
 exact noGen_hdr hg h this
theorem no_next_i {p : DP} {l : LG} {b : List Int} (hg : l.gen < 4294967296) (hb : b.length ≤ 65536) (h0 : sct p l 0 = l.sec b 0) {i : Nat} (hi : i < secN b.length) (h : NoGen l.gen (sct p l i)) : ¬ l.Next p := fun hn => by
 have hm := many_of_sec hb h0
 have := hn.hdr i (by rw [hm]; exact hi)
 exact noGen_hdr hg h this
end Go.Proofs.YtpifnmlnhddgeaaGreatDoor
