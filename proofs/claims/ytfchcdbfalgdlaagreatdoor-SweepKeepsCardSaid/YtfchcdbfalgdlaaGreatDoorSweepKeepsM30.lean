/- Texts of one proof, one behind the other: SwB, SwC, SwQ, SwR, SwS. No condition but each one's own. -/
import Derived.Test.YtfchcdbfalgdlaaGreatDoorSweepKeepsM27
import Derived.Test.YtfchcdbfalgdlaaGreatDoorSweepKeepsM29
import Derived.Test.YtfchcdbfalgdlaaGreatDoorSweepKeepsM15
import Derived.Test.YtfchcdbfalgdlaaGreatDoorSweepKeepsM25
namespace Go.Proofs.YtfchcdbfalgdlaaGreatDoor
set_option linter.unusedVariables false
set_option linter.unusedSimpArgs false
set_option linter.constructorNameAsVariable false
open Go.RowKit Go.Sort
section
variable {w : World} {base gd bs bf : Nat} {v : Value} {p : DP}
theorem place_any (hD : Dk w base gd bs bf v p) (h2 : 2 ≤ p.size) (g : Nat) (hg : g < 4294967296) :
    Calls Tryz.prog 46 #[.pointer (some ⟨gd, 0, none⟩), .int .u32 g] w fun e w' => e = .returned (.tuple #[.int .i64 (fst0 g p.size), .int .i64 (hlf p.size)]) ∧ w = w' := by
 have HS := Lib.hid (len_in hD)
 have h3 := hD.ok.s2
 obtain ⟨n, hn⟩ := nm p.size
 obtain ⟨h, hh⟩ := nm (hlf n)
 obtain ⟨f, hf⟩ := nm (fst0 g n)
 rw [← hn] at HS h2 h3 ⊢
 rw [← hh, ← hf]
 have hh1 : h = (n - 2) / 2 := hh
 have hf1 : f = 2 + g % 2 * h := by rw [hf, hh]; rfl
 have e1 : IntKind.i64.wrap ((n : Int) - 2) = ((n - 2 : Nat) : Int) := by rw [IntWalk.i64_in _ (by omega)]; omega
 have e2 : Int.tdiv ((n - 2 : Nat) : Int) 2 = (h : Int) := by rw [Int.tdiv_eq_ediv_of_nonneg (by omega)]; omega
 have e3 : Int.tmod (g : Int) 2 = ((g % 2 : Nat) : Int) := by rw [Int.tmod_eq_emod_of_nonneg (by omega)]; omega
 obtain ⟨r, hr⟩ := nm (g % 2)
 have hr2 : r = 0 ∨ r = 1 := by omega
 rw [← hr] at hf1 e3
 have e4 : IntKind.i64.wrap ((r : Int)) = (r : Int) := IntWalk.i64_in _ (by omega)
 obtain ⟨m, hm⟩ := nm (r * h)
 have e5 : (r : Int) * (h : Int) = (m : Int) := by rw [hm]; simp
 have e6 : m ≤ 16384 := by rw [hm]; rcases hr2 with rfl | rfl <;> omega
 rw [← hm] at hf1
 have e7 : IntKind.i64.wrap (m : Int) = (m : Int) := IntWalk.i64_in _ (by omega)
 have e8 : IntKind.i64.wrap (2 + (m : Int)) = (f : Int) := by rw [IntWalk.i64_in _ (by omega)]; omega
 have e9 : IntKind.u32.wrap (r : Int) = (r : Int) := by rw [IntKind.wrap_u32]; omega
 have e10 : IntKind.i64.wrap (h : Int) = (h : Int) := IntWalk.i64_in _ (by omega)
 clear hD h2 h3 hn hh hf hh1 hf1 hr hr2 e6 hm
 go_enter Tryz.func46, Tryz.ntmps46
 go_wp2_with fail
 refine HS.out.mono ?_
 rintro e w1 ⟨rfl, rfl⟩
 go_wp2_with fail
 go_ret2
 exact ⟨rfl, rfl⟩
theorem fits_any (hD : Dk w base gd bs bf v p) : Calls Tryz.prog 44 #[.pointer (some ⟨gd, 0, none⟩)] w fun e w' => e = .returned (errD (if p.size < 4 then 1 else 0)) ∧ w = w' := by
 have HS := Lib.hid (len_in hD)
 obtain ⟨n, hn⟩ := nm p.size
 rw [← hn] at HS ⊢
 clear hD hn
 by_cases h : n < 4
 · rw [if_pos h, errD_n (by decide)]
   have h1 : (n : Int) < 4 := by omega
   clear h
   go_enter Tryz.func44, Tryz.ntmps44
   go_wp2_with fail
   refine HS.out.mono ?_
   rintro e w1 ⟨rfl, rfl⟩
   go_wp2_with fail
   go_ret
   exact ⟨rfl, rfl⟩
 · rw [if_neg h, errD_0]
   have h1 : ¬ (n : Int) < 4 := by omega
   clear h
   go_enter Tryz.func44, Tryz.ntmps44
   go_wp2_with fail
   refine HS.out.mono ?_
   rintro e w1 ⟨rfl, rfl⟩
   go_wp2_with fail
   go_ret
   exact ⟨rfl, rfl⟩
set_option maxHeartbeats 3000000
set_option maxRecDepth 100000
theorem proc_any (hD : Dk w base gd bs bf v p) (hL : ShaIn 4 2 w) (g : Nat) (hg : g < 4294967296) :
    Calls Tryz.prog 59 #[.pointer (some ⟨gd, 0, none⟩), .int .u32 g] w (WipeSays w base gd bs bf v (procS p g)) := by
 have HD := Lib.hid hD
 have HM := Lib.hid (manifest_any g hg w hL)
 have HO := Lib.hid (manB_ok g)
 obtain ⟨S, hS⟩ := nm (manB g)
 obtain ⟨r, hr⟩ := nm (g % 2)
 obtain ⟨R, hR⟩ := nm (procS p g)
 have HR : Hid (R = if p.wcode (r : Int) ≠ 0 then (p.doWrite (r : Int) S, p.wcode (r : Int)) else ((p.doWrite (r : Int) S).doSync, (p.doWrite (r : Int) S).scode)) := Lib.hid (by rw [hR, hS, hr]; rfl)
 rw [← hR]
 rw [← hS] at HM HO
 have e3 : Int.tmod (g : Int) 2 = (r : Int) := by rw [Int.tmod_eq_emod_of_nonneg (by omega)]; omega
 have e4 : IntKind.i64.wrap ((r : Int)) = (r : Int) := IntWalk.i64_in _ (by omega)
 have e5 : IntKind.u32.wrap (r : Int) = (r : Int) := by rw [IntKind.wrap_u32]; omega
 have HZ : Hid ((secA S).size = 64) := Lib.hid (by rw [secA_size, HO.out.1])
 clear hD hL hg hS hr hR
 go_enter Tryz.func59, Tryz.ntmps59
 go_wp2_with fail
 refine HM.out.mono ?_
 rintro e w1 ⟨rfl, hN1⟩
 have HN1 := Lib.hid hN1
 clear hN1
 go_upto_region 4 with ((with_reducible refine atOp ⟨some 5, .alloc _, _, _, _, _⟩ ?_); refine wpList_newvar (s := S) rfl rfl rfl _ _ rfl secInfo rfl rfl rfl HO.out.1 ?_)
 refine wp_world fun w2 hw2 => ?_
 have HB : Hid (Blk w2 w1.heap.size 68 (secA S)) := Lib.hid (by rw [hw2.out]; exact Blk.new _ _ _)
 have HN2 : Hid (New w w2) := Lib.hid (by rw [hw2.out]; exact HN1.out.al _)
 clear hw2 HN1
 go_wp2_with ((with_reducible refine atOp ⟨some 20, .load _ _, _, _, _, _⟩ ?_); refine wpList_load_any rfl _ rfl Tryz.underlying68 rfl (by rw [HZ.out]; rfl) rfl HB.out ?_)
 refine (write_all (HD.out.new HN2.out) (r : Int) HO.out).mono ?_
 rintro e w3 ⟨rfl, v3, hD3, hF3, hO3⟩
 have HT3 : Hid (DkTo w base gd bs bf v (p.doWrite (r : Int) S) w3 v3) := Lib.hid ((DkTo.same HD.out HN2.out).tr ⟨hD3, hF3, hO3⟩)
 clear hD3 hF3 hO3 HB HN2
 obtain ⟨wc, hwc⟩ := nm (p.wcode (r : Int))
 rw [← hwc] at HR ⊢
 clear hwc
 by_cases h0 : wc = 0
 · have HR2 := Lib.hid (HR.out.trans (if_neg (by rw [h0]; simp)))
   rw [h0, errD_0]
   clear h0 HR
   go_wp2_with fail
   refine (sync_all HT3.out.dk).mono ?_
   rintro e w4 ⟨rfl, v4, hD4, hF4, hO4⟩
   go_wp2_with fail
   go_ret
   rw [HR2.out]
   exact ⟨rfl, v4, HT3.out.tr ⟨hD4, hF4, hO4⟩⟩
 · have HR2 := Lib.hid (HR.out.trans (if_pos h0))
   have HE := Lib.hid (errD_n h0)
   rw [HE.out]
   clear h0 HR
   go_wp2_with fail
   go_ret
   rw [HR2.out]
   exact ⟨congrArg Ending.returned HE.out.symm, v3, HT3.out⟩
theorem cnt1 (p : DP) {k : Nat} (hk : k < 2) : (if k = 0 then (0 : Nat) else if k = 1 then man1 p 0 else cnt p) ≤ (if k + 1 = 1 then man1 p 0 else cnt p) := by
 have : k = 0 ∨ k = 1 := by omega
 rcases this with rfl | rfl
 · exact Nat.zero_le _
 · exact Nat.le_max_left _ _
def cntN (p : DP) : Nat → Nat
 | 0 => 0
 | k + 1 => max (cntN p k) (man1 p k)
theorem cntN_2 (p : DP) : cntN p 2 = cnt p := by show max (max 0 (man1 p 0)) (man1 p 1) = cnt p; rw [Nat.zero_max]; rfl
theorem man1_lt {p : DP} (h : p.Ok) (a : Nat) : man1 p a < 4294967296 := by
 unfold man1
 split
 · have h1 := valL_lt (xs := (p.rget (a : Int)).take 4) (fun x hx => (h.rget _).2 x (List.mem_of_mem_take hx))
   rw [List.length_take, (h.rget _).1] at h1
   exact h1
 · omega
theorem cntN_lt {p : DP} (h : p.Ok) : ∀ k, cntN p k < 4294967296
 | 0 => by show 0 < _; omega
 | k + 1 => by
  have h1 := cntN_lt h k
  have h2 := man1_lt h k
  show max _ _ < _
  omega
theorem counts_any (hD : Dk w base gd bs bf v p) (h2 : 2 ≤ p.size) (hL : ShaIn 4 2 w) :
    Calls Tryz.prog 45 #[.pointer (some ⟨gd, 0, none⟩)] w fun e w' => e = .returned (.tuple #[.int .u32 (cnt p), .nilIface]) ∧ New w w' := by
 have HD := Lib.hid hD
 have HL := Lib.hid hL
 have HP2 := Lib.hid h2
 clear hD hL h2
 go_enter Tryz.func45, Tryz.ntmps45
 go_wp2_with fail
 go_loopw [4, 5, 6, 7, 8, 9, 10] (fun b _ _ _ _ _ i wr => ∃ k : Nat, k ≤ 2 ∧ i = .int .i64 k ∧ b = .int .u32 (cntN p k : Nat) ∧ Hid (New w wr)) (fun _ _ _ _ _ _ i _ => 2 - (intOf i).toNat)
 case atStart => exact ⟨0, by omega, rfl, rfl, Lib.hid (New.refl _)⟩
 case round =>
  obtain ⟨k, hk, rfl, rfl, HW⟩ := hrel
  by_cases hlt : k < 2
  · have hlt' : (k : Int) < 2 := by omega
    obtain ⟨s, hs⟩ := nm (p.rget (k : Int))
    have HS : Hid (SecOk s) := Lib.hid (by rw [hs]; exact HD.out.ok.rget _)
    have HRC : Hid (p.rcode (k : Int) = 0) := Lib.hid (by unfold DP.rcode DP.within; rw [decide_eq_true (by have := HP2.out; omega), if_pos rfl])
    have HRE := Lib.hid (read_all (HD.out.new HW.out) (k : Int))
    rw [← hs, HRC.out, errD_0] at HRE
    have HZ : Hid ((secA s).size = 64) := Lib.hid (by rw [secA_size, HS.out.1])
    obtain ⟨g, hg⟩ := nm (valL (s.take 4))
    have HG : Hid (g < 4294967296) := Lib.hid (by
     have h1 := valL_lt (xs := s.take 4) (fun x hx => HS.out.2 x (List.mem_of_mem_take hx))
     rw [List.length_take, HS.out.1] at h1
     rw [hg]
     exact h1)
    have HMK : Hid (man1 p k = if s = manB g ∧ g % 2 = k then g else 0) := Lib.hid (by unfold man1; rw [← hs, ← hg])
    have HGE := Lib.hid hg
    clear hs hg
    go_wp2_with fail
    refine HRE.out.mono ?_
    rintro e w1 ⟨rfl, hN1⟩
    have HN1 : Hid (New w w1) := Lib.hid (HW.out.tr hN1)
    clear hN1 HRE HW
    go_upto_region 8 with ((with_reducible refine atOp ⟨some 6, .alloc _, _, _, _, _⟩ ?_); refine wpList_newvar (s := s) rfl rfl rfl _ _ rfl secInfo rfl rfl rfl HS.out.1 ?_)
    refine wp_world fun w2 hw2 => ?_
    obtain ⟨b6, hb6⟩ := nm w1.heap.size
    have HB6 : Hid (Blk w2 b6 68 (secA s)) := Lib.hid (by rw [hw2.out, hb6]; exact Blk.new _ _ _)
    have HN2 : Hid (New w w2) := Lib.hid (by rw [hw2.out]; exact HN1.out.al _)
    rw [← hb6]
    clear hw2 HN1 hb6
    have HR4 : Hid (Rd (fun _ => True) w2 1 (some ⟨b6, 0, none⟩) 4 (u8s (s.take 4))) := Lib.hid (Rd.take (blk_rd0 HB6.out HS.out.1) (by omega))
    have HBY : Hid (Byt (s.take 4)) := Lib.hid (fun x hx => HS.out.2 x (List.mem_of_mem_take hx))
    go_wp2_with fail
    refine (from_any _ 4 _ (s.take 4) w2 HR4.out HBY.out (by omega)).mono ?_
    rintro e w3 ⟨gr, rfl, hR, hN3, hgr⟩
    have HR := Lib.hid hR
    have HN3 : Hid (New w w3) := Lib.hid (HN2.out.tr hN3)
    have HB63 : Hid (Blk w3 b6 68 (secA s)) := Lib.hid (hN3.blk HB6.out)
    have HGR : Hid (w.heap.size ≤ gr ∧ b6 < gr) := Lib.hid (by have h1 := HN2.out.size; have h2 := HB6.out.lt; omega)
    have n4 : ((4 : Nat) : Int) = 4 := rfl
    clear hR hN3 hgr HR4 HB6 HN2
    go_wp2_with fail
    refine (rnum_any HR.out 4 (by omega)).mono ?_
    rintro e w4 ⟨rfl, -, hF4⟩
    have hnum : ((⟨s.take 4, 0⟩ : Rs).num 4).1 = g := by
     unfold Rs.num Rs.raw Rs.left
     rw [if_pos rfl, if_neg (by rw [List.length_take, HS.out.1]; decide), HGE.out]
     show valL ((s.take 4).take 4) = _
     rw [List.take_take]
     rfl
    rw [hnum]
    have HB64 : Hid (Blk w4 b6 68 (secA s)) := Lib.hid (HB63.out.fr hF4 (by have := HGR.out; omega))
    have HN4 : Hid (New w w4) := Lib.hid (HN3.out.fr hF4 (fun k hk => by have := HGR.out; omega))
    have e9 : IntKind.u32.wrap (g : Int) = (g : Int) := by rw [IntKind.wrap_u32]; have := HG.out; omega
    clear hnum hF4 HR HN3 HB63 n4
    go_wp2_with fail
    refine (manifest_any g HG.out w4 (HL.out.new HN4.out)).mono ?_
    rintro e w5 ⟨rfl, hN5⟩
    obtain ⟨m, hm⟩ := nm (manB g)
    have HMO : Hid (SecOk m) := Lib.hid (by rw [hm]; exact manB_ok g)
    rw [← hm] at HMK ⊢
    have HB65 : Hid (Blk w5 b6 68 (secA s)) := Lib.hid (hN5.blk HB64.out)
    have HN5 : Hid (New w w5) := Lib.hid (HN4.out.tr hN5)
    have HZM : Hid ((secA m).size = 64) := Lib.hid (by rw [secA_size, HMO.out.1])
    clear hN5 hm HB64 HN4 e9
    go_upto_region 12 with ((with_reducible refine atOp ⟨some 9, .alloc _, _, _, _, _⟩ ?_); refine wpList_newvar (s := m) rfl rfl rfl _ _ rfl secInfo rfl rfl rfl HMO.out.1 ?_)
    refine wp_world fun w6 hw6 => ?_
    obtain ⟨b9, hb9⟩ := nm w5.heap.size
    have HB9 : Hid (Blk w6 b9 68 (secA m)) := Lib.hid (by rw [hw6.out, hb9]; exact Blk.new _ _ _)
    have HN56 : Hid (New w5 w6) := Lib.hid (by rw [hw6.out]; exact (New.refl _).al _)
    have HB66 : Hid (Blk w6 b6 68 (secA s)) := Lib.hid (HN56.out.blk HB65.out)
    have HN6 : Hid (New w w6) := Lib.hid (HN5.out.tr HN56.out)
    rw [← hb9]
    clear hw6 hb9 HN56 HB65 HN5
    have heq : (Op.equalIn 10000 68 (.agg (secA s)) (.agg (secA m))).run Tryz.prog w6 = .ok (decide (s = m)) w6 := run_equalIn_sec (P := Tryz.prog) 9998 Tryz.underlying68 Tryz.underlying5 (Tryz.sizeOf5) HS.out.1 HMO.out.1 HS.out.2 HMO.out.2 w6
    have e1 : Int.tmod (g : Int) 2 = ((g % 2 : Nat) : Int) := by rw [Int.tmod_eq_emod_of_nonneg (by omega)]; omega
    have e2 : IntKind.u32.wrap (k : Int) = (k : Int) := by rw [IntKind.wrap_u32]; omega
    have e4 : IntKind.u32.wrap ((g % 2 : Nat) : Int) = ((g % 2 : Nat) : Int) := by rw [IntKind.wrap_u32]; omega
    have e3 : ((g % 2 : Nat) : Int) = (k : Int) ↔ g % 2 = k := by omega
    obtain ⟨c, hc⟩ := nm (cntN p k)
    have HCS : Hid (cntN p (k + 1) = max c (if s = m ∧ g % 2 = k then g else 0)) := Lib.hid (by rw [← HMK.out, hc]; rfl)
    have HK := Lib.hid hk
    rw [← hc]
    clear hc
    obtain ⟨q, hq⟩ := nm (g % 2)
    rw [← hq] at HCS e1 e3 e4
    clear hq hk
    by_cases hsm : s = m
    · rw [decide_eq_true hsm] at heq
      have HSM := Lib.hid hsm
      clear hsm
      by_cases hqk : q = k
      · have HCE : Hid (cntN p (k + 1) = max c g) := Lib.hid (by rw [HCS.out, if_pos ⟨HSM.out, hqk⟩])
        have e3' := e3.2 hqk
        clear e3 hqk
        go_wp2_with (first
         | ((with_reducible refine atOp ⟨some 34, .load _ _, _, _, _, _⟩ ?_); refine wpList_load_any rfl _ rfl Tryz.underlying68 rfl (by rw [HZ.out]; rfl) rfl HB66.out ?_)
         | ((with_reducible refine atOp ⟨some 35, .load _ _, _, _, _, _⟩ ?_); refine wpList_load_any rfl _ rfl Tryz.underlying68 rfl (by rw [HZM.out]; rfl) rfl HB9.out ?_))
        exact ⟨⟨k + 1, by omega, by go_num, by rw [HCE.out]; congr 1; omega, HN6⟩, by simp [intOf]; omega⟩
      · have HCE : Hid (cntN p (k + 1) = c) := Lib.hid (by rw [HCS.out, if_neg (fun e => hqk e.2)]; exact Nat.max_eq_left (Nat.zero_le _))
        have e3' : ¬ (q : Int) = (k : Int) := fun e => hqk (e3.1 e)
        clear e3 hqk
        go_wp2_with (first
         | ((with_reducible refine atOp ⟨some 34, .load _ _, _, _, _, _⟩ ?_); refine wpList_load_any rfl _ rfl Tryz.underlying68 rfl (by rw [HZ.out]; rfl) rfl HB66.out ?_)
         | ((with_reducible refine atOp ⟨some 35, .load _ _, _, _, _, _⟩ ?_); refine wpList_load_any rfl _ rfl Tryz.underlying68 rfl (by rw [HZM.out]; rfl) rfl HB9.out ?_))
        exact ⟨⟨k + 1, by omega, by go_num, by rw [HCE.out], HN6⟩, by simp [intOf]; omega⟩
    · rw [decide_eq_false hsm] at heq
      have HCE : Hid (cntN p (k + 1) = c) := Lib.hid (by rw [HCS.out, if_neg (fun e => hsm e.1)]; exact Nat.max_eq_left (Nat.zero_le _))
      clear hsm e3
      go_wp2_with (first
       | ((with_reducible refine atOp ⟨some 34, .load _ _, _, _, _, _⟩ ?_); refine wpList_load_any rfl _ rfl Tryz.underlying68 rfl (by rw [HZ.out]; rfl) rfl HB66.out ?_)
       | ((with_reducible refine atOp ⟨some 35, .load _ _, _, _, _, _⟩ ?_); refine wpList_load_any rfl _ rfl Tryz.underlying68 rfl (by rw [HZM.out]; rfl) rfl HB9.out ?_))
      exact ⟨⟨k + 1, by omega, by go_num, by rw [HCE.out], HN6⟩, by simp [intOf]; omega⟩
  · have hge : ¬ (k : Int) < 2 := by omega
    obtain rfl : k = 2 := by omega
    rw [cntN_2]
    clear hlt
    go_wp2_with fail
    go_ret2
    exact ⟨rfl, HW.out⟩
end
end Go.Proofs.YtfchcdbfalgdlaaGreatDoor
namespace Go.Proofs.YtfchcdbfalgdlaaGreatDoor
set_option linter.unusedVariables false
set_option linter.unusedSimpArgs false
set_option linter.constructorNameAsVariable false
open Go.RowKit Go.Sort
def fmtN (p : DP) : Nat → DP
 | 0 => p
 | k + 1 => (fmtN p k).doWrite (k : Int) sec0
theorem fmtN_up {p : DP} (h : Up p) : ∀ k, Up (fmtN p k) ∧ (fmtN p k).size = p.size
 | 0 => ⟨h, rfl⟩
 | k + 1 => ⟨(fmtN_up h k).1.write _ _, (DP.doWrite_size _ _ _).trans (fmtN_up h k).2⟩
theorem fmtS_eq {p : DP} : fmtS p = (procS (wipeL (fmtN p 2).doSync (log0 p.size 1)).1 1).1 := rfl
theorem DkTo.nw {W w w' : World} {gd bs bf : Nat} {v v' : Value} {p q : DP} (h : DkTo w W.heap.size gd bs bf v q w' v') (hD : Dk w W.heap.size gd bs bf v p) (hN : New W w) : New W w' := hN.fr h.fr (fun k hk => (hD.ours k hk).1)
section
variable {w : World} {base gd bs bf : Nat} {v : Value} {p : DP}
set_option maxHeartbeats 3000000
set_option maxRecDepth 100000
theorem format_any {W : World} (hD : Dk w W.heap.size gd bs bf v p) (hN : New W w) (hL : ShaIn 4 2 W) (hu : Up p) (h4 : 4 ≤ p.size) :
    Calls Tryz.prog 14 #[.pointer (some ⟨gd, 0, none⟩)] w (WipeSays w W.heap.size gd bs bf v (fmtS p, 0)) := by
 have HF := Lib.hid (fits_any hD)
 rw [if_neg (by omega), errD_0] at HF
 have HD := Lib.hid hD
 have HL := Lib.hid hL
 have HN := Lib.hid hN
 have HU := Lib.hid hu
 have H4 := Lib.hid h4
 clear hD hL hN hu h4
 go_enter Tryz.func14, Tryz.ntmps14
 go_wp2_with fail
 refine HF.out.mono ?_
 rintro e w1 ⟨rfl, rfl⟩
 clear HF
 go_wp2_with fail
 go_loopw [4, 5, 16] (fun _ _ i wr => ∃ (k : Nat) (v' : Value), k ≤ 2 ∧ i = .int .i64 k ∧ Hid (DkTo w W.heap.size gd bs bf v (fmtN p k) wr v')) (fun _ _ i _ => 2 - (intOf i).toNat)
 case atStart => exact ⟨0, v, by omega, rfl, Lib.hid (DkTo.same HD.out (New.refl _))⟩
 case round =>
  obtain ⟨k, v1, hk, rfl, HT⟩ := hrel
  by_cases hlt : k < 2
  · have hlt' : (k : Int) < 2 := by omega
    have hU := fmtN_up HU.out k
    have HWR := Lib.hid (write_all HT.out.dk (k : Int) sec0_ok)
    rw [hU.1.wcode (by omega) (by have := H4.out; omega), errD_0] at HWR
    clear hU
    go_wp2_with fail
    refine HWR.out.mono ?_
    rintro e w3 ⟨rfl, v3, hD3, hF3, hO3⟩
    have HT3 : Hid (DkTo w W.heap.size gd bs bf v (fmtN p (k + 1)) w3 v3) := Lib.hid (HT.out.tr ⟨hD3, hF3, hO3⟩)
    clear hD3 hF3 hO3 HT HWR
    go_wp2_with fail
    exact ⟨⟨k + 1, v3, by omega, by go_num, HT3⟩, by simp [intOf]; omega⟩
  · have hge : ¬ (k : Int) < 2 := by omega
    obtain rfl : k = 2 := by omega
    have hU := fmtN_up HU.out 2
    obtain ⟨q, hq⟩ := nm (fmtN p 2)
    have HFS : Hid (fmtS p = (procS (wipeL q.doSync (log0 p.size 1)).1 1).1) := Lib.hid (by rw [hq]; exact fmtS_eq)
    rw [← hq] at HT hU
    have HSY := Lib.hid (sync_all HT.out.dk)
    rw [hU.1.scode, errD_0] at HSY
    obtain ⟨q2, hq2⟩ := nm q.doSync
    have HU2 : Hid (Up q2 ∧ q2.size = p.size) := Lib.hid (by rw [hq2]; exact ⟨hU.1.sync, (DP.doSync_size q).trans hU.2⟩)
    rw [← hq2] at HSY HFS
    clear hU hq hq2 hlt
    go_wp2_with fail
    refine HSY.out.mono ?_
    rintro e w3 ⟨rfl, v3, hD3, hF3, hO3⟩
    have HT3 : Hid (DkTo w W.heap.size gd bs bf v q2 w3 v3) := Lib.hid (HT.out.tr ⟨hD3, hF3, hO3⟩)
    clear hD3 hF3 hO3 HT HSY
    have HPL := Lib.hid (place_any HT3.out.dk (by have := HU2.out.2; have := H4.out; omega) 1 (by decide))
    rw [HU2.out.2] at HPL
    obtain ⟨fs, hfs⟩ := nm (fst0 1 p.size)
    obtain ⟨hl, hhl⟩ := nm (hlf p.size)
    have hfit := hlf_fit (g := 1) H4.out
    have HFR := Lib.hid (fresh_good HT3.out.dk fs hl 1 (by rw [hhl]; exact hfit.1) (by rw [hhl, hfs, HU2.out.2]; exact hfit.2.1) (by decide) (by decide))
    have HW0 : Hid ((wipeL q2 (lg0 fs hl 1)).2 = 0 ∧ Up (wipeL q2 (lg0 fs hl 1)).1 ∧ (wipeL q2 (lg0 fs hl 1)).1.size = q2.size) := Lib.hid (HU2.out.1.wipe (l := lg0 fs hl 1) (by show fs + hl ≤ _; rw [hhl, hfs, HU2.out.2]; exact hfit.2.1) (Nat.zero_le _))
    have HFS : Hid (fmtS p = (procS (wipeL q2 (lg0 fs hl 1)).1 1).1) := Lib.hid (by rw [HFS.out, hfs, hhl]; rfl)
    rw [← hfs, ← hhl] at HPL
    obtain ⟨r, hr⟩ := nm (wipeL q2 (lg0 fs hl 1))
    rw [← hr] at HFR HW0 HFS
    clear hfs hhl hfit hr
    go_wp2_with fail
    refine HPL.out.mono ?_
    rintro e w4 ⟨rfl, rfl⟩
    go_wp2_with fail
    refine HFR.out.mono ?_
    intro e w4 hs
    unfold FreshSays at hs
    rw [if_pos HW0.out.1] at hs
    obtain ⟨gl, v4, rfl, -, -, hT4⟩ := hs
    have HT4 : Hid (DkTo w W.heap.size gd bs bf v r.1 w4 v4) := Lib.hid (HT3.out.tr hT4)
    clear hT4 HT3 HFR HPL
    go_wp2_with fail
    refine (proc_any HT4.out.dk (HL.out.new (HT4.out.nw HD.out HN.out)) 1 (by decide)).mono ?_
    rintro e w5 ⟨rfl, v5, hT5⟩
    rw [(HW0.out.2.1.proc 1 (by have := HW0.out.2.2; have := HU2.out.2; have := H4.out; omega)).1, errD_0]
    go_wp2_with fail
    go_ret
    exact ⟨errD_0.symm ▸ rfl, v5, by show DkTo w W.heap.size gd bs bf v (fmtS p) w5 v5; rw [HFS.out]; exact HT4.out.tr hT5⟩
end
end Go.Proofs.YtfchcdbfalgdlaaGreatDoor
namespace Go.Proofs.YtfchcdbfalgdlaaGreatDoor
set_option linter.unusedVariables false
set_option linter.unusedSimpArgs false
set_option linter.constructorNameAsVariable false
open Go.RowKit Go.Sort Go.Maps
inductive Ops (R : Int → Prop) (p : DP) : DP → Prop
 | refl : Ops R p p
 | write {q : DP} {a : Int} {s : List Int} : Ops R p q → R a → SecOk s → Ops R p (q.doWrite a s)
 | sync {q : DP} : Ops R p q → Ops R p q.doSync
def Out (p q : DP) (a : Int) : Prop := (q.fresh a = p.fresh a ∧ q.sure a = p.sure a) ∨ (q.fresh a = none ∧ sureC q a = p.get a)
section
variable {R R' : Int → Prop} {p q r : DP} {a : Int}
theorem Ops.trans (h1 : Ops R p q) (h2 : Ops R q r) : Ops R p r := by
 induction h2 with
 | refl => exact h1
 | write _ ha hs ih => exact ih.write ha hs
 | sync _ ih => exact ih.sync
theorem Ops.mono (h : Ops R p q) (hR : ∀ a, R a → R' a) : Ops R' p q := by
 induction h with
 | refl => exact .refl
 | write _ ha hs ih => exact ih.write (hR _ ha) hs
 | sync _ ih => exact ih.sync
theorem Out.get (h : Out p q a) : q.get a = p.get a := by
 rcases h with ⟨h1, h2⟩ | ⟨h1, h2⟩
 · unfold DP.get; rw [h1, h2]
 · rw [get_clean h1, h2]
theorem Ops.ok (h : Ops R p q) (hp : p.Ok) : q.Ok ∧ q.size = p.size := by
 induction h with
 | refl => exact ⟨hp, rfl⟩
 | write _ ha hs ih =>
  refine ⟨?_, by rw [DP.doWrite_size]; exact ih.2⟩
  unfold DP.doWrite
  split
  · next hw =>
    split
    · exact ih.1.fall
    · exact ih.1.write (of_decide_eq_true hw) hs
  · exact ih.1
 | sync _ ih =>
  refine ⟨?_, by rw [DP.doSync_size]; exact ih.2⟩
  unfold DP.doSync
  split
  · exact ih.1
  · exact ih.1.sync
theorem Out.sync (h : Out p q a) : Out p q.doSync a := by
 unfold DP.doSync
 split
 · exact h
 · refine .inr ⟨rfl, ?_⟩
   rw [← get_clean (p := q.sync) rfl, get_sync]
   exact h.get
theorem Ops.out (h : Ops R p q) (ha : ¬ R a) : Out p q a := by
 induction h with
 | refl => exact .inl ⟨rfl, rfl⟩
 | @write q b s _ hb hs ih =>
  have hne : a ≠ b := fun e => ha (e ▸ hb)
  unfold DP.doWrite
  split
  · split
    · exact ih
    · have e1 : (q.write b s).fresh a = q.fresh a := by
       show upd q.burn.fresh b (some s) a = _
       unfold upd
       rw [if_neg hne]
       rfl
      have e2 : (q.write b s).sure a = q.sure a := rfl
      unfold Out sureC at ih ⊢
      rw [e1, e2]
      exact ih
  · exact ih
 | sync _ ih => exact ih.sync
theorem doWrite_up {s : List Int} (h : p.wcode a = 0) (hd : p.down = false) : (p.doWrite a s).down = false := by
 unfold DP.wcode at h
 unfold DP.doWrite
 split
 · next hw =>
   rw [if_pos hw] at h
   split
   · next hf => rw [if_pos hf] at h; cases h
   · exact hd
 · exact hd
theorem doSync_down : p.doSync.down = p.down := by unfold DP.doSync; split <;> rfl
end
def Reg (l : LG) (a : Int) : Prop := ∃ x : Nat, x < l.size ∧ a = plc l x
section
variable {p q : DP} {l l0 : LG} {K : List (List Int)} {su : Nat} {b : List Int} {m : Nat} {T : Nat → Option (List Int)}
theorem wipeN_ops (p : DP) (l : LG) : ∀ k, l.used + k ≤ l.size → Ops (Reg l) p (wipeN p l k).1
 | 0, _ => .refl
 | k + 1, hk => by
  have ih := wipeN_ops p l k (by omega)
  unfold wipeN
  simp only
  split
  · exact ih
  · split
    · exact ih.write ⟨l.used + k, by omega, by unfold plc; rw [Nat.add_assoc]⟩ sec0_ok
    · exact ih
theorem wipe_ops (p : DP) (l : LG) (hu : l.used ≤ l.size) : Ops (Reg l) p (wipeL p l).1 := by
 have h := wipeN_ops p l (l.size - l.used) (by omega)
 unfold wipeL
 simp only
 split
 · exact h
 · split
   · exact h.sync
   · exact h
theorem writeN_ops (p : DP) (l : LG) {b : List Int} (hb : Byt b) : ∀ k, l.used + k ≤ l.size → Ops (Reg l) p (writeN p l b k).1
 | 0, _ => .refl
 | k + 1, hk => by
  have ih := writeN_ops p l hb k (by omega)
  unfold writeN
  simp only
  split
  · exact ih
  · exact ih.write ⟨l.used + k, by omega, by unfold plc; rw [Nat.add_assoc]⟩ (LG.sec_ok _ hb _)
theorem app_ops (p : DP) (l : LG) {b : List Int} (hb : Byt b) (hu : l.used ≤ l.size) : Ops (Reg l) p (appL p l b).1 := by
 unfold appL
 split
 · exact .refl
 · split
   · exact .refl
   · split
     · exact .refl
     · have h := writeN_ops p l hb (secN b.length) (by omega)
       simp only
       split <;> exact h
theorem Inv.out (h : Inv p l0 K su b m T) (hok : q.Ok) (hz : q.size = p.size) (ho : ∀ x : Nat, x < l0.size → Out p q (plc l0 x)) : Inv q l0 K su b m T := by
 have hsv : ∀ x : Nat, x < l0.size → sureC q (plc l0 x) = sureC p (plc l0 x) ∨ (T x ≠ none ∧ T x = some (sureC q (plc l0 x))) := fun x hx => by
  rcases ho x hx with ⟨h1, h2⟩ | ⟨h1, h2⟩
  · exact .inl (by unfold sureC; rw [h2])
  · rcases h.fresh x hx with h3 | ⟨h3, h4⟩
    · exact .inl (by rw [h2, get_clean h3])
    · refine .inr ⟨h3, ?_⟩
      cases hT : T x with
      | none => exact absurd hT h3
      | some S => rw [h2, h.now x hx S hT]
 refine ⟨hok, by rw [hz]; exact h.lok, h.z, h.g0, h.good, h.room, h.part, h.sul, h.tk, fun x hx => ?_, fun x hx => ?_, fun j hj hs i hi => ?_, fun x hx S hS => ?_⟩
 · rcases ho x hx with ⟨h1, h2⟩ | ⟨h1, h2⟩
   · rw [h1]; exact h.fresh x hx
   · exact .inl h1
 · rcases hsv x hx with h1 | ⟨h1, h2⟩
   · rw [h1]; exact h.sure x hx
   · exact .inl h2
 · have h5 := chain_lt (l0 := l0) hj hi
   have hx : (chain l0 (K.take j)).used + i < l0.size := by have := h.room; omega
   rcases hsv _ hx with h1 | ⟨h1, h2⟩
   · rw [h1]; exact h.safe j hj hs i hi
   · rw [h.tk.recs j hj i hi] at h2
     injection h2 with h2
     exact h2.symm
 · rw [(ho x hx).get]; exact h.now x hx S hS
theorem Inv.mark (h : Inv p l0 K su b m T) {x : Nat} (hx : x < l0.size) (hf : p.fresh (plc l0 x) ≠ none) : valL ((p.get (plc l0 x)).take 4) = l0.gen := by
 have hgen : ∀ (J : List (List Int)) (c : List Int) (i : Nat), valL (((chain l0 J).sec c i).take 4) = l0.gen := fun J c i => by
  have h9 := sec_head (l := chain l0 J) (b := c) i
  have h4 : ((chain l0 J).sec c i).take 4 = (((chain l0 J).sec c i).take 9).take 4 := by rw [List.take_take]; rfl
  rw [h4, h9]
  unfold LG.hdr
  rw [(chain_same l0 J).2.2.1, List.append_assoc]
  have := List.take_left (l₁ := beL 4 l0.gen) (l₂ := beL 4 ((chain l0 J).used + i) ++ [if i = 0 then 1 else 2])
  rw [beL_len] at this
  rw [this, valL_beL 4 l0.gen h.lok.gen]
 rcases h.fresh x hx with h1 | ⟨h1, h2⟩
 · exact absurd h1 hf
 · by_cases hu : x < (chain l0 K).used
   · obtain ⟨j, hj, i, hi, e⟩ := place_of h.z hu
     have h3 := h.tk.recs j hj i hi
     rw [← e] at h3
     rw [h.now x hx _ h3, hgen]
   · by_cases hm : x < (chain l0 K).used + m
     · have h3 := h.tk.part (x - (chain l0 K).used) (by omega)
       rw [show (chain l0 K).used + (x - (chain l0 K).used) = x by omega] at h3
       rw [h.now x hx _ h3, hgen]
     · exact absurd (h.tk.rest x (by omega)) h1
theorem wipeN_any {l : LG} (hok : p.Ok) (hd : p.down = false) (hf : l.first + l.size ≤ p.size) (g0 : l.gen ≠ 0) : ∀ k, l.used + k ≤ l.size → (wipeN p l k).2.2 = 0 →
    (wipeN p l k).1.down = false ∧ (∀ i, i < k → NoGen l.gen ((wipeN p l k).1.get ((l.first + l.used + i : Nat) : Int))) ∧ ((wipeN p l k).2.1 = false → (wipeN p l k).1 = p)
 | 0, _, _ => ⟨hd, fun i hi => absurd hi (by omega), fun _ => rfl⟩
 | k + 1, hk, hc => by
  have hc0 : (wipeN p l k).2.2 = 0 := by
   refine Classical.byContradiction fun hne => ?_
   unfold wipeN at hc
   simp only at hc
   rw [if_pos hne] at hc
   exact hne hc
  obtain ⟨h1, h2, h3⟩ := wipeN_any hok hd hf g0 k (by omega) hc0
  have hsz := ((wipeN_ops p l k (by omega)).ok hok).2
  have hw : (wipeN p l k).1.within ((l.first + l.used + k : Nat) : Int) = true := decide_eq_true (by rw [hsz]; omega)
  by_cases hg : valL ((sct (wipeN p l k).1 l k).take 4) = l.gen
  · rw [wipeN_hit hc0 hg] at hc ⊢
    simp only at hc ⊢
    have hwd : (wipeN p l k).1.doWrite ((l.first + l.used + k : Nat) : Int) sec0 = (wipeN p l k).1.write ((l.first + l.used + k : Nat) : Int) sec0 := by
     unfold DP.doWrite
     rw [if_pos hw]
     unfold DP.wcode at hc
     rw [if_pos hw] at hc
     split
     · next hx => rw [if_pos hx] at hc; cases hc
     · rfl
    refine ⟨doWrite_up hc h1, fun i hi => ?_, fun e => ?_⟩
    · rw [hwd, get_write]
      by_cases e : i = k
      · rw [if_pos (by rw [e])]; exact noGen_0 g0
      · rw [if_neg (by omega)]; exact h2 i (by omega)
    · rw [if_pos hc] at e; cases e
  · rw [wipeN_skip hc0 hg]
    refine ⟨h1, fun i hi => ?_, h3⟩
    by_cases e : i = k
    · subst e
      have : sct (wipeN p l i).1 l i = (wipeN p l i).1.get ((l.first + l.used + i : Nat) : Int) := if_pos hw
      rw [← this]
      exact hg
    · exact h2 i (by omega)
theorem wipe_inv {a sz g : Nat} (hok : p.Ok) (hd : p.down = false) (hf : a + sz ≤ p.size) (hg : g < 4294967296) (g0 : g ≠ 0)
    (hr : ∀ x : Nat, x < sz → p.fresh (plc (lg0 a sz g) x) ≠ none → valL ((p.get (plc (lg0 a sz g) x)).take 4) = g) (hc : (wipeL p (lg0 a sz g)).2 = 0) :
    (wipeL p (lg0 a sz g)).1.down = false ∧ Inv (wipeL p (lg0 a sz g)).1 (lg0 a sz g) [] 0 [] 0 (fun _ => none) := by
 have hops := wipe_ops p (lg0 a sz g) (Nat.zero_le _)
 obtain ⟨ho1, ho2⟩ := hops.ok hok
 have hc0 : (wipeN p (lg0 a sz g) sz).2.2 = 0 := by
  refine Classical.byContradiction fun hne => ?_
  unfold wipeL at hc
  simp only at hc
  rw [show (lg0 a sz g).size - (lg0 a sz g).used = sz from rfl, if_pos hne] at hc
  exact hne hc
 obtain ⟨h1, h2, h3⟩ := wipeN_any (l := lg0 a sz g) hok hd hf g0 sz (by show 0 + sz ≤ sz; omega) hc0
 have key : (wipeL p (lg0 a sz g)).1.down = false ∧ ∀ x : Nat, x < sz → (wipeL p (lg0 a sz g)).1.fresh (plc (lg0 a sz g) x) = none ∧ NoGen g ((wipeL p (lg0 a sz g)).1.get (plc (lg0 a sz g) x)) := by
  have hat : ∀ x : Nat, (((lg0 a sz g).first + (lg0 a sz g).used + x : Nat) : Int) = plc (lg0 a sz g) x := fun x => rfl
  unfold wipeL
  simp only
  rw [show (lg0 a sz g).size - (lg0 a sz g).used = sz from rfl, if_neg (by rw [hc0]; simp)]
  by_cases hw : (wipeN p (lg0 a sz g) sz).2.1 = true
  · rw [if_pos hw]
    refine ⟨by show (DP.doSync _).down = _; rw [doSync_down]; exact h1, fun x hx => ?_⟩
    unfold DP.doSync
    rw [if_neg (by rw [h1]; simp)]
    exact ⟨rfl, by show NoGen g (DP.get (DP.sync _) _); rw [get_sync]; exact h2 x hx⟩
  · rw [if_neg hw]
    have e := h3 (by simpa using hw)
    refine ⟨h1, fun x hx => ?_⟩
    have h4 := h2 x hx
    show (wipeN p (lg0 a sz g) sz).1.fresh _ = none ∧ NoGen g ((wipeN p (lg0 a sz g) sz).1.get _)
    rw [e] at h4 ⊢
    refine ⟨Classical.byContradiction fun hne => h4 (hr x hx hne), h4⟩
 refine ⟨key.1, ⟨ho1, lg0_ok (by rw [ho2]; exact hf) hg, rfl, g0, fun x hx => (by cases hx), Nat.zero_le _, .inl rfl, Nat.le_refl _, ⟨fun j hj => absurd hj (by simp), fun i hi => absurd hi (by omega), fun _ _ => rfl⟩, fun x hx => .inl (key.2 x hx).1, fun x hx => .inr ?_, fun j hj => absurd hj (by simp), fun x hx S hS => (by cases hS)⟩⟩
 rw [← get_clean (key.2 x hx).1]
 exact (key.2 x hx).2
end
end Go.Proofs.YtfchcdbfalgdlaaGreatDoor
namespace Go.Proofs.YtfchcdbfalgdlaaGreatDoor
set_option linter.unusedVariables false
set_option linter.unusedSimpArgs false
set_option linter.constructorNameAsVariable false
open Go.RowKit Go.Sort Go.Maps
structure TOk (T : CT) : Prop where
 nd : (T.map Prod.fst).Nodup
 el : ∀ e ∈ T, (1 ≤ e.1.length ∧ e.1.length ≤ 16 ∧ Byt e.1) ∧ e.2.length ≤ 16384 ∧ Byt e.2
def PcB (c : PC) : Prop := Byt c.k ∧ Byt c.v
section
variable {T T' : CT} {c : PC} {L : List PC}
theorem TOk.kn (h : TOk T) : Kn T := ⟨h.nd, fun e he => (h.el e he).1.2.2⟩
theorem TOk.perm (h : TOk T) (hp : T.Perm T') : TOk T' := ⟨((hp.map Prod.fst).nodup_iff).1 h.nd, fun e he => h.el e (hp.mem_iff.2 he)⟩
theorem TOk.nil : TOk [] := ⟨by simp, fun e he => by cases he⟩
theorem TOk.sct (h : TOk T) : TOk (sct_l19 T) := h.perm (sct_perm T).symm
theorem pcOk_spec (h : pcOk c = true) : 1 ≤ c.k.length ∧ c.k.length ≤ 16 ∧ c.v.length ≤ 16384 ∧ (c.d = true → c.v.length = 0) := by
 unfold pcOk at h
 simp only [Bool.and_eq_true, decide_eq_true_eq, Bool.not_eq_true', Bool.and_eq_false_iff] at h
 obtain ⟨⟨⟨h1, h2⟩, h3⟩, h4⟩ := h
 refine ⟨h1, h2, h3, fun hd => ?_⟩
 rcases h4 with h4 | h4
 · rw [hd] at h4; cases h4
 · have := of_decide_eq_false h4; omega
theorem pcsOk_spec (h : pcsOk L = true) : 1 ≤ L.length ∧ L.length ≤ 600 ∧ ∀ c ∈ L, pcOk c = true := by
 unfold pcsOk at h
 simp only [Bool.and_eq_true, decide_eq_true_eq, List.all_eq_true] at h
 exact ⟨h.1.1, h.1.2, h.2⟩
theorem TOk.doP (h : TOk T) (hc : pcOk c = true) (hb : PcB c) : TOk (doP T c) := by
 obtain ⟨h1, h2, h3, -⟩ := pcOk_spec hc
 unfold Go.Proofs.YtfchcdbfalgdlaaGreatDoor.doP
 split
 · exact ⟨(h.kn.del c.k).nd, fun e he => h.el e (List.mem_filter.1 he).1⟩
 · refine ⟨(h.kn.put (k := c.k) (v := c.v) hb.1).nd, fun e he => ?_⟩
   rcases List.mem_append.1 he with he | he
   · exact h.el e (List.mem_filter.1 he).1
   · rw [List.mem_singleton.1 he]
     exact ⟨⟨h1, h2, hb.1⟩, h3, hb.2⟩
theorem TOk.doPs : ∀ {L : List PC} {T : CT}, TOk T → (∀ c ∈ L, pcOk c = true) → (∀ c ∈ L, PcB c) → TOk (doPs T L)
 | [], _, h, _, _ => h
 | c :: L, T, h, h1, h2 => TOk.doPs (L := L) (h.doP (h1 c (List.mem_cons_self ..)) (h2 c (List.mem_cons_self ..))) (fun x hx => h1 x (List.mem_cons_of_mem _ hx)) (fun x hx => h2 x (List.mem_cons_of_mem _ hx))
theorem doP_perm (h : T.Perm T') (c : PC) : (doP T c).Perm (doP T' c) := by
 unfold doP cput cdel
 split
 · exact h.filter _
 · exact (h.filter _).append (List.Perm.refl _)
theorem doPs_perm : ∀ (L : List PC) {T T' : CT}, T.Perm T' → (doPs T L).Perm (doPs T' L)
 | [], _, _, h => h
 | c :: L, _, _, h => doPs_perm L (doP_perm h c)
theorem doPs_app (T : CT) (L M : List PC) : doPs T (L ++ M) = doPs (doPs T L) M := List.foldl_append ..
theorem doPs_puts : ∀ (P T : CT), ((T ++ P).map Prod.fst).Nodup → doPs T (P.map kvP) = T ++ P
 | [], T, _ => by simp [doPs]
 | e :: P, T, h => by
  have hne : e.1 ∉ T.map Prod.fst := fun hm => by
   rw [List.map_append, List.nodup_append] at h
   exact h.2.2 e.1 hm e.1 (by simp) rfl
  have h1 : doP T (kvP e) = T ++ [e] := by
   unfold doP kvP cput
   simp only [Bool.false_eq_true, if_false]
   rw [cdel_none hne]
  have h2 := doPs_puts P (T ++ [e]) (by rw [List.append_assoc]; exact h)
  show doPs (doP T (kvP e)) (P.map kvP) = _
  rw [h1, h2, List.append_assoc]
  rfl
def chOf (c : PC) : Ch := ⟨⟨none, c.k.length, 0, c.k⟩, ⟨none, c.v.length, 0, c.v⟩, c.d⟩
theorem chOf_map (L : List PC) : (L.map chOf).map pcOf = L := by
 rw [List.map_map]
 exact List.map_id _
theorem chOf_len (L : List PC) : LenOk (L.map chOf) := fun c hc => by
 obtain ⟨x, -, rfl⟩ := List.mem_map.1 hc
 exact ⟨rfl, rfl⟩
theorem parse_putP (h : pcsOk L = true) : parseB (putP L) = some L := by
 have h1 := putP_of (chOf_len L)
 rw [chOf_map] at h1
 have h2 : chsOk (L.map chOf) = true := by rw [← pcsOk_len (chOf_len L), chOf_map]; exact h
 rw [← h1, parse_put (chOf_len L) h2, chOf_map]
theorem chP_byt (hb : PcB c) : Byt (chP c) := by
 intro x hx
 unfold chP at hx
 simp only [List.mem_append, List.mem_singleton] at hx
 rcases hx with ((hx | hx) | hx) | hx
 · rw [hx]; split <;> omega
 · exact beL_byt _ _ x hx
 · exact hb.1 x hx
 · split at hx
   · cases hx
   · rcases List.mem_append.1 hx with hx | hx
     · exact beL_byt _ _ x hx
     · exact hb.2 x hx
theorem putP_byt (hb : ∀ c ∈ L, PcB c) : Byt (putP L) := by
 intro x hx
 unfold putP at hx
 rcases List.mem_append.1 hx with hx | hx
 · exact beL_byt _ _ x hx
 · obtain ⟨c, hc, hx⟩ := List.mem_flatMap.1 hx
   exact chP_byt (hb c hc) x hx
theorem chP_le (c : PC) : (chP c).length ≤ 5 + c.k.length + c.v.length := by
 unfold chP
 simp only [List.length_append, beL_len, List.length_cons, List.length_nil]
 split <;> simp [beL_len] <;> omega
theorem putP_le (L : List PC) : (putP L).length ≤ 2 + (L.map fun c => 5 + c.k.length + c.v.length).sum := by
 unfold putP
 rw [List.length_append, beL_len]
 induction L with
 | nil => simp
 | cons c L ih =>
  have := chP_le c
  rw [List.flatMap_cons, List.length_append, List.map_cons, List.sum_cons]
  omega
theorem putP_two (L : List PC) : 2 ≤ (putP L).length := by unfold putP; rw [List.length_append, beL_len]; omega
theorem spl_sum {α : Type} (f : α → Nat) (L : List α) : ∀ l ∈ rws (spl f L), (l.map f).sum ≤ 8190 ∨ ∃ y, l = [y] := by
 suffices h : ∀ (s : Option (List (List α) × List α)), (∀ l ∈ rws s, (l.map f).sum ≤ 8190 ∨ ∃ y, l = [y]) → ∀ l ∈ rws (L.foldl (spS f) s), (l.map f).sum ≤ 8190 ∨ ∃ y, l = [y] from h none (by simp [rws])
 induction L with
 | nil => intro s h; exact h
 | cons y L ih =>
  intro s h
  rw [List.foldl_cons]
  refine ih _ ?_
  rcases s with _ | ⟨C, l⟩
  · simp [spS, rws]
  · simp only [spS]
    have hC : ∀ x ∈ C, (x.map f).sum ≤ 8190 ∨ ∃ y, x = [y] := fun x hx => h x (by simp [rws, hx])
    have hl := h l (by simp [rws])
    split
    · next hc =>
      intro x hx
      simp only [rws, List.mem_append, List.mem_singleton] at hx
      rcases hx with hx | rfl
      · exact hC x hx
      · exact .inl (by simp; omega)
    · intro x hx
      simp only [rws, List.mem_append, List.mem_singleton] at hx
      rcases hx with (hx | rfl) | rfl
      · exact hC x hx
      · exact hl
      · exact .inr ⟨_, rfl⟩
theorem bat_rows (h : TOk T) : ∀ L ∈ batP T, pcsOk L = true ∧ (∀ c ∈ L, PcB c) ∧ (putP L).length ≤ 65536 := by
 intro L hL
 obtain ⟨r, hr, rfl⟩ := List.mem_map.1 hL
 have hmem : ∀ e ∈ r, e ∈ sct_l19 T := fun e he => by
  rw [← spl_flat sz1 (sct_l19 T)]
  exact List.mem_flatten.2 ⟨r, hr, he⟩
 have hel := fun e he => h.sct.el e (hmem e he)
 have hlen := spl_rows sz1 _ r hr
 refine ⟨?_, fun c hc => ?_, ?_⟩
 · unfold pcsOk
   simp only [Bool.and_eq_true, decide_eq_true_eq, List.all_eq_true, List.length_map]
   refine ⟨hlen, fun c hc => ?_⟩
   obtain ⟨e, he, rfl⟩ := List.mem_map.1 hc
   obtain ⟨⟨h1, h2, -⟩, h3, -⟩ := hel e he
   unfold pcOk kvP
   simp only [Bool.false_and, Bool.not_false, Bool.and_true, Bool.and_eq_true, decide_eq_true_eq]
   exact ⟨⟨h1, h2⟩, h3⟩
 · obtain ⟨e, he, rfl⟩ := List.mem_map.1 hc
   obtain ⟨⟨-, -, h1⟩, -, h2⟩ := hel e he
   exact ⟨h1, h2⟩
 · have hle := putP_le (r.map kvP)
   have hs : ((r.map kvP).map fun c => 5 + c.k.length + c.v.length).sum = (r.map sz1).sum := by rw [List.map_map]; rfl
   rw [hs] at hle
   rcases spl_sum sz1 _ r hr with h1 | ⟨y, rfl⟩
   · omega
   · obtain ⟨⟨h1, h2, -⟩, h3, -⟩ := hel y (by simp)
     simp only [List.map_cons, List.map_nil, List.sum_cons, List.sum_nil, sz1] at hle
     show (putP [kvP y]).length ≤ 65536
     omega
theorem rec_of {b : List Int} (h1 : 1 ≤ b.length) (h2 : b.length ≤ 65536) (hb : Byt b) : RecOk b := ⟨by rw [secN_in h1 h2]; omega, hb⟩
theorem bat_rec (h : TOk T) : ∀ b ∈ (batP T).map putP, RecOk b := fun b hb => by
 obtain ⟨L, hL, rfl⟩ := List.mem_map.1 hb
 obtain ⟨h1, h2, h3⟩ := bat_rows h L hL
 exact rec_of (by have := putP_two L; omega) h3 (putP_byt h2)
theorem bat_flat (T : CT) : (batP T).flatten = (sct_l19 T).map kvP := by
 unfold batP
 rw [← List.map_flatten, spl_flat]
theorem prsAll_puts : ∀ (LL : List (List PC)) (T : CT), (∀ L ∈ LL, pcsOk L = true) → prsAll T (LL.map putP) = some (doPs T LL.flatten)
 | [], T, _ => rfl
 | L :: LL, T, h => by
  rw [List.map_cons]
  unfold prsAll
  rw [parse_putP (h L (List.mem_cons_self ..))]
  simp only
  rw [prsAll_puts LL (doPs T L) fun x hx => h x (List.mem_cons_of_mem _ hx), List.flatten_cons, doPs_app]
theorem prsAll_bat (h : TOk T) : prsAll [] ((batP T).map putP) = some (sct_l19 T) := by
 rw [prsAll_puts _ _ fun L hL => (bat_rows h L hL).1, bat_flat, doPs_puts (sct_l19 T) [] h.sct.nd]
 rfl
theorem prsAll_snoc : ∀ (K : List (List Int)) (T : CT) {T2 : CT} {L : List PC}, prsAll T K = some T2 → pcsOk L = true → prsAll T (K ++ [putP L]) = some (doPs T2 L)
 | [], T, T2, L, h, hL => by
  injection h with h
  subst h
  show prsAll T [putP L] = _
  unfold prsAll
  rw [parse_putP hL]
  rfl
 | b :: K, T, T2, L, h, hL => by
  unfold prsAll at h
  rw [List.cons_append]
  unfold prsAll
  cases hp : parseB b with
  | none => rw [hp] at h; cases h
  | some M => rw [hp] at h; exact prsAll_snoc K (doPs T M) h hL
end
end Go.Proofs.YtfchcdbfalgdlaaGreatDoor
namespace Go.Proofs.YtfchcdbfalgdlaaGreatDoor
set_option linter.unusedVariables false
set_option linter.unusedSimpArgs false
set_option linter.constructorNameAsVariable false
open Go.RowKit Go.Sort Go.Maps
structure SOk (s : SW) (K : List (List Int)) : Prop where
 ok : s.p.Ok
 n4 : 4 ≤ s.p.size
 g1 : 1 ≤ s.gen
 g2 : s.gen < 4294967296
 man : s.p.fresh ((s.gen % 2 : Nat) : Int) = none ∧ sureC s.p ((s.gen % 2 : Nat) : Int) = manB s.gen
 oth : s.p.fresh (((s.gen + 1) % 2 : Nat) : Int) = none ∧ (sureC s.p (((s.gen + 1) % 2 : Nat) : Int) = sec0 ∨ ∃ g, g < s.gen ∧ sureC s.p (((s.gen + 1) % 2 : Nat) : Int) = manB g)
 log : s.l = { chain (log0 s.p.size s.gen) K with broken := s.l.broken }
 lb : s.broken = false → s.l.broken = false
 inv : ∃ b m T, (m = 0 ∨ m < secN b.length) ∧ (s.broken = false → m = 0) ∧ Inv s.p (log0 s.p.size s.gen) K K.length b m T
 rest : s.broken = false → ∀ x : Nat, x < hlf s.p.size → s.p.fresh (plc (log0 s.p.size (s.gen + 1)) x) ≠ none → valL ((s.p.get (plc (log0 s.p.size (s.gen + 1)) x)).take 4) = s.gen + 1
 up : s.broken = false → s.p.down = false
 tab : ∃ t, prsAll [] K = some t ∧ t.Perm s.t
 tok : TOk s.t
theorem reg_man {n g a : Nat} (ha : a < 2) : ¬ Reg (log0 n g) (a : Int) := fun ⟨x, hx, e⟩ => by
 unfold plc at e
 have : 2 ≤ (log0 n g).first := by show 2 ≤ fst0 g n; unfold fst0; omega
 omega
theorem reg_apart {n g g' : Nat} (h : g % 2 ≠ g' % 2) {x : Nat} (hx : x < hlf n) : ¬ Reg (log0 n g') (plc (log0 n g) x) := fun ⟨y, hy, e⟩ => by
 have h1 := fst0_apart (n := n) h hx (show y < hlf n from hy)
 unfold plc at e
 have e2 : fst0 g n + x = fst0 g' n + y := by
  have : (((log0 n g).first + x : Nat) : Int) = (((log0 n g').first + y : Nat) : Int) := e
  exact Int.ofNat.inj this
 exact h1 e2
theorem out_keeps {p q : DP} {a : Int} (h : Out p q a) (hf : p.fresh a = none) : q.fresh a = none ∧ sureC q a = sureC p a := by
 rcases h with ⟨h1, h2⟩ | ⟨h1, h2⟩
 · exact ⟨by rw [h1]; exact hf, by unfold sureC; rw [h2]⟩
 · exact ⟨h1, by rw [h2, get_clean hf]⟩
section
variable {s : SW} {K : List (List Int)} {q : DP}
theorem SOk.away (h : SOk s K) (hok : q.Ok) (hz : q.size = s.p.size) (ho : ∀ a, ¬ Reg (log0 s.p.size (s.gen + 1)) a → Out s.p q a) (bk : Bool)
    (hb : bk = false → s.broken = false ∧ q.down = false ∧ ∀ x : Nat, x < hlf s.p.size → q.fresh (plc (log0 s.p.size (s.gen + 1)) x) ≠ none → valL ((q.get (plc (log0 s.p.size (s.gen + 1)) x)).take 4) = s.gen + 1) :
    SOk { s with p := q, broken := bk } K := by
 have m1 := out_keeps (ho _ (reg_man (a := s.gen % 2) (by omega))) h.man.1
 have m2 := out_keeps (ho _ (reg_man (a := (s.gen + 1) % 2) (by omega))) h.oth.1
 obtain ⟨b, m, T, h1, h2, h3⟩ := h.inv
 refine ⟨hok, by show 4 ≤ q.size; rw [hz]; exact h.n4, h.g1, h.g2, ⟨m1.1, m1.2.trans h.man.2⟩, ⟨m2.1, by rw [show sureC q _ = _ from m2.2]; exact h.oth.2⟩, ?_, fun e => h.lb (hb e).1, ⟨b, m, T, h1, fun e => h2 (hb e).1, ?_⟩, fun e => ?_, fun e => (hb e).2.1, h.tab, h.tok⟩
 · show s.l = { chain (log0 q.size s.gen) K with broken := s.l.broken }
   rw [hz]
   exact h.log
 · show Inv q (log0 q.size s.gen) K K.length b m T
   rw [hz]
   exact h3.out hok hz fun x hx => ho _ (reg_apart (by omega) hx)
 · show ∀ x : Nat, x < hlf q.size → q.fresh (plc (log0 q.size (s.gen + 1)) x) ≠ none → _
   rw [hz]
   exact (hb e).2.2
theorem SOk.g0 (h : SOk s K) : s.gen ≠ 0 := by have := h.g1; omega
theorem cut_sure {p : DP} (h : p.Ok) (keep : List Bool) {a : Int} (hf : p.fresh a = none) : (p.cut keep).get a = sureC p a := by
 have e : (p.cut keep).get a = (cutS p keep p.order.length a).getD sec0 := rfl
 rw [e]
 rcases cut_or h keep p.order.length (Nat.le_refl _) a with h1 | ⟨h1, -⟩
 · rw [h1]; rfl
 · exact absurd hf h1
theorem man1_at {p : DP} {a g : Nat} (ha : a < p.size) (hg : p.get (a : Int) = manB g) (h : g < 4294967296) : man1 p a = if g % 2 = a then g else 0 := by
 have e : p.rget (a : Int) = manB g := by
  unfold DP.rget DP.within
  rw [decide_eq_true ⟨by omega, by omega⟩, if_pos rfl]
  exact hg
 unfold man1
 rw [e, manB_num h]
 simp
theorem man1_0 {p : DP} {a : Nat} (ha : a < p.size) (hg : p.get (a : Int) = sec0) : man1 p a = 0 := by
 have e : p.rget (a : Int) = sec0 := by
  unfold DP.rget DP.within
  rw [decide_eq_true ⟨by omega, by omega⟩, if_pos rfl]
  exact hg
 unfold man1
 rw [e]
 have : valL (sec0.take 4) = 0 := rfl
 rw [this]
 split <;> rfl
theorem cnt_of {p : DP} {g : Nat} (h4 : 4 ≤ p.size) (h : g < 4294967296) (h1 : p.get ((g % 2 : Nat) : Int) = manB g) (h2 : p.get (((g + 1) % 2 : Nat) : Int) = sec0 ∨ ∃ g', g' < g ∧ p.get (((g + 1) % 2 : Nat) : Int) = manB g') : cnt p = g := by
 have a1 : man1 p (g % 2) = g := by rw [man1_at (by omega) h1 h, if_pos rfl]
 have a2 : man1 p ((g + 1) % 2) ≤ g := by
  rcases h2 with h2 | ⟨g', h3, h2⟩
  · rw [man1_0 (by omega) h2]; omega
  · rw [man1_at (by omega) h2 (by omega)]
    split <;> omega
 unfold cnt
 have hp : g % 2 = 0 ∨ g % 2 = 1 := by omega
 rcases hp with hp | hp
 · rw [hp] at a1
   rw [show (g + 1) % 2 = 1 by omega] at a2
   rw [a1]
   exact Nat.max_eq_left a2
 · rw [hp] at a1
   rw [show (g + 1) % 2 = 0 by omega] at a2
   rw [a1]
   exact Nat.max_eq_right a2
theorem SOk.open_ (h : SOk s K) (keep : List Bool) : ∃ s', opnS (s.p.cut keep) = (s'.p, 0, some s') ∧ SOk s' K ∧ s'.gen = s.gen ∧ s'.broken = false ∧ s'.t.Perm s.t ∧ s'.p.size = s.p.size := by
 obtain ⟨b, m, T, h1, -, h3⟩ := h.inv
 have hR := h3.cut h1 keep
 have hz : (s.p.cut keep).size = s.p.size := rfl
 have hc : cnt (s.p.cut keep) = s.gen := by
  refine cnt_of (by rw [hz]; exact h.n4) h.g2 (by rw [cut_sure h.ok keep h.man.1]; exact h.man.2) ?_
  rw [cut_sure h.ok keep h.oth.1]
  exact h.oth.2
 obtain ⟨j, j1, j2, j3, j4⟩ := hR.run
 have hj : j = K.length := by omega
 subst hj
 rw [List.take_length] at j3
 obtain ⟨w1, w2, w3, w4⟩ := hR.wipe (Nat.le_refl _) j4
 rw [List.take_length] at w1 w2 w3 w4
 obtain ⟨t, t1, t2⟩ := h.tab
 obtain ⟨q, hq⟩ : ∃ q, q = (wipeL (s.p.cut keep) (chain (log0 s.p.size s.gen) K)).1 := ⟨_, rfl⟩
 have hops : Ops (Reg (chain (log0 s.p.size s.gen) K)) (s.p.cut keep) q := by
  rw [hq]
  refine wipe_ops _ _ ?_
  rw [(chain_same _ K).2.1]
  exact h3.room
 rw [← hq] at w2 w3 w4
 have hreg : ∀ a, Reg (chain (log0 s.p.size s.gen) K) a → Reg (log0 s.p.size s.gen) a := fun a ⟨x, hx, e⟩ => by
  rw [(chain_same _ K).2.1] at hx
  unfold plc at e
  rw [(chain_same _ K).1] at e
  exact ⟨x, hx, e⟩
 have hout := fun a ha => (hops.mono hreg).out (a := a) ha
 have hsz : q.size = s.p.size := w3
 obtain ⟨T', w4⟩ : ∃ T', Inv q (log0 s.p.size s.gen) K K.length [] 0 T' := ⟨_, w4⟩
 have m1 := out_keeps (hout _ (reg_man (a := s.gen % 2) (by omega))) rfl
 have m2 := out_keeps (hout _ (reg_man (a := (s.gen + 1) % 2) (by omega))) rfl
 have e1 : sureC (s.p.cut keep) ((s.gen % 2 : Nat) : Int) = manB s.gen := by rw [← get_clean (p := s.p.cut keep) rfl, cut_sure h.ok keep h.man.1]; exact h.man.2
 have e2 : sureC (s.p.cut keep) (((s.gen + 1) % 2 : Nat) : Int) = sureC s.p (((s.gen + 1) % 2 : Nat) : Int) := by rw [← get_clean (p := s.p.cut keep) rfl, cut_sure h.ok keep h.oth.1]
 refine ⟨⟨q, chain (log0 s.p.size s.gen) K, t, s.gen, false⟩, ?_, ?_, rfl, rfl, t2, hsz⟩
 · unfold opnS
   rw [if_neg (by rw [hz]; have := h.n4; omega), hc, if_neg h.g0]
   simp only
   rw [show (s.p.cut keep).size = s.p.size from rfl, j3]
   simp only
   rw [t1, ← hq]
 · refine ⟨w2.ok, by show 4 ≤ q.size; rw [hsz]; exact h.n4, h.g1, h.g2, ⟨m1.1, m1.2.trans e1⟩, ⟨m2.1, by rw [show sureC q _ = _ from m2.2, e2]; exact h.oth.2⟩, ?_, fun _ => ?_, ⟨[], 0, T', .inl rfl, fun _ => rfl, ?_⟩, fun _ x _ hx => absurd (w2.fresh _) hx, fun _ => w2.up, ⟨t, t1, List.Perm.refl _⟩, h.tok.perm t2.symm⟩
   · show chain (log0 s.p.size s.gen) K = { chain (log0 q.size s.gen) K with broken := (chain (log0 s.p.size s.gen) K).broken }
     rw [hsz]
   · show (chain (log0 s.p.size s.gen) K).broken = false
     rw [(chain_same _ K).2.2.2]
     rfl
   · show Inv q (log0 q.size s.gen) K K.length [] 0 _
     rw [hsz]
     exact w4
end
end Go.Proofs.YtfchcdbfalgdlaaGreatDoor
