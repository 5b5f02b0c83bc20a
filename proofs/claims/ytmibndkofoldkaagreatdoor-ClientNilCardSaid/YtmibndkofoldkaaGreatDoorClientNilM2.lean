/- Texts of one proof, one behind the other: ShD, Map, Typ, Bs, OcW, ShE, MxIn, ShK, MxR, ShS. No condition but each one's own. -/
import Derived.Test.YtmibndkofoldkaaGreatDoorClientNilM1
import Derived.Maps.OwnOps
import Derived.Maps.OwnSet
import Derived.Maps.Views
import Derived.Great.BuildSlice
import Derived.IntWalk
import Derived.OwnWalkIn
import Derived.TacticsInMore
import Derived.LoopNIn
import Derived.LoopIn
import Derived.Laws.Cover3
import Derived.Laws.CopyOwn
import Derived.Shelf.Abstract
namespace Go.Proofs.YtmibndkofoldkaaGreatDoor
set_option linter.unusedVariables false
set_option linter.unusedSimpArgs false
set_option linter.constructorNameAsVariable false
open Go.RowKit Go.Sort
theorem index_w {ws : List Int} {t : Nat} (h : t < 64) (hl : ws.length = 64) (w : World) : (Instr.index 366 (.agg (u32A 64 ws)) (.int .i64 (t : Int))).run Tryz.prog w = .ok (.int .u32 (at_ ws t)) w := by
 have hs : (sizeOf 339).run Tryz.prog w = .ok 1 w := by
  first | exact Tryz.sizeOf339 w | simp [Tryz.sizeOf339, go_sem] | kernel_rfl
 have hc : (u32A 64 ws)[t]? = some (.int .u32 (at_ ws t)) := u32A_get (by rw [hl]; exact h)
 have hp : (part 339 (u32A 64 ws) t).run Tryz.prog w = .ok (.int .u32 (at_ ws t)) w := by
  have hg : (isAgg 339).run Tryz.prog w = .ok false w := by
   first | kernel_rfl | simp [isAgg, run_underlying Tryz.underlying339, go_sem]
  simp [part, hg, hc, go_sem]
 have hn : (t : Int) < 64 := by omega
 simp [Instr.index, run_underlying Tryz.underlying366, asIntOf, hs, hp, hn, go_sem]
 rw [if_pos h, hc]
 simp
set_option maxHeartbeats 4000000 in
set_option maxRecDepth 100000 in
theorem compress_any (S : H8) (s : List Int) (w : World) (hK : ∀ t, t < 64 → w.cell? ⟨3, t, none⟩ = some (.int .u32 (at_ kL t))) (hS : S.Ok) (hs : s.length = 64) (hb : Byt s) : Calls Tryz.prog 221 #[.agg S.arr, .agg (secA s)] w fun e w' => e = .returned (.agg (compr S s).arr) ∧ New w w' := by
 have HS := Lib.hid hs
 have HB := Lib.hid hb
 have HO := Lib.hid hS
 have HK := Lib.hid hK
 clear hs hb hS hK
 have HADD : Hid (u32A 8 (addTo (rnds (fun t => at_ kL t) (sprd s 64) S 64).list S.list 8) = (compr S s).arr) := Lib.hid (addTo_8 _ _)
 obtain ⟨K, hKe⟩ : ∃ K : Nat → Int, K = fun t => at_ kL t := ⟨_, rfl⟩
 have hkb : ∀ t, 0 ≤ K t ∧ K t < 4294967296 := fun t => by rw [hKe]; exact kL_b t
 have HKB := Lib.hid hkb
 have HK2 : Hid (∀ t, t < 64 → w.cell? ⟨3, t, none⟩ = some (.int .u32 (K t))) := Lib.hid (by rw [hKe]; exact HK.out)
 rw [← hKe] at HADD
 clear hKe hkb HK
 obtain ⟨RA, hRA⟩ : ∃ RA, RA = (compr S s).arr := ⟨_, rfl⟩
 rw [← hRA]
 have HRA := Lib.hid hRA
 clear hRA
 obtain ⟨a, b, c, d, e, f, g, hz⟩ := S
 unfold H8.arr
 dsimp only
 go_enter Tryz.func221, Tryz.ntmps221
 go_upto_region 2 with fail
 obtain ⟨w1, hw1⟩ : ∃ w1 : World, w1 = (((w.alloc (.cells #[.int .u32 a, .int .u32 b, .int .u32 c, .int .u32 d, .int .u32 e, .int .u32 f, .int .u32 g, .int .u32 hz] 340)).alloc (.cells (secA s) 153)).alloc (.cells #[.int .u32 0, .int .u32 0, .int .u32 0, .int .u32 0, .int .u32 0, .int .u32 0, .int .u32 0, .int .u32 0] 340)).alloc (.cells #[.int .u32 a, .int .u32 b, .int .u32 c, .int .u32 d, .int .u32 e, .int .u32 f, .int .u32 g, .int .u32 hz] 340) := ⟨_, rfl⟩
 obtain ⟨b3, hb3⟩ : ∃ b3, b3 = w.heap.size + 1 := ⟨_, rfl⟩
 obtain ⟨b4, hb4⟩ : ∃ b4, b4 = w.heap.size + 1 + 1 := ⟨_, rfl⟩
 obtain ⟨b5, hb5⟩ : ∃ b5, b5 = w.heap.size + 1 + 1 + 1 := ⟨_, rfl⟩
 obtain ⟨b2, hb2⟩ : ∃ b2, b2 = w.heap.size := ⟨_, rfl⟩
 have HN1 : Hid (New w w1) := Lib.hid (by rw [hw1]; exact New.al (New.al (New.al (New.al (New.refl _) _) _) _) _)
 have HB2 : Hid (Blk w1 b2 340 (H8.arr ⟨a, b, c, d, e, f, g, hz⟩)) := Lib.hid (by rw [hw1, hb2]; exact (((Blk.new _ _ _).alloc _).alloc _).alloc _)
 have HB3 : Hid (Blk w1 b3 153 (secA s)) := Lib.hid (by rw [hw1, hb3]; exact ((Blk.new' _ _ _ (by simp)).alloc _).alloc _)
 have HB4 : Hid (Blk w1 b4 340 (u32A 8 [])) := Lib.hid (by rw [hw1, hb4]; exact (Blk.new' _ _ _ (by simp)).alloc _)
 have HB5 : Hid (Blk w1 b5 340 (H8.arr ⟨a, b, c, d, e, f, g, hz⟩)) := Lib.hid (by rw [hw1, hb5]; exact Blk.new' _ _ _ (by simp))
 have HZ : Hid (b2 = w.heap.size ∧ b3 = w.heap.size + 1 ∧ b4 = w.heap.size + 2 ∧ b5 = w.heap.size + 3) := Lib.hid ⟨hb2, hb3, hb4, hb5⟩
 rw [← hw1, ← hb5, ← hb4, ← hb3, ← hb2]
 clear hw1 hb2 hb3 hb4 hb5
 have hss : (secA s).size = 64 := by rw [secA_size, HS.out]
 go_wp2_with ((with_reducible refine atOp ⟨some 18, .load _ _, _, _, _, _⟩ ?_); refine wpList_load_any rfl _ rfl Tryz.underlying153 rfl (by rw [hss]; rfl) rfl HB3.out ?_)
 refine (spread_any s w1 HS.out HB.out).mono ?_
 rintro ee w2 ⟨rfl, hN2⟩
 have HB2 := Lib.hid (hN2.blk HB2.out)
 have HB5 := Lib.hid (hN2.blk HB5.out)
 have HB4 := Lib.hid (hN2.blk HB4.out)
 have HN2 : Hid (New w w2) := Lib.hid (HN1.out.tr hN2)
 clear hN2 hss
 obtain ⟨ws, hws⟩ : ∃ ws, ws = sprd s 64 := ⟨_, rfl⟩
 have HWS := Lib.hid hws
 have HWL : Hid (ws.length = 64) := Lib.hid (by rw [hws]; exact sprd_len s 64)
 rw [← hws]
 clear hws
 go_wp2_with fail
 go_loopw [20] (fun i wr => ∃ (t : Nat), t ≤ 64 ∧ i = .int .i64 t ∧ Hid (New w wr) ∧ Hid (Blk wr b4 340 (u32A 8 [])) ∧ Hid (Blk wr b2 340 (H8.arr ⟨a, b, c, d, e, f, g, hz⟩)) ∧ Hid (Blk wr b5 340 (rnds K ws ⟨a, b, c, d, e, f, g, hz⟩ t).arr)) (fun i _ => 64 - (intOf i).toNat)
 case atStart => exact ⟨0, Nat.zero_le _, rfl, HN2, HB4, HB2, HB5⟩
 case round =>
  clear HB2 HB4 HB5 HN2 HN1
  obtain ⟨t, ht, rfl, HN, HB4, HB2, HB5⟩ := hrel
  by_cases hlt : t < 64
  · have ht0 : (0 : Int) ≤ (t : Int) := by omega
    have ht6 : (t : Int) < 64 := by omega
    have hok := rnds_ok (K := K) (W := ws) HO.out t
    obtain ⟨x, hx⟩ : ∃ x, x = rnds K ws ⟨a, b, c, d, e, f, g, hz⟩ t := ⟨_, rfl⟩
    rw [← hx] at hok
    have HX := Lib.hid hx
    have HBX : Hid (Blk wr b5 340 x.arr) := Lib.hid (by rw [hx]; exact HB5.out)
    clear hx HB5
    obtain ⟨xa, xb, xc, xd, xe, xf, xg, xh⟩ := x
    have hea : 0 ≤ xa ∧ xa < 4294967296 := hok.a
    have hee : 0 ≤ xe ∧ xe < 4294967296 := hok.e
    have c0 : wr.cell? ⟨b5, 0, none⟩ = some (.int .u32 xa) := HBX.out.cell 0
    have c1 : wr.cell? ⟨b5, 1, none⟩ = some (.int .u32 xb) := HBX.out.cell 1
    have c2 : wr.cell? ⟨b5, 2, none⟩ = some (.int .u32 xc) := HBX.out.cell 2
    have c3 : wr.cell? ⟨b5, 3, none⟩ = some (.int .u32 xd) := HBX.out.cell 3
    have c4 : wr.cell? ⟨b5, 4, none⟩ = some (.int .u32 xe) := HBX.out.cell 4
    have c5 : wr.cell? ⟨b5, 5, none⟩ = some (.int .u32 xf) := HBX.out.cell 5
    have c6 : wr.cell? ⟨b5, 6, none⟩ = some (.int .u32 xg) := HBX.out.cell 6
    have c7 : wr.cell? ⟨b5, 7, none⟩ = some (.int .u32 xh) := HBX.out.cell 7
    have hwt : (u32A 64 ws)[t]? = some (.int .u32 (at_ ws t)) := u32A_get (by rw [HWL.out]; exact hlt)
    have hwz : (u32A 64 ws).size = 64 := u32A_size (by rw [HWL.out]; exact Nat.le_refl _)
    have hix := index_w hlt HWL.out
    go_wp2_with fail
    refine wp_region_mixH (New wr) [(true, 0), (true, 1), (true, 2), (true, 3), (true, 4), (true, 5), (true, 6), (true, 7), (true, 8), (true, 9), (true, 10), (true, 11), (true, 12), (true, 13), (true, 14), (true, 15), (true, 16), (true, 17)] (by kernel_rfl) (by kernel_rfl) (New.dr (New.refl wr)) (fun hne => ?_)
    have q0 : ∀ p : HW (New wr), p.w.cell? ⟨b5, 0, none⟩ = some (.int .u32 xa) := fun p => p.h.cell_ c0
    have q1 : ∀ p : HW (New wr), p.w.cell? ⟨b5, 1, none⟩ = some (.int .u32 xb) := fun p => p.h.cell_ c1
    have q2 : ∀ p : HW (New wr), p.w.cell? ⟨b5, 2, none⟩ = some (.int .u32 xc) := fun p => p.h.cell_ c2
    have q4 : ∀ p : HW (New wr), p.w.cell? ⟨b5, 4, none⟩ = some (.int .u32 xe) := fun p => p.h.cell_ c4
    have q5 : ∀ p : HW (New wr), p.w.cell? ⟨b5, 5, none⟩ = some (.int .u32 xf) := fun p => p.h.cell_ c5
    have q6 : ∀ p : HW (New wr), p.w.cell? ⟨b5, 6, none⟩ = some (.int .u32 xg) := fun p => p.h.cell_ c6
    iterate 18 (refine mix_take (o := ⟨_, _, _, _, _, _⟩) rfl (fun K hK => ?_); go_simp; refine hK _ ?_; clear hK K)
    clear q0 q1 q2 q4 q5 q6 hne
    refine mix_done ?_
    have k7 := cell_regrown (show (wr.drew).cell? ⟨b5, 7, none⟩ = some (.int .u32 xh) from c7)
    have kK := cell_regrown (show (wr.drew).cell? ⟨3, t, none⟩ = some (.int .u32 (K t)) from HN.out.cell_ (HK2.out t hlt))
    have cT : ∀ (x : Int) (k : Nat), (0 ≤ x ∧ x < 4294967296) → (1 ≤ k ∧ k ≤ 31) → ∀ d os, Calls Tryz.prog 241 #[.int .u32 x, .int .i64 (k : Int)] (grow (redrawn wr.drew d) os) fun e w'' => e = .returned (.int .u32 (rotr x k)) ∧ ∃ p : Regrown, w'' = grow (redrawn wr.drew p.d) p.os :=
     fun x k hx hk => calls_regrown (fun W _ => (turn_any x k W hx hk).mono fun e w' h => ⟨h.1, by rw [← h.2]; exact New.refl _⟩)
    have t1 := cT xe 6 hee (by omega)
    have t2 := cT xe 11 hee (by omega)
    have t3 := cT xe 25 hee (by omega)
    clear cT hix hwt hwz
    go_wp2_with fail
    refine wp_region_quiet_below (by kernel_rfl) (by kernel_rfl) ?_
    repeat (quiet_step (first | exact t1 _ _ | exact t2 _ _ | exact t3 _ _))
    refine wpQuiet_nil ?_
    intro _ hw'
    obtain ⟨⟨dq, osq⟩, hw''⟩ := hw'
    obtain ⟨Wq, hWq⟩ : ∃ Wq, Wq = grow (redrawn wr.drew dq) osq := ⟨_, rfl⟩
    have HNq : Hid (New wr Wq) := Lib.hid (New.tr (New.dr (New.refl wr)) (by rw [hWq]; exact below_regrown _ dq osq))
    rw [hw'', ← hWq]
    clear hw'' hWq t1 t2 t3 k7 kK
    obtain ⟨pv, hpv⟩ : ∃ pv, pv = cP (K t) (at_ ws t) ⟨xa, xb, xc, xd, xe, xf, xg, xh⟩ := ⟨_, rfl⟩
    have hpv2 : IntKind.u32.wrap (IntKind.u32.wrap (IntKind.u32.wrap (IntKind.u32.wrap (xh + bits BinOp.xor .u32 (bits BinOp.xor .u32 (rotr xe 6) (rotr xe 11)) (rotr xe 25)) + bits BinOp.xor .u32 (bits BinOp.and .u32 xe xf) (bits BinOp.and .u32 (bits BinOp.xor .u32 (if IntKind.u32.signed = true then -1 else IntKind.u32.max) xe) xg)) + K t) + at_ ws t) = pv := hpv.symm
    rw [hpv2]
    have HPV := Lib.hid hpv
    clear hpv hpv2
    have d3 : Wq.cell? ⟨b5, 3, none⟩ = some (.int .u32 xd) := HNq.out.cell_ c3
    clear c0 c1 c2 c3 c4 c5 c6 c7
    go_wp2_with fail
    refine (turn_any xa 2 Wq hea (by omega)).mono ?_
    rintro ee w5 ⟨rfl, rfl⟩
    go_wp2_with fail
    refine (turn_any xa 13 Wq hea (by omega)).mono ?_
    rintro ee w5 ⟨rfl, rfl⟩
    go_wp2_with fail
    refine (turn_any xa 22 Wq hea (by omega)).mono ?_
    rintro ee w5 ⟨rfl, rfl⟩
    have HBq : Hid (Blk Wq b5 340 (H8.arr ⟨xa, xb, xc, xd, xe, xf, xg, xh⟩)) := Lib.hid (HNq.out.blk HBX.out)
    go_wp2_with ((with_reducible refine atOp ⟨none, .store 340 (.tmp 5) _, _, _, _, _⟩ ?_); refine wpList_store_any rfl (.tmp 5) (.tmp 95) rfl rfl rfl rfl HBq.out rfl (by simp [Value.oneCell']) ?_; intro w8 hb8 hf8; have HB8 := Lib.hid hb8; have HF8 := Lib.hid hf8; clear hb8 hf8)
    have HN8 : Hid (New w w8) := Lib.hid ((HN.out.tr HNq.out).fr HF8.out (fun k hk => by have := HZ.out; omega))
    have HB28 : Hid (Blk w8 b2 340 (H8.arr ⟨a, b, c, d, e, f, g, hz⟩)) := Lib.hid ((HNq.out.blk HB2.out).fr HF8.out (by have := HZ.out; omega))
    have HB48 : Hid (Blk w8 b4 340 (u32A 8 [])) := Lib.hid ((HNq.out.blk HB4.out).fr HF8.out (by have := HZ.out; omega))
    have HB58 : Hid (Blk w8 b5 340 (rnds K ws ⟨a, b, c, d, e, f, g, hz⟩ (t + 1)).arr) := Lib.hid (by
     show Blk w8 b5 340 (cR (K t) (at_ ws t) (rnds K ws ⟨a, b, c, d, e, f, g, hz⟩ t)).arr
     rw [← HX.out]
     have e1 : add32 pv (cQ ⟨xa, xb, xc, xd, xe, xf, xg, xh⟩) = (pv + (xor32 (xor32 (rotr xa 2) (rotr xa 13)) (rotr xa 22) + xor32 (xor32 (and32 xa xb) (and32 xa xc)) (and32 xb xc))) % 4294967296 := add_q _ _ _
     have e2 := add_m xd pv
     unfold cR H8.arr
     rw [← HPV.out]
     dsimp only
     rw [e1, e2]
     exact HB8.out)
    go_roundw
    case rel => exact ⟨t + 1, by omega, by go_num, HN8, HB48, HB28, HB58⟩
    case measure => simp [intOf]; omega
  · have HT64 : Hid (t = 64) := Lib.hid (by omega)
    have hn64 : ¬ (t : Int) < 64 := by omega
    obtain ⟨R, hR⟩ : ∃ R, R = rnds K ws ⟨a, b, c, d, e, f, g, hz⟩ 64 := ⟨_, rfl⟩
    have HRO : Hid R.Ok := Lib.hid (by rw [hR]; exact rnds_ok HO.out 64)
    have HB5R : Hid (Blk wr b5 340 (u32A 8 (addTo R.list (H8.list ⟨a, b, c, d, e, f, g, hz⟩) 0))) := Lib.hid (by rw [hR, ← HT64.out]; exact HB5.out)
    obtain ⟨SL, hSL⟩ : ∃ SL, SL = H8.list ⟨a, b, c, d, e, f, g, hz⟩ := ⟨_, rfl⟩
    have HB2S : Hid (Blk wr b2 340 (u32A 8 SL)) := Lib.hid (by rw [hSL]; exact HB2.out)
    have HSB : Hid (SL.length = 8) := Lib.hid (by rw [hSL]; rfl)
    have HEND : Hid (u32A 8 (addTo R.list SL 8) = (compr ⟨a, b, c, d, e, f, g, hz⟩ s).arr) := Lib.hid (by rw [hR, hSL, HWS.out]; exact HADD.out)
    rw [← hSL] at HB5R
    have HNr := HN
    have HB4r := HB4
    clear hR hSL HB5 HB2 HADD HN HB4
    obtain ⟨wo, hwo⟩ : ∃ wo : World, wo = wr := ⟨_, rfl⟩
    rw [← hwo] at HB5R HB2S HNr HB4r ⊢
    clear hwo
    go_wp2_with fail
    clear hn64 hlt ht HT64
    go_loopw [97] (fun i wr => ∃ (k : Nat), k ≤ 8 ∧ i = .int .i64 k ∧ Hid (New w wr) ∧ Hid (Blk wr b4 340 (u32A 8 [])) ∧ Hid (Blk wr b2 340 (u32A 8 SL)) ∧ Hid (Blk wr b5 340 (u32A 8 (addTo R.list SL k)))) (fun i _ => 8 - (intOf i).toNat)
    case atStart => exact ⟨0, Nat.zero_le _, rfl, HNr, HB4r, HB2S, HB5R⟩
    case round =>
     clear HNr HB4r HB2S HB5R
     obtain ⟨k, hk, rfl, HN, HB4, HB2, HB5⟩ := hrel
     by_cases hlk : k < 8
     · have hk0 : (0 : Int) ≤ (k : Int) := by omega
       have hk8 : (k : Int) < 8 := by omega
       have c5 : wr.cell? ⟨b5, k, none⟩ = some (.int .u32 (at_ R.list k)) := by
        rw [HB5.out.cell k, u32A_get (by rw [addTo_len]; exact hlk), addTo_at hlk]
       have c2 : wr.cell? ⟨b2, k, none⟩ = some (.int .u32 (at_ SL k)) := by
        rw [HB2.out.cell k, u32A_get (by rw [HSB.out]; exact hlk)]
       have HC5 := Lib.hid c5
       have d5 := cell_regrown c5
       have d2 := cell_regrown c2
       clear c5 c2
       go_wp2_with fail
       refine wp_region_tail 8 (by kernel_rfl) (by kernel_rfl) ?_
       simp only [List.take_succ_cons, List.take_zero, List.drop_succ_cons, List.drop_zero]
       repeat (quiet_step (fail))
       refine wpQuiet_nil ?_
       intro Wq hNq
       have HNq : Hid (New wr Wq) := Lib.hid hNq
       have e5 : Wq.cell? ⟨b5, k, none⟩ = some (.int .u32 (at_ R.list k)) := HNq.out.cell_ HC5.out
       have f5 : Wq.frozen? ⟨b5, k, none⟩ = false := (HNq.out.blk HB5.out).frozen k
       clear d5 d2 hNq
       obtain ⟨v, hv⟩ : ∃ v, v = add32 (at_ R.list k) (at_ SL k) := ⟨_, rfl⟩
       have hv2 : IntKind.u32.wrap (at_ R.list k + at_ SL k) = v := hv.symm
       try rw [hv2]
       have HV := Lib.hid hv
       clear hv hv2
       have HF : Hid (Fr (fun j => j = b5) Wq (Wq.setCell ⟨b5, k, none⟩ (.int .u32 v))) := Lib.hid ((Fr.refl (fun j => j = b5) Wq).setCell (p := ⟨b5, k, none⟩) (fun _ => rfl) _)
       have HN6 : Hid (New w (Wq.setCell ⟨b5, k, none⟩ (.int .u32 v))) := Lib.hid ((HN.out.tr HNq.out).fr HF.out (fun k hk => by have := HZ.out; omega))
       have HB46 : Hid (Blk (Wq.setCell ⟨b5, k, none⟩ (.int .u32 v)) b4 340 (u32A 8 [])) := Lib.hid ((HNq.out.blk HB4.out).fr HF.out (by have := HZ.out; omega))
       have HB26 : Hid (Blk (Wq.setCell ⟨b5, k, none⟩ (.int .u32 v)) b2 340 (u32A 8 SL)) := Lib.hid ((HNq.out.blk HB2.out).fr HF.out (by have := HZ.out; omega))
       have HB56 : Hid (Blk (Wq.setCell ⟨b5, k, none⟩ (.int .u32 v)) b5 340 (u32A 8 (addTo R.list SL (k + 1)))) := Lib.hid (by
        have := (HNq.out.blk HB5.out).set k (.int .u32 v)
        rw [HV.out, addTo_set hlk] at this
        rw [HV.out]
        exact this)
       go_wp2_with fail
       go_roundw
       case rel => exact ⟨k + 1, by omega, by go_num, HN6, HB46, HB26, HB56⟩
       case measure => simp [intOf]; omega
     · obtain rfl : k = 8 := by omega
       have hsz : (u32A 8 (addTo R.list SL 8)).size = 8 := u32A_size (by rw [addTo_len]; exact Nat.le_refl _)
       have hsz0 : (u32A 8 []).size = (u32A 8 (addTo R.list SL 8)).size := by rw [hsz]; exact u32A_size (by simp)
       go_wp2_with (first
        | ((with_reducible refine atOp ⟨some 109, .load _ _, _, _, _, _⟩ ?_); refine wpList_load_any rfl _ rfl Tryz.underlying340 rfl (by rw [hsz]; rfl) rfl HB5.out ?_)
        | ((with_reducible refine atOp ⟨none, .store 340 (.tmp 4) _, _, _, _, _⟩ ?_); refine wpList_store_any rfl (.tmp 4) (.tmp 109) rfl (by rw [hsz]; rfl) rfl rfl HB4.out hsz0 (u32A_one _ _) ?_; intro w8 hb8 hf8; have HB8 := Lib.hid hb8; have HF8 := Lib.hid hf8; clear hb8 hf8))
       rw [HRA.out, ← HEND.out]
       exact bodyPost_ret (v := .agg (u32A 8 (addTo R.list SL 8))) (results_rowA rfl _ _ b4 _ _ rfl HB8.out Tryz.underlying340 rfl (by rw [hsz]; rfl)) rfl ⟨rfl, HN.out.fr HF8.out (fun k hk => by have := HZ.out; omega)⟩
end Go.Proofs.YtmibndkofoldkaaGreatDoor
namespace Go.Proofs.YtmibndkofoldkaaGreatDoor
set_option linter.unusedVariables false
set_option linter.unusedSimpArgs false
set_option linter.constructorNameAsVariable false
open Go.RowKit Go.Maps
def Rv (v : Value) : Option (DataW Value × List MemPlace) := some (.held v, [])
def valOf : DataW Value → Value | .held v => v | _ => undef
def putF (f : Lit → Option Value) (kl : Lit) (v : Option Value) : Lit → Option Value := fun x => if x.sameKey kl then v else f x
theorem putF_same {f : Lit → Option Value} {kl : Lit} (hk : WideAt.IsKeyLit kl) (v : Option Value) : putF f kl v kl = v := by
 unfold putF
 rw [if_pos (by cases kl <;> simp_all [Lit.sameKey, WideAt.IsKeyLit])]
theorem putF_other {f : Lit → Option Value} {kl x : Lit} (h : x ≠ kl) (v : Option Value) : putF f kl v x = f x := by
 unfold putF
 rw [if_neg (by rw [Maps.sameKey_ne h]; simp)]
def MapAt (w : World) (P : Program) (k : TypeId) (b n : Nat) (f : Lit → Option Value) : Prop :=
 ∃ D : DataW Value, w.ownsMap P k Rv b n D ∧ ∀ kl, f kl = if Maps.has D kl then some (valOf (D.atKey kl (.held undef))) else none
section
variable {P : Program} {k : TypeId} {w w' : World} {b n : Nat} {f : Lit → Option Value}
theorem MapAt.lt (h : MapAt w P k b n f) : b < w.heap.size := by obtain ⟨D, hD, _⟩ := h; exact hD.lt
theorem MapAt.mono (h : MapAt w P k b n f) {m : Nat} (hm : n ≤ m) : MapAt w P k b m f := by obtain ⟨D, hD, hf⟩ := h; exact ⟨D, hD.mono hm, hf⟩
theorem MapAt.fr {S : Nat → Prop} (h : MapAt w P k b n f) (hf : Fr S w w') (hs : ¬ S b) : MapAt w' P k b n f := by
 obtain ⟨D, hD, h2⟩ := h
 have hlt := hD.lt
 obtain ⟨es, clock, hb, F, hsz, e⟩ := hD
 exact ⟨D, ⟨es, clock, (hf.block b hlt hs).trans hb, F, hsz, e⟩, h2⟩
theorem MapAt.alloc (h : MapAt w P k b n f) (o : Obj) : MapAt (w.alloc o) P k b n f := h.fr (S := NoB) ((Fr.refl _ _).alloc _) (fun x => x)
theorem MapAt.made (w : World) (P : Program) (k : TypeId) : MapAt (w.alloc (.map #[] 0)) P k w.heap.size 0 (fun _ => none) :=
 ⟨.map [], World.ownsMap_made w P k Rv, fun kl => by simp [Maps.has]⟩
theorem MapAt.look {t e : TypeId} (h : MapAt w P k b n f) (K : Keyed P k) (ht : P.underlying t = some (.map k e)) {z : Value} (hz : (zeroValue e).run P w = .ok z w) {key : Value} {kl : Lit} (hkey : keyOf P k key = some kl) :
    (Instr.lookup t (.map (some b)) key true).run P w = .ok (.tuple #[(f kl).getD z, .bool (f kl).isSome]) w ∧ (Instr.lookup t (.map (some b)) key false).run P w = .ok ((f kl).getD z) w := by
 obtain ⟨D, hD, hf⟩ := h
 obtain ⟨es, clock, hb, F, _, rfl⟩ := hD
 rcases Maps.fit_look true K ht hz hb F hkey with ⟨hrun, _, hat⟩ | ⟨e0, y, _, _, hrun, hRv, hat, _⟩
 · have hh := Maps.has_false_of_atKey hat
   rcases Maps.fit_look false K ht hz hb F hkey with ⟨hrun', _, hat'⟩ | ⟨e0', y', _, _, hrun', hRv', hat', _⟩
   · rw [hf kl, hh]; exact ⟨hrun, hrun'⟩
   · exact absurd (Maps.has_true_of_atKey hat') (by rw [hh]; simp)
 · have hh := Maps.has_true_of_atKey hat
   have hy : y = (.held e0.val, []) := by unfold Rv at hRv; injection hRv with hRv; exact hRv.symm
   rcases Maps.fit_look false K ht hz hb F hkey with ⟨hrun', _, hat'⟩ | ⟨e0', y', _, _, hrun', hRv', hat', _⟩
   · exact absurd (Maps.has_false_of_atKey hat') (by rw [hh]; simp)
   · have hy' : y' = (.held e0'.val, []) := by unfold Rv at hRv'; injection hRv' with hRv'; exact hRv'.symm
     have e1 := hat (.held undef)
     have e2 := hat' (.held undef)
     rw [e1, hy, hy'] at e2
     injection e2 with e2
     rw [hf kl, hh, if_pos rfl, e1, hy]
     refine ⟨hrun, ?_⟩
     rw [hrun', ← e2]; rfl
theorem MapAt.store {t e : TypeId} (h : MapAt w P k b n f) (K : Keyed P k) (ht : P.underlying t = some (.map k e)) (hn : n < maxLen) {key : Value} {kl : Lit} (hkey : keyOf P k key = some kl) (val : Value) :
    ∃ w', (Instr.mapUpdate t (.map (some b)) key val).run P w = .ok () w' ∧ MapAt w' P k b (n + 1) (putF f kl (some val)) ∧ Fr (fun j => j = b) w w' := by
 obtain ⟨D, hD, hf⟩ := h
 obtain ⟨w', hrun, h1, h2⟩ := hD.update K ht hn hkey (show Rv val = some (.held val, []) from rfl)
 refine ⟨w', hrun, ⟨_, h1, fun x => ?_⟩, (Fr.refl _ _).grown h2 (fun j _ hj => by injection hj with hj; exact hj.symm)⟩
 by_cases hx : x = kl
 · subst hx
   rw [putF_same (K.key hkey), Maps.has_put_same hD.isMap (K.key hkey), Maps.atKey_put_same hD.isMap (K.key hkey)]
   rfl
 · rw [putF_other hx, Maps.has_put_other hx, Maps.atKey_put_other hx, hf x]
end
section
variable {P : Program} {w : World} {ops : Array Oper} {rest : List Oper} {o : Oper} {a : Act} {Q : Exit → Act → World → Prop} {b n : Nat} {f : Lit → Option Value}
theorem wpList_mlook2 {k e t : TypeId} (hM : MapAt w P k b n f) (K : Keyed P k) (ht : P.underlying t = some (.map k e)) {z : Value} (hz : (zeroValue e).run P w = .ok z w) (hg : o.guard = none) (m x : Operand) (hop : o.op = Op.lookup t m x true)
    (hm : a.eval m = .map (some b)) (key : Value) (kl : Lit) (hx : a.eval x = key) (hkey : keyOf P k key = some kl) (v : Value) (ok : Bool) (hv : (f kl).getD z = v) (hok : (f kl).isSome = ok)
    (hK : wpList P ops Q rest (a.put o.dst (.tuple #[v, .bool ok])) w) : wpList P ops Q (o :: rest) a w := by
 refine wpList_plain hg fun K' hK' => ?_
 have hrun := (hM.look K ht hz hkey).1
 rw [hv, hok] at hrun
 unfold Oper.wp
 simp [execOp, hop, hm, hx, hrun, Result.andThen]
 exact hK' _ _ hK
theorem wpList_mlook1 {k e t : TypeId} (hM : MapAt w P k b n f) (K : Keyed P k) (ht : P.underlying t = some (.map k e)) {z : Value} (hz : (zeroValue e).run P w = .ok z w) (hg : o.guard = none) (m x : Operand) (hop : o.op = Op.lookup t m x false)
    (hm : a.eval m = .map (some b)) (key : Value) (kl : Lit) (hx : a.eval x = key) (hkey : keyOf P k key = some kl) (v : Value) (hv : (f kl).getD z = v)
    (hK : wpList P ops Q rest (a.put o.dst v) w) : wpList P ops Q (o :: rest) a w := by
 refine wpList_plain hg fun K' hK' => ?_
 have hrun := (hM.look K ht hz hkey).2
 rw [hv] at hrun
 unfold Oper.wp
 simp [execOp, hop, hm, hx, hrun, Result.andThen]
 exact hK' _ _ hK
end
end Go.Proofs.YtmibndkofoldkaaGreatDoor
namespace Go.Proofs.YtmibndkofoldkaaGreatDoor
set_option linter.unusedVariables false
set_option linter.unusedSimpArgs false
set_option linter.constructorNameAsVariable false
open Go.RowKit Go.Maps
def IsT (t : TypeId) (w : World) (b : Nat) : Prop := ∃ (cs : Array Value) (fz : Nat × Nat), w.heap[b]? = some (.cells cs t fz)
theorem IsT.fr {t : TypeId} {w w' : World} {S : Nat → Prop} {b : Nat} (h : IsT t w b) (hf : Fr S w w') (hs : ¬ S b) : IsT t w' b := by
 obtain ⟨cs, fz, hb⟩ := h
 exact ⟨cs, fz, (hf.block b (Array.getElem?_eq_some_iff.1 hb).1 hs).trans hb⟩
theorem IsT.not_blk {t t' : TypeId} {w : World} {cs : Array Value} {k : Nat} (h : Blk w k t' cs) (ht : t' ≠ t) : ¬ IsT t w k := by
 rintro ⟨cs', fz, hb⟩
 unfold Blk at h
 rw [h] at hb
 injection hb with hb
 injection hb with _ hb
 exact ht hb
theorem IsT.not_own {t : TypeId} {w : World} {base e s n k : Nat} {v : Value} {xs : List Value} (h : w.ownsRow base e s v n xs) (he : e ≠ t) (hk : v.ownBlock = some k) : ¬ IsT t w k := by
 rcases h.2 with ⟨rfl, _⟩ | ⟨g', cap, cur, rfl, _, hh, _⟩
 · cases hk
 · have : g' = k := by simpa [Value.ownBlock] using hk
   subst this
   exact IsT.not_blk hh he
def RdT (t : TypeId) (w : World) (size : Nat) (A : Option Addr) (n : Nat) (xs : List Value) : Prop := Rd (IsT t w) w size A n xs
section
variable {t : TypeId} {w w' : World} {S : Nat → Prop} {size n : Nat} {A : Option Addr} {xs : List Value}
theorem RdT.fr (h : RdT t w size A n xs) (hf : Fr S w w') (hs : ∀ k, S k → ¬ IsT t w k) : RdT t w' size A n xs := by
 refine ⟨h.1, fun hn => ?_⟩
 obtain ⟨ad, e, hb, hlt, hc⟩ := h.2 hn
 have hns : ¬ S ad.block := fun hk => hs _ hk hb
 exact ⟨ad, e, hb.fr hf hns, Nat.lt_of_lt_of_le hlt hf.size, fun j u hu => by
  have := hc j u hu
  rwa [← hf.cell (p := ad.add j) (by rw [add_block]; exact hlt) (by rw [add_block]; exact hns)] at this⟩
theorem RdT.new (h : RdT t w size A n xs) (hN : New w w') : RdT t w' size A n xs := h.fr (hN.toFr NoB) (fun _ x => x.elim)
theorem RdT.own {base : Nat} {v : Value} {c : Nat} (h : w.ownsRow base t size v n xs) (hv : v = .slice A n c) : RdT t w size A n xs := by
 refine ⟨h.1, fun hn => ?_⟩
 obtain ⟨ad, e, hp, hlt, hc⟩ := (Rd.own h hv).2 hn
 refine ⟨ad, e, ?_, hlt, hc⟩
 subst hv
 rcases h.2 with ⟨h', _⟩ | ⟨g', cap', cur, h', _, hh, _⟩
 · injection h' with h'; rw [h'] at e; cases e
 · injection h' with h'
   rw [h'] at e
   injection e with e
   subst e
   exact ⟨_, _, hh⟩
theorem RdT.nil : RdT t w size A 0 [] := Rd.nil
end
end Go.Proofs.YtmibndkofoldkaaGreatDoor
namespace Go.Proofs.YtmibndkofoldkaaGreatDoor
set_option linter.unusedVariables false
set_option linter.unusedSimpArgs false
set_option linter.constructorNameAsVariable false
open Go.RowKit
theorem run_bs1 {P : Program} {t e : TypeId} {size bytes : Nat} (E : ElemOf P t e size bytes) (hs : size ≤ 16777216) (v : Value) (hv : v.cells.size = size) (w : World) :
    (Instr.buildSlice t 1 #[(0, v)]).run P w = .ok (.slice (some ⟨w.heap.size, 0, none⟩) 1 1) (w.alloc (.cells v.cells e)) := by
 obtain ⟨i, z, hi, hz, hsize, -, hzs⟩ := E.info
 have hp := E.pos
 refine run_buildSlice w t e 1 #[(0, v)] v.cells i z E.ht hi hz (by rw [hsize]; omega) (by rw [hsize]; omega) ?_
 have h := Great.fill_whole (s := i.size) (by omega) [v] ((Array.range (1 * i.size)).map (z.cells[· % z.cells.size]!)) (by intro u hu; obtain rfl := List.mem_singleton.1 hu; omega) (by simp)
 simpa using h
end Go.Proofs.YtmibndkofoldkaaGreatDoor
namespace Go.Proofs.YtmibndkofoldkaaGreatDoor
set_option linter.unusedVariables false
set_option linter.unusedSimpArgs false
set_option linter.constructorNameAsVariable false
open Go.RowKit Go.Maps
theorem rd_szs' {p : Nat → Prop} {w : World} {s n : Nat} {A : Option Addr} {xs : List Value} (h : Rd p w s A n xs) : Rd (fun b => b < w.heap.size) w s A n xs :=
 ⟨h.1, fun hn => by obtain ⟨ad, e, _, hb, hc⟩ := h.2 hn; exact ⟨ad, e, hb, hb, hc⟩⟩
theorem sclone_any {p : Nat → Prop} (A : Option Addr) (n c : Nat) (xs : List Int) (w : World) (hO : Rd p w 1 A n (u8s xs)) (hn : n ≤ 140737488355328) :
    Calls Tryz.prog 90 #[.slice A n c] w fun e w' => (∃ A' c', e = .returned (.slice A' n c') ∧ w'.ownsRow w.heap.size 5 1 (.slice A' n c') n (u8s xs)) ∧ New w w' := by
 have HR := Lib.hid hO
 rcases A with _ | ad
 · have h0 : n = 0 := by
    rcases Nat.eq_zero_or_pos n with h | h
    · exact h
    · obtain ⟨ad, h', _⟩ := hO.2 h
      cases h'
   subst h0
   have hz : xs = [] := List.eq_nil_of_length_eq_zero (by have := hO.1; rw [u8s_len] at this; omega)
   subst hz
   clear hO
   have hen := fun w => Lib.run_eql_slice_nil (P := Tryz.prog) w 84 5 none 0 c 0 0 Tryz.underlying84
   go_enter Tryz.func90, Tryz.ntmps90
   go_wp2_with fail
   go_ret
   exact ⟨⟨none, 0, rfl, World.ownsRow_nil _ _ _ _⟩, New.refl w⟩
 · clear hO
   have hen := fun w => Lib.run_eql_slice_nil (P := Tryz.prog) w 84 5 (some ad) n c 0 0 Tryz.underlying84
   go_enter Tryz.func90, Tryz.ntmps90
   go_wp2_with (at_builtin; refine wpList_app elB _ rfl (.tmp 5) (.tmp 6) rfl w.heap.size (.slice (some ⟨w.heap.size, 0, none⟩) 0 0) 0 [] rfl (own_lit (Blk.new w 5 #[]) (Nat.le_refl _)) (some ad) n c (u8s xs) rfl (New.rd (New.al (New.refl w) _) HR.out) (u8s_one xs) (by unfold maxLen; omega) (by omega) (by simp) ?_; intro A1 d1 w3 hO3 hF3 hA3; rw [Nat.zero_add]; rw [Nat.zero_add, List.nil_append] at hO3; have HO3 := Lib.hid hO3; have HN3 : Hid (New w w3) := Lib.hid ((New.al (New.refl w) _).fr hF3 (by intro k hk; simp [Value.ownBlock] at hk; omega)); clear hO3 hF3 hA3)
   go_ret
   exact ⟨⟨A1, d1, rfl, HO3.out⟩, HN3.out⟩
def WS (base g : Nat) (w : World) (k : Nat) : Prop := k = g ∨ (base ≤ k ∧ IsT 5 w k)
structure WrIn (w : World) (base g : Nat) (xs : List Int) : Prop where
 st : ∃ A c, Blk w g 235 #[.nilIface, .slice A xs.length c] ∧ w.ownsRow base 5 1 (.slice A xs.length c) xs.length (u8s xs)
 gb : base ≤ g
 byt : Byt xs
def FW (base g : Nat) (w w' : World) : Prop := Fr (WS base g w) w w'
section
variable {base g : Nat} {w w' w'' : World} {xs : List Int}
theorem FW.refl : FW base g w w := Fr.refl _ _
theorem FW.tr (h : FW base g w w') (k : FW base g w' w'') : FW base g w w'' := by
 refine ⟨k.os.trans h.os, k.tape.trans h.tape, k.output.trans h.output, Nat.le_trans h.size k.size, fun j hj hn => ?_⟩
 have e := h.block j hj hn
 refine (k.block j (Nat.lt_of_lt_of_le hj h.size) (fun hs => hn ?_)).trans e
 rcases hs with hs | ⟨hs, cs, fz, hx⟩
 · exact .inl hs
 · exact .inr ⟨hs, cs, fz, e.symm.trans hx⟩
theorem FW.new (h : New w w') : FW base g w w' := h.toFr _
theorem WrIn.lt (h : WrIn w base g xs) : g < w.heap.size := by obtain ⟨A, c, hb, _⟩ := h.st; exact hb.lt
theorem WrIn.base_le (h : WrIn w base g xs) : base ≤ w.heap.size := by have := h.lt; have := h.gb; omega
theorem WrIn.new (h : WrIn w base g xs) (hN : New w w') : WrIn w' base g xs := by
 obtain ⟨A, c, hb, ho⟩ := h.st
 exact ⟨⟨A, c, hN.blk hb, hN.own ho⟩, h.gb, h.byt⟩
theorem FW.blk (h : FW base g w w') {k t : Nat} {cs : Array Value} (hb : Blk w k t cs) (ht : t ≠ 5) (hk : k ≠ g) : Blk w' k t cs :=
 hb.fr h (fun hs => hs.elim hk (fun x => IsT.not_blk hb ht x.2))
theorem FW.toNew (h : FW base g w w') {w0 : World} (hN : New w0 w) (hb : w0.heap.size ≤ base) (hg : base ≤ g) : New w0 w' := hN.fr h (fun k hk => hk.elim (fun x => by omega) (fun x => by omega))
end
theorem sized_yes (n : Int) (h : n = 1 ∨ n = 2 ∨ n = 4 ∨ n = 8) (w : World) : Calls Tryz.prog 148 #[.int .i64 n] w fun e w' => e = .returned (.bool true) ∧ w = w' := by
 rcases h with rfl | rfl | rfl | rfl
 all_goals
  go_enter Tryz.func148, Tryz.ntmps148
  go_wp2_with fail
  go_ret
  exact ⟨rfl, rfl⟩
theorem own_isT' {w : World} {base e s n k : Nat} {v : Value} {xs : List Value} (h : w.ownsRow base e s v n xs) (hk : v.ownBlock = some k) : IsT e w k := by
 rcases h.2 with ⟨rfl, _⟩ | ⟨g', cap, cur, rfl, _, hh, _⟩
 · simp [Value.ownBlock] at hk
 · have : g' = k := by simpa [Value.ownBlock] using hk
   subst this
   exact ⟨_, _, hh⟩
theorem wr_step {base g : Nat} {w w3 w5 : World} {xs ys : List Int} {A A1 : Option Addr} {n m c d1 : Nat} (H : WrIn w base g xs) (hB : Blk w g 235 #[.nilIface, .slice A n c]) (hO : w.ownsRow base 5 1 (.slice A n c) n (u8s xs)) (hn : n = xs.length) (hN : New w w3)
    (hF5 : Fr (fun k => (Value.slice A n c).ownBlock = some k) w3 w5) (hO5 : w5.ownsRow base 5 1 (.slice A1 (n + m) d1) (n + m) (u8s xs ++ u8s ys)) (hm : ys.length = m) (hb : Byt ys) :
    WrIn (w5.setCell ⟨g, 1, none⟩ (.slice A1 (n + m) d1)) base g (xs ++ ys) ∧ FW base g w (w5.setCell ⟨g, 1, none⟩ (.slice A1 (n + m) d1)) := by
 have hne : (Value.slice A n c).ownBlock ≠ some g := own_ne hO hB (by decide)
 have hB5 : Blk w5 g 235 #[.nilIface, .slice A n c] := (hN.blk hB).fr hF5 (fun hk => hne hk)
 have hFs : Fr (fun k => k = g) w5 (w5.setCell ⟨g, 1, none⟩ (.slice A1 (n + m) d1)) := (Fr.refl (fun k => k = g) w5).setCell (p := ⟨g, 1, none⟩) (fun _ => rfl) _
 have hBs : Blk (w5.setCell ⟨g, 1, none⟩ (.slice A1 (n + m) d1)) g 235 #[.nilIface, .slice A1 (n + m) d1] := by
  have := hB5.set 1 (.slice A1 (n + m) d1)
  simpa using this
 have hne1 : ∀ k, (Value.slice A1 (n + m) d1).ownBlock = some k → ¬ k = g := fun k hk e => by
  subst e
  exact own_ne hO5 hB5 (by decide) hk
 refine ⟨⟨⟨A1, d1, ?_, ?_⟩, H.gb, fun x hx => ?_⟩, ?_⟩
 · rw [List.length_append, ← hn, hm]
   exact hBs
 · rw [List.length_append, ← hn, hm]
   have e : u8s (xs ++ ys) = u8s xs ++ u8s ys := by simp [u8s]
   rw [e]
   exact own_fr hO5 hFs (fun k hk => hne1 k hk)
 · rcases List.mem_append.1 hx with hx | hx
   · exact H.byt x hx
   · exact hb x hx
 · have hF : FW base g w w3 := FW.new hN
   have hF2 : FW base g w3 w5 := hF5.mono (fun k _ hk => .inr ⟨(own_lt hO k hk).1, own_isT' (hN.own hO) hk⟩)
   exact (hF.tr hF2).tr (hFs.mono (fun k _ hk => .inl hk))
theorem wraw_any {base g : Nat} {w : World} {xs : List Int} {p : Nat → Prop} (h : WrIn w base g xs) (B : Option Addr) (m d : Nat) (ys : List Int) (hR : Rd p w 1 B m (u8s ys)) (hb : Byt ys) (hl : xs.length + m ≤ 140737488355328) :
    Calls Tryz.prog 114 #[.pointer (some ⟨g, 0, none⟩), .slice B m d] w fun e w' => e = .returned (.pointer (some ⟨g, 0, none⟩)) ∧ WrIn w' base g (xs ++ ys) ∧ FW base g w w' := by
 obtain ⟨A, c, hB, hO⟩ := h.st
 have hm : ys.length = m := by have := hR.1; rw [u8s_len] at this; omega
 have H := Lib.hid h
 have HB := Lib.hid hB
 have HO := Lib.hid hO
 have HR := Lib.hid hR
 have HY := Lib.hid hb
 have HM := Lib.hid hm
 have hne : (Value.slice A xs.length c).ownBlock ≠ some g := own_ne hO hB (by decide)
 have HNE := Lib.hid hne
 obtain ⟨n, hn⟩ : ∃ n, n = xs.length := ⟨_, rfl⟩
 rw [← hn] at HB HO HNE hl
 have HNL := Lib.hid hn
 clear h hb hB hO hR hm hne hn
 have c1 : w.cell? ⟨g, 1, none⟩ = some (.slice A n c) := HB.out.cell 1
 go_enter Tryz.func114, Tryz.ntmps114
 go_wp2_with (at_builtin; refine wpList_app (o := ⟨some 13, _, _, _, _, _⟩) elB _ rfl (.tmp 11) (.tmp 12) rfl base (.slice A n c) n (u8s xs) rfl HO.out B m d (u8s ys) rfl HR.out (u8s_one ys) (by unfold maxLen; omega) (by omega) H.out.base_le ?_; intro A1 d1 w3 hO3 hF3 hA3; have HB3 : Hid (Blk w3 g 235 #[.nilIface, .slice A n c]) := Lib.hid (HB.out.fr hF3 (fun hk => HNE.out hk)); have f3 := HB3.out.frozen 1; have c3 : w3.cell? ⟨g, 1, none⟩ = some (.slice A n c) := HB3.out.cell 1; have HO3 := Lib.hid hO3; have HF3 := Lib.hid hF3; have HA3 := Lib.hid hA3; clear hO3 hF3 hA3)
 go_ret
 have hst := wr_step (ys := ys) H.out HB.out HO.out HNL.out (New.refl w) HF3.out HO3.out HM.out HY.out
 exact ⟨rfl, hst.1, hst.2⟩
theorem step_bs1v {P : Program} {ops : Array Oper} {o : Oper} {a : Act} {K : Act → World → Prop} {Q : Exit → Act → World → Prop} {w : World} {F : Prop} {t e : TypeId} {bytes : Nat} (E : ElemOf P t e 1 bytes) (hw : Region.wanted o (yielded ops a.tmps) = true) (x : Operand)
    (ho : o.op = .buildSlice t 1 #[(0, x)]) (v : Value) (hx : a.eval x = v) (hv : v.cells.size = 1)
    (h : ∀ g w', Blk w' g e v.cells → New w w' → w.heap.size ≤ g → K (a.put o.dst (.slice (some ⟨g, 0, none⟩) 1 1)) w') : if Region.wanted o (yielded ops a.tmps) = true then Oper.wp P o a w K Q else F := by
 rw [if_pos hw]
 unfold Oper.wp execOp
 simp only [ho, Sem.run_bind, List.map_toArray, List.map_cons, List.map_nil, hx, run_bs1 E (by decide) v hv w, Result.andThen_ok]
 exact h _ _ (Blk.new _ _ _) (New.al (New.refl _) _) (Nat.le_refl _)
theorem shr_int (n k : Nat) : (n : Int) / 2 ^ (8 * (k : Int)).toNat = ((n / 256 ^ k : Nat) : Int) := by
 have e1 : (8 * (k : Int)).toNat = 8 * k := by omega
 have e2 : (2 : Nat) ^ (8 * k) = 256 ^ k := by rw [Nat.pow_mul]
 rw [e1, Int.natCast_ediv, ← e2, Int.natCast_pow]
 rfl
theorem u8_wrap (m : Nat) : IntKind.u8.wrap (m : Int) = ((m % 256 : Nat) : Int) := by
 simp [IntKind.wrap, IntKind.signed, IntKind.bits]
set_option maxRecDepth 100000 in
set_option maxHeartbeats 4000000 in
theorem wnum_any {base g : Nat} {w : World} {xs : List Int} (h : WrIn w base g xs) (n size : Nat) (hs : size = 1 ∨ size = 2 ∨ size = 4 ∨ size = 8) (hn : n < 256 ^ size) (hl : xs.length + 8 ≤ 140737488355328) :
    Calls Tryz.prog 112 #[.pointer (some ⟨g, 0, none⟩), .int .u64 n, .int .i64 size] w fun e w' => e = .returned (.pointer (some ⟨g, 0, none⟩)) ∧ WrIn w' base g (xs ++ beL size n) ∧ FW base g w w' := by
 have H := Lib.hid h
 have hsz := fun w => sized_yes size (by omega) w
 have hs8 : size ≤ 8 := by omega
 have hs1 : 1 ≤ size := by omega
 clear h
 go_enter Tryz.func112, Tryz.ntmps112
 go_wp2_with fail
 refine (hsz w).mono ?_
 rintro e w0 ⟨rfl, rfl⟩
 have hsh := shr_int n size
 rw [Nat.div_eq_of_lt hn] at hsh
 clear hsz
 by_cases h8 : size < 8
 all_goals
  have hd8 : decide ((size : Int) < 8) = decide (size < 8) := decide_eq_decide.2 (by omega)
  go_wp2_with fail
  clear hsh hd8
  go_loopw [7] (fun i wr => ∃ j : Nat, j ≤ size ∧ i = .int .i64 ((j : Int) - 1) ∧ Hid (WrIn wr base g (xs ++ (beL size n).take (size - j))) ∧ Hid (FW base g w wr)) (fun i _ => (intOf i + 1).toNat)
  case atStart => exact ⟨size, Nat.le_refl _, rfl, Lib.hid (by simpa using H.out), Lib.hid FW.refl⟩
  case round =>
   obtain ⟨j, hj, rfl, HR, HF⟩ := hrel
   rcases Nat.eq_zero_or_pos j with h0 | h0
   · subst h0
     go_wp2_with fail
     go_ret
     have hR := HR.out
     rw [Nat.sub_zero, List.take_of_length_le (by rw [beL_len]; exact Nat.le_refl _)] at hR
     exact ⟨rfl, hR, HF.out⟩
   · obtain ⟨k, rfl⟩ : ∃ k, j = k + 1 := ⟨j - 1, by omega⟩
     have hk : (((k + 1 : Nat) : Int) - 1) = (k : Int) := by omega
     rw [hk]
     obtain ⟨A, c, hB, hO⟩ := HR.out.st
     have hlen : (xs ++ (beL size n).take (size - (k + 1))).length = xs.length + (size - (k + 1)) := by
      rw [List.length_append, List.length_take, beL_len]
      omega
     rw [hlen] at hB hO
     have HB := Lib.hid hB
     have HO := Lib.hid hO
     clear hB hO hlen hk
     go_wp2_with fail
     have c1 : wr.cell? ⟨g, 1, none⟩ = some (.slice A (xs.length + (size - (k + 1))) c) := HB.out.cell 1
     refine wp_region_mix (CellIs ⟨g, 1, none⟩ (.slice A (xs.length + (size - (k + 1))) c)) 14 [(true, 0), (true, 1), (true, 2), (true, 3), (true, 4), (true, 5), (true, 6), (true, 7), (true, 8), (true, 9), (false, 10), (false, 11), (true, 12), (true, 13), (false, 14)] (by kernel_rfl) (by kernel_rfl) c1 (fun hne => ?_)
     have cp := CellIs.all ⟨g, 1, none⟩ (.slice A (xs.length + (size - (k + 1))) c)
     have hsh := shr_int n k
     have hbw : IntKind.u8.wrap ((n : Int) / 256 ^ k) = ((byteAt n k : Nat) : Int) := by
      rw [show (n : Int) / 256 ^ k = ((n / 256 ^ k : Nat) : Int) from by simp, u8_wrap]
      rfl
     have hwr : IntKind.i64.wrap (8 * (k : Int)) = 8 * k := IntWalk.i64_in _ (by omega)
     have hk0 : (0 : Int) ≤ 8 * (k : Int) := by omega
     have hk64 : 8 * (k : Int) ≤ 64 := by omega
     iterate 10 (refine mix_take (o := ⟨_, _, _, _, _, _⟩) rfl (fun K hK => ?_); go_simp; refine hK _ ?_; clear hK K)
     refine mix_act (o := ⟨_, _, _, _, _, _⟩) rfl (fun K hK => ?_) (.inl rfl)
     refine step_bs1v elB rfl (.tmp 45) rfl (.int .u8 (byteAt n k : Nat)) (by rfl) rfl ?_
     intro gb w3 hB3 hN3 hl3
     simp only [Act.put, List.setIfInBounds_toArray, List.set_cons_zero, List.set_cons_succ]
     have hN3 : New wr w3 := New.tr (New.dr (New.refl _)) hN3
     have c3 : w3.cell? ⟨g, 1, none⟩ = some (.slice A (xs.length + (size - (k + 1))) c) := hN3.cell_ c1
     refine hK.out _ _ (fun _ => c3) ?_
     clear hK K
     clear hbw hsh hwr
     have HN3 : Hid (New wr w3) := Lib.hid hN3
     have HB3 : Hid (Blk w3 gb 5 #[.int .u8 (byteAt n k : Nat)]) := Lib.hid hB3
     clear hN3 hB3
     refine mix_act (o := ⟨_, _, _, _, _, _⟩) rfl (fun K hK => ?_) (.inl rfl)
     refine step_app elB _ (by rfl) (.tmp 40) (.tmp 46) (by rfl) base (.slice A (xs.length + (size - (k + 1))) c) (xs.length + (size - (k + 1))) _ (by rfl) (HN3.out.own HO.out) (some ⟨gb, 0, none⟩) 1 1 [.int .u8 (byteAt n k : Nat)] (by rfl) (Rd.ofBlk (p := fun _ => True) HB3.out 1 1 rfl trivial) (by simp [Value.oneCell']) (by unfold maxLen; omega) (by omega) (Nat.le_trans HR.out.base_le HN3.out.size) ?_
     intro A4 d4 w5 hO5 hF5 hA5
     simp only [Act.put, List.setIfInBounds_toArray, List.set_cons_zero, List.set_cons_succ]
     have HNE : Hid ((Value.slice A (xs.length + (size - (k + 1))) c).ownBlock ≠ some g) := Lib.hid (own_ne HO.out HB.out (by decide))
     have c5 : w5.cell? ⟨g, 1, none⟩ = some (.slice A (xs.length + (size - (k + 1))) c) := hF5.cell_some c3 (fun hk => HNE.out hk)
     have HB5 : Hid (Blk w5 g 235 #[.nilIface, .slice A (xs.length + (size - (k + 1))) c]) := Lib.hid ((HN3.out.blk HB.out).fr hF5 (fun hk => HNE.out hk))
     have f5 := HB5.out.frozen 1
     have HF5 := Lib.hid hF5
     have HO5 := Lib.hid hO5
     have HA5 := Lib.hid hA5
     clear hF5 hO5 hA5
     refine hK.out _ _ (fun _ => c5) ?_
     clear hK K
     iterate 2 (refine mix_take (o := ⟨_, _, _, _, _, _⟩) rfl (fun K hK => ?_); go_simp; refine hK _ ?_; clear hK K)
     refine mix_act (o := ⟨_, _, _, _, _, _⟩) rfl (fun K hK => ?_) (.inl rfl)
     go_simp
     refine hK.out _ _ (fun h => absurd rfl h) ?_
     clear hK K
     refine mix_done ?_
     go_wp2_with fail
     go_roundw
     case rel =>
      have hst := wr_step (ys := [((byteAt n k : Nat) : Int)]) HR.out HB.out HO.out (by rw [List.length_append, List.length_take, beL_len]; omega) HN3.out HF5.out HO5.out rfl (fun x hx => by
       rw [List.mem_singleton] at hx
       subst hx
       have := byteAt_lt n k
       omega)
      rw [List.append_assoc, ← beL_take size n k (by omega)] at hst
      exact ⟨k, by omega, rfl, Lib.hid hst.1, Lib.hid (HF.out.tr hst.2)⟩
     case measure => simp [intOf]
theorem wdone_any {base g : Nat} {w : World} {xs : List Int} (h : WrIn w base g xs) (hl : xs.length ≤ 140737488355328) :
    Calls Tryz.prog 118 #[.pointer (some ⟨g, 0, none⟩)] w fun e w' => (∃ A c, e = .returned (.tuple #[.slice A xs.length c, .nilIface]) ∧ w'.ownsRow w.heap.size 5 1 (.slice A xs.length c) xs.length (u8s xs)) ∧ New w w' := by
 obtain ⟨A, c, hB, hO⟩ := h.st
 have HB := Lib.hid hB
 have HC := Lib.hid (sclone_any A xs.length c xs w (Rd.own hO rfl) hl)
 have c0 : w.cell? ⟨g, 0, none⟩ = some .nilIface := hB.cell 0
 have c1 : w.cell? ⟨g, 1, none⟩ = some (.slice A xs.length c) := hB.cell 1
 clear h hB hO
 go_enter Tryz.func118, Tryz.ntmps118
 go_wp2_with fail
 refine HC.out.mono ?_
 rintro e w1 ⟨⟨A1, d1, rfl, hO1⟩, hN1⟩
 have HO1 := Lib.hid hO1
 have HN1 := Lib.hid hN1
 clear hO1 hN1
 go_wp2_with fail
 go_ret2
 exact ⟨⟨A1, d1, rfl, HO1.out⟩, HN1.out⟩
end Go.Proofs.YtmibndkofoldkaaGreatDoor
namespace Go.Proofs.YtmibndkofoldkaaGreatDoor
set_option linter.unusedVariables false
set_option linter.unusedSimpArgs false
set_option linter.constructorNameAsVariable false
open Go.RowKit Go.Sort
def zN (n : Nat) : Nat := (119 - n % 64) % 64
theorem zN_mod (n : Nat) : (n + 1 + zN n) % 64 = 56 ∧ zN n < 64 := by unfold zN; omega
theorem zN_not {n k : Nat} (h : k < zN n) : (n + 1 + k) % 64 ≠ 56 := by unfold zN at h; omega
def padZ (xs : List Int) (k : Nat) : List Int := xs ++ [128] ++ List.replicate k 0
theorem padZ_len (xs : List Int) (k : Nat) : (padZ xs k).length = xs.length + 1 + k := by simp [padZ]; omega
theorem padZ_succ (xs : List Int) (k : Nat) : padZ xs (k + 1) = padZ xs k ++ [0] := by simp [padZ, List.replicate_succ']
theorem padL_eq (xs : List Int) : padL xs = padZ xs (zN xs.length) ++ beL 8 (8 * xs.length) := rfl
theorem u8s_app (a b : List Int) : u8s (a ++ b) = u8s a ++ u8s b := by simp [u8s]
def Made (w wr : World) (v : Value) (L : List Int) : Prop := wr.ownsRow w.heap.size 5 1 v L.length (u8s L) ∧ New w wr
set_option maxHeartbeats 2000000 in
set_option maxRecDepth 100000 in
theorem pad_any {p : Nat → Prop} (A : Option Addr) (n c : Nat) (xs : List Int) (w : World) (hR : Rd p w 1 A n (u8s xs)) (hn : n ≤ 1000000000) :
    Calls Tryz.prog 220 #[.slice A n c] w fun e w' => (∃ A' c', e = .returned (.slice A' (padL xs).length c') ∧ w'.ownsRow w.heap.size 5 1 (.slice A' (padL xs).length c') (padL xs).length (u8s (padL xs))) ∧ New w w' := by
 have HXL : Hid (xs.length = n) := Lib.hid (by have := hR.1; rw [u8s_len] at this; omega)
 have HC := Lib.hid (sclone_any A n c xs w hR (by omega))
 have hzl := (zN_mod n).2
 have HZM := Lib.hid (zN_mod n).1
 obtain ⟨z, hz⟩ : ∃ z, z = zN n := ⟨_, rfl⟩
 rw [← hz] at hzl HZM
 have HZ := Lib.hid hz
 clear hR hz
 go_enter Tryz.func220, Tryz.ntmps220
 go_wp2_with fail
 refine HC.out.mono ?_
 rintro e w1 ⟨⟨A1, d1, rfl, hO1⟩, hN1⟩
 have HO1 := Lib.hid hO1
 have HN1 := Lib.hid hN1
 clear hO1 hN1 HC
 have HN2 : Hid (New w (w1.alloc (.cells #[.int .u8 128] 5))) := Lib.hid (New.al HN1.out _)
 go_wp2_with ((with_reducible refine atOp ⟨some 8, _, _, _, _, _⟩ ?_); refine wpList_app elB _ rfl (.tmp 6) (.tmp 7) rfl w.heap.size (.slice A1 n d1) n (u8s xs) rfl (New.own (New.al (New.refl w1) _) HO1.out) (some ⟨w1.heap.size, 0, none⟩) 1 1 [.int .u8 128] rfl (Rd.ofBlk (p := fun _ => True) (Blk.new w1 5 #[.int .u8 128]) 1 1 rfl trivial) (by simp [Value.oneCell']) (by unfold maxLen; omega) (by omega) HN2.out.size ?_; intro A2 d2 w3 hO3 hF3 hA3; have HF3 := Lib.hid hF3; have HO3 := Lib.hid hO3; clear hO3 hF3 hA3)
 have HN3 : Hid (New w w3) := Lib.hid (HN2.out.fr HF3.out (fun k hk => (own_lt HO1.out k hk).1))
 have HI0 : Hid (Made w w3 (.slice A2 (n + 1) d2) (padZ xs 0)) := Lib.hid ⟨by
  rw [padZ_len, HXL.out]
  have e : u8s (padZ xs 0) = u8s xs ++ [.int .u8 128] := by simp [padZ, u8s]
  rw [e]
  exact HO3.out, HN3.out⟩
 clear HO1 HN1 HN2 HO3 HF3 HN3
 go_loopg [3] z (fun g v wr => ∃ (k N : Nat) (A : Option Addr) (d : Nat), k ≤ z ∧ z - k ≤ g ∧ Hid (N = n + 1 + k) ∧ v = .slice A N d ∧ Hid (Made w wr (.slice A N d) (padZ xs k)))
 case atStart => exact ⟨0, n + 1, A2, d2, Nat.zero_le _, by omega, Lib.hid rfl, rfl, HI0⟩
 case round =>
  clear HI0
  obtain ⟨k, N, A3, d3, hk, hg, HN, rfl, HM⟩ := hrel
  have hNb : N ≤ 2000000000 := by have := HN.out; omega
  by_cases hlt : k < z
  · have hm : ((N : Int) % 64 == 56) = false := beq_eq_false_iff_ne.2 (by
     have h1 := HN.out
     have h2 := zN_not (n := n) (k := k) (by rw [← HZ.out]; exact hlt)
     omega)
    have hm2 : ((N : Int) % 64 != 56) = true := by simp [bne, hm]
    have hOk : wr.ownsRow w.heap.size 5 1 (.slice A3 N d3) N (u8s (padZ xs k)) := by
     have := HM.out.1
     rwa [padZ_len, HXL.out, ← HN.out] at this
    have HOk := Lib.hid hOk
    clear hOk
    go_wp2_with ((with_reducible refine atOp ⟨some 15, _, _, _, _, _⟩ ?_); refine wpList_app elB _ rfl (.tmp 13) (.tmp 14) rfl w.heap.size (.slice A3 N d3) N (u8s (padZ xs k)) rfl (New.own (New.al (New.refl wr) _) HOk.out) (some ⟨wr.heap.size, 0, none⟩) 1 1 [.int .u8 0] rfl (Rd.ofBlk (p := fun _ => True) (Blk.new wr 5 #[.int .u8 0]) 1 1 rfl trivial) (by simp [Value.oneCell']) (by unfold maxLen; omega) (by omega) (New.al HM.out.2 _).size ?_; intro A5 d5 w5 hO5 hF5 hA5; have HF5 := Lib.hid hF5; have HO5 := Lib.hid hO5; clear hO5 hF5 hA5)
    go_roundg (z - (k + 1))
    case measure => omega
    case rel =>
     refine ⟨k + 1, N + 1, A5, d5, by omega, by omega, Lib.hid (by have := HN.out; omega), rfl, Lib.hid ⟨?_, (New.al HM.out.2 _).fr HF5.out (fun j hj => (own_lt HOk.out j hj).1)⟩⟩
     rw [padZ_len, HXL.out, padZ_succ, u8s_app, show n + 1 + (k + 1) = N + 1 by have := HN.out; omega]
     exact HO5.out
  · obtain rfl : z = k := by omega
    have hm : ((N : Int) % 64 == 56) = true := beq_iff_eq.2 (by
     have h1 := HN.out
     have h2 := HZM.out
     omega)
    have hm2 : ((N : Int) % 64 != 56) = false := by simp [bne, hm]
    have HM8 : Hid (Made w wr (.slice A3 N d3) (padZ xs z ++ (beL 8 (8 * n)).take (8 - 8))) := Lib.hid (by simpa using HM.out)
    have HNL : Hid ((padZ xs z).length = N) := Lib.hid (by rw [padZ_len, HXL.out, HN.out])
    clear HM
    go_wp2_with fail
    clear hm hm2
    go_loopw [3, 4] (fun v i wr => ∃ (j : Nat) (A : Option Addr) (d : Nat), j ≤ 8 ∧ i = .int .i64 (8 * (j : Int) - 8) ∧ v = .slice A (N + (8 - j)) d ∧ Hid (Made w wr (.slice A (N + (8 - j)) d) (padZ xs z ++ (beL 8 (8 * n)).take (8 - j)))) (fun _ i _ => (intOf i + 8).toNat)
    case atStart => exact ⟨8, A3, d3, Nat.le_refl _, rfl, rfl, HM8⟩
    case round =>
     clear HM8
     obtain ⟨j, A6, d6, hj, rfl, rfl, HM⟩ := hrel
     rcases Nat.eq_zero_or_pos j with h0 | h0
     · subst h0
       have hfin : (padZ xs z ++ (beL 8 (8 * n)).take (8 - 0)) = padL xs := by
        rw [padL_eq, HXL.out, ← HZ.out, Nat.sub_zero, List.take_of_length_le (by rw [beL_len]; exact Nat.le_refl _)]
       have HM2 := HM.out
       rw [hfin] at HM2
       have HLN : (padL xs).length = N + 8 := by rw [padL_eq, List.length_append, beL_len, HXL.out, ← HZ.out, HNL.out]
       have HM3 := Lib.hid HM2
       have HLN := Lib.hid HLN
       clear HM HM2 hfin
       go_wp2_with fail
       go_ret
       rw [HLN.out]
       have := HM3.out.1
       rw [HLN.out] at this
       exact ⟨⟨A6, d6, rfl, this⟩, HM3.out.2⟩
     · obtain ⟨k, rfl⟩ : ∃ k, j = k + 1 := ⟨j - 1, by omega⟩
       have hk : (8 * ((k + 1 : Nat) : Int) - 8) = 8 * (k : Int) := by omega
       rw [hk]
       obtain ⟨M, hM⟩ : ∃ M, M = N + (8 - (k + 1)) := ⟨_, rfl⟩
       rw [← hM] at HM ⊢
       have HMN := Lib.hid hM
       have hMb : M ≤ 2000000010 := by omega
       have hlen : (padZ xs z ++ (beL 8 (8 * n)).take (8 - (k + 1))).length = M := by
        rw [List.length_append, List.length_take, beL_len, HNL.out]
        omega
       have hOk := HM.out.1
       rw [hlen] at hOk
       have HOk := Lib.hid hOk
       obtain ⟨n8, hn8⟩ : ∃ n8, n8 = 8 * n := ⟨_, rfl⟩
       rw [← hn8] at HM HOk
       have HN8 := Lib.hid hn8
       have hsh := shr_int n8 k
       have hbw : IntKind.u8.wrap ((n8 : Int) / 256 ^ k) = ((byteAt n8 k : Nat) : Int) := by
        rw [show (n8 : Int) / 256 ^ k = ((n8 / 256 ^ k : Nat) : Int) from by simp, u8_wrap]
        rfl
       have hv : ((8 : Int) * (n : Int)) = (n8 : Int) := by omega
       have hw8 : IntKind.u64.wrap (n8 : Int) = (n8 : Int) := by rw [IntKind.wrap_u64]; omega
       clear hn8
       have hk0 : (0 : Int) ≤ 8 * (k : Int) := by omega
       have hk64 : 8 * (k : Int) < 64 := by omega
       have hk1 : 8 * (k : Int) ≤ 56 := by omega
       clear hk hOk hlen hM
       go_wp2_with ((with_reducible refine atOp ⟨some 29, _, _, _, _, _⟩ ?_); refine wpList_app elB _ rfl (.tmp 20) (.tmp 28) rfl w.heap.size (.slice A6 M d6) M (u8s (padZ xs z ++ (beL 8 n8).take (8 - (k + 1)))) rfl (New.own (New.al (New.refl wr) _) HOk.out) (some ⟨wr.heap.size, 0, none⟩) 1 1 [.int .u8 (byteAt n8 k : Nat)] rfl (Rd.ofBlk (p := fun _ => True) (Blk.new wr 5 #[.int .u8 (byteAt n8 k : Nat)]) 1 1 rfl trivial) (by simp [Value.oneCell']) (by unfold maxLen; omega) (by omega) (New.al HM.out.2 _).size ?_; intro A5 d5 w5 hO5 hF5 hA5; have HF5 := Lib.hid hF5; have HO5 := Lib.hid hO5; clear hO5 hF5 hA5)
       go_roundw
       case rel =>
        refine ⟨k, A5, d5, by omega, rfl, ?_, Lib.hid ⟨?_, (New.al HM.out.2 _).fr HF5.out (fun j hj => (own_lt HOk.out j hj).1)⟩⟩
        · congr 1
          have := HMN.out
          omega
        · have h1 := HO5.out
          have e1 : (padZ xs z ++ (beL 8 n8).take (8 - k)).length = M + 1 := by
           rw [List.length_append, List.length_take, beL_len, HNL.out]
           have := HMN.out
           omega
          have e2 : u8s (padZ xs z ++ (beL 8 n8).take (8 - k)) = u8s (padZ xs z ++ (beL 8 n8).take (8 - (k + 1))) ++ [.int .u8 (byteAt n8 k : Nat)] := by
           rw [beL_take 8 n8 k (by omega), ← List.append_assoc, u8s_app (padZ xs z ++ _)]
           rfl
          rw [← HN8.out, e1, e2, show N + (8 - k) = M + 1 by have := HMN.out; omega]
          exact h1
       case measure => simp [intOf]; omega
end Go.Proofs.YtmibndkofoldkaaGreatDoor
namespace Go.Proofs.YtmibndkofoldkaaGreatDoor
set_option linter.unusedVariables false
set_option linter.unusedSimpArgs false
set_option linter.constructorNameAsVariable false
open Go.RowKit Go.Sort
section
variable {P : Program} {md : Region.Mode} {ops : Array Oper} {Q : Exit → Act → World → Prop} {S : World → Prop} {last n : Nat}
theorem Oper.wide_of {o : Oper} {a : Act} {w : World} {K : Act → World → Prop} (h : o.wp P a w K Q) : o.wpIn Fence.wide n P a w K Q := by
 unfold Oper.wp at h
 refine ⟨fun _ _ => trivial, ?_⟩
 show o.uponIn Fence.wide n P a K Q ((execOp a.eval o).run P w)
 generalize (execOp a.eval o).run P w = r at *
 cases r with
 | ok x w' =>
  cases x <;> simp only [Oper.upon, Oper.uponIn] at h ⊢ <;>
   first
    | exact h
    | exact ⟨fun h => by simp [Fence.wide] at h, callsIn_wide.2 h⟩
    | exact ⟨fun h => by simp [Fence.wide] at h, fun c cs _ => by
        obtain ⟨v, w', r, s⟩ := h c cs
        exact ⟨v, w', r, stepsIn_wide.2 s⟩⟩
 | halt x w' => cases x <;> simp only [Oper.upon, Oper.uponIn] at h ⊢ <;> exact h
theorem wpAny_wide (hQ : ¬ LetsOut Q) : ∀ (fuel : Nat) (listed : Array Bool) (a : Act) (w : World), wpAny P md ops Q fuel listed a w → wpAnyIn Fence.wide n P md ops Q fuel listed a w
 | 0, _, _, _, h => h
 | fuel + 1, listed, a, w, h => ⟨h.1, fun i hi => by
     have h1 := wpOp_mono (fun a w => wpAny_wide hQ fuel _ a w) (h.2 i hi)
     unfold wpOp at h1
     unfold wpOpIn
     cases ho : ops[i]? with
     | none => simpa [ho] using h1
     | some o =>
      simp only [ho] at h1 ⊢
      by_cases hw : Region.wanted o (yielded ops a.tmps) = true
      · rw [if_pos hw] at h1 ⊢
        rcases h1 with h1 | h1
        · exact Oper.wide_of h1
        · exact absurd h1.2 hQ
      · rw [if_neg hw] at h1 ⊢
        exact ⟨fun _ _ => trivial, h1⟩⟩
def NoOut (Q : Exit → Act → World → Prop) (e : Exit) (a : Act) (w : World) : Prop := match e with | .panic _ => False | .outgrown => False | e => Q e a w
theorem NoOut.imp {Q : Exit → Act → World → Prop} (e : Exit) (a : Act) (w : World) (h : NoOut Q e a w) : Q e a w := by
 cases e <;> first | exact h | exact h.elim
theorem NoOut.not : ¬ LetsOut (NoOut Q) := fun ⟨_, _, h⟩ => h
theorem wpIn_region_of {id : Nat} {a : Act} {w : World} {l : List Oper} (r : Nat) (hm : P.follows .mixedOrders = true) (hd : l.all noDefer = true)
    (h : wpAny P .any l.toArray (NoOut Q) l.toArray.size (Array.replicate l.toArray.size false) a w.drew) : (Code.region id l.toArray true).wpIn (Fence.wide.inRound r) n P Q a w := by
 refine wpIn_mono (Q := NoOut Q) (wpIn_region_any hm (wpAnyIn_in_round r rfl ?_ _ _ _ _ (wpAny_wide NoOut.not _ _ _ _ h))) NoOut.imp
 intro i o ho
 have ho' : l[i]? = some o := by simpa using ho
 exact List.all_eq_true.1 hd o (List.mem_of_getElem? ho')
theorem wpIn_region_mix {id : Nat} {a : Act} {w : World} {l : List Oper} (r : Nat) (S : World → Prop) (last : Nat) (sc : List (Bool × Nat)) (hm : P.follows .mixedOrders = true)
    (hB : (l.all noDefer && Region.noSelect l.toArray && decide (sc.length = l.toArray.size) && mixB .any l.toArray last sc (Array.replicate l.toArray.size false)) = true) (hS : S w.drew)
    (h : Nonempty (HW S) → wpMix P l.toArray S last (NoOut Q) sc a w.drew) : (Code.region id l.toArray true).wpIn (Fence.wide.inRound r) n P Q a w := by
 simp only [Bool.and_eq_true, decide_eq_true_eq] at hB
 obtain ⟨⟨⟨h0, h1⟩, h2⟩, h3⟩ := hB
 refine wpIn_region_of r hm h0 (wpAny_of_T (S := S) (last := last) _ _ _ _ ?_)
 have := wpAnyT_of_mix (Q := NoOut Q) h1 (fun _ _ _ _ _ h => h) sc _ _ _ h3 (fun _ => hS) (h ⟨⟨_, hS⟩⟩)
 rwa [h2] at this
theorem mix_doneIn {a : Act} {w : World} (h : Q .normal a w) : wpMix P ops S last (NoOut Q) [] a w := h
end
end Go.Proofs.YtmibndkofoldkaaGreatDoor
namespace Go.Proofs.YtmibndkofoldkaaGreatDoor
set_option linter.unusedVariables false
set_option linter.unusedSimpArgs false
set_option linter.constructorNameAsVariable false
open Go.RowKit Go.Maps Go.Sort
attribute [local go_sem] Oper.semAt_some
theorem chunk_any (A : Option Addr) (n c : Nat) (size : Nat) (h1 : 1 ≤ size) (hs : size ≤ 1000) (w : World) :
    Calls Tryz.prog 219 #[.slice A n c, .int .i64 (size : Int)] w fun e w' => e = .returned (.func (.func 239) #[] #[.pointer (some ⟨w.heap.size, 0, none⟩), .pointer (some ⟨w.heap.size + 1, 0, none⟩)]) ∧ w' = (w.alloc (.cells #[.slice A n c] 84)).alloc (.cells #[.int .i64 (size : Int)] 3) := by
 have hs1 : ¬ ((size : Int) < 1) := by omega
 go_enter Tryz.func219, Tryz.ntmps219
 go_wp2_with fail
 go_ret
 exact ⟨rfl, rfl⟩
def chN (N size : Nat) : Nat := (N + size - 1) / size
theorem chN_lt {N size k : Nat} (h : 1 ≤ size) : k < chN N size ↔ k * size < N := by
 unfold chN
 rw [Nat.lt_div_iff_mul_lt (by omega)]
 omega
def chV (g o N size k : Nat) : Value := .slice (some ⟨g, o + k * size, none⟩) (min size (N - k * size)) (min size (N - k * size))
def KpC (x y : Nat) (W W' : World) : Prop := W'.heap[x]? = W.heap[x]? ∧ W'.heap[y]? = W.heap[y]?
theorem KpC.tr {x y : Nat} {A B C : World} (h : KpC x y A B) (k : KpC x y B C) : KpC x y A C := ⟨k.1.trans h.1, k.2.trans h.2⟩
theorem KpC.puts {x y b : Nat} {W W' : World} (hp : Puts b W W') (hx : x < b) (hy : y < b) : KpC x y W W' := by
 obtain ⟨l, o, o', hl, -, -, rfl⟩ := hp
 exact ⟨World.putObj_heap_other (by omega), World.putObj_heap_other (by omega)⟩
theorem KpC.fr {x y : Nat} {S : Nat → Prop} {W W' : World} (hf : Fr S W W') (hx : x < W.heap.size ∧ ¬ S x) (hy : y < W.heap.size ∧ ¬ S y) : KpC x y W W' := ⟨hf.block x hx.1 hx.2, hf.block y hy.1 hy.2⟩
set_option maxHeartbeats 2000000 in
set_option maxRecDepth 100000 in
theorem chunk1_gives (g o N c size bx1 bx2 : Nat) (w : World) (hB1 : Blk w bx1 84 #[.slice (some ⟨g, o, none⟩) N c]) (hB2 : Blk w bx2 3 #[.int .i64 (size : Int)]) (h1 : 1 ≤ size) (hs : size ≤ 1000) (hN : N ≤ 1000000000) (hc : N ≤ c) (hcm : c ≤ maxLen) :
    GivesR (fun pre k => k = pre.length) Tryz.prog 239 #[.pointer (some ⟨bx1, 0, none⟩), .pointer (some ⟨bx2, 0, none⟩)] (fun k : Nat => #[chV g o N size k]) (fun _ _ => True) (KpC bx1 bx2) (fun xs => xs = List.range (chN N size)) (chN N size) w := by
 intro l J W hW hJ hY h0
 refine callsIn_wide.2 ?_
 have HB : Hid (Blk W bx1 84 #[.slice (some ⟨g, o, none⟩) N c] ∧ Blk W bx2 3 #[.int .i64 (size : Int)]) := Lib.hid ⟨hW.blk hB1, hW.blk hB2⟩
 have HY := Lib.hid hY
 have HJ := Lib.hid hJ
 have H0 := Lib.hid h0
 clear hY hJ hW hB1 hB2 h0
 show Calls Tryz.prog 239 #[.func (.yield l) #[] #[], .pointer (some ⟨bx1, 0, none⟩), .pointer (some ⟨bx2, 0, none⟩)] W _
 unfold maxLen at hcm
 go_enter Tryz.func239, Tryz.ntmps239
 go_wp2_with fail
 go_loopw [4] (fun ix wr => ∃ (k i : Nat), k ≤ chN N size ∧ Hid (i = k * size) ∧ ix = .int .i64 i ∧ i ≤ N + 1000 ∧ Hid (J (List.range k) wr) ∧ Hid (Blk wr bx1 84 #[.slice (some ⟨g, o, none⟩) N c] ∧ Blk wr bx2 3 #[.int .i64 (size : Int)])) (fun ix _ => (N : Int).toNat + 1000 - (intOf ix).toNat)
 case atStart => exact ⟨0, 0, Nat.zero_le _, Lib.hid (by omega), rfl, by omega, H0, HB⟩
 case round =>
  clear H0 HB
  obtain ⟨k, i, hk, HI, rfl, hi, HJk, HBk⟩ := hrel
  have c1 : wr.cell? ⟨bx1, 0, none⟩ = some (.slice (some ⟨g, o, none⟩) N c) := HBk.out.1.cell 0
  have c2 : wr.cell? ⟨bx2, 0, none⟩ = some (.int .i64 (size : Int)) := HBk.out.2.cell 0
  have hi0 : (0 : Int) ≤ (i : Int) := by omega
  by_cases hlt : i < N
  · have HKL : Hid (k < chN N size) := Lib.hid ((chN_lt h1).2 (by rw [← HI.out]; exact hlt))
    have hci : ¬ c = i := by omega
    have hiN : i ≤ N := by omega
    obtain ⟨r, hr⟩ : ∃ r, r = N - i := ⟨_, rfl⟩
    have hr2 : N - i = r := hr.symm
    have hrN : i + r = N := by omega
    have q1 := cell_regrown c1
    have q2 := cell_regrown c2
    by_cases hsz : size ≤ r
    · obtain ⟨j, hj⟩ : ∃ j, j = i + size := ⟨_, rfl⟩
      have d1 : (size : Int) ≤ (r : Int) := by omega
      have d2 : ¬ ((r : Int) < (size : Int)) := by omega
      have e1 : (i : Int) + (size : Int) = (j : Int) := by omega
      have e2 : j - i = size := by omega
      have e3 : ¬ j = i := by omega
      have e4 : i ≤ j := by omega
      have e5 : (j : Int) ≤ (c : Int) := by omega
      have HCV : Hid (chV g o N size k = .slice (some ⟨g, o + i, none⟩) size size) := Lib.hid (by unfold chV; rw [← HI.out, Nat.min_eq_left (by omega)])
      have hjj : j ≤ N := by omega
      have HJJ : Hid (j = (k + 1) * size) := Lib.hid (by rw [hj, HI.out, Nat.succ_mul])
      clear hj hr hrN
      go_wp2_with fail
      refine wp_region_quiet_below (by kernel_rfl) (by kernel_rfl) ?_
      repeat (quiet_step (fail))
      refine wpQuiet_nil ?_
      intro _ hw'
      obtain ⟨⟨dq, osq⟩, hw''⟩ := hw'
      obtain ⟨Wq, hWq⟩ : ∃ Wq, Wq = grow (redrawn wr dq) osq := ⟨_, rfl⟩
      have HNq : Hid (New wr Wq) := Lib.hid (by rw [hWq]; exact below_regrown _ dq osq)
      rw [hw'', ← hWq]
      clear hw'' hWq q1 q2
      have c1q : Wq.cell? ⟨bx1, 0, none⟩ = some (.slice (some ⟨g, o, none⟩) N c) := HNq.out.cell_ c1
      have c2q : Wq.cell? ⟨bx2, 0, none⟩ = some (.int .i64 (size : Int)) := HNq.out.cell_ c2
      clear c1 c2
      go_upto_region 4 with fail
      refine (wpIn_wide (n := 3)).1 ?_
      obtain ⟨fn, tmps, asg, bo, hy, hR⟩ := HY.out (List.range k) k Wq (by rw [List.length_range]; exact HKL.out) (HJ.out _ _ _ HJk.out HNq.out) trivial (by rw [List.length_range])
      rw [HCV.out] at hy
      have HR := Lib.hid hR
      clear hR
      gi_wp2
      refine HR.out.mono ?_
      rintro e w3 ⟨rfl, hJ3, hK3⟩
      have HJ3 := Lib.hid hJ3
      have HB3 : Hid (Blk w3 bx1 84 #[.slice (some ⟨g, o, none⟩) N c] ∧ Blk w3 bx2 3 #[.int .i64 (size : Int)]) := Lib.hid ⟨hK3.1.trans (HNq.out.blk HBk.out.1), hK3.2.trans (HNq.out.blk HBk.out.2)⟩
      have c23 : w3.cell? ⟨bx2, 0, none⟩ = some (.int .i64 (size : Int)) := HB3.out.2.cell 0
      clear hJ3 hK3 HR hy c1q c2q
      gi_wp2
      try go_wp2_with fail
      go_roundw
      case rel => exact ⟨k + 1, j, HKL.out, HJJ, rfl, by omega, Lib.hid (by rw [List.range_succ]; exact HJ3.out), HB3⟩
      case measure => simp [intOf]; omega
    · obtain ⟨j, hj⟩ : ∃ j, j = i + size := ⟨_, rfl⟩
      have d1 : ¬ (size : Int) ≤ (r : Int) := by omega
      have d2 : (r : Int) < (size : Int) := by omega
      have e1 : (i : Int) + (size : Int) = (j : Int) := by omega
      have e2 : (i : Int) + (r : Int) = (N : Int) := by omega
      have e3 : ¬ N = i := by omega
      have e5 : (N : Int) ≤ (c : Int) := by omega
      have HCV : Hid (chV g o N size k = .slice (some ⟨g, o + i, none⟩) r r) := Lib.hid (by unfold chV; rw [← HI.out, ← hr, Nat.min_eq_right (by omega)])
      have hjj : j ≤ N + 1000 := by omega
      have HJJ : Hid (j = (k + 1) * size) := Lib.hid (by rw [hj, HI.out, Nat.succ_mul])
      clear hj hr hrN
      go_wp2_with fail
      refine wp_region_quiet_below (by kernel_rfl) (by kernel_rfl) ?_
      repeat (quiet_step (fail))
      refine wpQuiet_nil ?_
      intro _ hw'
      obtain ⟨⟨dq, osq⟩, hw''⟩ := hw'
      obtain ⟨Wq, hWq⟩ : ∃ Wq, Wq = grow (redrawn wr dq) osq := ⟨_, rfl⟩
      have HNq : Hid (New wr Wq) := Lib.hid (by rw [hWq]; exact below_regrown _ dq osq)
      rw [hw'', ← hWq]
      clear hw'' hWq q1 q2
      have c1q : Wq.cell? ⟨bx1, 0, none⟩ = some (.slice (some ⟨g, o, none⟩) N c) := HNq.out.cell_ c1
      have c2q : Wq.cell? ⟨bx2, 0, none⟩ = some (.int .i64 (size : Int)) := HNq.out.cell_ c2
      clear c1 c2
      go_upto_region 4 with fail
      refine (wpIn_wide (n := 3)).1 ?_
      obtain ⟨fn, tmps, asg, bo, hy, hR⟩ := HY.out (List.range k) k Wq (by rw [List.length_range]; exact HKL.out) (HJ.out _ _ _ HJk.out HNq.out) trivial (by rw [List.length_range])
      rw [HCV.out] at hy
      have HR := Lib.hid hR
      clear hR
      gi_wp2
      refine HR.out.mono ?_
      rintro e w3 ⟨rfl, hJ3, hK3⟩
      have HJ3 := Lib.hid hJ3
      have HB3 : Hid (Blk w3 bx1 84 #[.slice (some ⟨g, o, none⟩) N c] ∧ Blk w3 bx2 3 #[.int .i64 (size : Int)]) := Lib.hid ⟨hK3.1.trans (HNq.out.blk HBk.out.1), hK3.2.trans (HNq.out.blk HBk.out.2)⟩
      have c23 : w3.cell? ⟨bx2, 0, none⟩ = some (.int .i64 (size : Int)) := HB3.out.2.cell 0
      clear hJ3 hK3 HR hy c1q c2q
      gi_wp2
      try go_wp2_with fail
      go_roundw
      case rel => exact ⟨k + 1, j, HKL.out, HJJ, rfl, by omega, Lib.hid (by rw [List.range_succ]; exact HJ3.out), HB3⟩
      case measure => simp [intOf]; omega
  · have hk' : k = chN N size := by
     rcases Nat.lt_or_ge k (chN N size) with h | h
     · have := (chN_lt (N := N) h1).1 h
       rw [← HI.out] at this
       omega
     · omega
    subst hk'
    go_wp2_with fail
    go_end0
    exact ⟨⟨_, rfl⟩, _, rfl, HJk.out⟩
end Go.Proofs.YtmibndkofoldkaaGreatDoor
namespace Go.Proofs.YtmibndkofoldkaaGreatDoor
set_option linter.unusedVariables false
set_option linter.unusedSimpArgs false
set_option linter.constructorNameAsVariable false
open Go.RowKit
section
variable {P : Program} {ops : Array Oper} {Q : Exit → Act → World → Prop} {S : World → Prop} {last : Nat}
theorem mix_take_row {i : Nat} {o : Oper} {sc : List (Bool × Nat)} {a : Act} {w : World} {T : TypeId} {d : TypeDesc} {b off : Nat} {cs : List Value} (ho : ops[i]? = some o) (hw : Region.wanted o (yielded ops a.tmps) = true) (x : Operand) (hop : o.op = .load T x) (hx : a.eval x = .pointer (some ⟨b, off, none⟩))
    (hc : ∀ w', S w' → w'.rangeAt b off cs) (hu : P.underlying T = some d) (hd : d.isRow = true) (hi : (P.info? T).map (·.size) = some cs.length)
    (h : wpMix P ops S last Q sc (a.put o.dst (.agg cs.toArray)) w) : wpMix P ops S last Q ((true, i) :: sc) a w :=
 ⟨o, ho, by
  rw [if_pos hw]
  refine ⟨_, fun p => ?_, h⟩
  unfold execOp
  simp only [hop, hx, Instr.loadAt, Instr.sureAddr, Sem.run_bind, Sem.run_pure, Result.andThen_ok, run_loadVar_mid p.w b off T cs d (hc _ p.h) hu hd hi]⟩
theorem mix_take_arr {i : Nat} {o : Oper} {sc : List (Bool × Nat)} {a : Act} {w : World} {T e : TypeId} {n len cap : Nat} {A : Option Addr} (ho : ops[i]? = some o) (hw : Region.wanted o (yielded ops a.tmps) = true) (x : Operand) (hop : o.op = .sliceToArrayPointer T x) (hx : a.eval x = .slice A len cap)
    (hu : P.underlying T = some (.array n e)) (hn : n ≤ len)
    (h : wpMix P ops S last Q sc (a.put o.dst (.pointer A)) w) : wpMix P ops S last Q ((true, i) :: sc) a w :=
 ⟨o, ho, by
  rw [if_pos hw]
  refine ⟨_, fun p => ?_, h⟩
  unfold execOp
  have hr := run_arrayAt (P := P) (w := p.w) T e n A len cap hu hn
  simp only [hop, hx, Sem.run_bind, hr, Result.andThen_ok, Sem.run_pure]⟩
end
theorem wpList_copyF {P : Program} {w : World} {ops : Array Oper} {rest : List Oper} {o : Oper} {a : Act} {Q : Exit → Act → World → Prop} (hgd : o.guard = none) (d s : Operand) (dT sT : TypeId)
    (ho : o.op = .call { callee := .builtin .copy, args := #[d, s], argTypes := #[dT, sT] }) (elem : TypeId) (hu : P.underlying dT = some (.slice elem)) (hsz : (P.info? elem).map (·.size) = some 1)
    (g off dLen dCap : Nat) (sp : Option Addr) (sLen sCap : Nat) (hd : a.eval d = .slice (some ⟨g, off, none⟩) dLen dCap) (hs : a.eval s = .slice sp sLen sCap)
    (cur : List Value) (t : TypeId) (hg : Blk w g t cur.toArray) (cs : List Value) (hn : cs.length = Nat.min sLen dLen) {q : Nat → Prop}
    (hsrc : ∃ n xs, Rd q w 1 sp n xs ∧ xs.take cs.length = cs) (hfit : off + cs.length ≤ cur.length) (h1 : ∀ v ∈ cs, v.oneCell' = true)
    (h : ∀ w', Blk w' g t (splice cur off cs).toArray → Fr (fun k => k = g) w w' → wpList P ops Q rest (a.put o.dst (goInt cs.length)) w') : wpList P ops Q (o :: rest) a w := by
 by_cases h0 : cs.length = 0
 · obtain rfl : cs = [] := List.eq_nil_of_length_eq_zero h0
   refine wpList_copy_nothing hgd d s dT sT ho elem hu hsz (some ⟨g, off, none⟩) sp dLen dCap sLen sCap hd hs (by simpa using hn.symm) ?_
   exact h w (by simpa [splice] using hg) (Fr.refl _ _)
 · obtain ⟨n, xs, hR, htk⟩ := hsrc
   have hnp : 0 < n := by
    have h2 := hR.1
    have h3 := congrArg List.length htk
    rw [List.length_take] at h3
    omega
   obtain ⟨ad, rfl, -, -, hc⟩ := hR.2 hnp
   refine wpList_copy_own hgd d s dT sT ho elem hu hsz g off dLen dCap ad sLen sCap hd hs cur.toArray t hg cs hn (fun j v hv => hc j v ?_) (by simpa using hfit) h1 ?_
   · have hj := (List.getElem?_eq_some_iff.1 hv).1
     rw [← htk, List.getElem?_take_of_lt hj] at hv
     exact hv
   · obtain ⟨r1, r2⟩ := setRow_blk (cs' := (cur.toArray.toList.take off ++ (cs ++ cur.toArray.toList.drop (off + cs.length))).toArray) hg
     exact h _ (by simpa [splice] using r1) r2
theorem Blk.rangeOf {w : World} {T : TypeId} {g : Nat} {cs : Array Value} (hb : Blk w g T cs) : w.rangeAt g 0 cs.toList := fun j v hv => by
 rw [hb.cell, Nat.zero_add]
 simpa using hv
end Go.Proofs.YtmibndkofoldkaaGreatDoor
namespace Go.Proofs.YtmibndkofoldkaaGreatDoor
set_option linter.unusedVariables false
set_option linter.unusedSimpArgs false
set_option linter.constructorNameAsVariable false
open Go.RowKit Go.Sort
attribute [local go_sem] Oper.semAt_some
structure ShaIn (gk gi : Nat) (w : World) : Prop where
 k : ∀ t, t < 64 → w.cell? ⟨gk, t, none⟩ = some (.int .u32 (at_ kL t))
 i : w.rangeAt gi 0 iH.arr.toList
theorem ShaIn.new {gk gi : Nat} {w w' : World} (h : ShaIn gk gi w) (hN : New w w') : ShaIn gk gi w' := ⟨fun t ht => hN.cell_ (h.k t ht), fun j v hv => hN.cell_ (h.i j v hv)⟩
theorem ShaIn.lt {gk gi : Nat} {w : World} (h : ShaIn gk gi w) : gk < w.heap.size ∧ gi < w.heap.size := ⟨World.block_lt_of_cell? w _ (h.k 0 (by decide)), World.block_lt_of_cell? w _ (h.i 0 _ rfl)⟩
theorem ShaIn.fr {gk gi : Nat} {S : Nat → Prop} {w w' : World} (h : ShaIn gk gi w) (hF : Fr S w w') (h1 : ¬ S gk) (h2 : ¬ S gi) : ShaIn gk gi w' := ⟨fun t ht => hF.cell_some (h.k t ht) h1, fun j v hv => hF.cell_some (h.i j v hv) h2⟩
def SuI (b3 : Nat) (w2 : World) (p : List Int) (s : List Nat) (W : World) : Prop := Fr (fun j => j = b3 ∨ w2.heap.size ≤ j) w2 W ∧ Blk W b3 340 (comprN p s.length).arr
theorem SuI.new {b3 : Nat} {w2 : World} {p : List Int} {s : List Nat} {W W' : World} (h : SuI b3 w2 p s W) (hN : New W W') : SuI b3 w2 p s W' := ⟨h.1.trans (hN.toFr _), hN.blk h.2⟩
theorem SuI.puts {b3 : Nat} {w2 : World} {p : List Int} {s : List Nat} {W W' : World} (h : SuI b3 w2 p s W) (hp : Puts w2.heap.size W W') : SuI b3 w2 p s W' := ⟨h.1.trans (hp.fr (fun j hj => .inr hj)), hp.blk h.2⟩
theorem index_s {x : H8} {t : Nat} (h : t < 8) (w : World) : (Instr.index 340 (.agg x.arr) (.int .i64 (t : Int))).run Tryz.prog w = .ok (.int .u32 (at_ x.list t)) w := by
 have hs : (sizeOf 339).run Tryz.prog w = .ok 1 w := by
  first | exact Tryz.sizeOf339 w | simp [Tryz.sizeOf339, go_sem] | kernel_rfl
 have hc : x.arr[t]? = some (.int .u32 (at_ x.list t)) := by rw [H8.arr_list]; exact u32A_get h
 have hg : (isAgg 339).run Tryz.prog w = .ok false w := by
  first | kernel_rfl | simp [isAgg, run_underlying Tryz.underlying339, go_sem]
 have hp : (part 339 x.arr t).run Tryz.prog w = .ok (.int .u32 (at_ x.list t)) w := by
  simp [part, hg, hc, go_sem]
 have hn : (t : Int) < 8 := by omega
 simp [Instr.index, run_underlying Tryz.underlying340, asIntOf, hs, hp, hn, go_sem]
 rw [if_pos h, hc]
 simp
theorem slice32 (b t : Nat) (h : t < 8) (w : World) : (Instr.sliceAt 60 (.pointer (some ⟨b, 0, none⟩)) (some (.int .i64 (4 * (t : Int)))) none none).run Tryz.prog w = .ok (.slice (some ⟨b, 4 * t, none⟩) (32 - 4 * t) (32 - 4 * t)) w := by
 have hal : (Tryz.prog.arrayLen 60) = 32 := by kernel_rfl
 have hel : (Tryz.prog.elem 60) = 5 := by kernel_rfl
 have hu : Tryz.prog.underlying 60 = some (.array (Tryz.prog.arrayLen 60) (Tryz.prog.elem 60)) := by rw [hal, hel]; exact Tryz.underlying60
 have hs : (sizeOf 5).run Tryz.prog w = .ok 1 w := by
  first | exact Tryz.sizeOf5 w | simp [Tryz.sizeOf5, go_sem] | kernel_rfl
 rw [run_sliceAt_array_l (P := Tryz.prog) w 60 ⟨b, 0, none⟩ hu .i64 (4 * (t : Int)) (by omega) (by rw [hal]; omega), hel, hal, hs]
 have e1 : (4 * (t : Int)).toNat = 4 * t := by omega
 simp only [Result.andThen_ok, slicedAt, e1]
 rw [if_neg (by omega), add_own, Nat.mul_one]
def outN (x : H8) (k : Nat) : List Int := ((x.list.take k).flatMap fun y => beL 4 y.toNat) ++ List.replicate (32 - 4 * k) 0
theorem outN_8 (x : H8) : outN x 8 = x.list.flatMap fun y => beL 4 y.toNat := by simp [outN, H8.list]
theorem outN_len {x : H8} {k : Nat} (h : k ≤ 8) : (outN x k).length = 32 := by
 rcases (by omega : k = 0 ∨ k = 1 ∨ k = 2 ∨ k = 3 ∨ k = 4 ∨ k = 5 ∨ k = 6 ∨ k = 7 ∨ k = 8) with rfl | rfl | rfl | rfl | rfl | rfl | rfl | rfl | rfl <;> rfl
theorem out_step (x : H8) {k : Nat} (h : k < 8) : splice (u8s (outN x k)) (4 * k) (u8s (beL 4 (at_ x.list k).toNat)) = u8s (outN x (k + 1)) := by
 rcases (by omega : k = 0 ∨ k = 1 ∨ k = 2 ∨ k = 3 ∨ k = 4 ∨ k = 5 ∨ k = 6 ∨ k = 7) with rfl | rfl | rfl | rfl | rfl | rfl | rfl | rfl <;> rfl
theorem chN_64 {N : Nat} (h : N % 64 = 0) : chN N 64 = N / 64 := by unfold chN; omega
set_option maxHeartbeats 4000000 in
set_option maxRecDepth 100000 in
theorem sum_any {q : Nat → Prop} (A : Option Addr) (n c : Nat) (xs : List Int) (w : World) (hL : ShaIn 3 1 w) (hR : Rd q w 1 A n (u8s xs)) (hb : Byt xs) (hn : n ≤ 500000000) :
    Calls Tryz.prog 196 #[.slice A n c] w fun e w' => e = .returned (.agg (secA (hsh xs))) ∧ New w w' := by
 have HL := Lib.hid hL
 have HR := Lib.hid hR
 have HPB := Lib.hid (padL_byt hb)
 have HP64 := Lib.hid (padL_len xs)
 have hxn : xs.length = n := by have := hR.1; rw [u8s_len] at this; omega
 have hpl : (padL xs).length ≤ n + 80 ∧ 64 ≤ (padL xs).length := by
  have h1 := padL_len xs
  have h2 := (zN_mod xs.length).2
  rw [padL_eq, List.length_append, padZ_len, beL_len] at h1 ⊢
  omega
 have HH : Hid (hsh xs = (comprN (padL xs) ((padL xs).length / 64)).list.flatMap fun x => beL 4 x.toNat) := Lib.hid rfl
 obtain ⟨RA, hRA⟩ : ∃ RA, RA = secA (hsh xs) := ⟨_, rfl⟩
 rw [← hRA]
 have HRA := Lib.hid hRA
 have HPAD := Lib.hid (fun W (hN : New w W) => pad_any A n c xs W (hN.rd hR) (by omega))
 obtain ⟨p, hp⟩ : ∃ p, p = padL xs := ⟨_, rfl⟩
 rw [← hp] at HPB HP64 HH HPAD hpl
 obtain ⟨N, hN⟩ : ∃ N, N = p.length := ⟨_, rfl⟩
 rw [← hN] at HP64 HH HPAD hpl
 have HNL := Lib.hid hN
 clear hL hR hb hxn hp hN hRA HR
 refine (callsIn_wide (n := 3)).1 ?_
 refine callsIn_of_wp_marks Tryz.func196 rfl trivial ?_ rfl
 refine wpIn_wide.2 ?_
 simp only [Tryz.ntmps196, List.size_toArray, List.length_cons, List.length_nil, Nat.reduceAdd, Nat.reduceSub, Array.replicate_succ, Array.replicate_zero, List.push_toArray, List.append_toArray, List.nil_append, List.cons_append]
 go_wp2_with ((with_reducible refine atOp ⟨some 8, .load _ _, _, _, _, _⟩ ?_); refine wpList_load_range rfl _ rfl rfl ((HL.out.new (New.al (New.refl w) _)).i) Tryz.underlying340 rfl rfl ?_; dsimp only [iH, H8.arr])
 have hz : (#[.int .u8 0, .int .u8 0, .int .u8 0, .int .u8 0, .int .u8 0, .int .u8 0, .int .u8 0, .int .u8 0, .int .u8 0, .int .u8 0, .int .u8 0, .int .u8 0, .int .u8 0, .int .u8 0, .int .u8 0, .int .u8 0, .int .u8 0, .int .u8 0, .int .u8 0, .int .u8 0, .int .u8 0, .int .u8 0, .int .u8 0, .int .u8 0, .int .u8 0, .int .u8 0, .int .u8 0, .int .u8 0, .int .u8 0, .int .u8 0, .int .u8 0, .int .u8 0] : Array Value) = secA (List.replicate 32 0) := rfl
 rw [hz]
 obtain ⟨w1, hw1⟩ : ∃ w1 : World, w1 = (w.alloc (.cells (secA (List.replicate 32 0)) 60)).alloc (.cells #[.int .u32 1779033703, .int .u32 3144134277, .int .u32 1013904242, .int .u32 2773480762, .int .u32 1359893119, .int .u32 2600822924, .int .u32 528734635, .int .u32 1541459225] 340) := ⟨_, rfl⟩
 obtain ⟨b2, hb2⟩ : ∃ b2, b2 = w.heap.size := ⟨_, rfl⟩
 obtain ⟨b3, hb3⟩ : ∃ b3, b3 = w.heap.size + 1 := ⟨_, rfl⟩
 have HN1 : Hid (New w w1) := Lib.hid (by rw [hw1]; exact New.al (New.al (New.refl _) _) _)
 have HB2 : Hid (Blk w1 b2 60 (secA (List.replicate 32 0))) := Lib.hid (by rw [hw1, hb2, ← hz]; exact (Blk.new _ _ _).alloc _)
 have HB3 : Hid (Blk w1 b3 340 (comprN p 0).arr) := Lib.hid (by rw [hw1, hb3]; exact Blk.new' _ _ _ (by simp))
 have HZ : Hid (b2 = w.heap.size ∧ b3 = w.heap.size + 1) := Lib.hid ⟨hb2, hb3⟩
 rw [← hw1, ← hb3, ← hb2]
 clear hw1 hb2 hb3 hz
 refine (HPAD.out w1 HN1.out).mono ?_
 rintro e w2 ⟨⟨A1, d1, rfl, hO⟩, hN2⟩
 obtain ⟨g, cap, hv, hNc, hcm⟩ := own_form hO (by omega)
 injection hv with hv1 hv2 hv3
 subst hv1 hv3
 have HO := Lib.hid hO
 have HN2 := Lib.hid hN2
 clear hO hN2 hv2 HPAD
 go_wp2_with fail
 refine (chunk_any (some ⟨g, 0, none⟩) N d1 64 (by decide) (by decide) w2).mono ?_
 rintro e w3 ⟨rfl, hw3⟩
 have HN3 : Hid (New w2 w3) := Lib.hid (by rw [hw3]; exact New.al (New.al (New.refl _) _) _)
 have hgv := chunk1_gives g 0 N d1 64 w2.heap.size (w2.heap.size + 1) w3 (by rw [hw3]; exact (Blk.new _ _ _).alloc _) (by rw [hw3]; exact Blk.new' _ _ _ (by simp)) (by decide) (by decide) (by omega) hNc hcm
 have hz3 : w3.heap.size = w2.heap.size + 2 := by rw [hw3]; simp
 have HGV := Lib.hid hgv
 have HZ3 := Lib.hid hz3
 have HB3' : Hid (SuI b3 w3 p [] w3) := Lib.hid ⟨Fr.refl _ _, HN3.out.blk (HN2.out.blk HB3.out)⟩
 have HLT : Hid (b3 < w2.heap.size ∧ g < w2.heap.size ∧ g ≠ b3) := Lib.hid ⟨(HN2.out.blk HB3.out).lt, (own_lt HO.out g rfl).2, fun e => own_ne HO.out (HN2.out.blk HB3.out) (by decide) (by rw [e]; rfl)⟩
 have HDATA : Hid (∀ j v, (u8s p)[j]? = some v → w3.cell? ⟨g, j, none⟩ = some v) := Lib.hid fun j v hj => by
  obtain ⟨g', o', he, -, -, hc⟩ := (Rd.own HO.out rfl).out (by omega) (by omega)
  injection he with he
  injection he with e1 e2
  subst e1 e2
  have := hc j v hj
  rw [Nat.zero_add] at this
  exact HN3.out.cell_ this
 clear hw3 hgv hz3 HB3 HO
 go_wp2_with fail
 refine wp_rangeR rfl (enters_of Tryz.func239 (by kernel_rfl) rfl) (fun k : Nat => #[chV g 0 N 64 k]) (fun _ => rfl) HGV.out (fun x W W' hg hp => trivial) (fun h k => h.tr k) (fun W W' hp => KpC.puts hp (by have := HZ3.out; omega) (by have := HZ3.out; omega))
  (SuI b3 w3 p) (fun s A B h hN => h.new hN) (fun s A B h hp => h.puts hp) HB3'.out ?a1 ?assign ?body ?done
 case assign =>
  intro l x W K hK
  gi_wp2
  exact hK
 case body =>
  rintro lp pre k W hpl ⟨hF, hB⟩ hG rfl
  obtain ⟨k, hk⟩ : ∃ k, k = pre.length := ⟨_, rfl⟩
  rw [← hk] at hpl hB ⊢
  have hkN : k * 64 < N := (chN_lt (by decide)).1 hpl
  have HKN : Hid (k * 64 + 64 ≤ N) := Lib.hid (by have := HP64.out; omega)
  have hcv : chV g 0 N 64 k = .slice (some ⟨g, k * 64, none⟩) 64 64 := by
   unfold chV
   rw [Nat.min_eq_left (by have := HKN.out; omega), Nat.zero_add]
  rw [hcv]
  obtain ⟨st, hst⟩ : ∃ st, st = comprN p k := ⟨_, rfl⟩
  rw [← hst] at hB
  obtain ⟨bl, hbl⟩ : ∃ bl, bl = (p.drop (64 * k)).take 64 := ⟨_, rfl⟩
  have HST : Hid (comprN p (k + 1) = compr st bl) := Lib.hid (by rw [hst, hbl]; rfl)
  have HBL : Hid (bl.length = 64 ∧ Byt bl) := Lib.hid ⟨by rw [hbl, List.length_take, List.length_drop]; have := HKN.out; have := HNL.out; omega, by
   rw [hbl]
   intro x hx
   exact HPB.out x (List.mem_of_mem_drop (List.mem_of_mem_take hx))⟩
  have HRG : Hid (∀ W', New W W' → W'.rangeAt g (k * 64) (u8s bl)) := Lib.hid fun W' hN j v hj => by
   have h1 : (u8s p)[k * 64 + j]? = some v := by
    rw [← hj, hbl]
    unfold u8s
    rw [List.getElem?_map, List.getElem?_map, List.getElem?_take_of_lt (by
     have := (List.getElem?_eq_some_iff.1 hj).1
     rw [u8s_len] at this
     have := HBL.out.1
     omega), List.getElem?_drop, Nat.mul_comm]
   have h2 := HDATA.out _ v h1
   exact hN.cell_ (hF.cell_some h2 (fun hs => by
    have hs' : g = b3 ∨ w3.heap.size ≤ g := hs
    have := HLT.out
    have := HZ3.out
    omega))
  have HSOK : Hid st.Ok := Lib.hid (by rw [hst]; exact comprN_ok p k)
  have HBW := Lib.hid hB
  have HFW := Lib.hid hF
  have HSH : Hid (∀ W', New W W' → ∀ t, t < 64 → W'.cell? ⟨3, t, none⟩ = some (.int .u32 (at_ kL t))) := Lib.hid fun W' hN t ht => hN.cell_ (hF.cell_some (HN3.out.cell_ (HN2.out.cell_ (HN1.out.cell_ (HL.out.k t ht)))) (fun hs => by
   have hs' : 3 = b3 ∨ w3.heap.size ≤ 3 := hs
   have h1 := HL.out.lt
   have h2 := HZ.out
   have h3 := HZ3.out
   have h4 := HLT.out
   omega))
  have HKP : Hid (pre.length = k) := Lib.hid hk.symm
  clear hst hbl hB hF hcv hG hk hkN
  gi_wp2
  refine wpIn_region_mix lp (New W) 5 [(true, 0), (true, 1), (true, 2), (true, 3), (false, 4), (false, 5)] (by kernel_rfl) (by kernel_rfl) (New.dr (New.refl W)) (fun hne => ?_)
  refine mix_take_row (o := ⟨_, _, _, _, _, _⟩) rfl rfl (.tmp 3) rfl rfl (fun W' hN => (hN.blk HBW.out).rangeOf) Tryz.underlying340 rfl rfl ?_
  simp only [Act.put, List.setIfInBounds_toArray, List.set_cons_zero, List.set_cons_succ]
  refine mix_take (o := ⟨_, _, _, _, _, _⟩) rfl (fun K hK => ?_); go_simp; refine hK _ ?_; clear hK K
  refine mix_take_arr (o := ⟨_, _, _, _, _, _⟩) rfl rfl (.tmp 14) rfl rfl Tryz.underlying153 (Nat.le_refl _) ?_
  simp only [Act.put, List.setIfInBounds_toArray, List.set_cons_zero, List.set_cons_succ]
  refine mix_take_row (o := ⟨_, _, _, _, _, _⟩) rfl rfl (.tmp 15) rfl rfl (fun W' hN => HRG.out W' hN) Tryz.underlying153 rfl (by rw [u8s_len, HBL.out.1]; rfl) ?_
  simp only [Act.put, List.setIfInBounds_toArray, List.set_cons_zero, List.set_cons_succ]
  refine mix_act (o := ⟨_, _, _, _, _, _⟩) rfl (fun K hK => ?_) (.inl rfl)
  go_simp
  have hcp := compress_any st bl W.drew (HSH.out _ (New.dr (New.refl W))) HSOK.out HBL.out.1 HBL.out.2
  unfold secA at hcp
  refine hcp.mono ?_
  rintro e w4 ⟨rfl, hN4⟩
  have HN4 : Hid (New W w4) := Lib.hid (New.tr (New.dr (New.refl W)) hN4)
  clear hcp hN4
  go_simp
  refine hK.out _ _ (fun _ => HN4.out) ?_
  clear hK K
  refine mix_act (o := ⟨_, _, _, _, _, _⟩) rfl (fun K hK => ?_) (.inl rfl)
  refine step_store_any (cs := (compr st bl).arr) rfl (.tmp 3) (.tmp 17) rfl rfl rfl rfl (HN4.out.blk HBW.out) rfl (by simp [H8.arr, Value.oneCell']) ?_
  intro w5 hB5 hF5
  simp only [Act.put, List.setIfInBounds_toArray, List.set_cons_zero, List.set_cons_succ]
  refine hK.out _ _ (fun h => absurd rfl h) ?_
  have HB5 := Lib.hid hB5
  have HF5 : Hid (Fr (fun j => j = b3) W w5) := Lib.hid ((HN4.out.toFr _).trans hF5)
  clear hK K hne hB5 hF5
  refine mix_doneIn ?_
  gi_wp2
  refine ⟨Kept.fr HF5.out (fun k o hB hs => by
   have hs' : k = b3 := hs
   have := HLT.out
   have := HZ3.out
   omega), KpC.fr HF5.out ⟨by have := HFW.out.size; have := HZ3.out; omega, fun hs => ?_⟩ ⟨by have := HFW.out.size; have := HZ3.out; omega, fun hs => ?_⟩, HFW.out.trans (HF5.out.mono (fun k _ hs => .inl hs)), ?_⟩
  · have hs' : w2.heap.size = b3 := hs
    have := HLT.out
    omega
  · have hs' : w2.heap.size + 1 = b3 := hs
    have := HLT.out
    omega
  · rw [List.length_append, List.length_singleton, HKP.out, HST.out]
    exact HB5.out
 case done =>
  rintro D fs W hD hfs ⟨hF, hB⟩ hDm
  obtain ⟨x, hx⟩ : ∃ x, x = comprN p (N / 64) := ⟨_, rfl⟩
  have hB' : Blk W b3 340 x.arr := by rw [hx, ← chN_64 HP64.out]; rw [hfs, List.length_range] at hB; exact hB
  have HXOK : Hid x.Ok := Lib.hid (by rw [hx]; exact comprN_ok _ _)
  have HHX : Hid (hsh xs = outN x 8) := Lib.hid (by rw [HH.out, outN_8, hx])
  have HBx := Lib.hid hB'
  have HFW := Lib.hid hF
  have HNW : Hid (New w W) := Lib.hid (((HN1.out.tr HN2.out).tr HN3.out).fr hF (fun k hs => by
   have hs' : k = b3 ∨ w3.heap.size ≤ k := hs
   have h2 := HZ.out
   have h1 := HN1.out.size
   have h3 := HN2.out.size
   have h4 := HN3.out.size
   omega))
  have HB2W : Hid (Blk W b2 60 (secA (List.replicate 32 0))) := Lib.hid ((HN3.out.blk (HN2.out.blk HB2.out)).fr hF (fun hs => by
   have hs' : b2 = b3 ∨ w3.heap.size ≤ b2 := hs
   have h2 := HZ.out
   have h1 := (HN3.out.blk (HN2.out.blk HB2.out)).lt
   omega))
  have HM : Hid (Marks w.heap.size [D] W) := Lib.hid (Marks.cons (Marks.nil _ W) (fun _ h => by cases h) (by have := HN1.out.size; have := HN2.out.size; have := HN3.out.size; omega) hDm)
  clear hx hfs hB hB' hF hD hDm HGV HDATA HB3'
  dsimp only
  go_wp2_with ((with_reducible refine atOp ⟨some 18, .load _ _, _, _, _, _⟩ ?_); refine wpList_load_any rfl _ rfl Tryz.underlying340 rfl rfl rfl ((HBx.out.alloc _)) ?_)
  have hz : (#[.int .u8 0, .int .u8 0, .int .u8 0, .int .u8 0, .int .u8 0, .int .u8 0, .int .u8 0, .int .u8 0, .int .u8 0, .int .u8 0, .int .u8 0, .int .u8 0, .int .u8 0, .int .u8 0, .int .u8 0, .int .u8 0, .int .u8 0, .int .u8 0, .int .u8 0, .int .u8 0, .int .u8 0, .int .u8 0, .int .u8 0, .int .u8 0, .int .u8 0, .int .u8 0, .int .u8 0, .int .u8 0, .int .u8 0, .int .u8 0, .int .u8 0, .int .u8 0] : Array Value) = (u8s (outN x 0)).toArray := rfl
  rw [hz]
  obtain ⟨W1, hW1⟩ : ∃ W1 : World, W1 = W.alloc (.cells (u8s (outN x 0)).toArray 60) := ⟨_, rfl⟩
  obtain ⟨b5, hb5⟩ : ∃ b5, b5 = W.heap.size := ⟨_, rfl⟩
  have HN5 : Hid (New w W1) := Lib.hid (by rw [hW1]; exact New.al HNW.out _)
  have HB5 : Hid (Blk W1 b5 60 (u8s (outN x 0)).toArray) := Lib.hid (by rw [hW1, hb5, ← hz]; exact Blk.new _ _ _)
  have HB25 : Hid (Blk W1 b2 60 (secA (List.replicate 32 0))) := Lib.hid (by rw [hW1]; exact HB2W.out.alloc _)
  have HM5 : Hid (Marks w.heap.size [D] W1) := Lib.hid (by rw [hW1]; exact HM.out.new (New.al (New.refl _) _))
  have HZ5 : Hid (w.heap.size ≤ b5 ∧ b2 ≠ b5 ∧ w.heap.size ≤ b2) := Lib.hid ⟨by rw [hb5]; exact HNW.out.size, by have := HB2W.out.lt; omega, by have := HZ.out; omega⟩
  rw [← hW1, ← hb5]
  clear hW1 hb5 hz HNW HB2W HM HBx HFW HB2
  go_loopw [19] (fun i wr => ∃ (k : Nat), k ≤ 8 ∧ i = .int .i64 k ∧ Hid (New w wr) ∧ Hid (Blk wr b5 60 (u8s (outN x k)).toArray) ∧ Hid (Blk wr b2 60 (secA (List.replicate 32 0))) ∧ Hid (Marks w.heap.size [D] wr)) (fun i _ => 8 - (intOf i).toNat)
  case atStart => exact ⟨0, Nat.zero_le _, rfl, HN5, HB5, HB25, HM5⟩
  case round =>
   clear HN5 HB5 HB25 HM5
   obtain ⟨k, hk, rfl, HN, HB5, HB2, HM⟩ := hrel
   by_cases hlt : k < 8
   · have hk0 : (0 : Int) ≤ (k : Int) := by omega
     have hk8 : (k : Int) < 8 := by omega
     have hix := index_s (x := x) hlt
     have hsl := slice32 b5 k hlt
     obtain ⟨yn, hyn⟩ : ∃ yn, yn = (at_ x.list k).toNat := ⟨_, rfl⟩
     have hyb := H8.ok_b HXOK.out k
     have hy : at_ x.list k = (yn : Int) := by omega
     have hynb : (yn : Int) < 4294967296 := by omega
     have hyn0 : (0 : Int) ≤ (yn : Int) := by omega
     have HST : Hid (splice (u8s (outN x k)) (4 * k) (u8s (beL 4 yn)) = u8s (outN x (k + 1))) := Lib.hid (by rw [hyn]; exact out_step x hlt)
     have v3 : IntKind.u8.wrap ((yn : Int) / 16777216) = ((byteAt yn 3 : Nat) : Int) := by
      rw [show (yn : Int) / 16777216 = ((yn / 16777216 : Nat) : Int) from by simp, u8_wrap]
      rfl
     have v2 : IntKind.u8.wrap ((yn : Int) / 65536) = ((byteAt yn 2 : Nat) : Int) := by
      rw [show (yn : Int) / 65536 = ((yn / 65536 : Nat) : Int) from by simp, u8_wrap]
      rfl
     have v1 : IntKind.u8.wrap ((yn : Int) / 256) = ((byteAt yn 1 : Nat) : Int) := by
      rw [show (yn : Int) / 256 = ((yn / 256 : Nat) : Int) from by simp, u8_wrap]
      rfl
     have v0 : IntKind.u8.wrap (yn : Int) = ((byteAt yn 0 : Nat) : Int) := by
      rw [u8_wrap]
      unfold byteAt
      rw [Nat.pow_zero, Nat.div_one]
     rw [hy] at hix
     clear hyn hyb hy
     have HL32 : Hid ((u8s (outN x k)).length = 32) := Lib.hid (by rw [u8s_len, outN_len hk])
     go_wp2_with ((with_reducible refine atOp ⟨some 38, _, _, _, _, _⟩ ?_); refine wpList_copyF (q := fun _ => True) rfl (.tmp 25) (.tmp 37) 84 84 rfl 5 Tryz.underlying84 rfl b5 (4 * k) (32 - 4 * k) (32 - 4 * k) (some ⟨wr.heap.size, 0, none⟩) 4 4 rfl rfl (u8s (outN x k)) 60 (HB5.out.alloc _) (u8s (beL 4 yn)) (by rw [u8s_len, beL_len]; show 4 = min 4 (32 - 4 * k); omega) ⟨4, u8s (beL 4 yn), Rd.ofBlk (Blk.new wr 5 #[.int .u8 (byteAt yn 3 : Nat), .int .u8 (byteAt yn 2 : Nat), .int .u8 (byteAt yn 1 : Nat), .int .u8 (byteAt yn 0 : Nat)]) 1 4 rfl trivial, List.take_length⟩ (by rw [HL32.out, u8s_len, beL_len]; omega) (u8s_one _) ?_; intro w8 hb8 hf8; rw [HST.out] at hb8; have HB8 := Lib.hid hb8; have HF8 : Hid (Fr (fun j => j = b5) wr w8) := Lib.hid (((New.al (New.refl wr) _).toFr _).trans hf8); clear hb8 hf8)
     have HN8 : Hid (New w w8) := Lib.hid (HN.out.fr HF8.out (fun j hj => by have := HZ5.out; omega))
     have HB28 : Hid (Blk w8 b2 60 (secA (List.replicate 32 0))) := Lib.hid (HB2.out.fr HF8.out (by have := HZ5.out; omega))
     have HM8 : Hid (Marks w.heap.size [D] w8) := Lib.hid (HM.out.fr HF8.out (fun j hj => by
      have hj' : j = b5 := hj
      rw [hj']
      exact not_def_blk HB5.out))
     go_roundw
     case rel => exact ⟨k + 1, by omega, by go_num, HN8, HB8, HB28, HM8⟩
     case measure => simp [intOf]; omega
   · have HK8 : Hid (k = 8) := Lib.hid (by omega)
     have hn8 : ¬ (k : Int) < 8 := by omega
     have HBF : Hid (Blk wr b5 60 (secA (hsh xs))) := Lib.hid (by rw [HHX.out, ← HK8.out]; exact HB5.out)
     have hsz : (secA (hsh xs)).size = 32 := by rw [secA_size, hsh_len]
     have HSZ := Lib.hid hsz
     clear hsz HB5
     go_wp2_with (first
      | ((with_reducible refine atOp ⟨some 40, .load _ _, _, _, _, _⟩ ?_); refine wpList_load_any rfl _ rfl Tryz.underlying60 rfl (by rw [HSZ.out]; rfl) rfl HBF.out ?_)
      | ((with_reducible refine atOp ⟨none, .store 60 (.tmp 2) _, _, _, _, _⟩ ?_); refine wpList_store_any rfl (.tmp 2) (.tmp 40) rfl (by rw [HSZ.out]; rfl) rfl rfl HB2.out (by rw [HSZ.out, secA_size, List.length_replicate]) (secA_one _) ?_; intro w8 hb8 hf8; have HB8 := Lib.hid hb8; have HF8 := Lib.hid hf8; clear hb8 hf8))
     have HM8 : Hid (Marks w.heap.size [D] w8) := Lib.hid (HM.out.fr HF8.out (fun j hj => by
      have hj' : j = b2 := hj
      rw [hj']
      exact not_def_blk HB2.out))
     have HN8 : Hid (New w w8) := Lib.hid (HN.out.fr HF8.out (fun j hj => by have := HZ5.out; omega))
     rw [HRA.out]
     refine leaves_marks [D] w8 HM8.out (fun W' hS => ⟨.agg (secA (hsh xs)), results_rowA rfl _ _ b2 _ _ rfl (hS.cells b2 _ HB8.out rfl) Tryz.underlying60 rfl (by rw [HSZ.out]; rfl), rfl, ?_⟩)
     exact HN8.out.trans (hS.below)
end Go.Proofs.YtmibndkofoldkaaGreatDoor
