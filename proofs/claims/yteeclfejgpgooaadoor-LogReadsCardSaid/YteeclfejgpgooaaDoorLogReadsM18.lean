/- Texts of one proof, one behind the other: LhB, LhC, LhD, LhE. No condition but each one's own. -/
import Derived.Test.YteeclfejgpgooaaDoorLogReadsM16
import Derived.Test.YteeclfejgpgooaaDoorLogReadsM17
import Derived.WalkArith
/- The reference's next record. Its tables are as they were laid. No condition else. -/
namespace Go.Proofs.YteeclfejgpgooaaDoor
set_option linter.unusedVariables false
set_option linter.unusedSimpArgs false
set_option linter.constructorNameAsVariable false
open Go.RowKit Go.Sort

def RNextSays (r : Option (List Int)) (w : World) (e : Ending) (w' : World) : Prop :=
  match r with
  | none => e = .returned (.slice none 0 0) ∧ New w w'
  | some b => ∃ g o c, e = .returned (.slice (some ⟨g, o, none⟩) b.length c) ∧ b.length ≤ c ∧ c ≤ maxLen ∧ Byt b ∧ Rd (RB w.heap.size w') w' 1 (some ⟨g, o, none⟩) b.length (u8s b) ∧ New w w'
theorem blk_rd {w : World} {g T o n : Nat} {s : List Int} (hb : Blk w g T (secA s)) (h : o + n ≤ s.length) : Rd (fun _ => True) w 1 (some ⟨g, o, none⟩) n (u8s ((s.drop o).take n)) :=
  ⟨by rw [u8s_len, List.length_take, List.length_drop]; omega, fun _ => ⟨_, rfl, trivial, hb.lt, fun j u hu => by
    have hj := (List.getElem?_eq_some_iff.1 hu).1
    rw [u8s_len, List.length_take, List.length_drop] at hj
    have e : (⟨g, o, none⟩ : Addr).add j = ⟨g, o + j, none⟩ := by
      unfold Addr.add
      by_cases hj0 : j = 0 <;> simp [hj0]
    rw [e, hb.cell]
    unfold secA
    rw [List.getElem?_toArray, ← hu]
    unfold u8s
    rw [List.getElem?_map, List.getElem?_map, List.getElem?_take_of_lt (by omega), List.getElem?_drop]⟩⟩
theorem take_succ_at (s : List Int) {j : Nat} (h : j < s.length) : s.take (j + 1) = s.take j ++ [at_ s j] := by
  unfold at_
  rw [List.take_succ_eq_append_getElem h, List.getD_eq_getElem?_getD, List.getElem?_eq_getElem h]
  rfl
theorem secF_get (l : LG) (b : List Int) {i j : Nat} (hj : j < 64) : ∀ {k : Nat}, i < k → (secF l b k)[i * 64 + j]? = some (.int .u8 (at_ (l.sec b i) j))
  | 0, h => absurd h (by omega)
  | k + 1, h => by
    have hl : ∀ k, (secF l b k).length = k * 64 := fun k => by
      induction k with
      | zero => rfl
      | succ k ih => rw [secF_succ, List.length_append, ih, u8s_len, LG.sec, pad64_len (l.raw_len b k)]; omega
    rw [secF_succ]
    by_cases hk : i = k
    · subst hk
      rw [List.getElem?_append_right (by rw [hl]; omega), hl]
      have e : i * 64 + j - i * 64 = j := by omega
      have h64 : (l.sec b i).length = 64 := by rw [LG.sec, pad64_len (l.raw_len b i)]
      rw [e]
      unfold u8s at_
      rw [List.getElem?_map, List.getElem?_eq_getElem (by omega), List.getD_eq_getElem?_getD, List.getElem?_eq_getElem (by omega)]
      rfl
    · rw [List.getElem?_append_left (by rw [hl]; omega)]
      exact secF_get l b hj (by omega)
/-- A round over the sectors that are read. -/
structure RfI (w wr : World) (p : DP) (l : LG) (k : Nat) (v : Value) : Prop where
  new : New w wr
  own : wr.ownsRow w.heap.size 5 1 v (55 * k) (u8s (frameL p l k))
set_option maxHeartbeats 3000000 in
set_option maxRecDepth 100000 in
theorem rnext_any {w : World} {p : DP} {l : LG} (r : RP) (A1 : Option Addr) (c1 : Nat) (A2 : Option Addr) (c2 : Nat) (A : Option Addr) (c : Nat) (hr : RfIn w r A1 A2) (hM : Mt p r) (hp : p.Ok) (hn : r.tot ≤ 1000000) (hI : RlIn w l A) (hl : l.Ok p.size) (hL : RShaIn 1 0 w) :
    Calls Tryd.prog 42 #[.agg (RfV r A1 c1 A2 c2), .agg (rlV l A c)] w (RNextSays (nextL p l) w) := by
  have hsz := hp.s2
  have hfit := hl.fit
  have hused := hl.used
  have HOK := Lib.hid hp
  have HL := Lib.hid hL
  have HI := Lib.hid hI
  have HSO : Hid (∀ i, SecOk (sct p l i)) := Lib.hid fun i => sct_ok hp l i
  obtain ⟨XR, hXR⟩ : ∃ XR, XR = RfV r A1 c1 A2 c2 := ⟨_, rfl⟩
  obtain ⟨XL, hXL⟩ : ∃ XL, XL = rlV l A c := ⟨_, rfl⟩
  have HRD : Hid (∀ i (a : Int), a = ((l.first + l.used + i : Nat) : Int) → l.used + i < l.size → ∀ W, New w W → Calls Tryd.prog 20 #[.agg XR, .int .i64 a] W fun e w' => e = .returned (.tuple #[.agg (secA (sct p l i)), .int .i64 0]) ∧ New W w') := Lib.hid fun i a ha hi W hN => by
    subst ha
    have hwi : p.within ((l.first + l.used + i : Nat) : Int) = true := by unfold DP.within; exact decide_eq_true (by omega)
    have h := rread_any r A1 c1 A2 c2 ((l.first + l.used + i : Nat) : Int) W (hr.new hN) hn (WalkArith.wf_i64 (by omega)) (by rw [hM.size]; omega)
    rw [hM.rget, hM.rcode, DP.rcode, hwi, if_pos rfl] at h
    rw [hXR]
    exact h
  have HFRM : Hid (∀ (B : Option Addr) (n d : Nat) (b : List Int) W, New w W → Rd (fun _ => True) W 1 B n (u8s b) → Byt b → n ≤ 70000 → ∀ K, K = (n + 74) / 55 → Calls Tryd.prog 53 #[.agg XL, .slice B n d] W fun e w' => (∃ C cc, e = .returned (.slice C K cc) ∧ w'.ownsRow W.heap.size 35 64 (.slice C K cc) K (secF l b K)) ∧ New W w') := Lib.hid fun B n d b W hN hR hb h7 K hK => by
    rw [hXL]
    exact rframe_any l A c B n d b (hL.new hN) (hI.new hN) hR hb h7 K hK
  obtain ⟨us, hus⟩ : ∃ us, us = l.used := ⟨_, rfl⟩
  obtain ⟨fs, hfs⟩ : ∃ fs, fs = l.first := ⟨_, rfl⟩
  obtain ⟨sz, hsz2⟩ : ∃ sz, sz = l.size := ⟨_, rfl⟩
  have HEQ : Hid (us = l.used ∧ fs = l.first ∧ sz = l.size) := Lib.hid ⟨hus, hfs, hsz2⟩
  have HXL : Hid (XL[0]? = some (.int .i64 fs) ∧ XL[1]? = some (.int .i64 sz) ∧ XL[2]? = some (.int .i64 us) ∧ XL.size = 6) := Lib.hid (by rw [hXL, hus, hfs, hsz2]; exact ⟨rfl, rfl, rfl, rfl⟩)
  have HXR : Hid (XR.size = 5) := Lib.hid (by rw [hXR]; rfl)
  obtain ⟨NX, hNX⟩ : ∃ NX, NX = nextL p l := ⟨_, rfl⟩
  rw [← hXR, ← hXL, ← hNX]
  have HNX := Lib.hid hNX
  have hu1 : us ≤ sz := by omega
  have hs1 : fs + sz ≤ 16384 := by omega
  clear hr hM hp hn hI hl hL hXR hXL hNX hus hfs hsz2 hsz hfit hused
  go_enter Tryd.func42, Tryd.ntmps42
  go_upto_region 1 with fail
  obtain ⟨w0, hw0⟩ : ∃ w0 : World, w0 = (w.alloc (.cells XR 32)).alloc (.cells XL 45) := ⟨_, rfl⟩
  obtain ⟨b2, hb2⟩ : ∃ b2, b2 = w.heap.size := ⟨_, rfl⟩
  obtain ⟨b3, hb3⟩ : ∃ b3, b3 = w.heap.size + 1 := ⟨_, rfl⟩
  have HN0 : Hid (New w w0) := Lib.hid (by rw [hw0]; exact New.al (New.al (New.refl _) _) _)
  have HB2 : Hid (Blk w0 b2 32 XR) := Lib.hid (by rw [hw0, hb2]; exact (Blk.new _ _ _).alloc _)
  have HB3 : Hid (Blk w0 b3 45 XL) := Lib.hid (by rw [hw0, hb3]; exact Blk.new' _ _ _ (by simp))
  rw [← hw0, ← hb3, ← hb2]
  clear hw0 hb2 hb3
  have HC : Hid (∀ W, New w0 W → W.cell? ⟨b3, 0, none⟩ = some (.int .i64 fs) ∧ W.cell? ⟨b3, 1, none⟩ = some (.int .i64 sz) ∧ W.cell? ⟨b3, 2, none⟩ = some (.int .i64 us)) := Lib.hid fun W hN => by
    have h := hN.blk HB3.out
    exact ⟨by rw [h.cell, HXL.out.1], by rw [h.cell, HXL.out.2.1], by rw [h.cell, HXL.out.2.2.1]⟩
  obtain ⟨c30, c31, c32⟩ := HC.out w0 (New.refl _)
  by_cases h0 : us < sz
  rotate_left
  · have HN : Hid (NX = none) := Lib.hid (by rw [HNX.out]; exact nextL_none (fun hx => by have := hx.room; have := HEQ.out; omega))
    go_wp2_with fail
    go_ret
    rw [HN.out]
    exact ⟨rfl, HN0.out⟩
  obtain ⟨fu, hfu⟩ : ∃ fu, fu = fs + us := ⟨_, rfl⟩
  have e1 : (fs : Int) + (us : Int) = (fu : Int) := by omega
  have e2 : IntKind.i64.wrap (fu : Int) = (fu : Int) := IntWalk.i64_in _ (by omega)
  have HFU : Hid (fu = l.first + l.used) := Lib.hid (by have := HEQ.out; omega)
  have hfu1 : fu ≤ 16384 := by omega
  clear hfu
  have HSZ : Hid (∀ i, (secA (sct p l i)).size = 64) := Lib.hid fun i => by rw [secA_size, (HSO.out i).1]
  go_upto_region 4 with (first
    | ((with_reducible refine atOp ⟨some 26, .load _ _, _, _, _, _⟩ ?_); refine wpList_load_any rfl _ rfl Tryd.underlying32 rfl (by rw [HXR.out]; rfl) rfl HB2.out ?_)
    | (go_at_call 20; refine (HRD.out 0 (fu : Int) (by rw [Nat.add_zero, ← HFU.out]) (by have := HEQ.out; omega) w0 HN0.out).mono ?_; rintro e w1 ⟨rfl, hN1⟩; have HN1 := Lib.hid hN1; clear hN1)
    | ((with_reducible refine atOp ⟨some 5, .alloc _, _, _, _, _⟩ ?_); refine wpList_newvar (s := sct p l 0) rfl rfl rfl _ _ rfl secInfo rfl rfl rfl (HSO.out 0).1 ?_))
  obtain ⟨w2, hw2⟩ : ∃ w2 : World, w2 = w1.alloc (.cells (secA (sct p l 0)) 35) := ⟨_, rfl⟩
  obtain ⟨b5, hb5⟩ : ∃ b5, b5 = w1.heap.size := ⟨_, rfl⟩
  have HB5 : Hid (Blk w2 b5 35 (secA (sct p l 0))) := Lib.hid (by rw [hw2, hb5]; exact Blk.new _ _ _)
  have HN2 : Hid (New w0 w2) := Lib.hid (by rw [hw2]; exact New.al HN1.out _)
  rw [← hw2, ← hb5]
  clear hw2 hb5 c30 c31 c32
  obtain ⟨mn, hmn⟩ : ∃ mn, mn = l.many p := ⟨_, rfl⟩
  have HMN := Lib.hid hmn
  obtain ⟨N, hN⟩ : ∃ N, N = secN mn := ⟨_, rfl⟩
  have HNN := Lib.hid hN
  have hNle : N ≤ 1193 := by rw [hN]; exact secN_le mn
  have hmnb : mn < 4294967296 := by
    have h55 := (HSO.out 0).1
    have := valL_lt (xs := ((sct p l 0).drop 9).take 4) (fun x hx => (HSO.out 0).2 x (List.mem_of_mem_drop (List.mem_of_mem_take hx)))
    rw [List.length_take, List.length_drop, h55] at this
    rw [hmn]
    exact this
  have HVAL : Hid (valL (((sct p l 0).drop 9).take 4) = mn) := Lib.hid (by rw [hmn]; rfl)
  have em : IntKind.i64.wrap (mn : Int) = (mn : Int) := IntWalk.i64_in _ (by omega)
  have hmn' : (mn : Int) < 4294967296 := by omega
  clear hmn hN hmnb
  go_wp2_with fail
  refine (value_any (some ⟨b5, 9, none⟩) 4 55 (((sct p l 0).drop 9).take 4) w2 (blk_rd HB5.out (by rw [(HSO.out 0).1]; decide)) (fun x hx => (HSO.out 0).2 x (List.mem_of_mem_drop (List.mem_of_mem_take hx))) (by omega)).mono ?_
  rintro e w' ⟨rfl, rfl⟩
  rw [HVAL.out]
  go_wp2_with fail
  refine (rsectors_any (mn : Int) w2).mono ?_
  rintro e w' ⟨rfl, rfl⟩
  rw [secs_N, ← HNN.out]
  clear em hmn'
  obtain ⟨c30, c31, c32⟩ := HC.out w2 HN2.out
  by_cases hN0 : N = 0
  · have HN : Hid (NX = none) := Lib.hid (by rw [HNX.out]; exact nextL_none (fun hx => hx.pos (by rw [← HMN.out, ← HNN.out, hN0])))
    subst hN0
    go_wp2_with fail
    go_ret
    rw [HN.out]
    exact ⟨rfl, HN0.out.tr HN2.out⟩
  have hN0' : ((N : Int) == 0) = false := by simp; omega
  by_cases hfit : us + N ≤ sz
  rotate_left
  · have HN : Hid (NX = none) := Lib.hid (by rw [HNX.out]; exact nextL_none (fun hx => hfit (by have := hx.fit; rw [← HMN.out, ← HNN.out] at this; have := HEQ.out; omega)))
    have g1 : (sz : Int) < (us : Int) + (N : Int) := by omega
    clear hN0
    go_wp2_with fail
    go_ret
    rw [HN.out]
    exact ⟨rfl, HN0.out.tr HN2.out⟩
  have g1 : ¬ (sz : Int) < (us : Int) + (N : Int) := by omega
  have HN0z := Lib.hid hN0
  clear hN0
  have HF0 : Hid (RfI w0 w2 p l 0 (.slice none 0 0)) := Lib.hid ⟨HN2.out, World.ownsRow_nil _ _ _ _⟩
  go_wp2_with fail
  go_loopw [9, 10] (fun f i wr => ∃ (k m : Nat) (A : Option Addr) (d : Nat), k ≤ N ∧ Hid (m = 55 * k) ∧ m ≤ 66000 ∧ i = .int .i64 k ∧ f = .slice A m d ∧ Hid (RfI w0 wr p l k (.slice A m d))) (fun _ i _ => N - (intOf i).toNat)
  case atStart => exact ⟨0, 0, none, 0, Nat.zero_le _, Lib.hid rfl, by omega, rfl, rfl, HF0⟩
  case round =>
    clear HF0 c30 c31 c32
    obtain ⟨k, m, A3, d, hk, HM, hm, rfl, rfl, HF⟩ := hrel
    obtain ⟨c30, c31, c32⟩ := HC.out wr HF.out.new
    have HB2r : Hid (Blk wr b2 32 XR) := Lib.hid (HF.out.new.blk HB2.out)
    by_cases hlt : k < N
    · obtain ⟨a, ha⟩ : ∃ a, a = fu + k := ⟨_, rfl⟩
      have f1 : (fu : Int) + (k : Int) = (a : Int) := by omega
      have f2 : IntKind.i64.wrap (a : Int) = (a : Int) := IntWalk.i64_in _ (by omega)
      have HA : Hid (a = l.first + l.used + k) := Lib.hid (by have := HFU.out; omega)
      have hklt : (k : Int) < (N : Int) := by omega
      have hk0 : (0 : Int) ≤ (k : Int) := by omega
      have H55 : Hid (((sct p l k).drop 9).length = 55) := Lib.hid (by rw [List.length_drop, (HSO.out k).1])
      clear ha
      go_upto_region 13 with (first
        | ((with_reducible refine atOp ⟨some 57, .load _ _, _, _, _, _⟩ ?_); refine wpList_load_any rfl _ rfl Tryd.underlying32 rfl (by rw [HXR.out]; rfl) rfl HB2r.out ?_)
        | (go_at_call 20; refine (HRD.out k (a : Int) (by rw [← HA.out]) (by have := HEQ.out; omega) wr (HN0.out.tr HF.out.new)).mono ?_; rintro e w1 ⟨rfl, hN1⟩; have HN1 := Lib.hid hN1; clear hN1)
        | ((with_reducible refine atOp ⟨some 11, .alloc _, _, _, _, _⟩ ?_); refine wpList_newvar (s := sct p l k) rfl rfl rfl _ _ rfl secInfo rfl rfl rfl (HSO.out k).1 ?_))
      obtain ⟨w4, hw4⟩ : ∃ w4 : World, w4 = w1.alloc (.cells (secA (sct p l k)) 35) := ⟨_, rfl⟩
      obtain ⟨b11, hb11⟩ : ∃ b11, b11 = w1.heap.size := ⟨_, rfl⟩
      have HB11 : Hid (Blk w4 b11 35 (secA (sct p l k))) := Lib.hid (by rw [hw4, hb11]; exact Blk.new _ _ _)
      have HN4 : Hid (New wr w4) := Lib.hid (by rw [hw4]; exact New.al HN1.out _)
      rw [← hw4, ← hb11]
      clear hw4 hb11
      have HFO : Hid (w4.ownsRow w0.heap.size 5 1 (.slice A3 m d) m (u8s (frameL p l k))) := Lib.hid (by have := HN4.out.own HF.out.own; rwa [← HM.out] at this)
      have HRD9 : Hid (Rd (fun _ => True) w4 1 (some ⟨b11, 9, none⟩) 55 (u8s ((sct p l k).drop 9))) := Lib.hid (by
        have h := blk_rd (o := 9) (n := 55) HB11.out (by rw [(HSO.out k).1]; decide)
        rwa [List.take_of_length_le (by rw [H55.out]; exact Nat.le_refl _)] at h)
      go_wp2_with ((with_reducible refine atOp ⟨some 70, _, _, _, _, _⟩ ?_); refine wpList_app elB _ rfl (.tmp 68) (.tmp 69) rfl w0.heap.size (.slice A3 m d) m _ rfl HFO.out (some ⟨b11, 9, none⟩) 55 55 (u8s ((sct p l k).drop 9)) rfl HRD9.out (u8s_one _) (by unfold maxLen; omega) (by omega) (HF.out.new.tr HN4.out).size ?_; intro A6 c6 w6 hO6 hF6 hA6; have HF6 := Lib.hid hF6; have HO6 := Lib.hid hO6; clear hO6 hF6 hA6)
      have HM2 : Hid (m + 55 = 55 * (k + 1)) := Lib.hid (by have := HM.out; omega)
      have HR2 : Hid (RfI w0 w6 p l (k + 1) (.slice A6 (m + 55) c6)) := Lib.hid ⟨(HF.out.new.tr HN4.out).fr HF6.out (fun k hk => (own_lt HFO.out k hk).1), by
        rw [← HM2.out, frameL_succ]
        have := HO6.out
        unfold u8s at this ⊢
        rw [List.map_append]
        exact this⟩
      go_roundw
      case rel => exact ⟨k + 1, m + 55, A6, c6, by omega, HM2, by have := HM2.out; omega, by go_num, rfl, HR2⟩
      case measure => simp [intOf]; omega
    · have hkN : k = N := by omega
      have hkn : ¬ (k : Int) < (N : Int) := by omega
      rw [hkN] at HF HM
      clear hkN hk hlt
      have hpos := secN_pos (n := mn) (by rw [← HNN.out]; exact HN0z.out)
      have hfit20 : 20 + mn ≤ m := by have := HM.out; have := HNN.out; omega
      have hmn1 : 1 ≤ mn := hpos.1
      have hmn2 : mn ≤ 65536 := hpos.2.1
      obtain ⟨g, d', hv, hmd, hdm⟩ := own_form HF.out.own (by have := HM.out; omega)
      injection hv with hv1 hv2 hv3
      subst hv1 hv3
      have hmd : m ≤ d := by have := HM.out; omega
      obtain ⟨m20, hm20⟩ : ∃ m20, m20 = 20 + mn := ⟨_, rfl⟩
      have f1 : (20 : Int) + (mn : Int) = (m20 : Int) := by omega
      have f2 : IntKind.i64.wrap (m20 : Int) = (m20 : Int) := IntWalk.i64_in _ (by omega)
      have f3 : m20 - 20 = mn := by omega
      have f4 : ¬ d = 20 := by omega
      have f5 : m20 ≤ d := by omega
      have f6 : 20 ≤ m20 := by omega
      have f7 : (m20 : Int) ≤ (d : Int) := by omega
      have f8 : (20 : Int) ≤ (m20 : Int) := by omega
      obtain ⟨bd, hbd⟩ : ∃ bd, bd = l.body p := ⟨_, rfl⟩
      have HBD : Hid (bd = ((frameL p l N).drop 20).take mn) := Lib.hid (by rw [hbd, LG.body, ← HMN.out, ← HNN.out])
      have HBL : Hid (bd.length = mn) := Lib.hid (by rw [hbd, LG.body_len HOK.out (by rw [← HMN.out, ← HNN.out]; exact HN0z.out), HMN.out])
      have HBB : Hid (Byt bd) := Lib.hid (by rw [hbd]; exact LG.body_byt HOK.out l)
      have HBE := Lib.hid hbd
      have HRB : Hid (Rd (RB w0.heap.size wr) wr 1 (some ⟨g, 20, none⟩) mn (u8s bd)) := Lib.hid (by
        have h := ((Rd.own HF.out.own (by rw [HM.out])).imp (q := RB w0.heap.size wr) (fun k hk => ⟨(own_lt HF.out.own k hk).1, own_isT' HF.out.own hk⟩)).drop (k := 20) (cap := d) (by rw [← HM.out]; omega) (by rw [← HM.out]; exact hmd)
        rw [if_neg f4] at h
        have h2 : Rd (RB w0.heap.size wr) wr 1 (some ⟨g, 20, none⟩) (55 * N - 20) (u8s ((frameL p l N).drop 20)) := by
          have e : u8s ((frameL p l N).drop 20) = (u8s (frameL p l N)).drop (20 * 1) := by unfold u8s; rw [List.map_drop]
          rw [e]
          exact h
        have h3 := h2.take (k := mn) (by rw [← HM.out]; omega)
        rw [← HBD.out] at h3
        exact h3)
      have HB3r : Hid (Blk wr b3 45 XL) := Lib.hid (HF.out.new.blk HB3.out)
      have HNK : Hid (N = (mn + 74) / 55) := Lib.hid (by have := HNN.out; omega)
      clear hbd hv2 hpos c30 c31 c32
      go_upto_region 15 with fail
      clear f1 f2 f3 f4 f5 f6 f7 f8
      go_wp2_with (first
        | ((with_reducible refine atOp ⟨some 75, .load _ _, _, _, _, _⟩ ?_); refine wpList_load_any rfl _ rfl Tryd.underlying45 rfl (by rw [HXL.out.2.2.2]; rfl) rfl HB3r.out ?_)
        | (go_at_call 53; refine (HFRM.out (some ⟨g, 20, none⟩) mn (d - 20) bd wr (HN0.out.tr HF.out.new) (HRB.out.imp (fun _ _ => trivial)) HBB.out (by omega) N HNK.out).mono ?_; rintro e w5 ⟨⟨C, cc, rfl, hO5⟩, hN5⟩; have HO5 := Lib.hid hO5; have HN5 := Lib.hid hN5; clear hO5 hN5))
      obtain ⟨gw, ccw, hvw, hNw, hcw⟩ := own_form HO5.out (by have := HN0z.out; omega)
      injection hvw with hw1 hw2 hw3
      subst hw1 hw3
      have HWC : Hid (∀ i j, i < N → j < 64 → w5.cell? ⟨gw, i * 64 + j, none⟩ = some (.int .u8 (at_ (l.sec bd i) j))) := Lib.hid fun i j hi hj => by
        obtain ⟨g', o', he, -, -, hc⟩ := (Rd.own HO5.out rfl).out (by omega) (by omega)
        injection he with he
        injection he with e1 e2
        subst e1 e2
        have := hc (i * 64 + j) _ (secF_get l bd hj hi)
        rwa [Nat.zero_add] at this
      have HRB5 : Hid (Rd (RB w0.heap.size w5) w5 1 (some ⟨g, 20, none⟩) mn (u8s bd)) := Lib.hid (HRB.out.frT (S := NoB) (HN5.out.toFr _) (fun _ x => x.elim))
      have HN05 : Hid (New w0 w5) := Lib.hid (HF.out.new.tr HN5.out)
      have HMT0 : Hid (∀ i, i < 0 → (sct p l i).take (endL mn N i) = (l.sec bd i).take (endL mn N i)) := Lib.hid fun i hi => absurd hi (by omega)
      have hNw2 : N ≤ cc := hNw
      clear hw2 HB3r HRB HF HM HO5 hkn
      have hNz0 : 1 ≤ N := by have := HN0z.out; omega
      have HNW0 : Hid (New w5 w5) := Lib.hid (New.refl _)
      go_wp2_with fail
      go_loopw [15] (fun i wr => ∃ (k : Nat), k ≤ N ∧ i = .int .i64 k ∧ Hid (New w5 wr) ∧ Hid (∀ i, i < k → (sct p l i).take (endL mn N i) = (l.sec bd i).take (endL mn N i))) (fun i _ => N - (intOf i).toNat)
      case atStart => exact ⟨0, Nat.zero_le _, rfl, HNW0, HMT0⟩
      case round =>
        clear HNW0 HMT0 HB2r
        obtain ⟨k, hk, rfl, HN, HMT⟩ := hrel
        obtain ⟨c30, c31, c32⟩ := HC.out wr (HN05.out.tr HN.out)
        have HB2r : Hid (Blk wr b2 32 XR) := Lib.hid ((HN05.out.tr HN.out).blk HB2.out)
        by_cases hlt : k < N
        · obtain ⟨a, ha⟩ : ∃ a, a = fu + k := ⟨_, rfl⟩
          have h1 : (fu : Int) + (k : Int) = (a : Int) := by omega
          have h2 : IntKind.i64.wrap (a : Int) = (a : Int) := IntWalk.i64_in _ (by omega)
          have HA : Hid (a = l.first + l.used + k) := Lib.hid (by have := HFU.out; omega)
          have hklt : (k : Int) < (N : Int) := by omega
          have hk0 : (0 : Int) ≤ (k : Int) := by omega
          obtain ⟨k1, hk1⟩ : ∃ k1, k1 = N - 1 := ⟨_, rfl⟩
          have h3 : (N : Int) - 1 = (k1 : Int) := by omega
          obtain ⟨en, hen⟩ : ∃ en, en = endL mn N k := ⟨_, rfl⟩
          have HEN := Lib.hid hen
          have hen64 : en ≤ 64 := by rw [hen]; exact endL_le _ _ _
          have HSX : Hid ((sct p l k).length = 64 ∧ (l.sec bd k).length = 64) := Lib.hid ⟨(HSO.out k).1, by rw [LG.sec, pad64_len (l.raw_len bd k)]⟩
          clear ha
          go_upto_region 20 with (first
            | ((with_reducible refine atOp ⟨some 84, .load _ _, _, _, _, _⟩ ?_); refine wpList_load_any rfl _ rfl Tryd.underlying32 rfl (by rw [HXR.out]; rfl) rfl HB2r.out ?_)
            | (go_at_call 20; refine (HRD.out k (a : Int) (by rw [← HA.out]) (by have := HEQ.out; omega) wr (HN0.out.tr (HN05.out.tr HN.out))).mono ?_; rintro e w1 ⟨rfl, hN1⟩; have HN1 := Lib.hid hN1; clear hN1)
            | ((with_reducible refine atOp ⟨some 16, .alloc _, _, _, _, _⟩ ?_); refine wpList_newvar (s := sct p l k) rfl rfl rfl _ _ rfl secInfo rfl rfl rfl (HSO.out k).1 ?_))
          obtain ⟨w7, hw7⟩ : ∃ w7 : World, w7 = w1.alloc (.cells (secA (sct p l k)) 35) := ⟨_, rfl⟩
          obtain ⟨b16, hb16⟩ : ∃ b16, b16 = w1.heap.size := ⟨_, rfl⟩
          have HB16 : Hid (Blk w7 b16 35 (secA (sct p l k))) := Lib.hid (by rw [hw7, hb16]; exact Blk.new _ _ _)
          have HN7 : Hid (New w5 w7) := Lib.hid (by rw [hw7]; exact New.al (HN.out.tr HN1.out) _)
          rw [← hw7, ← hb16]
          clear hw7 hb16
          have HCX : Hid (∀ j, j < 64 → ∀ N, (w7.drewN N).cell? ⟨b16, j, none⟩ = some (.int .u8 (at_ (sct p l k) j))) := Lib.hid fun j hj N => by
            rw [(HB16.out.drewN N).cell j, secA_get (by rw [HSX.out.1]; exact hj)]
          have HCW : Hid (∀ j, j < 64 → ∀ N, (w7.drewN N).cell? ⟨gw, k * 64 + j, none⟩ = some (.int .u8 (at_ (l.sec bd k) j))) := Lib.hid fun j hj N => (HN7.out.dn N).cell_ (HWC.out k j hlt hj)
          by_cases hlast : k + 1 = N
          · have hkk : ((k : Int) == (k1 : Int)) = true := by simp; omega
            obtain ⟨n20, hn20⟩ : ∃ n20, n20 = 20 + mn := ⟨_, rfl⟩
            have t1 : (20 : Int) + (mn : Int) = (n20 : Int) := by omega
            obtain ⟨n19, hn19⟩ : ∃ n19, n19 = mn + 19 := ⟨_, rfl⟩
            have t2 : (n20 : Int) - 1 = (n19 : Int) := by omega
            obtain ⟨rm, hrm⟩ : ∃ rm, rm = n19 % 55 := ⟨_, rfl⟩
            have t3 : (n19 : Int) % 55 = (rm : Int) := by omega
            obtain ⟨r9, hr9⟩ : ∃ r9, r9 = 9 + rm := ⟨_, rfl⟩
            have t4 : (9 : Int) + (rm : Int) = (r9 : Int) := by omega
            have t5 : (r9 : Int) + 1 = (en : Int) := by rw [hen, endL, if_pos hlast]; omega
            have t6 : (0 : Int) ≤ (n19 : Int) := by omega
            have t7 : (rm : Int) < 55 := by omega
            clear hn20 hn19 hrm hr9 hen hlast
            have HEQ0 : Hid ((sct p l k).take 0 = (l.sec bd k).take 0) := Lib.hid rfl
            have HD0 : Hid (∃ N, w7 = w7.drewN N) := Lib.hid ⟨0, rfl⟩
            go_wp2_with fail
            go_loopw [19] (fun j wr => ∃ (j0 : Nat), j0 ≤ en ∧ j = .int .i64 j0 ∧ Hid (∃ N, wr = w7.drewN N) ∧ Hid ((sct p l k).take j0 = (l.sec bd k).take j0)) (fun j _ => en - (intOf j).toNat)
            case atStart => exact ⟨0, Nat.zero_le _, rfl, HD0, HEQ0⟩
            case round =>
              clear HD0 HEQ0
              obtain ⟨j, hj, rfl, HD, HT⟩ := hrel
              by_cases hjl : j < en
              · have hj64 : j < 64 := by omega
                have hj64' : (j : Int) < 64 := by omega
                have hjl' : (j : Int) < (en : Int) := by omega
                have hj0 : (0 : Int) ≤ (j : Int) := by omega
                obtain ⟨x, hx⟩ : ∃ x, x = at_ (sct p l k) j := ⟨_, rfl⟩
                obtain ⟨y, hy⟩ : ∃ y, y = at_ (l.sec bd k) j := ⟨_, rfl⟩
                have cx : ∀ M, (wr.drewN M).cell? ⟨b16, j, none⟩ = some (.int .u8 x) := fun M => by
                  obtain ⟨N', hN'⟩ := HD.out
                  rw [hN', World.drewN_drewN, hx]
                  exact HCX.out j hj64 _
                have cy : ∀ M, (wr.drewN M).cell? ⟨gw, k * 64 + j, none⟩ = some (.int .u8 y) := fun M => by
                  obtain ⟨N', hN'⟩ := HD.out
                  rw [hN', World.drewN_drewN, hy]
                  exact HCW.out j hj64 _
                have HXY := Lib.hid (And.intro hx hy)
                clear hx hy
                by_cases hxy : x = y
                · have hne : (x != y) = false := by simp [hxy]
                  have HT2 : Hid ((sct p l k).take (j + 1) = (l.sec bd k).take (j + 1)) := Lib.hid (by
                    rw [take_succ_at _ (by rw [HSX.out.1]; exact hj64), take_succ_at _ (by rw [HSX.out.2]; exact hj64), HT.out, ← HXY.out.1, ← HXY.out.2, hxy])
                  clear hxy
                  go_wp2_with fail
                  go_quiet (fail)
                  go_wp2_with fail
                  go_roundw
                  case rel => exact ⟨j + 1, by omega, by go_num, Lib.hid (by obtain ⟨N', hN'⟩ := HD.out; exact ⟨_, by rw [hN', World.drewN_drewN]⟩), HT2⟩
                  case measure => simp [intOf]; omega
                · have hne : (x != y) = true := by simp [hxy]
                  have HNn : Hid (NX = none) := Lib.hid (by
                    rw [HNX.out]
                    refine nextL_none (fun hx => hxy ?_)
                    have h := match_of_next HOK.out HMN.out HNN.out hx k hlt
                    rw [← HEN.out, ← HBE.out] at h
                    have h2 : ((sct p l k).take en)[j]? = ((l.sec bd k).take en)[j]? := by rw [h]
                    rw [List.getElem?_take_of_lt hjl, List.getElem?_take_of_lt hjl] at h2
                    rw [HXY.out.1, HXY.out.2]
                    unfold at_
                    rw [List.getD_eq_getElem?_getD, List.getD_eq_getElem?_getD, h2])
                  clear hxy
                  go_wp2_with fail
                  go_quiet (fail)
                  go_wp2_with fail
                  go_ret
                  rw [HNn.out]
                  exact ⟨rfl, by obtain ⟨N', hN'⟩ := HD.out; rw [hN']; exact (((HN0.out.tr HN05.out).tr HN7.out).dn _).dn _⟩
              · have hje : j = en := by omega
                have hjn : ¬ (j : Int) < (en : Int) := by omega
                have HMT2 : Hid (∀ i, i < k + 1 → (sct p l i).take (endL mn N i) = (l.sec bd i).take (endL mn N i)) := Lib.hid fun i hi => by
                  by_cases h : i = k
                  · subst h
                    rw [← HEN.out, ← hje]
                    exact HT.out
                  · exact HMT.out i (by omega)
                have HNd : Hid (New w5 wr) := Lib.hid (by obtain ⟨N', hN'⟩ := HD.out; rw [hN']; exact HN7.out.dn _)
                clear hje hj hjl
                go_wp2_with fail
                go_roundw
                case rel => exact ⟨k + 1, by omega, by go_num, HNd, HMT2⟩
                case measure => simp [intOf]; omega
          · have hkk : ((k : Int) == (k1 : Int)) = false := by simp; omega
            have t5 : (64 : Int) = (en : Int) := by rw [hen, endL, if_neg hlast]; rfl
            clear hen hlast
            have HEQ0 : Hid ((sct p l k).take 0 = (l.sec bd k).take 0) := Lib.hid rfl
            have HD0 : Hid (∃ N, w7 = w7.drewN N) := Lib.hid ⟨0, rfl⟩
            go_wp2_with fail
            try rw [t5]
            go_loopw [19] (fun j wr => ∃ (j0 : Nat), j0 ≤ en ∧ j = .int .i64 j0 ∧ Hid (∃ N, wr = w7.drewN N) ∧ Hid ((sct p l k).take j0 = (l.sec bd k).take j0)) (fun j _ => en - (intOf j).toNat)
            case atStart => exact ⟨0, Nat.zero_le _, rfl, HD0, HEQ0⟩
            case round =>
              clear HD0 HEQ0
              obtain ⟨j, hj, rfl, HD, HT⟩ := hrel
              by_cases hjl : j < en
              · have hj64 : j < 64 := by omega
                have hj64' : (j : Int) < 64 := by omega
                have hjl' : (j : Int) < (en : Int) := by omega
                have hj0 : (0 : Int) ≤ (j : Int) := by omega
                obtain ⟨x, hx⟩ : ∃ x, x = at_ (sct p l k) j := ⟨_, rfl⟩
                obtain ⟨y, hy⟩ : ∃ y, y = at_ (l.sec bd k) j := ⟨_, rfl⟩
                have cx : ∀ M, (wr.drewN M).cell? ⟨b16, j, none⟩ = some (.int .u8 x) := fun M => by
                  obtain ⟨N', hN'⟩ := HD.out
                  rw [hN', World.drewN_drewN, hx]
                  exact HCX.out j hj64 _
                have cy : ∀ M, (wr.drewN M).cell? ⟨gw, k * 64 + j, none⟩ = some (.int .u8 y) := fun M => by
                  obtain ⟨N', hN'⟩ := HD.out
                  rw [hN', World.drewN_drewN, hy]
                  exact HCW.out j hj64 _
                have HXY := Lib.hid (And.intro hx hy)
                clear hx hy
                by_cases hxy : x = y
                · have hne : (x != y) = false := by simp [hxy]
                  have HT2 : Hid ((sct p l k).take (j + 1) = (l.sec bd k).take (j + 1)) := Lib.hid (by
                    rw [take_succ_at _ (by rw [HSX.out.1]; exact hj64), take_succ_at _ (by rw [HSX.out.2]; exact hj64), HT.out, ← HXY.out.1, ← HXY.out.2, hxy])
                  clear hxy
                  go_wp2_with fail
                  go_quiet (fail)
                  go_wp2_with fail
                  go_roundw
                  case rel => exact ⟨j + 1, by omega, by go_num, Lib.hid (by obtain ⟨N', hN'⟩ := HD.out; exact ⟨_, by rw [hN', World.drewN_drewN]⟩), HT2⟩
                  case measure => simp [intOf]; omega
                · have hne : (x != y) = true := by simp [hxy]
                  have HNn : Hid (NX = none) := Lib.hid (by
                    rw [HNX.out]
                    refine nextL_none (fun hx => hxy ?_)
                    have h := match_of_next HOK.out HMN.out HNN.out hx k hlt
                    rw [← HEN.out, ← HBE.out] at h
                    have h2 : ((sct p l k).take en)[j]? = ((l.sec bd k).take en)[j]? := by rw [h]
                    rw [List.getElem?_take_of_lt hjl, List.getElem?_take_of_lt hjl] at h2
                    rw [HXY.out.1, HXY.out.2]
                    unfold at_
                    rw [List.getD_eq_getElem?_getD, List.getD_eq_getElem?_getD, h2])
                  clear hxy
                  go_wp2_with fail
                  go_quiet (fail)
                  go_wp2_with fail
                  go_ret
                  rw [HNn.out]
                  exact ⟨rfl, by obtain ⟨N', hN'⟩ := HD.out; rw [hN']; exact (((HN0.out.tr HN05.out).tr HN7.out).dn _).dn _⟩
              · have hje : j = en := by omega
                have hjn : ¬ (j : Int) < (en : Int) := by omega
                have HMT2 : Hid (∀ i, i < k + 1 → (sct p l i).take (endL mn N i) = (l.sec bd i).take (endL mn N i)) := Lib.hid fun i hi => by
                  by_cases h : i = k
                  · subst h
                    rw [← HEN.out, ← hje]
                    exact HT.out
                  · exact HMT.out i (by omega)
                have HNd : Hid (New w5 wr) := Lib.hid (by obtain ⟨N', hN'⟩ := HD.out; rw [hN']; exact HN7.out.dn _)
                clear hje hj hjl
                go_wp2_with fail
                go_roundw
                case rel => exact ⟨k + 1, by omega, by go_num, HNd, HMT2⟩
                case measure => simp [intOf]; omega
        · have hkN : k = N := by omega
          rw [hkN] at HMT
          have hkn : ¬ (k : Int) < (N : Int) := by omega
          have HNx : Hid (l.Next p) := Lib.hid (next_of_match HOK.out HMN.out HNN.out HN0z.out (by have := HEQ.out; omega) (by have := HEQ.out; omega) (by rw [← HBE.out]; exact HMT.out))
          have HNs : Hid (NX = some bd) := Lib.hid (by rw [HNX.out, nextL_some HNx.out, HBE.out])
          clear hkN hk hlt
          go_wp2_with fail
          go_ret
          rw [HNs.out]
          refine ⟨g, 20, d - 20, by rw [HBL.out]; rfl, by rw [HBL.out]; omega, by omega, HBB.out, ?_, (HN0.out.tr HN05.out).tr HN.out⟩
          rw [HBL.out]
          exact (HRB5.out.frT (S := NoB) (HN.out.toFr _) (fun _ x => x.elim)).imp (fun k hk => ⟨by have := HN0.out.size; have := hk.1; omega, hk.2⟩)
end Go.Proofs.YteeclfejgpgooaaDoor
/- The reference: what is behind a log's records is overwritten. No condition. -/
namespace Go.Proofs.YteeclfejgpgooaaDoor
set_option linter.unusedVariables false
set_option linter.unusedSimpArgs false
set_option linter.constructorNameAsVariable false
open Go.RowKit Go.Sort

/-- The disk behind something that was done to it: the matching one, and a number. -/
def RwSays (q : DP) (n : Int) (tot : Nat) (w : World) (e : Ending) (w' : World) : Prop :=
  ∃ r' A1 c1 A2 c2, e = .returned (.tuple #[.agg (RfV r' A1 c1 A2 c2), .int .i64 n]) ∧ RfIn w' r' A1 A2 ∧ Mt q r' ∧ r'.tot ≤ tot ∧ New w w'
/-- The reference's disk in its cell. -/
def RdB (q : DP) (tot b : Nat) (w : World) (XR : Array Value) : Prop := ∃ r' A1 c1 A2 c2, XR = RfV r' A1 c1 A2 c2 ∧ Blk w b 32 XR ∧ RfIn w r' A1 A2 ∧ Mt q r' ∧ r'.tot ≤ tot
theorem rf_all (r : RP) (A1 : Option Addr) (c1 : Nat) (A2 : Option Addr) (c2 : Nat) : (RfV r A1 c1 A2 c2).all (·.oneCell') = true := by simp [RfV, Value.oneCell']
theorem dp_fuse {q : DP} (h : q.Ok) : (Lit.int .i64 q.fuse).wf = true := WalkArith.wf_i64 (by have := h.fz; omega)
set_option maxHeartbeats 3000000 in
set_option maxRecDepth 100000 in
theorem rwipe_any {w : World} {p : DP} {l : LG} (r : RP) (A1 : Option Addr) (c1 : Nat) (A2 : Option Addr) (c2 : Nat) (A : Option Addr) (c : Nat) (hr : RfIn w r A1 A2) (hM : Mt p r) (hp : p.Ok) (hn : r.tot ≤ 50000) (hl : l.Ok p.size) :
    Calls Tryd.prog 44 #[.agg (RfV r A1 c1 A2 c2), .agg (rlV l A c)] w (RwSays (wipeL p l).1 (wipeL p l).2 (r.tot + l.size) w) := by
  have hsz := hp.s2
  have hfit := hl.fit
  have hused := hl.used
  have HOKN : Hid (∀ k, (wipeN p l k).1.Ok ∧ (wipeN p l k).1.size = p.size) := Lib.hid fun k => by
    induction k with
    | zero => exact ⟨hp, rfl⟩
    | succ k ih =>
      refine ⟨?_, wipeN_size p l (k + 1)⟩
      simp only [wipeN]
      split
      · exact ih.1
      · split
        · unfold DP.doWrite
          split
          · next hw =>
            unfold DP.within at hw
            split
            · exact ih.1.fall
            · exact ih.1.write (by have := of_decide_eq_true hw; rw [ih.2] at *; exact this) sec0_ok
          · exact ih.1
        · exact ih.1
  obtain ⟨XL, hXL⟩ : ∃ XL, XL = rlV l A c := ⟨_, rfl⟩
  obtain ⟨us, hus⟩ : ∃ us, us = l.used := ⟨_, rfl⟩
  obtain ⟨fs, hfs⟩ : ∃ fs, fs = l.first := ⟨_, rfl⟩
  obtain ⟨sz, hsz2⟩ : ∃ sz, sz = l.size := ⟨_, rfl⟩
  obtain ⟨gen, hgn⟩ : ∃ gen, gen = l.gen := ⟨_, rfl⟩
  have HGN : Hid (gen < 4294967296) := Lib.hid (by rw [hgn]; exact hl.gen)
  have HEQ : Hid (us = l.used ∧ fs = l.first ∧ sz = l.size ∧ gen = l.gen) := Lib.hid ⟨hus, hfs, hsz2, hgn⟩
  have HXL : Hid (XL[0]? = some (.int .i64 fs) ∧ XL[1]? = some (.int .i64 sz) ∧ XL[2]? = some (.int .i64 us) ∧ XL[3]? = some (.int .u32 gen) ∧ XL.size = 6) := Lib.hid (by rw [hXL, hus, hfs, hsz2, hgn]; exact ⟨rfl, rfl, rfl, rfl, rfl⟩)
  have HPS : Hid (fs + sz ≤ p.size) := Lib.hid (by omega)
  obtain ⟨WL, hWL⟩ : ∃ WL, WL = wipeL p l := ⟨_, rfl⟩
  have HWL : Hid (WL = (if (wipeN p l (sz - us)).2.2 ≠ 0 then ((wipeN p l (sz - us)).1, (wipeN p l (sz - us)).2.2) else if (wipeN p l (sz - us)).2.1 = true then ((wipeN p l (sz - us)).1.doSync, (wipeN p l (sz - us)).1.scode) else ((wipeN p l (sz - us)).1, 0))) := Lib.hid (by rw [hWL, hsz2, hus]; rfl)
  obtain ⟨tt, htt⟩ : ∃ tt, tt = r.tot := ⟨_, rfl⟩
  rw [← hXL, ← hWL, ← htt, ← hsz2]
  have htt1 : tt ≤ 50000 := by omega
  have hu1 : us ≤ sz := by omega
  have hs1 : fs + sz ≤ 16384 := by omega
  obtain ⟨X0, hX0⟩ : ∃ X0, X0 = RfV r A1 c1 A2 c2 := ⟨_, rfl⟩
  rw [← hX0]
  have HX0 : Hid (∀ W b, New w W → Blk W b 32 X0 → RdB p tt b W X0) := Lib.hid fun W b hN hb => ⟨r, A1, c1, A2, c2, hX0, hb, hr.new hN, hM, by omega⟩
  clear hr hM hp hn hl hXL hWL hus hfs hsz2 hgn hsz hfit hused htt hX0
  go_enter Tryd.func44, Tryd.ntmps44
  go_upto_region 1 with fail
  obtain ⟨w0, hw0⟩ : ∃ w0 : World, w0 = ((w.alloc (.cells X0 32)).alloc (.cells XL 45)).alloc (.cells #[.int .i64 0, .slice none 0 0, .slice none 0 0, .int .i64 0, .bool false] 32) := ⟨_, rfl⟩
  obtain ⟨b2, hb2⟩ : ∃ b2, b2 = w.heap.size := ⟨_, rfl⟩
  obtain ⟨b3, hb3⟩ : ∃ b3, b3 = w.heap.size + 1 := ⟨_, rfl⟩
  obtain ⟨b4, hb4⟩ : ∃ b4, b4 = w.heap.size + 1 + 1 := ⟨_, rfl⟩
  have HN0 : Hid (New w w0) := Lib.hid (by rw [hw0]; exact New.al (New.al (New.al (New.refl _) _) _) _)
  have HB2 : Hid (RdB p tt b2 w0 X0) := Lib.hid (HX0.out w0 b2 HN0.out (by rw [hw0, hb2]; exact ((Blk.new _ _ _).alloc _).alloc _))
  have HB3 : Hid (Blk w0 b3 45 XL) := Lib.hid (by rw [hw0, hb3]; exact (Blk.new' _ _ _ (by simp)).alloc _)
  have HB4 : Hid (Blk w0 b4 32 #[.int .i64 0, .slice none 0 0, .slice none 0 0, .int .i64 0, .bool false]) := Lib.hid (by rw [hw0, hb4]; exact Blk.new' _ _ _ (by simp))
  have HZ : Hid (b2 = w.heap.size ∧ b3 = w.heap.size + 1 ∧ b4 = w.heap.size + 2) := Lib.hid ⟨hb2, hb3, hb4⟩
  rw [← hw0, ← hb4, ← hb3, ← hb2]
  clear hw0 hb2 hb3 hb4
  have HC : Hid (∀ W, Fr (fun j => j = b2) w0 W → W.cell? ⟨b3, 0, none⟩ = some (.int .i64 fs) ∧ W.cell? ⟨b3, 1, none⟩ = some (.int .i64 sz) ∧ W.cell? ⟨b3, 2, none⟩ = some (.int .i64 us) ∧ W.cell? ⟨b3, 3, none⟩ = some (.int .u32 gen)) := Lib.hid fun W hF => by
    have h := HB3.out.fr hF (by have := HZ.out; omega)
    exact ⟨by rw [h.cell, HXL.out.1], by rw [h.cell, HXL.out.2.1], by rw [h.cell, HXL.out.2.2.1], by rw [h.cell, HXL.out.2.2.2.1]⟩
  have hc0 := (HC.out w0 (Fr.refl _ _)).2.2.1
  have HF0 : Hid (Fr (fun j => j = b2) w0 w0) := Lib.hid (Fr.refl _ _)
  go_wp2_with fail
  go_loopw [6, 7] (fun wd i wr => ∃ (k i0 : Nat) (b : Bool) (X : Array Value), Hid (i0 = us + k) ∧ i0 ≤ sz ∧ i = .int .i64 i0 ∧ wd = .bool b ∧ Hid (b = (wipeN p l k).2.1) ∧ Hid ((wipeN p l k).2.2 = 0) ∧ Hid (RdB (wipeN p l k).1 (tt + k) b2 wr X) ∧ Hid (Fr (fun j => j = b2) w0 wr)) (fun _ i _ => sz - (intOf i).toNat)
  case atStart => exact ⟨0, us, false, X0, Lib.hid rfl, hu1, rfl, rfl, Lib.hid rfl, Lib.hid rfl, HB2, HF0⟩
  case round =>
    clear HB2 HF0 hc0
    obtain ⟨k, i, b, X, HI, hi, rfl, rfl, HB, HE, HD, HF⟩ := hrel
    obtain ⟨c30, c31, -, c33⟩ := HC.out wr HF.out
    have HC33 := Lib.hid c33
    clear c33
    have hk1 : k ≤ sz := by have := HI.out; omega
    obtain ⟨q, hq⟩ : ∃ q, q = (wipeN p l k).1 := ⟨_, rfl⟩
    have HQ := Lib.hid hq
    rw [← hq] at HD
    have HQO : Hid (q.Ok ∧ q.size = p.size) := Lib.hid (by rw [hq]; exact HOKN.out k)
    clear hq
    obtain ⟨r1, D1, d1, D2, d2, hX, hBX, hR1, hM1, ht1⟩ := HD.out
    have HBX := Lib.hid hBX
    have HR1 := Lib.hid hR1
    have HM1 := Lib.hid hM1
    have HX := Lib.hid hX
    have HT1 : Hid (r1.tot ≤ tt + k) := Lib.hid ht1
    have HXS : Hid (X.size = 5) := Lib.hid (by rw [hX]; rfl)
    have ht1z : r1.tot ≤ 70000 := by omega
    clear hX hBX hR1 hM1 ht1 HD
    by_cases hlt : i < sz
    · obtain ⟨a, ha⟩ : ∃ a, a = fs + i := ⟨_, rfl⟩
      have e1 : (fs : Int) + (i : Int) = (a : Int) := by omega
      have e2 : IntKind.i64.wrap (a : Int) = (a : Int) := IntWalk.i64_in _ (by omega)
      have HA : Hid (a = l.first + l.used + k) := Lib.hid (by have := HI.out; have := HEQ.out; omega)
      have ha1 : a ≤ 16384 := by omega
      have hlt' : (i : Int) < (sz : Int) := by omega
      obtain ⟨s, hs⟩ : ∃ s, s = q.rget (a : Int) := ⟨_, rfl⟩
      have HSC : Hid (s = sct (wipeN p l k).1 l k) := Lib.hid (by rw [hs, HQ.out, sct, HA.out])
      have HS : Hid (SecOk s) := Lib.hid (by rw [hs]; exact HQO.out.1.rget _)
      have HWI : Hid (q.within (a : Int) = true) := Lib.hid (by unfold DP.within; have := HQO.out.2; have := HPS.out; exact decide_eq_true (by omega))
      have HRD : Hid (Calls Tryd.prog 20 #[.agg X, .int .i64 (a : Int)] wr fun e w' => e = .returned (.tuple #[.agg (secA s), .int .i64 0]) ∧ New wr w') := Lib.hid (by
        have h := rread_any r1 D1 d1 D2 d2 (a : Int) wr HR1.out (by omega) (WalkArith.wf_i64 (by omega)) (by rw [HM1.out.size]; have := HQO.out.1.s2; omega)
        rw [HM1.out.rget, HM1.out.rcode, DP.rcode, HWI.out, if_pos rfl, ← hs] at h
        rw [HX.out]
        exact h)
      have hszA : (secA s).size = 64 := by rw [secA_size, HS.out.1]
      have HSZ := Lib.hid hszA
      clear hszA hs ha
      go_upto_region 6 with (first
        | ((with_reducible refine atOp ⟨some 21, .load _ _, _, _, _, _⟩ ?_); refine wpList_load_any rfl _ rfl Tryd.underlying32 rfl (by rw [HXS.out]; rfl) rfl HBX.out ?_)
        | (go_at_call 20; refine HRD.out.mono ?_; rintro e w1 ⟨rfl, hN1⟩; have HN1 := Lib.hid hN1; clear hN1)
        | ((with_reducible refine atOp ⟨some 8, .alloc _, _, _, _, _⟩ ?_); refine wpList_newvar (s := s) rfl rfl rfl _ _ rfl secInfo rfl rfl rfl HS.out.1 ?_))
      obtain ⟨w3, hw3⟩ : ∃ w3 : World, w3 = w1.alloc (.cells (secA s) 35) := ⟨_, rfl⟩
      obtain ⟨b8, hb8⟩ : ∃ b8, b8 = w1.heap.size := ⟨_, rfl⟩
      have HB8 : Hid (Blk w3 b8 35 (secA s)) := Lib.hid (by rw [hw3, hb8]; exact Blk.new _ _ _)
      have HN3 : Hid (New wr w3) := Lib.hid (by rw [hw3]; exact New.al HN1.out _)
      rw [← hw3, ← hb8]
      clear hw3 hb8 c30 c31
      have q3 : ∀ p : HW (New w3), p.w.cell? ⟨b3, 3, none⟩ = some (.int .u32 gen) := fun p => (HN3.out.tr p.h).cell_ HC33.out
      have kg : IntKind.u64.wrap (gen : Int) = (gen : Int) := by have := HGN.out; rw [IntKind.wrap_u64]; omega
      obtain ⟨v1, hv1⟩ : ∃ v1, v1 = valL (s.take 4) := ⟨_, rfl⟩
      have HV1 := Lib.hid hv1
      have HVL : Hid (∀ W, New w3 W → Calls Tryd.prog 59 #[.slice (some ⟨b8, 0, none⟩) 4 64] W fun e w' => e = .returned (.int .u64 v1) ∧ W = w') := Lib.hid fun W hN => by
        have h := value_any (some ⟨b8, 0, none⟩) 4 64 ((s.drop 0).take 4) W (blk_rd (hN.blk HB8.out) (by rw [HS.out.1]; decide)) (fun x hx => HS.out.2 x (List.mem_of_mem_drop (List.mem_of_mem_take hx))) (by omega)
        rw [List.drop_zero, ← hv1] at h
        exact h
      clear hv1
      by_cases t1 : v1 = gen
      · have tt1 : (v1 : Int) = (gen : Int) := by omega
        have T1 := Lib.hid t1
        clear t1
        go_wp2_with fail
        refine wp_region_mixH (New w3) [(true, 0), (true, 2), (true, 3), (true, 4), (false, 1), (true, 5)] (by kernel_rfl) (by kernel_rfl) (New.dr (New.refl w3)) (fun hne => ?_)
        iterate 4 (refine mix_take (o := ⟨_, _, _, _, _, _⟩) rfl (fun K hK => ?_); go_simp; refine hK _ ?_; clear hK K)
        refine mix_act (o := ⟨_, _, _, _, _, _⟩) rfl (fun K hK => ?_) (.inl rfl)
        go_simp
        refine (HVL.out w3.drew (New.dr (New.refl w3))).mono ?_
        rintro e w5 ⟨rfl, hw5⟩
        have HN5 : Hid (New w3 w5) := Lib.hid (by rw [← hw5]; exact New.dr (New.refl w3))
        clear hw5
        go_simp
        refine hK.out _ _ (fun _ => HN5.out) ?_
        clear hK K
        iterate 1 (refine mix_take (o := ⟨_, _, _, _, _, _⟩) rfl (fun K hK => ?_); go_simp; refine hK _ ?_; clear hK K)
        refine mix_done ?_
        clear q3 kg tt1
        have HG : Hid (valL ((sct (wipeN p l k).1 l k).take 4) = l.gen) := Lib.hid (by rw [← HSC.out, ← HV1.out, T1.out, HEQ.out.2.2.2])
        have HHIT := Lib.hid (wipeN_hit HE.out HG.out)
        have HF5 : Hid (Fr (fun j => j = b2) w0 w5) := Lib.hid (HF.out.trans ((HN3.out.tr HN5.out).toFr _))
        obtain ⟨c30, c31, -, -⟩ := HC.out w5 HF5.out
        have HBX5 : Hid (Blk w5 b2 32 X) := Lib.hid ((HN3.out.tr HN5.out).blk HBX.out)
        obtain ⟨wc, hwc⟩ : ∃ wc, wc = q.wcode (a : Int) := ⟨_, rfl⟩
        have HWC := Lib.hid hwc
        obtain ⟨q2, hq2⟩ : ∃ q2, q2 = q.doWrite (a : Int) sec0 := ⟨_, rfl⟩
        have HQ2 := Lib.hid hq2
        have HWR : Hid (Calls Tryd.prog 11 #[.agg X, .int .i64 (a : Int), .agg (secA sec0)] w5 fun e w' => RfEnd w' (r1.write (a : Int) sec0) wc e ∧ New w5 w') := Lib.hid (by
          have h := rwrite_any r1 D1 d1 D2 d2 (a : Int) sec0 w5 (HR1.out.new (HN3.out.tr HN5.out)) sec0_ok (by omega) (WalkArith.wf_i64 (by omega)) (by rw [HM1.out.fuse]; exact dp_fuse HQO.out.1) (by rw [HM1.out.size]; have := HQO.out.1.s2; omega)
          rw [HM1.out.wcode, ← hwc] at h
          rw [HX.out]
          exact h)
        have HM2 : Hid (Mt q2 (r1.write (a : Int) sec0)) := Lib.hid (by rw [hq2]; exact HM1.out.write _ _)
        have HT2 : Hid ((r1.write (a : Int) sec0).tot ≤ tt + (k + 1)) := Lib.hid (by have := RP.tot_write r1 (a : Int) sec0; have := HT1.out; omega)
        obtain ⟨r2, hr2⟩ : ∃ r2, r2 = r1.write (a : Int) sec0 := ⟨_, rfl⟩
        rw [← hr2] at HWR HM2 HT2
        obtain ⟨z0, hz0⟩ : ∃ z0, z0 = secA sec0 := ⟨_, rfl⟩
        rw [← hz0] at HWR
        have HZ0 : Hid ((#[.int .u8 0, .int .u8 0, .int .u8 0, .int .u8 0, .int .u8 0, .int .u8 0, .int .u8 0, .int .u8 0, .int .u8 0, .int .u8 0, .int .u8 0, .int .u8 0, .int .u8 0, .int .u8 0, .int .u8 0, .int .u8 0, .int .u8 0, .int .u8 0, .int .u8 0, .int .u8 0, .int .u8 0, .int .u8 0, .int .u8 0, .int .u8 0, .int .u8 0, .int .u8 0, .int .u8 0, .int .u8 0, .int .u8 0, .int .u8 0, .int .u8 0, .int .u8 0, .int .u8 0, .int .u8 0, .int .u8 0, .int .u8 0, .int .u8 0, .int .u8 0, .int .u8 0, .int .u8 0, .int .u8 0, .int .u8 0, .int .u8 0, .int .u8 0, .int .u8 0, .int .u8 0, .int .u8 0, .int .u8 0, .int .u8 0, .int .u8 0, .int .u8 0, .int .u8 0, .int .u8 0, .int .u8 0, .int .u8 0, .int .u8 0, .int .u8 0, .int .u8 0, .int .u8 0, .int .u8 0, .int .u8 0, .int .u8 0, .int .u8 0, .int .u8 0] : Array Value) = z0) := Lib.hid (by rw [hz0]; rfl)
        have HW3 : Hid (wipeN p l (k + 1) = (q2, (if wc = 0 then true else b), wc)) := Lib.hid (by rw [HHIT.out, ← HQ.out, ← HA.out, ← hwc, ← hq2, ← HB.out])
        clear hwc hq2 hr2 hz0
        go_wp2_with ((with_reducible refine atOp ⟨some 36, .load _ _, _, _, _, _⟩ ?_); refine wpList_load_any rfl _ rfl Tryd.underlying32 rfl (by rw [HXS.out]; rfl) rfl HBX5.out ?_)
        rw [HZ0.out]
        refine HWR.out.mono ?_
        rintro e w6 ⟨⟨E1, f1, E2, f2, rfl, hR2⟩, hN6⟩
        obtain ⟨Y, hY⟩ : ∃ Y, Y = RfV r2 E1 f1 E2 f2 := ⟨_, rfl⟩
        rw [← hY]
        have HY := Lib.hid hY
        have HYS : Hid (Y.size = 5) := Lib.hid (by rw [hY]; rfl)
        have HYA : Hid (Y.all (·.oneCell') = true) := Lib.hid (by rw [hY]; exact rf_all _ _ _ _ _)
        have HR2 := Lib.hid hR2
        have HN6 := Lib.hid hN6
        clear hY hR2 hN6
        go_upto_region 8 with ((with_reducible refine atOp ⟨some 10, .alloc _, _, _, _, _⟩ ?_); refine wpList_newrow (C := Y) rfl rfl rfl _ _ rfl rInfo rfl rfl rfl HYS.out HYA.out ?_)
        obtain ⟨w7, hw7⟩ : ∃ w7 : World, w7 = w6.alloc (.cells Y 32) := ⟨_, rfl⟩
        obtain ⟨b10, hb10⟩ : ∃ b10, b10 = w6.heap.size := ⟨_, rfl⟩
        have HB10 : Hid (Blk w7 b10 32 Y) := Lib.hid (by rw [hw7, hb10]; exact Blk.new _ _ _)
        have HN7 : Hid (New w6 w7) := Lib.hid (by rw [hw7]; exact New.al (New.refl _) _)
        have HBX7 : Hid (Blk w7 b2 32 X) := Lib.hid (HN7.out.blk (HN6.out.blk HBX5.out))
        rw [← hw7, ← hb10]
        clear hw7 hb10
        have HB4c : Hid (Blk w7 b4 32 #[.int .i64 0, .slice none 0 0, .slice none 0 0, .int .i64 0, .bool false]) := Lib.hid (HB4.out.fr (HF5.out.trans ((HN6.out.tr HN7.out).toFr _)) (by have := HZ.out; omega))
        go_upto_region 9 with (first
          | ((with_reducible refine atOp ⟨some 45, .load _ _, _, _, _, _⟩ ?_); refine wpList_load_any rfl _ rfl Tryd.underlying32 rfl (by rw [HYS.out]; rfl) rfl HB10.out ?_)
          | ((with_reducible refine atOp ⟨none, .store 32 (.tmp 2) _, _, _, _, _⟩ ?_); refine wpList_store_any rfl (.tmp 2) (.tmp 45) rfl (by rw [HYS.out]; rfl) rfl rfl HBX7.out (by rw [HYS.out, HXS.out]) HYA.out ?_; intro w8 hb8 hf8; have HB8' := Lib.hid hb8; have HF8 := Lib.hid hf8; clear hb8 hf8))
        have HF8' : Hid (Fr (fun j => j = b2) w0 w8) := Lib.hid ((HF5.out.trans ((HN6.out.tr HN7.out).toFr _)).trans HF8.out)
        have HB48 : Hid (Blk w8 b4 32 #[.int .i64 0, .slice none 0 0, .slice none 0 0, .int .i64 0, .bool false]) := Lib.hid (HB4c.out.fr HF8.out (by have := HZ.out; omega))
        have HR8 : Hid (RfIn w8 r2 E1 E2) := Lib.hid ((HR2.out.new HN7.out).fr HF8.out (fun j hj => by
          have hj' : j = b2 := hj
          rw [hj']
          exact IsT.not_blk HBX7.out (by decide)))
        have HD8 : Hid (RdB q2 (tt + (k + 1)) b2 w8 Y) := Lib.hid ⟨r2, E1, f1, E2, f2, HY.out, HB8'.out, HR8.out, HM2.out, HT2.out⟩
        by_cases hc0 : wc = 0
        · have HW4 : Hid (wipeN p l (k + 1) = (q2, true, 0)) := Lib.hid (by rw [HW3.out, if_pos hc0, hc0])
          have HJ : Hid (i + 1 = us + (k + 1)) := Lib.hid (by have := HI.out; omega)
          subst hc0
          go_wp2_with fail
          go_roundw
          case rel => exact ⟨k + 1, i + 1, true, Y, HJ, by omega, by go_num, rfl, Lib.hid (by rw [HW4.out]), Lib.hid (by rw [HW4.out]), Lib.hid (by rw [HW4.out]; exact HD8.out), HF8'⟩
          case measure => simp [intOf]; omega
        · have HC0 := Lib.hid hc0
          have hcb : (wc != 0) = true := by simp [hc0]
          have HW4 : Hid (WL = (q2, wc)) := Lib.hid (by
            obtain ⟨j, hj⟩ : ∃ j, sz - us = k + 1 + j := ⟨sz - us - (k + 1), by have := HI.out; omega⟩
            have g1 : wipeN p l (sz - us) = (q2, (if wc = 0 then true else b), wc) := by
              rw [hj, wipeN_bad (by rw [HW3.out]; exact HC0.out), HW3.out]
            rw [HWL.out, g1, if_pos HC0.out])
          clear hc0
          go_wp2_with (first
            | ((with_reducible refine atOp ⟨some 48, .load _ _, _, _, _, _⟩ ?_); refine wpList_load_any rfl _ rfl Tryd.underlying32 rfl (by rw [HYS.out]; rfl) rfl HB8'.out ?_)
            | ((with_reducible refine atOp ⟨none, .store 32 (.tmp 4) _, _, _, _, _⟩ ?_); refine wpList_store_any rfl (.tmp 4) (.tmp 48) rfl (by rw [HYS.out]; rfl) rfl rfl HB48.out (by rw [HYS.out]; rfl) HYA.out ?_; intro w9 hb9 hf9; have HB9 := Lib.hid hb9; have HF9 := Lib.hid hf9; clear hb9 hf9))
          refine bodyPost_ret (results_row2' rfl _ _ b4 _ _ rfl HB9.out Tryd.underlying32 rfl (by rw [HYS.out]; rfl)) rfl ?_
          rw [HW4.out]
          refine ⟨r2, E1, f1, E2, f2, by rw [← HY.out]; rfl, HR8.out.fr HF9.out (fun j hj => ?_), HM2.out, by have := HT2.out; have := HI.out; omega, ?_⟩
          · have hj' : j = b4 := hj
            rw [hj']
            exact IsT.not_blk HB48.out (by decide)
          · exact (HN0.out.fr HF8'.out (fun j hj => by have := HZ.out; omega)).fr HF9.out (fun j hj => by have := HZ.out; omega)
      · have tt1 : ¬ ((v1 : Int) = (gen : Int)) := by omega
        have T1 := Lib.hid t1
        clear t1
        go_wp2_with fail
        refine wp_region_mixH (New w3) [(true, 0), (true, 2), (true, 3), (true, 4), (false, 1), (true, 5)] (by kernel_rfl) (by kernel_rfl) (New.dr (New.refl w3)) (fun hne => ?_)
        iterate 4 (refine mix_take (o := ⟨_, _, _, _, _, _⟩) rfl (fun K hK => ?_); go_simp; refine hK _ ?_; clear hK K)
        refine mix_act (o := ⟨_, _, _, _, _, _⟩) rfl (fun K hK => ?_) (.inl rfl)
        go_simp
        refine (HVL.out w3.drew (New.dr (New.refl w3))).mono ?_
        rintro e w5 ⟨rfl, hw5⟩
        have HN5 : Hid (New w3 w5) := Lib.hid (by rw [← hw5]; exact New.dr (New.refl w3))
        clear hw5
        go_simp
        refine hK.out _ _ (fun _ => HN5.out) ?_
        clear hK K
        iterate 1 (refine mix_take (o := ⟨_, _, _, _, _, _⟩) rfl (fun K hK => ?_); go_simp; refine hK _ ?_; clear hK K)
        refine mix_done ?_
        clear q3 kg
        have HG : Hid (¬ valL ((sct (wipeN p l k).1 l k).take 4) = l.gen) := Lib.hid (by rw [← HSC.out, ← HV1.out, ← HEQ.out.2.2.2]; exact T1.out)
        have HSK := Lib.hid (wipeN_skip HE.out HG.out)
        have HJ : Hid (i + 1 = us + (k + 1)) := Lib.hid (by have := HI.out; omega)
        have HD5 : Hid (RdB q (tt + (k + 1)) b2 w5 X) := Lib.hid ⟨r1, D1, d1, D2, d2, HX.out, (HN3.out.tr HN5.out).blk HBX.out, HR1.out.new (HN3.out.tr HN5.out), HM1.out, by have := HT1.out; omega⟩
        have HF5 : Hid (Fr (fun j => j = b2) w0 w5) := Lib.hid (HF.out.trans ((HN3.out.tr HN5.out).toFr _))
        go_wp2_with fail
        go_roundw
        case rel => exact ⟨k + 1, i + 1, b, X, HJ, by omega, by go_num, rfl, Lib.hid (by rw [HSK.out]; exact HB.out), Lib.hid (by rw [HSK.out]; exact HE.out), Lib.hid (by rw [HSK.out, ← HQ.out]; exact HD5.out), HF5⟩
        case measure => simp [intOf]; omega
    · have hltn : ¬ (i : Int) < (sz : Int) := by omega
      have hkk : k = sz - us := by have := HI.out; omega
      have HB4r : Hid (Blk wr b4 32 #[.int .i64 0, .slice none 0 0, .slice none 0 0, .int .i64 0, .bool false]) := Lib.hid (HB4.out.fr HF.out (by have := HZ.out; omega))
      have HNr : Hid (New w wr) := Lib.hid (HN0.out.fr HF.out (fun j hj => by have := HZ.out; omega))
      have HLT4 : Hid (w.heap.size ≤ b4) := Lib.hid (by have := HZ.out; omega)
      cases b with
      | false =>
        have HW3 : Hid (WL = (q, 0)) := Lib.hid (by rw [HWL.out, ← hkk, if_neg (by rw [HE.out]; simp), if_neg (by rw [← HB.out]; simp), ← HQ.out])
        clear hkk
        go_wp2_with (first
          | ((with_reducible refine atOp ⟨some 55, .load _ _, _, _, _, _⟩ ?_); refine wpList_load_any rfl _ rfl Tryd.underlying32 rfl (by rw [HXS.out]; rfl) rfl HBX.out ?_)
          | ((with_reducible refine atOp ⟨none, .store 32 (.tmp 4) _, _, _, _, _⟩ ?_); refine wpList_store_any rfl (.tmp 4) (.tmp 55) rfl (by rw [HXS.out]; rfl) rfl rfl HB4r.out (by rw [HXS.out]; rfl) (by rw [HX.out]; exact rf_all _ _ _ _ _) ?_; intro w9 hb9 hf9; have HB9 := Lib.hid hb9; have HF9 := Lib.hid hf9; clear hb9 hf9))
        refine bodyPost_ret (results_row2' rfl _ _ b4 _ _ rfl HB9.out Tryd.underlying32 rfl (by rw [HXS.out]; rfl)) rfl ?_
        rw [HW3.out]
        refine ⟨r1, D1, d1, D2, d2, by rw [← HX.out]; rfl, HR1.out.fr HF9.out (fun j hj => ?_), HM1.out, by have := HT1.out; omega, HNr.out.fr HF9.out (fun j hj => by have := HLT4.out; omega)⟩
        have hj' : j = b4 := hj
        rw [hj']
        exact IsT.not_blk HB4r.out (by decide)
      | true =>
        have HW3 : Hid (WL = (q.doSync, q.scode)) := Lib.hid (by rw [HWL.out, ← hkk, if_neg (by rw [HE.out]; simp), if_pos HB.out.symm, ← HQ.out])
        clear hkk
        have HSY : Hid (Calls Tryd.prog 33 #[.agg X] wr fun e w' => RfEnd w' r1.sync q.scode e ∧ New wr w') := Lib.hid (by
          have h := rsync_any r1 D1 d1 D2 d2 wr HR1.out (by omega)
          rw [HM1.out.scode] at h
          rw [HX.out]
          exact h)
        obtain ⟨sc, hsc⟩ : ∃ sc, sc = q.scode := ⟨_, rfl⟩
        rw [← hsc] at HSY HW3
        clear hsc
        go_wp2_with ((with_reducible refine atOp ⟨some 51, .load _ _, _, _, _, _⟩ ?_); refine wpList_load_any rfl _ rfl Tryd.underlying32 rfl (by rw [HXS.out]; rfl) rfl HBX.out ?_)
        refine HSY.out.mono ?_
        rintro e w6 ⟨⟨E1, f1, E2, f2, rfl, hR2⟩, hN6⟩
        obtain ⟨Y, hY⟩ : ∃ Y, Y = RfV r1.sync E1 f1 E2 f2 := ⟨_, rfl⟩
        rw [← hY]
        have HY := Lib.hid hY
        have HYS : Hid (Y.size = 5) := Lib.hid (by rw [hY]; rfl)
        have HYA : Hid (Y.all (·.oneCell') = true) := Lib.hid (by rw [hY]; exact rf_all _ _ _ _ _)
        have HR2 := Lib.hid hR2
        have HN6 := Lib.hid hN6
        have HB46 : Hid (Blk w6 b4 32 #[.int .i64 0, .slice none 0 0, .slice none 0 0, .int .i64 0, .bool false]) := Lib.hid (hN6.blk HB4r.out)
        clear hY hR2 hN6
        go_wp2_with ((with_reducible refine atOp ⟨none, .store 32 (.tmp 4) _, _, _, _, _⟩ ?_); refine wpList_store_any rfl (.tmp 4) (.tmp 53) rfl (by rw [HYS.out]; rfl) rfl rfl HB46.out (by rw [HYS.out]; rfl) HYA.out ?_; intro w9 hb9 hf9; have HB9 := Lib.hid hb9; have HF9 := Lib.hid hf9; clear hb9 hf9)
        refine bodyPost_ret (results_row2' rfl _ _ b4 _ _ rfl HB9.out Tryd.underlying32 rfl (by rw [HYS.out]; rfl)) rfl ?_
        rw [HW3.out]
        refine ⟨r1.sync, E1, f1, E2, f2, by rw [← HY.out]; rfl, HR2.out.fr HF9.out (fun j hj => ?_), HM1.out.sync, by have := RP.tot_sync r1; have := HT1.out; omega, (HNr.out.tr HN6.out).fr HF9.out (fun j hj => by have := HLT4.out; omega)⟩
        have hj' : j = b4 := hj
        rw [hj']
        exact IsT.not_blk HB46.out (by decide)
end Go.Proofs.YteeclfejgpgooaaDoor
/- The reference: a log opened. Its tables are as they were laid. No condition else. -/
namespace Go.Proofs.YteeclfejgpgooaaDoor
set_option linter.unusedVariables false
set_option linter.unusedSimpArgs false
set_option linter.constructorNameAsVariable false
open Go.RowKit Go.Sort

theorem results_row4 {fn : Func} {p p2 q q2 : Tmp} {ty ty2 : TypeId} {P : Program} (h : fn.results = #[.cell p ty, .cell p2 ty2, .tmp q, .tmp q2]) (tmps : Array Value) (w : World) (g g2 : Nat) (cs cs2 : Array Value) (d d2 : TypeDesc)
    (hp : tmps.getD p undef = .pointer (some ⟨g, 0, none⟩)) (hg : Blk w g ty cs) (hu : P.underlying ty = some d) (hd : d.isRow = true) (hi : (P.info? ty).map (·.size) = some cs.size)
    (hp2 : tmps.getD p2 undef = .pointer (some ⟨g2, 0, none⟩)) (hg2 : Blk w g2 ty2 cs2) (hu2 : P.underlying ty2 = some d2) (hd2 : d2.isRow = true) (hi2 : (P.info? ty2).map (·.size) = some cs2.size) :
    (results fn tmps).run P w = .ok (.tuple #[.agg cs, .agg cs2, tmps.getD q undef, tmps.getD q2 undef]) w := by
  have hp' : tmps[p]?.getD undef = .pointer (some ⟨g, 0, none⟩) := by simpa using hp
  have hp2' : tmps[p2]?.getD undef = .pointer (some ⟨g2, 0, none⟩) := by simpa using hp2
  simp [results, h, hp', hp2', asAddr, run_loadVar_row w g ty ty cs (0, 0) _ hg hu (by cases d <;> first | rfl | (simp [TypeDesc.isRow] at hd)) hi, run_loadVar_row w g2 ty2 ty2 cs2 (0, 0) _ hg2 hu2 (by cases d2 <;> first | rfl | (simp [TypeDesc.isRow] at hd2)) hi2]
def rl0 : Array Value := #[.int .i64 0, .int .i64 0, .int .i64 0, .int .u32 0, .slice none 0 0, .bool false]
theorem rlInfo : (Tryd.prog.info? 45).map (fun i => (i.zero, i.size)) = some (some (.agg rl0), 6) := by kernel_rfl
theorem rl_all (l : LG) (A : Option Addr) (c : Nat) : (rlV l A c).all (·.oneCell') = true := by simp [rlV, Value.oneCell']
/-- Where a log does not lie. -/
def RopenBad (r : RP) (A1 : Option Addr) (c1 : Nat) (A2 : Option Addr) (c2 : Nat) (w : World) (e : Ending) (w' : World) : Prop :=
  e = .returned (.tuple #[.agg (RfV r A1 c1 A2 c2), .agg rl0, .slice none 0 0, .int .i64 1]) ∧ New w w'
set_option maxRecDepth 100000 in
set_option maxHeartbeats 3000000 in
theorem ropen_bad {w : World} (r : RP) (A1 : Option Addr) (c1 : Nat) (A2 : Option Addr) (c2 : Nat) (n : Nat) (hr : r.size = n) (hn : n ≤ 16384) (a b c : Int) (wa : (Lit.int .i64 a).wf = true) (wb : (Lit.int .i64 b).wf = true) (hc : 0 ≤ c) (h : ¬ GoodAt a b c n) :
    Calls Tryd.prog 13 #[.agg (RfV r A1 c1 A2 c2), .int .i64 a, .int .i64 b, .int .u32 c] w (RopenBad r A1 c1 A2 c2 w) := by
  have ba := bounds_i64 wa
  have bb := bounds_i64 wb
  unfold GoodAt at h
  clear wa wb
  obtain ⟨X0, hX0⟩ : ∃ X0, X0 = RfV r A1 c1 A2 c2 := ⟨_, rfl⟩
  rw [← hX0]
  have HX0 : Hid (X0[0]? = some (.int .i64 n) ∧ X0.size = 5 ∧ X0.all (·.oneCell') = true) := Lib.hid (by rw [hX0]; exact ⟨by rw [← hr]; rfl, rfl, rf_all _ _ _ _ _⟩)
  have HXE := Lib.hid hX0
  clear hX0 hr
  have HKEY : Hid (∀ w0 b4 b8 b9, New w w0 → w.heap.size ≤ b8 → w.heap.size ≤ b9 → b8 ≠ b9 → Blk w0 b8 32 #[.int .i64 0, .slice none 0 0, .slice none 0 0, .int .i64 0, .bool false] → Blk w0 b9 45 rl0 → Blk w0 b4 32 X0 → True) := Lib.hid fun _ _ _ _ _ _ _ _ _ _ _ => trivial
  clear HKEY
  by_cases h1 : a < 0
  · clear h
    go_enter Tryd.func13, Tryd.ntmps13
    go_upto_region 1 with fail
    obtain ⟨w0, hw0⟩ : ∃ w0 : World, w0 = ((w.alloc (.cells X0 32)).alloc (.cells #[.int .i64 0, .slice none 0 0, .slice none 0 0, .int .i64 0, .bool false] 32)).alloc (.cells #[.int .i64 0, .int .i64 0, .int .i64 0, .int .u32 0, .slice none 0 0, .bool false] 45) := ⟨_, rfl⟩
    obtain ⟨b4, hb4⟩ : ∃ b4, b4 = w.heap.size := ⟨_, rfl⟩
    obtain ⟨b8, hb8⟩ : ∃ b8, b8 = w.heap.size + 1 := ⟨_, rfl⟩
    obtain ⟨b9, hb9⟩ : ∃ b9, b9 = w.heap.size + 1 + 1 := ⟨_, rfl⟩
    have HN0 : Hid (New w w0) := Lib.hid (by rw [hw0]; exact New.al (New.al (New.al (New.refl _) _) _) _)
    have HB4 : Hid (Blk w0 b4 32 X0) := Lib.hid (by rw [hw0, hb4]; exact ((Blk.new _ _ _).alloc _).alloc _)
    have HB8 : Hid (Blk w0 b8 32 #[.int .i64 0, .slice none 0 0, .slice none 0 0, .int .i64 0, .bool false]) := Lib.hid (by rw [hw0, hb8]; exact (Blk.new' _ _ _ (by simp)).alloc _)
    have HB9 : Hid (Blk w0 b9 45 rl0) := Lib.hid (by rw [hw0, hb9]; exact Blk.new' _ _ _ (by simp))
    have HZ : Hid (b4 = w.heap.size ∧ b8 = w.heap.size + 1 ∧ b9 = w.heap.size + 2) := Lib.hid ⟨hb4, hb8, hb9⟩
    rw [← hw0, ← hb9, ← hb8, ← hb4]
    clear hw0 hb4 hb8 hb9
    have cz : w0.cell? ⟨b4, 0, none⟩ = some (.int .i64 n) := by rw [HB4.out.cell, HX0.out.1]
    have hbuild : ∀ w, (Instr.build 45 #[]).run Tryd.prog w = .ok (.agg rl0) w := fun _ => by kernel_rfl
    go_wp2_with (first
      | ((with_reducible refine atOp ⟨some 40, .load _ _, _, _, _, _⟩ ?_); refine wpList_load_any rfl _ rfl Tryd.underlying32 rfl (by rw [HX0.out.2.1]; rfl) rfl HB4.out ?_)
      | ((with_reducible refine atOp ⟨none, .store 32 (.tmp 8) _, _, _, _, _⟩ ?_); refine wpList_store_any rfl (.tmp 8) (.tmp 40) rfl (by rw [HX0.out.2.1]; rfl) rfl rfl HB8.out (by rw [HX0.out.2.1]; rfl) HX0.out.2.2 ?_; intro w2 hb2 hf2; have HB82 := Lib.hid hb2; have HF2 := Lib.hid hf2; have HB92 : Hid (Blk w2 b9 45 rl0) := Lib.hid (HB9.out.fr hf2 (by have := HZ.out; omega)); clear hb2 hf2)
      | ((with_reducible refine atOp ⟨none, .store 45 (.tmp 9) _, _, _, _, _⟩ ?_); refine wpList_store_any rfl (.tmp 9) (.tmp 41) rfl (cs := rl0) rfl rfl rfl HB92.out rfl (by simp [rl0, Value.oneCell']) ?_; intro w3 hb3 hf3; have HB93 := Lib.hid hb3; have HF3 := Lib.hid hf3; clear hb3 hf3))
    refine bodyPost_ret (results_row4 rfl _ _ b8 b9 _ _ _ _ rfl (HB82.out.fr HF3.out (by have := HZ.out; omega)) Tryd.underlying32 rfl (by rw [HX0.out.2.1]; rfl) rfl HB93.out Tryd.underlying45 rfl rfl) rfl ?_
    rw [HXE.out]
    exact ⟨rfl, (HN0.out.fr HF2.out (fun j hj => by have := HZ.out; omega)).fr HF3.out (fun j hj => by have := HZ.out; omega)⟩
  · by_cases h2 : b < 1
    · clear h
      have h1' : 0 ≤ a := by omega
      go_enter Tryd.func13, Tryd.ntmps13
      go_upto_region 1 with fail
      obtain ⟨w0, hw0⟩ : ∃ w0 : World, w0 = ((w.alloc (.cells X0 32)).alloc (.cells #[.int .i64 0, .slice none 0 0, .slice none 0 0, .int .i64 0, .bool false] 32)).alloc (.cells #[.int .i64 0, .int .i64 0, .int .i64 0, .int .u32 0, .slice none 0 0, .bool false] 45) := ⟨_, rfl⟩
      obtain ⟨b4, hb4⟩ : ∃ b4, b4 = w.heap.size := ⟨_, rfl⟩
      obtain ⟨b8, hb8⟩ : ∃ b8, b8 = w.heap.size + 1 := ⟨_, rfl⟩
      obtain ⟨b9, hb9⟩ : ∃ b9, b9 = w.heap.size + 1 + 1 := ⟨_, rfl⟩
      have HN0 : Hid (New w w0) := Lib.hid (by rw [hw0]; exact New.al (New.al (New.al (New.refl _) _) _) _)
      have HB4 : Hid (Blk w0 b4 32 X0) := Lib.hid (by rw [hw0, hb4]; exact ((Blk.new _ _ _).alloc _).alloc _)
      have HB8 : Hid (Blk w0 b8 32 #[.int .i64 0, .slice none 0 0, .slice none 0 0, .int .i64 0, .bool false]) := Lib.hid (by rw [hw0, hb8]; exact (Blk.new' _ _ _ (by simp)).alloc _)
      have HB9 : Hid (Blk w0 b9 45 rl0) := Lib.hid (by rw [hw0, hb9]; exact Blk.new' _ _ _ (by simp))
      have HZ : Hid (b4 = w.heap.size ∧ b8 = w.heap.size + 1 ∧ b9 = w.heap.size + 2) := Lib.hid ⟨hb4, hb8, hb9⟩
      rw [← hw0, ← hb9, ← hb8, ← hb4]
      clear hw0 hb4 hb8 hb9
      have cz : w0.cell? ⟨b4, 0, none⟩ = some (.int .i64 n) := by rw [HB4.out.cell, HX0.out.1]
      have hbuild : ∀ w, (Instr.build 45 #[]).run Tryd.prog w = .ok (.agg rl0) w := fun _ => by kernel_rfl
      go_wp2_with (first
        | ((with_reducible refine atOp ⟨some 40, .load _ _, _, _, _, _⟩ ?_); refine wpList_load_any rfl _ rfl Tryd.underlying32 rfl (by rw [HX0.out.2.1]; rfl) rfl HB4.out ?_)
        | ((with_reducible refine atOp ⟨none, .store 32 (.tmp 8) _, _, _, _, _⟩ ?_); refine wpList_store_any rfl (.tmp 8) (.tmp 40) rfl (by rw [HX0.out.2.1]; rfl) rfl rfl HB8.out (by rw [HX0.out.2.1]; rfl) HX0.out.2.2 ?_; intro w2 hb2 hf2; have HB82 := Lib.hid hb2; have HF2 := Lib.hid hf2; have HB92 : Hid (Blk w2 b9 45 rl0) := Lib.hid (HB9.out.fr hf2 (by have := HZ.out; omega)); clear hb2 hf2)
        | ((with_reducible refine atOp ⟨none, .store 45 (.tmp 9) _, _, _, _, _⟩ ?_); refine wpList_store_any rfl (.tmp 9) (.tmp 41) rfl (cs := rl0) rfl rfl rfl HB92.out rfl (by simp [rl0, Value.oneCell']) ?_; intro w3 hb3 hf3; have HB93 := Lib.hid hb3; have HF3 := Lib.hid hf3; clear hb3 hf3))
      refine bodyPost_ret (results_row4 rfl _ _ b8 b9 _ _ _ _ rfl (HB82.out.fr HF3.out (by have := HZ.out; omega)) Tryd.underlying32 rfl (by rw [HX0.out.2.1]; rfl) rfl HB93.out Tryd.underlying45 rfl rfl) rfl ?_
      rw [HXE.out]
      exact ⟨rfl, (HN0.out.fr HF2.out (fun j hj => by have := HZ.out; omega)).fr HF3.out (fun j hj => by have := HZ.out; omega)⟩
    · by_cases h3 : (n : Int) ≤ a
      · clear h
        have h1' : 0 ≤ a := by omega
        have h2' : 1 ≤ b := by omega
        go_enter Tryd.func13, Tryd.ntmps13
        go_upto_region 1 with fail
        obtain ⟨w0, hw0⟩ : ∃ w0 : World, w0 = ((w.alloc (.cells X0 32)).alloc (.cells #[.int .i64 0, .slice none 0 0, .slice none 0 0, .int .i64 0, .bool false] 32)).alloc (.cells #[.int .i64 0, .int .i64 0, .int .i64 0, .int .u32 0, .slice none 0 0, .bool false] 45) := ⟨_, rfl⟩
        obtain ⟨b4, hb4⟩ : ∃ b4, b4 = w.heap.size := ⟨_, rfl⟩
        obtain ⟨b8, hb8⟩ : ∃ b8, b8 = w.heap.size + 1 := ⟨_, rfl⟩
        obtain ⟨b9, hb9⟩ : ∃ b9, b9 = w.heap.size + 1 + 1 := ⟨_, rfl⟩
        have HN0 : Hid (New w w0) := Lib.hid (by rw [hw0]; exact New.al (New.al (New.al (New.refl _) _) _) _)
        have HB4 : Hid (Blk w0 b4 32 X0) := Lib.hid (by rw [hw0, hb4]; exact ((Blk.new _ _ _).alloc _).alloc _)
        have HB8 : Hid (Blk w0 b8 32 #[.int .i64 0, .slice none 0 0, .slice none 0 0, .int .i64 0, .bool false]) := Lib.hid (by rw [hw0, hb8]; exact (Blk.new' _ _ _ (by simp)).alloc _)
        have HB9 : Hid (Blk w0 b9 45 rl0) := Lib.hid (by rw [hw0, hb9]; exact Blk.new' _ _ _ (by simp))
        have HZ : Hid (b4 = w.heap.size ∧ b8 = w.heap.size + 1 ∧ b9 = w.heap.size + 2) := Lib.hid ⟨hb4, hb8, hb9⟩
        rw [← hw0, ← hb9, ← hb8, ← hb4]
        clear hw0 hb4 hb8 hb9
        have cz : w0.cell? ⟨b4, 0, none⟩ = some (.int .i64 n) := by rw [HB4.out.cell, HX0.out.1]
        have hbuild : ∀ w, (Instr.build 45 #[]).run Tryd.prog w = .ok (.agg rl0) w := fun _ => by kernel_rfl
        go_wp2_with (first
          | ((with_reducible refine atOp ⟨some 40, .load _ _, _, _, _, _⟩ ?_); refine wpList_load_any rfl _ rfl Tryd.underlying32 rfl (by rw [HX0.out.2.1]; rfl) rfl HB4.out ?_)
          | ((with_reducible refine atOp ⟨none, .store 32 (.tmp 8) _, _, _, _, _⟩ ?_); refine wpList_store_any rfl (.tmp 8) (.tmp 40) rfl (by rw [HX0.out.2.1]; rfl) rfl rfl HB8.out (by rw [HX0.out.2.1]; rfl) HX0.out.2.2 ?_; intro w2 hb2 hf2; have HB82 := Lib.hid hb2; have HF2 := Lib.hid hf2; have HB92 : Hid (Blk w2 b9 45 rl0) := Lib.hid (HB9.out.fr hf2 (by have := HZ.out; omega)); clear hb2 hf2)
          | ((with_reducible refine atOp ⟨none, .store 45 (.tmp 9) _, _, _, _, _⟩ ?_); refine wpList_store_any rfl (.tmp 9) (.tmp 41) rfl (cs := rl0) rfl rfl rfl HB92.out rfl (by simp [rl0, Value.oneCell']) ?_; intro w3 hb3 hf3; have HB93 := Lib.hid hb3; have HF3 := Lib.hid hf3; clear hb3 hf3))
        refine bodyPost_ret (results_row4 rfl _ _ b8 b9 _ _ _ _ rfl (HB82.out.fr HF3.out (by have := HZ.out; omega)) Tryd.underlying32 rfl (by rw [HX0.out.2.1]; rfl) rfl HB93.out Tryd.underlying45 rfl rfl) rfl ?_
        rw [HXE.out]
        exact ⟨rfl, (HN0.out.fr HF2.out (fun j hj => by have := HZ.out; omega)).fr HF3.out (fun j hj => by have := HZ.out; omega)⟩
      · have h1' : 0 ≤ a := by omega
        have h2' : 1 ≤ b := by omega
        have h3' : a < (n : Int) := by omega
        obtain ⟨m, hm⟩ : ∃ m, m = (n : Int) - a := ⟨_, rfl⟩
        have hm0 : 0 ≤ m ∧ m ≤ 16384 := by omega
        by_cases h4 : m < b
        · clear h
          have h5 : (n : Int) - a = m := hm.symm
          clear hm
          go_enter Tryd.func13, Tryd.ntmps13
          go_upto_region 1 with fail
          obtain ⟨w0, hw0⟩ : ∃ w0 : World, w0 = ((w.alloc (.cells X0 32)).alloc (.cells #[.int .i64 0, .slice none 0 0, .slice none 0 0, .int .i64 0, .bool false] 32)).alloc (.cells #[.int .i64 0, .int .i64 0, .int .i64 0, .int .u32 0, .slice none 0 0, .bool false] 45) := ⟨_, rfl⟩
          obtain ⟨b4, hb4⟩ : ∃ b4, b4 = w.heap.size := ⟨_, rfl⟩
          obtain ⟨b8, hb8⟩ : ∃ b8, b8 = w.heap.size + 1 := ⟨_, rfl⟩
          obtain ⟨b9, hb9⟩ : ∃ b9, b9 = w.heap.size + 1 + 1 := ⟨_, rfl⟩
          have HN0 : Hid (New w w0) := Lib.hid (by rw [hw0]; exact New.al (New.al (New.al (New.refl _) _) _) _)
          have HB4 : Hid (Blk w0 b4 32 X0) := Lib.hid (by rw [hw0, hb4]; exact ((Blk.new _ _ _).alloc _).alloc _)
          have HB8 : Hid (Blk w0 b8 32 #[.int .i64 0, .slice none 0 0, .slice none 0 0, .int .i64 0, .bool false]) := Lib.hid (by rw [hw0, hb8]; exact (Blk.new' _ _ _ (by simp)).alloc _)
          have HB9 : Hid (Blk w0 b9 45 rl0) := Lib.hid (by rw [hw0, hb9]; exact Blk.new' _ _ _ (by simp))
          have HZ : Hid (b4 = w.heap.size ∧ b8 = w.heap.size + 1 ∧ b9 = w.heap.size + 2) := Lib.hid ⟨hb4, hb8, hb9⟩
          rw [← hw0, ← hb9, ← hb8, ← hb4]
          clear hw0 hb4 hb8 hb9
          have cz : w0.cell? ⟨b4, 0, none⟩ = some (.int .i64 n) := by rw [HB4.out.cell, HX0.out.1]
          have hbuild : ∀ w, (Instr.build 45 #[]).run Tryd.prog w = .ok (.agg rl0) w := fun _ => by kernel_rfl
          go_wp2_with (first
            | ((with_reducible refine atOp ⟨some 40, .load _ _, _, _, _, _⟩ ?_); refine wpList_load_any rfl _ rfl Tryd.underlying32 rfl (by rw [HX0.out.2.1]; rfl) rfl HB4.out ?_)
            | ((with_reducible refine atOp ⟨none, .store 32 (.tmp 8) _, _, _, _, _⟩ ?_); refine wpList_store_any rfl (.tmp 8) (.tmp 40) rfl (by rw [HX0.out.2.1]; rfl) rfl rfl HB8.out (by rw [HX0.out.2.1]; rfl) HX0.out.2.2 ?_; intro w2 hb2 hf2; have HB82 := Lib.hid hb2; have HF2 := Lib.hid hf2; have HB92 : Hid (Blk w2 b9 45 rl0) := Lib.hid (HB9.out.fr hf2 (by have := HZ.out; omega)); clear hb2 hf2)
            | ((with_reducible refine atOp ⟨none, .store 45 (.tmp 9) _, _, _, _, _⟩ ?_); refine wpList_store_any rfl (.tmp 9) (.tmp 41) rfl (cs := rl0) rfl rfl rfl HB92.out rfl (by simp [rl0, Value.oneCell']) ?_; intro w3 hb3 hf3; have HB93 := Lib.hid hb3; have HF3 := Lib.hid hf3; clear hb3 hf3))
          refine bodyPost_ret (results_row4 rfl _ _ b8 b9 _ _ _ _ rfl (HB82.out.fr HF3.out (by have := HZ.out; omega)) Tryd.underlying32 rfl (by rw [HX0.out.2.1]; rfl) rfl HB93.out Tryd.underlying45 rfl rfl) rfl ?_
          rw [HXE.out]
          exact ⟨rfl, (HN0.out.fr HF2.out (fun j hj => by have := HZ.out; omega)).fr HF3.out (fun j hj => by have := HZ.out; omega)⟩
        · have hc0 : c = 0 := by omega
          subst hc0
          clear h
          have h5 : (n : Int) - a = m := hm.symm
          have h6 : b ≤ m := by omega
          clear hm
          go_enter Tryd.func13, Tryd.ntmps13
          go_upto_region 1 with fail
          obtain ⟨w0, hw0⟩ : ∃ w0 : World, w0 = ((w.alloc (.cells X0 32)).alloc (.cells #[.int .i64 0, .slice none 0 0, .slice none 0 0, .int .i64 0, .bool false] 32)).alloc (.cells #[.int .i64 0, .int .i64 0, .int .i64 0, .int .u32 0, .slice none 0 0, .bool false] 45) := ⟨_, rfl⟩
          obtain ⟨b4, hb4⟩ : ∃ b4, b4 = w.heap.size := ⟨_, rfl⟩
          obtain ⟨b8, hb8⟩ : ∃ b8, b8 = w.heap.size + 1 := ⟨_, rfl⟩
          obtain ⟨b9, hb9⟩ : ∃ b9, b9 = w.heap.size + 1 + 1 := ⟨_, rfl⟩
          have HN0 : Hid (New w w0) := Lib.hid (by rw [hw0]; exact New.al (New.al (New.al (New.refl _) _) _) _)
          have HB4 : Hid (Blk w0 b4 32 X0) := Lib.hid (by rw [hw0, hb4]; exact ((Blk.new _ _ _).alloc _).alloc _)
          have HB8 : Hid (Blk w0 b8 32 #[.int .i64 0, .slice none 0 0, .slice none 0 0, .int .i64 0, .bool false]) := Lib.hid (by rw [hw0, hb8]; exact (Blk.new' _ _ _ (by simp)).alloc _)
          have HB9 : Hid (Blk w0 b9 45 rl0) := Lib.hid (by rw [hw0, hb9]; exact Blk.new' _ _ _ (by simp))
          have HZ : Hid (b4 = w.heap.size ∧ b8 = w.heap.size + 1 ∧ b9 = w.heap.size + 2) := Lib.hid ⟨hb4, hb8, hb9⟩
          rw [← hw0, ← hb9, ← hb8, ← hb4]
          clear hw0 hb4 hb8 hb9
          have cz : w0.cell? ⟨b4, 0, none⟩ = some (.int .i64 n) := by rw [HB4.out.cell, HX0.out.1]
          have hbuild : ∀ w, (Instr.build 45 #[]).run Tryd.prog w = .ok (.agg rl0) w := fun _ => by kernel_rfl
          go_wp2_with (first
            | ((with_reducible refine atOp ⟨some 40, .load _ _, _, _, _, _⟩ ?_); refine wpList_load_any rfl _ rfl Tryd.underlying32 rfl (by rw [HX0.out.2.1]; rfl) rfl HB4.out ?_)
            | ((with_reducible refine atOp ⟨none, .store 32 (.tmp 8) _, _, _, _, _⟩ ?_); refine wpList_store_any rfl (.tmp 8) (.tmp 40) rfl (by rw [HX0.out.2.1]; rfl) rfl rfl HB8.out (by rw [HX0.out.2.1]; rfl) HX0.out.2.2 ?_; intro w2 hb2 hf2; have HB82 := Lib.hid hb2; have HF2 := Lib.hid hf2; have HB92 : Hid (Blk w2 b9 45 rl0) := Lib.hid (HB9.out.fr hf2 (by have := HZ.out; omega)); clear hb2 hf2)
            | ((with_reducible refine atOp ⟨none, .store 45 (.tmp 9) _, _, _, _, _⟩ ?_); refine wpList_store_any rfl (.tmp 9) (.tmp 41) rfl (cs := rl0) rfl rfl rfl HB92.out rfl (by simp [rl0, Value.oneCell']) ?_; intro w3 hb3 hf3; have HB93 := Lib.hid hb3; have HF3 := Lib.hid hf3; clear hb3 hf3))
          refine bodyPost_ret (results_row4 rfl _ _ b8 b9 _ _ _ _ rfl (HB82.out.fr HF3.out (by have := HZ.out; omega)) Tryd.underlying32 rfl (by rw [HX0.out.2.1]; rfl) rfl HB93.out Tryd.underlying45 rfl rfl) rfl ?_
          rw [HXE.out]
          exact ⟨rfl, (HN0.out.fr HF2.out (fun j hj => by have := HZ.out; omega)).fr HF3.out (fun j hj => by have := HZ.out; omega)⟩
end Go.Proofs.YteeclfejgpgooaaDoor
/- The reference: a log opened where it may lie. Its tables are as they were laid. No condition else. -/
namespace Go.Proofs.YteeclfejgpgooaaDoor
set_option linter.unusedVariables false
set_option linter.unusedSimpArgs false
set_option linter.constructorNameAsVariable false
open Go.RowKit Go.Sort

/-- Open's answer. -/
def ROpenSays (w : World) (r : LG × List (List Int)) (x : DP × Int) (tot : Nat) (e : Ending) (w' : World) : Prop :=
  if x.2 = 0 then ∃ r' A1 c1 A2 c2 B c C cc, e = .returned (.tuple #[.agg (RfV r' A1 c1 A2 c2), .agg (rlV r.1 B c), .slice C r.2.length cc, .int .i64 0]) ∧ RfIn w' r' A1 A2 ∧ Mt x.1 r' ∧ r'.tot ≤ tot ∧ RlIn w' r.1 B ∧ Recs w.heap.size w' (.slice C r.2.length cc) r.2 ∧ New w w'
  else ∃ r' A1 c1 A2 c2, e = .returned (.tuple #[.agg (RfV r' A1 c1 A2 c2), .agg rl0, .slice none 0 0, .int .i64 x.2]) ∧ RfIn w' r' A1 A2 ∧ Mt x.1 r' ∧ r'.tot ≤ tot ∧ New w w'
/-- What is known at the head of a round. -/
structure RoI (W0 wr : World) (p : DP) (l0 : LG) (b12 : Nat) (k : Nat) (out : Value) (XL : Array Value) : Prop where
  fr : Fr (fun j => j = b12) W0 wr
  recs : Recs W0.heap.size wr out (runs p l0 k).2
  len : (runs p l0 k).2.length = k ∧ k ≤ (runs p l0 k).1.used
  log : ∃ B c, XL = rlV (runs p l0 k).1 B c ∧ RlIn wr (runs p l0 k).1 B
  blk : Blk wr b12 45 XL
theorem runs_num {p : DP} {l : LG} {n : Nat} (hp : p.Ok) (hl : l.Ok n) (hn : n ≤ 16384) (k : Nat) : (runs p l k).1.first ≤ 100000 ∧ (runs p l k).1.size ≤ 100000 ∧ (runs p l k).1.used ≤ 100000 := by
  have h := (runs_ok hp hl k).1
  have h1 := h.fit
  have h2 := h.used
  omega
set_option maxRecDepth 100000 in
set_option maxHeartbeats 4000000 in
theorem ropen_good {w : World} {p : DP} (r : RP) (A1 : Option Addr) (c1 : Nat) (A2 : Option Addr) (c2 : Nat) (hr : RfIn w r A1 A2) (hM : Mt p r) (hp : p.Ok) (hn : r.tot ≤ 50000) (hL : RShaIn 1 0 w) (a b c : Nat) (hb : 1 ≤ b) (hab : a + b ≤ p.size) (hc : c < 4294967296) (hc0 : c ≠ 0) :
    Calls Tryd.prog 13 #[.agg (RfV r A1 c1 A2 c2), .int .i64 a, .int .i64 b, .int .u32 c] w (ROpenSays w (runL p (lg0 a b c)) (wipeL p (runL p (lg0 a b c)).1) (r.tot + b)) := by
  have hsz := hp.s2
  have hl0 : (lg0 a b c).Ok p.size := lg0_ok hab hc
  have HL := Lib.hid hL
  obtain ⟨X0, hX0⟩ : ∃ X0, X0 = RfV r A1 c1 A2 c2 := ⟨_, rfl⟩
  have HX0 : Hid (X0[0]? = some (.int .i64 p.size) ∧ X0.size = 5 ∧ X0.all (·.oneCell') = true) := Lib.hid (by rw [hX0]; exact ⟨by rw [← hM.size]; rfl, rfl, rf_all _ _ _ _ _⟩)
  have HNXT : Hid (∀ k B cc W, New w W → RlIn W (runs p (lg0 a b c) k).1 B → Calls Tryd.prog 42 #[.agg X0, .agg (rlV (runs p (lg0 a b c) k).1 B cc)] W (RNextSays (nextL p (runs p (lg0 a b c) k).1) W)) := Lib.hid fun k B cc W hN hI => by
    rw [hX0]
    exact rnext_any r A1 c1 A2 c2 B cc (hr.new hN) hM hp (by omega) hI (runs_ok hp hl0 k).1 (hL.new hN)
  have HWIP : Hid (∀ k B cc W, New w W → Calls Tryd.prog 44 #[.agg X0, .agg (rlV (runs p (lg0 a b c) k).1 B cc)] W (RwSays (wipeL p (runs p (lg0 a b c) k).1).1 (wipeL p (runs p (lg0 a b c) k).1).2 (r.tot + b) W)) := Lib.hid fun k B cc W hN => by
    rw [hX0]
    have h := rwipe_any r A1 c1 A2 c2 B cc (hr.new hN) hM hp hn (runs_ok hp hl0 k).1
    rw [(runs_ok hp hl0 k).2.1] at h
    exact h
  have HOK : Hid (p.Ok ∧ (lg0 a b c).Ok p.size) := Lib.hid ⟨hp, hl0⟩
  obtain ⟨n, hn2⟩ : ∃ n, n = p.size := ⟨_, rfl⟩
  rw [← hn2] at HX0
  have HPN := Lib.hid hn2
  obtain ⟨m, hm⟩ : ∃ m, m = n - a := ⟨_, rfl⟩
  have h5 : (n : Int) - (a : Int) = (m : Int) := by omega
  have h6 : (b : Int) ≤ (m : Int) := by omega
  have h7 : (m : Int) ≤ 16384 := by omega
  have h3' : (a : Int) < (n : Int) := by omega
  have h2' : 1 ≤ (b : Int) := by omega
  have h1' : 0 ≤ (a : Int) := by omega
  have hcz : ((c : Int) == 0) = false := by simp; omega
  have hcy : ¬ (c : Int) = 0 := by omega
  have hbn : b ≤ 16384 := by omega
  have HCG : Hid (c < 4294967296) := Lib.hid hc
  obtain ⟨l0, hl⟩ : ∃ l0, l0 = lg0 a b c := ⟨_, rfl⟩
  have HLE := Lib.hid hl
  have HLZ : Hid (l0.size = b) := Lib.hid (by rw [hl]; rfl)
  rw [← hl] at HNXT HWIP HOK ⊢
  obtain ⟨R, hR⟩ : ∃ R, R = runL p l0 := ⟨_, rfl⟩
  obtain ⟨x, hx⟩ : ∃ x, x = wipeL p R.1 := ⟨_, rfl⟩
  obtain ⟨tt, htt⟩ : ∃ tt, tt = r.tot + b := ⟨_, rfl⟩
  rw [← hX0, ← hR, ← hx, ← htt]
  rw [← htt] at HWIP
  have HR := Lib.hid hR
  have HX := Lib.hid hx
  clear hr hM hp hn hL hb hab hc hc0 hsz hl0 hX0 hn2 hm hl hR hx htt
  go_enter Tryd.func13, Tryd.ntmps13
  go_upto_region 1 with fail
  obtain ⟨w0, hw0⟩ : ∃ w0 : World, w0 = ((w.alloc (.cells X0 32)).alloc (.cells #[.int .i64 0, .slice none 0 0, .slice none 0 0, .int .i64 0, .bool false] 32)).alloc (.cells #[.int .i64 0, .int .i64 0, .int .i64 0, .int .u32 0, .slice none 0 0, .bool false] 45) := ⟨_, rfl⟩
  obtain ⟨b4, hb4⟩ : ∃ b4, b4 = w.heap.size := ⟨_, rfl⟩
  obtain ⟨b8, hb8⟩ : ∃ b8, b8 = w.heap.size + 1 := ⟨_, rfl⟩
  obtain ⟨b9, hb9⟩ : ∃ b9, b9 = w.heap.size + 1 + 1 := ⟨_, rfl⟩
  have HN0 : Hid (New w w0) := Lib.hid (by rw [hw0]; exact New.al (New.al (New.al (New.refl _) _) _) _)
  have HB4 : Hid (Blk w0 b4 32 X0) := Lib.hid (by rw [hw0, hb4]; exact ((Blk.new _ _ _).alloc _).alloc _)
  have HB8 : Hid (Blk w0 b8 32 #[.int .i64 0, .slice none 0 0, .slice none 0 0, .int .i64 0, .bool false]) := Lib.hid (by rw [hw0, hb8]; exact (Blk.new' _ _ _ (by simp)).alloc _)
  have HB9 : Hid (Blk w0 b9 45 rl0) := Lib.hid (by rw [hw0, hb9]; exact Blk.new' _ _ _ (by simp))
  have HZ : Hid (b4 = w.heap.size ∧ b8 = w.heap.size + 1 ∧ b9 = w.heap.size + 2) := Lib.hid ⟨hb4, hb8, hb9⟩
  have HLZW : Hid (w0.heap.size = w.heap.size + 3) := Lib.hid (by rw [hw0]; simp)
  rw [← hw0, ← hb9, ← hb8, ← hb4]
  clear hw0 hb4 hb8 hb9
  have cz : w0.cell? ⟨b4, 0, none⟩ = some (.int .i64 n) := by rw [HB4.out.cell, HX0.out.1]
  obtain ⟨i0, hi, hz0, hz1, hz2⟩ := info_parts infoB
  have HI := Lib.hid (And.intro hi (And.intro hz0 (And.intro hz1 hz2)))
  clear hi hz0 hz1 hz2
  go_upto_region 4 with ((with_reducible refine atOpS ⟨some 45, .makeSlice _ _ _, _, _, _, _⟩ ?_); refine wpList_make_full _ rfl _ _ 43 rfl w0.heap.size 5 i0 (.int .u8 0) 1 Tryd.underlying43 HI.out.1 HI.out.2.1 HI.out.2.2.1 .i64 .i64 16 16 16 rfl rfl rfl rfl (by rw [HI.out.2.2.2]; omega) (by unfold maxLen; omega) (Nat.le_refl _) ?_; intro w1 hO1 hg1; have HO1 : Hid (w1.ownsRow w0.heap.size 5 1 (.slice (some ⟨w0.heap.size, 0, none⟩) 16 16) 16 (u8s (List.replicate 16 0))) := Lib.hid (by have h := made_u8 16; have h2 := hO1; rw [h] at h2; exact h2); have HN1 : Hid (New w0 w1) := Lib.hid ((New.refl w0).fr ((Fr.refl NoB w0).grown hg1 (fun _ _ h => by cases h)) (fun k h => h.elim)); clear hO1 hg1)
  obtain ⟨W0, hW0⟩ : ∃ W0 : World, W0 = w1.alloc (.cells #[.int .i64 a, .int .i64 b, .int .i64 0, .int .u32 c, .slice (some ⟨w0.heap.size, 0, none⟩) 16 16, .bool false] 45) := ⟨_, rfl⟩
  obtain ⟨b12, hb12⟩ : ∃ b12, b12 = w1.heap.size := ⟨_, rfl⟩
  have HNW : Hid (New w0 W0) := Lib.hid (by rw [hW0]; exact New.al HN1.out _)
  have HB12 : Hid (Blk W0 b12 45 (rlV (runs p l0 0).1 (some ⟨w0.heap.size, 0, none⟩) 16)) := Lib.hid (by rw [hW0, hb12]; show Blk _ _ _ (rlV l0 _ _); rw [HLE.out]; exact Blk.new _ _ _)
  have HLI : Hid (RlIn W0 (runs p l0 0).1 (some ⟨w0.heap.size, 0, none⟩)) := Lib.hid ⟨(by
    show RdT _ _ _ _ _ (u8s l0.tag)
    rw [HLE.out]
    have h := RdT.own HO1.out rfl
    rw [hW0]
    exact h.new (New.al (New.refl _) _)), HOK.out.2.byt, HOK.out.2.gen, runs_num HOK.out.1 HOK.out.2 (HOK.out.1.s2) 0⟩
  have HRO : Hid (RoI W0 W0 p l0 b12 0 (.slice none 0 0) (rlV (runs p l0 0).1 (some ⟨w0.heap.size, 0, none⟩) 16)) := Lib.hid ⟨Fr.refl _ _, Recs.nil _ _, ⟨rfl, Nat.zero_le _⟩, ⟨_, _, rfl, HLI.out⟩, HB12.out⟩
  have HL12 : Hid (W0.heap.size = b12 + 1 ∧ w0.heap.size ≤ b12) := Lib.hid ⟨by rw [hW0, hb12]; simp, by have := HN1.out.size; omega⟩
  have HB4W : Hid (Blk W0 b4 32 X0) := Lib.hid (HNW.out.blk HB4.out)
  have HB8W : Hid (Blk W0 b8 32 #[.int .i64 0, .slice none 0 0, .slice none 0 0, .int .i64 0, .bool false]) := Lib.hid (HNW.out.blk HB8.out)
  have HB9W : Hid (Blk W0 b9 45 rl0) := Lib.hid (HNW.out.blk HB9.out)
  have HLW : Hid (w0.heap.size = w.heap.size + 3 ∧ b4 = w.heap.size ∧ b8 = w.heap.size + 1 ∧ b9 = w.heap.size + 2) := Lib.hid ⟨by
    have h1 := HZ.out
    have h2 := HB9.out.lt
    have h3 := HLZW.out
    omega, HZ.out⟩
  rw [← hW0, ← hb12]
  clear hW0 hb12 HO1 HN1 HB12 HLI cz HB4 HB8 HB9 HZ HI h5 h6 h7 h3' h2' h1' hcz hcy
  go_wp2_with fail
  go_loopw [13] (fun out wr => ∃ (k : Nat) (A : Option Addr) (d : Nat) (XL : Array Value), k ≤ 16384 ∧ out = .slice A k d ∧ Hid (RoI W0 wr p l0 b12 k (.slice A k d) XL)) (fun out _ => 16400 - (match out with | .slice _ n _ => n | _ => 0))
  case atStart => exact ⟨0, none, 0, _, Nat.zero_le _, rfl, HRO⟩
  case round =>
    clear HRO
    obtain ⟨k, A, d, XL, hk, rfl, HI⟩ := hrel
    obtain ⟨B, cc, hXL, hLI⟩ := HI.out.log
    have HXL := Lib.hid hXL
    have HLI := Lib.hid hLI
    have HXS : Hid (XL.size = 6) := Lib.hid (by rw [hXL]; rfl)
    have HB12r : Hid (Blk wr b12 45 XL) := Lib.hid HI.out.blk
    have HB4r : Hid (Blk wr b4 32 X0) := Lib.hid (HB4W.out.fr HI.out.fr (by have := HLW.out; have := HL12.out; omega))
    have HNr : Hid (New w0 wr) := Lib.hid (HNW.out.fr HI.out.fr (fun j hj => by have := HL12.out; omega))
    have HNX1 := Lib.hid (HNXT.out k B cc wr (HN0.out.tr HNr.out) hLI)
    rw [← hXL] at HNX1
    clear hXL hLI
    cases hn : nextL p (runs p l0 k).1 with
    | none =>
      have HNn := Lib.hid hn
      rw [hn] at HNX1
      have hkl : (runs p l0 k).2.length = k := HI.out.len.1
      have hks : k ≤ l0.size := by
        have h6 := (runs_ok HOK.out.1 HOK.out.2 k).1.used
        have h7 := (runs_ok HOK.out.1 HOK.out.2 k).2.1
        have := HI.out.len.2
        omega
      have HRK : Hid (R = runs p l0 k) := Lib.hid (by rw [HR.out]; exact runL_at (by omega) hn)
      have HKL : Hid (R.2.length = k) := Lib.hid (by rw [HRK.out]; exact hkl)
      have hen := fun w => Lib.run_eql_slice_nil (P := Tryd.prog) w 43 5 none 0 0 0 0 Tryd.underlying43
      clear hn hkl hks
      go_wp2_with (first
        | ((with_reducible refine atOp ⟨some 47, .load _ _, _, _, _, _⟩ ?_); refine wpList_load_any rfl _ rfl Tryd.underlying32 rfl (by rw [HX0.out.2.1]; rfl) rfl HB4r.out ?_)
        | ((with_reducible refine atOp ⟨some 48, .load _ _, _, _, _, _⟩ ?_); refine wpList_load_any rfl _ rfl Tryd.underlying45 rfl (by rw [HXS.out]; rfl) rfl HB12r.out ?_))
      refine HNX1.out.mono ?_
      rintro e w2 ⟨rfl, hN2⟩
      have HN2 := Lib.hid hN2
      have HB42 : Hid (Blk w2 b4 32 X0) := Lib.hid (hN2.blk HB4r.out)
      have HB122 : Hid (Blk w2 b12 45 XL) := Lib.hid (hN2.blk HB12r.out)
      have HWP := Lib.hid (HWIP.out k B cc w2 ((HN0.out.tr HNr.out).tr hN2))
      rw [← HXL.out, ← HRK.out, ← HX.out] at HWP
      clear hN2
      go_wp2_with (first
        | ((with_reducible refine atOp ⟨some 70, .load _ _, _, _, _, _⟩ ?_); refine wpList_load_any rfl _ rfl Tryd.underlying32 rfl (by rw [HX0.out.2.1]; rfl) rfl HB42.out ?_)
        | ((with_reducible refine atOp ⟨some 71, .load _ _, _, _, _, _⟩ ?_); refine wpList_load_any rfl _ rfl Tryd.underlying45 rfl (by rw [HXS.out]; rfl) rfl HB122.out ?_))
      refine HWP.out.mono ?_
      rintro e w3 ⟨r', E1, f1, E2, f2, rfl, hR3, hM3, ht3, hN3⟩
      obtain ⟨Y, hY⟩ : ∃ Y, Y = RfV r' E1 f1 E2 f2 := ⟨_, rfl⟩
      rw [← hY]
      have HY := Lib.hid hY
      have HYS : Hid (Y.size = 5) := Lib.hid (by rw [hY]; rfl)
      have HYA : Hid (Y.all (·.oneCell') = true) := Lib.hid (by rw [hY]; exact rf_all _ _ _ _ _)
      have HR3 := Lib.hid hR3
      have HM3 := Lib.hid hM3
      have HT3 := Lib.hid ht3
      have HN3 : Hid (New wr w3) := Lib.hid (HN2.out.tr hN3)
      have HB43 : Hid (Blk w3 b4 32 X0) := Lib.hid (HN3.out.blk HB4r.out)
      clear hY hR3 hM3 ht3 hN3
      obtain ⟨ec, hec⟩ : ∃ ec, ec = x.2 := ⟨_, rfl⟩
      have HEC := Lib.hid hec
      rw [← hec]
      clear hec
      go_upto_region 11 with ((with_reducible refine atOp ⟨none, .store 32 (.tmp 4) _, _, _, _, _⟩ ?_); refine wpList_store_any rfl (.tmp 4) (.tmp 73) rfl (by rw [HYS.out]; rfl) rfl rfl HB43.out (by rw [HX0.out.2.1, HYS.out]) HYA.out ?_; intro w4 hb4 hf4; have HB44 := Lib.hid hb4; have HF4 := Lib.hid hf4; clear hb4 hf4)
      have HF4' : Hid (Fr (fun j => j = b4 ∨ j = b12) W0 w4) := Lib.hid (((HI.out.fr.mono (fun j _ hj => .inr hj)).trans (HN3.out.toFr _)).trans (HF4.out.mono (fun j _ hj => .inl hj)))
      have HB84 : Hid (Blk w4 b8 32 #[.int .i64 0, .slice none 0 0, .slice none 0 0, .int .i64 0, .bool false]) := Lib.hid (HB8W.out.fr HF4'.out (by have := HLW.out; have := HL12.out; omega))
      have HB94 : Hid (Blk w4 b9 45 rl0) := Lib.hid (HB9W.out.fr HF4'.out (by have := HLW.out; have := HL12.out; omega))
      have HB124 : Hid (Blk w4 b12 45 XL) := Lib.hid ((HN3.out.blk HB12r.out).fr HF4.out (by have := HLW.out; have := HL12.out; omega))
      have HR4 : Hid (RfIn w4 r' E1 E2) := Lib.hid (HR3.out.fr HF4.out (fun j hj => by
        have hj' : j = b4 := hj
        rw [hj']
        exact IsT.not_blk HB43.out (by decide)))
      have HN4 : Hid (New w w4) := Lib.hid (((HN0.out.tr HNr.out).tr HN3.out).fr HF4.out (fun j hj => by have := HLW.out; omega))
      have HLI4 : Hid (RlIn w4 (runs p l0 k).1 B) := Lib.hid ((HLI.out.new HN3.out).fr HF4.out (fun j hj => by
        have hj' : j = b4 := hj
        rw [hj']
        exact IsT.not_blk HB43.out (by decide)))
      have HRC4 : Hid (Recs w.heap.size w4 (.slice A k d) (runs p l0 k).2) := Lib.hid (((HI.out.recs.new HN3.out).fr HF4.out (fun j hj _ => by
        have hj' : j = b4 := hj
        rw [hj']
        exact ⟨IsT.not_blk HB43.out (by decide), IsT.not_blk HB43.out (by decide)⟩)).base (by have := HLW.out; have := HNW.out.size; omega))
      by_cases h0 : ec = 0
      · have H0 := Lib.hid h0
        subst h0
        go_wp2_with fail
        refine wp_region_mixH (fun W => Blk W b4 32 Y ∧ Blk W b12 45 XL) [(true, 0), (true, 1), (true, 2), (false, 3), (false, 4), (true, 5), (true, 6)] (by kernel_rfl) (by kernel_rfl) ⟨HB44.out.drew, HB124.out.drew⟩ (fun hne => ?_)
        refine mix_take_row (o := ⟨_, _, _, _, _, _⟩) rfl rfl (.tmp 4) rfl rfl (fun W hS => hS.1.rangeOf) Tryd.underlying32 rfl (by rw [Array.length_toList, HYS.out]; rfl) ?_
        simp only [Act.put, List.setIfInBounds_toArray, List.set_cons_zero, List.set_cons_succ]
        refine mix_take_row (o := ⟨_, _, _, _, _, _⟩) rfl rfl (.tmp 12) rfl rfl (fun W hS => hS.2.rangeOf) Tryd.underlying45 rfl (by rw [Array.length_toList, HXS.out]; rfl) ?_
        simp only [Act.put, List.setIfInBounds_toArray, List.set_cons_zero, List.set_cons_succ]
        iterate 1 (refine mix_take (o := ⟨_, _, _, _, _, _⟩) rfl (fun K hK => ?_); go_simp; refine hK _ ?_; clear hK K)
        refine mix_act (o := ⟨_, _, _, _, _, _⟩) rfl (fun K hK => ?_) (.inl rfl)
        refine step_store_any (cs := Y) rfl (.tmp 8) (.tmp 80) rfl (by rw [HYS.out]; rfl) rfl rfl HB84.out.drew (by rw [HYS.out]; rfl) HYA.out ?_
        intro w5 hB5 hF5
        have HB85 := Lib.hid hB5
        have HF5 : Hid (Fr (fun j => j = b8) w4 w5) := Lib.hid (((New.dr (New.refl w4)).toFr _).trans hF5)
        clear hB5 hF5
        have HB45 : Hid (Blk w5 b4 32 Y ∧ Blk w5 b12 45 XL) := Lib.hid ⟨HB44.out.fr HF5.out (by have := HLW.out; omega), HB124.out.fr HF5.out (by have := HLW.out; have := HL12.out; omega)⟩
        simp only [Act.put, List.setIfInBounds_toArray, List.set_cons_zero, List.set_cons_succ]
        refine hK.out _ _ (fun _ => HB45.out) ?_
        clear hK K
        have HB95 : Hid (Blk w5 b9 45 rl0) := Lib.hid (HB94.out.fr HF5.out (by have := HLW.out; omega))
        refine mix_act (o := ⟨_, _, _, _, _, _⟩) rfl (fun K hK => ?_) (.inl rfl)
        refine step_store_any (cs := XL) rfl (.tmp 9) (.tmp 81) rfl (by rw [HXS.out]; rfl) rfl rfl HB95.out (by rw [HXS.out]; rfl) (by rw [HXL.out]; exact rl_all _ _ _) ?_
        intro w6 hB6 hF6
        have HB96 := Lib.hid hB6
        have HF6 : Hid (Fr (fun j => j = b8 ∨ j = b9) w4 w6) := Lib.hid ((HF5.out.mono (fun j _ hj => .inl hj)).trans (hF6.mono (fun j _ hj => .inr hj)))
        have HB86 : Hid (Blk w6 b8 32 Y) := Lib.hid (HB85.out.fr hF6 (by have := HLW.out; omega))
        have HB46 : Hid (Blk w6 b4 32 Y ∧ Blk w6 b12 45 XL) := Lib.hid ⟨HB45.out.1.fr hF6 (by have := HLW.out; omega), HB45.out.2.fr hF6 (by have := HLW.out; have := HL12.out; omega)⟩
        clear hB6 hF6
        simp only [Act.put, List.setIfInBounds_toArray, List.set_cons_zero, List.set_cons_succ]
        refine hK.out _ _ (fun _ => HB46.out) ?_
        clear hK K
        iterate 2 (refine mix_take (o := ⟨_, _, _, _, _, _⟩) rfl (fun K hK => ?_); go_simp; refine hK _ ?_; clear hK K)
        refine mix_done ?_
        go_wp2_with fail
        have hnt : ∀ j, (j = b8 ∨ j = b9) → ¬ IsT 5 w4 j ∧ ¬ IsT 43 w4 j := fun j hj => by
          rcases hj with rfl | rfl
          · exact ⟨IsT.not_blk HB84.out (by decide), IsT.not_blk HB84.out (by decide)⟩
          · exact ⟨IsT.not_blk HB94.out (by decide), IsT.not_blk HB94.out (by decide)⟩
        have hnp : ∀ j, (j = b8 ∨ j = b9) → ¬ IsT 92 w4 j := fun j hj => by
          rcases hj with rfl | rfl
          · exact IsT.not_blk HB84.out (by decide)
          · exact IsT.not_blk HB94.out (by decide)
        refine bodyPost_ret (results_row4 rfl _ _ b8 b9 _ _ _ _ rfl HB86.out Tryd.underlying32 rfl (by rw [HYS.out]; rfl) rfl HB96.out Tryd.underlying45 rfl (by rw [HXS.out]; rfl)) rfl ?_
        unfold ROpenSays
        rw [if_pos HEC.out.symm, HKL.out]
        refine ⟨r', E1, f1, E2, f2, B, cc, A, d, by rw [← HY.out, HRK.out, ← HXL.out]; rfl, HR4.out.fr HF6.out hnp, HM3.out, HT3.out, ?_, ?_, HN4.out.fr HF6.out (fun j hj => by have := HLW.out; omega)⟩
        · rw [HRK.out]
          exact HLI4.out.fr HF6.out (fun j hj => (hnt j hj).1)
        · rw [HRK.out]
          exact HRC4.out.fr HF6.out (fun j hj _ => hnt j hj)
      · have H0 := Lib.hid h0
        have hcb : (ec != 0) = true := by simp [h0]
        have hbuild : ∀ w, (Instr.build 45 #[]).run Tryd.prog w = .ok (.agg rl0) w := fun _ => by kernel_rfl
        clear h0
        go_wp2_with (first
          | ((with_reducible refine atOp ⟨some 77, .load _ _, _, _, _, _⟩ ?_); refine wpList_load_any rfl _ rfl Tryd.underlying32 rfl (by rw [HYS.out]; rfl) rfl HB44.out ?_)
          | ((with_reducible refine atOp ⟨none, .store 32 (.tmp 8) _, _, _, _, _⟩ ?_); refine wpList_store_any rfl (.tmp 8) (.tmp 77) rfl (by rw [HYS.out]; rfl) rfl rfl HB84.out (by rw [HYS.out]; rfl) HYA.out ?_; intro w5 hb5 hf5; have HB85 := Lib.hid hb5; have HF5 := Lib.hid hf5; have HB95 : Hid (Blk w5 b9 45 rl0) := Lib.hid (HB94.out.fr hf5 (by have := HLW.out; omega)); clear hb5 hf5)
          | ((with_reducible refine atOp ⟨none, .store 45 (.tmp 9) _, _, _, _, _⟩ ?_); refine wpList_store_any rfl (.tmp 9) (.tmp 78) rfl (cs := rl0) rfl rfl rfl HB95.out rfl (by simp [rl0, Value.oneCell']) ?_; intro w6 hb6 hf6; have HB96 := Lib.hid hb6; have HF6 := Lib.hid hf6; clear hb6 hf6))
        have hnp : ∀ j, (j = b8 ∨ j = b9) → ¬ IsT 92 w4 j := fun j hj => by
          rcases hj with rfl | rfl
          · exact IsT.not_blk HB84.out (by decide)
          · exact IsT.not_blk HB94.out (by decide)
        have HF46 : Fr (fun j => j = b8 ∨ j = b9) w4 w6 := (HF5.out.mono (fun j _ hj => .inl hj)).trans (HF6.out.mono (fun j _ hj => .inr hj))
        refine bodyPost_ret (results_row4 rfl _ _ b8 b9 _ _ _ _ rfl (HB85.out.fr HF6.out (by have := HLW.out; omega)) Tryd.underlying32 rfl (by rw [HYS.out]; rfl) rfl HB96.out Tryd.underlying45 rfl rfl) rfl ?_
        unfold ROpenSays
        rw [if_neg (by rw [← HEC.out]; exact H0.out)]
        exact ⟨r', E1, f1, E2, f2, by rw [← HY.out, ← HEC.out]; rfl, HR4.out.fr HF46 hnp, HM3.out, HT3.out, HN4.out.fr HF46 (fun j hj => by have := HLW.out; omega)⟩
    | some bd =>
      have HNX := Lib.hid hn
      rw [hn] at HNX1
      have HLEN := Lib.hid (runs_used HOK.out.1 HI.out.len hn)
      have hks : k + 1 ≤ 16384 := by
        have h6 := (runs_ok HOK.out.1 HOK.out.2 (k + 1)).1.used
        have h7 := (runs_ok HOK.out.1 HOK.out.2 (k + 1)).2.1
        have := HLEN.out.2
        have := HLZ.out
        omega
      have hkl : (runs p l0 k).2.length = k := HI.out.len.1
      have HKL := Lib.hid hkl
      obtain ⟨vs, hvs1, hvs2⟩ := HI.out.recs.row
      rw [hkl] at hvs1
      have HVS := Lib.hid (And.intro hvs1 hvs2)
      have HST : Hid (runs p l0 (k + 1) = ((runs p l0 k).1.step bd, (runs p l0 k).2 ++ [bd])) := Lib.hid (runs_some hn)
      have hub : (runs p l0 k).1.used + secN bd.length ≤ 20000 := by
        have h6 := (runs_ok HOK.out.1 HOK.out.2 (k + 1)).1.used
        have h7 := (runs_ok HOK.out.1 HOK.out.2 (k + 1)).2.1
        have h8 := HLZ.out
        have h9 : (runs p l0 (k + 1)).1.used = (runs p l0 k).1.used + secN bd.length := by rw [HST.out]; rfl
        omega
      have HBLEN : Hid (bd.length ≤ 65536) := Lib.hid (by
        obtain ⟨hx, hb⟩ := nextL_eq hn
        have h1 := LG.body_len HOK.out.1 hx.pos
        have h2 := secN_pos hx.pos
        rw [hb, h1]
        omega)
      obtain ⟨us, hus⟩ : ∃ us, us = (runs p l0 k).1.used := ⟨_, rfl⟩
      obtain ⟨sn, hsn⟩ : ∃ sn, sn = secN bd.length := ⟨_, rfl⟩
      obtain ⟨u2, hu2⟩ : ∃ u2, u2 = us + sn := ⟨_, rfl⟩
      have g1 : (us : Int) + (sn : Int) = (u2 : Int) := by omega
      have g2 : IntKind.i64.wrap (u2 : Int) = (u2 : Int) := IntWalk.i64_in _ (by omega)
      have HU : Hid (us = (runs p l0 k).1.used ∧ sn = secN bd.length ∧ u2 = (runs p l0 (k + 1)).1.used) := Lib.hid ⟨hus, hsn, by rw [HST.out]; show u2 = (runs p l0 k).1.used + secN bd.length; omega⟩
      have HGE : Hid ((runs p l0 k).1.gen = c) := Lib.hid (by rw [(runs_ok HOK.out.1 HOK.out.2 k).2.2.2.1, HLE.out]; rfl)
      clear hn hkl hvs1 hvs2 hub hus hsn hu2
      have c4 : ∀ W, New wr W → W.cell? ⟨b12, 4, none⟩ = some (.slice B 16 cc) := fun W hN => by rw [(hN.blk HB12r.out).cell, HXL.out]; rfl
      have HC4 := Lib.hid c4
      clear c4
      go_wp2_with (first
        | ((with_reducible refine atOp ⟨some 47, .load _ _, _, _, _, _⟩ ?_); refine wpList_load_any rfl _ rfl Tryd.underlying32 rfl (by rw [HX0.out.2.1]; rfl) rfl HB4r.out ?_)
        | ((with_reducible refine atOp ⟨some 48, .load _ _, _, _, _, _⟩ ?_); refine wpList_load_any rfl _ rfl Tryd.underlying45 rfl (by rw [HXS.out]; rfl) rfl HB12r.out ?_))
      refine HNX1.out.mono ?_
      rintro e w2 ⟨gb, ob, cb, rfl, hb1, hb2, hb3, hR2, hN2⟩
      have HN2 := Lib.hid hN2
      have HRB := Lib.hid hR2
      have HBY := Lib.hid hb3
      have HBC := Lib.hid (And.intro hb1 hb2)
      obtain ⟨bl, hbl⟩ : ∃ bl, bl = bd.length := ⟨_, rfl⟩
      rw [← hbl] at HRB HBC HBLEN ⊢
      have HBL := Lib.hid hbl
      have hen := fun w => Lib.run_eql_slice_nil (P := Tryd.prog) w 43 5 (some ⟨gb, ob, none⟩) bl cb 0 0 Tryd.underlying43
      have c42 := HC4.out w2 HN2.out
      have HTG : Hid (Calls Tryd.prog 43 #[.slice B 16 cc, .int .u32 c, .slice (some ⟨gb, ob, none⟩) bl cb] w2 fun e w' => (∃ A c9, e = .returned (.slice A 16 c9) ∧ w'.ownsRow w2.heap.size 5 1 (.slice A 16 c9) 16 (u8s (tagL (runs p l0 k).1.tag c bd))) ∧ New w2 w') := Lib.hid (by
        have h := rtag_any (p := IsT 5 w2) B cc (runs p l0 k).1.tag c (some ⟨gb, ob, none⟩) bl cb bd w2 (HL.out.new ((HN0.out.tr HNr.out).tr HN2.out)) (HLI.out.new HN2.out).tag HLI.out.byt HRB.out HBY.out HCG.out (by have := HBLEN.out; omega)
        exact h)
      clear hb1 hb2 hb3 hR2 hN2 hbl
      go_wp2_with fail
      refine HTG.out.mono ?_
      rintro e w3 ⟨⟨B3, c3, rfl, hO3⟩, hN3⟩
      have HO3 := Lib.hid hO3
      have HN3 : Hid (New wr w3) := Lib.hid (HN2.out.tr hN3)
      have HB123 : Hid (Blk w3 b12 45 XL) := Lib.hid (HN3.out.blk HB12r.out)
      have HRB3 : Hid (Rd (RB wr.heap.size w3) w3 1 (some ⟨gb, ob, none⟩) bl (u8s bd)) := Lib.hid (HRB.out.frT (S := NoB) (hN3.toFr _) (fun _ x => x.elim))
      have f43 : w3.frozen? ⟨b12, 4, none⟩ = false := HB123.out.frozen 4
      have c43 := HC4.out w3 HN3.out
      clear hO3 hN3 c42
      go_upto_region 8 with fail
      obtain ⟨w4, hw4⟩ : ∃ w4, w4 = w3.setCell ⟨b12, 4, none⟩ (.slice B3 16 c3) := ⟨_, rfl⟩
      have HB124 : Hid (Blk w4 b12 45 (XL.setIfInBounds 4 (.slice B3 16 c3))) := Lib.hid (by rw [hw4]; exact HB123.out.set 4 _)
      have HF4 : Hid (Fr (fun j => j = b12) wr w4) := Lib.hid (by rw [hw4]; exact Fr.setCell (S := fun j => j = b12) (p := ⟨b12, 4, none⟩) (HN3.out.toFr _) (fun _ => rfl) _)
      have HF34 : Hid (Fr (fun j => j = b12) w3 w4) := Lib.hid (by rw [hw4]; exact Fr.setCell (S := fun j => j = b12) (p := ⟨b12, 4, none⟩) (Fr.refl _ _) (fun _ => rfl) _)
      rw [← hw4]
      clear hw4 c43 f43
      have HO4 : Hid (w4.ownsRow w2.heap.size 5 1 (.slice B3 16 c3) 16 (u8s (tagL (runs p l0 k).1.tag c bd))) := Lib.hid (own_fr HO3.out HF34.out (fun j hj hs => own_ne HO3.out HB123.out (by decide) (hs ▸ hj)))
      have HRB4 : Hid (Rd (RB wr.heap.size w4) w4 1 (some ⟨gb, ob, none⟩) bl (u8s bd)) := Lib.hid (HRB3.out.frT HF34.out (fun j hj _ => by
        have hj' : j = b12 := hj
        rw [hj']
        exact IsT.not_blk HB123.out (by decide)))
      have HX4 : Hid (XL.setIfInBounds 4 (.slice B3 16 c3) = rlV { (runs p l0 k).1 with tag := tagL (runs p l0 k).1.tag c bd } B3 c3) := Lib.hid (by rw [HXL.out]; rfl)
      have c24 : ∀ W, New w4 W → W.cell? ⟨b12, 2, none⟩ = some (.int .i64 us) := fun W hN => by rw [(hN.blk HB124.out).cell, HX4.out, HU.out.1]; rfl
      have HC2 := Lib.hid c24
      have q2 : ∀ p : HW (New w4), p.w.cell? ⟨b12, 2, none⟩ = some (.int .i64 us) := fun p => HC2.out p.w p.h
      clear c24
      have hbl0 : 0 ≤ (bl : Int) := by omega
      refine wp_region_mix (New w4) 7 [(true, 0), (true, 1), (true, 2), (true, 3), (false, 4), (true, 5), (true, 6), (false, 7)] (by kernel_rfl) (by kernel_rfl) (New.dr (New.refl w4)) (fun hne => ?_)
      iterate 4 (refine mix_take (o := ⟨_, _, _, _, _, _⟩) rfl (fun K hK => ?_); go_simp; refine hK _ ?_; clear hK K)
      refine mix_act (o := ⟨_, _, _, _, _, _⟩) rfl (fun K hK => ?_) (.inl rfl)
      go_simp
      refine (rsectors_any (bl : Int) w4.drew).mono ?_
      rintro e w5 ⟨rfl, hw5⟩
      rw [secs_N, HBL.out, ← HU.out.2.1, ← HBL.out]
      have HN5 : Hid (New w4 w5) := Lib.hid (by rw [← hw5]; exact New.dr (New.refl w4))
      clear hw5
      go_simp
      refine hK.out _ _ (fun _ => HN5.out) ?_
      clear hK K
      iterate 2 (refine mix_take (o := ⟨_, _, _, _, _, _⟩) rfl (fun K hK => ?_); go_simp; refine hK _ ?_; clear hK K)
      have c25 := HC2.out w5 HN5.out
      have f25 : w5.frozen? ⟨b12, 2, none⟩ = false := (HN5.out.blk HB124.out).frozen 2
      refine mix_act (o := ⟨_, _, _, _, _, _⟩) rfl (fun K hK => ?_) (.inl rfl)
      go_simp
      refine hK.out _ _ (fun h => absurd rfl h) ?_
      clear hK K c25 f25 q2
      obtain ⟨w6, hw6⟩ : ∃ w6, w6 = w5.setCell ⟨b12, 2, none⟩ (.int .i64 u2) := ⟨_, rfl⟩
      have HB126 : Hid (Blk w6 b12 45 (rlV (runs p l0 (k + 1)).1 B3 c3)) := Lib.hid (by
        rw [hw6]
        have h := (HN5.out.blk HB124.out).set 2 (.int .i64 u2)
        rw [HX4.out] at h
        have e : (rlV { (runs p l0 k).1 with tag := tagL (runs p l0 k).1.tag c bd } B3 c3).setIfInBounds 2 (.int .i64 u2) = rlV (runs p l0 (k + 1)).1 B3 c3 := by
          rw [HU.out.2.2, HST.out]
          rfl
        rw [e] at h
        exact h)
      have HF6 : Hid (Fr (fun j => j = b12) w4 w6) := Lib.hid (by rw [hw6]; exact Fr.setCell (S := fun j => j = b12) (p := ⟨b12, 2, none⟩) (HN5.out.toFr _) (fun _ => rfl) _)
      rw [← hw6]
      clear hw6 hbl0
      refine mix_done ?_
      have hnb : ∀ j, j = b12 → ¬ IsT 5 w4 j ∧ ¬ IsT 43 w4 j := fun j hj => by
        rw [hj]
        exact ⟨IsT.not_blk HB124.out (by decide), IsT.not_blk HB124.out (by decide)⟩
      have HO6 : Hid (w6.ownsRow w2.heap.size 5 1 (.slice B3 16 c3) 16 (u8s (tagL (runs p l0 k).1.tag c bd))) := Lib.hid (own_fr HO4.out HF6.out (fun j hj hs => (hnb j hs).1 (own_isT' HO4.out hj)))
      have HRB6 : Hid (Rd (RB wr.heap.size w6) w6 1 (some ⟨gb, ob, none⟩) bl (u8s bd)) := Lib.hid (HRB4.out.frT HF6.out (fun j hj _ => (hnb j hj).1))
      have HFW6 : Hid (Fr (fun j => j = b12) wr w6) := Lib.hid (HF4.out.trans HF6.out)
      have hnb2 : ∀ j, j = b12 → ¬ IsT 5 wr j ∧ ¬ IsT 43 wr j := fun j hj => by
        rw [hj]
        exact ⟨IsT.not_blk HB12r.out (by decide), IsT.not_blk HB12r.out (by decide)⟩
      have HVS6 : Hid (w6.ownsRow W0.heap.size 43 1 (.slice A k d) k vs ∧ ∀ (i : Nat) l, (runs p l0 k).2[i]? = some l → ∃ A c, vs[i]? = some (.slice A l.length c) ∧ l.length ≤ c ∧ c ≤ maxLen ∧ Byt l ∧ Rd (RB W0.heap.size w6) w6 1 A l.length (u8s l)) := Lib.hid ⟨own_fr HVS.out.1 HFW6.out (fun j hj hs => (hnb2 j hs).2 (own_isT' HVS.out.1 hj)), fun i l hl => by
        obtain ⟨A', c', x1, x2, x3, x4, x5⟩ := HVS.out.2 i l hl
        exact ⟨A', c', x1, x2, x3, x4, x5.frT HFW6.out (fun j hj _ => (hnb2 j hj).1)⟩⟩
      have HW6 : Hid (W0.heap.size ≤ w6.heap.size ∧ W0.heap.size ≤ wr.heap.size) := Lib.hid ⟨Nat.le_trans HI.out.fr.size HFW6.out.size, HI.out.fr.size⟩
      clear hnb hnb2 g1 g2
      go_wp2_with ((with_reducible refine atOp ⟨some 68, _, _, _, _, _⟩ ?_); refine wpList_app elBs _ rfl (.tmp 65) (.tmp 67) rfl W0.heap.size (.slice A k d) k vs rfl (New.own (New.al (New.refl w6) _) HVS6.out.1) (some ⟨w6.heap.size, 0, none⟩) 1 1 [.slice (some ⟨gb, ob, none⟩) bl cb] rfl (Rd.ofBlk (p := fun _ => True) (Blk.new w6 43 #[.slice (some ⟨gb, ob, none⟩) bl cb]) 1 1 rfl trivial) (by simp [Value.oneCell']) (by unfold maxLen; omega) (by omega) (by have := HW6.out.1; simp; omega) ?_; intro A8 d8 w8 hO8 hF8 hA8; have HF8 := Lib.hid hF8; have HO8 := Lib.hid hO8; clear hO8 hF8 hA8)
      have HNal : Hid (New w6 (w6.alloc (.cells #[.slice (some ⟨gb, ob, none⟩) bl cb] 43))) := Lib.hid (New.al (New.refl w6) _)
      have HRC8 : Hid (Recs W0.heap.size w8 (.slice A8 (k + 1) d8) (runs p l0 (k + 1)).2) := Lib.hid (by
        rw [HST.out]
        exact Recs.push (l := bd) (A2 := some ⟨gb, ob, none⟩) (c2 := cb) ⟨New.own HNal.out HVS6.out.1, fun i l hl => by
          obtain ⟨A', c', x1, x2, x3, x4, x5⟩ := HVS6.out.2 i l hl
          exact ⟨A', c', x1, x2, x3, x4, x5.frT (S := NoB) (HNal.out.toFr _) (fun _ x => x.elim)⟩⟩ HKL.out.symm (by rw [← HBL.out]; exact HO8.out) HF8.out (by rw [← HBL.out]; exact HBC.out) HBY.out (by
            rw [← HBL.out]
            exact (HRB6.out.frT (S := NoB) (HNal.out.toFr _) (fun _ x => x.elim)).imp (fun j hj => ⟨Nat.le_trans HW6.out.2 hj.1, hj.2⟩)))
      have hno : ∀ j, (Value.slice A k d).ownBlock = some j → W0.heap.size ≤ j := fun j hj => (own_lt HVS6.out.1 j hj).1
      have HF8' : Hid (Fr (fun j => j = b12) W0 w8) := Lib.hid (((HI.out.fr.trans HFW6.out).trans (HNal.out.toFr _)).trans' HF8.out (fun j hj hs => by have := hno j hs; omega))
      have HB128 : Hid (Blk w8 b12 45 (rlV (runs p l0 (k + 1)).1 B3 c3)) := Lib.hid ((HNal.out.blk HB126.out).fr HF8.out (fun hs => by have := hno b12 hs; have := HL12.out; omega))
      have HLI8 : Hid (RlIn w8 (runs p l0 (k + 1)).1 B3) := Lib.hid ⟨by
        have e : (runs p l0 (k + 1)).1.tag = tagL (runs p l0 k).1.tag c bd := by rw [HST.out]; show tagL _ _ _ = _; rw [HGE.out]
        rw [e]
        have h := RdT.own HO6.out rfl
        exact (h.new HNal.out).fr HF8.out (fun j hj => IsT.not_own (HNal.out.own HVS6.out.1) (by decide) hj), (runs_ok HOK.out.1 HOK.out.2 (k + 1)).1.byt, (runs_ok HOK.out.1 HOK.out.2 (k + 1)).1.gen, runs_num HOK.out.1 HOK.out.2 HOK.out.1.s2 (k + 1)⟩
      have HRO8 : Hid (RoI W0 w8 p l0 b12 (k + 1) (.slice A8 (k + 1) d8) (rlV (runs p l0 (k + 1)).1 B3 c3)) := Lib.hid ⟨HF8'.out, HRC8.out, HLEN.out, ⟨B3, c3, rfl, HLI8.out⟩, HB128.out⟩
      clear hno
      go_roundw
      case rel => exact ⟨k + 1, A8, d8, _, hks, rfl, HRO8⟩
      case measure => simp; omega
end Go.Proofs.YteeclfejgpgooaaDoor
