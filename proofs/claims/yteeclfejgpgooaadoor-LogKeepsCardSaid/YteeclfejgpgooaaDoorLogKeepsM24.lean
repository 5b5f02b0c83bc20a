/- Texts of one proof, one behind the other: LkK, LkL. No condition but each one's own. -/
import Derived.Test.YteeclfejgpgooaaDoorLogKeepsM22
import Derived.Test.YteeclfejgpgooaaDoorLogKeepsM23
import Derived.Test.YteeclfejgpgooaaDoorLogKeepsM11
import Derived.Deep.CutRange
import Derived.Deep.CutBlock
/- LogKeeps, walked. sha's tables are as they were laid. No condition else. -/
namespace Go.Proofs.YteeclfejgpgooaaDoor
set_option linter.unusedVariables false
set_option linter.unusedSimpArgs false
set_option linter.constructorNameAsVariable false
open Go.RowKit Go.Sort

/-- The log, its disk, and the records that are known. -/
structure KpI (W w : World) (sz gd gl : Nat) (p : DP) (l : LG) (K : List (List Int)) (su : Nat) (kv : Value) : Prop where
  lg : Lgl W w gd gl p l
  st : St p l (lg0 0 sz 7) K su
  kn : RecsK W.heap.size w kv K
  sz : p.size = sz
theorem KpI.new {W w w' : World} {sz gd gl : Nat} {p : DP} {l : LG} {K : List (List Int)} {su : Nat} {kv : Value} (h : KpI W w sz gd gl p l K su kv) (hN : New w w') : KpI W w' sz gd gl p l K su kv := ⟨h.lg.new hN, h.st, h.kn.new hN, h.sz⟩
theorem appL_size (p : DP) (l : LG) (b : List Int) : (appL p l b).1.size = p.size := by
  unfold appL
  split
  · rfl
  split
  · rfl
  split
  · rfl
  simp only
  split
  · exact writeN_size _ _ _ _
  · exact writeN_size _ _ _ _
theorem New.isT {t : Nat} {w w' : World} {k : Nat} (hN : New w w') (h : IsT t w k) : IsT t w' k := h.fr (hN.toFr NoB) (fun x => x)
/-- A row of texts that grew leaves the log alone. -/
theorem lgl_own {W w w' : World} {gd gl base t n : Nat} {v : Value} {vs : List Value} {p : DP} {l : LG} (h : Lgl W w gd gl p l) (ho : w.ownsRow base t 1 v n vs) (h1 : t ≠ 3) (h2 : t ≠ 100 ∧ t ≠ 88) (hF : Fr (fun k => v.ownBlock = some k) w w') (hb : W.heap.size ≤ base := by exact Nat.le_refl _) : Lgl W w' gd gl p l := by
  obtain ⟨bs, bf, v0, k1, k2, k3, k4⟩ := h
  refine ⟨bs, bf, v0, k1.fr hF (fun k hk hs => ?_), k2.fr hF (fun hs => own_ne ho k2.blk h2.1 hs), k3, k4.fr hF (fun k hk => Nat.le_trans hb (own_lt ho k hk).1)⟩
  rcases hs with rfl | rfl | rfl | hs
  · exact own_ne ho k1.blk h2.2 hk
  · exact IsT.not_map k1.ms (own_isT' ho hk)
  · exact IsT.not_map k1.mw (own_isT' ho hk)
  · exact IsT.not_own k1.own (fun e => h1 e.symm) hs (own_isT' ho hk)
set_option maxHeartbeats 2000000
set_option maxRecDepth 100000
theorem keeps_main (a : Int) (A : Option Addr) (m c : Nat) (L : List AK) (W : World) (hL : ShaIn 3 2 W) (hm : m ≤ maxLen) (hS : Rd (fun b => b < W.heap.size) W 4 A m (L.flatMap AK.cells)) (hl : L.length = m) (hg : ∀ x ∈ L, x.Good W) :
    Calls Tryd.prog 5 #[.int .i64 a, .slice A m c] W fun e w' => e = .returned (.bool true) ∧ New W w' := by
  have HL := Lib.hid hL
  have HS := Lib.hid hS
  have HLL := Lib.hid hl
  have HG := Lib.hid hg
  have HLO := Lib.hid (long_law A m c L W hS hl hm (fun x hx => (hg x hx).nn))
  obtain ⟨r, hr⟩ : ∃ r : Nat, (IntKind.u64.wrap a).tmod 40 = (r : Int) := ⟨((IntKind.u64.wrap a).tmod 40).toNat, by
    have h0 : 0 ≤ IntKind.u64.wrap a := by rw [IntKind.wrap_u64]; omega
    have h1 : 0 ≤ (IntKind.u64.wrap a).tmod 40 := Int.tmod_nonneg _ h0
    omega⟩
  have hr40 : r < 40 := by
    have h1 : (IntKind.u64.wrap a).tmod 40 < 40 := Int.tmod_lt_of_pos _ (by decide)
    omega
  obtain ⟨sz, hsz⟩ : ∃ sz, sz = r + 1 := ⟨_, rfl⟩
  have w1 : IntKind.i64.wrap (r : Int) = (r : Int) := IntWalk.i64_in _ (by omega)
  have w2 : IntKind.i64.wrap (sz : Int) = (sz : Int) := IntWalk.i64_in _ (by omega)
  have w3 : (1 : Int) + (r : Int) = (sz : Int) := by omega
  have HSZ : Hid (1 ≤ sz ∧ sz ≤ 40) := Lib.hid (by omega)
  clear hL hm hS hl hg hr40 hsz
  go_enter Tryd.func5, Tryd.ntmps5
  go_wp2_with fail
  refine (alive_any W).mono ?_
  rintro e w1 ⟨rfl, rfl⟩
  go_wp2_with fail
  refine HLO.out.mono ?_
  rintro e w4 ⟨⟨lb, rfl, hlb⟩, hN4⟩
  have HN4 := Lib.hid hN4
  have HLB := Lib.hid hlb
  clear hN4 hlb HLO
  rcases lb with _ | _
  rotate_left
  · go_wp2_with fail
    go_ret
    exact ⟨rfl, HN4.out⟩
  have HM : Hid (m ≤ 30) := Lib.hid (HLB.out rfl)
  clear HLB
  go_wp2_with fail
  refine (dnew_l HN4.out sz HSZ.out.1 (by have := HSZ.out; omega)).mono ?_
  rintro e w5 ⟨gd, rfl, hD, -⟩
  have HD := Lib.hid hD
  clear hD HN4
  obtain ⟨j0, q0, l0, hj0, hj1, ho0, hst0, hz0⟩ := raw_open (raw_new (g := 7) HSZ.out.1 (by have := HSZ.out; omega) (by decide) (by decide)) rfl HSZ.out.1 rfl (by decide)
  have hj00 : j0 = 0 := by simpa using hj1
  subst hj00
  have HST0 := Lib.hid hst0
  have HZ0 := Lib.hid hz0
  have HOP := Lib.hid (open_l HD.out HL.out 0 sz 7 (by decide) (WalkArith.wf_i64 (by have := HSZ.out; omega)) (by omega) ho0 hz0)
  clear hst0 hz0 ho0 hj0 hj1
  go_wp2_with fail
  refine HOP.out.mono ?_
  rintro e w6 ⟨gl, A6, c6, rfl, hLg, hR6, hK6⟩
  have HI0 : Hid (KpI W w6 sz gd gl q0 l0 [] 0 (.slice none 0 0)) := Lib.hid ⟨hLg, HST0.out, RecsK.nil _ _, HZ0.out⟩
  clear hLg hR6 hK6 HOP HST0 HZ0 HD
  have e60 : ((([] : List (List Int)).take 0).length : Nat) = 0 := rfl
  rw [e60]
  go_wp2_with fail
  go_loopw [45, 7, 9, 10] (fun i lv kv0 sv wr => ∃ (j : Nat) (gl : Nat) (p : DP) (l : LG) (K : List (List Int)) (su : Nat) (kv : Value), Hid (j ≤ m) ∧ i = .int .i64 (j : Int) ∧ lv = .pointer (some ⟨gl, 0, none⟩) ∧ sv = .int .i64 (su : Int) ∧ kv = kv0 ∧ Hid (K.length ≤ j) ∧ Hid (KpI W wr sz gd gl p l K su kv)) (fun i _ _ _ _ => m - (intOf i).toNat)
  case atStart => exact ⟨0, gl, q0, l0, [], 0, _, Lib.hid (Nat.zero_le _), rfl, rfl, rfl, rfl, Lib.hid (Nat.le_refl _), HI0⟩
  case round =>
    clear HI0 w1 w2 w3 hr
    obtain ⟨j, gl, p, l, K, su, kv, HJ, rfl, rfl, rfl, rfl, HKL, HI⟩ := hrel
    by_cases hj : j < m
    · have hlt : (j : Int) < (m : Int) := by omega
      have hj0 : (0 : Int) ≤ (j : Int) := by omega
      have HJ2 := Lib.hid hj
      have e1 : IntKind.i64.wrap ((j : Int) + 1) = (j : Int) + 1 := IntWalk.i64_in _ (by have := HM.out; omega)
      obtain ⟨g, o, hl, rfl, -, -, hrg⟩ := rd_row (f := AK.cells) (L := L) (fun _ => rfl) (by omega) (HI.out.lg.nw.rd HS.out) hj
      have c0 : wr.cell? ⟨g, o + j * 4, none⟩ = some (.int .i64 L[j].kind) := hrg 0 _ rfl
      have c1 := hrg 1 _ rfl
      have c2 := hrg 2 _ rfl
      have c3 := hrg 3 _ rfl
      have HXG : Hid (L[j].Good W) := Lib.hid (HG.out _ (List.getElem_mem _))
      generalize L[j] = x at c0 c1 c2 c3 HXG
      obtain ⟨kd, nm, xA, xn, xc, xs, yA, yn, yc, ys⟩ := x
      dsimp only at c0 c1 c2 c3
      clear hj hrg hl
      go_upto_region 17 with fail
      obtain ⟨w7, hw7⟩ : ∃ w7 : World, w7 = wr.alloc (.cells #[.int .i64 kd, .int .i64 nm, .slice xA xn xc, .slice yA yn yc] 73) := ⟨_, rfl⟩
      obtain ⟨b12, hb12⟩ : ∃ b12, b12 = wr.heap.size := ⟨_, rfl⟩
      have HI7 : Hid (KpI W w7 sz gd gl p l K su kv) := Lib.hid (HI.out.new (by rw [hw7]; exact New.al (New.refl _) _))
      have HB12 : Hid (Blk w7 b12 73 #[.int .i64 kd, .int .i64 nm, .slice xA xn xc, .slice yA yn yc]) := Lib.hid (by rw [hw7, hb12]; exact Blk.new _ _ _)
      rw [← hw7, ← hb12]
      clear hw7 hb12 HI c0 c1 c2 c3
      have x0 : w7.cell? ⟨b12, 0, none⟩ = some (.int .i64 kd) := HB12.out.cell 0
      have x1 : w7.cell? ⟨b12, 1, none⟩ = some (.int .i64 nm) := HB12.out.cell 1
      have x2 : w7.cell? ⟨b12, 2, none⟩ = some (.slice xA xn xc) := HB12.out.cell 2
      have x3 : w7.cell? ⟨b12, 3, none⟩ = some (.slice yA yn yc) := HB12.out.cell 3
      by_cases h100 : 100 < yn
      · have hq1 : decide ((100 : Int) < (yn : Int)) = true := decide_eq_true (by omega)
        have hq3 : (100 : Int) < (yn : Int) := by omega
        clear h100
        go_wp2_with fail
        go_ret
        exact ⟨rfl, HI7.out.lg.nw⟩
      have hq1 : decide ((100 : Int) < (yn : Int)) = false := decide_eq_false (by omega)
      have hq3 : ¬ ((100 : Int) < (yn : Int)) := by omega
      clear h100
      go_upto_block 2 with fail
      obtain ⟨q, hq⟩ : ∃ q, q = (IntKind.u64.wrap kd).tmod 7 := ⟨_, rfl⟩
      rw [← hq]
      clear hq hq1 hq3
      by_cases h3 : q = 3
      · subst h3
        go_wp2_with fail
        refine (sync_l HI7.out.lg).mono ?_
        rintro e w8 ⟨rfl, hLg, hK⟩
        obtain ⟨sc, hsc⟩ : ∃ sc, sc = p.scode := ⟨_, rfl⟩
        rw [← hsc]
        have hst := HI7.out.st.sync
        rw [← hsc] at hst
        obtain ⟨A9, c9, hkv, hcm, hlc⟩ := HI7.out.kn.shape
        have HKN : Hid (RecsK W.heap.size w8 kv K) := Lib.hid (HI7.out.kn.kpl hK)
        have HLg := Lib.hid hLg
        have HZ : Hid (p.doSync.size = sz) := Lib.hid ((DP.doSync_size p).trans HI7.out.sz)
        clear hLg hK hsc x0 x1 x2 x3 HB12 HI7
        rcases hst with ⟨h0, hst⟩ | ⟨h0, hst⟩
        · have HST := Lib.hid hst
          clear hst
          rw [h0, errD_0]
          subst hkv
          clear h0
          go_wp2_with fail
          go_roundw
          case rel => exact ⟨j + 1, gl, p.doSync, l, K, K.length, _, Lib.hid (by have := HJ2.out; omega), by go_num, rfl, rfl, rfl, Lib.hid (Nat.le_succ_of_le HKL.out), Lib.hid (⟨HLg.out, HST.out, HKN.out, HZ.out⟩)⟩
          case measure => simp [intOf]; have := HJ2.out; omega
        · have HST := Lib.hid hst
          rw [errD_n h0]
          clear hst h0 hkv
          go_wp2_with fail
          go_roundw
          case rel => exact ⟨j + 1, gl, p.doSync, l, K, su, _, Lib.hid (by have := HJ2.out; omega), by go_num, rfl, rfl, rfl, Lib.hid (Nat.le_succ_of_le HKL.out), Lib.hid (⟨HLg.out, HST.out, HKN.out, HZ.out⟩)⟩
          case measure => simp [intOf]; have := HJ2.out; omega
      · have hz3 : decide (q = 3) = false := decide_eq_false h3
        by_cases h4 : q = 4
        · subst h4
          go_wp2_with fail
          refine (cut_l HI7.out.lg.dkl yA yn yc ys (HI7.out.lg.nw.rd HXG.out.rd2) HXG.out.n2 (fun k hk => hk)).mono ?_
          rintro e w8 ⟨rfl, hD, hK⟩
          obtain ⟨bb, mm, T, hraw⟩ := HI7.out.st.raw ys
          obtain ⟨j1, q2, l2, hj1, hj2, ho, hst, hz⟩ := raw_open hraw rfl HSZ.out.1 (show (p.cut ys).size = sz from HI7.out.sz) (by decide)
          have HKN8 : Hid (RecsK W.heap.size w8 kv K) := Lib.hid (HI7.out.kn.kpl hK)
          have HOP := Lib.hid (open_l hD HL.out 0 sz 7 (by decide) (WalkArith.wf_i64 (by have := HSZ.out; omega)) (by omega) ho (hz.trans (show (p.cut ys).size = sz from HI7.out.sz).symm))
          have HST := Lib.hid hst
          have HZ := Lib.hid hz
          have HN8 : Hid (New W w8) := Lib.hid hD.nw
          clear hD hK hraw ho hst hz HI7 HB12 x0 x1 x2 x3
          go_wp2_with fail
          refine HOP.out.mono ?_
          rintro e w9 ⟨gl9, A9, c9, rfl, hLg, hR9, hK9⟩
          have hlen : (K.take j1).length = j1 := by rw [List.length_take]; omega
          obtain ⟨vs, hvs, hve⟩ := (hR9.base HN8.out.size).row
          rw [hlen] at hvs hR9 ⊢
          have HKN9 : Hid (RecsK W.heap.size w9 kv K) := Lib.hid (HKN8.out.kpl hK9)
          obtain ⟨Ak, ck, hkv, hcm, hlc⟩ := HKN9.out.shape
          obtain ⟨kn, hkn⟩ : ∃ kn, kn = K.length := ⟨_, rfl⟩
          have HKNE := Lib.hid hkn
          rw [← hkn] at hkv hlc hj2
          subst hkv
          have HLg := Lib.hid hLg
          have HVS := Lib.hid hvs
          have HVE := Lib.hid hve
          have HVL : Hid (vs.length = j1) := Lib.hid (by have := hvs.1; omega)
          have HV1 : Hid (∀ u ∈ vs, u.oneCell' = true) := Lib.hid (fun u hu => by
            obtain ⟨i, hi, rfl⟩ := List.mem_iff_getElem.1 hu
            have h2 : i < (K.take j1).length := by rw [hlen]; have := HVL.out; omega
            obtain ⟨A', c', h1, -⟩ := hve i _ (List.getElem?_eq_getElem h2)
            rw [List.getElem?_eq_getElem hi] at h1
            injection h1 with h1
            rw [h1]
            rfl)
          have hrw := (rows_any0 (n := j1) (n2 := j1) c9 ck (hR9.row0 hlen.symm) ((HKN9.out.row0 (by rw [hkn])).take j1) hlen.symm hlen.symm (by have := HKL.out; have := HM.out; have := HJ2.out; omega) (by have := HKL.out; have := HM.out; have := HJ2.out; omega))
          rw [show decide (K.take j1 = K.take j1) = true from by simp] at hrw
          have HRW := Lib.hid hrw
          have HJJ : Hid (j1 ≤ kn ∧ kn ≤ j ∧ j1 < 100 ∧ ck ≤ maxLen) := Lib.hid ⟨hj2, by have := HKL.out; omega, by have := HKL.out; have := HM.out; have := HJ2.out; omega, hcm⟩
          have d1 : ¬ ((j1 : Int) < (su : Int)) := by omega
          have d2 : ¬ ((kn : Int) < (j1 : Int)) := by omega
          have d3 : (j1 : Int) ≤ (ck : Int) := by omega
          have d4 : decide ((j1 : Int) < (su : Int)) = false := decide_eq_false d1
          have d5 : decide ((kn : Int) < (j1 : Int)) = false := decide_eq_false d2
          have d6 : (0 : Int) ≤ (j1 : Int) := by omega
          clear hLg hR9 hK9 hvs hve hlen hkn hrw hcm hlc hj1 hj2 HOP HN8 HKN8
          go_wp2_with fail
          refine HRW.out.mono ?_
          rintro e w10 ⟨rfl, hN10⟩
          have HN10 := Lib.hid hN10
          have HNW : Hid (New W w10) := Lib.hid (HLg.out.nw.tr hN10)
          clear hN10 HRW d1 d2 d3 d4 d5
          go_wp2_with ((with_reducible refine atOp ⟨some 113, _, _, _, _, _⟩ ?_); refine wpList_app elBs _ rfl (.tmp 111) (.tmp 112) rfl W.heap.size (.slice (some ⟨w10.heap.size, 0, none⟩) 0 0) 0 [] rfl (own_lit (Blk.new w10 43 #[]) HNW.out.size) A9 j1 c9 vs rfl (Rd.own ((New.al HN10.out _).own HVS.out) rfl) HV1.out (by have := HJJ.out; unfold maxLen; omega) (by have := HJJ.out; omega) (by have := HNW.out.size; simp; omega) ?_; intro A1 d1 w1 hO1 hF1 hA1; rw [Nat.zero_add]; rw [Nat.zero_add, List.nil_append] at hO1; have HO1 := Lib.hid hO1; have HN1 : Hid (New w10 w1) := Lib.hid ((New.al (New.refl w10) _).fr hF1 (by intro k hk; simp [Value.ownBlock] at hk; omega)); clear hO1 hF1 hA1)
          have HRK : Hid (RecsK W.heap.size w1 (.slice A1 j1 d1) (K.take j1)) := Lib.hid (by
            have hN := HN10.out.tr HN1.out
            refine ⟨vs, by rw [List.length_take, Nat.min_eq_left (by have := HJJ.out; have := HKNE.out; omega)]; exact HO1.out, fun i l hl => ?_⟩
            obtain ⟨A', c', h1, h2, h3, h4, h5⟩ := HVE.out i l hl
            exact ⟨A', c', h1, h4, (hN.rd h5).imp (fun k hk => .inr (hN.isT hk.2))⟩)
          have HI9 : Hid (KpI W w1 sz gd gl9 q2 l2 (K.take j1) j1 (.slice A1 j1 d1)) := Lib.hid ⟨(HLg.out.new HN10.out).new HN1.out, HST.out, HRK.out, HZ.out⟩
          clear HRK HST HZ HLg HVS HVE HV1 HVL HKN9 HO1
          go_wp2_with fail
          go_roundw
          case rel => exact ⟨j + 1, gl9, q2, l2, K.take j1, j1, _, Lib.hid (by have := HJ2.out; omega), by go_num, rfl, rfl, rfl, Lib.hid (by rw [List.length_take]; have := HJJ.out; omega), HI9⟩
          case measure => simp [intOf]; have := HJ2.out; omega
        have hz4 : decide (q = 4) = false := decide_eq_false h4
        by_cases h5 : q = 5
        · subst h5
          go_wp2_with fail
          refine (fuse_l HI7.out.lg nm HXG.out.num).mono ?_
          rintro e w8 ⟨rfl, hLg, hK⟩
          have HI8 : Hid (KpI W w8 sz gd gl (p.fused nm) l K su kv) := Lib.hid ⟨hLg, HI7.out.st.fused nm (bounds_i64 HXG.out.num).2, HI7.out.kn.kpl hK, HI7.out.sz⟩
          clear hLg hK HI7 HB12 x0 x1 x2 x3
          go_wp2_with fail
          go_roundw
          case rel => exact ⟨j + 1, gl, p.fused nm, l, K, su, _, Lib.hid (by have := HJ2.out; omega), by go_num, rfl, rfl, rfl, Lib.hid (Nat.le_succ_of_le HKL.out), HI8⟩
          case measure => simp [intOf]; have := HJ2.out; omega
        have hz5 : decide (q = 5) = false := decide_eq_false h5
        by_cases h6 : q = 6
        · subst h6
          go_wp2_with fail
          refine (cut_l HI7.out.lg.dkl yA yn yc ys (HI7.out.lg.nw.rd HXG.out.rd2) HXG.out.n2 (fun k hk => hk)).mono ?_
          rintro e w8 ⟨rfl, hD, hK⟩
          obtain ⟨bb, mm, T, hraw⟩ := HI7.out.st.raw ys
          obtain ⟨hw0, hst, hz⟩ := raw_fresh hraw rfl (show (p.cut ys).size = sz from HI7.out.sz)
          have HFR := Lib.hid (fresh_l hD 0 sz 7 HSZ.out.1 (by rw [show (p.cut ys).size = sz from HI7.out.sz]; omega) (by decide) (by decide) hw0)
          have HST := Lib.hid hst
          have HZ := Lib.hid hz
          clear hD hK hraw hw0 hst hz HI7 HB12 x0 x1 x2 x3
          go_wp2_with fail
          refine HFR.out.mono ?_
          rintro e w9 ⟨gl9, rfl, hLg, hK9⟩
          have HI9 : Hid (KpI W w9 sz gd gl9 (wipeL (p.cut ys) (lg0 0 sz 7)).1 (lg0 0 sz 7) [] 0 (.slice none 0 0)) := Lib.hid ⟨hLg, HST.out, RecsK.nil _ _, HZ.out⟩
          clear hLg hK9 HFR HST HZ
          go_wp2_with fail
          refine (used_any HI9.out.lg.lgo).mono ?_
          rintro e w10 ⟨rfl, rfl⟩
          rw [show ((usedOf (some (lg0 0 sz 7)) : Nat) : Int) = 0 from rfl]
          go_wp2_with fail
          go_roundw
          case rel => exact ⟨j + 1, gl9, _, lg0 0 sz 7, [], 0, _, Lib.hid (by have := HJ2.out; omega), by go_num, rfl, rfl, rfl, Lib.hid (Nat.zero_le _), HI9⟩
          case measure => simp [intOf]; have := HJ2.out; omega
        have hz6 : decide (q = 6) = false := decide_eq_false h6
        go_wp2_with fail
        refine (app_l HI7.out.lg HL.out xA xn xc xs (HI7.out.lg.nw.rd HXG.out.rd) HXG.out.byt (by have := HXG.out.nn; unfold maxLen; dsimp only at this; omega)).mono ?_
        rintro e w8 ⟨rfl, hLg, hK⟩
        have hst := HI7.out.st.app rfl (b := xs) HXG.out.byt
        obtain ⟨p2, hp2⟩ : ∃ p2, p2 = (appL p l xs).1 := ⟨_, rfl⟩
        obtain ⟨l2, hl2⟩ : ∃ l2, l2 = (appL p l xs).2.1 := ⟨_, rfl⟩
        obtain ⟨ec, hec⟩ : ∃ ec, ec = (appL p l xs).2.2 := ⟨_, rfl⟩
        have hz2 : p2.size = sz := by rw [hp2, appL_size]; exact HI7.out.sz
        rw [← hp2, ← hl2] at hLg hst
        rw [← hec] at hst ⊢
        have HLg := Lib.hid hLg
        have HZ := Lib.hid hz2
        have HKN8 : Hid (RecsK W.heap.size w8 kv K) := Lib.hid (HI7.out.kn.kpl hK)
        have HB8 : Hid (Blk w8 b12 73 #[.int .i64 kd, .int .i64 nm, .slice xA xn xc, .slice yA yn yc]) := Lib.hid (hK.blk HB12.out (by decide) (by decide) (by decide))
        clear hLg hK hp2 hl2 hec hz2 HI7 HB12 x0 x1 x2 x3
        rcases hst with ⟨h0, hst⟩ | ⟨h0, hst⟩
        · have HST := Lib.hid hst
          rw [h0, errD_0]
          obtain ⟨Ak, ck, hkv, hcm, hlc⟩ := HKN8.out.shape
          obtain ⟨kn, hkn⟩ : ∃ kn, kn = K.length := ⟨_, rfl⟩
          have HKNE : Hid (kn = K.length ∧ kn ≤ j ∧ kn < 100) := Lib.hid ⟨hkn, by have := HKL.out; omega, by have := HKL.out; have := HM.out; have := HJ2.out; omega⟩
          rw [← hkn] at hkv
          subst hkv
          obtain ⟨vs, hvs, hve⟩ := HKN8.out.row
          rw [← hkn] at hvs
          have HVS := Lib.hid hvs
          have HVE := Lib.hid hve
          have HXL : Hid (xs.length = xn) := Lib.hid (by have := HXG.out.rd.1; simpa [u8s_len] using this)
          have HNW : Hid (New W w8) := Lib.hid HLg.out.nw
          have x2 : w8.cell? ⟨b12, 2, none⟩ = some (.slice xA xn xc) := HB8.out.cell 2
          clear hst h0 hcm hlc hkn hvs hve
          go_wp2_with ((with_reducible refine atOp ⟨some 66, _, _, _, _, _⟩ ?_); refine wpList_app elBs _ rfl (.tmp 62) (.tmp 65) rfl W.heap.size (.slice Ak kn ck) kn vs rfl (New.own (New.al (New.refl w8) _) HVS.out) (some ⟨w8.heap.size, 0, none⟩) 1 1 [.slice xA xn xc] rfl (Rd.ofBlk (p := fun _ => True) (Blk.new w8 43 #[.slice xA xn xc]) 1 1 rfl trivial) (by simp [Value.oneCell']) (by have := HKNE.out; unfold maxLen; omega) (by have := HKNE.out; omega) (New.al HNW.out _).size ?_; intro A5 d5 w5 hO5 hF5 hA5; have HF5 := Lib.hid hF5; have HO5 := Lib.hid hO5; clear hO5 hF5 hA5)
          have HN5 : Hid (New w8 (w8.alloc (.cells #[.slice xA xn xc] 43))) := Lib.hid (New.al (New.refl w8) _)
          have HRK : Hid (RecsK W.heap.size w5 (.slice A5 (kn + 1) d5) (K ++ [xs])) := Lib.hid (by
            have hN := HN5.out
            refine RecsK.push (w := w8.alloc (.cells #[.slice xA xn xc] 43)) (vs := vs) (A2 := xA) (c2 := xc) ⟨hN.own HVS.out, fun i l hl => ?_⟩ HKNE.out.1 (by rw [HXL.out]; exact HO5.out) HF5.out HXG.out.byt (by rw [HXL.out]; exact (hN.rd (HNW.out.rd HXG.out.rd)).imp (fun k hk => .inl hk))
            obtain ⟨A', c', h1, h2, h3⟩ := HVE.out i l hl
            exact ⟨A', c', h1, h2, (hN.rd h3).imp (fun k hk => hk.imp id (fun h => hN.isT h))⟩)
          have HLg5 : Hid (Lgl W w5 gd gl p2 l2) := Lib.hid (lgl_own ((HLg.out).new HN5.out) (HN5.out.own HVS.out) (by decide) (by decide) HF5.out)
          have HI9 : Hid (KpI W w5 sz gd gl p2 l2 (K ++ [xs]) su (.slice A5 (kn + 1) d5)) := Lib.hid ⟨HLg5.out, HST.out, HRK.out, HZ.out⟩
          clear HLg HLg5 HRK HST HZ HVS HVE HKN8 HO5 HF5 HB8 x2
          go_wp2_with fail
          go_roundw
          case rel => exact ⟨j + 1, gl, p2, l2, K ++ [xs], su, _, Lib.hid (by have := HJ2.out; omega), by go_num, rfl, rfl, rfl, Lib.hid (by rw [List.length_append, List.length_singleton]; have := HKNE.out; omega), HI9⟩
          case measure => simp [intOf]; have := HJ2.out; omega
        · have HI9 : Hid (KpI W w8 sz gd gl p2 l2 K su kv) := Lib.hid ⟨HLg.out, hst, HKN8.out, HZ.out⟩
          rw [errD_n h0]
          clear hst h0 HLg HKN8 HZ HB8
          go_wp2_with fail
          go_roundw
          case rel => exact ⟨j + 1, gl, p2, l2, K, su, _, Lib.hid (by have := HJ2.out; omega), by go_num, rfl, rfl, rfl, Lib.hid (Nat.le_succ_of_le HKL.out), HI9⟩
          case measure => simp [intOf]; have := HJ2.out; omega
    · have hge : ¬ ((j : Int) < (m : Int)) := by omega
      clear hj
      go_wp2_with fail
      go_ret
      exact ⟨rfl, HI.out.lg.nw⟩
end Go.Proofs.YteeclfejgpgooaaDoor
/- LogKeeps, as its statement's row wants it. sha's tables are as they were laid. No condition else but the bound on what is read. -/
namespace Go.Proofs.YteeclfejgpgooaaDoor
set_option linter.unusedVariables false
set_option linter.unusedSimpArgs false
set_option linter.constructorNameAsVariable false
open Go.RowKit Go.Sort

theorem keeps_law {v1 : Value} {W : World} (a : Int) (wa : (Lit.int .i64 a).wf = true) (o1 : ∃ (A : Option Addr) (n c : Nat) (L : List AK), v1 = .slice A n c ∧ n ≤ maxLen ∧ L.length = n ∧ Rd (fun b => b < W.heap.size) W 4 A n (L.flatMap AK.cells) ∧ ∀ a ∈ L, a.Good W)
    (hL : laidMetH Tryd.prog [("entrust/sha.constants", Rows.laid_entrust_sha_constants), ("entrust/sha.initials", Rows.laid_entrust_sha_initials)] W) :
    Calls Tryd.prog 5 #[.int .i64 a, v1] W fun e w' => e = .returned (.bool true) ∧ Below W.heap.size W w' := by
  obtain ⟨A, m, c, L, rfl, hm, hl, hS, hg⟩ := o1
  exact keeps_main a A m c L W (sha_live hL) hm hS hl hg
end Go.Proofs.YteeclfejgpgooaaDoor
