/- Texts of one proof, one behind the other: ShL, RcJ. No condition but each one's own. -/
import Derived.Test.YtdojmjglnlkmoaaDoorRows
import Derived.Test.YtdojmjglnlkmoaaDoorRecordKeepsM8
import Derived.Test.YtdojmjglnlkmoaaDoorRecordKeepsM11
import Derived.Test.YtdojmjglnlkmoaaDoorRecordKeepsM19
import Derived.SevenTiedAt
import Derived.Stop.Joined
/- sha's tables, out of the row's list of laid variables. No condition. -/
namespace Go.Proofs.YtdojmjglnlkmoaaDoor
set_option linter.unusedVariables false
set_option linter.unusedSimpArgs false
set_option linter.constructorNameAsVariable false
open Go.RowKit Go.Sort Go.ChangeShapes Go.WideShapes Go.ChangeAt

theorem laid_u32 {W : World} {n : String} {d : DataW Unit} {r : List (String × DataW Unit)} {ps : List MemPlace} {g t N : Nat} (L : List Int) (h : DataW.LaidVars Tryd.prog W ((n, d) :: r) ps) (hg : Tryd.prog.globalNamed n = some g) (ht : (Tryd.prog.globals[g]?).map (·.type) = some t) (hu : Tryd.prog.underlying t = some (.array N 137)) (hd : d = .agg (L.map fun x => .lit (.int .u32 x))) (hl : L.length = N) :
    (∀ j, j < N → W.cell? ⟨g, j, none⟩ = some (.int .u32 (at_ L j))) ∧ ∃ ps', DataW.LaidVars Tryd.prog W r ps' := by
  obtain ⟨g', t', cs, fuel, p, q, hg', ht', hv, hd', hr, _⟩ := h
  obtain rfl := Option.some.inj (hg.symm.trans hg')
  obtain rfl := Option.some.inj (ht.symm.trans ht')
  refine ⟨fun j hj => ?_, _, hr⟩
  obtain ⟨xs, m, _, ex, _, hxl, hel⟩ := DataW.trod_array hu hd'
  have c5 : Tryd.prog.cellsOf 137 = 1 := by kernel_rfl
  have hE := hel j hj
  rw [c5, Nat.mul_one, List.getElem?_eq_getElem (by omega)] at hE
  obtain ⟨z, e1, e2, _⟩ := DataW.trod_int Tryd.underlying137 hE
  have e3 : (xs.map (·.1)) = L.map fun n => .lit (.int .u32 n) := by
    have h0 := (Prod.mk.inj ex).1
    rw [hd] at h0
    exact (DataW.agg.inj h0).symm
  have e4 : (xs.map (·.1))[j]? = (L.map fun n => (DataW.lit (.int .u32 n) : DataW Unit))[j]? := by rw [e3]
  rw [List.getElem?_map, List.getElem?_map, List.getElem?_eq_getElem (by omega : j < xs.length), List.getElem?_eq_getElem (by omega : j < L.length), e2] at e4
  have hz : z = at_ L j := by
    simp only [Option.map_some, Option.some.injEq, DataW.lit.injEq, Lit.int.injEq, true_and] at e4
    unfold at_
    rw [e4, List.getD, List.getElem?_eq_getElem (by omega : j < L.length)]
    rfl
  rw [World.var?_cell hg hv j, ← hz]
  have : cs.toList[j]? = some (.int .u32 z) := by
    have h0 : ((cs.toList.drop j).take 1)[0]? = some (.int .u32 z) := by rw [e1]; rfl
    simpa using h0
  simpa using this
theorem range_iH {W : World} {g : Nat} (h : ∀ j, j < 8 → W.cell? ⟨g, j, none⟩ = some (.int .u32 (at_ iH.list j))) : W.rangeAt g 0 iH.arr.toList := fun j v hv => by
  have hj : j < 8 := by
    have := (List.getElem?_eq_some_iff.1 hv).1
    exact this
  rw [Nat.zero_add, h j hj, ← hv]
  rcases (by omega : j = 0 ∨ j = 1 ∨ j = 2 ∨ j = 3 ∨ j = 4 ∨ j = 5 ∨ j = 6 ∨ j = 7) with rfl | rfl | rfl | rfl | rfl | rfl | rfl | rfl <;> rfl
theorem sha_both {W : World} (h : laidMetH Tryd.prog [("entrust/entrustref02.Constants", Rows.laid_entrust_entrustref02_Constants), ("entrust/entrustref02.Initials", Rows.laid_entrust_entrustref02_Initials), ("entrust/sha.constants", Rows.laid_entrust_sha_constants), ("entrust/sha.initials", Rows.laid_entrust_sha_initials)] W) : RShaIn 1 0 W ∧ ShaIn 3 2 W := by
  rw [MakeChecks.laidMetH_plain _ _ _ (by kernel_rfl)] at h
  obtain ⟨ps, h, -, -⟩ := h
  obtain ⟨h1, ps1, h⟩ := laid_u32 kL h (by kernel_rfl) (by kernel_rfl) Tryd.underlying151 rfl rfl
  obtain ⟨h2, ps2, h⟩ := laid_u32 iH.list h (by kernel_rfl) (by kernel_rfl) Tryd.underlying138 rfl rfl
  obtain ⟨h3, ps3, h⟩ := laid_u32 kL h (by kernel_rfl) (by kernel_rfl) Tryd.underlying151 rfl rfl
  obtain ⟨h4, ps4, h⟩ := laid_u32 iH.list h (by kernel_rfl) (by kernel_rfl) Tryd.underlying138 rfl rfl
  exact ⟨⟨h1, range_iH h2⟩, ⟨h3, range_iH h4⟩⟩
theorem sha_live {W : World} (h : laidMetH Tryd.prog [("entrust/sha.constants", Rows.laid_entrust_sha_constants), ("entrust/sha.initials", Rows.laid_entrust_sha_initials)] W) : ShaIn 3 2 W := by
  rw [MakeChecks.laidMetH_plain _ _ _ (by kernel_rfl)] at h
  obtain ⟨ps, h, -, -⟩ := h
  obtain ⟨h3, ps3, h⟩ := laid_u32 kL h (by kernel_rfl) (by kernel_rfl) Tryd.underlying151 rfl rfl
  obtain ⟨h4, ps4, h⟩ := laid_u32 iH.list h (by kernel_rfl) (by kernel_rfl) Tryd.underlying138 rfl rfl
  exact ⟨h3, range_iH h4⟩
end Go.Proofs.YtdojmjglnlkmoaaDoor
/- RecordKeeps, walked. sha's tables are as they were laid. No condition else. -/
namespace Go.Proofs.YtdojmjglnlkmoaaDoor
set_option linter.unusedVariables false
set_option linter.unusedSimpArgs false
set_option linter.constructorNameAsVariable false
open Go.RowKit Go.Sort

theorem writeQ_size (p : DP) (n : Nat) (all : List Int) : ∀ k, (writeQ p n all k).1.size = p.size
  | 0 => rfl
  | k + 1 => by
    have ih := writeQ_size p n all k
    simp only [writeQ]
    split
    · exact ih
    · show ((writeQ p n all k).1.doWrite _ _).size = _
      rw [DP.doWrite_size, ih]
theorem saveP_size (p : DP) (k : KR) (r : Rc) : (saveP p k r).1.size = p.size := by
  have hw : ∀ n all, (writeP p n all).1.size = p.size := fun n all => by
    unfold writeP
    simp only
    split
    · exact writeQ_size p n all 2
    · show ((writeQ p n all 2).1.doSync).size = _
      rw [DP.doSync_size, writeQ_size]
  unfold saveP
  split
  · rfl
  split
  · rfl
  split
  · rfl
  simp only
  split
  · exact hw _ _
  · exact hw _ _
set_option maxHeartbeats 3000000
set_option maxRecDepth 100000
theorem keeps_walk {q : Nat → Prop} (A : Option Addr) (n c : Nat) (L : List Rc) (u : Rc) (k0 k1 k2 k3 k4 : Int) (W : World) (hL : ShaIn 3 2 W) (hR : Rd q W 37 A n (L.flatMap fun r => r.cells.toList)) (hl : L.length = n) (hg : ∀ a ∈ L, a.Ok) (hu : u.Ok) (hn : n ≤ maxLen) (hw4 : (Lit.int .i64 k4).wf = true) :
    Calls Tryd.prog 5 #[.slice A n c, .agg u.cells, .agg #[.int .i64 k0, .int .i64 k1, .int .i64 k2, .int .i64 k3, .int .i64 k4]] W fun e w' => e = .returned (.bool true) ∧ New W w' := by
  have HL := Lib.hid hL
  have HR := Lib.hid hR
  have HG := Lib.hid hg
  have HU := Lib.hid hu
  have HLN := Lib.hid hl
  have HW4 := Lib.hid hw4
  have HUZ : Hid (u.cells.size = 37 ∧ u.cells.all (·.oneCell') = true) := Lib.hid ⟨Rc.size hu.len, Rc.one u⟩
  obtain ⟨RU, hRU⟩ : ∃ RU, RU = u.cells := ⟨_, rfl⟩
  have HRU := Lib.hid hRU
  rw [← hRU] at HUZ ⊢
  clear hL hR hg hu hl hw4 hRU
  by_cases h10 : 10 < n
  · have hq : (10 : Int) < (n : Int) := by omega
    clear h10 hn
    go_enter Tryd.func5, Tryd.ntmps5
    go_wp2_with fail
    refine (alive_any _ (HL.out.new (New.al (New.al (New.refl _) _) _))).mono ?_
    rintro e w1 ⟨rfl, hN⟩
    have HN := Lib.hid (New.tr (New.al (New.al (New.refl _) _) _) hN)
    clear hN
    go_wp2_with fail
    go_ret
    exact ⟨rfl, HN.out⟩
  · have hq : ¬ ((10 : Int) < (n : Int)) := by omega
    have HN10 : Hid (n ≤ 10) := Lib.hid (by omega)
    clear h10 hn
    go_enter Tryd.func5, Tryd.ntmps5
    go_upto_region 1 with fail
    obtain ⟨w0, hw0⟩ : ∃ w0 : World, w0 = (W.alloc (.cells RU 48)).alloc (.cells #[.int .i64 k0, .int .i64 k1, .int .i64 k2, .int .i64 k3, .int .i64 k4] 66) := ⟨_, rfl⟩
    obtain ⟨b4, hb4⟩ : ∃ b4, b4 = W.heap.size := ⟨_, rfl⟩
    obtain ⟨b5, hb5⟩ : ∃ b5, b5 = W.heap.size + 1 := ⟨_, rfl⟩
    have HN0 : Hid (New W w0) := Lib.hid (by rw [hw0]; exact New.al (New.al (New.refl _) _) _)
    have HB4 : Hid (Blk w0 b4 48 RU) := Lib.hid (by rw [hw0, hb4]; exact (Blk.new _ _ _).alloc _)
    have HB5 : Hid (Blk w0 b5 66 #[.int .i64 k0, .int .i64 k1, .int .i64 k2, .int .i64 k3, .int .i64 k4]) := Lib.hid (by rw [hw0, hb5]; exact Blk.new' _ _ _ (by simp))
    rw [← hw0, ← hb5, ← hb4]
    clear hw0 hb4 hb5
    go_wp2_with fail
    refine (alive_any _ (HL.out.new HN0.out)).mono ?_
    rintro e w1 ⟨rfl, hN⟩
    have HN1 := Lib.hid (HN0.out.tr hN)
    have HB41 : Hid (Blk w1 b4 48 RU) := Lib.hid (hN.blk HB4.out)
    have HB51 : Hid (Blk w1 b5 66 #[.int .i64 k0, .int .i64 k1, .int .i64 k2, .int .i64 k3, .int .i64 k4]) := Lib.hid (hN.blk HB5.out)
    clear hN HN0 HB4 HB5
    go_wp2_with fail
    clear hq
    refine (dnew_d HN1.out 4 (by omega) (by omega)).mono ?_
    rintro e w2 ⟨gd, rfl, hD, hN⟩
    have HD := Lib.hid hD
    have HB42 : Hid (Blk w2 b4 48 RU) := Lib.hid (hN.blk HB41.out)
    have HB52 : Hid (Blk w2 b5 66 #[.int .i64 k0, .int .i64 k1, .int .i64 k2, .int .i64 k3, .int .i64 k4]) := Lib.hid (hN.blk HB51.out)
    clear hN hD HB41 HB51 HN1
    go_wp2_with fail
    refine (kopen_d HD.out HL.out (by show 4 ≤ 4; omega)).mono ?_
    rintro e w3 ⟨gk, rfl, hK, hN⟩
    rw [(Kst.new (n := 4) (by omega) (by omega)).toKop.opens] at hK
    have HK := Lib.hid hK
    have HB43 : Hid (Blk w3 b4 48 RU) := Lib.hid (hN.blk HB42.out)
    have HB53 : Hid (Blk w3 b5 66 #[.int .i64 k0, .int .i64 k1, .int .i64 k2, .int .i64 k3, .int .i64 k4]) := Lib.hid (hN.blk HB52.out)
    clear hK hN HB42 HB52 HD
    have HBN := Lib.hid built_none
    go_upto_region 12 with (first
      | ((with_reducible refine atOp ⟨some 35, .build _ _, _, _, _, _⟩ ?_); refine wpList_built rfl _ [] rfl _ rfl _ HBN.out ?_)
      | ((with_reducible refine atOp ⟨some 10, .alloc _, _, _, _, _⟩ ?_); refine wpList_newrow rfl rfl rfl _ _ rfl recInfo (by rfl) rfl rfl rfl (Rc.one _) ?_))
    obtain ⟨w4, hw4⟩ : ∃ w4 : World, w4 = w3.alloc (.cells rc0.cells 48) := ⟨_, rfl⟩
    obtain ⟨b10, hb10⟩ : ∃ b10, b10 = w3.heap.size := ⟨_, rfl⟩
    have hN4 : New w3 w4 := by rw [hw4]; exact New.al (New.refl _) _
    have HK4 : Hid (Kpr W w4 gd gk (DP.new 4) KR.new) := Lib.hid (HK.out.new hN4)
    have HB44 : Hid (Blk w4 b4 48 RU) := Lib.hid (hN4.blk HB43.out)
    have HB54 : Hid (Blk w4 b5 66 #[.int .i64 k0, .int .i64 k1, .int .i64 k2, .int .i64 k3, .int .i64 k4]) := Lib.hid (hN4.blk HB53.out)
    have HB10 : Hid (Blk w4 b10 48 rc0.cells) := Lib.hid (by rw [hw4, hb10]; exact Blk.new _ _ _)
    have HNE : Hid (W.heap.size ≤ b10 ∧ b10 ≠ b4 ∧ b10 ≠ b5 ∧ b10 ≠ gk) := Lib.hid (by
      have h1 := HB43.out.lt
      have h2 := HB53.out.lt
      have h3 := HK.out.kp.blk.lt
      have h4 := HK.out.nw.size
      omega)
    rw [← hw4, ← hb10]
    clear hw4 hb10 hN4 HK HB43 HB53 HBN
    go_wp2_with fail
    go_loopw [38, 11] (fun i b wr => ∃ (j : Nat) (p : DP) (k : KR), Hid (j ≤ n) ∧ i = .int .i64 (j : Int) ∧ b = .bool (decide (0 < k.number)) ∧ Hid (Kpr W wr gd gk p k) ∧ Hid (Kst p k ∧ p.fuse = -1 ∧ k.number ≤ j) ∧ Hid (Blk wr b4 48 RU) ∧ Hid (Blk wr b5 66 #[.int .i64 k0, .int .i64 k1, .int .i64 k2, .int .i64 k3, .int .i64 k4]) ∧ Hid (Blk wr b10 48 k.now.cells)) (fun i _ _ => n - (intOf i).toNat)
    case atStart => exact ⟨0, DP.new 4, KR.new, Lib.hid (by omega), rfl, rfl, HK4, Lib.hid ⟨Kst.new (by omega) (by omega), rfl, Nat.le_refl _⟩, HB44, HB54, HB10⟩
    case round =>
      clear HK4 HB44 HB54 HB10
      obtain ⟨j, p, k, HJ, rfl, rfl, HK, HS, HB4, HB5, HB10⟩ := hrel
      have HKO : Hid (k.Ok) := Lib.hid HK.out.kp.ok
      by_cases hj : j < n
      · have hlt : (j : Int) < (n : Int) := by omega
        obtain ⟨g, o, hl, rfl, hgs, hrg⟩ := rd_rec HR.out HLN.out HG.out hj
        obtain ⟨r, hr⟩ : ∃ r, r = L[j] := ⟨_, rfl⟩
        have HRO : Hid (r.Ok) := Lib.hid (by rw [hr]; exact HG.out _ (List.getElem_mem _))
        obtain ⟨RL, hRL⟩ : ∃ RL, RL = r.cells.toList := ⟨_, rfl⟩
        have HRL : Hid (RL.toArray = r.cells) := Lib.hid (by rw [hRL])
        have HRZ : Hid (RL.length = 37 ∧ RL.toArray.size = 37 ∧ RL.toArray.all (·.oneCell') = true) := Lib.hid (by
          have h1 := Rc.size HRO.out.len
          rw [hRL]
          exact ⟨by simpa using h1, by simpa using h1, by simpa using Rc.one r⟩)
        have HRW : Hid (wr.rangeAt g (o + j * 37) RL) := Lib.hid (by rw [hRL, hr]; exact fun i v hv => HK.out.nw.cell_ (hrg i v hv))
        have HJ2 := Lib.hid hj
        have e1 : IntKind.i64.wrap ((j : Int) + 1) = (j : Int) + 1 := IntWalk.i64_in _ (by have := HN10.out; omega)
        clear hj hrg hgs hr hRL
        go_upto_region 15 with (first
          | ((with_reducible refine atOp ⟨some 41, .load _ _, _, _, _, _⟩ ?_); refine wpList_load_range rfl _ rfl rfl HRW.out Tryd.underlying48 rfl (by rw [HRZ.out.1]; rfl) ?_)
          | ((with_reducible refine atOp ⟨some 13, .alloc _, _, _, _, _⟩ ?_); refine wpList_newrow rfl rfl rfl _ _ rfl recInfo (by rfl) rfl rfl HRZ.out.2.1 HRZ.out.2.2 ?_))
        obtain ⟨w5, hw5⟩ : ∃ w5 : World, w5 = wr.alloc (.cells RL.toArray 48) := ⟨_, rfl⟩
        obtain ⟨b13, hb13⟩ : ∃ b13, b13 = wr.heap.size := ⟨_, rfl⟩
        have hN5 : New wr w5 := by rw [hw5]; exact New.al (New.refl _) _
        have HK5 : Hid (Kpr W w5 gd gk p k) := Lib.hid (HK.out.new hN5)
        have HB45 : Hid (Blk w5 b4 48 RU) := Lib.hid (hN5.blk HB4.out)
        have HB55 : Hid (Blk w5 b5 66 #[.int .i64 k0, .int .i64 k1, .int .i64 k2, .int .i64 k3, .int .i64 k4]) := Lib.hid (hN5.blk HB5.out)
        have HB105 : Hid (Blk w5 b10 48 k.now.cells) := Lib.hid (hN5.blk HB10.out)
        have HB13 : Hid (Blk w5 b13 48 RL.toArray) := Lib.hid (by rw [hw5, hb13]; exact Blk.new _ _ _)
        rw [← hw5, ← hb13]
        clear hw5 hb13 hN5 HK HB4 HB5 HB10
        go_wp2_with ((with_reducible refine atOp ⟨some 43, .load _ _, _, _, _, _⟩ ?_); refine wpList_load_any rfl _ rfl Tryd.underlying48 rfl (by rw [HRZ.out.2.1]; rfl) rfl HB13.out ?_)
        rw [HRL.out]
        refine (ksave_d HK5.out HL.out r HRO.out).mono ?_
        rintro e w6 ⟨rfl, hK, hT⟩
        have hsv := HS.out.1.save (by have := HS.out.2.1; omega) HRO.out (by have := HS.out.2.2; have := HJ2.out; have := HN10.out; omega)
        have HB46 : Hid (Blk w6 b4 48 RU) := Lib.hid (hT _ _ _ HB45.out (by decide) (by decide) (by decide))
        have HB56 : Hid (Blk w6 b5 66 #[.int .i64 k0, .int .i64 k1, .int .i64 k2, .int .i64 k3, .int .i64 k4]) := Lib.hid (hT _ _ _ HB55.out (by decide) (by decide) (by decide))
        have HB106 : Hid (Blk w6 b10 48 k.now.cells) := Lib.hid (hT _ _ _ HB105.out (by decide) (by decide) (by decide))
        have HB136 : Hid (Blk w6 b13 48 RL.toArray) := Lib.hid (hT _ _ _ HB13.out (by decide) (by decide) (by decide))
        clear hT HK5 HB45 HB55 HB105 HB13
        rw [← HRL.out]
        by_cases hRt : r.Right
        · rw [if_pos hRt] at hsv
          obtain ⟨s1, s2, s3, s4⟩ := hsv
          rw [s1, errD_0]
          rw [s2] at hK
          obtain ⟨p', hp'⟩ : ∃ p', p' = (saveP p k r).1 := ⟨_, rfl⟩
          rw [← hp'] at hK s3 s4
          have HK6 := Lib.hid hK
          have HS6 : Hid (Kst p' ⟨k.number + 1, r, false⟩ ∧ p'.fuse = -1) := Lib.hid ⟨s3, by rw [s4, HS.out.2.1]; rfl⟩
          have HNZ : Hid (k.now.cells.size = 37) := Lib.hid (Rc.size HKO.out.now.len)
          clear hK s1 s2 s3 s4 hp' hRt
          go_wp2_with (first
            | ((with_reducible refine atOp ⟨some 46, .load _ _, _, _, _, _⟩ ?_); refine wpList_load_any rfl _ rfl Tryd.underlying48 rfl (by rw [HRZ.out.2.1]; rfl) rfl HB136.out ?_)
            | ((with_reducible refine atOp ⟨none, .store 48 (.tmp 10) _, _, _, _, _⟩ ?_); refine wpList_store_any rfl (.tmp 10) (.tmp 46) rfl (by rw [HRZ.out.2.1]; rfl) rfl rfl HB106.out (by rw [HRZ.out.2.1, HNZ.out]) HRZ.out.2.2 ?_; intro w7 hb7 hf7; have HB7 := Lib.hid hb7; have HF7 := Lib.hid hf7; clear hb7 hf7))
          go_roundw
          case rel => exact ⟨j + 1, p', ⟨k.number + 1, r, false⟩, Lib.hid (by have := HJ2.out; omega), by go_num, by simp, by
            obtain ⟨bs, bf, v, d1, d2, d3, d4⟩ := HK6.out
            exact Lib.hid ⟨bs, bf, v, d1.fr HF7.out (fun b hb => hb ▸ dk_notBlk d1 HB106.out (fun e => Blk.ne_ HB106.out d1.blk (by decide) e) (by decide)), d2.fr HF7.out (fun h => HNE.out.2.2.2 h.symm), d3, d4.fr HF7.out (fun x hx => by have := HNE.out.1; omega)⟩,
            Lib.hid ⟨HS6.out.1, HS6.out.2, by show k.number + 1 ≤ j + 1; have := HS.out.2.2; omega⟩, Lib.hid (HB46.out.fr HF7.out (fun h => HNE.out.2.1 h.symm)), Lib.hid (HB56.out.fr HF7.out (fun h => HNE.out.2.2.1 h.symm)), by rw [← HRL.out]; exact HB7⟩
          case measure => simp [intOf]; have := HJ2.out; omega
        · rw [if_neg hRt] at hsv
          rw [hsv] at hK ⊢
          have HK6 := Lib.hid hK
          have HE2 : Hid (errD 2 = .iface 55 (.int .i64 2)) := Lib.hid (errD_n (by decide))
          rw [HE2.out]
          clear hK hRt hsv
          go_wp2_with fail
          go_roundw
          case rel => exact ⟨j + 1, p, k, Lib.hid (by have := HJ2.out; omega), by go_num, rfl, HK6, Lib.hid ⟨HS.out.1, HS.out.2.1, by have := HS.out.2.2; omega⟩, HB46, HB56, HB106⟩
          case measure => simp [intOf]; have := HJ2.out; omega
      · have hge : ¬ ((j : Int) < (n : Int)) := by omega
        have HKN : Hid (k.number ≤ 10 ∧ Kst p k) := Lib.hid ⟨by have := HS.out.2.2; have := HJ.out; have := HN10.out; omega, HS.out.1⟩
        clear hj HS HJ
        have c54 : wr.cell? ⟨b5, 4, none⟩ = some (.int .i64 k4) := HB5.out.cell 4
        go_wp2_with fail
        obtain ⟨ff, hff⟩ : ∃ ff, ff = wrap64 ((IntKind.u64.wrap k4).tmod 4) := ⟨_, rfl⟩
        have HFF : Hid (0 ≤ ff ∧ ff ≤ 3) := Lib.hid (by
          have h1 : 0 ≤ IntKind.u64.wrap k4 := by rw [IntKind.wrap_u64]; omega
          have h2 : (IntKind.u64.wrap k4).tmod 4 = IntKind.u64.wrap k4 % 4 := Int.tmod_eq_emod_of_nonneg h1
          rw [hff, h2]
          unfold wrap64
          omega)
        rw [← hff]
        clear hff c54
        refine (dfuse_d HK.out ff (by have := HFF.out; rw [show (Lit.int .i64 ff).wf = true ↔ (-9223372036854775808 ≤ ff ∧ ff ≤ 9223372036854775807) by simp [Lit.wf, IntKind.min, IntKind.max, IntKind.signed, IntKind.bits]]; omega)).mono ?_
        rintro e w5 ⟨rfl, hK, hT⟩
        have HK5 := Lib.hid hK
        have HB45 : Hid (Blk w5 b4 48 RU) := Lib.hid (hT _ _ _ HB4.out (by decide) (by decide) (by decide))
        have HB55 : Hid (Blk w5 b5 66 #[.int .i64 k0, .int .i64 k1, .int .i64 k2, .int .i64 k3, .int .i64 k4]) := Lib.hid (hT _ _ _ HB5.out (by decide) (by decide) (by decide))
        have HB105 : Hid (Blk w5 b10 48 k.now.cells) := Lib.hid (hT _ _ _ HB10.out (by decide) (by decide) (by decide))
        clear hK hT HK HB4 HB5 HB10
        go_wp2_with ((with_reducible refine atOp ⟨some 56, .load _ _, _, _, _, _⟩ ?_); refine wpList_load_any rfl _ rfl Tryd.underlying48 rfl (by rw [HUZ.out.1]; rfl) rfl HB45.out ?_)
        rw [HRU.out]
        refine (ksave_d HK5.out HL.out u HU.out).mono ?_
        rintro e w6 ⟨rfl, hK, hT⟩
        rw [← HRU.out]
        have HK6 := Lib.hid hK
        have HB46 : Hid (Blk w6 b4 48 RU) := Lib.hid (hT _ _ _ HB45.out (by decide) (by decide) (by decide))
        have HB56 : Hid (Blk w6 b5 66 #[.int .i64 k0, .int .i64 k1, .int .i64 k2, .int .i64 k3, .int .i64 k4]) := Lib.hid (hT _ _ _ HB55.out (by decide) (by decide) (by decide))
        have HB106 : Hid (Blk w6 b10 48 k.now.cells) := Lib.hid (hT _ _ _ HB105.out (by decide) (by decide) (by decide))
        have HOP : Hid (∀ keep : List Bool, openP ((saveP (p.fused ff) k u).1.cut keep) = (if (saveP (p.fused ff) k u).2.2 = 0 then ⟨k.number + 1, u, false⟩ else k) ∧ 4 ≤ ((saveP (p.fused ff) k u).1.cut keep).size) := Lib.hid (fun keep => ⟨HKN.out.2.keeps HFF.out.1 HFF.out.2 HU.out (by have := HKN.out.1; omega) keep, by show 4 ≤ (saveP (p.fused ff) k u).1.size; rw [saveP_size]; exact HKN.out.2.sz⟩)
        obtain ⟨p2, hp2⟩ : ∃ p2, p2 = (saveP (p.fused ff) k u).1 := ⟨_, rfl⟩
        obtain ⟨cc, hcc⟩ : ∃ cc, cc = (saveP (p.fused ff) k u).2.2 := ⟨_, rfl⟩
        obtain ⟨k9, hk9⟩ : ∃ k9, k9 = (saveP (p.fused ff) k u).2.1 := ⟨_, rfl⟩
        rw [← hp2] at HK6
        rw [← hk9] at HK6
        simp only [← hp2, ← hcc] at HOP
        rw [← hcc]
        obtain ⟨bz, hbz⟩ : ∃ bz, bz = decide (0 < k.number) := ⟨_, rfl⟩
        have HBZ := Lib.hid hbz
        rw [← hbz]
        have HNZ : Hid (k.now.cells.size = 37 ∧ k.now.cells.all (·.oneCell') = true) := Lib.hid ⟨Rc.size (HKO.out.now.len), Rc.one _⟩
        have HEQ : Hid (∀ W, (binOp .eql 48 (.agg RU) (.agg RU)).run Tryd.prog W = .ok (.bool true) W) := Lib.hid (fun W => by
          have h := eql_rec HU.out HU.out W
          rw [← HRU.out] at h
          simpa using h)
        have HEQ2 : Hid (∀ W, (binOp .eql 48 (.agg k.now.cells) (.agg k.now.cells)).run Tryd.prog W = .ok (.bool true) W) := Lib.hid (fun W => by
          have h := eql_rec HKO.out.now HKO.out.now W
          simpa using h)
        clear hK hT HK5 HB45 HB55 HB105 hp2 hcc hk9 hbz
        have key : ∀ (S : World → Prop) (w8 : World) (x0 x1 x2 : Bool) (bb : Nat), True := fun _ _ _ _ _ _ => trivial
        clear key
        by_cases hc0 : cc = 0
        · rw [hc0, errD_0]
          have HOQ : Hid (∀ keep : List Bool, openP (p2.cut keep) = ⟨k.number + 1, u, false⟩ ∧ 4 ≤ (p2.cut keep).size) := Lib.hid (fun keep => ⟨by rw [(HOP.out keep).1, if_pos hc0], (HOP.out keep).2⟩)
          clear hc0 HOP
          have c0 : w6.cell? ⟨b5, 0, none⟩ = some (.int .i64 k0) := HB56.out.cell 0
          have c1 : w6.cell? ⟨b5, 1, none⟩ = some (.int .i64 k1) := HB56.out.cell 1
          have c2 : w6.cell? ⟨b5, 2, none⟩ = some (.int .i64 k2) := HB56.out.cell 2
          go_wp2_with fail
          clear c0 c1 c2
          obtain ⟨x0, hx0⟩ : ∃ x0, x0 = (k0.tmod 2 == 0) := ⟨_, rfl⟩
          obtain ⟨x1, hx1⟩ : ∃ x1, x1 = (k1.tmod 2 == 0) := ⟨_, rfl⟩
          obtain ⟨x2, hx2⟩ : ∃ x2, x2 = (k2.tmod 2 == 0) := ⟨_, rfl⟩
          rw [← hx0, ← hx1, ← hx2]
          clear hx0 hx1 hx2
          obtain ⟨w7, hw7⟩ : ∃ w7 : World, w7 = w6.alloc (.cells #[.bool x0, .bool x1, .bool x2] 4) := ⟨_, rfl⟩
          obtain ⟨b7, hb7⟩ : ∃ b7, b7 = w6.heap.size := ⟨_, rfl⟩
          have hN7 : New w6 w7 := by rw [hw7]; exact New.al (New.refl _) _
          have HB7 : Hid (Blk w7 b7 4 #[.bool x0, .bool x1, .bool x2]) := Lib.hid (by rw [hw7, hb7]; exact Blk.new _ _ _)
          have HK7 : Hid (Kpr W w7 gd gk p2 k9) := Lib.hid (HK6.out.new hN7)
          have HB47 : Hid (Blk w7 b4 48 RU) := Lib.hid (hN7.blk HB46.out)
          have HB107 : Hid (Blk w7 b10 48 k.now.cells) := Lib.hid (hN7.blk HB106.out)
          rw [← hw7, ← hb7]
          clear hw7 hb7 hN7 HB46 HB56 HB106 HK6
          refine (dcut_d HK7.out.dsk (q := fun b => b = b7) (some ⟨b7, 0, none⟩) 3 3 [x0, x1, x2] (Rd.ofBlk HB7.out 1 3 (by rfl) rfl) (by unfold maxLen; omega) (fun bs bf v hD b hb => hb ▸ blk_map HB7.out hD.ms)).mono ?_
          rintro e w8 ⟨rfl, hD, hT⟩
          have HD8 := Lib.hid hD
          have HB48 : Hid (Blk w8 b4 48 RU) := Lib.hid (hT _ _ _ HB47.out (by decide) (by decide) (by decide))
          have HB108 : Hid (Blk w8 b10 48 k.now.cells) := Lib.hid (hT _ _ _ HB107.out (by decide) (by decide) (by decide))
          clear hD hT HB47 HB107 HB7 HK7
          go_wp2_with fail
          refine (kopen_d HD8.out HL.out (HOQ.out [x0, x1, x2]).2).mono ?_
          rintro e w9 ⟨gk2, rfl, hK, hN9⟩
          rw [(HOQ.out [x0, x1, x2]).1] at hK
          have HK9 := Lib.hid hK
          have HB49 : Hid (Blk w9 b4 48 RU) := Lib.hid (hN9.blk HB48.out)
          have HB109 : Hid (Blk w9 b10 48 k.now.cells) := Lib.hid (hN9.blk HB108.out)
          clear hK hN9 HB48 HB108 HD8
          go_wp2_with fail
          refine (kget_kp HK9.out.kp).mono ?_
          rintro e wa ⟨rfl, hNa⟩
          have HKa : Hid (New W wa) := Lib.hid (HK9.out.nw.tr hNa)
          have HB4a : Hid (Blk wa b4 48 RU) := Lib.hid (hNa.blk HB49.out)
          have HB10a : Hid (Blk wa b10 48 k.now.cells) := Lib.hid (hNa.blk HB109.out)
          have hone : (.bool (decide (0 < (⟨k.number + 1, u, false⟩ : KR).number)) : Value) = .bool true := by simp
          have hnow : (⟨k.number + 1, u, false⟩ : KR).now.cells = RU := HRU.out.symm
          rw [hone, hnow]
          clear hone hnow hNa HB49 HB109 HK9
          go_upto_region 25 with ((with_reducible refine atOp ⟨some 15, .alloc _, _, _, _, _⟩ ?_); refine wpList_newrow rfl rfl rfl _ _ rfl recInfo (by rfl) rfl rfl HUZ.out.1 HUZ.out.2 ?_)
          obtain ⟨wb, hwb⟩ : ∃ wb : World, wb = wa.alloc (.cells RU 48) := ⟨_, rfl⟩
          obtain ⟨b15, hb15⟩ : ∃ b15, b15 = wa.heap.size := ⟨_, rfl⟩
          have hNb : New wa wb := by rw [hwb]; exact New.al (New.refl _) _
          have HNb : Hid (New W wb) := Lib.hid (HKa.out.tr hNb)
          have HB4b : Hid (Blk wb b4 48 RU) := Lib.hid (hNb.blk HB4a.out)
          have HB10b : Hid (Blk wb b10 48 k.now.cells) := Lib.hid (hNb.blk HB10a.out)
          have HB15 : Hid (Blk wb b15 48 RU) := Lib.hid (by rw [hwb, hb15]; exact Blk.new _ _ _)
          rw [← hwb, ← hb15]
          clear hwb hb15 hNb HKa HB4a HB10a
          have heq := HEQ.out
          go_wp2_with (first
            | ((with_reducible refine atOp ⟨some 89, .load _ _, _, _, _, _⟩ ?_); refine wpList_load_any rfl _ rfl Tryd.underlying48 rfl (by rw [HUZ.out.1]; rfl) rfl HB15.out ?_)
            | ((with_reducible refine atOp ⟨some 90, .load _ _, _, _, _, _⟩ ?_); refine wpList_load_any rfl _ rfl Tryd.underlying48 rfl (by rw [HUZ.out.1]; rfl) rfl HB4b.out ?_))
          go_ret
          exact ⟨rfl, HNb.out⟩
        · have HWE : Hid (errD cc = .iface 55 (.int .i64 cc)) := Lib.hid (errD_n hc0)
          rw [HWE.out]
          have HOQ : Hid (∀ keep : List Bool, openP (p2.cut keep) = k ∧ 4 ≤ (p2.cut keep).size) := Lib.hid (fun keep => ⟨by rw [(HOP.out keep).1, if_neg hc0], (HOP.out keep).2⟩)
          clear hc0 HOP
          have c0 : w6.cell? ⟨b5, 0, none⟩ = some (.int .i64 k0) := HB56.out.cell 0
          have c1 : w6.cell? ⟨b5, 1, none⟩ = some (.int .i64 k1) := HB56.out.cell 1
          have c2 : w6.cell? ⟨b5, 2, none⟩ = some (.int .i64 k2) := HB56.out.cell 2
          go_wp2_with fail
          clear c0 c1 c2
          obtain ⟨x0, hx0⟩ : ∃ x0, x0 = (k0.tmod 2 == 0) := ⟨_, rfl⟩
          obtain ⟨x1, hx1⟩ : ∃ x1, x1 = (k1.tmod 2 == 0) := ⟨_, rfl⟩
          obtain ⟨x2, hx2⟩ : ∃ x2, x2 = (k2.tmod 2 == 0) := ⟨_, rfl⟩
          rw [← hx0, ← hx1, ← hx2]
          clear hx0 hx1 hx2
          obtain ⟨w7, hw7⟩ : ∃ w7 : World, w7 = w6.alloc (.cells #[.bool x0, .bool x1, .bool x2] 4) := ⟨_, rfl⟩
          obtain ⟨b7, hb7⟩ : ∃ b7, b7 = w6.heap.size := ⟨_, rfl⟩
          have hN7 : New w6 w7 := by rw [hw7]; exact New.al (New.refl _) _
          have HB7 : Hid (Blk w7 b7 4 #[.bool x0, .bool x1, .bool x2]) := Lib.hid (by rw [hw7, hb7]; exact Blk.new _ _ _)
          have HK7 : Hid (Kpr W w7 gd gk p2 k9) := Lib.hid (HK6.out.new hN7)
          have HB47 : Hid (Blk w7 b4 48 RU) := Lib.hid (hN7.blk HB46.out)
          have HB107 : Hid (Blk w7 b10 48 k.now.cells) := Lib.hid (hN7.blk HB106.out)
          rw [← hw7, ← hb7]
          clear hw7 hb7 hN7 HB46 HB56 HB106 HK6
          refine (dcut_d HK7.out.dsk (q := fun b => b = b7) (some ⟨b7, 0, none⟩) 3 3 [x0, x1, x2] (Rd.ofBlk HB7.out 1 3 (by rfl) rfl) (by unfold maxLen; omega) (fun bs bf v hD b hb => hb ▸ blk_map HB7.out hD.ms)).mono ?_
          rintro e w8 ⟨rfl, hD, hT⟩
          have HD8 := Lib.hid hD
          have HB48 : Hid (Blk w8 b4 48 RU) := Lib.hid (hT _ _ _ HB47.out (by decide) (by decide) (by decide))
          have HB108 : Hid (Blk w8 b10 48 k.now.cells) := Lib.hid (hT _ _ _ HB107.out (by decide) (by decide) (by decide))
          clear hD hT HB47 HB107 HB7 HK7
          go_wp2_with fail
          refine (kopen_d HD8.out HL.out (HOQ.out [x0, x1, x2]).2).mono ?_
          rintro e w9 ⟨gk2, rfl, hK, hN9⟩
          rw [(HOQ.out [x0, x1, x2]).1] at hK
          have HK9 := Lib.hid hK
          have HB49 : Hid (Blk w9 b4 48 RU) := Lib.hid (hN9.blk HB48.out)
          have HB109 : Hid (Blk w9 b10 48 k.now.cells) := Lib.hid (hN9.blk HB108.out)
          clear hK hN9 HB48 HB108 HD8
          go_wp2_with fail
          refine (kget_kp HK9.out.kp).mono ?_
          rintro e wa ⟨rfl, hNa⟩
          have HKa : Hid (New W wa) := Lib.hid (HK9.out.nw.tr hNa)
          have HB4a : Hid (Blk wa b4 48 RU) := Lib.hid (hNa.blk HB49.out)
          have HB10a : Hid (Blk wa b10 48 k.now.cells) := Lib.hid (hNa.blk HB109.out)
          rw [← HBZ.out]
          clear hNa HB49 HB109 HK9
          go_upto_region 25 with ((with_reducible refine atOp ⟨some 15, .alloc _, _, _, _, _⟩ ?_); refine wpList_newrow rfl rfl rfl _ _ rfl recInfo (by rfl) rfl rfl HNZ.out.1 HNZ.out.2 ?_)
          obtain ⟨wb, hwb⟩ : ∃ wb : World, wb = wa.alloc (.cells k.now.cells 48) := ⟨_, rfl⟩
          obtain ⟨b15, hb15⟩ : ∃ b15, b15 = wa.heap.size := ⟨_, rfl⟩
          have hNb : New wa wb := by rw [hwb]; exact New.al (New.refl _) _
          have HNb : Hid (New W wb) := Lib.hid (HKa.out.tr hNb)
          have HB4b : Hid (Blk wb b4 48 RU) := Lib.hid (hNb.blk HB4a.out)
          have HB10b : Hid (Blk wb b10 48 k.now.cells) := Lib.hid (hNb.blk HB10a.out)
          have HB15 : Hid (Blk wb b15 48 k.now.cells) := Lib.hid (by rw [hwb, hb15]; exact Blk.new _ _ _)
          rw [← hwb, ← hb15]
          clear hwb hb15 hNb HKa HB4a HB10a
          have heq := HEQ2.out
          go_wp2_with (first
            | ((with_reducible refine atOp ⟨some 97, .load _ _, _, _, _, _⟩ ?_); refine wpList_load_any rfl _ rfl Tryd.underlying48 rfl (by rw [HNZ.out.1]; rfl) rfl HB15.out ?_)
            | ((with_reducible refine atOp ⟨some 98, .load _ _, _, _, _, _⟩ ?_); refine wpList_load_any rfl _ rfl Tryd.underlying48 rfl (by rw [HNZ.out.1]; rfl) rfl HB10b.out ?_))
          go_ret
          exact ⟨rfl, HNb.out⟩
theorem keeps_law {W : World} {v0 v1 v2 : Value} (o0 : ∃ (A : Option Addr) (n c : Nat) (L : List Rc), v0 = .slice A n c ∧ n ≤ maxLen ∧ L.length = n ∧ Rd (fun b => b < W.heap.size) W 37 A n (L.flatMap fun r => r.cells.toList) ∧ ∀ a ∈ L, a.Ok) (o1 : ∃ r : Rc, v1 = .agg r.cells ∧ r.Ok)
    (o2 : ∃ a b c d e : Int, v2 = .agg #[.int .i64 a, .int .i64 b, .int .i64 c, .int .i64 d, .int .i64 e] ∧ (Lit.int .i64 a).wf = true ∧ (Lit.int .i64 b).wf = true ∧ (Lit.int .i64 c).wf = true ∧ (Lit.int .i64 d).wf = true ∧ (Lit.int .i64 e).wf = true)
    (hL : laidMetH Tryd.prog [("entrust/sha.constants", Rows.laid_entrust_sha_constants), ("entrust/sha.initials", Rows.laid_entrust_sha_initials)] W) : Calls Tryd.prog 5 #[v0, v1, v2] W fun e w' => e = .returned (.bool true) ∧ Below W.heap.size W w' := by
  obtain ⟨A, n, c, L, rfl, h1, h2, h3, h4⟩ := o0
  obtain ⟨u, rfl, hu⟩ := o1
  obtain ⟨a, b, c', d, e, rfl, _, _, _, _, w4⟩ := o2
  exact keeps_walk A n c L u a b c' d e W (sha_live hL) h3 h2 h4 hu h1 w4
end Go.Proofs.YtdojmjglnlkmoaaDoor
