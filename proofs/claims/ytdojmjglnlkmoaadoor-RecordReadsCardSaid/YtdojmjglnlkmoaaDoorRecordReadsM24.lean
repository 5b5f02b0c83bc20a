/- Texts of one proof, one behind the other: ShL, RdD. No condition but each one's own. -/
import Derived.Test.YtdojmjglnlkmoaaDoorRows
import Derived.Test.YtdojmjglnlkmoaaDoorRecordReadsM8
import Derived.Test.YtdojmjglnlkmoaaDoorRecordReadsM11
import Derived.Test.YtdojmjglnlkmoaaDoorRecordReadsM23
import Derived.SevenTiedAt
import Derived.Stop.Joined
import Derived.Test.YtdojmjglnlkmoaaDoorRecordReadsM22
/- sha's tables, out of the row's list of laid variables. No condition. -/
namespace Go.Proofs.YtdojmjglnlkmoaaDoor
set_option linter.unusedVariables false
set_option linter.unusedSimpArgs false
set_option linter.constructorNameAsVariable false
open Go.RowKit Go.Sort Go.ChangeShapes Go.WideShapes Go.ChangeAt

theorem laid_u32 {W : World} {n : String} {d : DataW Unit} {r : List (String × DataW Unit)} {ps : List MemPlace} {g t N : Nat} (L : List Int) (h : DataW.LaidVars Tryd.prog W ((n, d) :: r) ps) (hg : Tryd.prog.globalNamed n = some g) (ht : (Tryd.prog.globals[g]?).map (·.type) = some t) (hu : Tryd.prog.underlying t = some (.array N 137)) (hd : d = .agg (L.map fun x => .lit (.int .u32 x))) (hl : L.length = N) :
    (∀ j, j < N → W.cell? ⟨g, j, none⟩ = some (.int .u32 (at_ L j))) ∧ ∃ ps', DataW.LaidVars Tryd.prog W r ps' := by
  obtain ⟨g', t', cs, fuel, p, q, hg', ht', hv, hd', hr, _⟩ := h
  obtain rfl := Option.some.inj (hg.symm.trans hg')
  obtain rfl := Option.some.inj (ht.symm.trans ht')
  refine ⟨fun j hj => ?_, _, hr⟩
  obtain ⟨xs, m, _, ex, _, hxl, hel⟩ := DataW.trod_array hu hd'
  have c5 : Tryd.prog.cellsOf 137 = 1 := by kernel_rfl
  have hE := hel j hj
  rw [c5, Nat.mul_one, List.getElem?_eq_getElem (by omega)] at hE
  obtain ⟨z, e1, e2, _⟩ := DataW.trod_int Tryd.underlying137 hE
  have e3 : (xs.map (·.1)) = L.map fun n => .lit (.int .u32 n) := by
    have h0 := (Prod.mk.inj ex).1
    rw [hd] at h0
    exact (DataW.agg.inj h0).symm
  have e4 : (xs.map (·.1))[j]? = (L.map fun n => (DataW.lit (.int .u32 n) : DataW Unit))[j]? := by rw [e3]
  rw [List.getElem?_map, List.getElem?_map, List.getElem?_eq_getElem (by omega : j < xs.length), List.getElem?_eq_getElem (by omega : j < L.length), e2] at e4
  have hz : z = at_ L j := by
    simp only [Option.map_some, Option.some.injEq, DataW.lit.injEq, Lit.int.injEq, true_and] at e4
    unfold at_
    rw [e4, List.getD, List.getElem?_eq_getElem (by omega : j < L.length)]
    rfl
  rw [World.var?_cell hg hv j, ← hz]
  have : cs.toList[j]? = some (.int .u32 z) := by
    have h0 : ((cs.toList.drop j).take 1)[0]? = some (.int .u32 z) := by rw [e1]; rfl
    simpa using h0
  simpa using this
theorem range_iH {W : World} {g : Nat} (h : ∀ j, j < 8 → W.cell? ⟨g, j, none⟩ = some (.int .u32 (at_ iH.list j))) : W.rangeAt g 0 iH.arr.toList := fun j v hv => by
  have hj : j < 8 := by
    have := (List.getElem?_eq_some_iff.1 hv).1
    exact this
  rw [Nat.zero_add, h j hj, ← hv]
  rcases (by omega : j = 0 ∨ j = 1 ∨ j = 2 ∨ j = 3 ∨ j = 4 ∨ j = 5 ∨ j = 6 ∨ j = 7) with rfl | rfl | rfl | rfl | rfl | rfl | rfl | rfl <;> rfl
theorem sha_both {W : World} (h : laidMetH Tryd.prog [("entrust/entrustref02.Constants", Rows.laid_entrust_entrustref02_Constants), ("entrust/entrustref02.Initials", Rows.laid_entrust_entrustref02_Initials), ("entrust/sha.constants", Rows.laid_entrust_sha_constants), ("entrust/sha.initials", Rows.laid_entrust_sha_initials)] W) : RShaIn 1 0 W ∧ ShaIn 3 2 W := by
  rw [MakeChecks.laidMetH_plain _ _ _ (by kernel_rfl)] at h
  obtain ⟨ps, h, -, -⟩ := h
  obtain ⟨h1, ps1, h⟩ := laid_u32 kL h (by kernel_rfl) (by kernel_rfl) Tryd.underlying151 rfl rfl
  obtain ⟨h2, ps2, h⟩ := laid_u32 iH.list h (by kernel_rfl) (by kernel_rfl) Tryd.underlying138 rfl rfl
  obtain ⟨h3, ps3, h⟩ := laid_u32 kL h (by kernel_rfl) (by kernel_rfl) Tryd.underlying151 rfl rfl
  obtain ⟨h4, ps4, h⟩ := laid_u32 iH.list h (by kernel_rfl) (by kernel_rfl) Tryd.underlying138 rfl rfl
  exact ⟨⟨h1, range_iH h2⟩, ⟨h3, range_iH h4⟩⟩
theorem sha_live {W : World} (h : laidMetH Tryd.prog [("entrust/sha.constants", Rows.laid_entrust_sha_constants), ("entrust/sha.initials", Rows.laid_entrust_sha_initials)] W) : ShaIn 3 2 W := by
  rw [MakeChecks.laidMetH_plain _ _ _ (by kernel_rfl)] at h
  obtain ⟨ps, h, -, -⟩ := h
  obtain ⟨h3, ps3, h⟩ := laid_u32 kL h (by kernel_rfl) (by kernel_rfl) Tryd.underlying151 rfl rfl
  obtain ⟨h4, ps4, h⟩ := laid_u32 iH.list h (by kernel_rfl) (by kernel_rfl) Tryd.underlying138 rfl rfl
  exact ⟨h3, range_iH h4⟩
end Go.Proofs.YtdojmjglnlkmoaaDoor
/- RecordReads, walked. sha's tables and the reference's are as they were laid. No condition else. -/
namespace Go.Proofs.YtdojmjglnlkmoaaDoor
set_option linter.unusedVariables false
set_option linter.unusedSimpArgs false
set_option linter.constructorNameAsVariable false
open Go.RowKit Go.Sort

theorem dwrite_d {W w : World} {gd : Nat} {p : DP} (h : Dsk W w gd p) (a : Int) {s : List Int} (hs : SecOk s) : Calls Tryd.prog 10 #[.pointer (some ⟨gd, 0, none⟩), .int .i64 a, .agg (secA s)] w fun e w' => e = .returned (errD (p.wcode a)) ∧ Dsk W w' gd (p.doWrite a s) ∧ Kpt w w' ∧ ∀ r A1 A2, RfIn w r A1 A2 → RfIn w' r A1 A2 := by
  obtain ⟨bs, bf, v, h1, h2⟩ := h
  refine (write_all h1 a hs).mono fun e w' ⟨he, v', hD, hF, hO⟩ => ⟨he, ⟨bs, bf, v', hD, h2.fr hF (fun k hk => (h1.ours k hk).1)⟩, Kpt.dk h1 hF, fun r A1 A2 hr => hr.fr hF (dk_not h1)⟩
theorem index_sec4 {X : List Int} (hX : X.length = 256) {j : Nat} (hj : j < 4) (w : World) : (Instr.index 24 (.agg (secA X)) (.int .i64 (j : Int))).run Tryd.prog w = .ok (.agg (secA ((X.drop (64 * j)).take 64))) w := by
  have h1 : (isAgg 23).run Tryd.prog w = .ok true w := by simp [isAgg, run_underlying Tryd.underlying23]
  have h2 : (sizeOf 23).run Tryd.prog w = .ok 64 w := by
    have := secInfo
    cases hq : Tryd.prog.info? 23 with
    | none => rw [hq] at this; cases this
    | some i => rw [hq] at this; simp only [Option.map_some, Option.some.injEq, Prod.mk.injEq] at this; simp [sizeOf, typeInfo, hq, this.2]
  have e : (secA X).extract (j * 64) (j * 64 + 64) = secA ((X.drop (64 * j)).take 64) := by
    unfold secA u8s
    rw [List.extract_toArray, List.extract_eq_take_drop, Nat.add_sub_cancel_left, Nat.mul_comm, ← List.map_drop, ← List.map_take]
  have hp : (part 23 (secA X) (j * 64)).run Tryd.prog w = .ok (.agg (secA ((X.drop (64 * j)).take 64))) w := by
    unfold part
    simp [Sem.run_bind, h1, h2, e]
  have hn : (j : Int) < 4 := by omega
  simp [Instr.index, run_underlying Tryd.underlying24, asIntOf, h2, hp, hn, go_sem]
  rw [if_pos hj, e]
def sec4 (X : List Int) (j : Nat) : List Int := (X.drop (64 * j)).take 64
theorem sec4_ok {X : List Int} (h : X.length = 256) (hb : Byt X) {j : Nat} (hj : j < 4) : SecOk (sec4 X j) := ⟨by unfold sec4; rw [List.length_take, List.length_drop]; omega, fun x hx => hb x (List.mem_of_mem_drop (List.mem_of_mem_take hx))⟩
/-- Both disks behind so many writes. -/
def dkN (X : List Int) : Nat → DP
  | 0 => DP.new 4
  | k + 1 => (dkN X k).doWrite ((k : Nat) : Int) (sec4 X k)
def rfN (X : List Int) : Nat → RP
  | 0 => RP.new 4
  | k + 1 => (rfN X k).write ((k : Nat) : Int) (sec4 X k)
theorem dkN_mt (X : List Int) : ∀ k, Mt (dkN X k) (rfN X k)
  | 0 => Mt.new 4
  | k + 1 => (dkN_mt X k).write _ _
theorem dkN_size (X : List Int) : ∀ k, (dkN X k).size = 4
  | 0 => rfl
  | k + 1 => by show ((dkN X k).doWrite _ _).size = 4; rw [DP.doWrite_size, dkN_size X k]
theorem dkN_up (X : List Int) : ∀ k, (dkN X k).fuse = -1 ∧ (dkN X k).down = false
  | 0 => ⟨rfl, rfl⟩
  | k + 1 => by
    obtain ⟨h1, h2⟩ := dkN_up X k
    show ((dkN X k).doWrite _ _).fuse = -1 ∧ ((dkN X k).doWrite _ _).down = false
    unfold DP.doWrite
    split
    · rw [if_neg (by rw [h1, h2]; decide)]
      refine ⟨?_, h2⟩
      show (if 0 < (dkN X k).fuse then (dkN X k).fuse - 1 else (dkN X k).fuse) = -1
      rw [h1]; rfl
    · exact ⟨h1, h2⟩
theorem dkN_code (X : List Int) {k : Nat} (hk : k < 4) : (dkN X k).wcode ((k : Nat) : Int) = 0 := by
  obtain ⟨h1, h2⟩ := dkN_up X k
  unfold DP.wcode
  rw [if_pos (by unfold DP.within; rw [dkN_size]; exact decide_eq_true (by omega)), if_neg (by rw [h1, h2]; decide)]
theorem rfN_tot (X : List Int) : ∀ k, (rfN X k).tot ≤ k
  | 0 => Nat.le_refl _
  | k + 1 => by have h1 := RP.tot_write (rfN X k) ((k : Nat) : Int) (sec4 X k); have h2 := rfN_tot X k; show ((rfN X k).write _ _).tot ≤ k + 1; omega
def rc1 : Rc := ⟨List.replicate 32 0, 1, 0, 1, 1, 0⟩
theorem rc1_ok : rc1.Ok := ⟨by simp [rc1], fun x hx => by simp [rc1] at hx; omega, by decide, by decide, by decide, by decide, by decide⟩
theorem rc1_right : rc1.Right := ⟨by decide, by decide, by decide, by decide, by decide⟩
theorem built_rc1 : Tryd.prog.built 48 [(1, .int .u64 1), (3, .int .u64 1), (4, .int .u64 1)] = some rc1.cells := by kernel_rfl
theorem openP_nb (p : DP) : (openP p).broken = false := by
  unfold openP
  rw [(takeK_num _ _ _).2, (takeK_num _ _ _).2]
  rfl
theorem save_rc1 {p : DP} (hz : p.size = 4) (hf : p.fuse = -1) (hd : p.down = false) : (saveP p (openP p) rc1).2.2 = if (openP p).number = 18446744073709551615 then 9 else 0 := by
  unfold saveP
  rw [if_neg (fun h => h rc1_right), if_neg (by rw [openP_nb]; decide)]
  by_cases h : (openP p).number = 18446744073709551615
  · rw [if_pos h, if_pos h]
  · rw [if_neg h, if_neg h, writeP_ok (by omega) hd (by rw [hf]; decide) (by rw [hf]; decide)]
    rfl
section
open Go.ChangeShapes Go.WideShapes
variable {H : Type} {enc : TypeId × Value → H} {w : World}
set_option maxRecDepth 100000 in
theorem open_four {r : Reach} {b0 : Nat} {v : Value} {d : DataW H} {p : List MemPlace} (hv : Value.okWide Tryd.prog w r b0 24 v) (h : DataW.Trod enc Tryd.prog w 0 (fun _ => true) true 24 v d p) : ∃ X : List Int, v = .agg (secA X) ∧ X.length = 256 ∧ Byt X := by
  obtain ⟨a, rfl, hsz⟩ := okWide_array Tryd.underlying24 hv
  obtain ⟨fuel, hf⟩ := h
  obtain ⟨xs, m, _, _, _, hl, hg⟩ := DataW.trod_array Tryd.underlying24 hf
  have hc : Tryd.prog.cellsOf 23 = 64 := by kernel_rfl
  have h256 : a.toList.length = 256 := by
    have : Tryd.prog.cellsOf 24 = 256 := by kernel_rfl
    rw [Array.length_toList, hsz, this]
  have key : ∀ i, i < 4 → ∃ s, (a.toList.drop (64 * i)).take 64 = u8s s ∧ SecOk s := fun i hi => by
    have h1 := hg i hi
    rw [hc] at h1
    have hx : i < xs.length := by omega
    rw [List.getElem?_eq_getElem hx, show (Value.agg a).cells.toList = a.toList from rfl, Nat.mul_comm i 64] at h1
    exact trod_secs (by rw [List.length_take, List.length_drop]; omega) h1
  obtain ⟨s0, e0, o0⟩ := key 0 (by omega)
  obtain ⟨s1, e1, o1⟩ := key 1 (by omega)
  obtain ⟨s2, e2, o2⟩ := key 2 (by omega)
  obtain ⟨s3, e3, o3⟩ := key 3 (by omega)
  have ea : a.toList = u8s (s0 ++ (s1 ++ (s2 ++ s3))) := by
    have d1 := (List.take_append_drop 64 a.toList).symm
    have d2 := (List.take_append_drop 64 (a.toList.drop 64)).symm
    have d3 := (List.take_append_drop 64 (a.toList.drop 128)).symm
    rw [List.drop_drop] at d2 d3
    have e3' : a.toList.drop 192 = u8s s3 := by rw [← e3, List.take_of_length_le (by rw [List.length_drop]; omega)]
    have e0' : a.toList.take 64 = u8s s0 := e0
    have e1' : (a.toList.drop 64).take 64 = u8s s1 := e1
    have e2' : (a.toList.drop 128).take 64 = u8s s2 := e2
    rw [d1, e0', d2, e1', show 64 + 64 = 128 from rfl, d3, e2', show 128 + 64 = 192 from rfl, e3']
    unfold u8s
    simp
  refine ⟨s0 ++ (s1 ++ (s2 ++ s3)), ?_, ?_, ?_⟩
  · congr 1
    unfold secA
    rw [← ea]
  · simp [o0.1, o1.1, o2.1, o3.1]
  · intro x hx
    simp only [List.mem_append] at hx
    rcases hx with hx | hx | hx | hx
    · exact o0.2 x hx
    · exact o1.2 x hx
    · exact o2.2 x hx
    · exact o3.2 x hx
end
theorem is_errD' (c k : Int) (w : World) : Calls Tryd.prog 18 #[errD c, .int .i64 k] w fun e w' => e = .returned (.bool (c == k)) ∧ w = w' := by
  by_cases h : c = 0
  · subst h
    exact is_nil k w
  · rw [errD_n h]
    exact is_err c k w (by rw [beq_eq_false_iff_ne]; exact h)
set_option maxHeartbeats 4000000
set_option maxRecDepth 100000
theorem reads_walk (X : List Int) (hX : X.length = 256) (hb : Byt X) (W : World) (hL : ShaIn 3 2 W) (hR : RShaIn 1 0 W) :
    Calls Tryd.prog 3 #[.agg (secA X)] W fun e w' => e = .returned (.bool true) ∧ New W w' := by
  have HL := Lib.hid hL
  have HR := Lib.hid hR
  have HX := Lib.hid hX
  have HB := Lib.hid hb
  obtain ⟨XA, hXA⟩ : ∃ XA, XA = secA X := ⟨_, rfl⟩
  have HXA := Lib.hid hXA
  have HXZ : Hid (XA.size = 256) := Lib.hid (by rw [hXA, secA_size, hX])
  rw [← hXA]
  clear hL hR hX hb hXA
  go_enter Tryd.func3, Tryd.ntmps3
  go_upto_region 1 with fail
  obtain ⟨w0, hw0⟩ : ∃ w0 : World, w0 = W.alloc (.cells XA 24) := ⟨_, rfl⟩
  obtain ⟨b1, hb1⟩ : ∃ b1, b1 = W.heap.size := ⟨_, rfl⟩
  have HN0 : Hid (New W w0) := Lib.hid (by rw [hw0]; exact New.al (New.refl _) _)
  have HB1 : Hid (Blk w0 b1 24 XA) := Lib.hid (by rw [hw0, hb1]; exact Blk.new _ _ _)
  rw [← hw0, ← hb1]
  clear hw0 hb1
  go_wp2_with fail
  refine (alive_any w0 (HL.out.new HN0.out)).mono ?_
  rintro e w1 ⟨rfl, hN⟩
  have HN1 : Hid (New W w1) := Lib.hid (HN0.out.tr hN)
  have HB11 : Hid (Blk w1 b1 24 XA) := Lib.hid (hN.blk HB1.out)
  clear hN HN0 HB1
  go_wp2_with fail
  refine (dnew_d HN1.out 4 (by omega) (by omega)).mono ?_
  rintro e w2 ⟨gd, rfl, hD, hN⟩
  have HD : Hid (Dsk W w2 gd (dkN X 0)) := Lib.hid hD
  have HB12 : Hid (Blk w2 b1 24 XA) := Lib.hid (hN.blk HB11.out)
  clear hN hD HB11 HN1
  go_wp2_with fail
  refine (rnew_any 4 w2).mono ?_
  rintro e w3 ⟨rfl, hN⟩
  have HD3 : Hid (Dsk W w3 gd (dkN X 0)) := Lib.hid (HD.out.new hN)
  have HB13 : Hid (Blk w3 b1 24 XA) := Lib.hid (hN.blk HB12.out)
  have HRF : Hid (RfIn w3 (rfN X 0) none none) := Lib.hid ⟨RdT.nil, RdT.nil, by show (RP.new 4).Ok; simp [RP.new, RP.Ok]⟩
  obtain ⟨RV, hRV⟩ : ∃ RV, RV = RfV (RP.new 4) none 0 none 0 := ⟨_, rfl⟩
  have HRV := Lib.hid hRV
  have HRVZ : Hid (RV.size = 5 ∧ RV.all (·.oneCell') = true) := Lib.hid (by rw [hRV]; exact ⟨rfl, rf_one _ _ _ _ _ _ _ _ _⟩)
  rw [← hRV]
  clear hN hRV HD HB12
  go_upto_region 7 with ((with_reducible refine atOp ⟨some 5, .alloc _, _, _, _, _⟩ ?_); refine wpList_newrow rfl rfl rfl _ _ rfl rInfo (by rfl) rfl rfl HRVZ.out.1 HRVZ.out.2 ?_)
  obtain ⟨w4, hw4⟩ : ∃ w4 : World, w4 = w3.alloc (.cells RV 33) := ⟨_, rfl⟩
  obtain ⟨b5, hb5⟩ : ∃ b5, b5 = w3.heap.size := ⟨_, rfl⟩
  have hN4 : New w3 w4 := by rw [hw4]; exact New.al (New.refl _) _
  have HD4 : Hid (Dsk W w4 gd (dkN X 0)) := Lib.hid (HD3.out.new hN4)
  have HRF4 : Hid (RfIn w4 (rfN X 0) none none) := Lib.hid (HRF.out.new hN4)
  have HB14 : Hid (Blk w4 b1 24 XA) := Lib.hid (hN4.blk HB13.out)
  have HB5 : Hid (Blk w4 b5 33 (RfV (rfN X 0) none 0 none 0)) := Lib.hid (by rw [hw4, hb5, HRV.out]; exact Blk.new _ _ _)
  have HLT : Hid (W.heap.size ≤ b5) := Lib.hid (by rw [hb5]; exact HD3.out.nw.size)
  rw [← hw4, ← hb5]
  clear hw4 hb5 hN4 HD3 HRF HB13 HRV HRVZ
  go_wp2_with ((with_reducible refine atOp ⟨some 23, .load _ _, _, _, _, _⟩ ?_); refine wpList_load_any rfl _ rfl Tryd.underlying24 rfl (by rw [HXZ.out]; rfl) rfl HB14.out ?_)
  go_loopw [24] (fun i wr => ∃ (j : Nat) (A1 : Option Addr) (c1 : Nat) (A2 : Option Addr) (c2 : Nat), Hid (j ≤ 4) ∧ i = .int .i64 (j : Int) ∧ Hid (Dsk W wr gd (dkN X j)) ∧ Hid (RfIn wr (rfN X j) A1 A2) ∧ Hid (Blk wr b5 33 (RfV (rfN X j) A1 c1 A2 c2))) (fun i _ => 4 - (intOf i).toNat)
  case atStart => exact ⟨0, none, 0, none, 0, Lib.hid (by omega), rfl, HD4, HRF4, HB5⟩
  case round =>
    clear HD4 HRF4 HB14 HB5
    obtain ⟨j, A1, c1, A2, c2, HJ, rfl, HD, HRF, HB5⟩ := hrel
    by_cases hj : j < 4
    · have hlt : (j : Int) < 4 := by omega
      have e1 : IntKind.i64.wrap ((j : Int) + 1) = (j : Int) + 1 := IntWalk.i64_in _ (by omega)
      have HJ2 := Lib.hid hj
      have hix : ∀ w, (Instr.index 24 (.agg XA) (.int .i64 (j : Int))).run Tryd.prog w = .ok (.agg (secA (sec4 X j))) w := fun w => by rw [HXA.out]; exact index_sec4 HX.out hj w
      have HSO : Hid (SecOk (sec4 X j)) := Lib.hid (sec4_ok HX.out HB.out hj)
      obtain ⟨s, hs⟩ : ∃ s, s = sec4 X j := ⟨_, rfl⟩
      have HS := Lib.hid hs
      simp only [← hs] at hix
      rw [← hs] at HSO
      have HSZ : Hid ((secA s).size = 64) := Lib.hid (by rw [secA_size, HSO.out.1])
      obtain ⟨RV, hRV⟩ : ∃ RV, RV = RfV (rfN X j) A1 c1 A2 c2 := ⟨_, rfl⟩
      have HRV := Lib.hid hRV
      have HRVZ : Hid (RV.size = 5) := Lib.hid (by rw [hRV]; rfl)
      rw [← hRV] at HB5
      clear hj hs hRV
      go_upto_region 10 with (first
        | ((with_reducible refine atOp ⟨some 7, .alloc _, _, _, _, _⟩ ?_); refine wpList_alloc_row rfl rfl secInfo ?_; intro b7 w5 hb hB hN; have HB7 := Lib.hid hB; have HN5 := Lib.hid hN; have HZ7 := Lib.hid hb; clear hb hB hN)
        | ((with_reducible refine atOp ⟨none, .store 23 (.tmp 7) _, _, _, _, _⟩ ?_); refine wpList_store_any rfl (.tmp 7) (.tmp 27) rfl (by rw [HSZ.out]; rfl) rfl rfl HB7.out (by rw [HSZ.out, secA_size]; rfl) (secA_one _) ?_; intro w6 hb hf; have HB76 := Lib.hid hb; have HF6 := Lib.hid hf; clear hb hf))
      have HL7 : Hid (wr.heap.size ≤ b7 ∧ b5 ≠ b7) := Lib.hid (by have h1 := HZ7.out; have h2 := HB5.out.lt; omega)
      have HN6 : Hid (New wr w6) := Lib.hid (HN5.out.fr HF6.out (fun k hk => by have := HL7.out; omega))
      have HD6 : Hid (Dsk W w6 gd (dkN X j)) := Lib.hid (HD.out.new HN6.out)
      have HRF6 : Hid (RfIn w6 (rfN X j) A1 A2) := Lib.hid (HRF.out.new HN6.out)
      have HB56 : Hid (Blk w6 b5 33 RV) := Lib.hid (HN6.out.blk HB5.out)
      clear HB7 HN5 HZ7 HF6 HN6 HD HRF HB5 hix
      go_wp2_with ((with_reducible refine atOp ⟨some 30, .load _ _, _, _, _, _⟩ ?_); refine wpList_load_any rfl _ rfl Tryd.underlying23 rfl (by rw [HSZ.out]; rfl) rfl HB76.out ?_)
      refine (dwrite_d HD6.out (j : Int) HSO.out).mono ?_
      rintro e w7 ⟨rfl, hD, hT, hRf⟩
      rw [dkN_code X HJ2.out, errD_0]
      have HD7 : Hid (Dsk W w7 gd (dkN X (j + 1))) := Lib.hid (by show Dsk W w7 gd ((dkN X j).doWrite _ _); rw [← HS.out]; exact hD)
      have HRF7 : Hid (RfIn w7 (rfN X j) A1 A2) := Lib.hid (hRf _ _ _ HRF6.out)
      have HB57 : Hid (Blk w7 b5 33 RV) := Lib.hid (hT _ _ _ HB56.out (by decide) (by decide) (by decide))
      have HB77 : Hid (Blk w7 b7 23 (secA s)) := Lib.hid (hT _ _ _ HB76.out (by decide) (by decide) (by decide))
      clear hD hT hRf HD6 HRF6 HB56 HB76
      go_wp2_with (first
        | ((with_reducible refine atOp ⟨some 34, .load _ _, _, _, _, _⟩ ?_); refine wpList_load_any rfl _ rfl Tryd.underlying33 rfl (by rw [HRVZ.out]; rfl) rfl HB57.out ?_)
        | ((with_reducible refine atOp ⟨some 36, .load _ _, _, _, _, _⟩ ?_); refine wpList_load_any rfl _ rfl Tryd.underlying23 rfl (by rw [HSZ.out]; rfl) rfl HB77.out ?_))
      rw [HRV.out]
      have HMJ : Hid (Mt (dkN X j) (rfN X j)) := Lib.hid (dkN_mt X j)
      refine (rwrite_any (rfN X j) A1 c1 A2 c2 (j : Int) s w7 HRF7.out HSO.out (by have h1 := rfN_tot X j; have := HJ2.out; omega) (WalkArith.wf_i64 (by have := HJ2.out; omega)) (by rw [HMJ.out.fuse, (dkN_up X j).1]; rfl) (by rw [HMJ.out.size, dkN_size]; omega)).mono ?_
      rintro e w8 ⟨⟨B1, d1, B2, d2, rfl, hR8⟩, hN8⟩
      rw [← HRV.out]
      have HRF8 : Hid (RfIn w8 (rfN X (j + 1)) B1 B2) := Lib.hid (by show RfIn w8 ((rfN X j).write _ _) B1 B2; rw [← HS.out]; exact hR8)
      have HD8 : Hid (Dsk W w8 gd (dkN X (j + 1))) := Lib.hid (HD7.out.new hN8)
      have HB58 : Hid (Blk w8 b5 33 RV) := Lib.hid (hN8.blk HB57.out)
      obtain ⟨RW, hRW⟩ : ∃ RW, RW = RfV ((rfN X j).write (j : Int) s) B1 d1 B2 d2 := ⟨_, rfl⟩
      have HRW : Hid (RW = RfV (rfN X (j + 1)) B1 d1 B2 d2 ∧ RW.size = 5 ∧ RW.all (·.oneCell') = true) := Lib.hid ⟨by rw [hRW, HS.out]; rfl, by rw [hRW]; rfl, by rw [hRW]; exact rf_one _ _ _ _ _ _ _ _ _⟩
      rw [← hRW]
      clear hR8 hN8 HD7 HRF7 HB57 HB77 hRW HMJ
      go_wp2_with ((with_reducible refine atOp ⟨none, .store 33 (.tmp 5) _, _, _, _, _⟩ ?_); refine wpList_store_any rfl (.tmp 5) (.tmp 38) rfl (by rw [HRW.out.2.1]; rfl) rfl rfl HB58.out (by rw [HRVZ.out, HRW.out.2.1]) HRW.out.2.2 ?_; intro w9 hb hf; have HB9 := Lib.hid hb; have HF9 := Lib.hid hf; clear hb hf)
      go_roundw
      case rel => exact ⟨j + 1, B1, d1, B2, d2, Lib.hid (by have := HJ2.out; omega), by go_num, Lib.hid (by
        obtain ⟨bs, bf, v, h1, h2⟩ := HD8.out
        exact ⟨bs, bf, v, h1.fr HF9.out (fun k hk => hk ▸ dk_notBlk h1 HB58.out (fun e => Blk.ne_ HB58.out h1.blk (by decide) e) (by decide)), h2.fr HF9.out (fun k hk => by have := HLT.out; omega)⟩),
        Lib.hid (HRF8.out.fr HF9.out (fun k hk => hk ▸ IsT.not_blk HB58.out (by decide))), Lib.hid (by rw [← HRW.out.1]; exact HB9.out)⟩
      case measure => simp [intOf]; have := HJ2.out; omega
    · have hge : ¬ ((j : Int) < 4) := by omega
      obtain rfl : j = 4 := by have := HJ.out; omega
      have HMT : Hid (Mt (dkN X 4) (rfN X 4) ∧ (dkN X 4).size = 4 ∧ (dkN X 4).fuse = -1 ∧ (dkN X 4).down = false ∧ (rfN X 4).tot ≤ 4) := Lib.hid ⟨dkN_mt X 4, dkN_size X 4, (dkN_up X 4).1, (dkN_up X 4).2, rfN_tot X 4⟩
      obtain ⟨p, hp⟩ : ∃ p, p = dkN X 4 := ⟨_, rfl⟩
      obtain ⟨r, hr⟩ : ∃ r, r = rfN X 4 := ⟨_, rfl⟩
      rw [← hp] at HMT HD
      rw [← hr] at HMT HRF HB5
      clear hp hr hj
      go_wp2_with fail
      refine (kopen_d HD.out HL.out (by rw [HMT.out.2.1]; omega)).mono ?_
      rintro e w5 ⟨gk, rfl, hK, hN5⟩
      have HK := Lib.hid hK
      have HRF5 : Hid (RfIn w5 r A1 A2) := Lib.hid (HRF.out.new hN5)
      have HB55 : Hid (Blk w5 b5 33 (RfV r A1 c1 A2 c2)) := Lib.hid (hN5.blk HB5.out)
      have HKO : Hid ((openP p).Ok) := Lib.hid hK.kp.ok
      have HSV : Hid ((saveP p (openP p) rc1).2.2 = if (openP p).number = 18446744073709551615 then 9 else 0) := Lib.hid (save_rc1 HMT.out.2.1 HMT.out.2.2.1 HMT.out.2.2.2.1)
      clear hK hN5 HRF HB5 HD
      obtain ⟨RV, hRV⟩ : ∃ RV, RV = RfV r A1 c1 A2 c2 := ⟨_, rfl⟩
      have HRV := Lib.hid hRV
      have HRVZ : Hid (RV.size = 5) := Lib.hid (by rw [hRV]; rfl)
      rw [← hRV] at HB55
      clear hRV
      go_wp2_with ((with_reducible refine atOp ⟨some 49, .load _ _, _, _, _, _⟩ ?_); refine wpList_load_any rfl _ rfl Tryd.underlying33 rfl (by rw [HRVZ.out]; rfl) rfl HB55.out ?_)
      rw [HRV.out]
      refine (rgetr_any c1 c2 HRF5.out HMT.out.1 HK.out.dsk.ok (HR.out.new HK.out.nw) (by have := HMT.out.2.2.2.2; omega) (by rw [HMT.out.2.1]; omega)).mono ?_
      rintro e w6 ⟨rfl, hN6⟩
      rw [← HRV.out]
      obtain ⟨k, hk⟩ : ∃ k, k = openP p := ⟨_, rfl⟩
      rw [← hk] at HKO HSV HK ⊢
      have HK6 : Hid (Kpr W w6 gd gk p k) := Lib.hid (HK.out.new hN6)
      obtain ⟨NC, hNC⟩ : ∃ NC, NC = k.now.cells := ⟨_, rfl⟩
      have HNC := Lib.hid hNC
      have HNCZ : Hid (NC.size = 37 ∧ NC.all (·.oneCell') = true) := Lib.hid (by rw [hNC]; exact ⟨Rc.size HKO.out.now.len, Rc.one _⟩)
      obtain ⟨num, hnum⟩ : ∃ num, num = k.number := ⟨_, rfl⟩
      have HNUM := Lib.hid hnum
      rw [← hnum] at HSV ⊢
      rw [← hNC]
      clear hN6 HK hk hNC hnum HRF5 HB55
      go_upto_region 18 with (first
        | ((with_reducible refine atOp ⟨some 10, .alloc _, _, _, _, _⟩ ?_); refine wpList_alloc_row rfl rfl refInfo ?_; intro b10 w7 hb hB hN; have HB10 := Lib.hid hB; have HN7 := Lib.hid hN; have HZ10 := Lib.hid hb; clear hb hB hN)
        | ((with_reducible refine atOp ⟨none, .store 45 (.tmp 10) _, _, _, _, _⟩ ?_); refine wpList_store_any rfl (.tmp 10) (.tmp 52) rfl (by rw [HNCZ.out.1]; rfl) rfl rfl HB10.out (by rw [HNCZ.out.1]; rfl) HNCZ.out.2 ?_; intro w8 hb hf; have HB108 := Lib.hid hb; have HF8 := Lib.hid hf; clear hb hf))
      have HN8 : Hid (New w6 w8) := Lib.hid (HN7.out.fr HF8.out (fun x hx => by have := HZ10.out; omega))
      have HK8 : Hid (Kpr W w8 gd gk p k) := Lib.hid (HK6.out.new HN8.out)
      clear HN7 HF8 HB10 HZ10 HK6 HN8
      go_wp2_with fail
      refine (kget_kp HK8.out.kp).mono ?_
      rintro e w9 ⟨rfl, hN9⟩
      rw [← HNUM.out, ← HNC.out]
      have HK9 : Hid (Kpr W w9 gd gk p k) := Lib.hid (HK8.out.new hN9)
      have HB109 : Hid (Blk w9 b10 45 NC) := Lib.hid (hN9.blk HB108.out)
      obtain ⟨pz, hpz⟩ : ∃ pz, pz = decide (0 < num) := ⟨_, rfl⟩
      have hpz2 : decide (0 < num) = pz := hpz.symm
      rw [← hpz]
      clear hN9 HK8 HB108 hpz
      go_upto_region 19 with ((with_reducible refine atOp ⟨some 11, .alloc _, _, _, _, _⟩ ?_); refine wpList_newrow rfl rfl rfl _ _ rfl recInfo (by rfl) rfl rfl HNCZ.out.1 HNCZ.out.2 ?_)
      obtain ⟨wa, hwa⟩ : ∃ wa : World, wa = w9.alloc (.cells NC 48) := ⟨_, rfl⟩
      obtain ⟨b11, hb11⟩ : ∃ b11, b11 = w9.heap.size := ⟨_, rfl⟩
      have hNa : New w9 wa := by rw [hwa]; exact New.al (New.refl _) _
      have HKa : Hid (Kpr W wa gd gk p k) := Lib.hid (HK9.out.new hNa)
      have HB10a : Hid (Blk wa b10 45 NC) := Lib.hid (hNa.blk HB109.out)
      have HB11 : Hid (Blk wa b11 48 NC) := Lib.hid (by rw [hwa, hb11]; exact Blk.new _ _ _)
      rw [← hwa, ← hb11]
      clear hwa hb11 hNa HK9 HB109
      rcases pz with _ | _
      · refine wp_region_mixH (New wa) [(true, 0), (true, 1), (true, 2), (true, 3), (true, 4), (true, 5), (true, 7), (false, 6), (true, 8), (true, 9), (true, 10), (true, 11), (true, 13), (false, 12), (true, 14), (true, 15)] (by kernel_rfl) (by kernel_rfl) (New.dr (New.refl wa)) (fun hne => ?_)
        iterate 5 (refine mix_take (o := ⟨_, _, _, _, _, _⟩) rfl (fun K hK => ?_); go_simp; refine hK _ ?_; clear hK K)
        refine mix_take_row (o := ⟨_, _, _, _, _, _⟩) (cs := NC.toList) rfl rfl _ rfl rfl (fun w' h => (h.blk HB11.out).rangeOf) Tryd.underlying48 rfl (by rw [Array.length_toList, HNCZ.out.1]; rfl) ?_
        refine mix_take_row (o := ⟨_, _, _, _, _, _⟩) (cs := NC.toList) rfl rfl _ rfl rfl (fun w' h => (h.blk HB10a.out).rangeOf) Tryd.underlying45 rfl (by rw [Array.length_toList, HNCZ.out.1]; rfl) ?_
        refine mix_act (o := ⟨_, _, _, _, _, _⟩) rfl (fun K hK => ?_) (.inl rfl)
        go_simp
        rw [HNC.out]
        refine (document_any k.now wa.drew HKO.out.now).mono ?_
        rintro e wb ⟨rfl, hNb⟩
        rw [← HNC.out]
        have HNb : Hid (New wa wb) := Lib.hid ((New.dr (New.refl wa)).tr hNb)
        clear hNb
        go_simp
        refine hK.out _ _ (fun _ => HNb.out) ?_
        clear hK K
        have heq : ∀ W, (binOp .neq 45 (.agg NC) (.agg NC)).run Tryd.prog W = .ok (.bool false) W := fun W => by
          have h := neq_ref HKO.out.now HKO.out.now W
          rw [← HNC.out] at h
          simpa using h
        iterate 5 (refine mix_take (o := ⟨_, _, _, _, _, _⟩) rfl (fun K hK => ?_); go_simp; refine hK _ ?_; clear hK K)
        clear heq
        refine mix_act (o := ⟨_, _, _, _, _, _⟩) rfl (fun K hK => ?_) (.inl rfl)
        go_simp
        refine (number_kp (HKa.out.new HNb.out).kp).mono ?_
        rintro e wc ⟨rfl, rfl⟩
        rw [← HNUM.out]
        go_simp
        refine hK.out _ _ (fun _ => HNb.out) ?_
        clear hK K
        iterate 2 (refine mix_take (o := ⟨_, _, _, _, _, _⟩) rfl (fun K hK => ?_); go_simp; refine hK _ ?_; clear hK K)
        refine mix_done ?_
        have HKb : Hid (Kpr W wb gd gk p k) := Lib.hid (HKa.out.new HNb.out)
        have HBR := Lib.hid built_rc1
        obtain ⟨R1, hR1⟩ : ∃ R1, R1 = rc1.cells := ⟨_, rfl⟩
        have HR1 := Lib.hid hR1
        rw [← hR1] at HBR
        clear hR1 HKa HB10a HB11 hpz2
        go_wp2_with ((with_reducible refine atOp ⟨some 75, .build _ _, _, _, _, _⟩ ?_); refine wpList_built rfl _ [(1, .const (.int .u64 1)), (3, .const (.int .u64 1)), (4, .const (.int .u64 1))] rfl _ rfl _ HBR.out ?_)
        rw [HR1.out]
        refine (ksave_d HKb.out HL.out rc1 rc1_ok).mono ?_
        rintro e wd ⟨rfl, hK, -⟩
        rw [HSV.out, ← HR1.out]
        have HNd : Hid (New W wd) := Lib.hid hK.nw
        clear hK HKb
        by_cases hm : num = 18446744073709551615
        · rw [if_pos hm]
          have hq : ((num : Int) == 18446744073709551615) = true := by rw [hm]; rfl
          have HE9 : Hid (errD 9 = .iface 55 (.int .i64 9)) := Lib.hid (errD_n (by decide))
          rw [HE9.out]
          clear hm
          go_wp2_with fail
          refine (is_err 9 9 wd (by decide)).mono ?_
          rintro e we ⟨rfl, rfl⟩
          rw [show ((9 : Int) == 9) = true from rfl]
          go_wp2_with fail
          go_ret
          exact ⟨rfl, HNd.out⟩
        · rw [if_neg hm, errD_0]
          have hq : ((num : Int) == 18446744073709551615) = false := by rw [beq_eq_false_iff_ne]; omega
          clear hm
          go_wp2_with fail
          refine (is_nil 9 wd).mono ?_
          rintro e we ⟨rfl, rfl⟩
          rw [show ((0 : Int) == 9) = false from rfl]
          go_wp2_with fail
          go_ret
          exact ⟨rfl, HNd.out⟩
      · refine wp_region_mixH (New wa) [(true, 0), (true, 1), (true, 2), (true, 3), (true, 4), (true, 5), (true, 7), (false, 6), (true, 8), (true, 9), (true, 10), (true, 11), (true, 13), (false, 12), (true, 14), (true, 15)] (by kernel_rfl) (by kernel_rfl) (New.dr (New.refl wa)) (fun hne => ?_)
        iterate 5 (refine mix_take (o := ⟨_, _, _, _, _, _⟩) rfl (fun K hK => ?_); go_simp; refine hK _ ?_; clear hK K)
        refine mix_take_row (o := ⟨_, _, _, _, _, _⟩) (cs := NC.toList) rfl rfl _ rfl rfl (fun w' h => (h.blk HB11.out).rangeOf) Tryd.underlying48 rfl (by rw [Array.length_toList, HNCZ.out.1]; rfl) ?_
        refine mix_take_row (o := ⟨_, _, _, _, _, _⟩) (cs := NC.toList) rfl rfl _ rfl rfl (fun w' h => (h.blk HB10a.out).rangeOf) Tryd.underlying45 rfl (by rw [Array.length_toList, HNCZ.out.1]; rfl) ?_
        refine mix_act (o := ⟨_, _, _, _, _, _⟩) rfl (fun K hK => ?_) (.inl rfl)
        go_simp
        rw [HNC.out]
        refine (document_any k.now wa.drew HKO.out.now).mono ?_
        rintro e wb ⟨rfl, hNb⟩
        rw [← HNC.out]
        have HNb : Hid (New wa wb) := Lib.hid ((New.dr (New.refl wa)).tr hNb)
        clear hNb
        go_simp
        refine hK.out _ _ (fun _ => HNb.out) ?_
        clear hK K
        have heq : ∀ W, (binOp .neq 45 (.agg NC) (.agg NC)).run Tryd.prog W = .ok (.bool false) W := fun W => by
          have h := neq_ref HKO.out.now HKO.out.now W
          rw [← HNC.out] at h
          simpa using h
        iterate 5 (refine mix_take (o := ⟨_, _, _, _, _, _⟩) rfl (fun K hK => ?_); go_simp; refine hK _ ?_; clear hK K)
        clear heq
        refine mix_act (o := ⟨_, _, _, _, _, _⟩) rfl (fun K hK => ?_) (.inl rfl)
        go_simp
        refine (number_kp (HKa.out.new HNb.out).kp).mono ?_
        rintro e wc ⟨rfl, rfl⟩
        rw [← HNUM.out]
        go_simp
        refine hK.out _ _ (fun _ => HNb.out) ?_
        clear hK K
        iterate 2 (refine mix_take (o := ⟨_, _, _, _, _, _⟩) rfl (fun K hK => ?_); go_simp; refine hK _ ?_; clear hK K)
        refine mix_done ?_
        have HKb : Hid (Kpr W wb gd gk p k) := Lib.hid (HKa.out.new HNb.out)
        have HBR := Lib.hid built_rc1
        obtain ⟨R1, hR1⟩ : ∃ R1, R1 = rc1.cells := ⟨_, rfl⟩
        have HR1 := Lib.hid hR1
        rw [← hR1] at HBR
        clear hR1 HKa HB10a HB11 hpz2
        go_wp2_with ((with_reducible refine atOp ⟨some 75, .build _ _, _, _, _, _⟩ ?_); refine wpList_built rfl _ [(1, .const (.int .u64 1)), (3, .const (.int .u64 1)), (4, .const (.int .u64 1))] rfl _ rfl _ HBR.out ?_)
        rw [HR1.out]
        refine (ksave_d HKb.out HL.out rc1 rc1_ok).mono ?_
        rintro e wd ⟨rfl, hK, -⟩
        rw [HSV.out, ← HR1.out]
        have HNd : Hid (New W wd) := Lib.hid hK.nw
        clear hK HKb
        by_cases hm : num = 18446744073709551615
        · rw [if_pos hm]
          have hq : ((num : Int) == 18446744073709551615) = true := by rw [hm]; rfl
          have HE9 : Hid (errD 9 = .iface 55 (.int .i64 9)) := Lib.hid (errD_n (by decide))
          rw [HE9.out]
          clear hm
          go_wp2_with fail
          refine (is_err 9 9 wd (by decide)).mono ?_
          rintro e we ⟨rfl, rfl⟩
          rw [show ((9 : Int) == 9) = true from rfl]
          go_wp2_with fail
          go_ret
          exact ⟨rfl, HNd.out⟩
        · rw [if_neg hm, errD_0]
          have hq : ((num : Int) == 18446744073709551615) = false := by rw [beq_eq_false_iff_ne]; omega
          clear hm
          go_wp2_with fail
          refine (is_nil 9 wd).mono ?_
          rintro e we ⟨rfl, rfl⟩
          rw [show ((0 : Int) == 9) = false from rfl]
          go_wp2_with fail
          go_ret
          exact ⟨rfl, HNd.out⟩
theorem reads_law {W : World} {v0 : Value} (o0 : ∃ X : List Int, v0 = .agg (secA X) ∧ X.length = 256 ∧ Byt X) (hL : laidMetH Tryd.prog [("entrust/entrustref02.Constants", Rows.laid_entrust_entrustref02_Constants), ("entrust/entrustref02.Initials", Rows.laid_entrust_entrustref02_Initials), ("entrust/sha.constants", Rows.laid_entrust_sha_constants), ("entrust/sha.initials", Rows.laid_entrust_sha_initials)] W) :
    Calls Tryd.prog 3 #[v0] W fun e w' => e = .returned (.bool true) ∧ Below W.heap.size W w' := by
  obtain ⟨X, rfl, h1, h2⟩ := o0
  exact reads_walk X h1 h2 W (sha_both hL).2 (sha_both hL).1
end Go.Proofs.YtdojmjglnlkmoaaDoor
