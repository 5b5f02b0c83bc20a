/- Texts of one proof, one behind the other: RdH, RdD, RdS, RdI. No condition but each one's own. -/
import Derived.Test.YtdojmjglnlkmoaaDoorRecordPlaysM22
import Derived.Test.YtdojmjglnlkmoaaDoorRecordPlaysM23
import Derived.Test.YtdojmjglnlkmoaaDoorRecordPlaysM24
import Derived.Test.YtdojmjglnlkmoaaDoorRecordPlaysM2
import Derived.Deep.CutRange
import Derived.Deep.CutBlock
/- RecordPlays, walked. sha's tables and the reference's are as they were laid. No condition else. -/
namespace Go.Proofs.YtdojmjglnlkmoaaDoor
set_option linter.unusedVariables false
set_option linter.unusedSimpArgs false
set_option linter.constructorNameAsVariable false
open Go.RowKit Go.Sort

set_option maxHeartbeats 4000000
set_option maxRecDepth 100000
theorem plays_long (a : Int) (A : Option Addr) (m c : Nat) (W : World) (hL : ShaIn 3 2 W) (hm : 40 < m) : Calls Tryd.prog 6 #[.int .i64 a, .slice A m c] W fun e w' => e = .returned (.bool true) ∧ New W w' := by
  have HL := Lib.hid hL
  have hq : (40 : Int) < (m : Int) := by omega
  clear hL hm
  go_enter Tryd.func6, Tryd.ntmps6
  go_wp2_with fail
  refine (alive_any W HL.out).mono ?_
  rintro e w1 ⟨rfl, hN⟩
  have HN := Lib.hid hN
  clear hN
  go_wp2_with fail
  go_ret
  exact ⟨rfl, HN.out⟩
theorem plays_mid (a : Int) (A : Option Addr) (m c : Nat) (W : World) (hL : ShaIn 3 2 W) (hm : ¬ 40 < m) (h1 : 100 < a) (h2 : a ≤ 16384) : Calls Tryd.prog 6 #[.int .i64 a, .slice A m c] W fun e w' => e = .returned (.bool true) ∧ New W w' := by
  have HL := Lib.hid hL
  have hq : ¬ ((40 : Int) < (m : Int)) := by omega
  clear hL hm
  go_enter Tryd.func6, Tryd.ntmps6
  go_wp2_with fail
  refine (alive_any W HL.out).mono ?_
  rintro e w1 ⟨rfl, hN⟩
  have HN := Lib.hid hN
  clear hN
  go_wp2_with fail
  go_ret
  exact ⟨rfl, HN.out⟩
theorem plays_none (a : Int) (A : Option Addr) (m c : Nat) (W : World) (hL : ShaIn 3 2 W) (hm : ¬ 40 < m) (h1 : ¬ (100 < a ∧ a ≤ 16384)) (h2 : ¬ (1 ≤ a ∧ a ≤ 16384)) : Calls Tryd.prog 6 #[.int .i64 a, .slice A m c] W fun e w' => e = .returned (.bool true) ∧ New W w' := by
  have HL := Lib.hid hL
  have HB := Lib.hid h2
  have hq : ¬ ((40 : Int) < (m : Int)) := by omega
  by_cases h3 : 100 < a
  · have h4 : ¬ a ≤ 16384 := by omega
    have h5 : decide (a ≤ 16384) = false := decide_eq_false h4
    have h6 : (16384 : Int) < a := by omega
    clear hL hm h1 h2
    go_enter Tryd.func6, Tryd.ntmps6
    go_wp2_with fail
    refine (alive_any W HL.out).mono ?_
    rintro e w1 ⟨rfl, hN⟩
    have HN := Lib.hid hN
    clear hN
    go_wp2_with fail
    refine (new_bad a w1 HB.out).mono ?_
    rintro e w2 ⟨rfl, rfl⟩
    go_wp2_with fail
    go_ret
    exact ⟨rfl, HN.out⟩
  · clear hL hm h1 h2
    go_enter Tryd.func6, Tryd.ntmps6
    go_wp2_with fail
    refine (alive_any W HL.out).mono ?_
    rintro e w1 ⟨rfl, hN⟩
    have HN := Lib.hid hN
    clear hN
    go_wp2_with fail
    refine (new_bad a w1 HB.out).mono ?_
    rintro e w2 ⟨rfl, rfl⟩
    go_wp2_with fail
    go_ret
    exact ⟨rfl, HN.out⟩
theorem kopen_few {W w : World} {gd : Nat} {p : DP} (h : Dsk W w gd p) (hp : p.size < 4) : Calls Tryd.prog 12 #[.pointer (some ⟨gd, 0, none⟩)] w fun e w' => e = .returned (.tuple #[.pointer none, errD 1]) ∧ w = w' := by
  obtain ⟨bs, bf, v, h1, h2⟩ := h
  exact kopen_small h1 hp
theorem plays_few (a : Nat) (A : Option Addr) (m c : Nat) (W : World) (hL : ShaIn 3 2 W) (hm : ¬ 40 < m) (h1 : 1 ≤ a) (h2 : a < 4) : Calls Tryd.prog 6 #[.int .i64 a, .slice A m c] W fun e w' => e = .returned (.bool true) ∧ New W w' := by
  have HL := Lib.hid hL
  have HA := Lib.hid (And.intro h1 h2)
  have hq1 : decide ((40 : Int) < (m : Int)) = false := decide_eq_false (by omega)
  have hq2 : decide (40 < m) = false := decide_eq_false hm
  have h31 : decide ((100 : Int) < (a : Int)) = false := decide_eq_false (by omega)
  have h32 : decide (100 < a) = false := decide_eq_false (by omega)
  have hq : ¬ ((40 : Int) < (m : Int)) := by omega
  have h4 : a < 4 := by omega
  have HE1 : Hid (errD 1 = .iface 55 (.int .i64 1)) := Lib.hid (errD_n (by decide))
  clear hL hm h1 h2
  go_enter Tryd.func6, Tryd.ntmps6
  go_wp2_with fail
  refine (alive_any W HL.out).mono ?_
  rintro e w1 ⟨rfl, hN⟩
  have HN := Lib.hid hN
  clear hN
  go_wp2_with fail
  refine (dnew_d HN.out a HA.out.1 (by have := HA.out; omega)).mono ?_
  rintro e w2 ⟨gd, rfl, hD, -⟩
  have HD := Lib.hid hD
  clear hD
  go_wp2_with fail
  refine (kopen_few HD.out HA.out.2).mono ?_
  rintro e w3 ⟨rfl, rfl⟩
  rw [HE1.out]
  go_wp2_with fail
  refine (is_err 1 1 w2 (by decide)).mono ?_
  rintro e w3 ⟨rfl, rfl⟩
  rw [show ((1 : Int) == 1) = true from rfl]
  go_wp2_with fail
  go_ret
  exact ⟨rfl, HD.out.nw⟩
end Go.Proofs.YtdojmjglnlkmoaaDoor
/- RecordReads, walked. sha's tables and the reference's are as they were laid. No condition else. -/
namespace Go.Proofs.YtdojmjglnlkmoaaDoor
set_option linter.unusedVariables false
set_option linter.unusedSimpArgs false
set_option linter.constructorNameAsVariable false
open Go.RowKit Go.Sort

theorem dwrite_d {W w : World} {gd : Nat} {p : DP} (h : Dsk W w gd p) (a : Int) {s : List Int} (hs : SecOk s) : Calls Tryd.prog 10 #[.pointer (some ⟨gd, 0, none⟩), .int .i64 a, .agg (secA s)] w fun e w' => e = .returned (errD (p.wcode a)) ∧ Dsk W w' gd (p.doWrite a s) ∧ Kpt w w' ∧ ∀ r A1 A2, RfIn w r A1 A2 → RfIn w' r A1 A2 := by
  obtain ⟨bs, bf, v, h1, h2⟩ := h
  refine (write_all h1 a hs).mono fun e w' ⟨he, v', hD, hF, hO⟩ => ⟨he, ⟨bs, bf, v', hD, h2.fr hF (fun k hk => (h1.ours k hk).1)⟩, Kpt.dk h1 hF, fun r A1 A2 hr => hr.fr hF (dk_not h1)⟩
theorem index_sec4 {X : List Int} (hX : X.length = 256) {j : Nat} (hj : j < 4) (w : World) : (Instr.index 24 (.agg (secA X)) (.int .i64 (j : Int))).run Tryd.prog w = .ok (.agg (secA ((X.drop (64 * j)).take 64))) w := by
  have h1 : (isAgg 23).run Tryd.prog w = .ok true w := by simp [isAgg, run_underlying Tryd.underlying23]
  have h2 : (sizeOf 23).run Tryd.prog w = .ok 64 w := by
    have := secInfo
    cases hq : Tryd.prog.info? 23 with
    | none => rw [hq] at this; cases this
    | some i => rw [hq] at this; simp only [Option.map_some, Option.some.injEq, Prod.mk.injEq] at this; simp [sizeOf, typeInfo, hq, this.2]
  have e : (secA X).extract (j * 64) (j * 64 + 64) = secA ((X.drop (64 * j)).take 64) := by
    unfold secA u8s
    rw [List.extract_toArray, List.extract_eq_take_drop, Nat.add_sub_cancel_left, Nat.mul_comm, ← List.map_drop, ← List.map_take]
  have hp : (part 23 (secA X) (j * 64)).run Tryd.prog w = .ok (.agg (secA ((X.drop (64 * j)).take 64))) w := by
    unfold part
    simp [Sem.run_bind, h1, h2, e]
  have hn : (j : Int) < 4 := by omega
  simp [Instr.index, run_underlying Tryd.underlying24, asIntOf, h2, hp, hn, go_sem]
  rw [if_pos hj, e]
def sec4 (X : List Int) (j : Nat) : List Int := (X.drop (64 * j)).take 64
theorem sec4_ok {X : List Int} (h : X.length = 256) (hb : Byt X) {j : Nat} (hj : j < 4) : SecOk (sec4 X j) := ⟨by unfold sec4; rw [List.length_take, List.length_drop]; omega, fun x hx => hb x (List.mem_of_mem_drop (List.mem_of_mem_take hx))⟩
/-- Both disks behind so many writes. -/
def dkN (X : List Int) : Nat → DP
  | 0 => DP.new 4
  | k + 1 => (dkN X k).doWrite ((k : Nat) : Int) (sec4 X k)
def rfN (X : List Int) : Nat → RP
  | 0 => RP.new 4
  | k + 1 => (rfN X k).write ((k : Nat) : Int) (sec4 X k)
theorem dkN_mt (X : List Int) : ∀ k, Mt (dkN X k) (rfN X k)
  | 0 => Mt.new 4
  | k + 1 => (dkN_mt X k).write _ _
theorem dkN_size (X : List Int) : ∀ k, (dkN X k).size = 4
  | 0 => rfl
  | k + 1 => by show ((dkN X k).doWrite _ _).size = 4; rw [DP.doWrite_size, dkN_size X k]
theorem dkN_up (X : List Int) : ∀ k, (dkN X k).fuse = -1 ∧ (dkN X k).down = false
  | 0 => ⟨rfl, rfl⟩
  | k + 1 => by
    obtain ⟨h1, h2⟩ := dkN_up X k
    show ((dkN X k).doWrite _ _).fuse = -1 ∧ ((dkN X k).doWrite _ _).down = false
    unfold DP.doWrite
    split
    · rw [if_neg (by rw [h1, h2]; decide)]
      refine ⟨?_, h2⟩
      show (if 0 < (dkN X k).fuse then (dkN X k).fuse - 1 else (dkN X k).fuse) = -1
      rw [h1]; rfl
    · exact ⟨h1, h2⟩
theorem dkN_code (X : List Int) {k : Nat} (hk : k < 4) : (dkN X k).wcode ((k : Nat) : Int) = 0 := by
  obtain ⟨h1, h2⟩ := dkN_up X k
  unfold DP.wcode
  rw [if_pos (by unfold DP.within; rw [dkN_size]; exact decide_eq_true (by omega)), if_neg (by rw [h1, h2]; decide)]
theorem rfN_tot (X : List Int) : ∀ k, (rfN X k).tot ≤ k
  | 0 => Nat.le_refl _
  | k + 1 => by have h1 := RP.tot_write (rfN X k) ((k : Nat) : Int) (sec4 X k); have h2 := rfN_tot X k; show ((rfN X k).write _ _).tot ≤ k + 1; omega
def rc1 : Rc := ⟨List.replicate 32 0, 1, 0, 1, 1, 0⟩
theorem rc1_ok : rc1.Ok := ⟨by simp [rc1], fun x hx => by simp [rc1] at hx; omega, by decide, by decide, by decide, by decide, by decide⟩
theorem rc1_right : rc1.Right := ⟨by decide, by decide, by decide, by decide, by decide⟩
theorem built_rc1 : Tryd.prog.built 48 [(1, .int .u64 1), (3, .int .u64 1), (4, .int .u64 1)] = some rc1.cells := by kernel_rfl
theorem openP_nb (p : DP) : (openP p).broken = false := by
  unfold openP
  rw [(takeK_num _ _ _).2, (takeK_num _ _ _).2]
  rfl
theorem save_rc1 {p : DP} (hz : p.size = 4) (hf : p.fuse = -1) (hd : p.down = false) : (saveP p (openP p) rc1).2.2 = if (openP p).number = 18446744073709551615 then 9 else 0 := by
  unfold saveP
  rw [if_neg (fun h => h rc1_right), if_neg (by rw [openP_nb]; decide)]
  by_cases h : (openP p).number = 18446744073709551615
  · rw [if_pos h, if_pos h]
  · rw [if_neg h, if_neg h, writeP_ok (by omega) hd (by rw [hf]; decide) (by rw [hf]; decide)]
    rfl
section
open Go.ChangeShapes Go.WideShapes
variable {H : Type} {enc : TypeId × Value → H} {w : World}
set_option maxRecDepth 100000 in
theorem open_four {r : Reach} {b0 : Nat} {v : Value} {d : DataW H} {p : List MemPlace} (hv : Value.okWide Tryd.prog w r b0 24 v) (h : DataW.Trod enc Tryd.prog w 0 (fun _ => true) true 24 v d p) : ∃ X : List Int, v = .agg (secA X) ∧ X.length = 256 ∧ Byt X := by
  obtain ⟨a, rfl, hsz⟩ := okWide_array Tryd.underlying24 hv
  obtain ⟨fuel, hf⟩ := h
  obtain ⟨xs, m, _, _, _, hl, hg⟩ := DataW.trod_array Tryd.underlying24 hf
  have hc : Tryd.prog.cellsOf 23 = 64 := by kernel_rfl
  have h256 : a.toList.length = 256 := by
    have : Tryd.prog.cellsOf 24 = 256 := by kernel_rfl
    rw [Array.length_toList, hsz, this]
  have key : ∀ i, i < 4 → ∃ s, (a.toList.drop (64 * i)).take 64 = u8s s ∧ SecOk s := fun i hi => by
    have h1 := hg i hi
    rw [hc] at h1
    have hx : i < xs.length := by omega
    rw [List.getElem?_eq_getElem hx, show (Value.agg a).cells.toList = a.toList from rfl, Nat.mul_comm i 64] at h1
    exact trod_secs (by rw [List.length_take, List.length_drop]; omega) h1
  obtain ⟨s0, e0, o0⟩ := key 0 (by omega)
  obtain ⟨s1, e1, o1⟩ := key 1 (by omega)
  obtain ⟨s2, e2, o2⟩ := key 2 (by omega)
  obtain ⟨s3, e3, o3⟩ := key 3 (by omega)
  have ea : a.toList = u8s (s0 ++ (s1 ++ (s2 ++ s3))) := by
    have d1 := (List.take_append_drop 64 a.toList).symm
    have d2 := (List.take_append_drop 64 (a.toList.drop 64)).symm
    have d3 := (List.take_append_drop 64 (a.toList.drop 128)).symm
    rw [List.drop_drop] at d2 d3
    have e3' : a.toList.drop 192 = u8s s3 := by rw [← e3, List.take_of_length_le (by rw [List.length_drop]; omega)]
    have e0' : a.toList.take 64 = u8s s0 := e0
    have e1' : (a.toList.drop 64).take 64 = u8s s1 := e1
    have e2' : (a.toList.drop 128).take 64 = u8s s2 := e2
    rw [d1, e0', d2, e1', show 64 + 64 = 128 from rfl, d3, e2', show 128 + 64 = 192 from rfl, e3']
    unfold u8s
    simp
  refine ⟨s0 ++ (s1 ++ (s2 ++ s3)), ?_, ?_, ?_⟩
  · congr 1
    unfold secA
    rw [← ea]
  · simp [o0.1, o1.1, o2.1, o3.1]
  · intro x hx
    simp only [List.mem_append] at hx
    rcases hx with hx | hx | hx | hx
    · exact o0.2 x hx
    · exact o1.2 x hx
    · exact o2.2 x hx
    · exact o3.2 x hx
end
theorem is_errD' (c k : Int) (w : World) : Calls Tryd.prog 18 #[errD c, .int .i64 k] w fun e w' => e = .returned (.bool (c == k)) ∧ w = w' := by
  by_cases h : c = 0
  · subst h
    exact is_nil k w
  · rw [errD_n h]
    exact is_err c k w (by rw [beq_eq_false_iff_ne]; exact h)
set_option maxHeartbeats 4000000
set_option maxRecDepth 100000
theorem reads_walk (X : List Int) (hX : X.length = 256) (hb : Byt X) (W : World) (hL : ShaIn 3 2 W) (hR : RShaIn 1 0 W) :
    Calls Tryd.prog 3 #[.agg (secA X)] W fun e w' => e = .returned (.bool true) ∧ New W w' := by
  have HL := Lib.hid hL
  have HR := Lib.hid hR
  have HX := Lib.hid hX
  have HB := Lib.hid hb
  obtain ⟨XA, hXA⟩ : ∃ XA, XA = secA X := ⟨_, rfl⟩
  have HXA := Lib.hid hXA
  have HXZ : Hid (XA.size = 256) := Lib.hid (by rw [hXA, secA_size, hX])
  rw [← hXA]
  clear hL hR hX hb hXA
  go_enter Tryd.func3, Tryd.ntmps3
  go_upto_region 1 with fail
  obtain ⟨w0, hw0⟩ : ∃ w0 : World, w0 = W.alloc (.cells XA 24) := ⟨_, rfl⟩
  obtain ⟨b1, hb1⟩ : ∃ b1, b1 = W.heap.size := ⟨_, rfl⟩
  have HN0 : Hid (New W w0) := Lib.hid (by rw [hw0]; exact New.al (New.refl _) _)
  have HB1 : Hid (Blk w0 b1 24 XA) := Lib.hid (by rw [hw0, hb1]; exact Blk.new _ _ _)
  rw [← hw0, ← hb1]
  clear hw0 hb1
  go_wp2_with fail
  refine (alive_any w0 (HL.out.new HN0.out)).mono ?_
  rintro e w1 ⟨rfl, hN⟩
  have HN1 : Hid (New W w1) := Lib.hid (HN0.out.tr hN)
  have HB11 : Hid (Blk w1 b1 24 XA) := Lib.hid (hN.blk HB1.out)
  clear hN HN0 HB1
  go_wp2_with fail
  refine (dnew_d HN1.out 4 (by omega) (by omega)).mono ?_
  rintro e w2 ⟨gd, rfl, hD, hN⟩
  have HD : Hid (Dsk W w2 gd (dkN X 0)) := Lib.hid hD
  have HB12 : Hid (Blk w2 b1 24 XA) := Lib.hid (hN.blk HB11.out)
  clear hN hD HB11 HN1
  go_wp2_with fail
  refine (rnew_any 4 w2).mono ?_
  rintro e w3 ⟨rfl, hN⟩
  have HD3 : Hid (Dsk W w3 gd (dkN X 0)) := Lib.hid (HD.out.new hN)
  have HB13 : Hid (Blk w3 b1 24 XA) := Lib.hid (hN.blk HB12.out)
  have HRF : Hid (RfIn w3 (rfN X 0) none none) := Lib.hid ⟨RdT.nil, RdT.nil, by show (RP.new 4).Ok; simp [RP.new, RP.Ok]⟩
  obtain ⟨RV, hRV⟩ : ∃ RV, RV = RfV (RP.new 4) none 0 none 0 := ⟨_, rfl⟩
  have HRV := Lib.hid hRV
  have HRVZ : Hid (RV.size = 5 ∧ RV.all (·.oneCell') = true) := Lib.hid (by rw [hRV]; exact ⟨rfl, rf_one _ _ _ _ _ _ _ _ _⟩)
  rw [← hRV]
  clear hN hRV HD HB12
  go_upto_region 7 with ((with_reducible refine atOp ⟨some 5, .alloc _, _, _, _, _⟩ ?_); refine wpList_newrow rfl rfl rfl _ _ rfl rInfo (by rfl) rfl rfl HRVZ.out.1 HRVZ.out.2 ?_)
  obtain ⟨w4, hw4⟩ : ∃ w4 : World, w4 = w3.alloc (.cells RV 33) := ⟨_, rfl⟩
  obtain ⟨b5, hb5⟩ : ∃ b5, b5 = w3.heap.size := ⟨_, rfl⟩
  have hN4 : New w3 w4 := by rw [hw4]; exact New.al (New.refl _) _
  have HD4 : Hid (Dsk W w4 gd (dkN X 0)) := Lib.hid (HD3.out.new hN4)
  have HRF4 : Hid (RfIn w4 (rfN X 0) none none) := Lib.hid (HRF.out.new hN4)
  have HB14 : Hid (Blk w4 b1 24 XA) := Lib.hid (hN4.blk HB13.out)
  have HB5 : Hid (Blk w4 b5 33 (RfV (rfN X 0) none 0 none 0)) := Lib.hid (by rw [hw4, hb5, HRV.out]; exact Blk.new _ _ _)
  have HLT : Hid (W.heap.size ≤ b5) := Lib.hid (by rw [hb5]; exact HD3.out.nw.size)
  rw [← hw4, ← hb5]
  clear hw4 hb5 hN4 HD3 HRF HB13 HRV HRVZ
  go_wp2_with ((with_reducible refine atOp ⟨some 23, .load _ _, _, _, _, _⟩ ?_); refine wpList_load_any rfl _ rfl Tryd.underlying24 rfl (by rw [HXZ.out]; rfl) rfl HB14.out ?_)
  go_loopw [24] (fun i wr => ∃ (j : Nat) (A1 : Option Addr) (c1 : Nat) (A2 : Option Addr) (c2 : Nat), Hid (j ≤ 4) ∧ i = .int .i64 (j : Int) ∧ Hid (Dsk W wr gd (dkN X j)) ∧ Hid (RfIn wr (rfN X j) A1 A2) ∧ Hid (Blk wr b5 33 (RfV (rfN X j) A1 c1 A2 c2))) (fun i _ => 4 - (intOf i).toNat)
  case atStart => exact ⟨0, none, 0, none, 0, Lib.hid (by omega), rfl, HD4, HRF4, HB5⟩
  case round =>
    clear HD4 HRF4 HB14 HB5
    obtain ⟨j, A1, c1, A2, c2, HJ, rfl, HD, HRF, HB5⟩ := hrel
    by_cases hj : j < 4
    · have hlt : (j : Int) < 4 := by omega
      have e1 : IntKind.i64.wrap ((j : Int) + 1) = (j : Int) + 1 := IntWalk.i64_in _ (by omega)
      have HJ2 := Lib.hid hj
      have hix : ∀ w, (Instr.index 24 (.agg XA) (.int .i64 (j : Int))).run Tryd.prog w = .ok (.agg (secA (sec4 X j))) w := fun w => by rw [HXA.out]; exact index_sec4 HX.out hj w
      have HSO : Hid (SecOk (sec4 X j)) := Lib.hid (sec4_ok HX.out HB.out hj)
      obtain ⟨s, hs⟩ : ∃ s, s = sec4 X j := ⟨_, rfl⟩
      have HS := Lib.hid hs
      simp only [← hs] at hix
      rw [← hs] at HSO
      have HSZ : Hid ((secA s).size = 64) := Lib.hid (by rw [secA_size, HSO.out.1])
      obtain ⟨RV, hRV⟩ : ∃ RV, RV = RfV (rfN X j) A1 c1 A2 c2 := ⟨_, rfl⟩
      have HRV := Lib.hid hRV
      have HRVZ : Hid (RV.size = 5) := Lib.hid (by rw [hRV]; rfl)
      rw [← hRV] at HB5
      clear hj hs hRV
      go_upto_region 10 with (first
        | ((with_reducible refine atOp ⟨some 7, .alloc _, _, _, _, _⟩ ?_); refine wpList_alloc_row rfl rfl secInfo ?_; intro b7 w5 hb hB hN; have HB7 := Lib.hid hB; have HN5 := Lib.hid hN; have HZ7 := Lib.hid hb; clear hb hB hN)
        | ((with_reducible refine atOp ⟨none, .store 23 (.tmp 7) _, _, _, _, _⟩ ?_); refine wpList_store_any rfl (.tmp 7) (.tmp 27) rfl (by rw [HSZ.out]; rfl) rfl rfl HB7.out (by rw [HSZ.out, secA_size]; rfl) (secA_one _) ?_; intro w6 hb hf; have HB76 := Lib.hid hb; have HF6 := Lib.hid hf; clear hb hf))
      have HL7 : Hid (wr.heap.size ≤ b7 ∧ b5 ≠ b7) := Lib.hid (by have h1 := HZ7.out; have h2 := HB5.out.lt; omega)
      have HN6 : Hid (New wr w6) := Lib.hid (HN5.out.fr HF6.out (fun k hk => by have := HL7.out; omega))
      have HD6 : Hid (Dsk W w6 gd (dkN X j)) := Lib.hid (HD.out.new HN6.out)
      have HRF6 : Hid (RfIn w6 (rfN X j) A1 A2) := Lib.hid (HRF.out.new HN6.out)
      have HB56 : Hid (Blk w6 b5 33 RV) := Lib.hid (HN6.out.blk HB5.out)
      clear HB7 HN5 HZ7 HF6 HN6 HD HRF HB5 hix
      go_wp2_with ((with_reducible refine atOp ⟨some 30, .load _ _, _, _, _, _⟩ ?_); refine wpList_load_any rfl _ rfl Tryd.underlying23 rfl (by rw [HSZ.out]; rfl) rfl HB76.out ?_)
      refine (dwrite_d HD6.out (j : Int) HSO.out).mono ?_
      rintro e w7 ⟨rfl, hD, hT, hRf⟩
      rw [dkN_code X HJ2.out, errD_0]
      have HD7 : Hid (Dsk W w7 gd (dkN X (j + 1))) := Lib.hid (by show Dsk W w7 gd ((dkN X j).doWrite _ _); rw [← HS.out]; exact hD)
      have HRF7 : Hid (RfIn w7 (rfN X j) A1 A2) := Lib.hid (hRf _ _ _ HRF6.out)
      have HB57 : Hid (Blk w7 b5 33 RV) := Lib.hid (hT _ _ _ HB56.out (by decide) (by decide) (by decide))
      have HB77 : Hid (Blk w7 b7 23 (secA s)) := Lib.hid (hT _ _ _ HB76.out (by decide) (by decide) (by decide))
      clear hD hT hRf HD6 HRF6 HB56 HB76
      go_wp2_with (first
        | ((with_reducible refine atOp ⟨some 34, .load _ _, _, _, _, _⟩ ?_); refine wpList_load_any rfl _ rfl Tryd.underlying33 rfl (by rw [HRVZ.out]; rfl) rfl HB57.out ?_)
        | ((with_reducible refine atOp ⟨some 36, .load _ _, _, _, _, _⟩ ?_); refine wpList_load_any rfl _ rfl Tryd.underlying23 rfl (by rw [HSZ.out]; rfl) rfl HB77.out ?_))
      rw [HRV.out]
      have HMJ : Hid (Mt (dkN X j) (rfN X j)) := Lib.hid (dkN_mt X j)
      refine (rwrite_any (rfN X j) A1 c1 A2 c2 (j : Int) s w7 HRF7.out HSO.out (by have h1 := rfN_tot X j; have := HJ2.out; omega) (WalkArith.wf_i64 (by have := HJ2.out; omega)) (by rw [HMJ.out.fuse, (dkN_up X j).1]; rfl) (by rw [HMJ.out.size, dkN_size]; omega)).mono ?_
      rintro e w8 ⟨⟨B1, d1, B2, d2, rfl, hR8⟩, hN8⟩
      rw [← HRV.out]
      have HRF8 : Hid (RfIn w8 (rfN X (j + 1)) B1 B2) := Lib.hid (by show RfIn w8 ((rfN X j).write _ _) B1 B2; rw [← HS.out]; exact hR8)
      have HD8 : Hid (Dsk W w8 gd (dkN X (j + 1))) := Lib.hid (HD7.out.new hN8)
      have HB58 : Hid (Blk w8 b5 33 RV) := Lib.hid (hN8.blk HB57.out)
      obtain ⟨RW, hRW⟩ : ∃ RW, RW = RfV ((rfN X j).write (j : Int) s) B1 d1 B2 d2 := ⟨_, rfl⟩
      have HRW : Hid (RW = RfV (rfN X (j + 1)) B1 d1 B2 d2 ∧ RW.size = 5 ∧ RW.all (·.oneCell') = true) := Lib.hid ⟨by rw [hRW, HS.out]; rfl, by rw [hRW]; rfl, by rw [hRW]; exact rf_one _ _ _ _ _ _ _ _ _⟩
      rw [← hRW]
      clear hR8 hN8 HD7 HRF7 HB57 HB77 hRW HMJ
      go_wp2_with ((with_reducible refine atOp ⟨none, .store 33 (.tmp 5) _, _, _, _, _⟩ ?_); refine wpList_store_any rfl (.tmp 5) (.tmp 38) rfl (by rw [HRW.out.2.1]; rfl) rfl rfl HB58.out (by rw [HRVZ.out, HRW.out.2.1]) HRW.out.2.2 ?_; intro w9 hb hf; have HB9 := Lib.hid hb; have HF9 := Lib.hid hf; clear hb hf)
      go_roundw
      case rel => exact ⟨j + 1, B1, d1, B2, d2, Lib.hid (by have := HJ2.out; omega), by go_num, Lib.hid (by
        obtain ⟨bs, bf, v, h1, h2⟩ := HD8.out
        exact ⟨bs, bf, v, h1.fr HF9.out (fun k hk => hk ▸ dk_notBlk h1 HB58.out (fun e => Blk.ne_ HB58.out h1.blk (by decide) e) (by decide)), h2.fr HF9.out (fun k hk => by have := HLT.out; omega)⟩),
        Lib.hid (HRF8.out.fr HF9.out (fun k hk => hk ▸ IsT.not_blk HB58.out (by decide))), Lib.hid (by rw [← HRW.out.1]; exact HB9.out)⟩
      case measure => simp [intOf]; have := HJ2.out; omega
    · have hge : ¬ ((j : Int) < 4) := by omega
      obtain rfl : j = 4 := by have := HJ.out; omega
      have HMT : Hid (Mt (dkN X 4) (rfN X 4) ∧ (dkN X 4).size = 4 ∧ (dkN X 4).fuse = -1 ∧ (dkN X 4).down = false ∧ (rfN X 4).tot ≤ 4) := Lib.hid ⟨dkN_mt X 4, dkN_size X 4, (dkN_up X 4).1, (dkN_up X 4).2, rfN_tot X 4⟩
      obtain ⟨p, hp⟩ : ∃ p, p = dkN X 4 := ⟨_, rfl⟩
      obtain ⟨r, hr⟩ : ∃ r, r = rfN X 4 := ⟨_, rfl⟩
      rw [← hp] at HMT HD
      rw [← hr] at HMT HRF HB5
      clear hp hr hj
      go_wp2_with fail
      refine (kopen_d HD.out HL.out (by rw [HMT.out.2.1]; omega)).mono ?_
      rintro e w5 ⟨gk, rfl, hK, hN5⟩
      have HK := Lib.hid hK
      have HRF5 : Hid (RfIn w5 r A1 A2) := Lib.hid (HRF.out.new hN5)
      have HB55 : Hid (Blk w5 b5 33 (RfV r A1 c1 A2 c2)) := Lib.hid (hN5.blk HB5.out)
      have HKO : Hid ((openP p).Ok) := Lib.hid hK.kp.ok
      have HSV : Hid ((saveP p (openP p) rc1).2.2 = if (openP p).number = 18446744073709551615 then 9 else 0) := Lib.hid (save_rc1 HMT.out.2.1 HMT.out.2.2.1 HMT.out.2.2.2.1)
      clear hK hN5 HRF HB5 HD
      obtain ⟨RV, hRV⟩ : ∃ RV, RV = RfV r A1 c1 A2 c2 := ⟨_, rfl⟩
      have HRV := Lib.hid hRV
      have HRVZ : Hid (RV.size = 5) := Lib.hid (by rw [hRV]; rfl)
      rw [← hRV] at HB55
      clear hRV
      go_wp2_with ((with_reducible refine atOp ⟨some 49, .load _ _, _, _, _, _⟩ ?_); refine wpList_load_any rfl _ rfl Tryd.underlying33 rfl (by rw [HRVZ.out]; rfl) rfl HB55.out ?_)
      rw [HRV.out]
      refine (rgetr_any c1 c2 HRF5.out HMT.out.1 HK.out.dsk.ok (HR.out.new HK.out.nw) (by have := HMT.out.2.2.2.2; omega) (by rw [HMT.out.2.1]; omega)).mono ?_
      rintro e w6 ⟨rfl, hN6⟩
      rw [← HRV.out]
      obtain ⟨k, hk⟩ : ∃ k, k = openP p := ⟨_, rfl⟩
      rw [← hk] at HKO HSV HK ⊢
      have HK6 : Hid (Kpr W w6 gd gk p k) := Lib.hid (HK.out.new hN6)
      obtain ⟨NC, hNC⟩ : ∃ NC, NC = k.now.cells := ⟨_, rfl⟩
      have HNC := Lib.hid hNC
      have HNCZ : Hid (NC.size = 37 ∧ NC.all (·.oneCell') = true) := Lib.hid (by rw [hNC]; exact ⟨Rc.size HKO.out.now.len, Rc.one _⟩)
      obtain ⟨num, hnum⟩ : ∃ num, num = k.number := ⟨_, rfl⟩
      have HNUM := Lib.hid hnum
      rw [← hnum] at HSV ⊢
      rw [← hNC]
      clear hN6 HK hk hNC hnum HRF5 HB55
      go_upto_region 18 with (first
        | ((with_reducible refine atOp ⟨some 10, .alloc _, _, _, _, _⟩ ?_); refine wpList_alloc_row rfl rfl refInfo ?_; intro b10 w7 hb hB hN; have HB10 := Lib.hid hB; have HN7 := Lib.hid hN; have HZ10 := Lib.hid hb; clear hb hB hN)
        | ((with_reducible refine atOp ⟨none, .store 45 (.tmp 10) _, _, _, _, _⟩ ?_); refine wpList_store_any rfl (.tmp 10) (.tmp 52) rfl (by rw [HNCZ.out.1]; rfl) rfl rfl HB10.out (by rw [HNCZ.out.1]; rfl) HNCZ.out.2 ?_; intro w8 hb hf; have HB108 := Lib.hid hb; have HF8 := Lib.hid hf; clear hb hf))
      have HN8 : Hid (New w6 w8) := Lib.hid (HN7.out.fr HF8.out (fun x hx => by have := HZ10.out; omega))
      have HK8 : Hid (Kpr W w8 gd gk p k) := Lib.hid (HK6.out.new HN8.out)
      clear HN7 HF8 HB10 HZ10 HK6 HN8
      go_wp2_with fail
      refine (kget_kp HK8.out.kp).mono ?_
      rintro e w9 ⟨rfl, hN9⟩
      rw [← HNUM.out, ← HNC.out]
      have HK9 : Hid (Kpr W w9 gd gk p k) := Lib.hid (HK8.out.new hN9)
      have HB109 : Hid (Blk w9 b10 45 NC) := Lib.hid (hN9.blk HB108.out)
      obtain ⟨pz, hpz⟩ : ∃ pz, pz = decide (0 < num) := ⟨_, rfl⟩
      have hpz2 : decide (0 < num) = pz := hpz.symm
      rw [← hpz]
      clear hN9 HK8 HB108 hpz
      go_upto_region 19 with ((with_reducible refine atOp ⟨some 11, .alloc _, _, _, _, _⟩ ?_); refine wpList_newrow rfl rfl rfl _ _ rfl recInfo (by rfl) rfl rfl HNCZ.out.1 HNCZ.out.2 ?_)
      obtain ⟨wa, hwa⟩ : ∃ wa : World, wa = w9.alloc (.cells NC 48) := ⟨_, rfl⟩
      obtain ⟨b11, hb11⟩ : ∃ b11, b11 = w9.heap.size := ⟨_, rfl⟩
      have hNa : New w9 wa := by rw [hwa]; exact New.al (New.refl _) _
      have HKa : Hid (Kpr W wa gd gk p k) := Lib.hid (HK9.out.new hNa)
      have HB10a : Hid (Blk wa b10 45 NC) := Lib.hid (hNa.blk HB109.out)
      have HB11 : Hid (Blk wa b11 48 NC) := Lib.hid (by rw [hwa, hb11]; exact Blk.new _ _ _)
      rw [← hwa, ← hb11]
      clear hwa hb11 hNa HK9 HB109
      rcases pz with _ | _
      · refine wp_region_mixH (New wa) [(true, 0), (true, 1), (true, 2), (true, 3), (true, 4), (true, 5), (true, 7), (false, 6), (true, 8), (true, 9), (true, 10), (true, 11), (true, 13), (false, 12), (true, 14), (true, 15)] (by kernel_rfl) (by kernel_rfl) (New.dr (New.refl wa)) (fun hne => ?_)
        iterate 5 (refine mix_take (o := ⟨_, _, _, _, _, _⟩) rfl (fun K hK => ?_); go_simp; refine hK _ ?_; clear hK K)
        refine mix_take_row (o := ⟨_, _, _, _, _, _⟩) (cs := NC.toList) rfl rfl _ rfl rfl (fun w' h => (h.blk HB11.out).rangeOf) Tryd.underlying48 rfl (by rw [Array.length_toList, HNCZ.out.1]; rfl) ?_
        refine mix_take_row (o := ⟨_, _, _, _, _, _⟩) (cs := NC.toList) rfl rfl _ rfl rfl (fun w' h => (h.blk HB10a.out).rangeOf) Tryd.underlying45 rfl (by rw [Array.length_toList, HNCZ.out.1]; rfl) ?_
        refine mix_act (o := ⟨_, _, _, _, _, _⟩) rfl (fun K hK => ?_) (.inl rfl)
        go_simp
        rw [HNC.out]
        refine (document_any k.now wa.drew HKO.out.now).mono ?_
        rintro e wb ⟨rfl, hNb⟩
        rw [← HNC.out]
        have HNb : Hid (New wa wb) := Lib.hid ((New.dr (New.refl wa)).tr hNb)
        clear hNb
        go_simp
        refine hK.out _ _ (fun _ => HNb.out) ?_
        clear hK K
        have heq : ∀ W, (binOp .neq 45 (.agg NC) (.agg NC)).run Tryd.prog W = .ok (.bool false) W := fun W => by
          have h := neq_ref HKO.out.now HKO.out.now W
          rw [← HNC.out] at h
          simpa using h
        iterate 5 (refine mix_take (o := ⟨_, _, _, _, _, _⟩) rfl (fun K hK => ?_); go_simp; refine hK _ ?_; clear hK K)
        clear heq
        refine mix_act (o := ⟨_, _, _, _, _, _⟩) rfl (fun K hK => ?_) (.inl rfl)
        go_simp
        refine (number_kp (HKa.out.new HNb.out).kp).mono ?_
        rintro e wc ⟨rfl, rfl⟩
        rw [← HNUM.out]
        go_simp
        refine hK.out _ _ (fun _ => HNb.out) ?_
        clear hK K
        iterate 2 (refine mix_take (o := ⟨_, _, _, _, _, _⟩) rfl (fun K hK => ?_); go_simp; refine hK _ ?_; clear hK K)
        refine mix_done ?_
        have HKb : Hid (Kpr W wb gd gk p k) := Lib.hid (HKa.out.new HNb.out)
        have HBR := Lib.hid built_rc1
        obtain ⟨R1, hR1⟩ : ∃ R1, R1 = rc1.cells := ⟨_, rfl⟩
        have HR1 := Lib.hid hR1
        rw [← hR1] at HBR
        clear hR1 HKa HB10a HB11 hpz2
        go_wp2_with ((with_reducible refine atOp ⟨some 75, .build _ _, _, _, _, _⟩ ?_); refine wpList_built rfl _ [(1, .const (.int .u64 1)), (3, .const (.int .u64 1)), (4, .const (.int .u64 1))] rfl _ rfl _ HBR.out ?_)
        rw [HR1.out]
        refine (ksave_d HKb.out HL.out rc1 rc1_ok).mono ?_
        rintro e wd ⟨rfl, hK, -⟩
        rw [HSV.out, ← HR1.out]
        have HNd : Hid (New W wd) := Lib.hid hK.nw
        clear hK HKb
        by_cases hm : num = 18446744073709551615
        · rw [if_pos hm]
          have hq : ((num : Int) == 18446744073709551615) = true := by rw [hm]; rfl
          have HE9 : Hid (errD 9 = .iface 55 (.int .i64 9)) := Lib.hid (errD_n (by decide))
          rw [HE9.out]
          clear hm
          go_wp2_with fail
          refine (is_err 9 9 wd (by decide)).mono ?_
          rintro e we ⟨rfl, rfl⟩
          rw [show ((9 : Int) == 9) = true from rfl]
          go_wp2_with fail
          go_ret
          exact ⟨rfl, HNd.out⟩
        · rw [if_neg hm, errD_0]
          have hq : ((num : Int) == 18446744073709551615) = false := by rw [beq_eq_false_iff_ne]; omega
          clear hm
          go_wp2_with fail
          refine (is_nil 9 wd).mono ?_
          rintro e we ⟨rfl, rfl⟩
          rw [show ((0 : Int) == 9) = false from rfl]
          go_wp2_with fail
          go_ret
          exact ⟨rfl, HNd.out⟩
      · refine wp_region_mixH (New wa) [(true, 0), (true, 1), (true, 2), (true, 3), (true, 4), (true, 5), (true, 7), (false, 6), (true, 8), (true, 9), (true, 10), (true, 11), (true, 13), (false, 12), (true, 14), (true, 15)] (by kernel_rfl) (by kernel_rfl) (New.dr (New.refl wa)) (fun hne => ?_)
        iterate 5 (refine mix_take (o := ⟨_, _, _, _, _, _⟩) rfl (fun K hK => ?_); go_simp; refine hK _ ?_; clear hK K)
        refine mix_take_row (o := ⟨_, _, _, _, _, _⟩) (cs := NC.toList) rfl rfl _ rfl rfl (fun w' h => (h.blk HB11.out).rangeOf) Tryd.underlying48 rfl (by rw [Array.length_toList, HNCZ.out.1]; rfl) ?_
        refine mix_take_row (o := ⟨_, _, _, _, _, _⟩) (cs := NC.toList) rfl rfl _ rfl rfl (fun w' h => (h.blk HB10a.out).rangeOf) Tryd.underlying45 rfl (by rw [Array.length_toList, HNCZ.out.1]; rfl) ?_
        refine mix_act (o := ⟨_, _, _, _, _, _⟩) rfl (fun K hK => ?_) (.inl rfl)
        go_simp
        rw [HNC.out]
        refine (document_any k.now wa.drew HKO.out.now).mono ?_
        rintro e wb ⟨rfl, hNb⟩
        rw [← HNC.out]
        have HNb : Hid (New wa wb) := Lib.hid ((New.dr (New.refl wa)).tr hNb)
        clear hNb
        go_simp
        refine hK.out _ _ (fun _ => HNb.out) ?_
        clear hK K
        have heq : ∀ W, (binOp .neq 45 (.agg NC) (.agg NC)).run Tryd.prog W = .ok (.bool false) W := fun W => by
          have h := neq_ref HKO.out.now HKO.out.now W
          rw [← HNC.out] at h
          simpa using h
        iterate 5 (refine mix_take (o := ⟨_, _, _, _, _, _⟩) rfl (fun K hK => ?_); go_simp; refine hK _ ?_; clear hK K)
        clear heq
        refine mix_act (o := ⟨_, _, _, _, _, _⟩) rfl (fun K hK => ?_) (.inl rfl)
        go_simp
        refine (number_kp (HKa.out.new HNb.out).kp).mono ?_
        rintro e wc ⟨rfl, rfl⟩
        rw [← HNUM.out]
        go_simp
        refine hK.out _ _ (fun _ => HNb.out) ?_
        clear hK K
        iterate 2 (refine mix_take (o := ⟨_, _, _, _, _, _⟩) rfl (fun K hK => ?_); go_simp; refine hK _ ?_; clear hK K)
        refine mix_done ?_
        have HKb : Hid (Kpr W wb gd gk p k) := Lib.hid (HKa.out.new HNb.out)
        have HBR := Lib.hid built_rc1
        obtain ⟨R1, hR1⟩ : ∃ R1, R1 = rc1.cells := ⟨_, rfl⟩
        have HR1 := Lib.hid hR1
        rw [← hR1] at HBR
        clear hR1 HKa HB10a HB11 hpz2
        go_wp2_with ((with_reducible refine atOp ⟨some 75, .build _ _, _, _, _, _⟩ ?_); refine wpList_built rfl _ [(1, .const (.int .u64 1)), (3, .const (.int .u64 1)), (4, .const (.int .u64 1))] rfl _ rfl _ HBR.out ?_)
        rw [HR1.out]
        refine (ksave_d HKb.out HL.out rc1 rc1_ok).mono ?_
        rintro e wd ⟨rfl, hK, -⟩
        rw [HSV.out, ← HR1.out]
        have HNd : Hid (New W wd) := Lib.hid hK.nw
        clear hK HKb
        by_cases hm : num = 18446744073709551615
        · rw [if_pos hm]
          have hq : ((num : Int) == 18446744073709551615) = true := by rw [hm]; rfl
          have HE9 : Hid (errD 9 = .iface 55 (.int .i64 9)) := Lib.hid (errD_n (by decide))
          rw [HE9.out]
          clear hm
          go_wp2_with fail
          refine (is_err 9 9 wd (by decide)).mono ?_
          rintro e we ⟨rfl, rfl⟩
          rw [show ((9 : Int) == 9) = true from rfl]
          go_wp2_with fail
          go_ret
          exact ⟨rfl, HNd.out⟩
        · rw [if_neg hm, errD_0]
          have hq : ((num : Int) == 18446744073709551615) = false := by rw [beq_eq_false_iff_ne]; omega
          clear hm
          go_wp2_with fail
          refine (is_nil 9 wd).mono ?_
          rintro e we ⟨rfl, rfl⟩
          rw [show ((0 : Int) == 9) = false from rfl]
          go_wp2_with fail
          go_ret
          exact ⟨rfl, HNd.out⟩
theorem reads_law {W : World} {v0 : Value} (o0 : ∃ X : List Int, v0 = .agg (secA X) ∧ X.length = 256 ∧ Byt X) (hL : laidMetH Tryd.prog [("entrust/entrustref02.Constants", Rows.laid_entrust_entrustref02_Constants), ("entrust/entrustref02.Initials", Rows.laid_entrust_entrustref02_Initials), ("entrust/sha.constants", Rows.laid_entrust_sha_constants), ("entrust/sha.initials", Rows.laid_entrust_sha_initials)] W) :
    Calls Tryd.prog 3 #[v0] W fun e w' => e = .returned (.bool true) ∧ Below W.heap.size W w' := by
  obtain ⟨X, rfl, h1, h2⟩ := o0
  exact reads_walk X h1 h2 W (sha_both hL).2 (sha_both hL).1
end Go.Proofs.YtdojmjglnlkmoaaDoor
/- What a disk and its keeper leave alone, the reference's rows among it. sha's tables are as they were laid. No condition else. -/
namespace Go.Proofs.YtdojmjglnlkmoaaDoor
set_option linter.unusedVariables false
set_option linter.unusedSimpArgs false
set_option linter.constructorNameAsVariable false
open Go.RowKit Go.Sort

theorem openP_ok {p : DP} (h : p.Ok) : (openP p).Ok := by
  unfold openP
  exact takeK_ok (takeK_ok KR.new_ok (getR_ok 0 (slotB_ok h 0).2 (slotB_ok h 0).1) (getN_lt 0 (slotB_ok h 0).2 (slotB_ok h 0).1)) (getR_ok 1 (slotB_ok h 1).2 (slotB_ok h 1).1) (getN_lt 1 (slotB_ok h 1).2 (slotB_ok h 1).1)
structure Kpq (w w' : World) : Prop where
  blk : ∀ b t cs, Blk w b t cs → t ≠ 90 → t ≠ 83 → t ≠ 3 → Blk w' b t cs
  rf : ∀ r A1 A2, RfIn w r A1 A2 → RfIn w' r A1 A2
theorem Kpq.new {w w' : World} (h : New w w') : Kpq w w' := ⟨fun _ _ _ hb _ _ _ => h.blk hb, fun _ _ _ hr => hr.new h⟩
theorem Kpq.tr {w w' w'' : World} (h : Kpq w w') (k : Kpq w' w'') : Kpq w w'' := ⟨fun b t cs hb h1 h2 h3 => k.blk b t cs (h.blk b t cs hb h1 h2 h3) h1 h2 h3, fun r A1 A2 hr => k.rf r A1 A2 (h.rf r A1 A2 hr)⟩
theorem Kpq.dk {w w' : World} {base g bs bf : Nat} {v : Value} {p : DP} (h : Dk w base g bs bf v p) (hF : Fr (DkOurs g bs bf v) w w') : Kpq w w' :=
  ⟨Kpt.dk h hF, fun _ _ _ hr => hr.fr hF (dk_not h)⟩
section
variable {W w w' : World} {gd gk : Nat} {p : DP} {k : KR}
theorem Kpr.st (h : Kpr W w gd gk p k) {b t : Nat} {cs : Array Value} (hb : Blk w b t cs) (hF : Fr (fun x => x = b) w w') (hlt : W.heap.size ≤ b) (e1 : t ≠ 90) (e2 : t ≠ 83) (e3 : t ≠ 3) : Kpr W w' gd gk p k := by
  obtain ⟨bs, bf, v, h1, h2, h3, h4⟩ := h
  refine ⟨bs, bf, v, h1.fr hF (fun x hx => ?_), h2.fr hF (fun hx => Blk.ne_ hb h2.blk e1 hx.symm), h3, h4.fr hF (fun x hx => by rw [hx]; exact hlt)⟩
  subst hx
  exact dk_notBlk h1 hb (fun e => Blk.ne_ hb h1.blk e2 e) e3
theorem Dsk.st (h : Dsk W w gd p) {b t : Nat} {cs : Array Value} (hb : Blk w b t cs) (hF : Fr (fun x => x = b) w w') (hlt : W.heap.size ≤ b) (e2 : t ≠ 83) (e3 : t ≠ 3) : Dsk W w' gd p := by
  obtain ⟨bs, bf, v, h1, h4⟩ := h
  refine ⟨bs, bf, v, h1.fr hF (fun x hx => ?_), h4.fr hF (fun x hx => by rw [hx]; exact hlt)⟩
  subst hx
  exact dk_notBlk h1 hb (fun e => Blk.ne_ hb h1.blk e2 e) e3
theorem RfIn.st {r : RP} {A1 A2 : Option Addr} (h : RfIn w r A1 A2) {b t : Nat} {cs : Array Value} (hb : Blk w b t cs) (hF : Fr (fun x => x = b) w w') (e : t ≠ 87) : RfIn w' r A1 A2 := h.fr hF (fun y hy => by rw [hy]; exact IsT.not_blk hb e)
theorem ksave_q (h : Kpr W w gd gk p k) (hL : ShaIn 3 2 W) (r : Rc) (hr : r.Ok) : Calls Tryd.prog 17 #[.pointer (some ⟨gk, 0, none⟩), .agg r.cells] w fun e w' => e = .returned (errD (saveP p k r).2.2) ∧ Kpr W w' gd gk (saveP p k r).1 (saveP p k r).2.1 ∧ Kpq w w' := by
  obtain ⟨bs, bf, v, h1, h2, h3, h4⟩ := h
  refine (ksave_kp h2 h1 (hL.new h4) r hr).mono fun e w' ⟨he, v', hT⟩ => ⟨he, ⟨bs, bf, v', hT.dk, hT.kp, h3, ?_⟩, ?_, ?_⟩
  · refine h4.fr hT.fr (fun b hb => ?_)
    rcases hb with rfl | hb
    · exact h3
    · exact (h1.ours b hb).1
  · intro b t cs hb e1 e2 e3
    refine hb.fr hT.fr (fun ho => ?_)
    rcases ho with rfl | ho
    · exact Blk.ne_ hb h2.blk (fun e => e1 e) rfl
    · exact dk_notBlk h1 hb (fun e => Blk.ne_ hb h1.blk (fun e => e2 e) e) e3 ho
  · intro r A1 A2 hr
    refine hr.fr hT.fr (fun x ho => ?_)
    rcases ho with rfl | ho
    · exact IsT.not_blk h2.blk (by decide)
    · exact dk_not h1 _ ho
theorem dcut_q (h : Dsk W w gd p) {q : Nat → Prop} (A : Option Addr) (n c : Nat) (keep : List Bool) (hR : Rd q w 1 A n (bools keep)) (hn : n ≤ maxLen) (hq : ∀ bs bf v, Dk w W.heap.size gd bs bf v p → ∀ k, q k → k ≠ bs) :
    Calls Tryd.prog 25 #[.pointer (some ⟨gd, 0, none⟩), .slice A n c] w fun e w' => e = .returned (.tuple #[]) ∧ Dsk W w' gd (p.cut keep) ∧ Kpq w w' := by
  obtain ⟨bs, bf, v, h1, h2⟩ := h
  refine (cut_in h1 A n c keep hR hn (hq bs bf v h1)).mono fun e w' ⟨he, hD, hF⟩ => ⟨he, ⟨bs, bf, _, hD, h2.fr hF (fun b hb => ?_)⟩, ?_⟩
  · exact (h1.ours b (by rcases hb with h | h | h <;> simp [DkOurs, h])).1
  · exact Kpq.dk h1 (hF.mono (fun b _ hb => by rcases hb with h | h | h <;> simp [DkOurs, h]))
theorem dfuse_q (h : Kpr W w gd gk p k) (a : Int) (ha : (Lit.int .i64 a).wf = true) : Calls Tryd.prog 24 #[.pointer (some ⟨gd, 0, none⟩), .int .i64 a] w fun e w' => e = .returned (.tuple #[]) ∧ Kpr W w' gd gk (p.fused a) k ∧ Kpq w w' := by
  obtain ⟨bs, bf, v, h1, h2, h3, h4⟩ := h
  refine (fuse_in h1 ha).mono fun e w' ⟨he, hD, hF⟩ => ⟨he, ⟨bs, bf, v, hD, h2.fr hF (fun e => Blk.ne_ h2.blk h1.blk (by decide) e), h3, h4.fr hF (fun b hb => ?_)⟩, ?_⟩
  · rw [hb]; exact h1.lo.1
  · exact Kpq.dk h1 (hF.mono (fun b _ hb => .inl hb))
end
end Go.Proofs.YtdojmjglnlkmoaaDoor
/- RecordPlays, walked: the script. sha's tables and the reference's are as they were laid. No condition else. -/
namespace Go.Proofs.YtdojmjglnlkmoaaDoor
set_option linter.unusedVariables false
set_option linter.unusedSimpArgs false
set_option linter.constructorNameAsVariable false
open Go.RowKit Go.Sort

/-- Both sides behind so many acts. -/
structure Both (W wr : World) (gd gk b8 b10 a j : Nat) (p : DP) (k : KR) (r : RP) (A1 : Option Addr) (c1 : Nat) (A2 : Option Addr) (c2 : Nat) : Prop where
  kp : Kpr W wr gd gk p k
  mt : Mt p r
  rf : RfIn wr r A1 A2
  b8 : Blk wr b8 33 (RfV r A1 c1 A2 c2)
  b10 : Blk wr b10 45 k.now.cells
  low : LowN p j
  num : k.number ≤ j
  tot : r.tot ≤ 2 * j
  size : p.size = a
theorem Both.new {W wr w' : World} {gd gk b8 b10 a j : Nat} {p : DP} {k : KR} {r : RP} {A1 : Option Addr} {c1 : Nat} {A2 : Option Addr} {c2 : Nat} (h : Both W wr gd gk b8 b10 a j p k r A1 c1 A2 c2) (hN : New wr w') : Both W w' gd gk b8 b10 a j p k r A1 c1 A2 c2 :=
  ⟨h.kp.new hN, h.mt, h.rf.new hN, hN.blk h.b8, hN.blk h.b10, h.low, h.num, h.tot, h.size⟩
/-- Both sides ahead of the live side's saving: the reference has saved. -/
structure Mid (W wx : World) (gd gk b8 b10 b13 b14 j : Nat) (p : DP) (k : KR) (XL : List Value) (RC : Array Value) (pz : DP) (kz : KR) (rz : RP) (A1 : Option Addr) (c1 : Nat) (A2 : Option Addr) (c2 : Nat) : Prop where
  kp : Kpr W wx gd gk p k
  mt : Mt pz rz
  rf : RfIn wx rz A1 A2
  b8 : Blk wx b8 33 (RfV rz A1 c1 A2 c2)
  b10 : Blk wx b10 45 kz.now.cells
  b13 : Blk wx b13 74 XL.toArray
  b14 : Blk wx b14 45 RC
  tot : rz.tot ≤ 2 * (j + 1)
theorem Mid.new {W wx w' : World} {gd gk b8 b10 b13 b14 j : Nat} {p : DP} {k : KR} {XL : List Value} {RC : Array Value} {pz : DP} {kz : KR} {rz : RP} {A1 : Option Addr} {c1 : Nat} {A2 : Option Addr} {c2 : Nat} (h : Mid W wx gd gk b8 b10 b13 b14 j p k XL RC pz kz rz A1 c1 A2 c2) (hN : New wx w') : Mid W w' gd gk b8 b10 b13 b14 j p k XL RC pz kz rz A1 c1 A2 c2 :=
  ⟨h.kp.new hN, h.mt, h.rf.new hN, hN.blk h.b8, hN.blk h.b10, hN.blk h.b13, hN.blk h.b14, h.tot⟩
theorem save_broken {p : DP} {k : KR} {r : Rc} (h1 : r.Right) (h2 : k.broken = true) : saveP p k r = (p, k, 10) := by
  unfold saveP
  rw [if_neg (not_not_intro h1), if_pos h2]
theorem save_big {p : DP} {k : KR} {r : Rc} (h1 : r.Right) (h2 : k.broken = false) (h3 : k.number ≠ 18446744073709551615) :
    saveP p k r = if (writeP p (k.number + 1) (putL (k.number + 1) r)).2 ≠ 0 then ((writeP p (k.number + 1) (putL (k.number + 1) r)).1, { k with broken := true }, (writeP p (k.number + 1) (putL (k.number + 1) r)).2) else ((writeP p (k.number + 1) (putL (k.number + 1) r)).1, ⟨k.number + 1, r, false⟩, 0) := by
  unfold saveP
  rw [if_neg (not_not_intro h1), if_neg (by rw [h2]; decide), if_neg h3, h2]
theorem writeQ_size (p : DP) (n : Nat) (all : List Int) : ∀ k, (writeQ p n all k).1.size = p.size
  | 0 => rfl
  | k + 1 => by
    have h := writeQ_size p n all k
    by_cases hb : (writeQ p n all k).2 = 0
    · rw [writeQ_go hb]
      show ((writeQ p n all k).1.doWrite _ _).size = p.size
      rw [DP.doWrite_size, h]
    · rw [writeQ_bad hb, h]
theorem save_size (p : DP) (k : KR) (r : Rc) : (saveP p k r).1.size = p.size := by
  have hw : (writeP p (k.number + 1) (putL (k.number + 1) r)).1.size = p.size := by
    unfold writeP
    simp only
    split
    · exact writeQ_size _ _ _ _
    · rw [DP.doSync_size, writeQ_size]
  unfold saveP
  split
  · rfl
  split
  · rfl
  split
  · rfl
  simp only
  split
  · exact hw
  · exact hw
theorem AR.atR {a : AR} (h : a.r.Ok) {i : Nat} {v : Value} (hv : a.r.cells.toList[i]? = some v) : a.cells[2 + i]? = some v := by
  have hi := (List.getElem?_eq_some_iff.1 hv).1
  unfold AR.cells
  rw [List.append_assoc, List.getElem?_append_right (by simp), List.getElem?_append_left (by simpa using hi)]
  simpa using hv
theorem quiet_row {P : Program} {ops : Array Oper} {C : World → Prop} {Q : Go.Act → Prop} {rest : List Oper} {o : Oper} {a : Go.Act} {T : TypeId} {d : TypeDesc} {b off : Nat} {cs : List Value} (hw : Region.wanted o (yielded ops a.tmps) = true) (_ : True) (x : Operand) (hop : o.op = .load T x) (hx : a.eval x = .pointer (some ⟨b, off, none⟩))
    (hc : ∀ w', C w' → w'.rangeAt b off cs) (hu : P.underlying T = some d) (hd : d.isRow = true) (hi : (P.info? T).map (·.size) = some cs.length)
    (h : wpQuiet P ops C Q rest (a.put o.dst (.agg cs.toArray))) : wpQuiet P ops C Q (o :: rest) a := by
  show (if Region.wanted o (yielded ops a.tmps) then o.quiet P a C (wpQuiet P ops C Q rest) else _)
  rw [if_pos hw]
  refine ⟨_, fun w' hC => ?_, h⟩
  unfold Oper.quietAt execOp
  simp only [hop, hx, Instr.loadAt, Instr.sureAddr, Sem.run_bind, Sem.run_pure, Result.andThen_ok, run_loadVar_mid w' b off T cs d (hc _ hC) hu hd hi]
  exact ⟨rfl, rfl⟩
theorem actZero : (Tryd.prog.info? 74).map (fun i => (i.zero, i.size)) = some (some (.agg #[.int .i64 0, .int .i64 0, .int .u8 0, .int .u8 0, .int .u8 0, .int .u8 0, .int .u8 0, .int .u8 0, .int .u8 0, .int .u8 0, .int .u8 0, .int .u8 0, .int .u8 0, .int .u8 0, .int .u8 0, .int .u8 0, .int .u8 0, .int .u8 0, .int .u8 0, .int .u8 0, .int .u8 0, .int .u8 0, .int .u8 0, .int .u8 0, .int .u8 0, .int .u8 0, .int .u8 0, .int .u8 0, .int .u8 0, .int .u8 0, .int .u8 0, .int .u8 0, .int .u8 0, .int .u8 0, .int .u64 0, .int .u64 0, .int .u64 0, .int .u64 0, .int .u64 0, .slice none 0 0]), 40) := by kernel_rfl
theorem actInfo : (Tryd.prog.info? 74).map (·.size) = some 40 := by kernel_rfl
set_option maxHeartbeats 4000000
set_option maxRecDepth 100000
theorem plays_main {q : Nat → Prop} (a : Nat) (A : Option Addr) (m c : Nat) (L : List AR) (W : World) (hL : ShaIn 3 2 W) (hR : RShaIn 1 0 W) (hm : ¬ 40 < m) (h1 : 4 ≤ a) (h2 : a ≤ 100) (hS : Rd q W 40 A m (L.flatMap AR.cells)) (hl : L.length = m) (hg : ∀ x ∈ L, x.Good W) :
    Calls Tryd.prog 6 #[.int .i64 a, .slice A m c] W fun e w' => e = .returned (.bool true) ∧ New W w' := by
  have HL := Lib.hid hL
  have HR := Lib.hid hR
  have HA := Lib.hid (And.intro h1 h2)
  have HS := Lib.hid hS
  have HLL := Lib.hid hl
  have HG := Lib.hid hg
  have HM := Lib.hid hm
  have hq1 : decide ((40 : Int) < (m : Int)) = false := decide_eq_false (by omega)
  have hq2 : decide (40 < m) = false := decide_eq_false hm
  have hq : ¬ ((40 : Int) < (m : Int)) := by omega
  have h31 : decide ((100 : Int) < (a : Int)) = false := decide_eq_false (by omega)
  have h32 : decide (100 < a) = false := decide_eq_false (by omega)
  have h41 : decide ((a : Int) < 4) = false := decide_eq_false (by omega)
  have h42 : decide (a < 4) = false := decide_eq_false (by omega)
  have HB0 := Lib.hid built_ref0
  clear hL hR hm h1 h2 hS hl hg
  go_enter Tryd.func6, Tryd.ntmps6
  go_wp2_with fail
  refine (alive_any W HL.out).mono ?_
  rintro e w1 ⟨rfl, hN⟩
  have HN := Lib.hid hN
  clear hN
  go_wp2_with fail
  clear hq1 hq2 hq
  refine (dnew_d HN.out a (by have := HA.out; omega) (by have := HA.out; omega)).mono ?_
  rintro e w2 ⟨gd, rfl, hD, -⟩
  have HD := Lib.hid hD
  clear hD HN
  go_wp2_with fail
  refine (kopen_d HD.out HL.out (by have := HA.out; exact this.1)).mono ?_
  rintro e w3 ⟨gk, rfl, hK, -⟩
  rw [(Kst.new (n := a) HA.out.1 (by have := HA.out; omega)).toKop.opens] at hK
  have HK := Lib.hid hK
  clear hK HD
  go_wp2_with fail
  clear h31 h32 h41 h42
  refine (rnew_any (a : Int) w3).mono ?_
  rintro e w4 ⟨rfl, hN⟩
  have HK4 : Hid (Kpr W w4 gd gk (DP.new a) KR.new) := Lib.hid (HK.out.new hN)
  obtain ⟨RV, hRV⟩ : ∃ RV, RV = RfV (RP.new a) none 0 none 0 := ⟨_, rfl⟩
  have HRV := Lib.hid hRV
  have HRVZ : Hid (RV.size = 5 ∧ RV.all (·.oneCell') = true) := Lib.hid (by rw [hRV]; exact ⟨rfl, rfv_all _ _ _ _ _⟩)
  rw [← hRV]
  clear hN HK hRV
  go_upto_region 12 with ((with_reducible refine atOp ⟨some 8, .alloc _, _, _, _, _⟩ ?_); refine wpList_newrow rfl rfl rfl _ _ rfl rInfo (by rfl) rfl rfl HRVZ.out.1 HRVZ.out.2 ?_)
  obtain ⟨w5, hw5⟩ : ∃ w5 : World, w5 = w4.alloc (.cells RV 33) := ⟨_, rfl⟩
  obtain ⟨b8, hb8⟩ : ∃ b8, b8 = w4.heap.size := ⟨_, rfl⟩
  have HK5 : Hid (Kpr W w5 gd gk (DP.new a) KR.new) := Lib.hid (HK4.out.new (by rw [hw5]; exact New.al (New.refl _) _))
  have HB8 : Hid (Blk w5 b8 33 RV) := Lib.hid (by rw [hw5, hb8]; exact Blk.new _ _ _)
  have HZ8 : Hid (W.heap.size ≤ b8) := Lib.hid (by rw [hb8]; exact HK4.out.nw.size)
  rw [← hw5, ← hb8]
  clear hw5 hb8 HK4
  go_upto_region 13 with (first
    | ((with_reducible refine atOp ⟨some 55, .build _ _, _, _, _, _⟩ ?_); refine wpList_built rfl _ [] rfl _ rfl _ HB0.out ?_)
    | ((with_reducible refine atOp ⟨some 10, .alloc _, _, _, _, _⟩ ?_); refine wpList_alloc_row rfl rfl refInfo ?_; intro b10 w6 hb hB hN; have HB10 := Lib.hid hB; have HN6 := Lib.hid hN; have HZ10 := Lib.hid hb; clear hb hB hN)
    | ((with_reducible refine atOp ⟨none, .store 45 (.tmp 10) _, _, _, _, _⟩ ?_); refine wpList_store_any rfl (.tmp 10) (.tmp 55) rfl (by rfl) rfl rfl HB10.out rfl (Rc.one _) ?_; intro w7 hb hf; have HB107 := Lib.hid hb; have HF7 := Lib.hid hf; clear hb hf))
  have HN7 : Hid (New w5 w7) := Lib.hid (HN6.out.fr HF7.out (fun x hx => by have := HZ10.out; omega))
  have HLT : Hid (W.heap.size ≤ b8 ∧ W.heap.size ≤ b10 ∧ b8 ≠ b10) := Lib.hid (by have h1 := HZ8.out; have h2 := HZ10.out; have h3 := HB8.out.lt; omega)
  have HBO : Hid (Both W w7 gd gk b8 b10 a 0 (DP.new a) KR.new (RP.new a) none 0 none 0) := Lib.hid
    { kp := HK5.out.new HN7.out, mt := Mt.new a, rf := ⟨RdT.nil, RdT.nil, by show (RP.new (a : Int)).Ok; simp [RP.new, RP.Ok]⟩, b8 := by rw [← HRV.out]; exact HN7.out.blk HB8.out, b10 := HB107.out, low := LowN.new a 0, num := Nat.le_refl _, tot := by simp [RP.new, RP.tot], size := rfl }
  clear HK5 HB8 HZ8 HB10 HN6 HZ10 HF7 HB107 HN7 HRVZ HRV
  go_wp2_with fail
  go_loopw [58, 7, 9, 11] (fun i kv nv bv wr => ∃ (j : Nat) (gk : Nat) (p : DP) (k : KR) (r : RP) (A1 : Option Addr) (c1 : Nat) (A2 : Option Addr) (c2 : Nat), Hid (j ≤ m) ∧ i = .int .i64 (j : Int) ∧ kv = .pointer (some ⟨gk, 0, none⟩) ∧ nv = .int .u64 (k.number : Nat) ∧ bv = .bool k.broken ∧ Hid (Both W wr gd gk b8 b10 a j p k r A1 c1 A2 c2)) (fun i _ _ _ _ => m - (intOf i).toNat)
  case atStart => exact ⟨0, gk, DP.new a, KR.new, RP.new a, none, 0, none, 0, Lib.hid (by omega), rfl, rfl, rfl, rfl, HBO⟩
  case round =>
    clear HBO
    obtain ⟨j, gk, p, k, r, A1, c1, A2, c2, HJ, rfl, rfl, rfl, rfl, HBO⟩ := hrel
    by_cases hj : j < m
    · have hlt : (j : Int) < (m : Int) := by omega
      have HJ2 := Lib.hid hj
      have e1 : IntKind.i64.wrap ((j : Int) + 1) = (j : Int) + 1 := IntWalk.i64_in _ (by have := HM.out; omega)
      obtain ⟨g, o, hl, rfl, hgs, hrg⟩ := rd_ar HS.out HLL.out (fun x hx => (HG.out x hx).r) hj
      obtain ⟨x, hx⟩ : ∃ x, x = L[j] := ⟨_, rfl⟩
      have HXG : Hid (x.Good W) := Lib.hid (by rw [hx]; exact HG.out _ (List.getElem_mem _))
      obtain ⟨XL, hXL⟩ : ∃ XL, XL = x.cells := ⟨_, rfl⟩
      have HXL : Hid (XL = x.cells ∧ XL.length = 40 ∧ XL.toArray.size = 40 ∧ XL.toArray.all (·.oneCell') = true) := Lib.hid (by
        have h1 := AR.len HXG.out.r
        rw [hXL]
        exact ⟨rfl, h1, by simpa using h1, all_oneCell_toArray (AR.one x)⟩)
      have HRW : Hid (wr.rangeAt g (o + j * 40) XL) := Lib.hid (by rw [hXL, hx]; exact fun i v hv => HBO.out.kp.nw.cell_ (hrg i v hv))
      clear hj hrg hgs hx hXL
      go_upto_region 16 with (first
        | ((with_reducible refine atOp ⟨some 61, .load _ _, _, _, _, _⟩ ?_); refine wpList_load_range rfl _ rfl rfl HRW.out Tryd.underlying74 rfl (by rw [HXL.out.2.1]; exact actInfo) ?_)
        | ((with_reducible refine atOp ⟨some 13, .alloc _, _, _, _, _⟩ ?_); refine wpList_newrow rfl rfl rfl _ _ rfl actZero (by rfl) rfl rfl HXL.out.2.2.1 HXL.out.2.2.2 ?_))
      simp only [Act.put, List.setIfInBounds_toArray, List.set_cons_zero, List.set_cons_succ]
      obtain ⟨w8, hw8⟩ : ∃ w8 : World, w8 = wr.alloc (.cells XL.toArray 74) := ⟨_, rfl⟩
      obtain ⟨b13, hb13⟩ : ∃ b13, b13 = wr.heap.size := ⟨_, rfl⟩
      have HBO8 : Hid (Both W w8 gd gk b8 b10 a j p k r A1 c1 A2 c2) := Lib.hid (HBO.out.new (by rw [hw8]; exact New.al (New.refl _) _))
      have HB13 : Hid (Blk w8 b13 74 XL.toArray) := Lib.hid (by rw [hw8, hb13]; exact Blk.new _ _ _)
      rw [← hw8, ← hb13]
      clear hw8 hb13 HBO HRW
      have x0 : w8.cell? ⟨b13, 0, none⟩ = some (.int .i64 x.kind) := by rw [HB13.out.cell, List.getElem?_toArray, HXL.out.1]; exact AR.at0 x
      have x1 : w8.cell? ⟨b13, 1, none⟩ = some (.int .i64 x.num) := by rw [HB13.out.cell, List.getElem?_toArray, HXL.out.1]; exact AR.at1 x
      have x3 : w8.cell? ⟨b13, 39, none⟩ = some (.slice x.A x.n x.c) := by rw [HB13.out.cell, List.getElem?_toArray, HXL.out.1]; exact AR.at39 HXG.out.r
      by_cases h50 : 50 < x.n
      · have hq1 : decide ((50 : Int) < (x.n : Int)) = true := decide_eq_true (by omega)
        have hq3 : (50 : Int) < (x.n : Int) := by omega
        clear h50
        go_wp2_with fail
        go_ret
        exact ⟨rfl, HBO8.out.kp.nw⟩
      · have hq1 : decide ((50 : Int) < (x.n : Int)) = false := decide_eq_false (by omega)
        have hq3 : ¬ ((50 : Int) < (x.n : Int)) := by omega
        clear h50
        go_upto_block 2 with fail
        obtain ⟨q, hq⟩ : ∃ q, q = (IntKind.u64.wrap x.kind).tmod 3 := ⟨_, rfl⟩
        rw [← hq]
        have HQ := Lib.hid hq
        clear hq
        by_cases h0 : q = 0
        · clear HQ
          subst h0
          obtain ⟨RC, hRC⟩ : ∃ RC, RC = x.r.cells := ⟨_, rfl⟩
          have HRC : Hid (RC = x.r.cells ∧ RC.size = 37 ∧ RC.all (·.oneCell') = true) := Lib.hid (by rw [hRC]; exact ⟨rfl, Rc.size HXG.out.r.len, Rc.one _⟩)
          have HRG : Hid (∀ w', Blk w' b13 74 XL.toArray → w'.rangeAt b13 2 RC.toList) := Lib.hid (fun w' hb i v hv => by rw [hb.cell, List.getElem?_toArray, HXL.out.1]; rw [hRC] at hv; exact AR.atR HXG.out.r hv)
          clear hRC
          obtain ⟨rb, hrb⟩ : ∃ rb, rb = decide x.r.Right := ⟨_, rfl⟩
          have HRB := Lib.hid hrb
          have cDoc : ∀ W', Calls Tryd.prog 15 #[.agg RC] W' fun e w' => e = .returned (.agg RC) ∧ New W' w' := fun W' => by rw [HRC.out.1]; exact document_any x.r W' HXG.out.r
          have cR : ∀ W', Calls Tryd.prog 23 #[.agg RC] W' fun e w' => e = .returned (.bool rb) ∧ New W' w' := fun W' => by rw [HRC.out.1, HRB.out]; exact right_any x.r W' HXG.out.r
          have cRR : ∀ W', Calls Tryd.prog 26 #[.agg RC] W' fun e w' => e = .returned (.bool rb) ∧ New W' w' := fun W' => by rw [HRC.out.1, HRB.out]; exact rright_any x.r W' HXG.out.r
          have CD := Lib.hid cDoc
          have CR := Lib.hid cR
          have CRR := Lib.hid cRR
          clear hrb cDoc cR cRR
          obtain ⟨pz, hpz⟩ : ∃ pz, pz = (saveP p k x.r).1 := ⟨_, rfl⟩
          obtain ⟨kz, hkz⟩ : ∃ kz, kz = (saveP p k x.r).2.1 := ⟨_, rfl⟩
          obtain ⟨bad, hbad⟩ : ∃ bad, bad = (saveP p k x.r).2.2 := ⟨_, rfl⟩
          have HSV : Hid (saveP p k x.r = (pz, kz, bad)) := Lib.hid (by rw [hpz, hkz, hbad])
          clear hpz hkz hbad
          obtain ⟨num, hnum⟩ : ∃ num, num = kz.number := ⟨_, rfl⟩
          obtain ⟨br, hbr⟩ : ∃ br, br = kz.broken := ⟨_, rfl⟩
          have HKZ : Hid (num = kz.number ∧ br = kz.broken) := Lib.hid ⟨hnum, hbr⟩
          clear hnum hbr
          have HKN : Hid (k.number < 100) := Lib.hid (by have := HBO8.out.num; have := HJ2.out; have := HM.out; omega)
          go_wp2_with ((with_reducible refine atOp ⟨some 81, .load _ _, _, _, _, _⟩ ?_); refine wpList_load_range rfl _ rfl rfl (HRG.out _ HB13.out) Tryd.underlying48 rfl (by rw [Array.length_toList, HRC.out.2.1]; rfl) ?_)
          refine (CD.out w8).mono ?_
          rintro e w9 ⟨rfl, hN⟩
          have HN9 : Hid (New w8 w9) := Lib.hid hN
          clear hN
          go_upto_block 3 with ((with_reducible refine atOp ⟨some 14, .alloc _, _, _, _, _⟩ ?_); refine wpList_newrow rfl rfl rfl _ _ rfl refInfo (by rfl) rfl rfl HRC.out.2.1 HRC.out.2.2 ?_)
          obtain ⟨wa, hwa⟩ : ∃ wa : World, wa = w9.alloc (.cells RC 45) := ⟨_, rfl⟩
          obtain ⟨b14, hb14⟩ : ∃ b14, b14 = w9.heap.size := ⟨_, rfl⟩
          have HNa : Hid (New w8 wa) := Lib.hid (HN9.out.tr (by rw [hwa]; exact New.al (New.refl _) _))
          have HB14 : Hid (Blk wa b14 45 RC) := Lib.hid (by rw [hwa, hb14]; exact Blk.new _ _ _)
          have HB13a : Hid (Blk wa b13 74 XL.toArray) := Lib.hid (HNa.out.blk HB13.out)
          have HBOa : Hid (Both W wa gd gk b8 b10 a j p k r A1 c1 A2 c2) := Lib.hid (HBO8.out.new HNa.out)
          have HB98 : Hid (w8.heap.size ≤ b14) := Lib.hid (by rw [hb14]; exact HN9.out.size)
          have HNE : Hid (b14 ≠ b8 ∧ b14 ≠ b10) := Lib.hid ⟨fun e => by have := HBO8.out.b8.lt; have := HB98.out; omega, fun e => by have := HBO8.out.b10.lt; have := HB98.out; omega⟩
          rw [← hwa, ← hb14]
          clear hwa hb14 HN9 HNa HBO8 HB13 x0 x1 x3 HB98
          go_cut [9, 11, 15, 58] from 58 to 167 (fun s9 s11 s15 s58 wx => s58 = .int .i64 (j : Int) ∧ s9 = .int .u64 (num : Int) ∧ s11 = .bool br ∧ s15 = .int .i64 bad ∧ ∃ rz B1 d1 B2 d2, Hid (Mid W wx gd gk b8 b10 b13 b14 j p k XL RC pz kz rz B1 d1 B2 d2))
          case first =>
            go_upto_region 29 with fail
            go_wp2_with ((with_reducible refine atOp ⟨some 98, .load _ _, _, _, _, _⟩ ?_); refine wpList_load_any rfl _ rfl Tryd.underlying45 rfl (by rw [HRC.out.2.1]; rfl) rfl HB14.out ?_)
            refine (CRR.out wa).mono ?_
            rintro e wb ⟨rfl, hNb⟩
            have HBOb : Hid (Both W wb gd gk b8 b10 a j p k r A1 c1 A2 c2) := Lib.hid (HBOa.out.new hNb)
            have HB13b : Hid (Blk wb b13 74 XL.toArray) := Lib.hid (hNb.blk HB13a.out)
            have HB14b : Hid (Blk wb b14 45 RC) := Lib.hid (hNb.blk HB14.out)
            clear hNb HBOa HB13a HB14
            rcases rb with _ | _
            · have hsv : saveP p k x.r = (p, k, 2) := if_pos (of_decide_eq_false HRB.out.symm)
              rw [HSV.out] at hsv
              injection hsv with e1 e2
              injection e2 with e2 e3
              have HE : Hid (num = k.number ∧ br = k.broken ∧ bad = 2) := Lib.hid ⟨by rw [HKZ.out.1, e2], by rw [HKZ.out.2, e2], e3⟩
              have HM0 : Hid (Mid W wb gd gk b8 b10 b13 b14 j p k XL RC pz kz r A1 c1 A2 c2) := Lib.hid ⟨HBOb.out.kp, by rw [e1]; exact HBOb.out.mt, HBOb.out.rf, HBOb.out.b8, by rw [e2]; exact HBOb.out.b10, HB13b.out, HB14b.out, by have := HBOb.out.tot; omega⟩
              clear e1 e2 e3
              go_wp2_with fail
              go_meet
              exact ⟨rfl, by rw [HE.out.1], by rw [HE.out.2.1], by rw [HE.out.2.2], r, A1, c1, A2, c2, HM0⟩
            · obtain ⟨kb, hkb⟩ : ∃ kb, kb = k.broken := ⟨_, rfl⟩
              rw [← hkb]
              have HKB := Lib.hid hkb
              clear hkb
              rcases kb with _ | _
              · go_wp2_with (first
                  | ((with_reducible refine atOp ⟨some 84, .load _ _, _, _, _, _⟩ ?_); refine wpList_load_any rfl _ rfl Tryd.underlying33 rfl rfl rfl HBOb.out.b8 ?_)
                  | ((with_reducible refine atOp ⟨some 86, .load _ _, _, _, _, _⟩ ?_); refine wpList_load_any rfl _ rfl Tryd.underlying45 rfl (by rw [HRC.out.2.1]; rfl) rfl HB14b.out ?_))
                rw [HRC.out.1]
                refine (rsave_any c1 c2 HBOb.out.rf HBOb.out.mt HBOb.out.kp.dsk.ok (by rw [HBOb.out.size]; exact HA.out.1) (HR.out.new HBOb.out.kp.nw) (by have := HBOb.out.tot; have := HJ2.out; have := HM.out; omega) k.number (by have := HKN.out; omega) x.r HXG.out.r).mono ?_
                rintro e wc ⟨⟨B1, d1, B2, d2, rfl, hRf⟩, hNc⟩
                have hmt := rwriteP_mt HBOb.out.mt (k.number + 1) (putL (k.number + 1) x.r)
                have htot := rwriteP_tot r (k.number + 1) (putL (k.number + 1) x.r)
                have hsv := save_big (p := p) (of_decide_eq_true HRB.out.symm) HKB.out.symm (by have := HKN.out; omega)
                rw [HSV.out] at hsv
                obtain ⟨rz, hrz⟩ : ∃ rz, rz = (rwriteP r (k.number + 1) (putL (k.number + 1) x.r)).1 := ⟨_, rfl⟩
                obtain ⟨cd, hcd⟩ : ∃ cd, cd = (rwriteP r (k.number + 1) (putL (k.number + 1) x.r)).2 := ⟨_, rfl⟩
                rw [← hrz] at hmt htot hRf
                rw [← hcd] at hmt
                rw [← hrz, ← hcd, ← HRC.out.1]
                rw [← hmt.2] at hsv
                have HMT := Lib.hid hmt
                have HTO := Lib.hid htot
                have HSW := Lib.hid hsv
                have HRf := Lib.hid hRf
                have HBOc : Hid (Both W wc gd gk b8 b10 a j p k r A1 c1 A2 c2) := Lib.hid (HBOb.out.new hNc)
                have HB13c : Hid (Blk wc b13 74 XL.toArray) := Lib.hid (hNc.blk HB13b.out)
                have HB14c : Hid (Blk wc b14 45 RC) := Lib.hid (hNc.blk HB14b.out)
                clear hrz hcd hmt htot hsv hRf hNc HBOb HB13b HB14b
                obtain ⟨RW, hRW⟩ : ∃ RW, RW = RfV rz B1 d1 B2 d2 := ⟨_, rfl⟩
                have HRW2 : Hid (RW = RfV rz B1 d1 B2 d2 ∧ RW.size = 5 ∧ RW.all (·.oneCell') = true) := Lib.hid (by rw [hRW]; exact ⟨rfl, rfl, rfv_all _ _ _ _ _⟩)
                rw [← hRW]
                clear hRW
                go_upto_region 25 with ((with_reducible refine atOp ⟨none, .store 33 (.tmp 8) _, _, _, _, _⟩ ?_); refine wpList_store_any rfl (.tmp 8) (.tmp 88) rfl (by rw [HRW2.out.2.1]; rfl) rfl rfl HBOc.out.b8 (by rw [HRW2.out.2.1]; rfl) HRW2.out.2.2 ?_; intro wd hb hf; have HB8d := Lib.hid hb; have HFd := Lib.hid hf; clear hb hf)
                have HKd : Hid (Kpr W wd gd gk p k) := Lib.hid (HBOc.out.kp.st HBOc.out.b8 HFd.out HLT.out.1 (by decide) (by decide) (by decide))
                have HB10d : Hid (Blk wd b10 45 k.now.cells) := Lib.hid (HBOc.out.b10.fr HFd.out (fun e => HLT.out.2.2 e.symm))
                have HB13d : Hid (Blk wd b13 74 XL.toArray) := Lib.hid (HB13c.out.fr HFd.out (fun e => Blk.ne_ HB13c.out HBOc.out.b8 (by decide) e))
                have HB14d : Hid (Blk wd b14 45 RC) := Lib.hid (HB14c.out.fr HFd.out HNE.out.1)
                have HRd : Hid (RfIn wd rz B1 B2) := Lib.hid (HRf.out.st HBOc.out.b8 HFd.out (by decide))
                have HTd : Hid (rz.tot ≤ 2 * (j + 1)) := Lib.hid (by have := HBOc.out.tot; have := HTO.out; omega)
                have HSZ : Hid (k.now.cells.size = 37) := Lib.hid (Rc.size HBOc.out.kp.kp.ok.now.len)
                clear HBOc HB13c HB14c HRf HFd HTO
                by_cases hc : cd = 0
                · subst hc
                  have hsv := HSW.out
                  rw [if_neg (by simp)] at hsv
                  injection hsv with e1 e2
                  injection e2 with e2 e3
                  have HE : Hid (num = k.number + 1 ∧ br = false ∧ bad = 0 ∧ kz.now = x.r ∧ pz = (writeP p (k.number + 1) (putL (k.number + 1) x.r)).1) := Lib.hid ⟨by rw [HKZ.out.1, e2], by rw [HKZ.out.2, e2], e3, by rw [e2], e1⟩
                  have e5 : IntKind.u64.wrap ((k.number : Int) + 1) = (num : Int) := by
                    rw [HE.out.1]
                    exact IntWalk.u64_in _ (by have := HKN.out; omega)
                  clear e1 e2 e3
                  go_wp2_with (first
                    | ((with_reducible refine atOp ⟨some 96, .load _ _, _, _, _, _⟩ ?_); refine wpList_load_any rfl _ rfl Tryd.underlying45 rfl (by rw [HRC.out.2.1]; rfl) rfl HB14d.out ?_)
                    | ((with_reducible refine atOp ⟨none, .store 45 (.tmp 10) _, _, _, _, _⟩ ?_); refine wpList_store_any rfl (.tmp 10) (.tmp 96) rfl (by rw [HRC.out.2.1]; rfl) rfl rfl HB10d.out (by rw [HRC.out.2.1, HSZ.out]) HRC.out.2.2 ?_; intro we hb hf; have HB10e := Lib.hid hb; have HFe := Lib.hid hf; clear hb hf))
                  go_meet
                  exact ⟨rfl, rfl, by rw [HE.out.2.1], by rw [HE.out.2.2.1], rz, B1, d1, B2, d2, Lib.hid
                    ⟨HKd.out.st HB10d.out HFe.out HLT.out.2.1 (by decide) (by decide) (by decide), by rw [HE.out.2.2.2.2]; exact HMT.out.1, HRd.out.st HB10d.out HFe.out (by decide), by rw [← HRW2.out.1]; exact HB8d.out.fr HFe.out HLT.out.2.2,
                      by rw [HE.out.2.2.2.1, ← HRC.out.1]; exact HB10e.out, HB13d.out.fr HFe.out (fun e => Blk.ne_ HB13d.out HB10d.out (by decide) e), HB14d.out.fr HFe.out HNE.out.2, HTd.out⟩⟩
                · have hsv := HSW.out
                  rw [if_pos hc] at hsv
                  injection hsv with e1 e2
                  injection e2 with e2 e3
                  have HE : Hid (num = k.number ∧ br = true ∧ bad = cd ∧ kz.now = k.now ∧ pz = (writeP p (k.number + 1) (putL (k.number + 1) x.r)).1) := Lib.hid ⟨by rw [HKZ.out.1, e2], by rw [HKZ.out.2, e2], e3, by rw [e2], e1⟩
                  have hcb : (cd == 0) = false := by simpa using hc
                  have hcb2 : decide (cd = 0) = false := decide_eq_false hc
                  have hcn : (cd != 0) = true := by simpa using hc
                  clear e1 e2 e3
                  go_wp2_with fail
                  go_meet
                  exact ⟨rfl, by rw [HE.out.1], by rw [HE.out.2.1], by rw [HE.out.2.2.1], rz, B1, d1, B2, d2, Lib.hid
                    ⟨HKd.out, by rw [HE.out.2.2.2.2]; exact HMT.out.1, HRd.out, by rw [← HRW2.out.1]; exact HB8d.out, by rw [HE.out.2.2.2.1]; exact HB10d.out, HB13d.out, HB14d.out, HTd.out⟩⟩
              · have hsv : saveP p k x.r = (p, k, 10) := save_broken (of_decide_eq_true HRB.out.symm) HKB.out.symm
                rw [HSV.out] at hsv
                injection hsv with e1 e2
                injection e2 with e2 e3
                have HE : Hid (num = k.number ∧ br = true ∧ bad = 10) := Lib.hid ⟨by rw [HKZ.out.1, e2], by rw [HKZ.out.2, e2]; exact HKB.out.symm, e3⟩
                have HM0 : Hid (Mid W wb gd gk b8 b10 b13 b14 j p k XL RC pz kz r A1 c1 A2 c2) := Lib.hid ⟨HBOb.out.kp, by rw [e1]; exact HBOb.out.mt, HBOb.out.rf, HBOb.out.b8, by rw [e2]; exact HBOb.out.b10, HB13b.out, HB14b.out, by have := HBOb.out.tot; omega⟩
                clear e1 e2 e3
                go_wp2_with fail
                go_meet
                exact ⟨rfl, by rw [HE.out.1], by rw [HE.out.2.1], by rw [HE.out.2.2], r, A1, c1, A2, c2, HM0⟩
          case rest =>
            have HPL : Hid (LowN p j ∧ p.size = a ∧ (saveP p k x.r).2.1.number ≤ k.number + 1 ∧ k.number ≤ j) := Lib.hid ⟨HBOa.out.low, HBOa.out.size, save_num p k x.r, HBOa.out.num⟩
            clear HBOa HB13a HB14
            obtain ⟨rfl, rfl, rfl, rfl, rz, B1, d1, B2, d2, HMI⟩ := hcut
            obtain ⟨w9, hw9⟩ : ∃ w9, w9 = wc := ⟨_, rfl⟩
            rw [← hw9] at HMI
            rw [← hw9]
            clear hw9
            go_upto_region 33 with fail
            refine wp_region_mixH (fun w' => Blk w' b13 74 XL.toArray ∧ Blk w' b14 45 RC) [(true, 0), (true, 1), (true, 3), (false, 2), (false, 4), (true, 5), (true, 6), (true, 7), (true, 8), (true, 9), (true, 12), (false, 10), (false, 11), (true, 13), (true, 14)] (by kernel_rfl) (by kernel_rfl) ⟨(New.dr (New.refl w9)).blk HMI.out.b13, (New.dr (New.refl w9)).blk HMI.out.b14⟩ (fun hne => ?_)
            iterate 1 (refine mix_take (o := ⟨_, _, _, _, _, _⟩) rfl (fun K hK => ?_); go_simp; refine hK _ ?_; clear hK K)
            refine mix_take_row (o := ⟨_, _, _, _, _, _⟩) (cs := RC.toList) rfl rfl _ rfl rfl (fun w' h => HRG.out w' h.1) Tryd.underlying48 rfl (by rw [Array.length_toList, HRC.out.2.1]; rfl) ?_
            refine mix_take_row (o := ⟨_, _, _, _, _, _⟩) (cs := RC.toList) rfl rfl _ rfl rfl (fun w' h => h.2.rangeOf) Tryd.underlying45 rfl (by rw [Array.length_toList, HRC.out.2.1]; rfl) ?_
            refine mix_act (o := ⟨_, _, _, _, _, _⟩) rfl (fun K hK => ?_) (.inl rfl)
            go_simp
            refine (CR.out _).mono ?_
            rintro e wp1 ⟨rfl, hN1⟩
            have HM1 : Hid (Mid W wp1 gd gk b8 b10 b13 b14 j p k XL RC pz kz rz B1 d1 B2 d2) := Lib.hid (HMI.out.new ((New.dr (New.refl w9)).tr hN1))
            clear hN1 HMI
            go_simp
            refine hK.out _ _ (fun _ => ⟨HM1.out.b13, HM1.out.b14⟩) ?_
            clear hK K
            refine mix_act (o := ⟨_, _, _, _, _, _⟩) rfl (fun K hK => ?_) (.inl rfl)
            go_simp
            refine (CRR.out _).mono ?_
            rintro e wq ⟨rfl, hN1⟩
            have HMq : Hid (Mid W wq gd gk b8 b10 b13 b14 j p k XL RC pz kz rz B1 d1 B2 d2) := Lib.hid (HM1.out.new hN1)
            clear hN1 HM1
            go_simp
            refine hK.out _ _ (fun _ => ⟨HMq.out.b13, HMq.out.b14⟩) ?_
            clear hK K
            iterate 4 (refine mix_take (o := ⟨_, _, _, _, _, _⟩) rfl (fun K hK => ?_); go_simp; refine hK _ ?_; clear hK K)
            refine mix_take_row (o := ⟨_, _, _, _, _, _⟩) (cs := RC.toList) rfl rfl _ rfl rfl (fun w' h => HRG.out w' h.1) Tryd.underlying48 rfl (by rw [Array.length_toList, HRC.out.2.1]; rfl) ?_
            iterate 1 (refine mix_take (o := ⟨_, _, _, _, _, _⟩) rfl (fun K hK => ?_); go_simp; refine hK _ ?_; clear hK K)
            refine mix_act (o := ⟨_, _, _, _, _, _⟩) rfl (fun K hK => ?_) (.inl rfl)
            go_simp
            rw [HRC.out.1]
            refine (ksave_q HMq.out.kp HL.out x.r HXG.out.r).mono ?_
            rintro e ws ⟨rfl, hK2, hT⟩
            rw [← HRC.out.1]
            rw [HSV.out] at hK2
            rw [HSV.out]
            rw [HSV.out] at HPL
            have HBOws : Hid (Both W ws gd gk b8 b10 a (j + 1) pz kz rz B1 d1 B2 d2) := Lib.hid
              { kp := hK2, mt := HMq.out.mt, rf := hT.rf _ _ _ HMq.out.rf, b8 := hT.blk _ _ _ HMq.out.b8 (by decide) (by decide) (by decide), b10 := hT.blk _ _ _ HMq.out.b10 (by decide) (by decide) (by decide)
                low := by have h := (HPL.out.1.mono (Nat.le_succ j)).save (k := k) (r := x.r) HXG.out.r.len (by have := HPL.out.2.2.2; omega) (by have := HJ2.out; have := HM.out; omega); rw [HSV.out] at h; exact h
                num := by have h1 := HPL.out.2.2.1; have h2 := HPL.out.2.2.2; show kz.number ≤ _; dsimp only at h1; omega
                tot := HMq.out.tot, size := by have h := save_size p k x.r; rw [HSV.out] at h; exact h.trans HPL.out.2.1 }
            have HS2 : Hid (Blk ws b13 74 XL.toArray ∧ Blk ws b14 45 RC) := Lib.hid ⟨hT.blk _ _ _ HMq.out.b13 (by decide) (by decide) (by decide), hT.blk _ _ _ HMq.out.b14 (by decide) (by decide) (by decide)⟩
            clear hK2 hT HMq HPL
            go_simp
            refine hK.out _ _ (fun _ => HS2.out) ?_
            clear hK K
            refine mix_act (o := ⟨_, _, _, _, _, _⟩) rfl (fun K hK => ?_) (.inl rfl)
            go_simp
            refine (num_errD bad ws).mono ?_
            rintro e wn ⟨rfl, rfl⟩
            go_simp
            refine hK.out _ _ (fun _ => HS2.out) ?_
            clear hK K
            iterate 2 (refine mix_take (o := ⟨_, _, _, _, _, _⟩) rfl (fun K hK => ?_); go_simp; refine hK _ ?_; clear hK K)
            refine mix_done ?_
            clear HSV HS2
            go_upto_region 43 with fail
            go_wp2_with fail
            refine (kget_kp HBOws.out.kp.kp).mono ?_
            rintro e wt ⟨rfl, hNt⟩
            have HNt : Hid (New ws wt) := Lib.hid hNt
            have HNOW : Hid (kz.now.Ok) := Lib.hid HBOws.out.kp.kp.ok.now
            obtain ⟨NC, hNC⟩ : ∃ NC, NC = kz.now.cells := ⟨_, rfl⟩
            have HNC : Hid (NC = kz.now.cells ∧ NC.size = 37 ∧ NC.all (·.oneCell') = true) := Lib.hid (by rw [hNC]; exact ⟨rfl, Rc.size HNOW.out.len, Rc.one _⟩)
            rw [← hNC, ← HKZ.out.1]
            clear hNt hNC
            go_upto_region 44 with ((with_reducible refine atOp ⟨some 16, .alloc _, _, _, _, _⟩ ?_); refine wpList_newrow rfl rfl rfl _ _ rfl recInfo (by rfl) rfl rfl HNC.out.2.1 HNC.out.2.2 ?_)
            obtain ⟨wu, hwu⟩ : ∃ wu : World, wu = wt.alloc (.cells NC 48) := ⟨_, rfl⟩
            obtain ⟨b16, hb16⟩ : ∃ b16, b16 = wt.heap.size := ⟨_, rfl⟩
            have HNu : Hid (New ws wu) := Lib.hid (HNt.out.tr (by rw [hwu]; exact New.al (New.refl _) _))
            have HB16 : Hid (Blk wu b16 48 NC) := Lib.hid (by rw [hwu, hb16]; exact Blk.new _ _ _)
            have HB10u : Hid (Blk wu b10 45 NC) := Lib.hid (by rw [HNC.out.1]; exact HNu.out.blk HBOws.out.b10)
            rw [← hwu, ← hb16]
            clear hwu hb16 HNt
            refine wp_region_mixH (New wu) [(true, 0), (true, 2), (false, 1), (true, 3), (true, 4), (true, 5), (true, 6), (true, 7), (true, 8), (true, 9), (true, 10), (true, 11), (true, 13), (false, 12), (true, 14), (true, 15), (true, 16), (true, 17), (true, 19), (false, 18), (true, 20), (true, 21)] (by kernel_rfl) (by kernel_rfl) (New.dr (New.refl wu)) (fun hne => ?_)
            refine mix_take_row (o := ⟨_, _, _, _, _, _⟩) (cs := NC.toList) rfl rfl _ rfl rfl (fun w' h => (h.blk HB16.out).rangeOf) Tryd.underlying48 rfl (by rw [Array.length_toList, HNC.out.2.1]; rfl) ?_
            refine mix_take_row (o := ⟨_, _, _, _, _, _⟩) (cs := NC.toList) rfl rfl _ rfl rfl (fun w' h => (h.blk HB10u.out).rangeOf) Tryd.underlying45 rfl (by rw [Array.length_toList, HNC.out.2.1]; rfl) ?_
            refine mix_act (o := ⟨_, _, _, _, _, _⟩) rfl (fun K hK => ?_) (.inl rfl)
            go_simp
            rw [HNC.out.1]
            refine (document_any kz.now wu.drew HNOW.out).mono ?_
            rintro e wv ⟨rfl, hNv⟩
            rw [← HNC.out.1]
            have HNv : Hid (New wu wv) := Lib.hid ((New.dr (New.refl wu)).tr hNv)
            clear hNv
            go_simp
            refine hK.out _ _ (fun _ => HNv.out) ?_
            clear hK K
            have heq : ∀ W, (binOp .neq 45 (.agg NC) (.agg NC)).run Tryd.prog W = .ok (.bool false) W := fun W => by
              have h := neq_ref HNOW.out HNOW.out W
              rw [← HNC.out.1] at h
              simpa using h
            iterate 10 (refine mix_take (o := ⟨_, _, _, _, _, _⟩) rfl (fun K hK => ?_); go_simp; refine hK _ ?_; clear hK K)
            clear heq
            have HKv : Hid (Kp wv gk gd kz) := Lib.hid ((HBOws.out.kp.new (HNu.out.tr HNv.out)).kp)
            refine mix_act (o := ⟨_, _, _, _, _, _⟩) rfl (fun K hK => ?_) (.inl rfl)
            go_simp
            refine (number_kp HKv.out).mono ?_
            rintro e wq ⟨rfl, rfl⟩
            rw [← HKZ.out.1]
            go_simp
            refine hK.out _ _ (fun _ => HNv.out) ?_
            clear hK K
            iterate 5 (refine mix_take (o := ⟨_, _, _, _, _, _⟩) rfl (fun K hK => ?_); go_simp; refine hK _ ?_; clear hK K)
            refine mix_act (o := ⟨_, _, _, _, _, _⟩) rfl (fun K hK => ?_) (.inl rfl)
            go_simp
            refine (broken_kp HKv.out).mono ?_
            rintro e wq ⟨rfl, rfl⟩
            rw [← HKZ.out.2]
            go_simp
            refine hK.out _ _ (fun _ => HNv.out) ?_
            clear hK K
            iterate 2 (refine mix_take (o := ⟨_, _, _, _, _, _⟩) rfl (fun K hK => ?_); go_simp; refine hK _ ?_; clear hK K)
            refine mix_done ?_
            go_wp2_with fail
            go_roundw
            case rel => exact ⟨j + 1, gk, pz, kz, rz, B1, d1, B2, d2, Lib.hid (by have := HJ2.out; omega), by go_num, rfl, by rw [HKZ.out.1], by rw [HKZ.out.2], Lib.hid (HBOws.out.new (HNu.out.tr HNv.out))⟩
            case measure => simp [intOf]; have := HJ2.out; omega
        · have hz0 : decide (q = 0) = false := decide_eq_false h0
          by_cases h1 : q = 1
          · have hz1 : decide (q = 1) = true := decide_eq_true h1
            have HQ1 := Lib.hid h1
            obtain ⟨RV, hRV⟩ : ∃ RV, RV = RfV r A1 c1 A2 c2 := ⟨_, rfl⟩
            have HRV : Hid (RV = RfV r A1 c1 A2 c2 ∧ RV.size = 5) := Lib.hid (by rw [hRV]; exact ⟨rfl, rfl⟩)
            clear hRV
            go_wp2_with fail
            have HKE : Hid (Rd (fun b => b < W.heap.size) w8 1 x.A x.n (bools x.keep)) := Lib.hid (HXG.out.keep.fr (HBO8.out.kp.nw.toFr NoB) (fun _ _ e => e.elim))
            refine (dcut_q HBO8.out.kp.dsk x.A x.n x.c x.keep HKE.out HXG.out.n (fun bs bf v hD b hb e => by rw [e] at hb; have := (hD.ours bs (.inr (.inl rfl))).1; omega)).mono ?_
            rintro e w9 ⟨rfl, hD, hT⟩
            have HD9 := Lib.hid hD
            have HB89 : Hid (Blk w9 b8 33 RV) := Lib.hid (by rw [HRV.out.1]; exact hT.blk _ _ _ HBO8.out.b8 (by decide) (by decide) (by decide))
            have HB109 : Hid (Blk w9 b10 45 k.now.cells) := Lib.hid (hT.blk _ _ _ HBO8.out.b10 (by decide) (by decide) (by decide))
            have HB139 : Hid (Blk w9 b13 74 XL.toArray) := Lib.hid (hT.blk _ _ _ HB13.out (by decide) (by decide) (by decide))
            have HR9 : Hid (RfIn w9 r A1 A2) := Lib.hid (hT.rf _ _ _ HBO8.out.rf)
            have HKE9 : Hid (Rd (fun b => b < W.heap.size) w9 1 x.A x.n (bools x.keep)) := Lib.hid (HXG.out.keep.fr (hD.nw.toFr NoB) (fun _ _ e => e.elim))
            clear hD hT HKE
            have y3 : w9.cell? ⟨b13, 39, none⟩ = some (.slice x.A x.n x.c) := by rw [HB139.out.cell, List.getElem?_toArray, HXL.out.1]; exact AR.at39 HXG.out.r
            go_wp2_with ((with_reducible refine atOp ⟨some 124, .load _ _, _, _, _, _⟩ ?_); refine wpList_load_any rfl _ rfl Tryd.underlying33 rfl (by rw [HRV.out.2]; rfl) rfl HB89.out ?_)
            rw [HRV.out.1]
            refine (rcut_any r A1 c1 A2 c2 x.A x.n x.c x.keep w9 HR9.out HKE9.out (fun k hk => Nat.lt_of_lt_of_le hk HD9.out.nw.size) (by have := HBO8.out.tot; have := HJ2.out; have := HM.out; omega) HXG.out.n).mono ?_
            rintro e wa ⟨⟨B1, d1, B2, d2, rfl, hRf⟩, hNa⟩
            rw [← HRV.out.1]
            have HDa : Hid (Dsk W wa gd (p.cut x.keep)) := Lib.hid (HD9.out.new hNa)
            have HB8a : Hid (Blk wa b8 33 RV) := Lib.hid (hNa.blk HB89.out)
            have HB10a : Hid (Blk wa b10 45 k.now.cells) := Lib.hid (hNa.blk HB109.out)
            have HRa := Lib.hid hRf
            clear y3 hRf hNa HKE9 HR9 HB139 HB109 HB89 HD9
            obtain ⟨RW, hRW⟩ : ∃ RW, RW = RfV (r.cut x.keep) B1 d1 B2 d2 := ⟨_, rfl⟩
            have HRW2 : Hid (RW = RfV (r.cut x.keep) B1 d1 B2 d2 ∧ RW.size = 5 ∧ RW.all (·.oneCell') = true) := Lib.hid (by rw [hRW]; exact ⟨rfl, rfl, rfv_all _ _ _ _ _⟩)
            rw [← hRW]
            clear hRW
            go_wp2_with (first
              | ((with_reducible refine atOp ⟨none, .store 33 (.tmp 8) _, _, _, _, _⟩ ?_); refine wpList_store_any rfl (.tmp 8) (.tmp 127) rfl (by rw [HRW2.out.2.1]; rfl) rfl rfl HB8a.out (by rw [HRV.out.2, HRW2.out.2.1]) HRW2.out.2.2 ?_; intro wb hb hf; have HB8b := Lib.hid hb; have HFb := Lib.hid hf; clear hb hf)
              | ((with_reducible refine atOp ⟨some 129, .load _ _, _, _, _, _⟩ ?_); refine wpList_load_any rfl _ rfl Tryd.underlying33 rfl (by rw [HRW2.out.2.1]; rfl) rfl HB8b.out ?_))
            have HDb : Hid (Dsk W wb gd (p.cut x.keep)) := Lib.hid (HDa.out.st HB8a.out HFb.out HLT.out.1 (by decide) (by decide))
            have HB10b : Hid (Blk wb b10 45 k.now.cells) := Lib.hid (HB10a.out.fr HFb.out (fun e => HLT.out.2.2 e.symm))
            have HRb : Hid (RfIn wb (r.cut x.keep) B1 B2) := Lib.hid (HRa.out.st HB8a.out HFb.out (by decide))
            clear HDa HB10a HRa HB8a HFb
            rw [HRW2.out.1]
            have HMc : Hid (Mt (p.cut x.keep) (r.cut x.keep) ∧ (p.cut x.keep).Ok ∧ (r.cut x.keep).tot ≤ 2 * j ∧ LowN (p.cut x.keep) j ∧ (p.cut x.keep).size = a) := Lib.hid
              ⟨HBO8.out.mt.cut HBO8.out.kp.dsk.ok _, HBO8.out.kp.dsk.ok.cut _, Nat.le_trans (RP.tot_cut _ _) HBO8.out.tot, HBO8.out.low.cut HBO8.out.kp.dsk.ok _, HBO8.out.size⟩
            obtain ⟨pz, hpz⟩ : ∃ pz, pz = p.cut x.keep := ⟨_, rfl⟩
            obtain ⟨rz, hrz⟩ : ∃ rz, rz = r.cut x.keep := ⟨_, rfl⟩
            rw [← hpz] at HMc
            rw [← hpz] at HDb
            rw [← hrz] at HMc
            rw [← hrz] at HRb
            rw [← hrz] at HRW2
            rw [← hrz]
            clear hpz hrz
            refine (rgetr_any d1 d2 HRb.out HMc.out.1 HMc.out.2.1 (HR.out.new HDb.out.nw) (by have := HMc.out.2.2.1; have := HJ2.out; have := HM.out; omega) (by rw [HMc.out.2.2.2.2]; exact HA.out.1)).mono ?_
            rintro e wc ⟨rfl, hNc⟩
            rw [← HRW2.out.1]
            have HDc : Hid (Dsk W wc gd pz) := Lib.hid (HDb.out.new hNc)
            have HB8c : Hid (Blk wc b8 33 RW) := Lib.hid (hNc.blk HB8b.out)
            have HB10c : Hid (Blk wc b10 45 k.now.cells) := Lib.hid (hNc.blk HB10b.out)
            have HRc : Hid (RfIn wc rz B1 B2) := Lib.hid (HRb.out.new hNc)
            have HKS : Hid ((openP pz).number ≤ j ∧ (openP pz).broken = false ∧ (openP pz).now.cells.size = 37 ∧ k.now.cells.size = 37) := Lib.hid ⟨HMc.out.2.2.2.1.opens HMc.out.2.1, openP_nb pz, Rc.size (openP_ok HMc.out.2.1).now.len, Rc.size HBO8.out.kp.kp.ok.now.len⟩
            clear hNc HDb HB8b HB10b HRb
            obtain ⟨kz, hkz⟩ : ∃ kz, kz = openP pz := ⟨_, rfl⟩
            rw [← hkz] at HKS
            rw [← hkz]
            have HKZ := Lib.hid hkz
            clear hkz
            go_wp2_with ((with_reducible refine atOp ⟨none, .store 45 (.tmp 10) _, _, _, _, _⟩ ?_); refine wpList_store_any rfl (.tmp 10) (.tmp 132) rfl (by rw [HKS.out.2.2.1]; rfl) rfl rfl HB10c.out (by rw [HKS.out.2.2.1, HKS.out.2.2.2]) (Rc.one _) ?_; intro wd hb hf; have HB10d := Lib.hid hb; have HFd := Lib.hid hf; clear hb hf)
            have HDd : Hid (Dsk W wd gd pz) := Lib.hid (HDc.out.st HB10c.out HFd.out HLT.out.2.1 (by decide) (by decide))
            have HB8d : Hid (Blk wd b8 33 RW) := Lib.hid (HB8c.out.fr HFd.out HLT.out.2.2)
            have HRd : Hid (RfIn wd rz B1 B2) := Lib.hid (HRc.out.st HB10c.out HFd.out (by decide))
            clear HDc HB8c HRc HB10c HFd
            refine (kopen_d HDd.out HL.out (by rw [HMc.out.2.2.2.2]; exact HA.out.1)).mono ?_
            rintro e we ⟨gkz, rfl, hK, hNe⟩
            rw [← HKZ.out] at hK
            have HBOwe : Hid (Both W we gd gkz b8 b10 a (j + 1) pz kz rz B1 d1 B2 d2) := Lib.hid
              { kp := hK, mt := HMc.out.1, rf := HRd.out.new hNe, b8 := by rw [← HRW2.out.1]; exact hNe.blk HB8d.out, b10 := hNe.blk HB10d.out, low := HMc.out.2.2.2.1.mono (Nat.le_succ _), num := Nat.le_succ_of_le HKS.out.1, tot := by have := HMc.out.2.2.1; omega, size := HMc.out.2.2.2.2 }
            clear hK hNe HDd HB8d HRd HB10d HBO8 HB13 x0 x1 x3
            go_upto_region 43 with fail
            go_wp2_with fail
            refine (kget_kp HBOwe.out.kp.kp).mono ?_
            rintro e wt ⟨rfl, hNt⟩
            have HNt : Hid (New we wt) := Lib.hid hNt
            have HNOW : Hid (kz.now.Ok) := Lib.hid HBOwe.out.kp.kp.ok.now
            obtain ⟨NC, hNC⟩ : ∃ NC, NC = kz.now.cells := ⟨_, rfl⟩
            have HNC : Hid (NC = kz.now.cells ∧ NC.size = 37 ∧ NC.all (·.oneCell') = true) := Lib.hid (by rw [hNC]; exact ⟨rfl, Rc.size HNOW.out.len, Rc.one _⟩)
            rw [← hNC]
            clear hNt hNC
            go_upto_region 44 with ((with_reducible refine atOp ⟨some 16, .alloc _, _, _, _, _⟩ ?_); refine wpList_newrow rfl rfl rfl _ _ rfl recInfo (by rfl) rfl rfl HNC.out.2.1 HNC.out.2.2 ?_)
            obtain ⟨wu, hwu⟩ : ∃ wu : World, wu = wt.alloc (.cells NC 48) := ⟨_, rfl⟩
            obtain ⟨b16, hb16⟩ : ∃ b16, b16 = wt.heap.size := ⟨_, rfl⟩
            have HNu : Hid (New we wu) := Lib.hid (HNt.out.tr (by rw [hwu]; exact New.al (New.refl _) _))
            have HB16 : Hid (Blk wu b16 48 NC) := Lib.hid (by rw [hwu, hb16]; exact Blk.new _ _ _)
            have HB10u : Hid (Blk wu b10 45 NC) := Lib.hid (by rw [HNC.out.1]; exact HNu.out.blk HBOwe.out.b10)
            rw [← hwu, ← hb16]
            clear hwu hb16 HNt
            refine wp_region_mixH (New wu) [(true, 0), (true, 2), (false, 1), (true, 3), (true, 4), (true, 5), (true, 6), (true, 7), (true, 8), (true, 9), (true, 10), (true, 11), (true, 13), (false, 12), (true, 14), (true, 15), (true, 16), (true, 17), (true, 19), (false, 18), (true, 20), (true, 21)] (by kernel_rfl) (by kernel_rfl) (New.dr (New.refl wu)) (fun hne => ?_)
            refine mix_take_row (o := ⟨_, _, _, _, _, _⟩) (cs := NC.toList) rfl rfl _ rfl rfl (fun w' h => (h.blk HB16.out).rangeOf) Tryd.underlying48 rfl (by rw [Array.length_toList, HNC.out.2.1]; rfl) ?_
            refine mix_take_row (o := ⟨_, _, _, _, _, _⟩) (cs := NC.toList) rfl rfl _ rfl rfl (fun w' h => (h.blk HB10u.out).rangeOf) Tryd.underlying45 rfl (by rw [Array.length_toList, HNC.out.2.1]; rfl) ?_
            refine mix_act (o := ⟨_, _, _, _, _, _⟩) rfl (fun K hK => ?_) (.inl rfl)
            go_simp
            rw [HNC.out.1]
            refine (document_any kz.now wu.drew HNOW.out).mono ?_
            rintro e wv ⟨rfl, hNv⟩
            rw [← HNC.out.1]
            have HNv : Hid (New wu wv) := Lib.hid ((New.dr (New.refl wu)).tr hNv)
            clear hNv
            go_simp
            refine hK.out _ _ (fun _ => HNv.out) ?_
            clear hK K
            have heq : ∀ W, (binOp .neq 45 (.agg NC) (.agg NC)).run Tryd.prog W = .ok (.bool false) W := fun W => by
              have h := neq_ref HNOW.out HNOW.out W
              rw [← HNC.out.1] at h
              simpa using h
            iterate 10 (refine mix_take (o := ⟨_, _, _, _, _, _⟩) rfl (fun K hK => ?_); go_simp; refine hK _ ?_; clear hK K)
            clear heq
            have HKv : Hid (Kp wv gkz gd kz) := Lib.hid ((HBOwe.out.kp.new (HNu.out.tr HNv.out)).kp)
            refine mix_act (o := ⟨_, _, _, _, _, _⟩) rfl (fun K hK => ?_) (.inl rfl)
            go_simp
            refine (number_kp HKv.out).mono ?_
            rintro e wq ⟨rfl, rfl⟩
            go_simp
            refine hK.out _ _ (fun _ => HNv.out) ?_
            clear hK K
            iterate 5 (refine mix_take (o := ⟨_, _, _, _, _, _⟩) rfl (fun K hK => ?_); go_simp; refine hK _ ?_; clear hK K)
            refine mix_act (o := ⟨_, _, _, _, _, _⟩) rfl (fun K hK => ?_) (.inl rfl)
            go_simp
            refine (broken_kp HKv.out).mono ?_
            rintro e wq ⟨rfl, rfl⟩
            rw [HKS.out.2.1]
            go_simp
            refine hK.out _ _ (fun _ => HNv.out) ?_
            clear hK K
            iterate 2 (refine mix_take (o := ⟨_, _, _, _, _, _⟩) rfl (fun K hK => ?_); go_simp; refine hK _ ?_; clear hK K)
            refine mix_done ?_
            go_wp2_with fail
            go_roundw
            case rel => exact ⟨j + 1, gkz, pz, kz, rz, B1, d1, B2, d2, Lib.hid (by have := HJ2.out; omega), by go_num, rfl, rfl, by rw [HKS.out.2.1], Lib.hid (HBOwe.out.new (HNu.out.tr HNv.out))⟩
            case measure => simp [intOf]; have := HJ2.out; omega
          · have hz1 : decide (q = 1) = false := decide_eq_false h1
            go_wp2_with fail
            refine (dfuse_q HBO8.out.kp x.num HXG.out.num).mono ?_
            rintro e w9 ⟨rfl, hK, hT⟩
            have HK9 := Lib.hid hK
            have HB89 : Hid (Blk w9 b8 33 (RfV r A1 c1 A2 c2)) := Lib.hid (hT.blk _ _ _ HBO8.out.b8 (by decide) (by decide) (by decide))
            have HB109 : Hid (Blk w9 b10 45 k.now.cells) := Lib.hid (hT.blk _ _ _ HBO8.out.b10 (by decide) (by decide) (by decide))
            have HB139 : Hid (Blk w9 b13 74 XL.toArray) := Lib.hid (hT.blk _ _ _ HB13.out (by decide) (by decide) (by decide))
            have HR9 : Hid (RfIn w9 r A1 A2) := Lib.hid (hT.rf _ _ _ HBO8.out.rf)
            clear hK hT
            have y1 : w9.cell? ⟨b13, 1, none⟩ = some (.int .i64 x.num) := by rw [HB139.out.cell, List.getElem?_toArray, HXL.out.1]; exact AR.at1 x
            have c83 : w9.cell? ⟨b8, 3, none⟩ = some (.int .i64 r.fuse) := by rw [HB89.out.cell]; rfl
            have f83 := HB89.out.frozen 3
            go_upto_region 43 with fail
            obtain ⟨ws, hws⟩ : ∃ ws : World, ws = w9.setCell ⟨b8, 3, none⟩ (.int .i64 (max x.num (-1))) := ⟨_, rfl⟩
            have hF : Fr (fun y => y = b8) w9 ws := by rw [hws]; exact (Fr.refl (fun y => y = b8) w9).setCell (p := ⟨b8, 3, none⟩) (fun _ => rfl) _
            have HR99 : Hid (RfIn ws r A1 A2) := Lib.hid (HR9.out.fr hF (fun y hy => by rw [hy]; exact IsT.not_blk HB89.out (by decide)))
            obtain ⟨pz, rz, HBOws⟩ : ∃ pz rz, Hid (Both W ws gd gk b8 b10 a (j + 1) pz k rz A1 c1 A2 c2) := ⟨p.fused x.num, r.fused x.num, Lib.hid
              { kp := HK9.out.st HB89.out hF HLT.out.1 (by decide) (by decide) (by decide), mt := HBO8.out.mt.fused _, rf := ⟨HR99.out.sure, HR99.out.fresh, HR99.out.ok⟩, b8 := by rw [hws]; exact HB89.out.set 3 _
                b10 := HB109.out.fr hF (fun e => HLT.out.2.2 e.symm), low := (HBO8.out.low.same rfl rfl).mono (Nat.le_succ _), num := Nat.le_succ_of_le HBO8.out.num, tot := by have := HBO8.out.tot; show r.tot ≤ _; omega, size := HBO8.out.size }⟩
            rw [← hws]
            clear hws hF y1 c83 f83 HR9 HR99 HB89 HB109 HB139 HK9 HBO8 HB13 x0 x1 x3
            go_wp2_with fail
            refine (kget_kp HBOws.out.kp.kp).mono ?_
            rintro e wt ⟨rfl, hNt⟩
            have HNt : Hid (New ws wt) := Lib.hid hNt
            have HNOW : Hid (k.now.Ok) := Lib.hid HBOws.out.kp.kp.ok.now
            obtain ⟨NC, hNC⟩ : ∃ NC, NC = k.now.cells := ⟨_, rfl⟩
            have HNC : Hid (NC = k.now.cells ∧ NC.size = 37 ∧ NC.all (·.oneCell') = true) := Lib.hid (by rw [hNC]; exact ⟨rfl, Rc.size HNOW.out.len, Rc.one _⟩)
            rw [← hNC]
            clear hNt hNC
            go_upto_region 44 with ((with_reducible refine atOp ⟨some 16, .alloc _, _, _, _, _⟩ ?_); refine wpList_newrow rfl rfl rfl _ _ rfl recInfo (by rfl) rfl rfl HNC.out.2.1 HNC.out.2.2 ?_)
            obtain ⟨wu, hwu⟩ : ∃ wu : World, wu = wt.alloc (.cells NC 48) := ⟨_, rfl⟩
            obtain ⟨b16, hb16⟩ : ∃ b16, b16 = wt.heap.size := ⟨_, rfl⟩
            have HNu : Hid (New ws wu) := Lib.hid (HNt.out.tr (by rw [hwu]; exact New.al (New.refl _) _))
            have HB16 : Hid (Blk wu b16 48 NC) := Lib.hid (by rw [hwu, hb16]; exact Blk.new _ _ _)
            have HB10u : Hid (Blk wu b10 45 NC) := Lib.hid (by rw [HNC.out.1]; exact HNu.out.blk HBOws.out.b10)
            rw [← hwu, ← hb16]
            clear hwu hb16 HNt
            refine wp_region_mixH (New wu) [(true, 0), (true, 2), (false, 1), (true, 3), (true, 4), (true, 5), (true, 6), (true, 7), (true, 8), (true, 9), (true, 10), (true, 11), (true, 13), (false, 12), (true, 14), (true, 15), (true, 16), (true, 17), (true, 19), (false, 18), (true, 20), (true, 21)] (by kernel_rfl) (by kernel_rfl) (New.dr (New.refl wu)) (fun hne => ?_)
            refine mix_take_row (o := ⟨_, _, _, _, _, _⟩) (cs := NC.toList) rfl rfl _ rfl rfl (fun w' h => (h.blk HB16.out).rangeOf) Tryd.underlying48 rfl (by rw [Array.length_toList, HNC.out.2.1]; rfl) ?_
            refine mix_take_row (o := ⟨_, _, _, _, _, _⟩) (cs := NC.toList) rfl rfl _ rfl rfl (fun w' h => (h.blk HB10u.out).rangeOf) Tryd.underlying45 rfl (by rw [Array.length_toList, HNC.out.2.1]; rfl) ?_
            refine mix_act (o := ⟨_, _, _, _, _, _⟩) rfl (fun K hK => ?_) (.inl rfl)
            go_simp
            rw [HNC.out.1]
            refine (document_any k.now wu.drew HNOW.out).mono ?_
            rintro e wv ⟨rfl, hNv⟩
            rw [← HNC.out.1]
            have HNv : Hid (New wu wv) := Lib.hid ((New.dr (New.refl wu)).tr hNv)
            clear hNv
            go_simp
            refine hK.out _ _ (fun _ => HNv.out) ?_
            clear hK K
            have heq : ∀ W, (binOp .neq 45 (.agg NC) (.agg NC)).run Tryd.prog W = .ok (.bool false) W := fun W => by
              have h := neq_ref HNOW.out HNOW.out W
              rw [← HNC.out.1] at h
              simpa using h
            iterate 10 (refine mix_take (o := ⟨_, _, _, _, _, _⟩) rfl (fun K hK => ?_); go_simp; refine hK _ ?_; clear hK K)
            clear heq
            have HKv : Hid (Kp wv gk gd k) := Lib.hid ((HBOws.out.kp.new (HNu.out.tr HNv.out)).kp)
            refine mix_act (o := ⟨_, _, _, _, _, _⟩) rfl (fun K hK => ?_) (.inl rfl)
            go_simp
            refine (number_kp HKv.out).mono ?_
            rintro e wq ⟨rfl, rfl⟩
            go_simp
            refine hK.out _ _ (fun _ => HNv.out) ?_
            clear hK K
            iterate 5 (refine mix_take (o := ⟨_, _, _, _, _, _⟩) rfl (fun K hK => ?_); go_simp; refine hK _ ?_; clear hK K)
            refine mix_act (o := ⟨_, _, _, _, _, _⟩) rfl (fun K hK => ?_) (.inl rfl)
            go_simp
            refine (broken_kp HKv.out).mono ?_
            rintro e wq ⟨rfl, rfl⟩
            go_simp
            refine hK.out _ _ (fun _ => HNv.out) ?_
            clear hK K
            iterate 2 (refine mix_take (o := ⟨_, _, _, _, _, _⟩) rfl (fun K hK => ?_); go_simp; refine hK _ ?_; clear hK K)
            refine mix_done ?_
            go_wp2_with fail
            go_roundw
            case rel => exact ⟨j + 1, gk, pz, k, rz, A1, c1, A2, c2, Lib.hid (by have := HJ2.out; omega), by go_num, rfl, rfl, rfl, Lib.hid (HBOws.out.new (HNu.out.tr HNv.out))⟩
            case measure => simp [intOf]; have := HJ2.out; omega
    · have hge : ¬ ((j : Int) < (m : Int)) := by omega
      clear hj
      go_wp2_with fail
      go_ret
      exact ⟨rfl, HBO.out.kp.nw⟩
end Go.Proofs.YtdojmjglnlkmoaaDoor
