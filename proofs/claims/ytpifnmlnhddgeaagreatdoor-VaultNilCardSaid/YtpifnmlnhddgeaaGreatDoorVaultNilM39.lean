/- Texts of one proof, one behind the other: VaI, ShL, VaJ. No condition but each one's own. -/
import Derived.Test.YtpifnmlnhddgeaaGreatDoorVaultNilM37
import Derived.Test.YtpifnmlnhddgeaaGreatDoorVaultNilM35
import Derived.Test.YtpifnmlnhddgeaaGreatDoorVaultNilM11
import Derived.Test.YtpifnmlnhddgeaaGreatDoorVaultNilM2
import Derived.Test.YtpifnmlnhddgeaaGreatDoorVaultNilM38
import Derived.Test.YtpifnmlnhddgeaaGreatDoorRows
import Derived.Test.YtpifnmlnhddgeaaGreatDoorVaultNilM3
import Derived.Test.YtpifnmlnhddgeaaGreatDoorVaultNilM4
import Derived.SizedLaws
import Derived.OpenShut
import Derived.SevenTiedAt
import Derived.Stop.Joined
namespace Go.Proofs.YtpifnmlnhddgeaaGreatDoor
set_option linter.unusedVariables false
set_option linter.unusedSimpArgs false
set_option linter.constructorNameAsVariable false
open Go.RowKit Go.Sort Go.Maps
theorem zB_ (w : World) : (sizeOf 5).run Tryz.prog w = .ok 1 w := by first | exact Tryz.sizeOf5 w | kernel_rfl
theorem zH_ (w : World) : (sizeOf 50).run Tryz.prog w = .ok 32 w := by first | exact Tryz.sizeOf50 w | kernel_rfl
theorem eql_h {x y : List Int} (hx : x.length = 32) (hy : y.length = 32) (bx : Byt x) (by_ : Byt y) (w : World) : (binOp .eql 50 (.agg (secA x)) (.agg (secA y))).run Tryz.prog w = .ok (.bool (decide (x = y))) w :=
 run_eql_sec (P := Tryz.prog) Tryz.underlying50 Tryz.underlying5 zB_ hx hy bx by_ w
theorem idx_emp (w : World) : (Instr.index 111 (.agg (secA (empA 33))) (.int .i64 0)).run Tryz.prog w = .ok (.agg (secA (empH 0))) w := by
 have hk : (isAgg 50).run Tryz.prog w = .ok true w := by simp [isAgg, run_underlying Tryz.underlying50]
 have hx : (secA (empA 33)).extract 0 (0 + 32) = secA (empH 0) := by
  have h1 := empA_at (k := 33) (i := 0) (by omega)
  unfold secA
  rw [List.extract_toArray, List.extract_eq_take_drop, List.drop_zero, ← h1]
  unfold u8s
  simp [List.map_take]
 unfold Instr.index
 simp [Sem.run_bind, run_underlying Tryz.underlying111, zH_, part_agg hk (zH_ w) hx, asIntOf]
def Bg (s : SW) (N n : Nat) : Prop := s.gen = 1 ∧ s.broken = false ∧ s.t = [(kM, metaB n 0 0)] ∧ s.p.size = N ∧ Up s.p ∧ s.l.used = 1
set_option maxHeartbeats 4000000
set_option maxRecDepth 100000
theorem begin_any (N n : Nat) (W : World) (hL : ShaIn 1 0 W) (h4 : 4 ≤ N) (hz : N ≤ 3000) (h1 : 1 ≤ n) (h2 : n ≤ 4294967296) :
    Calls Tryz.prog 39 #[.int .i64 N, .int .u64 n] W fun e w' => ∃ gv gs gd bs bf bt bm gt bn s K, e = .returned (.pointer (some ⟨gv, 0, none⟩)) ∧ VaX W w' gv gs gd bs bf bt bm gt bn 0 (.slice none 0 0) ⟨n, []⟩ 0 0 s K (600 * hlf N) ∧ Bg s N n ∧ New W w' := by
 have HL := Lib.hid hL
 have HZ := Lib.hid (And.intro h4 (And.intro hz (And.intro h1 h2)))
 have HF := Lib.hid (vfmt_ok (p := DP.new N) (DP.new_ok (by omega) (by omega)) (Up.new N) h4 n)
 clear hL h4 hz h1 h2
 go_enter Tryz.func39, Tryz.ntmps39
 go_wp2_with fail
 refine (dnew_l (New.refl W) N (by have := HZ.out; omega) (by have := HZ.out; omega)).mono ?_
 rintro e w1 ⟨gd, rfl, ⟨bs, bf, v1, hD1, hN1⟩, -⟩
 have HD1 := Lib.hid hD1
 have HN1 := Lib.hid hN1
 clear hD1 hN1
 obtain ⟨s1, s2, s3, K, f1, f2, f3, f4, f5, f6, f7, f8, f9, f10, f11, f12, f13, f14, f15, f16, f17⟩ := HF.out
 have HVF := Lib.hid (vformat_any HD1.out HN1.out HL.out (Up.new N) HZ.out.1 HZ.out.2.1 n HZ.out.2.2.1 HZ.out.2.2.2 f1 f2 f6)
 rw [← f5] at HVF
 have HO := Lib.hid (And.intro f8 (And.intro f9 (And.intro f10 (And.intro f11 (And.intro f14 (And.intro f12 (And.intro f13 (And.intro f15 (And.intro f16 f17)))))))))
 clear f1 f2 f3 f4 f5 f6 f7 f8 f9 f10 f11 f12 f13 f14 f15 f16 f17 HF
 go_wp2_with fail
 refine HVF.out.mono ?_
 rintro e w2 ⟨rfl, ⟨v2, hD2⟩, hN2⟩
 have HVO := Lib.hid (vopen_fresh hD2 hN2 HL.out HO.out.1 (by rw [HO.out.2.1]; exact HZ.out.1) (by rw [HO.out.2.1]; exact HZ.out.2.1) HO.out.2.2.1 HO.out.2.2.2.1 n HZ.out.2.2.1 HZ.out.2.2.2 HO.out.2.2.2.2.1)
 have HN2 := Lib.hid hN2
 clear hD2 hN2 HD1 HN1 HVF
 go_wp2_with fail
 refine HVO.out.mono ?_
 rintro e w3 ⟨gv, gs, bt, bm, gt, bn, rfl, hX⟩
 rw [HO.out.2.1] at hX
 have HX := Lib.hid hX
 clear hX HVO
 go_wp2_with fail
 go_ret
 have ho := HO.out
 exact ⟨gv, gs, gd, bs, bf, bt, bm, gt, bn, s3, K, rfl, HX.out, ⟨ho.2.2.2.2.2.1, ho.2.2.2.2.2.2.1, ho.2.2.2.2.1, ho.2.2.2.2.2.2.2.1, ho.2.2.2.2.2.2.2.2.1, ho.2.2.2.2.2.2.2.2.2⟩, HX.out.st.nw⟩
theorem blank_root : (⟨1, []⟩ : VS).root = empH 0 := by
 unfold VS.root
 rw [show hgt (⟨1, []⟩ : VS).blocks = 0 by decide]
 rfl
theorem valive_any (W : World) (hL : ShaIn 1 0 W) : Calls Tryz.prog 8 #[] W fun e w' => e = .returned (.bool true) ∧ New W w' := by
 have HL := Lib.hid hL
 have HBG := Lib.hid (fun W hL => begin_any 100 1 W hL (by decide) (by decide) (by decide) (by decide))
 clear hL
 go_enter Tryz.func8, Tryz.ntmps8
 go_wp2_with fail
 refine (HBG.out W HL.out).mono ?_
 rintro e w1 ⟨gv, gs, gd, bs, bf, bt, bm, gt, bn, s, K, rfl, hX, -, hN1⟩
 have HX := Lib.hid hX
 have HN1 := Lib.hid hN1
 clear hX hN1 HBG
 go_wp2_with fail
 have HB : Hid (Blk w1 gv 137 (vaC gs 1 bm gt 0 0 (.slice none 0 0))) := Lib.hid HX.out.blk
 have HRT := Lib.hid (vroot_now HB.out (fun W' hN' => vknown_base (hN'.blk HB.out) 0 (Nat.le_refl 0) rfl) HX.out.now)
 rw [blank_root] at HRT
 refine HRT.out.mono ?_
 rintro e w2 ⟨rfl, hN2⟩
 have HN2 := Lib.hid hN2
 have HSZ : Hid ((secA (empH 0)).size = 32) := Lib.hid (by rw [secA_size, empH_len])
 clear hN2 HRT
 go_upto_region 5 with ((with_reducible refine atOp ⟨some 2, .alloc _, _, _, _, _⟩ ?_); refine wpList_newrow rfl rfl rfl _ _ rfl hashInfoR (by show (secA _).size = 32; rw [secA_size]; rfl) rfl rfl HSZ.out (secA_one _) ?_)
 obtain ⟨b2, hb2⟩ := nm w2.heap.size
 obtain ⟨w3, hw3⟩ := nm (w2.alloc (.cells (secA (empH 0)) 50))
 have HN3 : Hid (New w1 w3) := Lib.hid (HN2.out.tr (by rw [hw3]; exact New.al (New.refl _) _))
 have HB2 : Hid (Blk w3 b2 50 (secA (empH 0))) := Lib.hid (by rw [hw3, hb2]; exact Blk.new _ _ _)
 rw [← hw3, ← hb2]
 clear hw3 hb2
 have HE := Lib.hid (fun W' (hN : New w1 W') => empties_any W' (HL.out.new (HN1.out.tr hN)))
 obtain ⟨S, hS⟩ := nm (fun w' : World => New w1 w' ∧ Blk w' b2 50 (secA (empH 0)))
 have HSI : Hid (∀ w', S w' ↔ New w1 w' ∧ Blk w' b2 50 (secA (empH 0))) := Lib.hid (by rw [hS]; exact fun _ => Iff.rfl)
 clear hS
 have hix := idx_emp
 have heq : ∀ w, (binOp .eql 50 (.agg (secA (empH 0))) (.agg (secA (empH 0)))).run Tryz.prog w = .ok (.bool true) w := fun w => by
  have h := eql_h (empH_len 0) (empH_len 0) (empH_byt 0) (empH_byt 0) w
  simpa using h
 have HEM : Hid (empA 33 = empA 33) := Lib.hid rfl
 obtain ⟨EA, hEA⟩ := nm (secA (empA 33))
 obtain ⟨EH, hEH⟩ := nm (secA (empH 0))
 simp only [← hEA, ← hEH] at hix heq HE HB2 HSI HSZ ⊢
 have HEH := Lib.hid hEH
 clear hEA hEH
 refine wp_region_mixH S [(true, 0), (true, 1), (true, 2), (true, 3), (false, 4), (true, 5), (true, 6), (true, 7), (true, 8), (true, 9), (false, 10), (true, 11), (true, 12), (true, 13), (true, 14), (false, 15), (true, 16), (true, 17), (true, 18)] (by kernel_rfl) (by kernel_rfl) ((HSI.out _).2 ⟨HN3.out.tr ((New.refl _).dr), (New.dr (New.refl w3)).blk HB2.out⟩) (fun hne => ?_)
 iterate 3 (refine mix_take (o := ⟨_, _, _, _, _, _⟩) rfl (fun K hK => ?_); go_simp; refine hK _ ?_; clear hK K)
 refine mix_take_row (o := ⟨_, _, _, _, _, _⟩) (cs := EH.toList) rfl rfl (.tmp 2) rfl rfl (fun w' h => ((HSI.out w').1 h).2.rangeOf) Tryz.underlying50 rfl (by rw [Array.length_toList, HSZ.out]; rfl) ?_
 simp only [Array.toArray_toList, Act.put, List.setIfInBounds_toArray, List.set_cons_zero, List.set_cons_succ]
 obtain ⟨wd, hwd⟩ := nm w3.drew
 have HSD : Hid (S wd) := Lib.hid (by rw [hwd]; exact (HSI.out _).2 ⟨HN3.out.tr ((New.refl _).dr), (New.dr (New.refl w3)).blk HB2.out⟩)
 rw [← hwd]
 clear hwd
 refine mix_act (o := ⟨_, _, _, _, _, _⟩) rfl (fun K hK => ?_) (.inl rfl)
 go_simp
 refine (HE.out wd ((HSI.out _).1 HSD.out).1).mono ?_
 rintro e w4 ⟨rfl, hN4⟩
 have HS4 : Hid (S w4) := Lib.hid ((HSI.out _).2 ⟨((HSI.out _).1 HSD.out).1.tr hN4, hN4.blk ((HSI.out _).1 HSD.out).2⟩)
 clear hN4
 go_simp
 refine hK.out _ _ (fun _ => HS4.out) ?_
 clear hK K
 iterate 5 (refine mix_take (o := ⟨_, _, _, _, _, _⟩) rfl (fun K hK => ?_); go_simp; refine hK _ ?_; clear hK K)
 have HB4 : Hid (Blk w4 gv 137 (vaC gs 1 bm gt 0 0 (.slice none 0 0))) := Lib.hid (((HSI.out _).1 HS4.out).1.blk HB.out)
 have HM4 : Hid (StM w4 ⟨1, []⟩ bm 0 gt bn) := Lib.hid (HX.out.now.new ((HSI.out _).1 HS4.out).1)
 refine mix_act (o := ⟨_, _, _, _, _, _⟩) rfl (fun K hK => ?_) (.inl rfl)
 go_simp
 refine (vblocks_any HB4.out).mono ?_
 rintro e w5 ⟨rfl, rfl⟩
 go_simp
 refine hK.out _ _ (fun _ => HS4.out) ?_
 clear hK K
 iterate 4 (refine mix_take (o := ⟨_, _, _, _, _, _⟩) rfl (fun K hK => ?_); go_simp; refine hK _ ?_; clear hK K)
 refine mix_act (o := ⟨_, _, _, _, _, _⟩) rfl (fun K hK => ?_) (.inl rfl)
 go_simp
 refine (vlen_any HB4.out HM4.out).mono ?_
 rw [show ((⟨1, []⟩ : VS).L.length : Int) = 0 from rfl]
 rintro e w5 ⟨rfl, rfl⟩
 go_simp
 refine hK.out _ _ (fun _ => HS4.out) ?_
 clear hK K
 iterate 3 (refine mix_take (o := ⟨_, _, _, _, _, _⟩) rfl (fun K hK => ?_); go_simp; refine hK _ ?_; clear hK K)
 refine mix_done ?_
 go_wp2_with fail
 go_ret
 exact ⟨rfl, HN1.out.tr ((HSI.out _).1 HS4.out).1⟩
end Go.Proofs.YtpifnmlnhddgeaaGreatDoor
namespace Go.Proofs.YtpifnmlnhddgeaaGreatDoor
set_option linter.unusedVariables false
set_option linter.unusedSimpArgs false
set_option linter.constructorNameAsVariable false
open Go.RowKit Go.Sort Go.ChangeShapes Go.WideShapes Go.ChangeAt
theorem laid_u32 {W : World} {n : String} {d : DataW Unit} {r : List (String × DataW Unit)} {ps : List MemPlace} {g t N : Nat} (L : List Int) (h : DataW.LaidVars Tryz.prog W ((n, d) :: r) ps) (hg : Tryz.prog.globalNamed n = some g) (ht : (Tryz.prog.globals[g]?).map (·.type) = some t) (hu : Tryz.prog.underlying t = some (.array N 234)) (hd : d = .agg (L.map fun x => .lit (.int .u32 x))) (hl : L.length = N) :
    (∀ j, j < N → W.cell? ⟨g, j, none⟩ = some (.int .u32 (at_ L j))) ∧ ∃ ps', DataW.LaidVars Tryz.prog W r ps' := by
 obtain ⟨g', t', cs, fuel, p, q, hg', ht', hv, hd', hr, _⟩ := h
 obtain rfl := Option.some.inj (hg.symm.trans hg')
 obtain rfl := Option.some.inj (ht.symm.trans ht')
 refine ⟨fun j hj => ?_, _, hr⟩
 obtain ⟨xs, m, _, ex, _, hxl, hel⟩ := DataW.trod_array hu hd'
 have c5 : Tryz.prog.cellsOf 234 = 1 := by kernel_rfl
 have hE := hel j hj
 rw [c5, Nat.mul_one, List.getElem?_eq_getElem (by omega)] at hE
 obtain ⟨z, e1, e2, _⟩ := DataW.trod_int Tryz.underlying234 hE
 have e3 : (xs.map (·.1)) = L.map fun n => .lit (.int .u32 n) := by
  have h0 := (Prod.mk.inj ex).1
  rw [hd] at h0
  exact (DataW.agg.inj h0).symm
 have e4 : (xs.map (·.1))[j]? = (L.map fun n => (DataW.lit (.int .u32 n) : DataW Unit))[j]? := by rw [e3]
 rw [List.getElem?_map, List.getElem?_map, List.getElem?_eq_getElem (by omega : j < xs.length), List.getElem?_eq_getElem (by omega : j < L.length), e2] at e4
 have hz : z = at_ L j := by
  simp only [Option.map_some, Option.some.injEq, DataW.lit.injEq, Lit.int.injEq, true_and] at e4
  unfold at_
  rw [e4, List.getD, List.getElem?_eq_getElem (by omega : j < L.length)]
  rfl
 rw [World.var?_cell hg hv j, ← hz]
 have : cs.toList[j]? = some (.int .u32 z) := by
  have h0 : ((cs.toList.drop j).take 1)[0]? = some (.int .u32 z) := by rw [e1]; rfl
  simpa using h0
 simpa using this
theorem range_iH {W : World} {g : Nat} (h : ∀ j, j < 8 → W.cell? ⟨g, j, none⟩ = some (.int .u32 (at_ iH.list j))) : W.rangeAt g 0 iH.arr.toList := fun j v hv => by
 have hj : j < 8 := by
  have := (List.getElem?_eq_some_iff.1 hv).1
  exact this
 rw [Nat.zero_add, h j hj, ← hv]
 rcases (by omega : j = 0 ∨ j = 1 ∨ j = 2 ∨ j = 3 ∨ j = 4 ∨ j = 5 ∨ j = 6 ∨ j = 7) with rfl | rfl | rfl | rfl | rfl | rfl | rfl | rfl <;> rfl
theorem sha_live {W : World} (h : laidMetH Tryz.prog [("entrust/sha.constants", Rows.laid_entrust_sha_constants), ("entrust/sha.initials", Rows.laid_entrust_sha_initials)] W) : ShaIn 1 0 W := by
 rw [MakeChecks.laidMetH_plain _ _ _ (by kernel_rfl)] at h
 obtain ⟨ps, h, -, -⟩ := h
 obtain ⟨h3, ps3, h⟩ := laid_u32 kL h (by kernel_rfl) (by kernel_rfl) Tryz.underlying415 rfl rfl
 obtain ⟨h4, ps4, h⟩ := laid_u32 iH.list h (by kernel_rfl) (by kernel_rfl) Tryz.underlying349 rfl rfl
 exact ⟨h3, range_iH h4⟩
end Go.Proofs.YtpifnmlnhddgeaaGreatDoor
namespace Go.Proofs.YtpifnmlnhddgeaaGreatDoor
set_option linter.unusedVariables false
set_option linter.unusedSimpArgs false
set_option linter.constructorNameAsVariable false
open Go.RowKit Go.Sort Go.Maps
attribute [local go_sem] Oper.semAt_some
set_option maxHeartbeats 4000000
set_option maxRecDepth 100000
theorem vopen_small {base : Nat} {w : World} {gd bs bf : Nat} {v : Value} {p : DP} (hD : Dk w base gd bs bf v p) (h : p.size < 4) :
    Calls Tryz.prog 12 #[.pointer (some ⟨gd, 0, none⟩)] w fun e w' => e = .returned (.tuple #[.pointer none, errD 1]) ∧ New w w' := by
 have HO := Lib.hid (fun W (hN : New w W) => sopen_small (hD.fr (S := NoB) (hN.toFr NoB) (fun _ x => x.elim)) h)
 rw [errD_n (show (1 : Int) ≠ 0 by decide)] at HO ⊢
 clear hD h
 refine (callsIn_wide (n := 3)).1 ?_
 refine callsIn_of_wp_marks Tryz.func12 rfl trivial ?_ rfl
 refine wpIn_wide.2 ?_
 simp only [Tryz.ntmps12, List.size_toArray, List.length_cons, List.length_nil, Nat.reduceAdd, Nat.reduceSub, Array.replicate_succ, Array.replicate_zero, List.push_toArray, List.append_toArray, List.nil_append, List.cons_append]
 go_upto_region 1 with fail
 obtain ⟨w1, hw1⟩ := nm ((w.alloc (Obj.cells #[.pointer none] 35)).alloc (Obj.cells #[.nilIface] 31))
 obtain ⟨b2, hb2⟩ := nm w.heap.size
 obtain ⟨b3, hb3⟩ := nm (w.heap.size + 1)
 have HN1 : Hid (New w w1) := Lib.hid (by rw [hw1]; exact New.al (New.al (New.refl _) _) _)
 have HB2 : Hid (Blk w1 b2 35 #[.pointer none]) := Lib.hid (by rw [hw1, hb2]; exact (Blk.new _ _ _).alloc _)
 have HB3 : Hid (Blk w1 b3 31 #[.nilIface]) := Lib.hid (by rw [hw1, hb3]; exact Blk.new' _ _ _ (by simp))
 have HZ : Hid (b2 = w.heap.size ∧ b3 = w.heap.size + 1) := Lib.hid ⟨hb2, hb3⟩
 have f2 := HB2.out.frozen 0
 have c2 := HB2.out.cell 0
 have f3 := HB3.out.frozen 0
 have c3 := HB3.out.cell 0
 have n23 : b2 ≠ b3 := by omega
 have n32 : b3 ≠ b2 := by omega
 rw [← hw1, ← hb3, ← hb2]
 clear hw1 hb2 hb3
 go_wp2_with fail
 refine (HO.out w1 HN1.out).mono ?_
 rintro e w2 ⟨rfl, rfl⟩
 go_wp2_with fail
 clear c2 f2 c3 f3
 obtain ⟨Wg, hWg⟩ := nm ((w1.setCell ⟨b2, 0, none⟩ (.pointer none)).setCell ⟨b3, 0, none⟩ (.iface 99 (.int .i64 1)))
 have hFg : Fr (fun k => k = b2 ∨ k = b3) w1 Wg := by
  rw [hWg]
  exact ((Fr.refl (fun k => k = b2 ∨ k = b3) w1).setCell (p := ⟨b2, 0, none⟩) (fun _ => .inl rfl) _).setCell (p := ⟨b3, 0, none⟩) (fun _ => .inr rfl) _
 have hb2 : Blk Wg b2 35 #[.pointer none] := by
  rw [hWg]
  exact (HB2.out.set 0 _).far n23 _
 have hb3 : Blk Wg b3 31 #[.iface 99 (.int .i64 1)] := by
  rw [hWg]
  exact (HB3.out.far n32 _).set 0 _
 rw [← hWg]
 clear hWg
 refine leaves_marks [] _ (Marks.nil Wg.heap.size _) (fun W' hS => ⟨.tuple #[.pointer none, .iface 99 (.int .i64 1)], ?_, rfl, ?_⟩)
 · have c2 : W'.cell? ⟨b2, 0, none⟩ = some (.pointer none) := Blk.cell (hS.cells _ _ hb2 rfl) 0
   have c3 : W'.cell? ⟨b3, 0, none⟩ = some (.iface 99 (.int .i64 1)) := Blk.cell (hS.cells _ _ hb3 rfl) 0
   simp [results, Tryz.results12, go_sem, c2, c3]
 · have hz := HZ.out
   have hf := HN1.out.fr hFg (fun k hk => by omega)
   exact hf.fr (Fr.below hS.below) (fun k hk => by have := hf.size; omega)
theorem vnil_main (bl ep : Nat) (a : Int) (hb : bl < 18446744073709551616) (W : World) (hL : ShaIn 1 0 W) :
    Calls Tryz.prog 6 #[.int .u64 bl, .int .u64 ep, .int .i64 a] W fun e w' => e = .returned (.bool true) ∧ New W w' := by
 have HL := Lib.hid hL
 have HAL := Lib.hid (valive_any W hL)
 obtain ⟨r, hr⟩ : ∃ r : Nat, (IntKind.u64.wrap a).tmod 40 = (r : Int) := ⟨((IntKind.u64.wrap a).tmod 40).toNat, by
  have h0 : 0 ≤ IntKind.u64.wrap a := by rw [IntKind.wrap_u64]; omega
  have h1 : 0 ≤ (IntKind.u64.wrap a).tmod 40 := Int.tmod_nonneg _ h0
  omega⟩
 have hr40 : r < 40 := by
  have h1 : (IntKind.u64.wrap a).tmod 40 < 40 := Int.tmod_lt_of_pos _ (by decide)
  omega
 obtain ⟨sz, hsz⟩ : ∃ sz, sz = 1 + r := ⟨_, rfl⟩
 have w1 : IntKind.i64.wrap (r : Int) = (r : Int) := IntWalk.i64_in _ (by omega)
 have w2 : IntKind.i64.wrap (sz : Int) = (sz : Int) := IntWalk.i64_in _ (by omega)
 have w3 : (1 : Int) + (r : Int) = (sz : Int) := by omega
 have HSZ : Hid (1 ≤ sz ∧ sz ≤ 40) := Lib.hid (by omega)
 have HBL := Lib.hid hb
 have hzt := zTk
 have HTI : Hid ((Tryz.prog.info? 45).map (fun i => (i.zero, i.size)) = some (some (.agg tk0.toArray), 22)) := Lib.hid tkInfo
 have HTS : Hid (tk0.toArray.size = 22) := Lib.hid rfl
 have HTO : Hid (tk0.toArray.all (·.oneCell') = true) := Lib.hid (by simp [tk0, Value.oneCell'])
 have HNX := Lib.hid (fun w => vnext_nil ep w)
 obtain ⟨T, hT⟩ := nm tk0.toArray
 simp only [← hT] at hzt HTI HTS HTO HNX
 have HSH : Hid ((secA (List.replicate 32 0)).size = 32) := Lib.hid (by rw [secA_size]; rfl)
 have HHI : Hid ((Tryz.prog.info? 50).map (fun i => (i.zero, i.size)) = some (some (.agg (secA (List.replicate 32 0))), 32)) := Lib.hid hashInfoR
 have HRT := Lib.hid (fun w => vroot_nil ep w)
 have HHO : Hid ((secA (List.replicate 32 0)).all (·.oneCell') = true) := Lib.hid (secA_one _)
 obtain ⟨H0, hH0⟩ := nm (secA (List.replicate 32 0))
 simp only [← hH0] at HSH HHI HRT HHO
 clear hL hr40 hsz hb hT hH0
 go_enter Tryz.func6, Tryz.ntmps6
 go_wp2_with fail
 refine HAL.out.mono ?_
 rintro e w1 ⟨rfl, hN1⟩
 have HN1 := Lib.hid hN1
 clear hN1 HAL
 go_wp2_with fail
 refine (vstep_nil ep w1).mono ?_
 rw [errD_n (show (11 : Int) ≠ 0 by decide)]
 rintro e w2 ⟨rfl, hN2⟩
 have HN2 : Hid (New W w2) := Lib.hid (HN1.out.tr hN2)
 clear hN2 HN1
 go_wp2_with fail
 refine (HNX.out w2).mono ?_
 rintro e w3 ⟨rfl, hN3⟩
 have HN3 : Hid (New W w3) := Lib.hid (HN2.out.tr hN3)
 clear hN3 HN2
 go_upto_region 6 with ((with_reducible refine atOp ⟨some 11, .alloc _, _, _, _, _⟩ ?_); refine wpList_newrow rfl rfl rfl _ _ rfl HTI.out HTS.out rfl rfl HTS.out HTO.out ?_)
 obtain ⟨w4, hw4⟩ := nm (w3.alloc (Obj.cells T 45))
 have HN4 : Hid (New W w4) := Lib.hid (by rw [hw4]; exact HN3.out.al _)
 rw [← hw4]
 generalize w3.heap.size = b11
 clear hw4 HN3
 go_wp2_with fail
 refine (vread_nil ep _ w4).mono ?_
 rw [errD_n (show (11 : Int) ≠ 0 by decide)]
 rintro e w5 ⟨rfl, hN5⟩
 have HN5 : Hid (New W w5) := Lib.hid (HN4.out.tr hN5)
 clear hN5 HN4
 go_wp2_with fail
 refine (vspan_nil ep 0 1 w5).mono ?_
 rw [errD_n (show (11 : Int) ≠ 0 by decide)]
 rintro e w6 ⟨rfl, hN6⟩
 have HN6 : Hid (New W w6) := Lib.hid (HN5.out.tr hN6)
 clear hN6 HN5
 go_upto_region 8 with fail
 obtain ⟨w7, hw7⟩ := nm (w6.alloc (Obj.cells #[.slice none 0 0, .slice none 0 0] 82))
 have HN7 : Hid (New W w7) := Lib.hid (by rw [hw7]; exact HN6.out.al _)
 rw [← hw7]
 generalize w6.heap.size = b17
 clear hw7 HN6
 go_wp2_with fail
 refine (HRT.out w7).mono ?_
 rw [errD_n (show (11 : Int) ≠ 0 by decide)]
 rintro e w8 ⟨rfl, hN8⟩
 have HN8 : Hid (New W w8) := Lib.hid (HN7.out.tr hN8)
 clear hN8 HN7
 go_upto_region 9 with ((with_reducible refine atOp ⟨some 19, .alloc _, _, _, _, _⟩ ?_); refine wpList_newrow rfl rfl rfl _ _ rfl HHI.out HSH.out rfl rfl HSH.out HHO.out ?_)
 obtain ⟨w9, hw9⟩ := nm (w8.alloc (Obj.cells H0 50))
 have HN9 : Hid (New W w9) := Lib.hid (by rw [hw9]; exact HN8.out.al _)
 rw [← hw9]
 generalize w8.heap.size = b19
 clear hw9 HN8
 go_wp2_with fail
 refine (vtidy_nil 0 w9).mono ?_
 rw [errD_n (show (11 : Int) ≠ 0 by decide)]
 rintro e w10 ⟨rfl, rfl⟩
 go_wp2_with fail
 refine (vforget_nil ep w9).mono ?_
 rw [errD_n (show (11 : Int) ≠ 0 by decide)]
 rintro e w11 ⟨rfl, hN11⟩
 have HN11 : Hid (New W w11) := Lib.hid (HN9.out.tr hN11)
 clear hN11 HN9
 go_wp2_with fail
 refine (vapply_nil T HTS.out w11).mono ?_
 rw [errD_n (show (11 : Int) ≠ 0 by decide)]
 rintro e w12 ⟨rfl, hN12⟩
 have HN12 : Hid (New W w12) := Lib.hid (HN11.out.tr hN12)
 clear hN12 HN11
 go_wp2_with fail
 obtain ⟨X, hX⟩ := nm (Value.iface 99 (.int .i64 11))
 obtain ⟨w13, hw13⟩ := nm (w12.alloc (Obj.cells #[X, X, X, X, X, X, X] 31))
 obtain ⟨b77, hb77⟩ := nm w12.heap.size
 have HN13 : Hid (New W w13) := Lib.hid (by rw [hw13]; exact HN12.out.al _)
 have HC : Hid (∀ k : Nat, k < 7 → w13.cell? ⟨b77, k, none⟩ = some X) := Lib.hid (fun k hk => by
  have hb : Blk w13 b77 31 #[X, X, X, X, X, X, X] := by rw [hw13, hb77]; exact Blk.new _ _ _
  have hc : k = 0 ∨ k = 1 ∨ k = 2 ∨ k = 3 ∨ k = 4 ∨ k = 5 ∨ k = 6 := by omega
  rcases hc with h | h | h | h | h | h | h <;> (rw [h]; exact hb.cell _))
 have HX := Lib.hid hX
 rw [hX] at hw13
 rw [← hw13, ← hb77]
 clear hw13 hX hb77 HN12
 go_loopw [79] (fun i wr => ∃ k : Nat, k ≤ 7 ∧ i = .int .i64 k ∧ wr = w13) (fun i _ => 7 - (intOf i).toNat)
 case atStart => exact ⟨0, by omega, rfl, rfl⟩
 case round =>
  obtain ⟨k, hk, rfl, rfl⟩ := hrel
  by_cases hlt : k < 7
  · have hlt' : (k : Int) < 7 := by omega
    have hk0 : (0 : Int) ≤ (k : Int) := by omega
    have ck := HC.out k hlt
    rw [HX.out] at ck
    go_wp2_with (go_at_call 35; refine (is_some 11 11 _ (by decide)).mono ?_; rintro e w' ⟨rfl, rfl⟩)
    go_roundw
    case rel => exact ⟨k + 1, by omega, by go_num, trivial⟩
    case measure => simp [intOf]; omega
  · have hlt' : ¬ ((k : Int) < 7) := by omega
    clear hk hlt
    go_wp2_with (first
     | (go_at_call 19; refine (vblocks_nil _).mono ?_; rintro e w' ⟨rfl, rfl⟩)
     | (go_at_call 14; refine (vepoch_nil _).mono ?_; rintro e w' ⟨rfl, rfl⟩)
     | (go_at_call 36; refine (vbase_nil _).mono ?_; rintro e w' ⟨rfl, rfl⟩)
     | (go_at_call 20; refine (vlen_nil _).mono ?_; rintro e w' ⟨rfl, rfl⟩)
     | (go_at_call 17; refine (vbroken_nil _).mono ?_; rintro e w' ⟨rfl, rfl⟩))
    refine (dnew_l HN13.out sz HSZ.out.1 (by have := HSZ.out; omega)).mono ?_
    rintro e w14 ⟨gd, rfl, ⟨bs, bf, v1, hD1, hN1⟩, -⟩
    have HD1 := Lib.hid hD1
    have HN14 := Lib.hid hN1
    clear hD1 hN1 HN13 HC HX
    by_cases hb : 1 ≤ bl ∧ bl ≤ 4294967296
    rotate_left
    · have HVB := Lib.hid (fun d w => vformat_bad d bl w HBL.out hb)
      rw [errD_n (show (1 : Int) ≠ 0 by decide)] at HVB
      go_wp2_with fail
      refine (HVB.out _ w14).mono ?_
      rintro e w15 ⟨rfl, rfl⟩
      have hq : ((bl : Int) < 1) ∨ ((4294967296 : Int) < (bl : Int)) := by omega
      have HQ := Lib.hid hq
      clear hq hb
      have hwt := wait_in HD1.out
      rw [show (((DP.new sz).order.length : Nat) : Int) = 0 from rfl] at hwt
      have HWT := Lib.hid hwt
      clear hwt
      rcases HQ.out with hq | hq
      · go_wp2_with (first
         | (go_at_call 35; refine (is_some 1 1 _ (by decide)).mono ?_; rintro e w' ⟨rfl, rfl⟩)
         | (go_at_call 37; refine HWT.out.mono ?_; rintro e w' ⟨rfl, rfl⟩))
        go_ret
        exact ⟨rfl, HN14.out⟩
      · have hq2 : ¬ ((bl : Int) < 1) := by omega
        go_wp2_with (first
         | (go_at_call 35; refine (is_some 1 1 _ (by decide)).mono ?_; rintro e w' ⟨rfl, rfl⟩)
         | (go_at_call 37; refine HWT.out.mono ?_; rintro e w' ⟨rfl, rfl⟩))
        go_ret
        exact ⟨rfl, HN14.out⟩
    · have HBB := Lib.hid hb
      have k1 : ¬ ((bl : Int) < 1) := by omega
      have k2 : ¬ ((4294967296 : Int) < (bl : Int)) := by omega
      clear hb
      by_cases h4 : 4 ≤ sz
      · have H4 := Lib.hid h4
        obtain ⟨s1, s2, s3, K, f1, f2, f3, f4, f5, f6, f7, f8, f9, f10, f11, f12, f13, f14, f15, f16, f17⟩ := vfmt_ok (p := DP.new sz) (DP.new_ok (by omega) (by have := HSZ.out; omega)) (Up.new sz) h4 bl
        have HVF := Lib.hid (vformat_any HD1.out HN14.out HL.out (Up.new sz) h4 (by show sz ≤ 3000; have := HSZ.out; omega) bl HBB.out.1 HBB.out.2 f1 f2 f6)
        rw [← f5] at HVF
        have f9' : s2.p.size = sz := f9
        have HO := Lib.hid (And.intro f8 (And.intro f9' (And.intro f10 (And.intro f11 f14))))
        have f15' : s3.p.size = sz := f15
        have HLN := Lib.hid (fun v w (hD : Dk w W.heap.size gd bs bf v s3.p) => len_in hD)
        simp only [f15'] at HLN
        have h4' : ¬ ((sz : Int) < 4) := by omega
        clear f1 f2 f3 f4 f5 f6 f7 f8 f9 f10 f11 f12 f13 f14 f15 f16 f17 f9' f15' h4
        go_wp2_with fail
        refine HVF.out.mono ?_
        rintro e w15 ⟨rfl, ⟨v2, hD2⟩, hN2⟩
        have HVO := Lib.hid (vopen_fresh hD2 hN2 HL.out HO.out.1 (by rw [HO.out.2.1]; exact H4.out) (by rw [HO.out.2.1]; have := HSZ.out; omega) HO.out.2.2.1 HO.out.2.2.2.1 bl HBB.out.1 HBB.out.2 HO.out.2.2.2.2)
        have HN2 := Lib.hid hN2
        clear hD2 hN2 HD1 HN14 HVF
        go_wp2_with fail
        refine HVO.out.mono ?_
        rintro e w16 ⟨gv, gs, bt, bm, gt, bn, rfl, hX⟩
        have hD16 : ∃ v', Dk w16 W.heap.size gd bs bf v' s3.p := by
         obtain ⟨gl, gt', v', X', m', E', hX'⟩ := hX.st.st
         exact ⟨v', hX'.dk⟩
        obtain ⟨v3, hD3⟩ := hD16
        have HN16 := Lib.hid hX.st.nw
        have HL16 := Lib.hid (HLN.out v3 w16 hD3)
        clear hD3 hX HVO HN2 HLN
        go_wp2_with (go_at_call 38; refine HL16.out.mono ?_; rintro e w' ⟨rfl, rfl⟩)
        go_ret
        exact ⟨rfl, HN16.out⟩
      · have HVF := Lib.hid (vformat_small HD1.out (by show sz < 4; omega) bl HBB.out.1 HBB.out.2)
        have HVO := Lib.hid (fun w' (hN : New w14 w') => vopen_small (hN.toFr NoB |> fun hF => HD1.out.fr (S := NoB) hF (fun _ x => x.elim)) (by show sz < 4; omega))
        have HLN := Lib.hid (fun w' (hN : New w14 w') => len_in (hN.toFr NoB |> fun hF => HD1.out.fr (S := NoB) hF (fun _ x => x.elim)))
        simp only [show (DP.new sz).size = sz from rfl] at HLN
        rw [errD_n (show (1 : Int) ≠ 0 by decide)] at HVF HVO
        have h4' : (sz : Int) < 4 := by omega
        clear h4
        go_wp2_with fail
        refine HVF.out.mono ?_
        rintro e w15 ⟨rfl, rfl⟩
        have k1 : ¬ ((bl : Int) < 1) := by have := HBB.out; omega
        have k2 : ¬ ((4294967296 : Int) < (bl : Int)) := by have := HBB.out; omega
        go_wp2_with fail
        refine (HVO.out w14 (New.refl _)).mono ?_
        rintro e w16 ⟨rfl, hN16⟩
        have HN16 := Lib.hid hN16
        clear hN16
        go_wp2_with (first
         | (go_at_call 38; refine (HLN.out _ HN16.out).mono ?_; rintro e w' ⟨rfl, rfl⟩)
         | (go_at_call 35; refine (is_some 1 1 _ (by decide)).mono ?_; rintro e w' ⟨rfl, rfl⟩))
        go_ret
        exact ⟨rfl, HN14.out.tr HN16.out⟩
theorem vnil_law (a : Int) (wa : (Lit.int .u64 a).wf = true) (b : Int) (wb : (Lit.int .u64 b).wf = true) (c : Int) (_wc : (Lit.int .i64 c).wf = true) (W : World) (hL : laidMetH Tryz.prog [("entrust/sha.constants", Rows.laid_entrust_sha_constants), ("entrust/sha.initials", Rows.laid_entrust_sha_initials)] W) :
    Calls Tryz.prog 6 #[.int .u64 a, .int .u64 b, .int .i64 c] W fun e w' => e = .returned (.bool true) ∧ Below W.heap.size W w' := by
 have q1 := bounds_u64 wa
 have q2 := bounds_u64 wb
 obtain ⟨n, rfl⟩ := Int.eq_ofNat_of_zero_le q1.1
 obtain ⟨m, rfl⟩ := Int.eq_ofNat_of_zero_le q2.1
 exact vnil_main n m c (by have := q1.2; omega) W (sha_live hL)
end Go.Proofs.YtpifnmlnhddgeaaGreatDoor
