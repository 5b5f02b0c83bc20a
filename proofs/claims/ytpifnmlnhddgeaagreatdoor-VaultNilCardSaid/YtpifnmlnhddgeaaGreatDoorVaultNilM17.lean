/- Texts of one proof, one behind the other: TeD, VaB. No condition but each one's own. -/
import Derived.Test.YtpifnmlnhddgeaaGreatDoorVaultNilM15
import Derived.Test.YtpifnmlnhddgeaaGreatDoorVaultNilM16
import Derived.Test.YtpifnmlnhddgeaaGreatDoorVaultNilM2
import Derived.Test.YtpifnmlnhddgeaaGreatDoorVaultNilM10
import Derived.Test.YtpifnmlnhddgeaaGreatDoorVaultNilM4
import Derived.Test.YtpifnmlnhddgeaaGreatDoorVaultNilM5
namespace Go.Proofs.YtpifnmlnhddgeaaGreatDoor
set_option linter.unusedVariables false
set_option linter.unusedSimpArgs false
set_option linter.constructorNameAsVariable false
open Go.RowKit Go.Sort Go.Maps
set_option maxHeartbeats 4000000
set_option maxRecDepth 100000
theorem trPlaces : (Tryz.prog.fieldsOf 285).toList.mapM (fun f => (Tryz.prog.info? f.type).map fun i => (f.offset, i.size)) = some [(0, 1), (1, 1), (2, 1056)] := by kernel_rfl
theorem trInfo : (Tryz.prog.info? 285).map (fun i => (i.zero, i.size)) = some (some (.agg (Value.int .i64 0 :: .map none :: u8s (List.replicate 1056 0)).toArray), 1058) := by kernel_rfl
theorem tr_built {H bn : Nat} {E : List Int} (hE : E.length = 1056) : Tryz.prog.built 285 [(0, .int .i64 H), (1, .map (some bn)), (2, .agg (secA E))] = some (Value.int .i64 H :: .map (some bn) :: u8s E).toArray := by
 rw [built_struct Tryz.underlying285 trInfo trPlaces]
 generalize hz : u8s (List.replicate 1056 0) = z
 have hzl : z.length = 1056 := by rw [← hz, u8s_len]; simp
 rw [fill_cell (off := 0) rfl rfl (by simp), fill_cell (off := 1) rfl rfl (by simp), fill_one (off := 2) (ys := u8s E) (by rw [u8s_len, hE]; rfl) rfl (by simp [u8s_len, hE, hzl])]
 simp only [List.set_cons_zero, List.set_cons_succ, fill_nil]
 have h1 := splice_app (a := [Value.int .i64 H, .map (some bn)]) (b := z ++ []) (ys := u8s E) (o := 2) (k := 0) rfl
 rw [splice_fst (by rw [hzl, u8s_len, hE]), List.append_nil, List.append_nil] at h1
 exact congrArg (fun l : List Value => some l.toArray) h1
theorem tnew_any (H : Nat) (w : World) (hL : ShaIn 1 0 w) (hH : H ≤ 32) :
    Calls Tryz.prog 134 #[.int .i64 H] w fun e w' => ∃ gt bn, e = .returned (.tuple #[.pointer (some ⟨gt, 0, none⟩), .nilIface]) ∧ TrIn w' gt bn H 0 (fun _ => empH 0) ∧ New w w' ∧ w.heap.size ≤ gt ∧ w.heap.size ≤ bn := by
 have HEM := Lib.hid (fun W (hN : New w W) => empties_any W (hL.new hN))
 have HEL : Hid ((empA 33).length = 1056) := Lib.hid (empA_len (by decide))
 have HH := Lib.hid hH
 have h0 : ¬ ((H : Int) < 0) := by omega
 have h1 : ¬ ((32 : Int) < (H : Int)) := by omega
 obtain ⟨E, hE⟩ := nm (empA 33)
 simp only [← hE] at HEM HEL
 have HEE := Lib.hid hE
 have hmk := @run_makeMap Tryz.prog
 clear hL hH hE
 go_enter Tryz.func134, Tryz.ntmps134
 go_wp2_with fail
 obtain ⟨w1, hw1⟩ := nm (w.alloc (.map #[] 0))
 have HN1 : Hid (New w w1) := Lib.hid (by rw [hw1]; exact New.al (New.refl _) _)
 obtain ⟨bn, hbn⟩ := nm w.heap.size
 have HM : Hid (MapAt w1 Tryz.prog 287 bn 0 (fun _ => none)) := Lib.hid (by rw [hw1, hbn]; exact MapAt.made w _ _)
 have HZ := Lib.hid hbn
 rw [← hw1, ← hbn]
 clear hw1 hbn h0 h1 hmk
 refine (HEM.out w1 HN1.out).mono ?_
 rintro e w2 ⟨rfl, hN2⟩
 have HN2 : Hid (New w1 w2) := Lib.hid hN2
 clear hN2
 have HBT : Hid (Tryz.prog.built 285 [(0, .int .i64 H), (1, .map (some bn)), (2, .agg (secA E))] = some (Value.int .i64 H :: .map (some bn) :: u8s E).toArray) := Lib.hid (tr_built HEL.out)
 go_wp2_with ((with_reducible refine atOp ⟨some 14, .build _ _, _, _, _, _⟩ ?_); refine wpList_built rfl 285 [(0, .tmp 11), (1, .tmp 12), (2, .tmp 13)] rfl _ rfl _ HBT.out ?_)
 go_ret2
 have hz := HZ.out
 have h1 := HN1.out.size
 have h2 := HN2.out.size
 refine ⟨w2.heap.size, bn, rfl, ⟨fun _ _ => none, ⟨?_, ⟨fun _ => none, ?_, fun l p _ _ => rfl, fun kl h => absurd rfl h⟩, (fun l p h e => by cases e), HH.out⟩, Nds.emp H, fun p => ⟨empH_len 0, empH_byt 0⟩⟩, (HN1.out.tr HN2.out).al _, by omega, by omega⟩
 · unfold trC
   rw [← HEE.out]
   exact Blk.new _ _ _
 · exact (HM.out.fr (HN2.out.toFr NoB) (fun x => x)).alloc _
theorem troot_any {w : World} {gt bn H n : Nat} {f : Nat → List Int} (h : TrIn w gt bn H n f) :
    Calls Tryz.prog 62 #[.pointer (some ⟨gt, 0, none⟩)] w fun e w' => e = .returned (.agg (secA (ndv f H 0))) ∧ New w w' := by
 obtain ⟨m, hX, hm, hf⟩ := h
 have HX := Lib.hid hX
 have hv := hm.at (Nat.le_refl H) (p := 0) (Nat.pow_pos (by decide))
 have HV := Lib.hid hv
 have HO : Hid ((secA (ndv f H 0)).size = 32) := Lib.hid (by rw [secA_size, (ndv_ok hf H 0).1])
 have c0 := hX.c0
 have HH := Lib.hid hX.h32
 generalize ndv f H 0 = v at HV HO ⊢
 clear hX hm hf hv
 go_enter Tryz.func62, Tryz.ntmps62
 go_upto_region 1 with ((with_reducible refine atOp ⟨some 2, .alloc _, _, _, _, _⟩ ?_); refine wpList_alloc_row rfl rfl hashInfoR ?_; intro b2 w1 hb2 hB2 hN1; have HB2 := Lib.hid hB2; have HN1 := Lib.hid hN1; have HZ := Lib.hid hb2; clear hb2 hB2 hN1)
 have c1 := HN1.out.cell_ c0
 go_wp2_with fail
 refine (tget_any (HX.out.new HN1.out) (l := H) (p := 0) HH.out (by omega)).mono ?_
 rw [HV.out]
 rintro e w2 ⟨rfl, hN2⟩
 have HB22 : Hid (Blk w2 b2 50 (secA (List.replicate 32 0))) := Lib.hid (hN2.blk HB2.out)
 have HN2 : Hid (New w w2) := Lib.hid (HN1.out.tr hN2)
 clear hN2
 go_wp2_with ((with_reducible refine atOp ⟨none, .store 50 (.tmp 2) _, _, _, _, _⟩ ?_); refine wpList_store_any rfl (.tmp 2) (.tmp 12) rfl (by rw [HO.out]; rfl) rfl rfl HB22.out (by rw [HO.out]; simp [secA_size]) (secA_one _) ?_; intro w3 hb3 hf3; have HB23 := Lib.hid hb3; have HF3 := Lib.hid hf3; clear hb3 hf3)
 exact bodyPost_ret (v := .agg (secA v)) (results_rowH rfl _ _ b2 _ _ rfl HB23.out Tryz.underlying50 rfl (by rw [HO.out]; rfl)) rfl ⟨rfl, HN2.out.fr HF3.out (fun k hk => by have := HZ.out; omega)⟩
end Go.Proofs.YtpifnmlnhddgeaaGreatDoor
namespace Go.Proofs.YtpifnmlnhddgeaaGreatDoor
set_option linter.unusedVariables false
set_option linter.unusedSimpArgs false
set_option linter.constructorNameAsVariable false
open Go.RowKit Go.Sort Go.Maps
def sdV (x : Sd) : Value := .agg x.cells.toArray
structure StM (w : World) (s : VS) (bm n gt bn : Nat) : Prop where
 ok : s.Ok
 map : ∃ F m, MapAt w Tryz.prog 27 bm m F ∧ m ≤ n ∧ (∀ i : Nat, i < 18446744073709551616 → F (.int .u64 i) = (s.L.lookup i).map sdV) ∧ (∀ kl, F kl ≠ none → ∃ i : Nat, i < 18446744073709551616 ∧ kl = .int .u64 i)
 tr : TrIn w gt bn (hgt s.blocks) n (lfF s.L)
section
variable {w w' : World} {s : VS} {bm n gt bn : Nat}
theorem StM.fr {S : Nat → Prop} (h : StM w s bm n gt bn) (hF : Fr S w w') (h1 : ¬ S bm) (h2 : ¬ S gt) (h3 : ¬ S bn) : StM w' s bm n gt bn := by
 obtain ⟨F, m, hM, r⟩ := h.map
 exact ⟨h.ok, ⟨F, m, hM.fr hF h1, r⟩, h.tr.fr hF h2 h3⟩
theorem StM.new (h : StM w s bm n gt bn) (hN : New w w') : StM w' s bm n gt bn := h.fr (hN.toFr NoB) (fun x => x) (fun x => x) (fun x => x)
theorem StM.lt (h : StM w s bm n gt bn) : bm < w.heap.size ∧ gt < w.heap.size ∧ bn < w.heap.size := by
 obtain ⟨F, m, hM, r⟩ := h.map
 have := h.tr.lt
 exact ⟨hM.lt, this.1, this.2.1⟩
end
theorem lfF_nil : lfF [] = fun _ => empH 0 := rfl
set_option maxHeartbeats 4000000
set_option maxRecDepth 100000
theorem blank_any (n : Nat) (w : World) (hL : ShaIn 1 0 w) (h1 : 1 ≤ n) (h2 : n ≤ 4294967296) :
    Calls Tryz.prog 55 #[.int .u64 n] w fun e w' => ∃ bm gt bn, e = .returned (.tuple #[.agg #[.int .u64 n, .map (some bm), .pointer (some ⟨gt, 0, none⟩)], .nilIface]) ∧ StM w' ⟨n, []⟩ bm 0 gt bn ∧ New w w' ∧ w.heap.size ≤ bm ∧ w.heap.size ≤ gt ∧ w.heap.size ≤ bn ∧ bm ≠ bn := by
 have HH := Lib.hid (fun W => (height_ok n W h1 h2).mono fun _ _ h => And.intro h.1 h.2.symm)
 have HT := Lib.hid (fun W (hN : New w W) => tnew_any (hgt n) W (hL.new hN) (hgt_le h1 h2))
 have HN12 := Lib.hid (And.intro h1 h2)
 have hmk := @run_makeMap Tryz.prog
 obtain ⟨H, hH⟩ := nm (hgt n)
 simp only [← hH] at HH HT
 have HHH := Lib.hid hH
 clear hL h1 h2 hH
 go_enter Tryz.func55, Tryz.ntmps55
 go_upto_region 1 with fail
 obtain ⟨w1, hw1⟩ := nm (w.alloc (.cells #[.int .u64 0, .map none, .pointer none] 134))
 obtain ⟨b2, hb2⟩ := nm w.heap.size
 have HN1 : Hid (New w w1) := Lib.hid (by rw [hw1]; exact New.al (New.refl _) _)
 have HB2 : Hid (Blk w1 b2 134 #[.int .u64 0, .map none, .pointer none]) := Lib.hid (by rw [hw1, hb2]; exact Blk.new _ _ _)
 have HZ := Lib.hid hb2
 rw [← hw1, ← hb2]
 clear hw1 hb2
 go_wp2_with fail
 refine (HH.out w1).mono ?_
 rintro e w2 ⟨rfl, rfl⟩
 go_wp2_with fail
 refine (HT.out w1 HN1.out).mono ?_
 rintro e w2 ⟨gt, bn, rfl, hT, hN2, hg1, hg2⟩
 have HB22 : Hid (Blk w2 b2 134 #[.int .u64 0, .map none, .pointer none]) := Lib.hid (hN2.blk HB2.out)
 have HTT := Lib.hid hT
 have HN2 := Lib.hid hN2
 have HB1 := Lib.hid HB2.out.lt
 have HG := Lib.hid (And.intro hg1 hg2)
 clear hT hN2 hg1 hg2 HB2
 go_upto_region 5 with fail
 have HB23 : Hid (Blk (w2.alloc (.map #[] 0)) b2 134 #[.int .u64 0, .map none, .pointer none]) := Lib.hid (HB22.out.alloc _)
 go_wp2_with ((with_reducible refine atOp ⟨none, .store 134 (.tmp 2) _, _, _, _, _⟩ ?_); refine wpList_store_any rfl (.tmp 2) (.tmp 24) rfl (by rfl) rfl rfl HB23.out rfl (by simp [Value.oneCell']) ?_; intro w3 hb3 hf3; have HB3 := Lib.hid hb3; have HF3 := Lib.hid hf3; clear hb3 hf3)
 refine bodyPost_ret (results_row2h rfl _ _ b2 _ _ rfl HB3.out Tryz.underlying134 rfl (by rfl)) rfl ?_
 have hz := HZ.out
 have h1 := HN1.out.size
 have h2 := HN2.out.size
 have h3 := HB22.out.lt
 have hg := HG.out
 have ht := HTT.out.lt
 have hb1 : b2 < w1.heap.size := HB1.out
 have hF : New w w3 := ((HN1.out.tr HN2.out).al _).fr HF3.out (fun k hk => by omega)
 refine ⟨w2.heap.size, gt, bn, rfl, ⟨⟨HN12.out.1, HN12.out.2, List.Pairwise.nil, fun e he => nomatch he⟩, ⟨fun _ => none, 0, (MapAt.made w2 _ _).fr HF3.out (by omega), Nat.le_refl _, fun i _ => rfl, fun kl h => absurd rfl h⟩, ?_⟩, hF, by omega, by omega, by omega, by omega⟩
 rw [lfF_nil, ← HHH.out]
 exact (HTT.out.new ((New.refl w2).al _)).fr HF3.out (by omega) (by omega)
end Go.Proofs.YtpifnmlnhddgeaaGreatDoor
