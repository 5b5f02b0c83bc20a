/- Texts of one proof, one behind the other: SwA. No condition but each one's own. -/
import Derived.Test.YtfchcdbfalgdlaaGreatDoorSweepKeepsM25
import Derived.Test.YtfchcdbfalgdlaaGreatDoorSweepKeepsM15
import Derived.Test.YtfchcdbfalgdlaaGreatDoorSweepKeepsM26
import Derived.Lib.SlBytesConst
namespace Go.Proofs.YtfchcdbfalgdlaaGreatDoor
set_option linter.unusedVariables false
set_option linter.unusedSimpArgs false
set_option linter.constructorNameAsVariable false
open Go.RowKit Go.Sort
theorem rd_cells {w : World} {g T : Nat} {fz : Nat × Nat} {cs : Array Value} {xs : List Value} {n : Nat} (h : w.heap[g]? = some (.cells cs T fz)) (hx : cs.toList = xs) (hn : xs.length = n) : Rd (fun _ => True) w 1 (some ⟨g, 0, none⟩) n xs := by
 subst hx
 refine ⟨by omega, fun _ => ⟨_, rfl, trivial, (Array.getElem?_eq_some_iff.1 h).1, fun j u hu => ?_⟩⟩
 rw [add_own]
 simpa [World.cell?, h] using hu
theorem manR_eq (g : Nat) : beL 4 g ++ (hsh [entB, beL 4 g].flatten).take 16 = manR g := by simp [manR]
set_option maxHeartbeats 3000000 in
set_option maxRecDepth 100000 in
theorem manifest_any (g : Nat) (hg : g < 4294967296) (w : World) (hL : ShaIn 4 2 w) :
    Calls Tryz.prog 94 #[.int .u32 g] w fun e w' => e = .returned (.tuple #[.agg (secA (manB g)), .nilIface]) ∧ New w w' := by
 have HL := Lib.hid hL
 have HG := Lib.hid hg
 have k1 : IntKind.u64.wrap (g : Int) = (g : Int) := by rw [IntKind.wrap_u64]; omega
 have n0 : ((4 : Nat) : Int) = 4 := rfl
 clear hL hg
 go_enter Tryz.func94, Tryz.ntmps94
 go_upto_region 2 with fail
 refine wp_world fun w1 hw1 => ?_
 obtain ⟨b2, hb2⟩ := nm w.heap.size
 obtain ⟨gw, hgw⟩ := nm (w.heap.size + 1)
 have HN1 : Hid (New w w1) := Lib.hid (by rw [hw1.out]; exact (New.refl _).al2 _ _)
 have HB2 : Hid (Blk w1 b2 68 (secA sec0)) := Lib.hid (by rw [hw1.out, hb2]; exact (Blk.new _ _ _).alloc _)
 have HW1 : Hid (WrIn w1 gw gw []) := Lib.hid ⟨⟨none, 0, by rw [hw1.out, hgw]; exact Blk.new' _ _ _ (by simp), World.ownsRow_nil _ _ _ _⟩, Nat.le_refl _, fun x hx => nomatch hx⟩
 have HZ : Hid (b2 = w.heap.size ∧ gw = w.heap.size + 1) := Lib.hid ⟨hb2, hgw⟩
 rw [← hgw, ← hb2]
 clear hw1 hb2 hgw
 go_wp2_with fail
 refine (wnum_any HW1.out g 4 (by omega) (by have := HG.out; omega) (by simp)).mono ?_
 rintro e w2 ⟨rfl, hW2, hF2⟩
 have HW2 := Lib.hid hW2
 have HF2 := Lib.hid hF2
 clear hW2 hF2
 go_wp2_with fail
 refine (wdone_any HW2.out (by simp [beL_len])).mono ?_
 rintro e w6 ⟨⟨B, d, rfl, hO⟩, hN6⟩
 rw [List.nil_append, beL_len] at hO ⊢
 have HO := Lib.hid hO
 have HN6 : Hid (New w w6) := Lib.hid ((HF2.out.toNew HN1.out (by have := HZ.out; omega) (Nat.le_refl _)).tr hN6)
 have HB26 : Hid (Blk w6 b2 68 (secA sec0)) := Lib.hid (hN6.blk (HF2.out.blk HB2.out (by decide) (by have := HZ.out; omega)))
 have HWS : Hid (b2 < w2.heap.size ∧ w2.heap.size ≤ w6.heap.size) := Lib.hid ⟨by have h1 := HW2.out.lt; have := HZ.out; omega, hN6.size⟩
 clear hO hN6 HF2 HW2 HW1 HB2 HN1
 have kc := fun (w : World) (C : Array Value) (n c : Nat) => Lib.run_convert_bytes_const (P := Tryz.prog) w 33 5 C n c Tryz.underlying33 Tryz.underlying5
 go_wp2_with fail
 clear kc
 obtain ⟨bp, hbp⟩ := nm (w6.heap.size + 1)
 refine calls_world fun w7 hw7 => ?_
 have HN7 : Hid (New w6 w7) := Lib.hid (by rw [hw7.out]; exact (New.refl _).al2 _ _)
 have HP : Hid (Parts w7 bp 0 [entB, beL 4 g]) := Lib.hid ⟨fun i l hl => by
  have hB : Blk w7 bp 33 #[.slice (some ⟨w6.heap.size, 0, none⟩) 16 16, .slice B 4 d] := by rw [hw7.out, hbp]; exact Blk.new' _ _ _ (by simp)
  match i, hl with
  | 0, hl =>
   obtain rfl : entB = l := by simpa using hl
   exact ⟨entB_byt, some ⟨w6.heap.size, 0, none⟩, 16, hB.cell 0, rd_cells (by rw [hw7.out]; exact (Below.heap_alloc _ _ _ (by simp)).trans (World.alloc_heap_new w6 _)) rfl rfl⟩
  | 1, hl =>
   obtain rfl : beL 4 g = l := by simpa using hl
   exact ⟨beL_byt _ _, B, d, by rw [beL_len]; exact hB.cell 1, by rw [beL_len]; exact HN7.out.rd ((Rd.own HO.out rfl).imp (fun _ _ => trivial))⟩
  | (i + 2), hl => simp at hl⟩
 rw [← hbp]
 clear hw7 hbp
 refine (of_any bp 0 2 [entB, beL 4 g] 2 rfl w7 ((HL.out.new HN6.out).new HN7.out) (by simp) HP.out (by simp) (by simp [entB, beL_len]) (by simp)).mono ?_
 rintro e w8 ⟨rfl, hN8⟩
 have HTL : Hid (manR g = beL 4 g ++ (hsh [entB, beL 4 g].flatten).take 16) := Lib.hid (manR_eq g).symm
 obtain ⟨HS, hHS⟩ := nm (hsh [entB, beL 4 g].flatten)
 rw [← hHS] at HTL ⊢
 have HS32 : Hid (HS.length = 32) := Lib.hid (by rw [hHS]; exact hsh_len _)
 have HN8 : Hid (New w6 w8) := Lib.hid (HN7.out.tr hN8)
 have HZ3 : Hid ((secA HS).size = 32) := Lib.hid (by rw [secA_size, HS32.out])
 clear hN8 hHS HP HN7
 go_upto_region 6 with ((with_reducible refine atOp ⟨some 7, .alloc _, _, _, _, _⟩ ?_); refine wpList_newvar (s := HS) rfl rfl rfl _ _ rfl hashInfo rfl rfl rfl HS32.out ?_)
 go_upto_region 7 with fail
 refine wp_world fun w9 hw9 => ?_
 obtain ⟨b9, hb9⟩ := nm w8.heap.size
 obtain ⟨b10, hb10⟩ := nm (w8.heap.size + 1)
 have HB9 : Hid (Blk w9 b9 211 (secA HS)) := Lib.hid (by rw [hw9.out, hb9]; exact (Blk.new _ _ _).alloc _)
 have HB10 : Hid (Blk w9 b10 68 (u8s sec0).toArray) := Lib.hid (by rw [hw9.out, hb10]; exact Blk.new' _ _ _ (by simp))
 have HN9 : Hid (New w6 w9) := Lib.hid (HN8.out.tr (by rw [hw9.out]; exact (New.refl _).al2 _ _))
 have HZ9 : Hid (b9 = w8.heap.size ∧ b10 = w8.heap.size + 1 ∧ w6.heap.size ≤ w8.heap.size ∧ w9.heap.size = w8.heap.size + 2) := Lib.hid ⟨hb9, hb10, HN8.out.size, by rw [hw9.out]; simp⟩
 rw [← hb10, ← hb9]
 clear hw9 hb9 hb10
 have HB29 : Hid (Blk w9 b2 68 (secA sec0)) := Lib.hid (HN9.out.blk HB26.out)
 have HR16 : Hid (Rd (fun _ => True) w9 1 (some ⟨b9, 0, none⟩) 16 (u8s (HS.take 16))) := Lib.hid (by
  have h := Rd.ofBlk (p := fun _ => True) HB9.out 1 32 (by rw [secA_size, HS32.out]) trivial
  rw [secA_list] at h
  exact Rd.take h (by omega))
 have HBB : Hid ((Value.slice B 4 d).ownBlock ≠ some b2 ∧ (Value.slice B 4 d).ownBlock ≠ some b10) := Lib.hid ⟨fun h => by have h1 := own_lt HO.out _ h; have := HWS.out; omega, fun h => by have h1 := own_lt HO.out _ h; have := HZ9.out; omega⟩
 have HXL : Hid ((u8s (manR g)).length = 20) := Lib.hid (by rw [u8s_len, manR_len])
 have HSP : Hid (splice (u8s sec0) 0 (u8s (manR g)) = u8s (manB g)) := Lib.hid (splice_pad (by rw [manR_len]; omega))
 have HPZ : Hid ((secA (manB g)).size = 64) := Lib.hid (by rw [secA_size, (manB_ok g).1])
 refine wp_region_mixH (fun _ => True) [(true, 0), (true, 1), (true, 2), (false, 3), (false, 4)] (by kernel_rfl) (by kernel_rfl) trivial (fun hne => ?_)
 iterate 3 (refine mix_take (o := ⟨_, _, _, _, _, _⟩) rfl (fun K hK => ?_); go_simp; refine hK _ ?_; clear hK K)
 refine mix_app (o := ⟨_, _, _, _, _, _⟩) elB w9.drew rfl rfl (.tmp 29) (.tmp 30) rfl w2.heap.size (.slice B 4 d) 4 (u8s (beL 4 g)) rfl ((New.dr (New.refl w9)).own (HN9.out.own HO.out)) (some ⟨b9, 0, none⟩) 16 _ (u8s (HS.take 16)) rfl ((New.dr (New.refl w9)).rd HR16.out) (u8s_one _) (by unfold maxLen; omega) (by omega) (by show _ ≤ w9.heap.size; have := HWS.out; have := HZ9.out; omega) ?_
 intro A1 d1 w10 hO10 hF10 hA10
 have hf10 := Fr.ofDrew hF10
 have HOA : Hid (w10.ownsRow w2.heap.size 5 1 (.slice A1 20 d1) 20 (u8s (manR g))) := Lib.hid (by rw [HTL.out]; unfold u8s; rw [List.map_append]; exact hO10)
 have HBA2 := Lib.hid (HB29.out.fr hf10 (fun h => HBB.out.1 h))
 have HBA10 := Lib.hid (HB10.out.fr hf10 (fun h => HBB.out.2 h))
 have HF10 := Lib.hid hf10
 clear hO10 hF10 hA10 hf10
 refine ⟨fun _ => trivial, ?_⟩
 refine mix_copyF (o := ⟨_, _, _, _, _, _⟩) (q := fun k => (Value.slice A1 20 d1).ownBlock = some k) rfl rfl (.tmp 28) (.tmp 31) 33 33 rfl 5 Tryz.underlying33 rfl b10 0 64 64 A1 20 d1 rfl rfl (u8s sec0) 68 HBA10.out (u8s (manR g)) (by rw [HXL.out]; rfl) ⟨20, u8s (manR g), Rd.own HOA.out rfl, List.take_length⟩ (by rw [HXL.out]; decide) (u8s_one _) ?_
 intro w11 hb11 hf11
 rw [HSP.out] at hb11
 have HB11 : Hid (Blk w11 b10 68 (secA (manB g))) := Lib.hid hb11
 have HF11 := Lib.hid hf11
 have HBB2 := Lib.hid (HBA2.out.fr hf11 (by have := HWS.out; have := HZ9.out; omega))
 clear hb11 hf11
 refine ⟨fun _ => trivial, ?_⟩
 refine mix_done ?_
 go_wp2_with (first
  | ((with_reducible refine atOp ⟨some 33, .load _ _, _, _, _, _⟩ ?_); refine wpList_load_any rfl _ rfl Tryz.underlying68 rfl (by rw [HPZ.out]; rfl) rfl HB11.out ?_)
  | ((with_reducible refine atOp ⟨none, .store 68 (.tmp 2) _, _, _, _, _⟩ ?_); refine wpList_store_any rfl (.tmp 2) (.tmp 33) rfl (by rw [HPZ.out]; rfl) rfl rfl HBB2.out (by rw [HPZ.out]; rfl) (secA_one _) ?_; intro w12 hb12 hf12; have HB12 := Lib.hid hb12; have HF12 := Lib.hid hf12; clear hb12 hf12))
 exact bodyPost_ret (results_row2' rfl _ _ b2 _ _ rfl HB12.out Tryz.underlying68 rfl (by rw [HPZ.out]; rfl)) rfl ⟨rfl, (((HN6.out.tr HN9.out).fr HF10.out (fun k hk => by have h1 := own_lt HO.out _ hk; have := HWS.out; have := HZ.out; omega)).fr HF11.out (fun k hk => by have := HWS.out; have := HZ9.out; have := HN6.out.size; omega)).fr HF12.out (fun k hk => by have := HZ.out; omega)⟩
end Go.Proofs.YtfchcdbfalgdlaaGreatDoor
