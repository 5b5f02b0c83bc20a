/- Texts of one proof, one behind the other: Rwh, RcA, RcB, MapB. No condition but each one's own. -/
import Derived.Test.YtdojmjglnlkmoaaDoorRecordPlaysM9
import Derived.Lib.SlBytesConst
import Derived.Test.YtdojmjglnlkmoaaDoorRecordPlaysM5
import Derived.Test.YtdojmjglnlkmoaaDoorRecordPlaysM1
import Derived.Lib.SlMapMerge
import Derived.Maps.RangeWalk
import Derived.Shelf.SlMaps.Clone
/- A result that is a row in a cell, and one more; a hash's zero. No condition. -/
namespace Go.Proofs.YtdojmjglnlkmoaaDoor
set_option linter.unusedVariables false
set_option linter.unusedSimpArgs false
set_option linter.constructorNameAsVariable false
open Go.RowKit Go.Sort

theorem results_row2h {fn : Func} {p q : Tmp} {ty : TypeId} {P : Program} (h : fn.results = #[.cell p ty, .tmp q]) (tmps : Array Value) (w : World) (g : Nat) (cs : Array Value) (d : TypeDesc)
    (hp : tmps.getD p undef = .pointer (some ⟨g, 0, none⟩)) (hg : Blk w g ty cs) (hu : P.underlying ty = some d) (hd : d.isRow = true) (hi : (P.info? ty).map (·.size) = some cs.size) :
    (results fn tmps).run P w = .ok (.tuple #[.agg cs, tmps.getD q undef]) w := by
  have hp' : tmps[p]?.getD undef = .pointer (some ⟨g, 0, none⟩) := by simpa using hp
  simp [results, h, hp', asAddr, run_loadVar_row w g ty ty cs (0, 0) _ hg hu (by cases d <;> first | rfl | (simp [TypeDesc.isRow] at hd)) hi]
theorem hashInfoR : (Tryd.prog.info? 43).map (fun i => (i.zero, i.size)) = some (some (.agg (secA (List.replicate 32 0))), 32) := by kernel_rfl
end Go.Proofs.YtdojmjglnlkmoaaDoor
/- A record's bytes, made. sha's tables are as they were laid. No condition else. -/
namespace Go.Proofs.YtdojmjglnlkmoaaDoor
set_option linter.unusedVariables false
set_option linter.unusedSimpArgs false
set_option linter.constructorNameAsVariable false
open Go.RowKit Go.Sort

theorem rd_cells {w : World} {g T : Nat} {fz : Nat × Nat} {cs : Array Value} {xs : List Value} {n : Nat} (h : w.heap[g]? = some (.cells cs T fz)) (hx : cs.toList = xs) (hn : xs.length = n) : Rd (fun _ => True) w 1 (some ⟨g, 0, none⟩) n xs := by
  subst hx
  refine ⟨by omega, fun _ => ⟨_, rfl, trivial, (Array.getElem?_eq_some_iff.1 h).1, fun j u hu => ?_⟩⟩
  rw [add_own]
  simpa [World.cell?, h] using hu
set_option maxHeartbeats 3000000 in
set_option maxRecDepth 100000 in
theorem put_any (n : Nat) (r : Rc) (w : World) (hL : ShaIn 3 2 w) (hr : r.Ok) (hn : n < 18446744073709551616) :
    Calls Tryd.prog 36 #[.int .u64 n, .agg r.cells] w fun e w' => e = .returned (.tuple #[.agg (secA (putL n r)), .nilIface]) ∧ New w w' := by
  have HL := Lib.hid hL
  have HR := Lib.hid hr
  have HNN : Hid (n < 256 ^ 8) := Lib.hid (by omega)
  obtain ⟨RC, hRC⟩ : ∃ RC, RC = r.cells := ⟨_, rfl⟩
  have HRC := Lib.hid hRC
  rw [← hRC]
  have HSZ : Hid (RC.size = 37) := Lib.hid (by rw [hRC, Rc.size hr.len])
  clear hL hr hn hRC
  go_enter Tryd.func36, Tryd.ntmps36
  go_upto_region 2 with fail
  obtain ⟨w1, hw1⟩ : ∃ w1 : World, w1 = ((w.alloc (.cells RC 48)).alloc (.cells Tryd.zeroCells100 100)).alloc (.cells #[.nilIface, .slice none 0 0] 126) := ⟨_, rfl⟩
  obtain ⟨b3, hb3⟩ : ∃ b3, b3 = w.heap.size := ⟨_, rfl⟩
  obtain ⟨b4, hb4⟩ : ∃ b4, b4 = w.heap.size + 1 := ⟨_, rfl⟩
  obtain ⟨g, hg⟩ : ∃ g, g = w.heap.size + 1 + 1 := ⟨_, rfl⟩
  have hz : (Tryd.zeroCells100 : Array Value) = secA (List.replicate 128 0) := by kernel_rfl
  have HN1 : Hid (New w w1) := Lib.hid (by rw [hw1]; exact New.al (New.al (New.al (New.refl _) _) _) _)
  have HB3 : Hid (Blk w1 b3 48 r.cells) := Lib.hid (by rw [hw1, hb3, HRC.out]; exact ((Blk.new _ _ _).alloc _).alloc _)
  have HB4 : Hid (Blk w1 b4 100 (secA (List.replicate 128 0))) := Lib.hid (by rw [hw1, hb4, ← hz]; exact (Blk.new' _ _ _ (by simp)).alloc _)
  have HW1 : Hid (WrIn w1 g g []) := Lib.hid ⟨⟨none, 0, by rw [hw1, hg]; exact Blk.new' _ _ _ (by simp), World.ownsRow_nil _ _ _ _⟩, Nat.le_refl _, fun x hx => nomatch hx⟩
  have HZ : Hid (b3 = w.heap.size ∧ b4 = w.heap.size + 1 ∧ g = w.heap.size + 2) := Lib.hid ⟨hb3, hb4, hg⟩
  rw [← hw1, ← hg, ← hb4, ← hb3]
  clear hw1 hb3 hb4 hg hz
  refine wp_region_mixH (fun w' => Blk w' b3 48 r.cells) [(true, 0), (true, 1), (true, 3), (true, 4), (true, 6), (true, 7), (true, 9), (true, 10), (true, 12), (true, 13), (false, 2), (false, 5), (false, 8), (false, 11), (false, 14)] (by kernel_rfl) (by kernel_rfl) ((New.dr (New.refl w1)).blk HB3.out) (fun hne => ?_)
  have q1 : ∀ p : HW (fun w' => Blk w' b3 48 r.cells), p.w.cell? ⟨b3, 32, none⟩ = some (.int .u64 r.blocks) := fun p => by rw [Blk.cell p.h]; exact Rc.at HR.out.len 0
  have q2 : ∀ p : HW (fun w' => Blk w' b3 48 r.cells), p.w.cell? ⟨b3, 33, none⟩ = some (.int .u64 r.epoch) := fun p => by rw [Blk.cell p.h]; exact Rc.at HR.out.len 1
  have q3 : ∀ p : HW (fun w' => Blk w' b3 48 r.cells), p.w.cell? ⟨b3, 34, none⟩ = some (.int .u64 r.since) := fun p => by rw [Blk.cell p.h]; exact Rc.at HR.out.len 2
  iterate 3 (refine mix_take (o := ⟨_, _, _, _, _, _⟩) rfl (fun K hK => ?_); go_simp; refine hK _ ?_; clear hK K)
  refine mix_take_row (o := ⟨_, _, _, _, _, _⟩) (cs := u8s r.root) rfl rfl _ rfl rfl (fun w' h => Rc.rootRange h) Tryd.underlying43 rfl (by rw [u8s_len, HR.out.len]; rfl) ?_
  iterate 6 (refine mix_take (o := ⟨_, _, _, _, _, _⟩) rfl (fun K hK => ?_); go_simp; refine hK _ ?_; clear hK K)
  clear q1 q2 q3
  refine mix_act (o := ⟨_, _, _, _, _, _⟩) rfl (fun K hK => ?_) (.inl rfl)
  go_simp
  refine (wnum_any (w := w1.drew) (HW1.out.new (New.dr (New.refl w1))) n 8 (by omega) HNN.out (by simp)).mono ?_
  rintro e wa ⟨rfl, hW, hF⟩
  have HWwa := Lib.hid hW
  have HFwa : Hid (FW g g w1 wa) := Lib.hid ((FW.new (New.dr (New.refl w1))).tr hF)
  have HB3wa : Hid (Blk wa b3 48 r.cells) := Lib.hid (HFwa.out.blk HB3.out (by decide) (by have := HZ.out; omega))
  clear hW hF
  go_simp
  refine hK.out _ _ (fun _ => HB3wa.out) ?_
  clear hK K
  refine mix_act (o := ⟨_, _, _, _, _, _⟩) rfl (fun K hK => ?_) (.inl rfl)
  go_simp
  refine (whash_any HWwa.out r.root HR.out.len HR.out.byt (by simp [beL_len])).mono ?_
  rintro e wb ⟨rfl, hW, hF⟩
  have HWwb := Lib.hid hW
  have HFwb : Hid (FW g g w1 wb) := Lib.hid (HFwa.out.tr hF)
  have HB3wb : Hid (Blk wb b3 48 r.cells) := Lib.hid (HFwb.out.blk HB3.out (by decide) (by have := HZ.out; omega))
  clear hW hF
  go_simp
  refine hK.out _ _ (fun _ => HB3wb.out) ?_
  clear hK K
  refine mix_act (o := ⟨_, _, _, _, _, _⟩) rfl (fun K hK => ?_) (.inl rfl)
  go_simp
  refine (wnum_any HWwb.out r.blocks 8 (by omega) (by have := HR.out.blocks; omega) (by simp [beL_len, HR.out.len])).mono ?_
  rintro e wc ⟨rfl, hW, hF⟩
  have HWwc := Lib.hid hW
  have HFwc : Hid (FW g g w1 wc) := Lib.hid (HFwb.out.tr hF)
  have HB3wc : Hid (Blk wc b3 48 r.cells) := Lib.hid (HFwc.out.blk HB3.out (by decide) (by have := HZ.out; omega))
  clear hW hF
  go_simp
  refine hK.out _ _ (fun _ => HB3wc.out) ?_
  clear hK K
  refine mix_act (o := ⟨_, _, _, _, _, _⟩) rfl (fun K hK => ?_) (.inl rfl)
  go_simp
  refine (wnum_any HWwc.out r.epoch 8 (by omega) (by have := HR.out.epoch; omega) (by simp [beL_len, HR.out.len])).mono ?_
  rintro e wd ⟨rfl, hW, hF⟩
  have HWwd := Lib.hid hW
  have HFwd : Hid (FW g g w1 wd) := Lib.hid (HFwc.out.tr hF)
  have HB3wd : Hid (Blk wd b3 48 r.cells) := Lib.hid (HFwd.out.blk HB3.out (by decide) (by have := HZ.out; omega))
  clear hW hF
  go_simp
  refine hK.out _ _ (fun _ => HB3wd.out) ?_
  clear hK K
  refine mix_act (o := ⟨_, _, _, _, _, _⟩) rfl (fun K hK => ?_) (.inl rfl)
  go_simp
  refine (wnum_any HWwd.out r.since 8 (by omega) (by have := HR.out.since; omega) (by simp [beL_len, HR.out.len])).mono ?_
  rintro e we ⟨rfl, hW, hF⟩
  have HWwe := Lib.hid hW
  have HFwe : Hid (FW g g w1 we) := Lib.hid (HFwd.out.tr hF)
  have HB3we : Hid (Blk we b3 48 r.cells) := Lib.hid (HFwe.out.blk HB3.out (by decide) (by have := HZ.out; omega))
  clear hW hF
  go_simp
  refine hK.out _ _ (fun _ => HB3we.out) ?_
  clear hK K
  refine mix_done ?_
  clear HWwa HWwb HWwc HWwd HFwa HFwb HFwc HFwd HB3wa HB3wb HB3wc HB3wd
  go_upto_region 3 with fail
  refine wp_region_mixH (fun w' => Blk w' b3 48 r.cells) [(true, 0), (true, 1), (true, 3), (true, 4), (true, 6), (true, 7), (false, 2), (false, 5), (false, 8), (false, 9), (true, 10), (true, 11), (true, 12), (true, 13), (true, 14)] (by kernel_rfl) (by kernel_rfl) ((New.dr (New.refl we)).blk HB3we.out) (fun hne => ?_)
  have q1 : ∀ p : HW (fun w' => Blk w' b3 48 r.cells), p.w.cell? ⟨b3, 35, none⟩ = some (.int .u64 r.limit) := fun p => by rw [Blk.cell p.h]; exact Rc.at HR.out.len 3
  have q2 : ∀ p : HW (fun w' => Blk w' b3 48 r.cells), p.w.cell? ⟨b3, 36, none⟩ = some (.int .u64 r.session) := fun p => by rw [Blk.cell p.h]; exact Rc.at HR.out.len 4
  iterate 6 (refine mix_take (o := ⟨_, _, _, _, _, _⟩) rfl (fun K hK => ?_); go_simp; refine hK _ ?_; clear hK K)
  clear q1 q2
  refine mix_act (o := ⟨_, _, _, _, _, _⟩) rfl (fun K hK => ?_) (.inl rfl)
  go_simp
  refine (wnum_any (w := we.drew) (HWwe.out.new (New.dr (New.refl we))) n 8 (by omega) HNN.out (by simp [beL_len, HR.out.len])).mono ?_
  rintro e wf ⟨rfl, hW, hF⟩
  have HWwf := Lib.hid hW
  have HFwf : Hid (FW g g w1 wf) := Lib.hid (HFwe.out.tr ((FW.new (New.dr (New.refl we))).tr hF))
  have HB3wf : Hid (Blk wf b3 48 r.cells) := Lib.hid (HFwf.out.blk HB3.out (by decide) (by have := HZ.out; omega))
  clear hW hF
  go_simp
  refine hK.out _ _ (fun _ => HB3wf.out) ?_
  clear hK K
  refine mix_act (o := ⟨_, _, _, _, _, _⟩) rfl (fun K hK => ?_) (.inl rfl)
  go_simp
  refine (wnum_any HWwf.out r.limit 8 (by omega) (by have := HR.out.limit; omega) (by simp [beL_len, HR.out.len])).mono ?_
  rintro e wg ⟨rfl, hW, hF⟩
  have HWwg := Lib.hid hW
  have HFwg : Hid (FW g g w1 wg) := Lib.hid (HFwf.out.tr hF)
  have HB3wg : Hid (Blk wg b3 48 r.cells) := Lib.hid (HFwg.out.blk HB3.out (by decide) (by have := HZ.out; omega))
  clear hW hF
  go_simp
  refine hK.out _ _ (fun _ => HB3wg.out) ?_
  clear hK K
  refine mix_act (o := ⟨_, _, _, _, _, _⟩) rfl (fun K hK => ?_) (.inl rfl)
  go_simp
  refine (wnum_any HWwg.out r.session 8 (by omega) (by have := HR.out.session; omega) (by simp [beL_len, HR.out.len])).mono ?_
  rintro e wh ⟨rfl, hW, hF⟩
  have HWwh := Lib.hid hW
  have HFwh : Hid (FW g g w1 wh) := Lib.hid (HFwg.out.tr hF)
  have HB3wh : Hid (Blk wh b3 48 r.cells) := Lib.hid (HFwh.out.blk HB3.out (by decide) (by have := HZ.out; omega))
  clear hW hF
  go_simp
  refine hK.out _ _ (fun _ => HB3wh.out) ?_
  clear hK K
  have HWx : Hid (WrIn wh g g (fstL n r ++ sndL n r)) := Lib.hid (by
    have e : [] ++ beL 8 n ++ r.root ++ beL 8 r.blocks ++ beL 8 r.epoch ++ beL 8 r.since ++ beL 8 n ++ beL 8 r.limit ++ beL 8 r.session = fstL n r ++ sndL n r := by simp [fstL, sndL]
    rw [← e]
    exact HWwh.out)
  have HX88 : Hid ((fstL n r ++ sndL n r).length = 88) := Lib.hid (by rw [List.length_append, fstL_len HR.out.len, sndL_len])
  have HXB : Hid (Byt (fstL n r ++ sndL n r)) := Lib.hid (fun x hx => (List.mem_append.1 hx).elim (fstL_byt HR.out.byt x) (sndL_byt n r x))
  obtain ⟨X, hX⟩ : ∃ X, X = fstL n r ++ sndL n r := ⟨_, rfl⟩
  have HX := Lib.hid hX
  rw [← hX] at HWx HX88 HXB
  clear hX HWwe HWwf HWwg HFwe HFwf HFwg HB3we HB3wf HB3wg HWwh
  refine mix_act (o := ⟨_, _, _, _, _, _⟩) rfl (fun K hK => ?_) (.inl rfl)
  go_simp
  refine (wdone_any HWx.out (by rw [HX88.out]; omega)).mono ?_
  rintro e w6 ⟨⟨B, d, rfl, hO⟩, hN6⟩
  rw [HX88.out] at hO ⊢
  have HO := Lib.hid hO
  have HF6 : Hid (FW g g w1 w6) := Lib.hid (HFwh.out.tr (FW.new hN6))
  have HWS : Hid (wh.heap.size ≤ w6.heap.size ∧ b4 < wh.heap.size ∧ w.heap.size ≤ wh.heap.size) := Lib.hid (by have h1 := hN6.size; have h2 := HWx.out.lt; have := HZ.out; exact ⟨h1, by omega, by omega⟩)
  have HB36 : Hid (Blk w6 b3 48 r.cells) := Lib.hid (hN6.blk HB3wh.out)
  have HB46 : Hid (Blk w6 b4 100 (secA (List.replicate 128 0))) := Lib.hid (HF6.out.blk HB4.out (by decide) (by have := HZ.out; omega))
  have HN6 : Hid (New w w6) := Lib.hid (HN1.out.fr HF6.out (fun k hk => by
    have := HZ.out
    rcases hk with rfl | hk
    · omega
    · have := hk.1; omega))
  clear hO hN6 HB4
  go_simp
  refine hK.out _ _ (fun _ => HB36.out) ?_
  clear hK K HWx HFwh HB3wh HB3 HN1 HW1
  iterate 5 (refine mix_take (o := ⟨_, _, _, _, _, _⟩) rfl (fun K hK => ?_); go_simp; refine hK _ ?_; clear hK K)
  refine mix_done ?_
  go_upto_region 6 with fail
  have kc := fun (w : World) (C : Array Value) (n c : Nat) => Lib.run_convert_bytes_const (P := Tryd.prog) w 96 5 C n c Tryd.underlying96 Tryd.underlying5
  go_wp2_with fail
  clear kc
  obtain ⟨w7, hw7⟩ : ∃ w7 : World, w7 = (w6.alloc (.cells #[.int .u8 101, .int .u8 110, .int .u8 116, .int .u8 114, .int .u8 117, .int .u8 115, .int .u8 116, .int .u8 32, .int .u8 114, .int .u8 101, .int .u8 99, .int .u8 111, .int .u8 114, .int .u8 100] 5 (14, 15))).alloc (.cells #[.slice (some ⟨w6.heap.size, 0, none⟩) 14 14, .slice B 88 d] 96) := ⟨_, rfl⟩
  obtain ⟨bp, hbp⟩ : ∃ bp, bp = w6.heap.size + 1 := ⟨_, rfl⟩
  have HN7 : Hid (New w6 w7) := Lib.hid (by rw [hw7]; exact New.al (New.al (New.refl _) _) _)
  have HP : Hid (Parts w7 bp 0 [wordL, X]) := Lib.hid ⟨fun i l hl => by
    have hB : Blk w7 bp 96 #[.slice (some ⟨w6.heap.size, 0, none⟩) 14 14, .slice B 88 d] := by rw [hw7, hbp]; exact Blk.new' _ _ _ (by simp)
    have hG : w7.heap[w6.heap.size]? = some (.cells #[.int .u8 101, .int .u8 110, .int .u8 116, .int .u8 114, .int .u8 117, .int .u8 115, .int .u8 116, .int .u8 32, .int .u8 114, .int .u8 101, .int .u8 99, .int .u8 111, .int .u8 114, .int .u8 100] 5 (14, 15)) := by rw [hw7]; exact (Below.heap_alloc _ _ _ (by simp)).trans (World.alloc_heap_new w6 _)
    match i, hl with
    | 0, hl =>
      obtain rfl : wordL = l := by simpa using hl
      exact ⟨wordL_byt, some ⟨w6.heap.size, 0, none⟩, 14, hB.cell 0, rd_cells hG rfl rfl⟩
    | 1, hl =>
      obtain rfl : X = l := by simpa using hl
      refine ⟨HXB.out, B, d, ?_, ?_⟩
      · rw [HX88.out]; exact hB.cell 1
      · rw [HX88.out]; exact HN7.out.rd ((Rd.own HO.out rfl).imp (fun _ _ => trivial))
    | (i + 2), hl => simp at hl⟩
  rw [← hw7, ← hbp]
  clear hw7 hbp
  have hfl : ([wordL, X].flatten).length = 102 := by
    have := HX88.out
    simp [wordL]
    omega
  refine (of_any bp 0 2 [wordL, X] 2 rfl w7 ((HL.out.new HN6.out).new HN7.out) (by simp) HP.out (by simp) (by omega) (by simp)).mono ?_
  rintro e w8 ⟨rfl, hN8⟩
  have HTL : Hid (recH n r = (hsh [wordL, X].flatten).take 16) := Lib.hid (by rw [HX.out]; simp [recH])
  obtain ⟨HS, hHS⟩ : ∃ HS, HS = hsh [wordL, X].flatten := ⟨_, rfl⟩
  rw [← hHS] at HTL ⊢
  have hl32 : HS.length = 32 := by rw [hHS]; exact hsh_len _
  have HS32 := Lib.hid hl32
  have HN8 : Hid (New w6 w8) := Lib.hid (HN7.out.tr hN8)
  have hsz3 : (secA HS).size = 32 := by rw [secA_size, hl32]
  have HZ3 := Lib.hid hsz3
  clear hN8 hHS hfl hl32 hsz3
  go_upto_region 7 with ((with_reducible refine atOp ⟨some 9, .alloc _, _, _, _, _⟩ ?_); refine wpList_newvar (s := HS) rfl rfl rfl _ _ rfl hashInfoR rfl rfl rfl HS32.out ?_)
  go_upto_region 8 with fail
  obtain ⟨w9, hw9⟩ : ∃ w9 : World, w9 = (w8.alloc (.cells (secA HS) 43)).alloc (.cells Tryd.zeroCells100 100) := ⟨_, rfl⟩
  obtain ⟨b9, hb9⟩ : ∃ b9, b9 = w8.heap.size := ⟨_, rfl⟩
  obtain ⟨b10, hb10⟩ : ∃ b10, b10 = w8.heap.size + 1 := ⟨_, rfl⟩
  have hz : (Tryd.zeroCells100 : Array Value) = (u8s (List.replicate 128 0)).toArray := by kernel_rfl
  have HB9 : Hid (Blk w9 b9 43 (secA HS)) := Lib.hid (by rw [hw9, hb9]; exact (Blk.new _ _ _).alloc _)
  have HB10 : Hid (Blk w9 b10 100 (u8s (List.replicate 128 0)).toArray) := Lib.hid (by rw [hw9, hb10, ← hz]; exact Blk.new' _ _ _ (by simp))
  have HN9 : Hid (New w6 w9) := Lib.hid (HN8.out.tr (by rw [hw9]; exact New.al (New.al (New.refl _) _) _))
  have HO9 : Hid (w9.ownsRow wh.heap.size 5 1 (.slice B 88 d) 88 (u8s X)) := Lib.hid (HN9.out.own HO.out)
  have HZ9 : Hid (b9 = w8.heap.size ∧ b10 = w8.heap.size + 1 ∧ w9.heap.size = w8.heap.size + 2) := Lib.hid ⟨hb9, hb10, by rw [hw9]; simp⟩
  have HWH : Hid (wh.heap.size ≤ w6.heap.size ∧ w6.heap.size ≤ w8.heap.size ∧ b4 < wh.heap.size ∧ w.heap.size ≤ wh.heap.size) := Lib.hid ⟨HWS.out.1, HN8.out.size, HWS.out.2.1, HWS.out.2.2⟩
  have HB49 : Hid (Blk w9 b4 100 (secA (List.replicate 128 0))) := Lib.hid (HN9.out.blk HB46.out)
  have HR16 : Hid (Rd (fun _ => True) w9 1 (some ⟨b9, 0, none⟩) 16 (u8s (HS.take 16))) := Lib.hid (by
    have h := Rd.ofBlk (p := fun _ => True) HB9.out 1 32 (by rw [secA_size, HS32.out]) trivial
    rw [secA_list] at h
    exact Rd.take h (by omega))
  have H16 : Hid ((HS.take 16).length = 16) := Lib.hid (by rw [List.length_take, HS32.out]; rfl)
  rw [← hw9, ← hb10, ← hb9]
  clear hw9 hb9 hb10 hz
  have HB4B : Hid ((Value.slice B 88 d).ownBlock ≠ some b4 ∧ (Value.slice B 88 d).ownBlock ≠ some b10) := Lib.hid ⟨fun h => by have h1 := own_lt HO.out _ h; have := HWH.out; omega, fun h => by have h1 := own_lt HO.out _ h; have := HWH.out; have := HZ9.out; omega⟩
  have HXL : Hid ((u8s (X ++ HS.take 16)).length = 104) := Lib.hid (by rw [u8s_len, List.length_append, HX88.out, H16.out])
  have HSP : Hid ((splice (u8s (List.replicate 128 0)) 0 (u8s (X ++ HS.take 16))).toArray = secA (putL n r)) := Lib.hid (by
    have e : u8s (List.replicate 128 0) = List.replicate 128 (Value.int .u8 0) := by unfold u8s; rw [List.map_replicate]
    have e2 : u8s (List.replicate 24 0) = List.replicate 24 (Value.int .u8 0) := by unfold u8s; rw [List.map_replicate]
    unfold splice secA putL
    rw [List.take_zero, List.nil_append, Nat.zero_add, HXL.out, e, List.drop_replicate, HX.out, ← HTL.out]
    simp only [u8s, List.map_append] at e2 ⊢
    rw [e2])
  have HPZ : Hid ((secA (putL n r)).size = 128) := Lib.hid (by rw [secA_size, putL_len HR.out.len])
  refine wp_region_mixH (fun _ => True) [(true, 0), (true, 1), (true, 2), (false, 3), (false, 4)] (by kernel_rfl) (by kernel_rfl) trivial (fun hne => ?_)
  iterate 3 (refine mix_take (o := ⟨_, _, _, _, _, _⟩) rfl (fun K hK => ?_); go_simp; refine hK _ ?_; clear hK K)
  refine mix_app (o := ⟨_, _, _, _, _, _⟩) elB w9.drew rfl rfl (.tmp 51) (.tmp 52) rfl wh.heap.size (.slice B 88 d) 88 (u8s X) rfl ((New.dr (New.refl w9)).own HO9.out) (some ⟨b9, 0, none⟩) 16 _ (u8s (HS.take 16)) rfl ((New.dr (New.refl w9)).rd HR16.out) (u8s_one _) (by unfold maxLen; omega) (by omega) (by show _ ≤ w9.heap.size; have := HWH.out; have := HZ9.out; omega) ?_
  intro A1 d1 w10 hO10 hF10 hA10
  have hf10 := Fr.ofDrew hF10
  have HOA : Hid (w10.ownsRow wh.heap.size 5 1 (.slice A1 104 d1) 104 (u8s (X ++ HS.take 16))) := Lib.hid (by unfold u8s; rw [List.map_append]; exact hO10)
  have HBA4 : Hid (Blk w10 b4 100 (secA (List.replicate 128 0))) := Lib.hid (HB49.out.fr hf10 (fun h => HB4B.out.1 h))
  have HBA10 : Hid (Blk w10 b10 100 (u8s (List.replicate 128 0)).toArray) := Lib.hid (HB10.out.fr hf10 (fun h => HB4B.out.2 h))
  have HF10 := Lib.hid hf10
  clear hO10 hF10 hA10 hf10
  refine ⟨fun _ => trivial, ?_⟩
  refine mix_copyF (o := ⟨_, _, _, _, _, _⟩) (q := fun k => (Value.slice A1 104 d1).ownBlock = some k) rfl rfl (.tmp 50) (.tmp 53) 96 96 rfl 5 Tryd.underlying96 rfl b10 0 128 128 A1 104 d1 rfl rfl (u8s (List.replicate 128 0)) 100 HBA10.out (u8s (X ++ HS.take 16)) (by rw [HXL.out]; rfl) ⟨104, u8s (X ++ HS.take 16), Rd.own HOA.out rfl, List.take_length⟩ (by rw [HXL.out, u8s_len, List.length_replicate]; decide) (u8s_one _) ?_
  intro w11 hb11 hf11
  rw [HSP.out] at hb11
  have HB11 : Hid (Blk w11 b10 100 (secA (putL n r))) := Lib.hid hb11
  have HF11 := Lib.hid hf11
  have HBB4 : Hid (Blk w11 b4 100 (secA (List.replicate 128 0))) := Lib.hid (HBA4.out.fr hf11 (by have := HWH.out; have := HZ9.out; omega))
  clear hb11 hf11
  refine ⟨fun _ => trivial, ?_⟩
  refine mix_done ?_
  go_wp2_with (first
    | ((with_reducible refine atOp ⟨some 55, .load _ _, _, _, _, _⟩ ?_); refine wpList_load_any rfl _ rfl Tryd.underlying100 rfl (by rw [HPZ.out]; rfl) rfl HB11.out ?_)
    | ((with_reducible refine atOp ⟨none, .store 100 (.tmp 4) _, _, _, _, _⟩ ?_); refine wpList_store_any rfl (.tmp 4) (.tmp 55) rfl (by rw [HPZ.out]; rfl) rfl rfl HBB4.out (by rw [HPZ.out, secA_size, List.length_replicate]) (secA_one _) ?_; intro w12 hb12 hf12; have HB12 := Lib.hid hb12; have HF12 := Lib.hid hf12; clear hb12 hf12))
  exact bodyPost_ret (results_row2h rfl _ _ b4 _ _ rfl HB12.out Tryd.underlying100 rfl (by rw [HPZ.out]; rfl)) rfl ⟨rfl, (((HN6.out.tr HN9.out).fr HF10.out (fun k hk => by have h1 := own_lt HO.out _ hk; have := HWH.out; omega)).fr HF11.out (fun k hk => by have := HWH.out; have := HZ9.out; have := HN6.out.size; omega)).fr HF12.out (fun k hk => by have := HZ.out; omega)⟩
end Go.Proofs.YtdojmjglnlkmoaaDoor
/- Is a record right? Both answers. No condition. -/
namespace Go.Proofs.YtdojmjglnlkmoaaDoor
set_option linter.unusedVariables false
set_option linter.unusedSimpArgs false
set_option linter.constructorNameAsVariable false
open Go.RowKit Go.Sort

theorem wpList_lss {P : Program} {ops : Array Oper} {rest : List Oper} {o : Oper} {a : Act} {w : World} {Q : Exit → Act → World → Prop} (hw : Region.wanted o (yielded ops a.tmps) = true) (T T2 : TypeId) (x c : Operand) (hop : o.op = .binOp .lss T x c T2) (k : IntKind) (X C : Int) (hx : a.eval x = .int k X) (hc : a.eval c = .int k C) (b : Bool) (hb : decide (X < C) = b)
    (h : wpList P ops Q rest (a.put o.dst (.bool b)) w) : wpList P ops Q (o :: rest) a w :=
  wpList_want hw fun K hK => by
    subst hb
    have hr : (execOp a.eval o).run P w = .ok (.value (.bool (decide (X < C)))) w := by
      unfold execOp
      simp only [hop, hx, hc, binOp_lss]
      simp [eqGuard, go_sem, Result.andThen]
    unfold Oper.wp
    rw [hr]
    exact hK _ _ h
set_option maxHeartbeats 2000000 in
set_option maxRecDepth 100000 in
theorem right_any (r : Rc) (w : World) (hr : r.Ok) : Calls Tryd.prog 23 #[.agg r.cells] w fun e w' => e = .returned (.bool (decide r.Right)) ∧ New w w' := by
  have HRI : Hid (decide r.Right = true ↔ 1 ≤ r.blocks ∧ r.blocks ≤ 4294967296 ∧ 1 ≤ r.since ∧ r.since ≤ r.limit ∧ r.epoch < r.limit) := Lib.hid ⟨fun h => by have h := of_decide_eq_true h; exact ⟨h.1, h.2, h.3, h.4, h.5⟩, fun ⟨a, b, c, d, e⟩ => decide_eq_true ⟨a, b, c, d, e⟩⟩
  obtain ⟨bb, hbb⟩ : ∃ bb, bb = decide r.Right := ⟨_, rfl⟩
  rw [← hbb] at HRI ⊢
  have K1 : Hid (r.cells[32]? = some (.int .u64 r.blocks)) := Lib.hid (Rc.at hr.len 0)
  have K2 : Hid (r.cells[33]? = some (.int .u64 r.epoch)) := Lib.hid (Rc.at hr.len 1)
  have K3 : Hid (r.cells[34]? = some (.int .u64 r.since)) := Lib.hid (Rc.at hr.len 2)
  have K4 : Hid (r.cells[35]? = some (.int .u64 r.limit)) := Lib.hid (Rc.at hr.len 3)
  obtain ⟨RC, hRC⟩ : ∃ RC, RC = r.cells := ⟨_, rfl⟩
  rw [← hRC] at K1 K2 K3 K4 ⊢
  obtain ⟨bl, hbl⟩ : ∃ x, x = r.blocks := ⟨_, rfl⟩
  obtain ⟨ep, hep⟩ : ∃ x, x = r.epoch := ⟨_, rfl⟩
  obtain ⟨si, hsi⟩ : ∃ x, x = r.since := ⟨_, rfl⟩
  obtain ⟨li, hli⟩ : ∃ x, x = r.limit := ⟨_, rfl⟩
  rw [← hbl] at K1 HRI
  rw [← hep] at K2 HRI
  rw [← hsi] at K3 HRI
  rw [← hli] at K4 HRI
  clear hr hRC hbl hep hsi hli hbb
  go_enter Tryd.func23, Tryd.ntmps23
  go_upto_region 1 with fail
  obtain ⟨w1, hw1⟩ : ∃ w1 : World, w1 = w.alloc (.cells RC 48) := ⟨_, rfl⟩
  obtain ⟨b3, hb3⟩ : ∃ b3, b3 = w.heap.size := ⟨_, rfl⟩
  have HN1 : Hid (New w w1) := Lib.hid (by rw [hw1]; exact New.al (New.refl _) _)
  have HB3 : Hid (Blk w1 b3 48 RC) := Lib.hid (by rw [hw1, hb3]; exact Blk.new _ _ _)
  rw [← hw1, ← hb3]
  clear hw1 hb3
  have c1 : w1.cell? ⟨b3, 32, none⟩ = some (.int .u64 bl) := by rw [HB3.out.cell]; exact K1.out
  have c2 : w1.cell? ⟨b3, 33, none⟩ = some (.int .u64 ep) := by rw [HB3.out.cell]; exact K2.out
  have c3 : w1.cell? ⟨b3, 34, none⟩ = some (.int .u64 si) := by rw [HB3.out.cell]; exact K3.out
  have c4 : w1.cell? ⟨b3, 35, none⟩ = some (.int .u64 li) := by rw [HB3.out.cell]; exact K4.out
  go_wp2_with fail
  all_goals
    go_ret
    refine ⟨?_, HN1.out⟩
    have hri := HRI.out
    show Ending.returned (.bool _) = _
    rcases bb with _ | _
    all_goals
      simp at hri ⊢
      try omega
set_option maxHeartbeats 2000000 in
set_option maxRecDepth 100000 in
theorem rright_any (r : Rc) (w : World) (hr : r.Ok) : Calls Tryd.prog 26 #[.agg r.cells] w fun e w' => e = .returned (.bool (decide r.Right)) ∧ New w w' := by
  have HRI : Hid (decide r.Right = true ↔ 1 ≤ r.blocks ∧ r.blocks ≤ 4294967296 ∧ 1 ≤ r.since ∧ r.since ≤ r.limit ∧ r.epoch < r.limit) := Lib.hid ⟨fun h => by have h := of_decide_eq_true h; exact ⟨h.1, h.2, h.3, h.4, h.5⟩, fun ⟨a, b, c, d, e⟩ => decide_eq_true ⟨a, b, c, d, e⟩⟩
  obtain ⟨bb, hbb⟩ : ∃ bb, bb = decide r.Right := ⟨_, rfl⟩
  rw [← hbb] at HRI ⊢
  have K1 : Hid (r.cells[32]? = some (.int .u64 r.blocks)) := Lib.hid (Rc.at hr.len 0)
  have K2 : Hid (r.cells[33]? = some (.int .u64 r.epoch)) := Lib.hid (Rc.at hr.len 1)
  have K3 : Hid (r.cells[34]? = some (.int .u64 r.since)) := Lib.hid (Rc.at hr.len 2)
  have K4 : Hid (r.cells[35]? = some (.int .u64 r.limit)) := Lib.hid (Rc.at hr.len 3)
  obtain ⟨RC, hRC⟩ : ∃ RC, RC = r.cells := ⟨_, rfl⟩
  rw [← hRC] at K1 K2 K3 K4 ⊢
  obtain ⟨bl, hbl⟩ : ∃ x, x = r.blocks := ⟨_, rfl⟩
  obtain ⟨ep, hep⟩ : ∃ x, x = r.epoch := ⟨_, rfl⟩
  obtain ⟨si, hsi⟩ : ∃ x, x = r.since := ⟨_, rfl⟩
  obtain ⟨li, hli⟩ : ∃ x, x = r.limit := ⟨_, rfl⟩
  rw [← hbl] at K1 HRI
  rw [← hep] at K2 HRI
  rw [← hsi] at K3 HRI
  rw [← hli] at K4 HRI
  clear hr hRC hbl hep hsi hli hbb
  go_enter Tryd.func26, Tryd.ntmps26
  go_upto_region 1 with fail
  obtain ⟨w1, hw1⟩ : ∃ w1 : World, w1 = w.alloc (.cells RC 45) := ⟨_, rfl⟩
  obtain ⟨b3, hb3⟩ : ∃ b3, b3 = w.heap.size := ⟨_, rfl⟩
  have HN1 : Hid (New w w1) := Lib.hid (by rw [hw1]; exact New.al (New.refl _) _)
  have HB3 : Hid (Blk w1 b3 45 RC) := Lib.hid (by rw [hw1, hb3]; exact Blk.new _ _ _)
  rw [← hw1, ← hb3]
  clear hw1 hb3
  have c1 : w1.cell? ⟨b3, 32, none⟩ = some (.int .u64 bl) := by rw [HB3.out.cell]; exact K1.out
  have c2 : w1.cell? ⟨b3, 33, none⟩ = some (.int .u64 ep) := by rw [HB3.out.cell]; exact K2.out
  have c3 : w1.cell? ⟨b3, 34, none⟩ = some (.int .u64 si) := by rw [HB3.out.cell]; exact K3.out
  have c4 : w1.cell? ⟨b3, 35, none⟩ = some (.int .u64 li) := by rw [HB3.out.cell]; exact K4.out
  by_cases h2 : bl < 4294967297
  · have d2 : decide ((bl : Int) < 4294967297) = true := decide_eq_true (by omega)
    have H2 := Lib.hid (And.intro h2 d2)
    clear h2 d2
    go_wp2_with ((with_reducible refine atOp ⟨some 9, _, _, _, _, _⟩ ?_); refine wpList_lss rfl _ _ _ _ rfl .u64 _ _ rfl rfl true H2.out.2 ?_)
    all_goals
      go_ret
      refine ⟨?_, HN1.out⟩
      have hri := HRI.out
      have h2 := H2.out.1
      show Ending.returned (.bool _) = _
      rcases bb with _ | _
      all_goals
        simp at hri ⊢
        try omega
  · have d2 : decide ((bl : Int) < 4294967297) = false := decide_eq_false (by omega)
    have H2 := Lib.hid (And.intro h2 d2)
    clear h2 d2
    go_wp2_with ((with_reducible refine atOp ⟨some 9, _, _, _, _, _⟩ ?_); refine wpList_lss rfl _ _ _ _ rfl .u64 _ _ rfl rfl false H2.out.2 ?_)
    all_goals
      go_ret
      refine ⟨?_, HN1.out⟩
      have hri := HRI.out
      have h2 := H2.out.1
      show Ending.returned (.bool _) = _
      rcases bb with _ | _
      all_goals
        simp at hri ⊢
        try omega
end Go.Proofs.YtdojmjglnlkmoaaDoor
/- Maps that a call makes, more of them: cleared, cloned, laid into another one; how many entries there can be. No condition. -/
namespace Go.Proofs.YtdojmjglnlkmoaaDoor
set_option linter.unusedVariables false
set_option linter.unusedSimpArgs false
set_option linter.constructorNameAsVariable false
open Go.RowKit Go.Maps
open Go.WideElems (Fit rg)

/-- f, but where h says something, that. -/
def orF (h f : Lit → Option Value) : Lit → Option Value := fun x => match h x with | some v => some v | none => f x

theorem nodup_lt {l : List Nat} : ∀ {m : Nat}, l.Nodup → (∀ x ∈ l, x < m) → l.length ≤ m := by
  intro m
  induction m generalizing l with
  | zero => intro _ h; cases l with
    | nil => simp
    | cons x l => exact absurd (h x (by simp)) (by omega)
  | succ m ih =>
    intro hn h
    have := ih (l := l.erase m) (hn.erase _) (fun x hx => by
      have h1 := h x (List.mem_of_mem_erase hx)
      have h2 : x ≠ m := fun e => by subst e; exact (List.Nodup.not_mem_erase hn) hx
      omega)
    have h3 := List.length_erase (a := m) (l := l)
    split at h3 <;> omega

section
variable {P : Program} {k : TypeId} {w w' : World} {b n : Nat} {f : Lit → Option Value}
theorem MapAt.clear {t e : TypeId} (h : MapAt w P k b n f) (ht : P.underlying t = some (.map k e)) (ty : TypeId) :
    ∃ w', (Builtin.clear_ #[t] ty #[.map (some b)]).run P w = .ok (.tuple #[]) w' ∧ MapAt w' P k b 0 (fun _ => none) ∧ Fr (fun j => j = b) w w' := by
  obtain ⟨D, ⟨es, clock, hb, F, hsz, hD⟩, hf⟩ := h
  have hset := MapKept.heap_set (o' := .map #[] clock) hb
  refine ⟨{ w with heap := w.heap.setIfInBounds b (.map #[] clock) }, by simp [Builtin.clear_, run_underlying ht, MapKept.run_getObj_map hb, MapKept.run_setObj_map _ hb, Result.andThen], ⟨.map [], ⟨#[], clock, hset.1, ⟨by simp, MapKept.stamped_empty clock, by simp⟩, Nat.le_refl _, rfl⟩, fun kl => by simp [Maps.has]⟩, ⟨rfl, rfl, rfl, by simp, fun j _ hj => hset.2 j hj⟩⟩

/-- The keys are few: so are the entries. -/
theorem MapAt.tight {q : IntKind} (h : MapAt w P k b n f) (K : Keyed P k) (m : Nat) (hk : ∀ kl, f kl ≠ none → ∃ a : Nat, kl = .int q a ∧ a < m) : MapAt w P k b m f := by
  obtain ⟨D, ⟨es, clock, hb, F, hsz, rfl⟩, hf⟩ := h
  refine ⟨_, ⟨es, clock, hb, F, ?_, rfl⟩, hf⟩
  have hp := Maps.fit_apart K F
  have hin : ∀ p ∈ es.toList.map (rg P k Rv), ∃ a : Nat, p.1 = .int q a ∧ a < m := fun p hp' => by
    refine hk p.1 ?_
    rw [hf p.1]
    have : Maps.has (DataW.map ((es.toList.map (rg P k Rv)).foldr DataW.insert [])) p.1 = true :=
      List.any_eq_true.2 ⟨p, mem_sorted.2 hp', WideAt.sameKey_self ((Maps.fit_keys F |> fun kk => K.one.key (kk p hp')))⟩
    rw [this]
    simp
  have hnum : ((es.toList.map (rg P k Rv)).map fun p => match p.1 with | .int _ a => a.toNat | _ => 0).length ≤ m := by
    refine nodup_lt ?_ ?_
    · rw [List.Nodup, List.pairwise_map]
      refine List.Pairwise.imp_of_mem ?_ hp
      intro p r hp' hr' hne he
      obtain ⟨a, ha, _⟩ := hin p hp'
      obtain ⟨c, hc, _⟩ := hin r hr'
      rw [ha, hc] at he
      simp at he
      exact hne (by rw [ha, hc, he])
    · intro x hx
      obtain ⟨p, hp', rfl⟩ := List.mem_map.1 hx
      obtain ⟨a, ha, hlt⟩ := hin p hp'
      rw [ha]
      simpa using hlt
  simpa using hnum

/-- One map laid into another, as the rounds go. -/
theorem merged_end {Dout Dd Ds : DataW Value} {left : Lit → Bool} (hM : Merged Dout Dd Ds left) (hl : ∀ k, left k = false) {fd fs : Lit → Option Value}
    (hd : ∀ kl, fd kl = if Maps.has Dd kl then some (valOf (Dd.atKey kl (.held undef))) else none) (hs : ∀ kl, fs kl = if Maps.has Ds kl then some (valOf (Ds.atKey kl (.held undef))) else none) :
    ∀ kl, orF fs fd kl = if Maps.has Dout kl then some (valOf (Dout.atKey kl (.held undef))) else none := by
  intro kl
  have h1 := hM.1 kl
  have h2 := hM.2 kl (.held undef)
  rw [hl kl] at h1 h2
  simp only [Bool.not_false, Bool.and_true] at h1 h2
  unfold orF
  rw [hs kl, hd kl, h1, h2]
  cases Maps.has Ds kl <;> cases Maps.has Dd kl <;> simp

/-- A clone. -/
theorem MapAt.cloned {t : TypeId} (h : MapAt w P k b n f) : ∃ o, (Extern.MapsClone.clone #[.iface t (.map (some b))]).run P w = .ok (.iface t (.map (some w.heap.size))) (w.alloc o) ∧ MapAt (w.alloc o) P k w.heap.size n f := by
  obtain ⟨D, ⟨es, clock, hb, F, hsz, hD⟩, hf⟩ := h
  exact ⟨_, run_maps_clone_sl w t hb, ⟨D, ⟨es, clock, (MapKept.heap_alloc w _).1, F, hsz, hD⟩, hf⟩⟩
end

section
variable {P : Program} {w : World} {ops : Array Oper} {rest : List Oper} {o : Oper} {a : Act} {Q : Exit → Act → World → Prop} {b n : Nat} {f : Lit → Option Value}
theorem wpList_mclear {k e t : TypeId} (hM : MapAt w P k b n f) (ht : P.underlying t = some (.map k e)) (hg : o.guard = none) (m : Operand) (hop : o.op = Op.call { callee := Callee.builtin Builtin.clear, args := #[m], argTypes := #[t] })
    (hm : a.eval m = .map (some b))
    (hK : ∀ w', MapAt w' P k b 0 (fun _ => none) → Fr (fun j => j = b) w w' → wpList P ops Q rest (a.put o.dst (.tuple #[])) w') : wpList P ops Q (o :: rest) a w := by
  refine wpList_plain hg fun K' hK' => ?_
  obtain ⟨w', hrun, r1, r2⟩ := hM.clear ht o.type
  unfold Oper.wp
  simp [execOp, hop, resolve, invoke, builtin, hm, hrun, Result.andThen]
  exact hK' _ _ (hK w' r1 r2)
end
end Go.Proofs.YtdojmjglnlkmoaaDoor
