/- Texts of one proof, one behind the other: RcS, Fill, RcE, NdD. No condition but each one's own. -/
import Derived.Test.YtdojmjglnlkmoaaDoorRecordPlaysM14
import Derived.Test.YtdojmjglnlkmoaaDoorRecordPlaysM7
import Derived.Laws.Tables
import Derived.Test.YtdojmjglnlkmoaaDoorRecordPlaysM13
import Derived.Lib.Strings
import Derived.Lib.Slices
import Derived.Lib.Small
import Derived.Lib.Walk
import Derived.Lib.BitFns
/- A record kept. sha's tables are as they were laid. No condition else. -/
namespace Go.Proofs.YtdojmjglnlkmoaaDoor
set_option linter.unusedVariables false
set_option linter.unusedSimpArgs false
set_option linter.constructorNameAsVariable false
open Go.RowKit Go.Sort

theorem pairInfo : (Tryd.prog.info? 100).map (fun i => (i.zero, i.size)) = some (some (.agg (secA (List.replicate 128 0))), 128) := by kernel_rfl
/-- Save's answer. -/
structure SvTo (w : World) (base gk gd bs bf : Nat) (v : Value) (p : DP) (k : KR) (w' : World) (v' : Value) : Prop where
  dk : Dk w' base gd bs bf v' p
  kp : Kp w' gk gd k
  fr : Fr (fun b => b = gk ∨ DkOurs gd bs bf v b) w w'
  own : ∀ b, v'.ownBlock = some b → base ≤ b ∧ (v.ownBlock = some b ∨ w.heap.size ≤ b)
def SvSays (w : World) (base gk gd bs bf : Nat) (v : Value) (r : DP × KR × Int) (e : Ending) (w' : World) : Prop := e = .returned (errD r.2.2) ∧ ∃ v', SvTo w base gk gd bs bf v r.1 r.2.1 w' v'
theorem SvTo.same {w w' : World} {base gk gd bs bf : Nat} {v : Value} {p : DP} {k : KR} (hD : Dk w base gd bs bf v p) (hK : Kp w gk gd k) (hN : New w w') : SvTo w base gk gd bs bf v p k w' v :=
  ⟨hD.new hN, hK.new hN, hN.toFr _, fun b hb => ⟨(hD.ours b (.inr (.inr (.inr hb)))).1, .inl hb⟩⟩
set_option maxHeartbeats 1000000
set_option maxRecDepth 100000
theorem ksave_nil (r : Rc) (w : World) (hr : r.Ok) : Calls Tryd.prog 17 #[.pointer none, .agg r.cells] w fun e w' => e = .returned (errD 11) ∧ New w w' := by
  obtain ⟨RC, hRC⟩ : ∃ RC, RC = r.cells := ⟨_, rfl⟩
  rw [← hRC]
  clear hRC hr
  go_enter Tryd.func17, Tryd.ntmps17
  go_wp2_with fail
  go_ret
  exact ⟨rfl, New.al (New.refl _) _⟩
/-- What is read where a record's bytes are handed on. -/
def SvAt (gk b5 nm : Nat) (AL : List Int) (w : World) : Prop := w.cell? ⟨gk, 1, none⟩ = some (.int .u64 nm) ∧ Blk w b5 100 (secA AL)
set_option maxHeartbeats 4000000 in
theorem ksave_kp {w : World} {gk gd base bs bf : Nat} {v : Value} {p : DP} {k : KR} (h : Kp w gk gd k) (hD : Dk w base gd bs bf v p) (hL : ShaIn 3 2 w) (r : Rc) (hr : r.Ok) :
    Calls Tryd.prog 17 #[.pointer (some ⟨gk, 0, none⟩), .agg r.cells] w (SvSays w base gk gd bs bf v (saveP p k r)) := by
  have HK := Lib.hid h
  have HD := Lib.hid hD
  have HL := Lib.hid hL
  have HR := Lib.hid hr
  have HAP : Hid (¬ DkOurs gd bs bf v gk) := Lib.hid (kp_apart hD h)
  have HSZ : Hid (r.cells.size = 37) := Lib.hid (Rc.size hr.len)
  obtain ⟨SP, hSP⟩ : ∃ SP, SP = saveP p k r := ⟨_, rfl⟩
  rw [← hSP]
  have HSP := Lib.hid hSP
  obtain ⟨RC, hRC⟩ : ∃ RC, RC = r.cells := ⟨_, rfl⟩
  have HRC := Lib.hid hRC
  rw [← hRC]
  have c1 := h.c1
  have c3 := h.c3
  obtain ⟨nm, hnm⟩ : ∃ nm, nm = k.number := ⟨_, rfl⟩
  have HNM := Lib.hid hnm
  rw [← hnm] at c1
  obtain ⟨br, hbr⟩ : ∃ br, br = k.broken := ⟨_, rfl⟩
  have HBR := Lib.hid hbr
  rw [← hbr] at c3
  clear h hD hL hr hSP hRC hnm hbr
  go_enter Tryd.func17, Tryd.ntmps17
  go_upto_region 1 with fail
  obtain ⟨w1, hw1⟩ : ∃ w1 : World, w1 = w.alloc (.cells RC 48) := ⟨_, rfl⟩
  obtain ⟨b3, hb3⟩ : ∃ b3, b3 = w.heap.size := ⟨_, rfl⟩
  have HN1 : Hid (New w w1) := Lib.hid (by rw [hw1]; exact New.al (New.refl _) _)
  have HB3 : Hid (Blk w1 b3 48 r.cells) := Lib.hid (by rw [hw1, hb3, HRC.out]; exact Blk.new _ _ _)
  have HZ : Hid (b3 = w.heap.size) := Lib.hid hb3
  rw [← hw1, ← hb3]
  clear hw1 hb3
  go_wp2_with ((with_reducible refine atOp ⟨some 13, .load _ _, _, _, _, _⟩ ?_); refine wpList_load_any rfl _ rfl Tryd.underlying48 rfl (by rw [HSZ.out]; rfl) rfl HB3.out ?_)
  refine (right_any r w1 HR.out).mono ?_
  rintro e wm ⟨rfl, hN2⟩
  have HNw : Hid (New w wm) := Lib.hid (HN1.out.tr hN2)
  have HB32 : Hid (Blk wm b3 48 r.cells) := Lib.hid (hN2.blk HB3.out)
  clear hN2
  by_cases hR : r.Right
  · rw [decide_eq_true hR]
    have HRT := Lib.hid hR
    clear hR
    have c32 : wm.cell? ⟨gk, 39, none⟩ = some (.bool br) := HNw.out.cell_ c3
    have c12 : wm.cell? ⟨gk, 1, none⟩ = some (.int .u64 nm) := HNw.out.cell_ c1
    clear c1 c3
    rcases br with _ | _
    · by_cases hmx : nm = 18446744073709551615
      · have hq : ((nm : Int) == 18446744073709551615) = true := by rw [hmx]; rfl
        have HW : Hid (SP = (p, k, 9)) := Lib.hid (by rw [HSP.out]; unfold saveP; rw [if_neg (fun h => h HRT.out), ← HBR.out, if_neg (by decide), ← HNM.out, if_pos hmx])
        clear hmx
        go_wp2_with fail
        go_ret
        refine ⟨?_, v, ?_⟩
        · rw [HW.out]; rfl
        · rw [HW.out]; exact SvTo.same HD.out HK.out HNw.out
      · have hq : ((nm : Int) == 18446744073709551615) = false := by rw [beq_eq_false_iff_ne]; omega
        obtain ⟨n1, hn1⟩ : ∃ n1, n1 = nm + 1 := ⟨_, rfl⟩
        have HN1' : Hid (n1 = nm + 1) := Lib.hid hn1
        have HLT : Hid (n1 < 18446744073709551616) := Lib.hid (by have := HK.out.ok.num; have := HNM.out; omega)
        have e1 : (nm : Int) + 1 = (n1 : Int) := by omega
        have e2 : IntKind.u64.wrap (n1 : Int) = (n1 : Int) := by rw [IntKind.wrap_u64]; have := HLT.out; omega
        obtain ⟨AL, hAL⟩ : ∃ AL, AL = putL n1 r := ⟨_, rfl⟩
        have HALB : Hid (AL.length = 128 ∧ Byt AL) := Lib.hid (by rw [hAL]; exact ⟨putL_len HR.out.len, putL_byt HR.out.byt⟩)
        have HAL := Lib.hid hAL
        have HASZ : Hid ((secA AL).size = 128) := Lib.hid (by rw [secA_size, HALB.out.1])
        have HW0 : Hid (SP = (if (writeP p n1 AL).2 ≠ 0 then ((writeP p n1 AL).1, { k with broken := true }, (writeP p n1 AL).2) else ((writeP p n1 AL).1, ⟨n1, r, false⟩, 0))) := Lib.hid (by rw [HSP.out]; unfold saveP; rw [if_neg (fun h => h HRT.out), ← HBR.out, if_neg (by decide), ← HNM.out, if_neg hmx, hAL, hn1])
        clear hmx hn1 hAL
        go_wp2_with fail
        have q1 : ∀ p : HW (New wm), p.w.cell? ⟨gk, 1, none⟩ = some (.int .u64 nm) := fun p => p.h.cell_ c12
        apply wp_join (α := Nat) (fun b w3 => New wm w3 ∧ Blk w3 b 100 (secA AL))
        case h1 =>
          intro K' hK'
          refine wp_region_tree (New wm) (.take 0 (.take 1 (.take 2 (.take 3 (.take 4 (.take 5 (.two 6 (.take 7 (.take 8 (.take 9 (.act 10 (.act 11 (.take 12 .done)))))) 10 (.act 6 (.take 7 (.take 8 (.take 9 (.act 11 (.take 12 .done))))))))))))) (by kernel_rfl) (by kernel_rfl) (New.dr (New.refl wm)) (fun hne => ?_)
          iterate 5 (refine tree_take (o := ⟨_, _, _, _, _, _⟩) rfl (fun K hK => ?_); go_simp; refine hK _ ?_; clear hK K)
          refine tree_take_row (o := ⟨_, _, _, _, _, _⟩) (cs := r.cells.toList) rfl rfl _ rfl rfl (fun w' h => (h.blk HB32.out).rangeOf) Tryd.underlying48 rfl (by rw [Array.length_toList, HSZ.out]; rfl) ?_
          simp only [Act.put, List.setIfInBounds_toArray, List.set_cons_zero, List.set_cons_succ]
          refine ⟨?_, ?_⟩
          · refine act_ok (o := ⟨_, _, _, _, _, _⟩) rfl (fun K hK => ?_) (.inl rfl)
            go_simp
            refine (put_any n1 r wm.drew ((HL.out.new HNw.out).new (New.dr (New.refl wm))) HR.out HLT.out).mono ?_
            rintro e w1 ⟨rfl, hN1⟩
            rw [← HAL.out]
            have HN1 : Hid (New wm w1) := Lib.hid (New.tr (New.dr (New.refl wm)) hN1)
            clear hN1
            go_simp
            refine hK.out _ _ HN1.out ?_
            clear hK K
            iterate 3 (refine tree_take (o := ⟨_, _, _, _, _, _⟩) rfl (fun K hK => ?_); go_simp; refine hK _ ?_; clear hK K)
            refine tree_act_alloc (o := ⟨_, _, _, _, _, _⟩) rfl rfl rfl pairInfo ?_
            intro b8 w2 hb8 hB2 hN2
            have HL2 : Hid (wm.heap.size ≤ b8) := Lib.hid (by have := HN1.out.size; omega)
            refine ⟨HN1.out.tr hN2, ?_⟩
            clear hb8
            simp only [Act.put, List.setIfInBounds_toArray, List.set_cons_zero, List.set_cons_succ]
            refine act_store (o := ⟨_, _, _, _, _, _⟩) (cs := secA AL) rfl rfl (.tmp 5) (.tmp 38) rfl (by rw [HASZ.out]; rfl) rfl rfl hB2 (by rw [HASZ.out]; rfl) (secA_one _) ?_
            intro w3 hB3 hF3
            have hN3 : New wm w3 := (HN1.out.tr hN2).fr hF3 (fun k hk => by have := HL2.out; omega)
            refine ⟨hN3, ?_⟩
            simp only [Act.put, List.setIfInBounds_toArray, List.set_cons_zero, List.set_cons_succ]
            iterate 1 (refine tree_take (o := ⟨_, _, _, _, _, _⟩) rfl (fun K hK => ?_); go_simp; refine hK _ ?_; clear hK K)
            refine tree_done ?_
            exact hK'.out b8 w3 ⟨hN3, hB3⟩
          · refine act_alloc (o := ⟨_, _, _, _, _, _⟩) rfl rfl rfl pairInfo ?_
            intro b8 w2 hb8 hB2 hN2
            have HN2 : Hid (New wm w2) := Lib.hid ((New.dr (New.refl wm)).tr hN2)
            have HB2 := Lib.hid hB2
            have HL2 : Hid (wm.heap.size ≤ b8) := Lib.hid (by rw [hb8]; exact Nat.le_refl _)
            refine ⟨HN2.out, ?_⟩
            clear hb8 hB2 hN2
            simp only [Act.put, List.setIfInBounds_toArray, List.set_cons_zero, List.set_cons_succ]
            refine tree_act (o := ⟨_, _, _, _, _, _⟩) rfl (fun K hK => ?_) (.inl rfl)
            go_simp
            refine (put_any n1 r w2 ((HL.out.new HNw.out).new HN2.out) HR.out HLT.out).mono ?_
            rintro e w1 ⟨rfl, hN1⟩
            rw [← HAL.out]
            have HB1 := Lib.hid (hN1.blk HB2.out)
            have HN1 : Hid (New wm w1) := Lib.hid (HN2.out.tr hN1)
            clear hN1
            go_simp
            refine hK.out _ _ HN1.out ?_
            clear hK K
            iterate 3 (refine tree_take (o := ⟨_, _, _, _, _, _⟩) rfl (fun K hK => ?_); go_simp; refine hK _ ?_; clear hK K)
            refine act_store (o := ⟨_, _, _, _, _, _⟩) (cs := secA AL) rfl rfl (.tmp 5) (.tmp 38) rfl (by rw [HASZ.out]; rfl) rfl rfl HB1.out (by rw [HASZ.out]; rfl) (secA_one _) ?_
            intro w3 hB3 hF3
            have hN3 : New wm w3 := HN1.out.fr hF3 (fun k hk => by have := HL2.out; omega)
            refine ⟨hN3, ?_⟩
            simp only [Act.put, List.setIfInBounds_toArray, List.set_cons_zero, List.set_cons_succ]
            iterate 1 (refine tree_take (o := ⟨_, _, _, _, _, _⟩) rfl (fun K hK => ?_); go_simp; refine hK _ ?_; clear hK K)
            refine tree_done ?_
            exact hK'.out b8 w3 ⟨hN3, hB3⟩
        case h2 =>
          rintro b5 w3 ⟨hN3, hB5⟩
          clear q1
          have HN3 : Hid (New w w3) := Lib.hid (HNw.out.tr hN3)
          have HB5 := Lib.hid hB5
          have HB33 : Hid (Blk w3 b3 48 r.cells) := Lib.hid (hN3.blk HB32.out)
          have c13 : w3.cell? ⟨gk, 1, none⟩ = some (.int .u64 nm) := hN3.cell_ c12
          have HD3 : Hid (Dk w3 base gd bs bf v p) := Lib.hid (HD.out.new HN3.out)
          have HK3 : Hid (Kp w3 gk gd k) := Lib.hid (HK.out.new HN3.out)
          clear hN3 hB5 c32 c12
          go_wp2_with fail
          clear c13
          refine wp_region_mixH (SvAt gk b5 nm AL) [(true, 0), (true, 1), (true, 2), (true, 3), (true, 4), (true, 5), (true, 6), (false, 7), (true, 8)] (by kernel_rfl) (by kernel_rfl) ⟨(New.dr (New.refl w3)).cell_ (by rw [HNM.out]; exact HK3.out.c1), (New.dr (New.refl w3)).blk HB5.out⟩ (fun hne => ?_)
          have q0 : ∀ p : HW (SvAt gk b5 nm AL), p.w.cell? ⟨gk, 1, none⟩ = some (.int .u64 nm) := fun p => p.h.1
          iterate 6 (refine mix_take (o := ⟨_, _, _, _, _, _⟩) rfl (fun K hK => ?_); go_simp; refine hK _ ?_; clear hK K)
          refine mix_take_row (o := ⟨_, _, _, _, _, _⟩) (cs := u8s AL) rfl rfl _ rfl rfl (fun w' h => by have h2 := Blk.rangeOf h.2; rw [secA_list] at h2; exact h2) Tryd.underlying100 rfl (by rw [u8s_len, HALB.out.1]; rfl) ?_
          clear q0
          refine mix_act (o := ⟨_, _, _, _, _, _⟩) rfl (fun K hK => ?_) (.inl rfl)
          go_simp
          refine (kwrite_any (HK3.out.new (New.dr (New.refl w3))) (HD3.out.new (New.dr (New.refl w3))) n1 HLT.out AL HALB.out.1 HALB.out.2).mono ?_
          rintro e w4 ⟨rfl, v4, hT⟩
          obtain ⟨q2, hq2⟩ : ∃ q2, q2 = (writeP p n1 AL).1 := ⟨_, rfl⟩
          obtain ⟨c, hc⟩ : ∃ c, c = (writeP p n1 AL).2 := ⟨_, rfl⟩
          rw [← hq2] at hT HW0
          rw [← hc] at HW0 ⊢
          have hB5d : Blk w3.drew b5 100 (secA AL) := (New.dr (New.refl w3)).blk HB5.out
          have hgd5 : b5 ≠ gd := fun e => Blk.ne_ (g := b5) (g' := gd) HB5.out HD3.out.blk (by decide) e
          have HB54 : Hid (Blk w4 b5 100 (secA AL)) := Lib.hid (hB5d.fr hT.fr (dk_notBlk (HD3.out.new (New.dr (New.refl w3))) hB5d hgd5 (by decide)))
          have HK4 : Hid (Kp w4 gk gd k) := Lib.hid ((HK3.out.new (New.dr (New.refl w3))).fr hT.fr HAP.out)
          have HB34 : Hid (Blk w4 b3 48 r.cells) := Lib.hid ((New.dr (New.refl w3)).blk HB33.out |>.fr hT.fr (dk_notBlk (HD3.out.new (New.dr (New.refl w3))) ((New.dr (New.refl w3)).blk HB33.out) (fun e => Blk.ne_ (g := b3) (g' := gd) HB33.out HD3.out.blk (by decide) e) (by decide)))
          have HT : Hid (Dk w4 base gd bs bf v4 q2 ∧ Fr (DkOurs gd bs bf v) w w4 ∧ ∀ b, v4.ownBlock = some b → base ≤ b ∧ (v.ownBlock = some b ∨ w.heap.size ≤ b)) := Lib.hid ⟨hT.dk, (HN3.out.toFr _).trans (Fr.ofDrew hT.fr), fun b hb => ⟨(hT.own b hb).1, (hT.own b hb).2.imp id (fun h => by have h1 : w3.drew.heap.size = w3.heap.size := rfl; have := HN3.out.size; omega)⟩⟩
          have HAP4 : Hid (¬ DkOurs gd bs bf v4 gk) := Lib.hid (kp_apart HT.out.1 HK4.out)
          clear hT hq2 hc hB5d hgd5
          go_simp
          refine hK.out _ _ (fun _ => ⟨by rw [HNM.out]; exact HK4.out.c1, HB54.out⟩) ?_
          clear hK K
          iterate 1 (refine mix_take (o := ⟨_, _, _, _, _, _⟩) rfl (fun K hK => ?_); go_simp; refine hK _ ?_; clear hK K)
          refine mix_done ?_
          by_cases hc0 : c = 0
          · rw [hc0, errD_0]
            have HW : Hid (SP = (q2, ⟨n1, r, false⟩, 0)) := Lib.hid (by rw [HW0.out, if_neg (by rw [hc0]; simp)])
            clear hc0
            have cc : w4.cell? ⟨gk, 1, none⟩ = some (.int .u64 nm) := by rw [HNM.out]; exact HK4.out.c1
            have ff := HK4.out.blk.frozen 1
            go_upto_region 17 with fail
            clear cc ff
            obtain ⟨w5, hw5⟩ : ∃ w5 : World, w5 = w4.setCell ⟨gk, 1, none⟩ (.int .u64 (n1 : Int)) := ⟨_, rfl⟩
            have hF5 : Fr (fun b => b = gk) w4 w5 := by rw [hw5]; exact (Fr.refl (fun b => b = gk) w4).setCell (p := ⟨gk, 1, none⟩) (fun _ => rfl) _
            have HF5 := Lib.hid hF5
            have HK5 : Hid (Kp w5 gk gd { k with number := n1 }) := Lib.hid (by rw [hw5]; exact HK4.out.setNum n1 HLT.out)
            have HB35 : Hid (Blk w5 b3 48 r.cells) := Lib.hid (HB34.out.fr hF5 (by have := HZ.out; have := HK.out.blk.lt; omega))
            rw [← hw5]
            clear hw5 hF5
            go_wp2_with (first
              | ((with_reducible refine atOp ⟨some 65, .load _ _, _, _, _, _⟩ ?_); refine wpList_load_any rfl _ rfl Tryd.underlying48 rfl (by rw [HSZ.out]; rfl) rfl HB35.out ?_)
              | ((with_reducible refine atOp ⟨none, .store 48 (.tmp 67) _, _, _, _, _⟩ ?_); refine wpList_store_part (cells := r.cells.toList) (off := 2) rfl (.tmp 67) (.tmp 65) rfl rfl rfl HK5.out.blk (by rw [Rc.cells_len HR.out.len, kpA_len HK5.out.ok.now.len]; omega) (by rw [Rc.cells_len HR.out.len]; rfl) (fun v hv => by have := Array.all_eq_true'.1 (Rc.one r) v (by simpa using hv); exact this) ?_; intro w6 hb6 hf6; have HB6 := Lib.hid hb6; have HF6 := Lib.hid hf6; clear hb6 hf6))
            have HK6 : Hid (Kp w6 gk gd ⟨n1, r, k.broken⟩) := Lib.hid ⟨by have h := HB6.out; rw [kpA_now HK5.out.ok.now.len gd r HR.out.len] at h; exact h, ⟨HR.out, HLT.out⟩⟩
            go_ret
            refine ⟨?_, v4, ?_⟩
            · rw [HW.out]; rfl
            · rw [HW.out, HBR.out]
              exact ⟨(HT.out.1.fr HF5.out (fun b hb => hb ▸ HAP4.out)).fr HF6.out (fun b hb => hb ▸ HAP4.out), HK6.out, (HT.out.2.1.mono (fun b _ h => .inr h)).trans' ((HF5.out.trans HF6.out)) (fun b _ h => .inl h), HT.out.2.2⟩
          · have HW : Hid (SP = (q2, { k with broken := true }, c)) := Lib.hid (by rw [HW0.out, if_pos hc0])
            have HWE : Hid (errD c = .iface 55 (.int .i64 c)) := Lib.hid (errD_n hc0)
            rw [HWE.out]
            clear hc0
            have cc : w4.cell? ⟨gk, 39, none⟩ = some (.bool false) := by rw [HBR.out]; exact HK4.out.c3
            have ff := HK4.out.blk.frozen 39
            go_wp2_with fail
            clear cc ff
            have HK5 : Hid (Kp (w4.setCell ⟨gk, 39, none⟩ (.bool true)) gk gd { k with broken := true }) := Lib.hid (HK4.out.setBroken true)
            have HF5 : Hid (Fr (fun b => b = gk) w4 (w4.setCell ⟨gk, 39, none⟩ (.bool true))) := Lib.hid ((Fr.refl (fun b => b = gk) w4).setCell (p := ⟨gk, 39, none⟩) (fun _ => rfl) _)
            go_ret
            refine ⟨?_, v4, ?_⟩
            · rw [HW.out]; exact (congrArg Ending.returned HWE.out).symm
            · rw [HW.out]
              exact ⟨HT.out.1.fr HF5.out (fun b hb => hb ▸ HAP4.out), HK5.out, (HT.out.2.1.mono (fun b _ h => .inr h)).trans' HF5.out (fun b _ h => .inl h), HT.out.2.2⟩
    · have HW : Hid (SP = (p, k, 10)) := Lib.hid (by rw [HSP.out]; unfold saveP; rw [if_neg (fun h => h HRT.out), ← HBR.out, if_pos rfl])
      go_wp2_with fail
      go_ret
      refine ⟨?_, v, ?_⟩
      · rw [HW.out]; rfl
      · rw [HW.out]; exact SvTo.same HD.out HK.out HNw.out
  · rw [decide_eq_false hR]
    have HW : Hid (SP = (p, k, 2)) := Lib.hid (by rw [HSP.out]; unfold saveP; rw [if_pos hR])
    clear hR c1 c3
    go_wp2_with fail
    go_ret
    refine ⟨?_, v, ?_⟩
    · rw [HW.out]; rfl
    · rw [HW.out]; exact SvTo.same HD.out HK.out HNw.out
end Go.Proofs.YtdojmjglnlkmoaaDoor
/- A struct or an array put together of parts: each part is laid over the zero value. No condition. -/
namespace Go.Proofs.YtdojmjglnlkmoaaDoor
set_option linter.unusedVariables false
set_option linter.unusedSimpArgs false
set_option linter.constructorNameAsVariable false
open Go.RowKit

theorem splice_set {xs : List Value} {o : Nat} (y : Value) (ys : List Value) (h : o < xs.length) : splice (xs.set o y) (o + 1) ys = splice xs o (y :: ys) := by
  unfold splice
  rw [List.take_succ_eq_append_getElem (by simpa using h), List.drop_set_of_lt (by omega)]
  simp [List.take_set_of_le]
  omega
theorem zip_splice : ∀ (ys : List Value) (j off : Nat) (xs : List Value), off + j + ys.length ≤ xs.length →
    (ys.zipIdx j).foldl (fun (cs : Array Value) (x : Value × Nat) => cs.setIfInBounds (off + x.2) x.1) xs.toArray = (splice xs (off + j) ys).toArray
  | [], j, off, xs, _ => by simp [splice]
  | y :: ys, j, off, xs, h => by
    simp only [List.length_cons] at h
    rw [List.zipIdx_cons, List.foldl_cons]
    simp only [List.setIfInBounds_toArray]
    rw [zip_splice ys (j + 1) off _ (by simp; omega), show off + (j + 1) = off + j + 1 by omega, splice_set y ys (by omega)]
theorem fill_one {place : Nat → Option (Nat × Nat)} {i off : Nat} {v : Value} {xs ys : List Value} {rest : List (Nat × Value)} (hp : place i = some (off, ys.length)) (hv : v.cells = ys.toArray) (hl : off + ys.length ≤ xs.length) :
    Instr.fill place xs.toArray ((i, v) :: rest) = Instr.fill place (splice xs off ys).toArray rest := by
  conv => lhs; unfold Instr.fill
  simp only [hp, hv]
  rw [if_neg (by simp; omega)]
  congr 1
  have := zip_splice ys 0 off xs (by omega)
  rw [Nat.add_zero] at this
  rw [← this, ← Array.foldl_toList, Array.toList_zipIdx]
theorem fill_nil {place : Nat → Option (Nat × Nat)} (cs : Array Value) : Instr.fill place cs [] = some cs := rfl
theorem splice_app {a b ys : List Value} {o k : Nat} (h : a.length = o) : splice (a ++ b) (o + k) ys = a ++ splice b k ys := by
  subst h
  unfold splice
  rw [List.take_length_add_append]
  simp only [List.append_assoc]
  rw [show a.length + k + ys.length = a.length + (k + ys.length) by omega, List.drop_length_add_append]
theorem splice_fst {a b ys : List Value} (h : a.length = ys.length) : splice (a ++ b) 0 ys = ys ++ b := by
  unfold splice
  rw [List.take_zero, List.nil_append, Nat.zero_add, ← h, List.drop_left]
/-- An array of which the first element is given. -/
theorem built_arr1 {P : Program} {t e n m : Nat} {zs ys : List Value} (hu : P.underlying t = some (.array n e)) (hi : (P.info? t).map (fun i => (i.zero, i.size)) = some (some (.agg zs.toArray), m)) (he : (P.info? e).map (·.size) = some ys.length) (hl : ys.length ≤ zs.length) :
    P.built t [(0, .agg ys.toArray)] = some (splice zs 0 ys).toArray := by
  unfold Program.built
  cases hq : P.info? t with
  | none => simp [hq] at hi
  | some it =>
    cases hqe : P.info? e with
    | none => simp [hqe] at he
    | some ie =>
      have h1 : it.zero = some (.agg zs.toArray) := by
        rw [hq] at hi
        exact congrArg Prod.fst (Option.some.inj hi)
      have h2 : ie.size = ys.length := by simpa [hqe] using he
      simp only [hu, h1, hqe, h2, Value.cells]
      rw [fill_one (off := 0) (ys := ys) (by simp) rfl (by omega)]
      rfl
theorem wpList_built {P : Program} {ops : Array Oper} {rest : List Oper} {o : Oper} {a : Act} {w : World} {Q : Exit → Act → World → Prop} (hw : Region.wanted o (yielded ops a.tmps) = true) (t : TypeId) (l : List (Nat × Operand)) (ho : o.op = .build t l.toArray) (vs : List (Nat × Value)) (hv : (l.map fun (i, x) => (i, a.eval x)) = vs) (cells : Array Value) (hb : P.built t vs = some cells)
    (h : wpList P ops Q rest (a.put o.dst (.agg cells)) w) : wpList P ops Q (o :: rest) a w :=
  wpList_want hw fun K hK => by
    have hf : P.built t (l.toArray.map fun (i, x) => (i, a.eval x)).toList = some cells := by rw [List.map_toArray, hv]; exact hb
    refine wp_build t l.toArray ho (by rw [hf]; rfl) ?_
    rw [hf]
    exact hK _ _ h
end Go.Proofs.YtdojmjglnlkmoaaDoor
/- A record put together of its parts. No condition. -/
namespace Go.Proofs.YtdojmjglnlkmoaaDoor
set_option linter.unusedVariables false
set_option linter.unusedSimpArgs false
set_option linter.constructorNameAsVariable false
open Go.RowKit Go.Sort

set_option maxRecDepth 100000 in
theorem built_rec' (x0 x1 x2 x3 x4 x5 x6 x7 x8 x9 x10 x11 x12 x13 x14 x15 x16 x17 x18 x19 x20 x21 x22 x23 x24 x25 x26 x27 x28 x29 x30 x31 : Int) (a b c : Nat) : Tryd.prog.built 48 [(0, .agg (secA [x0, x1, x2, x3, x4, x5, x6, x7, x8, x9, x10, x11, x12, x13, x14, x15, x16, x17, x18, x19, x20, x21, x22, x23, x24, x25, x26, x27, x28, x29, x30, x31])), (1, .int .u64 a), (2, .int .u64 b), (3, .int .u64 c)] = some (Rc.cells ⟨[x0, x1, x2, x3, x4, x5, x6, x7, x8, x9, x10, x11, x12, x13, x14, x15, x16, x17, x18, x19, x20, x21, x22, x23, x24, x25, x26, x27, x28, x29, x30, x31], a, b, c, 0, 0⟩) := by kernel_rfl
set_option maxRecDepth 100000 in
theorem built_rec (xs : List Int) (h : xs.length = 32) (a b c : Nat) : Tryd.prog.built 48 [(0, .agg (secA xs)), (1, .int .u64 a), (2, .int .u64 b), (3, .int .u64 c)] = some (Rc.cells ⟨xs, a, b, c, 0, 0⟩) := by
  obtain ⟨x0, xs, rfl⟩ := List.exists_cons_of_length_eq_add_one h
  replace h : xs.length = 31 := by simpa using h
  obtain ⟨x1, xs, rfl⟩ := List.exists_cons_of_length_eq_add_one h
  replace h : xs.length = 30 := by simpa using h
  obtain ⟨x2, xs, rfl⟩ := List.exists_cons_of_length_eq_add_one h
  replace h : xs.length = 29 := by simpa using h
  obtain ⟨x3, xs, rfl⟩ := List.exists_cons_of_length_eq_add_one h
  replace h : xs.length = 28 := by simpa using h
  obtain ⟨x4, xs, rfl⟩ := List.exists_cons_of_length_eq_add_one h
  replace h : xs.length = 27 := by simpa using h
  obtain ⟨x5, xs, rfl⟩ := List.exists_cons_of_length_eq_add_one h
  replace h : xs.length = 26 := by simpa using h
  obtain ⟨x6, xs, rfl⟩ := List.exists_cons_of_length_eq_add_one h
  replace h : xs.length = 25 := by simpa using h
  obtain ⟨x7, xs, rfl⟩ := List.exists_cons_of_length_eq_add_one h
  replace h : xs.length = 24 := by simpa using h
  obtain ⟨x8, xs, rfl⟩ := List.exists_cons_of_length_eq_add_one h
  replace h : xs.length = 23 := by simpa using h
  obtain ⟨x9, xs, rfl⟩ := List.exists_cons_of_length_eq_add_one h
  replace h : xs.length = 22 := by simpa using h
  obtain ⟨x10, xs, rfl⟩ := List.exists_cons_of_length_eq_add_one h
  replace h : xs.length = 21 := by simpa using h
  obtain ⟨x11, xs, rfl⟩ := List.exists_cons_of_length_eq_add_one h
  replace h : xs.length = 20 := by simpa using h
  obtain ⟨x12, xs, rfl⟩ := List.exists_cons_of_length_eq_add_one h
  replace h : xs.length = 19 := by simpa using h
  obtain ⟨x13, xs, rfl⟩ := List.exists_cons_of_length_eq_add_one h
  replace h : xs.length = 18 := by simpa using h
  obtain ⟨x14, xs, rfl⟩ := List.exists_cons_of_length_eq_add_one h
  replace h : xs.length = 17 := by simpa using h
  obtain ⟨x15, xs, rfl⟩ := List.exists_cons_of_length_eq_add_one h
  replace h : xs.length = 16 := by simpa using h
  obtain ⟨x16, xs, rfl⟩ := List.exists_cons_of_length_eq_add_one h
  replace h : xs.length = 15 := by simpa using h
  obtain ⟨x17, xs, rfl⟩ := List.exists_cons_of_length_eq_add_one h
  replace h : xs.length = 14 := by simpa using h
  obtain ⟨x18, xs, rfl⟩ := List.exists_cons_of_length_eq_add_one h
  replace h : xs.length = 13 := by simpa using h
  obtain ⟨x19, xs, rfl⟩ := List.exists_cons_of_length_eq_add_one h
  replace h : xs.length = 12 := by simpa using h
  obtain ⟨x20, xs, rfl⟩ := List.exists_cons_of_length_eq_add_one h
  replace h : xs.length = 11 := by simpa using h
  obtain ⟨x21, xs, rfl⟩ := List.exists_cons_of_length_eq_add_one h
  replace h : xs.length = 10 := by simpa using h
  obtain ⟨x22, xs, rfl⟩ := List.exists_cons_of_length_eq_add_one h
  replace h : xs.length = 9 := by simpa using h
  obtain ⟨x23, xs, rfl⟩ := List.exists_cons_of_length_eq_add_one h
  replace h : xs.length = 8 := by simpa using h
  obtain ⟨x24, xs, rfl⟩ := List.exists_cons_of_length_eq_add_one h
  replace h : xs.length = 7 := by simpa using h
  obtain ⟨x25, xs, rfl⟩ := List.exists_cons_of_length_eq_add_one h
  replace h : xs.length = 6 := by simpa using h
  obtain ⟨x26, xs, rfl⟩ := List.exists_cons_of_length_eq_add_one h
  replace h : xs.length = 5 := by simpa using h
  obtain ⟨x27, xs, rfl⟩ := List.exists_cons_of_length_eq_add_one h
  replace h : xs.length = 4 := by simpa using h
  obtain ⟨x28, xs, rfl⟩ := List.exists_cons_of_length_eq_add_one h
  replace h : xs.length = 3 := by simpa using h
  obtain ⟨x29, xs, rfl⟩ := List.exists_cons_of_length_eq_add_one h
  replace h : xs.length = 2 := by simpa using h
  obtain ⟨x30, xs, rfl⟩ := List.exists_cons_of_length_eq_add_one h
  replace h : xs.length = 1 := by simpa using h
  obtain ⟨x31, xs, rfl⟩ := List.exists_cons_of_length_eq_add_one h
  replace h : xs.length = 0 := by simpa using h
  obtain rfl := List.eq_nil_of_length_eq_zero h
  exact built_rec' x0 x1 x2 x3 x4 x5 x6 x7 x8 x9 x10 x11 x12 x13 x14 x15 x16 x17 x18 x19 x20 x21 x22 x23 x24 x25 x26 x27 x28 x29 x30 x31 a b c
end Go.Proofs.YtdojmjglnlkmoaaDoor
/- How many bits a number has (turned from the worked contract of the kit's shelf), and a tree's height. No condition. -/
namespace Go.Proofs.YtdojmjglnlkmoaaDoor
set_option linter.unusedVariables false
set_option linter.unusedSimpArgs false
set_option linter.constructorNameAsVariable false
open Go.RowKit

set_option maxHeartbeats 4000000
set_option maxRecDepth 100000
theorem tab_all : ∀ n : Fin 256, ∃ h : n.val < Lib.len8tab.size, (Lib.len8tab[n.val]'h).toNat = Lib.bitLen n.val := by decide +kernel
theorem tab_at {n : Nat} (h : n < Lib.len8tab.size) : (Lib.len8tab[n]).toNat = Lib.bitLen n ∧ Lib.bitLen n ≤ 8 := by
  have hs : Lib.len8tab.size = 256 := by decide +kernel
  obtain ⟨_, h1⟩ := tab_all ⟨n, by omega⟩
  exact ⟨h1, Lib.bitLen_le8 ⟨n, by omega⟩⟩
theorem wrap_small {v : Int} (h0 : 0 ≤ v) (h1 : v ≤ 100) : wrap64 v = v := by unfold wrap64; omega
theorem wrap_bl {d : Nat} (h : Lib.bitLen d ≤ 8) (k : Nat) (hk : k ≤ 24) : wrap64 ((k : Int) + wrap64 ((Lib.bitLen d : Nat) : Int)) = ((k + Lib.bitLen d : Nat) : Int) := by
  generalize Lib.bitLen d = b at h ⊢
  rw [wrap_small (v := (b : Int)) (by omega) (by omega), wrap_small (by omega) (by omega)]
  omega
theorem tab_a (x : Int) (h0 : 0 ≤ x) (h1 : x < 4294967296) (h2 : 65536 ≤ x) (h3 : 256 ≤ x / 65536) (hb : (x / 65536 / 256).toNat < Lib.len8tab.size) : wrap64 (24 + wrap64 ((Lib.len8tab[(x / 65536 / 256).toNat]).toNat : Int)) = (Lib.bitLen x.toNat : Int) := by
  obtain ⟨t1, t2⟩ := tab_at hb
  have s := Lib.bitLen_shift24 x.toNat (by omega) (by omega)
  have e : (x / 65536 / 256).toNat = x.toNat / 16777216 := by omega
  rw [t1]
  rw [e] at t2 ⊢
  rw [s]
  exact wrap_bl t2 24 (by decide)
theorem tab_b (x : Int) (h0 : 0 ≤ x) (h1 : x < 4294967296) (h2 : 65536 ≤ x) (hb : (x / 65536).toNat < Lib.len8tab.size) : wrap64 (16 + wrap64 ((Lib.len8tab[(x / 65536).toNat]).toNat : Int)) = (Lib.bitLen x.toNat : Int) := by
  obtain ⟨t1, t2⟩ := tab_at hb
  have s := Lib.bitLen_shift16 x.toNat (by omega) (by omega)
  have e : (x / 65536).toNat = x.toNat / 65536 := by omega
  rw [t1]
  rw [e] at t2 ⊢
  rw [s]
  exact wrap_bl t2 16 (by decide)
theorem tab_c (x : Int) (h0 : 0 ≤ x) (h1 : x < 4294967296) (h2 : 256 ≤ x) (hb : (x / 256).toNat < Lib.len8tab.size) : wrap64 (8 + wrap64 ((Lib.len8tab[(x / 256).toNat]).toNat : Int)) = (Lib.bitLen x.toNat : Int) := by
  obtain ⟨t1, t2⟩ := tab_at hb
  have s := Lib.bitLen_shift8 x.toNat (by omega) (by omega)
  have e : (x / 256).toNat = x.toNat / 256 := by omega
  rw [t1]
  rw [e] at t2 ⊢
  rw [s]
  exact wrap_bl t2 8 (by decide)
theorem tab_d (x : Int) (hb : x.toNat < Lib.len8tab.size) : wrap64 (wrap64 ((Lib.len8tab[x.toNat]).toNat : Int)) = (Lib.bitLen x.toNat : Int) := by
  obtain ⟨t1, t2⟩ := tab_at hb
  rw [t1]
  have q := wrap_small (v := ((Lib.bitLen x.toNat : Nat) : Int)) (by omega) (by omega)
  rw [q, q]
theorem tab_no (y : Int) (h0 : 0 ≤ y) (h1 : y < 256) (h : ¬ (0 ≤ y ∧ y < (Lib.len8tab.size : Int))) : False := by
  have hs : Lib.len8tab.size = 256 := by decide +kernel
  omega
theorem len64_any (x : Int) (w : World) (h0 : 0 ≤ x) (h1 : x < 4294967296) :
    Calls Tryd.prog 56 #[.int .u64 x] w fun e w' => e = .returned (.int .i64 (Lib.bitLen x.toNat)) ∧ w' = w := by
  go_enter Tryd.func56, Tryd.ntmps56
  go_wp2_with fail
  all_goals first
    | (rename_i hno; exact (tab_no _ (by omega) (by omega) hno).elim)
    | (go_ret
       refine ⟨congrArg Ending.returned (congrArg (Value.int IntKind.i64) ?_), rfl⟩
       first
         | exact tab_a x h0 h1 (by assumption) (by assumption) _
         | exact tab_b x h0 h1 (by assumption) _
         | exact tab_c x h0 h1 (by assumption) _
         | exact tab_d x _)
theorem bitLen_1 : Lib.bitLen 1 = 1 := by decide
theorem bitLen_0 : Lib.bitLen 0 = 0 := by decide
theorem bitLen_between {x k : Nat} (h1 : 2 ^ k ≤ x) (h2 : x < 2 ^ (k + 1)) (h : x < 18446744073709551616) : Lib.bitLen x = k + 1 := by
  rw [Lib.bitLen_shift k x h1 h]
  have : x / 2 ^ k = 1 := by
    have hp : 0 < 2 ^ k := Nat.two_pow_pos k
    rw [Nat.pow_succ] at h2
    exact Nat.div_eq_of_lt_le (by omega) (by omega)
  rw [this, bitLen_1]
theorem bitLen_32 {x : Nat} (h : x < 4294967296) : Lib.bitLen x ≤ 32 := by
  unfold Lib.bitLen
  exact Lib.bitLenAux_le 64 x 32 h
/-- The height of a tree over so many blocks. -/
def hgt (n : Nat) : Nat := Lib.bitLen (n - 1)
theorem hgt_le {n : Nat} (h1 : 1 ≤ n) (h : n ≤ 4294967296) : hgt n ≤ 32 := bitLen_32 (by omega)
theorem height_ok (n : Nat) (w : World) (h1 : 1 ≤ n) (h2 : n ≤ 4294967296) : Calls Tryd.prog 38 #[.int .u64 n] w fun e w' => e = .returned (.tuple #[.int .i64 (hgt n : Nat), .nilIface]) ∧ w' = w := by
  have q1 : ¬ ((n : Int) < 1) := by omega
  have q2 : ¬ ((4294967296 : Int) < (n : Int)) := by omega
  obtain ⟨m, hm⟩ : ∃ m, m = n - 1 := ⟨_, rfl⟩
  have e1 : (n : Int) - 1 = (m : Int) := by omega
  have e2 : IntKind.u64.wrap (m : Int) = (m : Int) := by rw [IntKind.wrap_u64]; omega
  have HM : Hid ((m : Int) < 4294967296) := Lib.hid (by omega)
  have HG : Hid (Lib.bitLen (m : Int).toNat = hgt n) := Lib.hid (by rw [Int.toNat_natCast, hm]; rfl)
  clear hm h1 h2
  have q3 : decide ((4294967296 : Int) < (n : Int)) = false := decide_eq_false q2
  have HQ := Lib.hid q2
  clear q2
  go_enter Tryd.func38, Tryd.ntmps38
  go_wp2_with fail
  refine (len64_any (m : Int) w (by omega) HM.out).mono ?_
  rintro e w1 ⟨rfl, rfl⟩
  rw [HG.out]
  go_wp2_with fail
  go_ret2
  exact ⟨rfl, rfl⟩
theorem height_bad (n : Nat) (w : World) (h : ¬ (1 ≤ n ∧ n ≤ 4294967296)) : Calls Tryd.prog 38 #[.int .u64 n] w fun e w' => e = .returned (.tuple #[.int .i64 0, .iface 55 (.int .i64 1)]) ∧ w' = w := by
  by_cases hn : n = 0
  · subst hn
    go_enter Tryd.func38, Tryd.ntmps38
    go_wp2_with fail
    go_ret2
    exact ⟨rfl, rfl⟩
  · have q1 : ¬ ((n : Int) < 1) := by omega
    have q3 : decide ((4294967296 : Int) < (n : Int)) = true := decide_eq_true (by omega)
    clear h hn
    go_enter Tryd.func38, Tryd.ntmps38
    go_wp2_with fail
    go_ret2
    exact ⟨rfl, rfl⟩
end Go.Proofs.YtdojmjglnlkmoaaDoor
