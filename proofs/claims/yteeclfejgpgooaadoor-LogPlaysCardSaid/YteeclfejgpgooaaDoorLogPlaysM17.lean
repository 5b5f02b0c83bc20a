/- Texts of one proof, one behind the other: LjB, LhA, LhP, DrP. No condition but each one's own. -/
import Derived.Test.YteeclfejgpgooaaDoorLogPlaysM16
import Derived.Test.YteeclfejgpgooaaDoorLogPlaysM12
import Derived.Test.YteeclfejgpgooaaDoorLogPlaysM6
import Derived.Test.YteeclfejgpgooaaDoorLogPlaysM14
import Derived.Test.YteeclfejgpgooaaDoorLogPlaysM13
import Derived.Test.YteeclfejgpgooaaDoorLogPlaysM15
import Derived.Test.YteeclfejgpgooaaDoorLogPlaysM11
/- A record written behind the others. sha's tables are as they were laid. No condition else. -/
namespace Go.Proofs.YteeclfejgpgooaaDoor
set_option linter.unusedVariables false
set_option linter.unusedSimpArgs false
set_option linter.constructorNameAsVariable false
open Go.RowKit Go.Sort Go.Maps

/-- A log and its disk behind an act of the log's. -/
structure LgTo (w : World) (base gl gd bs bf : Nat) (v : Value) (p : DP) (l : LG) (w' : World) (v' : Value) : Prop where
  dk : Dk w' base gd bs bf v' p
  lg : Lg w' gl gd l p.size
  fr : Fr (fun k => k = gl ∨ DkOurs gd bs bf v k) w w'
  own : ∀ k, v'.ownBlock = some k → base ≤ k ∧ (v.ownBlock = some k ∨ w.heap.size ≤ k)
def AppSays (w : World) (base gl gd bs bf : Nat) (v : Value) (r : DP × LG × Int) (e : Ending) (w' : World) : Prop := e = .returned (errD r.2.2) ∧ ∃ v', LgTo w base gl gd bs bf v r.1 r.2.1 w' v'
theorem blk_rd0 {w : World} {g T n : Nat} {s : List Int} (hb : Blk w g T (secA s)) (h : s.length = n) : Rd (fun _ => True) w 1 (some ⟨g, 0, none⟩) n (u8s s) :=
  ⟨by rw [u8s_len, h, Nat.mul_one], fun _ => ⟨_, rfl, trivial, hb.lt, fun j u hu => by
    have e : (⟨g, 0, none⟩ : Addr).add j = ⟨g, j, none⟩ := by
      unfold Addr.add
      by_cases hj0 : j = 0 <;> simp [hj0]
    rw [e, hb.cell]
    unfold secA
    rw [List.getElem?_toArray, hu]⟩⟩
theorem writeN_size (p : DP) (l : LG) (b : List Int) : ∀ k, (writeN p l b k).1.size = p.size
  | 0 => rfl
  | k + 1 => by
    have ih := writeN_size p l b k
    by_cases h : (writeN p l b k).2 = 0
    · rw [writeN_go h]
      exact (DP.doWrite_size _ _ _).trans ih
    · rw [writeN_bad h 1]; exact ih
section
variable {w : World} {base gl gd bs bf : Nat} {v : Value} {p : DP} {l : LG}
theorem LgTo.same (h : Lg w gl gd l p.size) (hD : Dk w base gd bs bf v p) {w' : World} (hN : New w w') : LgTo w base gl gd bs bf v p l w' v := ⟨hD.new hN, h.new hN, hN.toFr _, fun k hk => ⟨(hD.ours k (.inr (.inr (.inr hk)))).1, .inl hk⟩⟩
set_option maxHeartbeats 3000000
set_option maxRecDepth 100000
theorem app_bad (h : Lg w gl gd l p.size) (hD : Dk w base gd bs bf v p) (A : Option Addr) (n c : Nat) (hn : n ≤ maxLen) (hb : secN n = 0 ∨ l.broken = true ∨ l.size - l.used < secN n) :
    Calls Tryd.prog 25 #[.pointer (some ⟨gl, 0, none⟩), .slice A n c] w fun e w' => e = .returned (errD (if secN n = 0 then 2 else if l.broken = true then 10 else 8)) ∧ New w w' := by
  have hs := sectors_any (n : Int) w
  rw [secs_N] at hs
  obtain ⟨sn, hsn⟩ : ∃ sn, sn = secN n := ⟨_, rfl⟩
  rw [← hsn] at hs hb ⊢
  have hsle := secN_le n
  rw [← hsn] at hsle
  have HS := Lib.hid hs
  have c2 := h.c2
  have c4 := h.c4
  have cb := h.cb
  have hu := h.ok.used
  have hfit := h.ok.fit
  have hps := hD.ok.s2
  obtain ⟨sz, hsz⟩ : ∃ sz, sz = l.size := ⟨_, rfl⟩
  obtain ⟨us, hus⟩ : ∃ us, us = l.used := ⟨_, rfl⟩
  obtain ⟨br, hbr⟩ : ∃ br, br = l.broken := ⟨_, rfl⟩
  rw [← hsz] at c2 hu hb hfit
  rw [← hus] at c4 hu hb
  rw [← hbr] at cb hb ⊢
  obtain ⟨ec, hec⟩ : ∃ ec : Int, ec = if sn = 0 then 2 else if br = true then 10 else 8 := ⟨_, rfl⟩
  rw [← hec]
  have HEC := Lib.hid hec
  clear h hD hs hsz hus hbr hsn hec
  go_enter Tryd.func25, Tryd.ntmps25
  go_wp2_with fail
  refine HS.out.mono ?_
  rintro e w1 ⟨rfl, rfl⟩
  by_cases h0 : sn = 0
  · have HE : Hid (errD ec = .iface 63 (.int .i64 2)) := Lib.hid (by rw [HEC.out, if_pos h0]; exact errD_n (by decide))
    subst h0
    clear hb
    go_wp2_with fail
    go_ret
    exact ⟨by rw [HE.out]; rfl, New.refl _⟩
  · have h0' : ¬ ((sn : Int) = 0) := by omega
    rcases br with _ | _
    · have HE : Hid (errD ec = .iface 63 (.int .i64 8)) := Lib.hid (by rw [HEC.out, if_neg h0, if_neg (by decide)]; exact errD_n (by decide))
      have hlt : sz - us < sn := by rcases hb with h | h | h; exact absurd h h0; cases h; exact h
      have e1 : IntKind.i64.wrap ((sz : Int) - (us : Int)) = (sz : Int) - (us : Int) := IntWalk.i64_in _ (by omega)
      have e2 : (sz : Int) - (us : Int) < (sn : Int) := by omega
      have e3 : decide ((sz : Int) - (us : Int) < (sn : Int)) = true := decide_eq_true e2
      clear hb
      go_upto_region 8 with fail
      go_quiet (fail)
      go_wp2_with fail
      go_ret
      exact ⟨by rw [HE.out]; rfl, ⟨rfl, rfl, rfl, Nat.le_refl _, fun _ _ => rfl⟩⟩
    · have HE : Hid (errD ec = .iface 63 (.int .i64 10)) := Lib.hid (by rw [HEC.out, if_neg h0, if_pos rfl]; exact errD_n (by decide))
      clear hb
      go_wp2_with fail
      go_ret
      exact ⟨by rw [HE.out]; rfl, New.refl _⟩
theorem app_good {q : Nat → Prop} (h : Lg w gl gd l p.size) (hD : Dk w base gd bs bf v p) (hL : ShaIn 3 2 w) (A : Option Addr) (n c : Nat) (b : List Int) (hR : Rd q w 1 A n (u8s b)) (hb : Byt b) (hbn : b.length = n) (h0 : secN n ≠ 0) (h1 : l.broken = false) (h2 : ¬ l.size - l.used < secN n) :
    Calls Tryd.prog 25 #[.pointer (some ⟨gl, 0, none⟩), .slice A n c] w (AppSays w base gl gd bs bf v (appL p l b)) := by
  obtain ⟨hn1, hn2, hn3⟩ := secN_pos h0
  obtain ⟨sn, hsn⟩ : ∃ sn, sn = secN n := ⟨_, rfl⟩
  have hs := sectors_any (n : Int) w
  rw [secs_N, ← hsn] at hs
  rw [← hsn] at h0 h2 hn3
  obtain ⟨RS, hRS⟩ : ∃ RS, RS = writeN p l b sn := ⟨_, rfl⟩
  have HAP : Hid (appL p l b = if RS.2 ≠ 0 then (RS.1, { l with broken := true }, RS.2) else (RS.1, l.step b, 0)) := Lib.hid (by unfold appL; rw [hbn, ← hsn, if_neg h0, if_neg (by rw [h1]; decide), if_neg h2]; simp only; rw [hRS])
  obtain ⟨AP, hAP⟩ : ∃ AP, AP = appL p l b := ⟨_, rfl⟩
  rw [← hAP] at HAP ⊢
  have HS := Lib.hid hs
  have HLG := Lib.hid h
  have HD := Lib.hid hD
  have HL := Lib.hid hL
  have HR := Lib.hid hR
  have HB := Lib.hid hb
  have HBN := Lib.hid hbn
  have HRS := Lib.hid hRS
  have HSN : Hid (1 ≤ n ∧ n ≤ 65536 ∧ sn = (n + 74) / 55 ∧ l.used + sn ≤ l.size ∧ secN n = sn) := Lib.hid ⟨hn1, hn2, hn3, by have := h.ok.used; omega, hsn.symm⟩
  have c2 := h.c2
  have c3 := h.c3
  have c4 := h.c4
  have cb := h.cb
  have hu := h.ok.used
  have hfit := h.ok.fit
  have hps := hD.ok.s2
  have hgn := h.ok.gen
  rw [h1] at cb
  obtain ⟨sz, hsz⟩ : ∃ sz, sz = l.size := ⟨_, rfl⟩
  obtain ⟨us, hus⟩ : ∃ us, us = l.used := ⟨_, rfl⟩
  obtain ⟨gn, hgne⟩ : ∃ gn, gn = l.gen := ⟨_, rfl⟩
  rw [← hsz] at c2 hu h2 hfit
  rw [← hus] at c4 hu h2
  rw [← hgne] at c3 hgn
  have HLE : Hid (us = l.used ∧ sz = l.size ∧ gn = l.gen ∧ l.broken = false) := Lib.hid ⟨hus, hsz, hgne, h1⟩
  have HGN := Lib.hid hgn
  have hN1 : ¬ ((sn : Int) = 0) := by omega
  have hq0 : ((sn : Int) == 0) = false := by simpa using hN1
  have e1 : IntKind.i64.wrap ((sz : Int) - (us : Int)) = (sz : Int) - (us : Int) := IntWalk.i64_in _ (by omega)
  have e2 : ¬ (sz : Int) - (us : Int) < (sn : Int) := by omega
  have e3 : decide ((sz : Int) - (us : Int) < (sn : Int)) = false := decide_eq_false e2
  clear h hD hL hR hb hbn h0 h1 h2 hs hn1 hn2 hn3 hsn hRS hAP hsz hus hgne hfit hps hgn hu
  go_enter Tryd.func25, Tryd.ntmps25
  go_wp2_with fail
  refine HS.out.mono ?_
  rintro e w1 ⟨rfl, rfl⟩
  go_upto_region 8 with fail
  go_quiet (fail)
  obtain ⟨w2, hw2⟩ : ∃ w2, w2 = w.drewN nq := ⟨_, rfl⟩
  rw [← hw2]
  have HN2 : Hid (New w w2) := Lib.hid (by rw [hw2]; exact ⟨rfl, rfl, rfl, Nat.le_refl _, fun _ _ => rfl⟩)
  clear hw2 e1 e2 e3 c2
  have q3 : ∀ p' : HW (New w2), p'.w.cell? ⟨gl, 3, none⟩ = some (.int .u32 gn) := fun p' => p'.h.cell_ (HN2.out.cell_ c3)
  obtain ⟨tg, htg⟩ : ∃ tg, tg = l.tag := ⟨_, rfl⟩
  have HTG : Hid (∀ W, New w2 W → W.rangeAt gl 5 (u8s tg)) := Lib.hid fun W hN => by rw [htg]; exact (HLG.out.new (HN2.out.tr hN)).tagAt
  have HTL : Hid (tg.length = 16 ∧ Byt tg ∧ gn < 4294967296) := Lib.hid ⟨by rw [htg]; exact HLG.out.ok.len, by rw [htg]; exact HLG.out.ok.byt, HGN.out⟩
  obtain ⟨TL, hTL⟩ : ∃ TL, TL = tagL tg gn b := ⟨_, rfl⟩
  have HTE : Hid (TL = tagL l.tag l.gen b) := Lib.hid (by rw [hTL, htg, HLE.out.2.2.1])
  have HT16 : Hid (TL.length = 16 ∧ Byt TL) := Lib.hid (by rw [hTL]; exact ⟨tagL_len _ _ _, tagL_byt _ _ _⟩)
  have HTLE := Lib.hid hTL
  have HSZ : Hid ((secA TL).size = 16) := Lib.hid (by rw [secA_size, HT16.out.1])
  clear htg hTL
  go_upto_region 10 with fail
  apply wp_join (α := Nat) (fun b5 w5 => New w2 w5 ∧ Blk w5 b5 65 (secA TL))
  case h1 =>
    intro K' hK'
    refine wp_region_tree (New w2) (.take 0 (.take 1 (.take 2 (.take 3 (.take 4 (.take 5 (.take 6 (.take 7 (.take 8 (.two 9 (.act 10 (.act 11 .done)) 10 (.act 9 (.act 11 .done)))))))))))) (by kernel_rfl) (by kernel_rfl) (New.dr (New.refl w2)) (fun hne => ?_)
    iterate 3 (refine tree_take (o := ⟨_, _, _, _, _, _⟩) rfl (fun K hK => ?_); go_simp; refine hK _ ?_; clear hK K)
    refine tree_take_row (o := ⟨_, _, _, _, _, _⟩) rfl rfl (.tmp 43) rfl rfl (fun W hN => HTG.out W hN) Tryd.underlying65 rfl (by rw [u8s_len, HTL.out.1]; rfl) ?_
    simp only [Act.put, List.setIfInBounds_toArray, List.set_cons_zero, List.set_cons_succ]
    iterate 5 (refine tree_take (o := ⟨_, _, _, _, _, _⟩) rfl (fun K hK => ?_); go_simp; refine hK _ ?_; clear hK K)
    refine ⟨?_, ?_⟩
    · refine act_ok (o := ⟨_, _, _, _, _, _⟩) rfl (fun K hK => ?_) (.inl rfl)
      go_simp
      refine (tagged_any tg gn A n c b w2.drew ((HL.out.new HN2.out).new (New.dr (New.refl w2))) ((New.dr (New.refl w2)).rd (HN2.out.rd HR.out)) HB.out HTL.out.1 HTL.out.2.1 HTL.out.2.2 (by have := HSN.out; omega)).mono ?_
      rintro e w4 ⟨rfl, hN4⟩
      rw [← HTLE.out]
      have HN4 : Hid (New w2 w4) := Lib.hid (New.tr (New.dr (New.refl w2)) hN4)
      clear hN4
      go_simp
      refine hK.out _ _ HN4.out ?_
      clear hK K
      refine tree_act_alloc (o := ⟨_, _, _, _, _, _⟩) rfl rfl rfl tagInfo ?_
      intro b5 w5 hb5 hB5 hN5
      have HL5 : Hid (w2.heap.size ≤ b5) := Lib.hid (by have := HN4.out.size; omega)
      refine ⟨HN4.out.tr hN5, ?_⟩
      clear hb5
      simp only [Act.put, List.setIfInBounds_toArray, List.set_cons_zero, List.set_cons_succ]
      refine act_store (o := ⟨_, _, _, _, _, _⟩) (cs := secA TL) rfl rfl (.tmp 6) (.tmp 50) rfl (by rw [HSZ.out]; rfl) rfl rfl hB5 (by rw [HSZ.out]; rfl) (secA_one _) ?_
      intro w6 hB6 hF6
      have hN6 : New w2 w6 := (HN4.out.tr hN5).fr hF6 (fun k hk => by have := HL5.out; omega)
      refine ⟨hN6, ?_⟩
      simp only [Act.put, List.setIfInBounds_toArray, List.set_cons_zero, List.set_cons_succ]
      refine tree_done ?_
      exact hK'.out b5 w6 ⟨hN6, hB6⟩
    · refine act_alloc (o := ⟨_, _, _, _, _, _⟩) rfl rfl rfl tagInfo ?_
      intro b5 w5 hb5 hB5 hN5
      have HN5 : Hid (New w2 w5) := Lib.hid ((New.dr (New.refl w2)).tr hN5)
      have HB5 := Lib.hid hB5
      have HL5 : Hid (w2.heap.size ≤ b5) := Lib.hid (by rw [hb5]; exact Nat.le_refl _)
      refine ⟨HN5.out, ?_⟩
      clear hb5 hB5 hN5
      simp only [Act.put, List.setIfInBounds_toArray, List.set_cons_zero, List.set_cons_succ]
      refine tree_act (o := ⟨_, _, _, _, _, _⟩) rfl (fun K hK => ?_) (.inl rfl)
      go_simp
      refine (tagged_any tg gn A n c b w5 ((HL.out.new HN2.out).new HN5.out) (HN5.out.rd (HN2.out.rd HR.out)) HB.out HTL.out.1 HTL.out.2.1 HTL.out.2.2 (by have := HSN.out; omega)).mono ?_
      rintro e w4 ⟨rfl, hN4⟩
      rw [← HTLE.out]
      have HB4 := Lib.hid (hN4.blk HB5.out)
      have HN4 : Hid (New w2 w4) := Lib.hid (HN5.out.tr hN4)
      clear hN4
      go_simp
      refine hK.out _ _ HN4.out ?_
      clear hK K
      refine act_store (o := ⟨_, _, _, _, _, _⟩) (cs := secA TL) rfl rfl (.tmp 6) (.tmp 50) rfl (by rw [HSZ.out]; rfl) rfl rfl HB4.out (by rw [HSZ.out]; rfl) (secA_one _) ?_
      intro w6 hB6 hF6
      have hN6 : New w2 w6 := HN4.out.fr hF6 (fun k hk => by have := HL5.out; omega)
      refine ⟨hN6, ?_⟩
      simp only [Act.put, List.setIfInBounds_toArray, List.set_cons_zero, List.set_cons_succ]
      refine tree_done ?_
      exact hK'.out b5 w6 ⟨hN6, hB6⟩
  case h2 =>
    rintro b6 w5 ⟨hN5, hB5⟩
    have HN5 : Hid (New w w5) := Lib.hid (HN2.out.tr hN5)
    have HB6 := Lib.hid hB5
    clear hN5 hB5 q3 HTG HTLE HN2
    go_upto_region 12 with fail
    obtain ⟨w6, hw6⟩ : ∃ w6 : World, w6 = w5.alloc (.cells #[.nilIface, .slice none 0 0] 107) := ⟨_, rfl⟩
    obtain ⟨gw, hgw⟩ : ∃ gw, gw = w5.heap.size := ⟨_, rfl⟩
    have HN6 : Hid (New w w6) := Lib.hid (HN5.out.tr (by rw [hw6]; exact New.al (New.refl _) _))
    have HB66 : Hid (Blk w6 b6 65 (secA TL)) := Lib.hid (by rw [hw6]; exact HB6.out.alloc _)
    have HW6 : Hid (WrIn w6 gw gw []) := Lib.hid ⟨⟨none, 0, by rw [hw6, hgw]; exact Blk.new _ _ _, World.ownsRow_nil _ _ _ _⟩, Nat.le_refl _, fun x hx => nomatch hx⟩
    have HZ : Hid (w.heap.size ≤ gw ∧ b6 < gw) := Lib.hid (by have h1 := HN5.out.size; have h2 := HB6.out.lt; omega)
    rw [← hw6, ← hgw]
    clear hw6 hgw HB6 HN5
    have k2 : IntKind.u64.wrap (n : Int) = (n : Int) := by rw [IntKind.wrap_u64]; have := HSN.out; omega
    have n0 : ((4 : Nat) : Int) = 4 := rfl
    have HOV : Hid (∀ w', FW gw gw w6 w' → New w w') := Lib.hid fun w' hF => HN6.out.fr hF (fun k hk => by
      have := HZ.out
      rcases hk with rfl | hk
      · omega
      · have := hk.1; omega)
    refine wp_region_mixH (fun _ => True) [(true, 0), (true, 1), (true, 2), (true, 3), (true, 5), (true, 7), (false, 4), (false, 6), (false, 8), (false, 9), (true, 10), (true, 11), (true, 12), (true, 13), (true, 14)] (by kernel_rfl) (by kernel_rfl) trivial (fun hne => ?_)
    iterate 6 (refine mix_take (o := ⟨_, _, _, _, _, _⟩) rfl (fun K hK => ?_); go_simp; refine hK _ ?_; clear hK K)
    refine mix_act (o := ⟨_, _, _, _, _, _⟩) rfl (fun K hK => ?_) (.inl rfl)
    go_simp
    refine (wnum_any (WrIn.new HW6.out (New.dr (New.refl w6))) n 4 (by omega) (by have := HSN.out; omega) (by simp)).mono ?_
    rintro e w7 ⟨rfl, hW, hF⟩
    have HW7 := Lib.hid hW
    have HF7 : Hid (FW gw gw w6 w7) := Lib.hid ((FW.new (New.dr (New.refl w6))).tr hF)
    clear hW hF
    go_simp
    refine hK.out _ _ (fun _ => trivial) ?_
    clear hK K
    have HB67 : Hid (Blk w7 b6 65 (secA TL)) := Lib.hid (HF7.out.blk HB66.out (by decide) (by have := HZ.out; omega))
    refine mix_act (o := ⟨_, _, _, _, _, _⟩) rfl (fun K hK => ?_) (.inl rfl)
    go_simp
    refine (wraw_any HW7.out (some ⟨b6, 0, none⟩) 16 16 TL (blk_rd0 HB67.out HT16.out.1) HT16.out.2 (by simp [beL_len])).mono ?_
    rintro e w8 ⟨rfl, hW, hF⟩
    have HW8 := Lib.hid hW
    have HF8 : Hid (FW gw gw w6 w8) := Lib.hid (HF7.out.tr hF)
    clear hW hF
    go_simp
    refine hK.out _ _ (fun _ => trivial) ?_
    clear hK K
    refine mix_act (o := ⟨_, _, _, _, _, _⟩) rfl (fun K hK => ?_) (.inl rfl)
    go_simp
    refine (wraw_any HW8.out A n c b ((HOV.out _ HF8.out).rd HR.out) HB.out (by simp [beL_len]; have := HSN.out; have := HT16.out.1; omega)).mono ?_
    rintro e w9 ⟨rfl, hW, hF⟩
    obtain ⟨FL, hFL⟩ : ∃ FL, FL = l.frame b := ⟨_, rfl⟩
    have HFL := Lib.hid hFL
    have HW9 : Hid (WrIn w9 gw gw FL) := Lib.hid (by
      have e : [] ++ beL 4 n ++ TL ++ b = FL := by rw [hFL, HTE.out, ← HBN.out]; rfl
      rw [← e]
      exact hW)
    have HF9 : Hid (FW gw gw w6 w9) := Lib.hid (HF8.out.tr hF)
    have HFN : Hid (FL.length = n + 20) := Lib.hid (by rw [hFL, LG.frame_len, HBN.out])
    clear hW hF hFL
    go_simp
    refine hK.out _ _ (fun _ => trivial) ?_
    clear hK K
    refine mix_act (o := ⟨_, _, _, _, _, _⟩) rfl (fun K hK => ?_) (.inl rfl)
    go_simp
    refine (wdone_any HW9.out (by rw [HFN.out]; have := HSN.out; omega)).mono ?_
    rintro e w10 ⟨⟨B, d, rfl, hO⟩, hN10⟩
    have HO := Lib.hid hO
    have HN10 : Hid (New w w10) := Lib.hid ((HOV.out _ HF9.out).tr hN10)
    have HB610 : Hid (Blk w10 b6 65 (secA TL)) := Lib.hid (hN10.blk (HF9.out.blk HB66.out (by decide) (by have := HZ.out; omega)))
    clear hO hN10
    go_simp
    refine hK.out _ _ (fun _ => trivial) ?_
    clear hK K
    iterate 5 (refine mix_take (o := ⟨_, _, _, _, _, _⟩) rfl (fun K hK => ?_); go_simp; refine hK _ ?_; clear hK K)
    refine mix_done ?_
    clear hne k2 n0
    obtain ⟨gf, cf, hv, hfc, hfm⟩ := own_form HO.out (by have := HFN.out; omega)
    injection hv with hv1 hv2 hv3
    subst hv1 hv3
    have HCF : Hid (FL.length ≤ d ∧ d ≤ maxLen) := Lib.hid ⟨hfc, hfm⟩
    have HLG10 : Hid (Lg w10 gl gd l p.size) := Lib.hid (HLG.out.new HN10.out)
    have HD10 : Hid (Dk w10 base gd bs bf v p) := Lib.hid (HD.out.new HN10.out)
    have hchn : sn = chN FL.length 55 := by unfold chN; have := HSN.out; have := HFN.out; omega
    have hwr := write_log HLG10.out HD10.out b HB.out gf 0 FL.length d sn (by rw [HFL.out]) hfc hfm (by have := HSN.out; have := HFN.out; omega) hchn HSN.out.2.2.2.1 (own_isT' HO.out rfl) (fun j x hj => by
      rw [← HFL.out] at hj
      obtain ⟨g', o', he, -, -, hc⟩ := (Rd.own HO.out rfl).out (by have := HFN.out; omega) (by omega)
      injection he with he
      injection he with x1 x2
      subst x1 x2
      exact hc j x hj)
    rw [← HRS.out] at hwr
    have HWR := Lib.hid hwr
    clear hwr hchn hfc hfm hv2
    go_wp2_with fail
    refine HWR.out.mono ?_
    rintro e w11 ⟨rfl, v', hT⟩
    obtain ⟨ec, hec⟩ : ∃ ec, ec = RS.2 := ⟨_, rfl⟩
    rw [← hec]
    have HEC := Lib.hid hec
    have HT := Lib.hid hT
    have HLG11 : Hid (Lg w11 gl gd l p.size) := Lib.hid (HLG10.out.fr hT.fr (lg_apart HD10.out HLG10.out))
    have HNO : Hid (¬ DkOurs gd bs bf v' gl) := Lib.hid (lg_apart hT.dk HLG11.out)
    have HSZP : Hid (RS.1.size = p.size) := Lib.hid (by rw [HRS.out]; exact writeN_size _ _ _ _)
    have HOWN : Hid (∀ k, v'.ownBlock = some k → base ≤ k ∧ (v.ownBlock = some k ∨ w.heap.size ≤ k)) := Lib.hid fun k hk => ⟨(hT.own k hk).1, (hT.own k hk).2.imp id (fun h => Nat.le_trans HN10.out.size h)⟩
    have HFR : Hid (Fr (fun k => k = gl ∨ DkOurs gd bs bf v k) w w11) := Lib.hid ((HN10.out.toFr _).trans (hT.fr.mono (fun k _ h => .inr h)))
    have HB611 : Hid (Blk w11 b6 65 (secA TL)) := Lib.hid (HB610.out.fr hT.fr (dk_notBlk HD10.out HB610.out (fun e => Blk.ne_ HB610.out HD10.out.blk (by decide) e) (by decide)))
    clear hec hT HWR HO HF9 HF8 HF7 HW9 HW8 HW7 HB610 HB67 HB66
    by_cases h0 : ec = 0
    · have HAP0 : Hid (AP = (RS.1, l.step b, 0)) := Lib.hid (by rw [HAP.out, ← HEC.out, if_neg (by rw [h0]; simp)])
      rw [h0, errD_0]
      clear h0
      obtain ⟨u2, hu2⟩ : ∃ u2, u2 = us + sn := ⟨_, rfl⟩
      have c6 : w11.cell? ⟨gl, 4, none⟩ = some (.int .i64 us) := by rw [HLE.out.1]; exact HLG11.out.c4
      have f6 : w11.frozen? ⟨gl, 4, none⟩ = false := HLG11.out.blk.frozen 4
      have g1 : (us : Int) + (sn : Int) = (u2 : Int) := by omega
      have hb2 : u2 < 100000 := by have h1 := HSN.out; have h2 := HLE.out; have h3 := HLG.out.ok.fit; have h4 := HD.out.ok.s2; omega
      have g2 : IntKind.i64.wrap (u2 : Int) = (u2 : Int) := IntWalk.i64_in _ (by omega)
      have HU2 : Hid (u2 = l.used + secN b.length ∧ u2 ≤ l.size) := Lib.hid ⟨by rw [hu2, HLE.out.1, HBN.out, HSN.out.2.2.2.2], by have h1 := HSN.out; have h2 := HLE.out; omega⟩
      clear hu2 hb2
      go_upto_region 20 with fail
      obtain ⟨w7, hw7⟩ : ∃ w7, w7 = w11.setCell ⟨gl, 4, none⟩ (.int .i64 u2) := ⟨_, rfl⟩
      have HLG7 : Hid (Lg w7 gl gd { l with used := u2 } p.size) := Lib.hid (by rw [hw7]; exact HLG11.out.setUsed u2 HU2.out.2)
      have HF7 : Hid (Fr (fun k => k = gl) w11 w7) := Lib.hid (by rw [hw7]; exact (Fr.refl (fun k => k = gl) w11).setCell (p := ⟨gl, 4, none⟩) (fun _ => rfl) _)
      have HB7 : Hid (Blk w7 b6 65 (secA TL)) := Lib.hid (HB611.out.fr HF7.out (fun e => Blk.ne_ HB611.out HLG11.out.blk (by decide) e))
      rw [← hw7]
      clear hw7 c6 f6 g1 g2
      refine wp_region_list ?_
      refine wpList_step fun K hK => ?_
      go_simp
      refine hK _ _ ?_
      clear hK K
      refine wpList_load_any rfl _ rfl Tryd.underlying65 rfl (by rw [HSZ.out]; rfl) rfl HB7.out ?_
      iterate 2 (refine wpList_step fun K hK => ?_; go_simp; refine hK _ _ ?_; clear hK K)
      refine wpList_store_part rfl (.tmp 89) (.tmp 87) rfl rfl rfl HLG7.out.blk (cells := u8s TL) (by rw [u8s_len, HT16.out.1, lgA_len HLG7.out.ok.len]; decide) (by rw [u8s_len, HT16.out.1]; rfl) (u8s_one _) ?_
      intro w8 hb8 hf8
      have HB8 := Lib.hid hb8
      have HF8 := Lib.hid hf8
      clear hb8 hf8
      simp only [Act.put, List.setIfInBounds_toArray, List.set_cons_zero, List.set_cons_succ]
      go_wp2_with fail
      go_ret
      refine ⟨by rw [HAP0.out]; rfl, v', ?_⟩
      rw [HAP0.out]
      have hF : Fr (fun k => k = gl) w11 w8 := HF7.out.trans HF8.out
      refine ⟨HT.out.dk.fr hF (fun k hk => by rw [show k = gl from hk]; exact HNO.out), ⟨?_, ?_⟩, HFR.out.trans (hF.mono (fun k _ h => .inl h)), HOWN.out⟩
      · have := HB8.out
        rw [lgA_tag HLG7.out.ok.len gd TL HT16.out.1] at this
        have e : l.step b = { ({ l with used := u2 } : LG) with tag := TL } := by
          unfold LG.step
          rw [← HU2.out.1, ← HTE.out]
        rw [e]
        exact this
      · show LG.Ok (l.step b) RS.1.size
        rw [HSZP.out]
        exact ⟨HLG.out.ok.fit, HLG.out.ok.gen, by show l.used + secN b.length ≤ l.size; rw [← HU2.out.1]; exact HU2.out.2, tagL_len _ _ _, tagL_byt _ _ _⟩
    · have HAP0 : Hid (AP = (RS.1, { l with broken := true }, ec)) := Lib.hid (by rw [HAP.out, ← HEC.out, if_pos h0])
      have hE := errD_n h0
      have HE := Lib.hid hE
      rw [hE]
      clear h0 hE
      have c6 : w11.cell? ⟨gl, 21, none⟩ = some (.bool false) := by rw [← HLE.out.2.2.2]; exact HLG11.out.cb
      have f6 : w11.frozen? ⟨gl, 21, none⟩ = false := HLG11.out.blk.frozen 21
      go_wp2_with fail
      go_ret
      have hF : Fr (fun k => k = gl) w11 (w11.setCell ⟨gl, 21, none⟩ (.bool true)) := (Fr.refl (fun k => k = gl) w11).setCell (p := ⟨gl, 21, none⟩) (fun _ => rfl) _
      refine ⟨by rw [HAP0.out]; show _ = Ending.returned (errD ec); rw [HE.out]; rfl, v', ?_⟩
      rw [HAP0.out]
      refine ⟨HT.out.dk.fr hF (fun k hk => by rw [show k = gl from hk]; exact HNO.out), ?_, HFR.out.trans (hF.mono (fun k _ h => .inl h)), HOWN.out⟩
      show Lg _ gl gd { l with broken := true } RS.1.size
      rw [HSZP.out]
      exact HLG11.out.setBroken true
theorem app_any {q : Nat → Prop} (h : Lg w gl gd l p.size) (hD : Dk w base gd bs bf v p) (hL : ShaIn 3 2 w) (A : Option Addr) (n c : Nat) (b : List Int) (hR : Rd q w 1 A n (u8s b)) (hb : Byt b) (hn : n ≤ maxLen) :
    Calls Tryd.prog 25 #[.pointer (some ⟨gl, 0, none⟩), .slice A n c] w (AppSays w base gl gd bs bf v (appL p l b)) := by
  have hbn : b.length = n := by have := hR.1; rw [u8s_len] at this; omega
  by_cases hc : secN n = 0 ∨ l.broken = true ∨ l.size - l.used < secN n
  · refine (app_bad h hD A n c hn hc).mono fun e w' ⟨he, hN⟩ => ?_
    have ha : appL p l b = (p, l, if secN n = 0 then 2 else if l.broken = true then 10 else 8) := by
      unfold appL
      rw [hbn]
      by_cases h0 : secN n = 0
      · rw [if_pos h0, if_pos h0]
      · rw [if_neg h0, if_neg h0]
        by_cases h1 : l.broken = true
        · rw [if_pos h1, if_pos h1]
        · rw [if_neg h1, if_neg h1, if_pos (by rcases hc with hc | hc | hc; exact absurd hc h0; exact absurd hc h1; exact hc)]
    rw [ha]
    exact ⟨he, v, LgTo.same h hD hN⟩
  · exact app_good h hD hL A n c b hR hb hbn (fun e => hc (.inl e)) (by cases hbr : l.broken with | true => exact absurd (.inr (.inl hbr)) hc | false => rfl) (fun e => hc (.inr (.inr e)))
end
end Go.Proofs.YteeclfejgpgooaaDoor
/- The reference's frame of a record in sectors. Its tables are as they were laid. No condition else but that the numbers fit. -/
namespace Go.Proofs.YteeclfejgpgooaaDoor
set_option linter.unusedVariables false
set_option linter.unusedSimpArgs false
set_option linter.constructorNameAsVariable false
open Go.RowKit Go.Sort

/-- The reference's log as a value, its tag in memory. -/
def rlV (l : LG) (A : Option Addr) (c : Nat) : Array Value := #[.int .i64 l.first, .int .i64 l.size, .int .i64 l.used, .int .u32 l.gen, .slice A 16 c, .bool l.broken]
structure RlIn (w : World) (l : LG) (A : Option Addr) : Prop where
  tag : RdT 5 w 1 A 16 (u8s l.tag)
  byt : Byt l.tag
  gen : l.gen < 4294967296
  num : l.first ≤ 100000 ∧ l.size ≤ 100000 ∧ l.used ≤ 100000
theorem RlIn.new {w w' : World} {l : LG} {A : Option Addr} (h : RlIn w l A) (hN : New w w') : RlIn w' l A := ⟨h.tag.new hN, h.byt, h.gen, h.num⟩
theorem RlIn.fr {w w' : World} {S : Nat → Prop} {l : LG} {A : Option Addr} (h : RlIn w l A) (hF : Fr S w w') (hS : ∀ k, S k → ¬ IsT 5 w k) : RlIn w' l A := ⟨h.tag.fr hF hS, h.byt, h.gen, h.num⟩
theorem elSec : ElemOf Tryd.prog 22 35 64 64 := ElemOf.mk' (z := .agg (secA sec0)) Tryd.underlying22 (by kernel_rfl) rfl (by decide)
def secF (l : LG) (b : List Int) (k : Nat) : List Value := (List.range k).flatMap fun i => u8s (l.sec b i)
theorem secF_succ (l : LG) (b : List Int) (k : Nat) : secF l b (k + 1) = secF l b k ++ u8s (l.sec b k) := by simp [secF, List.range_succ]
/-- A part, j bytes of it. -/
def LG.rawJ (l : LG) (b : List Int) (k j : Nat) : List Int := l.hdr k ++ ((l.frame b).drop (55 * k)).take j
theorem LG.rawJ_len (l : LG) (b : List Int) (k j : Nat) (h : 55 * k + j ≤ (l.frame b).length) : (l.rawJ b k j).length = 9 + j := by
  unfold LG.rawJ
  rw [List.length_append, LG.hdr_len, List.length_take, List.length_drop]
  omega
theorem LG.rawJ_succ (l : LG) (b : List Int) (k j : Nat) (h : 55 * k + j < (l.frame b).length) : l.rawJ b k (j + 1) = l.rawJ b k j ++ [at_ (l.frame b) (55 * k + j)] := by
  unfold LG.rawJ at_
  have hl : j < ((l.frame b).drop (55 * k)).length := by rw [List.length_drop]; omega
  rw [List.take_succ_eq_append_getElem hl, List.append_assoc, List.getElem_drop, List.getD_eq_getElem?_getD, List.getElem?_eq_getElem h]
  rfl
theorem LG.rawJ_all (l : LG) (b : List Int) (k j : Nat) (h : j = 55 ∨ (j ≤ 55 ∧ (l.frame b).length ≤ 55 * k + j)) : l.rawJ b k j = l.raw b k := by
  unfold LG.rawJ LG.raw
  rcases h with rfl | ⟨h1, h2⟩
  · rfl
  · have hl : ((l.frame b).drop (55 * k)).length ≤ j := by rw [List.length_drop]; omega
    rw [List.take_of_length_le hl, List.take_of_length_le (by omega)]
/-- What is known in a round over a sector's bytes. -/
structure FjI (W1 wr : World) (l : LG) (b : List Int) (k j : Nat) (x out : Value) : Prop where
  new : New W1 wr
  x : wr.ownsRow W1.heap.size 5 1 x (9 + j) (u8s (l.rawJ b k j))
  out : wr.ownsRow W1.heap.size 35 64 out k (secF l b k)
set_option maxHeartbeats 2000000 in
set_option maxRecDepth 100000 in
theorem rframe_any {q : Nat → Prop} {w : World} (l : LG) (A : Option Addr) (c : Nat) (B : Option Addr) (n d : Nat) (b : List Int) (hL : RShaIn 1 0 w) (hI : RlIn w l A) (hR : Rd q w 1 B n (u8s b)) (hb : Byt b) (hn : n ≤ 70000) (K : Nat) (hK : K = (n + 74) / 55) :
    Calls Tryd.prog 53 #[.agg (rlV l A c), .slice B n d] w fun e w' => (∃ C cc, e = .returned (.slice C K cc) ∧ w'.ownsRow w.heap.size 35 64 (.slice C K cc) K (secF l b K)) ∧ New w w' := by
  have HL := Lib.hid hL
  have HI := Lib.hid hI
  have HR := Lib.hid hR
  have HB := Lib.hid hb
  have HX : Hid (b.length = n) := Lib.hid (by have := hR.1; rw [u8s_len] at this; omega)
  have hgen := hI.gen
  have hnum := hI.num
  obtain ⟨gen, hgn⟩ : ∃ gen, gen = l.gen := ⟨_, rfl⟩
  obtain ⟨us, hus⟩ : ∃ us, us = l.used := ⟨_, rfl⟩
  obtain ⟨fs, hfs⟩ : ∃ fs, fs = l.first := ⟨_, rfl⟩
  obtain ⟨sz, hsz⟩ : ∃ sz, sz = l.size := ⟨_, rfl⟩
  obtain ⟨bk, hbk⟩ : ∃ bk, bk = l.broken := ⟨_, rfl⟩
  have hus1 : us ≤ 100000 := by omega
  have HEQ : Hid (gen = l.gen ∧ us = l.used) := Lib.hid ⟨hgn, hus⟩
  have HT : Hid (∀ W, New w W → RdT 5 W 1 A 16 (u8s l.tag)) := Lib.hid fun W hN => hI.tag.new hN
  have HTAG := Lib.hid (fun W (hN : New w W) => rtag_any (p := IsT 5 W) A c l.tag l.gen B n d b W (hL.new hN) (hI.tag.new hN) hI.byt (hN.rd hR) hb hI.gen (by omega))
  have HG4 : Hid (gen < 4294967296) := Lib.hid (by omega)
  have HFL : Hid ((l.frame b).length = n + 20) := Lib.hid (by rw [LG.frame_len, HX.out])
  have HFB : Hid (Byt (l.frame b)) := Lib.hid (l.frame_byt hb)
  have HN4 := Lib.hid (fun W => number_any n 4 W (by omega) (by omega))
  have HG8 := Lib.hid (fun W => number_any gen 4 W (by omega) (by omega))
  have HK := Lib.hid hK
  rw [← hgn] at HTAG
  unfold rlV
  rw [← hfs, ← hsz, ← hus, ← hgn, ← hbk]
  clear hL hI hR hb hgn hus hfs hsz hbk hgen hnum hK
  go_enter Tryd.func53, Tryd.ntmps53
  go_upto_region 1 with fail
  obtain ⟨w0, hw0⟩ : ∃ w0 : World, w0 = w.alloc (.cells #[.int .i64 fs, .int .i64 sz, .int .i64 us, .int .u32 gen, .slice A 16 c, .bool bk] 45) := ⟨_, rfl⟩
  obtain ⟨b2, hb2⟩ : ∃ b2, b2 = w.heap.size := ⟨_, rfl⟩
  have HN0 : Hid (New w w0) := Lib.hid (by rw [hw0]; exact New.al (New.refl _) _)
  have HB2 : Hid (Blk w0 b2 45 #[.int .i64 fs, .int .i64 sz, .int .i64 us, .int .u32 gen, .slice A 16 c, .bool bk]) := Lib.hid (by rw [hw0, hb2]; exact Blk.new _ _ _)
  rw [← hw0, ← hb2]
  have HZ := Lib.hid hb2
  clear hw0 hb2
  have kn : IntKind.u64.wrap (n : Int) = (n : Int) := by rw [IntKind.wrap_u64]; omega
  have q4 : ∀ p : HW (New w0), p.w.cell? ⟨b2, 4, none⟩ = some (.slice A 16 c) := fun p => (p.h.blk HB2.out).cell 4
  have q3 : ∀ p : HW (New w0), p.w.cell? ⟨b2, 3, none⟩ = some (.int .u32 gen) := fun p => (p.h.blk HB2.out).cell 3
  refine wp_region_mixH (New w0) [(true, 0), (true, 1), (true, 2), (true, 4), (true, 5), (true, 6), (true, 7), (true, 8), (true, 11), (false, 3), (false, 9), (false, 10), (false, 12), (true, 13)] (by kernel_rfl) (by kernel_rfl) (New.dr (New.refl w0)) (fun hne => ?_)
  iterate 9 (refine mix_take (o := ⟨_, _, _, _, _, _⟩) rfl (fun K hK => ?_); go_simp; refine hK _ ?_; clear hK K)
  refine mix_act (o := ⟨_, _, _, _, _, _⟩) rfl (fun K hK => ?_) (.inl rfl)
  go_simp
  refine (HN4.out w0.drew).mono ?_
  rintro e w1 ⟨rfl, hO1, hN1⟩
  have HO1 := Lib.hid hO1
  have HN1 : Hid (New w0 w1) := Lib.hid ((New.dr (New.refl w0)).tr hN1)
  obtain ⟨b1, hb1⟩ : ∃ b1, b1 = w0.drew.heap.size := ⟨_, rfl⟩
  rw [← hb1] at HO1 ⊢
  have HB1 : Hid (w0.heap.size ≤ b1) := Lib.hid (by rw [hb1]; exact Nat.le_refl _)
  clear hO1 hN1 hb1
  go_simp
  refine hK.out _ _ (fun _ => HN1.out) ?_
  clear hK K
  refine mix_act (o := ⟨_, _, _, _, _, _⟩) rfl (fun K hK => ?_) (.inl rfl)
  go_simp
  refine (HTAG.out w1 (HN0.out.tr HN1.out)).mono ?_
  rintro e w2 ⟨⟨A2, c2, rfl, hO2⟩, hN2⟩
  have HO2 := Lib.hid hO2
  have HO12 := Lib.hid (hN2.own HO1.out)
  have HN2 : Hid (New w0 w2) := Lib.hid (HN1.out.tr hN2)
  clear hO2 hN2
  go_simp
  refine hK.out _ _ (fun _ => HN2.out) ?_
  clear hK K
  refine mix_act (o := ⟨_, _, _, _, _, _⟩) rfl (fun K hK => ?_) (.inl rfl)
  refine step_app elB _ rfl (.tmp 14) (.tmp 20) rfl b1 (.slice (some ⟨b1, 0, none⟩) 4 4) 4 (u8s (beL 4 n)) rfl HO12.out A2 16 c2 (u8s (tagL l.tag gen b)) rfl (Rd.own HO2.out rfl) (u8s_one _) (by unfold maxLen; omega) (by omega) (by have := (own_lt HO12.out b1 rfl).2; omega) ?_
  intro A3 c3 w3 hO3 hF3 _
  have HO3 := Lib.hid hO3
  have HN3 : Hid (New w0 w3) := Lib.hid (HN2.out.fr hF3 (fun k hk => by have hk' := (own_lt HO12.out k hk).1; have := HB1.out; omega))
  clear hO3 hF3
  refine hK.out _ _ (fun _ => HN3.out) ?_
  clear hK K
  simp only [Act.put, List.setIfInBounds_toArray, List.set_cons_zero, List.set_cons_succ]
  refine mix_act (o := ⟨_, _, _, _, _, _⟩) rfl (fun K hK => ?_) (.inl rfl)
  refine step_app elB _ rfl (.tmp 21) (.tmp 22) rfl b1 (.slice A3 (4 + 16) c3) (4 + 16) _ rfl HO3.out B n d (u8s b) rfl ((HN0.out.tr HN3.out).rd HR.out) (u8s_one _) (by unfold maxLen; omega) (by omega) (by have := HN3.out.size; have := (own_lt HO1.out b1 rfl).2; have := HB1.out; have := (own_lt HO12.out b1 rfl).2; have := HO3.out.1; rcases HO3.out.2 with h | ⟨g, cap, cur, hv, hb, hh, hr⟩ <;> first | (have := h.1; omega) | (have := lt_of_block hh; omega)) ?_
  intro A4 c4 w4 hO4 hF4 _
  have HO4 : Hid (w4.ownsRow b1 5 1 (.slice A4 (n + 20) c4) (n + 20) (u8s (l.frame b))) := Lib.hid (by
    have e1 : 4 + 16 + n = n + 20 := by omega
    have e2 : u8s (l.frame b) = u8s (beL 4 n) ++ u8s (tagL l.tag gen b) ++ u8s b := by rw [LG.frame, HX.out, HEQ.out.1]; simp [u8s]
    rw [e2]
    rw [e1] at hO4
    exact hO4)
  have HN4' : Hid (New w0 w4) := Lib.hid (HN3.out.fr hF4 (fun k hk => by have hk' := (own_lt HO3.out k hk).1; have := HB1.out; omega))
  clear hO4 hF4
  refine hK.out _ _ (fun _ => HN4'.out) ?_
  clear hK K
  rw [show 4 + 16 + n = n + 20 by omega]
  simp only [Act.put, List.setIfInBounds_toArray, List.set_cons_zero, List.set_cons_succ]
  refine mix_take (o := ⟨_, _, _, _, _, _⟩) rfl (fun K hK => ?_); go_simp; refine hK _ ?_; clear hK K
  refine mix_done ?_
  clear q4 q3 HTAG HN4
  obtain ⟨fl, hfl⟩ : ∃ fl, fl = n + 20 := ⟨_, rfl⟩
  rw [← hfl] at HO4 HFL ⊢
  have HFL2 := Lib.hid hfl
  have hfl1 : fl ≤ 70020 := by omega
  clear hfl
  obtain ⟨gf, capf, hvf, hNf, hCf⟩ := own_form HO4.out (by have := HFL2.out; omega)
  injection hvf with hv1 hv2 hv3
  subst hv1 hv3
  have HFC : Hid (∀ j v, (u8s (l.frame b))[j]? = some v → w4.cell? ⟨gf, j, none⟩ = some v) := Lib.hid fun j v hj => by
    obtain ⟨g', o', he, -, -, hc⟩ := (Rd.own HO4.out rfl).out (by have := HFL2.out; omega) (by omega)
    injection he with he
    injection he with e1 e2
    subst e1 e2
    have := hc j v hj
    rwa [Nat.zero_add] at this
  clear hv2 hNf hCf
  go_wp2_with fail
  have HO0 : Hid (w4.ownsRow w4.heap.size 35 64 (.slice none 0 0) 0 (secF l b 0)) := Lib.hid (World.ownsRow_nil _ _ _ _)
  have HNN : Hid (New w4 w4) := Lib.hid (New.refl _)
  have hKK : K ≤ 1300 := by have := HK.out; have := HFL2.out; omega
  go_loopw [6, 7] (fun out i wr => ∃ (k : Nat) (C : Option Addr) (cc : Nat), k ≤ K ∧ i = .int .i64 k ∧ out = .slice C k cc ∧ Hid (New w4 wr) ∧ Hid (wr.ownsRow w4.heap.size 35 64 (.slice C k cc) k (secF l b k))) (fun _ i _ => K - (intOf i).toNat)
  case atStart => exact ⟨0, none, 0, Nat.zero_le _, rfl, rfl, HNN, HO0⟩
  case round =>
    clear HO0 HNN kn
    obtain ⟨k, C, cc, hk, rfl, rfl, HN, HO⟩ := hrel
    by_cases hlt : k < K
    · obtain ⟨k55, hk55⟩ : ∃ k55, k55 = 55 * k := ⟨_, rfl⟩
      have e1 : (55 : Int) * (k : Int) = (k55 : Int) := by omega
      have e2 : IntKind.i64.wrap (k55 : Int) = (k55 : Int) := IntWalk.i64_in _ (by omega)
      have hkf : k55 < fl := by have := HK.out; have := HFL2.out; omega
      have hkf' : (k55 : Int) < (fl : Int) := by omega
      obtain ⟨jn, hjn⟩ : ∃ jn, jn = us + k := ⟨_, rfl⟩
      have e3 : (us : Int) + (k : Int) = (jn : Int) := by omega
      have e4 : IntKind.i64.wrap (jn : Int) = (jn : Int) := IntWalk.i64_in _ (by omega)
      have kj : IntKind.u64.wrap (jn : Int) = (jn : Int) := by rw [IntKind.wrap_u64]; omega
      have kg : IntKind.u64.wrap (gen : Int) = (gen : Int) := by have := HG4.out; rw [IntKind.wrap_u64]; omega
      have hk0 : (0 : Int) ≤ (k : Int) := by omega
      have HJ : Hid (jn < 1000000) := Lib.hid (by omega)
      have HNJ := Lib.hid (fun W => number_any jn 4 W (by omega) (by omega))
      have HK55 := Lib.hid hk55
      have HHD : Hid (l.hdr k = beL 4 gen ++ beL 4 jn ++ [if k = 0 then 1 else 2]) := Lib.hid (by rw [hjn, LG.hdr, HEQ.out.1, HEQ.out.2])
      clear hk55 hjn
      have q2 : ∀ p : HW (New wr), p.w.cell? ⟨b2, 2, none⟩ = some (.int .i64 us) := fun p => ((HN4'.out.tr HN.out).tr p.h).blk HB2.out |>.cell 2
      have q3 : ∀ p : HW (New wr), p.w.cell? ⟨b2, 3, none⟩ = some (.int .u32 gen) := fun p => ((HN4'.out.tr HN.out).tr p.h).blk HB2.out |>.cell 3
      go_wp2_with fail
      refine wp_region_mixH (New wr) [(true, 0), (true, 1), (true, 2), (true, 4), (true, 5), (true, 6), (true, 7), (true, 8), (false, 3), (false, 9), (false, 10), (true, 11)] (by kernel_rfl) (by kernel_rfl) (New.dr (New.refl wr)) (fun hne => ?_)
      iterate 8 (refine mix_take (o := ⟨_, _, _, _, _, _⟩) rfl (fun K hK => ?_); go_simp; refine hK _ ?_; clear hK K)
      refine mix_act (o := ⟨_, _, _, _, _, _⟩) rfl (fun K hK => ?_) (.inl rfl)
      go_simp
      refine (HG8.out wr.drew).mono ?_
      rintro e w1 ⟨rfl, hO1, hN1⟩
      have HX1 := Lib.hid hO1
      have HM1 : Hid (New wr w1) := Lib.hid ((New.dr (New.refl wr)).tr hN1)
      obtain ⟨b8, hb8⟩ : ∃ b8, b8 = wr.drew.heap.size := ⟨_, rfl⟩
      rw [← hb8] at HX1 ⊢
      have HB8 : Hid (wr.heap.size ≤ b8) := Lib.hid (by rw [hb8]; exact Nat.le_refl _)
      clear hO1 hN1 hb8
      go_simp
      refine hK.out _ _ (fun _ => HM1.out) ?_
      clear hK K
      refine mix_act (o := ⟨_, _, _, _, _, _⟩) rfl (fun K hK => ?_) (.inl rfl)
      go_simp
      refine (HNJ.out w1).mono ?_
      rintro e w2 ⟨rfl, hO2, hN2⟩
      have HX2 := Lib.hid hO2
      have HX12 := Lib.hid (hN2.own HX1.out)
      have HM2 : Hid (New wr w2) := Lib.hid (HM1.out.tr hN2)
      clear hO2 hN2
      go_simp
      refine hK.out _ _ (fun _ => HM2.out) ?_
      clear hK K
      refine mix_act (o := ⟨_, _, _, _, _, _⟩) rfl (fun K hK => ?_) (.inl rfl)
      refine step_app elB _ rfl (.tmp 34) (.tmp 40) rfl b8 (.slice (some ⟨b8, 0, none⟩) 4 4) 4 (u8s (beL 4 gen)) rfl HX12.out (some ⟨w1.heap.size, 0, none⟩) 4 4 (u8s (beL 4 jn)) rfl (Rd.own HX2.out rfl) (u8s_one _) (by unfold maxLen; omega) (by omega) (by have := (own_lt HX12.out b8 rfl).2; omega) ?_
      intro A3 c3 w3 hO3 hF3 _
      have HX3 := Lib.hid hO3
      have HM3 : Hid (New wr w3) := Lib.hid (HM2.out.fr hF3 (fun k hk => by have hk' := (own_lt HX12.out k hk).1; have := HB8.out; omega))
      clear hO3 hF3
      refine hK.out _ _ (fun _ => HM3.out) ?_
      clear hK K
      simp only [Act.put, List.setIfInBounds_toArray, List.set_cons_zero, List.set_cons_succ]
      refine mix_take (o := ⟨_, _, _, _, _, _⟩) rfl (fun K hK => ?_); go_simp; refine hK _ ?_; clear hK K
      refine mix_done ?_
      clear q2 q3 e3 e4 kj kg HG4
      have HX3' : Hid (w3.ownsRow b8 5 1 (.slice A3 8 c3) 8 (u8s (beL 4 gen) ++ u8s (beL 4 jn))) := Lib.hid HX3.out
      have hb3 : b8 ≤ w3.heap.size := by
        have := (own_lt HX12.out b8 rfl).2
        have := HM2.out.size
        have h3 := HM3.out.size
        rcases HX3.out.2 with h | ⟨g, cap, cur, hv, hb, hh, hr⟩
        · have := h.1; omega
        · have := lt_of_block hh; omega
      have HB3 := Lib.hid hb3
      clear hb3
      by_cases hkz : k = 0
      · have hkb : ((k : Int) == 0) = true := by simp; omega
        have HKD : Hid ((if k = 0 then 1 else 2 : Int) = 1) := Lib.hid (if_pos hkz)
        clear hkz
        go_wp2_with ((with_reducible refine atOp ⟨some 46, _, _, _, _, _⟩ ?_); refine wpList_app elB _ rfl (.tmp 44) (.tmp 45) rfl b8 (.slice A3 8 c3) 8 _ rfl (New.own (New.al (New.refl w3) _) HX3'.out) (some ⟨w3.heap.size, 0, none⟩) 1 1 [.int .u8 1] rfl (Rd.ofBlk (p := fun _ => True) (Blk.new w3 5 #[.int .u8 1]) 1 1 rfl trivial) (by simp [Value.oneCell']) (by unfold maxLen; omega) (by omega) (by have := HB3.out; simp; omega) ?_; intro A5 c5 w5 hO5 hF5 hA5; have HF5 := Lib.hid hF5; have HO5 := Lib.hid hO5; clear hO5 hF5 hA5)
        have HM5 : Hid (New wr w5) := Lib.hid ((New.al HM3.out _).fr HF5.out (fun k hk => by have hk' := (own_lt HX3'.out k hk).1; have := HB8.out; omega))
        have HFJ : Hid (FjI w4 w5 l b k 0 (.slice A5 9 c5) (.slice C k cc)) := Lib.hid ⟨HN.out.tr HM5.out, by
          have e1 : u8s (l.rawJ b k 0) = u8s (beL 4 gen) ++ u8s (beL 4 jn) ++ [.int .u8 1] := by
            unfold LG.rawJ
            rw [HHD.out, HKD.out]
            simp [u8s]
          rw [e1]
          refine own_base HO5.out (fun k hk => ?_)
          have h1 := (own_lt HO5.out k hk).1
          have h2 := HB8.out
          have h3 := HN.out.size
          omega, HM5.out.own HO.out⟩
        clear HO5 HF5 HX1 HX2 HX12 HX3 HX3' HM1 HM2 HM3
        have hkb2 := hkb
        clear hkb
        go_wp2_with fail
        go_loopw [8, 9] (fun x i wr => ∃ (j i0 m : Nat) (X : Option Addr) (xc : Nat), j ≤ 55 ∧ Hid (i0 = k55 + j) ∧ Hid (m = 9 + j) ∧ i0 ≤ fl ∧ m ≤ 64 ∧ i = .int .i64 i0 ∧ x = .slice X m xc ∧ Hid (FjI w4 wr l b k j (.slice X m xc) (.slice C k cc))) (fun _ i _ => fl - (intOf i).toNat)
        case atStart => exact ⟨0, k55, 9, A5, c5, by omega, Lib.hid rfl, Lib.hid rfl, by omega, by omega, rfl, rfl, HFJ⟩
        case round =>
          clear HFJ
          obtain ⟨j, i, m, X, xc, hj, HI, HM, hif, hm64, rfl, rfl, HF⟩ := hrel
          have hi0 : (0 : Int) ≤ (i : Int) := by omega
          by_cases hgo : j < 55 ∧ i < fl
          · obtain ⟨hj5, hi5⟩ := hgo
            have g1 : (i : Int) < (k55 : Int) + 55 := by have := HI.out; omega
            have g2 : (i : Int) < (fl : Int) := by omega
            have hif2 : i < (l.frame b).length := by rw [HFL.out]; exact hi5
            obtain ⟨x, hx⟩ : ∃ x, x = at_ (l.frame b) i := ⟨_, rfl⟩
            have cx : wr.cell? ⟨gf, i, none⟩ = some (.int .u8 x) := HF.out.new.cell_ (HFC.out i _ (by
              unfold u8s at_ at *
              rw [List.getElem?_map, List.getElem?_eq_getElem hif2, hx, List.getD_eq_getElem?_getD, List.getElem?_eq_getElem hif2]
              rfl))
            have HS : Hid (l.rawJ b k (j + 1) = l.rawJ b k j ++ [x]) := Lib.hid (by
              rw [l.rawJ_succ b k j (by rw [HFL.out]; have := HI.out; have := HK55.out; omega), hx]
              have e : 55 * k + j = i := by have := HI.out; have := HK55.out; omega
              rw [e])
            have HXO : Hid (wr.ownsRow w4.heap.size 5 1 (.slice X m xc) m (u8s (l.rawJ b k j))) := Lib.hid (by have := HF.out.x; rwa [← HM.out] at this)
            have HOO : Hid (wr.ownsRow w4.heap.size 35 64 (.slice C k cc) k (secF l b k)) := Lib.hid HF.out.out
            clear hx hif2
            go_wp2_with ((with_reducible refine atOp ⟨some 71, _, _, _, _, _⟩ ?_); refine wpList_app elB _ rfl (.tmp 65) (.tmp 70) rfl w4.heap.size (.slice X m xc) m _ rfl (New.own (New.al (New.refl wr) _) HXO.out) (some ⟨wr.heap.size, 0, none⟩) 1 1 [.int .u8 x] rfl (Rd.ofBlk (p := fun _ => True) (Blk.new wr 5 #[.int .u8 x]) 1 1 rfl trivial) (by simp [Value.oneCell']) (by unfold maxLen; omega) (by omega) (New.al HF.out.new _).size ?_; intro A6 c6 w6 hO6 hF6 hA6; have HF6 := Lib.hid hF6; have HO6 := Lib.hid hO6; clear hO6 hF6 hA6)
            have HFJ2 : Hid (FjI w4 w6 l b k (j + 1) (.slice A6 (m + 1) c6) (.slice C k cc)) := Lib.hid ⟨(New.al HF.out.new _).fr HF6.out (fun k hk => (own_lt HXO.out k hk).1), by
              have e1 : 9 + (j + 1) = m + 1 := by have := HM.out; omega
              have e2 : u8s (l.rawJ b k (j + 1)) = u8s (l.rawJ b k j) ++ [.int .u8 x] := by rw [HS.out]; simp [u8s]
              rw [e1, e2]
              exact HO6.out, own_fr (New.own (New.al (New.refl wr) _) HOO.out) HF6.out (fun j hj hs => by
                have t1 := own_isT' HOO.out hj
                exact IsT.not_own HXO.out (by decide) hs t1)⟩
            go_roundw
            case rel => exact ⟨j + 1, i + 1, m + 1, A6, c6, by omega, Lib.hid (by have := HI.out; omega), Lib.hid (by have := HM.out; omega), by omega, by have := HM.out; omega, by go_num, rfl, HFJ2⟩
            case measure => simp [intOf]; omega
          · have HRAW : Hid (l.rawJ b k j = l.raw b k) := Lib.hid (l.rawJ_all b k j (by
              rw [HFL.out]
              have := HI.out
              have := HK55.out
              by_cases h55 : j < 55
              · exact .inr ⟨hj, by have : ¬ i < fl := fun h => hgo ⟨h55, h⟩; omega⟩
              · exact .inl (by omega)))
            have HXO : Hid (wr.ownsRow w4.heap.size 5 1 (.slice X m xc) m (u8s (l.raw b k))) := Lib.hid (by have := HF.out.x; rwa [← HM.out, HRAW.out] at this)
            have HXL : Hid ((l.raw b k).length = m) := Lib.hid (by have := HXO.out.1; rw [u8s_len] at this; omega)
            have HOO : Hid (wr.ownsRow w4.heap.size 35 64 (.slice C k cc) k (secF l b k)) := Lib.hid HF.out.out
            have hp64 : (secA (l.sec b k)).size = 64 := by rw [secA_size, LG.sec, pad64_len (l.raw_len b k)]
            have HP64 := Lib.hid hp64
            have HNr : Hid (New w4 wr) := Lib.hid HF.out.new
            have HSP : Hid (splice (u8s sec0) 0 (u8s (l.raw b k)) = u8s (l.sec b k)) := Lib.hid (splice_pad (l.raw_len b k))
            clear hp64
            have hgo2 : ¬ (i : Int) < (k55 : Int) + 55 ∨ ((i : Int) < (k55 : Int) + 55 ∧ ¬ (i : Int) < (fl : Int)) := by
              have := HI.out
              by_cases h55 : j < 55
              · exact .inr ⟨by omega, by have : ¬ i < fl := fun h => hgo ⟨h55, h⟩; omega⟩
              · exact .inl (by omega)
            clear hgo HI HM HF
            rcases hgo2 with g1 | ⟨g1, g2⟩
            · go_upto_region 15 with fail
              obtain ⟨w6, hw6⟩ : ∃ w6 : World, w6 = wr.alloc (.cells #[.int .u8 0, .int .u8 0, .int .u8 0, .int .u8 0, .int .u8 0, .int .u8 0, .int .u8 0, .int .u8 0, .int .u8 0, .int .u8 0, .int .u8 0, .int .u8 0, .int .u8 0, .int .u8 0, .int .u8 0, .int .u8 0, .int .u8 0, .int .u8 0, .int .u8 0, .int .u8 0, .int .u8 0, .int .u8 0, .int .u8 0, .int .u8 0, .int .u8 0, .int .u8 0, .int .u8 0, .int .u8 0, .int .u8 0, .int .u8 0, .int .u8 0, .int .u8 0, .int .u8 0, .int .u8 0, .int .u8 0, .int .u8 0, .int .u8 0, .int .u8 0, .int .u8 0, .int .u8 0, .int .u8 0, .int .u8 0, .int .u8 0, .int .u8 0, .int .u8 0, .int .u8 0, .int .u8 0, .int .u8 0, .int .u8 0, .int .u8 0, .int .u8 0, .int .u8 0, .int .u8 0, .int .u8 0, .int .u8 0, .int .u8 0, .int .u8 0, .int .u8 0, .int .u8 0, .int .u8 0, .int .u8 0, .int .u8 0, .int .u8 0, .int .u8 0] 35) := ⟨_, rfl⟩
              obtain ⟨b10, hb10⟩ : ∃ b10, b10 = wr.heap.size := ⟨_, rfl⟩
              have hz : (#[.int .u8 0, .int .u8 0, .int .u8 0, .int .u8 0, .int .u8 0, .int .u8 0, .int .u8 0, .int .u8 0, .int .u8 0, .int .u8 0, .int .u8 0, .int .u8 0, .int .u8 0, .int .u8 0, .int .u8 0, .int .u8 0, .int .u8 0, .int .u8 0, .int .u8 0, .int .u8 0, .int .u8 0, .int .u8 0, .int .u8 0, .int .u8 0, .int .u8 0, .int .u8 0, .int .u8 0, .int .u8 0, .int .u8 0, .int .u8 0, .int .u8 0, .int .u8 0, .int .u8 0, .int .u8 0, .int .u8 0, .int .u8 0, .int .u8 0, .int .u8 0, .int .u8 0, .int .u8 0, .int .u8 0, .int .u8 0, .int .u8 0, .int .u8 0, .int .u8 0, .int .u8 0, .int .u8 0, .int .u8 0, .int .u8 0, .int .u8 0, .int .u8 0, .int .u8 0, .int .u8 0, .int .u8 0, .int .u8 0, .int .u8 0, .int .u8 0, .int .u8 0, .int .u8 0, .int .u8 0, .int .u8 0, .int .u8 0, .int .u8 0, .int .u8 0] : Array Value) = secA sec0 := by rfl
              have HB10 : Hid (Blk w6 b10 35 (u8s sec0).toArray) := Lib.hid (by rw [hw6, hb10, hz]; exact Blk.new _ _ _)
              have HN6 : Hid (New wr w6) := Lib.hid (by rw [hw6]; exact New.al (New.refl _) _)
              have HL10 : Hid (b10 = wr.heap.size) := Lib.hid hb10
              rw [← hw6, ← hb10]
              clear hw6 hb10 hz
              go_wp2_with (first
                | ((with_reducible refine atOp ⟨some 74, _, _, _, _, _⟩ ?_); refine wpList_copyF (q := fun k => (Value.slice X m xc).ownBlock = some k) rfl (.tmp 72) (.tmp 73) 43 43 rfl 5 Tryd.underlying43 rfl b10 0 64 64 X m xc rfl rfl (u8s sec0) 35 HB10.out (u8s (l.raw b k)) (by rw [u8s_len, HXL.out]; exact (Nat.min_eq_left hm64).symm) ⟨m, u8s (l.raw b k), Rd.own (HN6.out.own HXO.out) rfl, List.take_length⟩ (by rw [u8s_len, u8s_len, HXL.out, sec0_ok.1]; omega) (u8s_one _) ?_; intro w7 hb7 hf7; rw [HSP.out] at hb7; have HB7 : Hid (Blk w7 b10 35 (secA (l.sec b k))) := Lib.hid hb7; have HF7 := Lib.hid hf7; clear hb7 hf7; have HN7 : Hid (New wr w7) := Lib.hid (HN6.out.fr HF7.out (fun k hk => by have := HL10.out; omega)))
                | ((with_reducible refine atOp ⟨some 76, .load _ _, _, _, _, _⟩ ?_); refine wpList_load_any rfl _ rfl Tryd.underlying35 rfl (by rw [HP64.out]; rfl) rfl HB7.out ?_)
                | ((with_reducible refine atOp ⟨some 77, .buildSlice _ _ _, _, _, _, _⟩ ?_); refine wpList_bs1 elSec (by decide) rfl (.tmp 76) rfl (secA (l.sec b k)) rfl HP64.out ?_)
                | ((with_reducible refine atOp ⟨some 78, _, _, _, _, _⟩ ?_); refine wpList_app elSec _ rfl (.tmp 75) (.tmp 77) rfl w4.heap.size (.slice C k cc) k _ rfl (New.own (New.al HN7.out _) HOO.out) (some ⟨w7.heap.size, 0, none⟩) 1 1 (u8s (l.sec b k)) rfl (by have h := Rd.ofBlk (p := fun _ => True) (Blk.new w7 35 (secA (l.sec b k))) 64 1 (by rw [HP64.out]) trivial; rwa [secA_list] at h) (u8s_one _) (by unfold maxLen; omega) (by omega) (New.al (HNr.out.tr HN7.out) _).size ?_; intro A8 c8 w8 hO8 hF8 hA8; have HF8 := Lib.hid hF8; have HO8 := Lib.hid hO8; clear hO8 hF8 hA8))
              have HN8 : Hid (New w4 w8) := Lib.hid ((New.al (HNr.out.tr HN7.out) _).fr HF8.out (fun k hk => (own_lt HOO.out k hk).1))
              have HO9 : Hid (w8.ownsRow w4.heap.size 35 64 (.slice A8 (k + 1) c8) (k + 1) (secF l b (k + 1))) := Lib.hid (by rw [secF_succ]; exact HO8.out)
              go_roundw
              case rel => exact ⟨k + 1, A8, c8, by omega, by go_num, rfl, HN8, HO9⟩
              case measure => simp [intOf]; omega
            · go_upto_region 15 with fail
              obtain ⟨w6, hw6⟩ : ∃ w6 : World, w6 = wr.alloc (.cells #[.int .u8 0, .int .u8 0, .int .u8 0, .int .u8 0, .int .u8 0, .int .u8 0, .int .u8 0, .int .u8 0, .int .u8 0, .int .u8 0, .int .u8 0, .int .u8 0, .int .u8 0, .int .u8 0, .int .u8 0, .int .u8 0, .int .u8 0, .int .u8 0, .int .u8 0, .int .u8 0, .int .u8 0, .int .u8 0, .int .u8 0, .int .u8 0, .int .u8 0, .int .u8 0, .int .u8 0, .int .u8 0, .int .u8 0, .int .u8 0, .int .u8 0, .int .u8 0, .int .u8 0, .int .u8 0, .int .u8 0, .int .u8 0, .int .u8 0, .int .u8 0, .int .u8 0, .int .u8 0, .int .u8 0, .int .u8 0, .int .u8 0, .int .u8 0, .int .u8 0, .int .u8 0, .int .u8 0, .int .u8 0, .int .u8 0, .int .u8 0, .int .u8 0, .int .u8 0, .int .u8 0, .int .u8 0, .int .u8 0, .int .u8 0, .int .u8 0, .int .u8 0, .int .u8 0, .int .u8 0, .int .u8 0, .int .u8 0, .int .u8 0, .int .u8 0] 35) := ⟨_, rfl⟩
              obtain ⟨b10, hb10⟩ : ∃ b10, b10 = wr.heap.size := ⟨_, rfl⟩
              have hz : (#[.int .u8 0, .int .u8 0, .int .u8 0, .int .u8 0, .int .u8 0, .int .u8 0, .int .u8 0, .int .u8 0, .int .u8 0, .int .u8 0, .int .u8 0, .int .u8 0, .int .u8 0, .int .u8 0, .int .u8 0, .int .u8 0, .int .u8 0, .int .u8 0, .int .u8 0, .int .u8 0, .int .u8 0, .int .u8 0, .int .u8 0, .int .u8 0, .int .u8 0, .int .u8 0, .int .u8 0, .int .u8 0, .int .u8 0, .int .u8 0, .int .u8 0, .int .u8 0, .int .u8 0, .int .u8 0, .int .u8 0, .int .u8 0, .int .u8 0, .int .u8 0, .int .u8 0, .int .u8 0, .int .u8 0, .int .u8 0, .int .u8 0, .int .u8 0, .int .u8 0, .int .u8 0, .int .u8 0, .int .u8 0, .int .u8 0, .int .u8 0, .int .u8 0, .int .u8 0, .int .u8 0, .int .u8 0, .int .u8 0, .int .u8 0, .int .u8 0, .int .u8 0, .int .u8 0, .int .u8 0, .int .u8 0, .int .u8 0, .int .u8 0, .int .u8 0] : Array Value) = secA sec0 := by rfl
              have HB10 : Hid (Blk w6 b10 35 (u8s sec0).toArray) := Lib.hid (by rw [hw6, hb10, hz]; exact Blk.new _ _ _)
              have HN6 : Hid (New wr w6) := Lib.hid (by rw [hw6]; exact New.al (New.refl _) _)
              have HL10 : Hid (b10 = wr.heap.size) := Lib.hid hb10
              rw [← hw6, ← hb10]
              clear hw6 hb10 hz
              go_wp2_with (first
                | ((with_reducible refine atOp ⟨some 74, _, _, _, _, _⟩ ?_); refine wpList_copyF (q := fun k => (Value.slice X m xc).ownBlock = some k) rfl (.tmp 72) (.tmp 73) 43 43 rfl 5 Tryd.underlying43 rfl b10 0 64 64 X m xc rfl rfl (u8s sec0) 35 HB10.out (u8s (l.raw b k)) (by rw [u8s_len, HXL.out]; exact (Nat.min_eq_left hm64).symm) ⟨m, u8s (l.raw b k), Rd.own (HN6.out.own HXO.out) rfl, List.take_length⟩ (by rw [u8s_len, u8s_len, HXL.out, sec0_ok.1]; omega) (u8s_one _) ?_; intro w7 hb7 hf7; rw [HSP.out] at hb7; have HB7 : Hid (Blk w7 b10 35 (secA (l.sec b k))) := Lib.hid hb7; have HF7 := Lib.hid hf7; clear hb7 hf7; have HN7 : Hid (New wr w7) := Lib.hid (HN6.out.fr HF7.out (fun k hk => by have := HL10.out; omega)))
                | ((with_reducible refine atOp ⟨some 76, .load _ _, _, _, _, _⟩ ?_); refine wpList_load_any rfl _ rfl Tryd.underlying35 rfl (by rw [HP64.out]; rfl) rfl HB7.out ?_)
                | ((with_reducible refine atOp ⟨some 77, .buildSlice _ _ _, _, _, _, _⟩ ?_); refine wpList_bs1 elSec (by decide) rfl (.tmp 76) rfl (secA (l.sec b k)) rfl HP64.out ?_)
                | ((with_reducible refine atOp ⟨some 78, _, _, _, _, _⟩ ?_); refine wpList_app elSec _ rfl (.tmp 75) (.tmp 77) rfl w4.heap.size (.slice C k cc) k _ rfl (New.own (New.al HN7.out _) HOO.out) (some ⟨w7.heap.size, 0, none⟩) 1 1 (u8s (l.sec b k)) rfl (by have h := Rd.ofBlk (p := fun _ => True) (Blk.new w7 35 (secA (l.sec b k))) 64 1 (by rw [HP64.out]) trivial; rwa [secA_list] at h) (u8s_one _) (by unfold maxLen; omega) (by omega) (New.al (HNr.out.tr HN7.out) _).size ?_; intro A8 c8 w8 hO8 hF8 hA8; have HF8 := Lib.hid hF8; have HO8 := Lib.hid hO8; clear hO8 hF8 hA8))
              have HN8 : Hid (New w4 w8) := Lib.hid ((New.al (HNr.out.tr HN7.out) _).fr HF8.out (fun k hk => (own_lt HOO.out k hk).1))
              have HO9 : Hid (w8.ownsRow w4.heap.size 35 64 (.slice A8 (k + 1) c8) (k + 1) (secF l b (k + 1))) := Lib.hid (by rw [secF_succ]; exact HO8.out)
              go_roundw
              case rel => exact ⟨k + 1, A8, c8, by omega, by go_num, rfl, HN8, HO9⟩
              case measure => simp [intOf]; omega
      · have hkb : ((k : Int) == 0) = false := by simp; omega
        have HKD : Hid ((if k = 0 then 1 else 2 : Int) = 2) := Lib.hid (if_neg hkz)
        clear hkz
        go_wp2_with ((with_reducible refine atOp ⟨some 49, _, _, _, _, _⟩ ?_); refine wpList_app elB _ rfl (.tmp 47) (.tmp 48) rfl b8 (.slice A3 8 c3) 8 _ rfl (New.own (New.al (New.refl w3) _) HX3'.out) (some ⟨w3.heap.size, 0, none⟩) 1 1 [.int .u8 2] rfl (Rd.ofBlk (p := fun _ => True) (Blk.new w3 5 #[.int .u8 2]) 1 1 rfl trivial) (by simp [Value.oneCell']) (by unfold maxLen; omega) (by omega) (by have := HB3.out; simp; omega) ?_; intro A5 c5 w5 hO5 hF5 hA5; have HF5 := Lib.hid hF5; have HO5 := Lib.hid hO5; clear hO5 hF5 hA5)
        have HM5 : Hid (New wr w5) := Lib.hid ((New.al HM3.out _).fr HF5.out (fun k hk => by have hk' := (own_lt HX3'.out k hk).1; have := HB8.out; omega))
        have HFJ : Hid (FjI w4 w5 l b k 0 (.slice A5 9 c5) (.slice C k cc)) := Lib.hid ⟨HN.out.tr HM5.out, by
          have e1 : u8s (l.rawJ b k 0) = u8s (beL 4 gen) ++ u8s (beL 4 jn) ++ [.int .u8 2] := by
            unfold LG.rawJ
            rw [HHD.out, HKD.out]
            simp [u8s]
          rw [e1]
          refine own_base HO5.out (fun k hk => ?_)
          have h1 := (own_lt HO5.out k hk).1
          have h2 := HB8.out
          have h3 := HN.out.size
          omega, HM5.out.own HO.out⟩
        clear HO5 HF5 HX1 HX2 HX12 HX3 HX3' HM1 HM2 HM3
        have hkb2 := hkb
        clear hkb
        go_wp2_with fail
        go_loopw [8, 9] (fun x i wr => ∃ (j i0 m : Nat) (X : Option Addr) (xc : Nat), j ≤ 55 ∧ Hid (i0 = k55 + j) ∧ Hid (m = 9 + j) ∧ i0 ≤ fl ∧ m ≤ 64 ∧ i = .int .i64 i0 ∧ x = .slice X m xc ∧ Hid (FjI w4 wr l b k j (.slice X m xc) (.slice C k cc))) (fun _ i _ => fl - (intOf i).toNat)
        case atStart => exact ⟨0, k55, 9, A5, c5, by omega, Lib.hid rfl, Lib.hid rfl, by omega, by omega, rfl, rfl, HFJ⟩
        case round =>
          clear HFJ
          obtain ⟨j, i, m, X, xc, hj, HI, HM, hif, hm64, rfl, rfl, HF⟩ := hrel
          have hi0 : (0 : Int) ≤ (i : Int) := by omega
          by_cases hgo : j < 55 ∧ i < fl
          · obtain ⟨hj5, hi5⟩ := hgo
            have g1 : (i : Int) < (k55 : Int) + 55 := by have := HI.out; omega
            have g2 : (i : Int) < (fl : Int) := by omega
            have hif2 : i < (l.frame b).length := by rw [HFL.out]; exact hi5
            obtain ⟨x, hx⟩ : ∃ x, x = at_ (l.frame b) i := ⟨_, rfl⟩
            have cx : wr.cell? ⟨gf, i, none⟩ = some (.int .u8 x) := HF.out.new.cell_ (HFC.out i _ (by
              unfold u8s at_ at *
              rw [List.getElem?_map, List.getElem?_eq_getElem hif2, hx, List.getD_eq_getElem?_getD, List.getElem?_eq_getElem hif2]
              rfl))
            have HS : Hid (l.rawJ b k (j + 1) = l.rawJ b k j ++ [x]) := Lib.hid (by
              rw [l.rawJ_succ b k j (by rw [HFL.out]; have := HI.out; have := HK55.out; omega), hx]
              have e : 55 * k + j = i := by have := HI.out; have := HK55.out; omega
              rw [e])
            have HXO : Hid (wr.ownsRow w4.heap.size 5 1 (.slice X m xc) m (u8s (l.rawJ b k j))) := Lib.hid (by have := HF.out.x; rwa [← HM.out] at this)
            have HOO : Hid (wr.ownsRow w4.heap.size 35 64 (.slice C k cc) k (secF l b k)) := Lib.hid HF.out.out
            clear hx hif2
            go_wp2_with ((with_reducible refine atOp ⟨some 71, _, _, _, _, _⟩ ?_); refine wpList_app elB _ rfl (.tmp 65) (.tmp 70) rfl w4.heap.size (.slice X m xc) m _ rfl (New.own (New.al (New.refl wr) _) HXO.out) (some ⟨wr.heap.size, 0, none⟩) 1 1 [.int .u8 x] rfl (Rd.ofBlk (p := fun _ => True) (Blk.new wr 5 #[.int .u8 x]) 1 1 rfl trivial) (by simp [Value.oneCell']) (by unfold maxLen; omega) (by omega) (New.al HF.out.new _).size ?_; intro A6 c6 w6 hO6 hF6 hA6; have HF6 := Lib.hid hF6; have HO6 := Lib.hid hO6; clear hO6 hF6 hA6)
            have HFJ2 : Hid (FjI w4 w6 l b k (j + 1) (.slice A6 (m + 1) c6) (.slice C k cc)) := Lib.hid ⟨(New.al HF.out.new _).fr HF6.out (fun k hk => (own_lt HXO.out k hk).1), by
              have e1 : 9 + (j + 1) = m + 1 := by have := HM.out; omega
              have e2 : u8s (l.rawJ b k (j + 1)) = u8s (l.rawJ b k j) ++ [.int .u8 x] := by rw [HS.out]; simp [u8s]
              rw [e1, e2]
              exact HO6.out, own_fr (New.own (New.al (New.refl wr) _) HOO.out) HF6.out (fun j hj hs => by
                have t1 := own_isT' HOO.out hj
                exact IsT.not_own HXO.out (by decide) hs t1)⟩
            go_roundw
            case rel => exact ⟨j + 1, i + 1, m + 1, A6, c6, by omega, Lib.hid (by have := HI.out; omega), Lib.hid (by have := HM.out; omega), by omega, by have := HM.out; omega, by go_num, rfl, HFJ2⟩
            case measure => simp [intOf]; omega
          · have HRAW : Hid (l.rawJ b k j = l.raw b k) := Lib.hid (l.rawJ_all b k j (by
              rw [HFL.out]
              have := HI.out
              have := HK55.out
              by_cases h55 : j < 55
              · exact .inr ⟨hj, by have : ¬ i < fl := fun h => hgo ⟨h55, h⟩; omega⟩
              · exact .inl (by omega)))
            have HXO : Hid (wr.ownsRow w4.heap.size 5 1 (.slice X m xc) m (u8s (l.raw b k))) := Lib.hid (by have := HF.out.x; rwa [← HM.out, HRAW.out] at this)
            have HXL : Hid ((l.raw b k).length = m) := Lib.hid (by have := HXO.out.1; rw [u8s_len] at this; omega)
            have HOO : Hid (wr.ownsRow w4.heap.size 35 64 (.slice C k cc) k (secF l b k)) := Lib.hid HF.out.out
            have hp64 : (secA (l.sec b k)).size = 64 := by rw [secA_size, LG.sec, pad64_len (l.raw_len b k)]
            have HP64 := Lib.hid hp64
            have HNr : Hid (New w4 wr) := Lib.hid HF.out.new
            have HSP : Hid (splice (u8s sec0) 0 (u8s (l.raw b k)) = u8s (l.sec b k)) := Lib.hid (splice_pad (l.raw_len b k))
            clear hp64
            have hgo2 : ¬ (i : Int) < (k55 : Int) + 55 ∨ ((i : Int) < (k55 : Int) + 55 ∧ ¬ (i : Int) < (fl : Int)) := by
              have := HI.out
              by_cases h55 : j < 55
              · exact .inr ⟨by omega, by have : ¬ i < fl := fun h => hgo ⟨h55, h⟩; omega⟩
              · exact .inl (by omega)
            clear hgo HI HM HF
            rcases hgo2 with g1 | ⟨g1, g2⟩
            · go_upto_region 15 with fail
              obtain ⟨w6, hw6⟩ : ∃ w6 : World, w6 = wr.alloc (.cells #[.int .u8 0, .int .u8 0, .int .u8 0, .int .u8 0, .int .u8 0, .int .u8 0, .int .u8 0, .int .u8 0, .int .u8 0, .int .u8 0, .int .u8 0, .int .u8 0, .int .u8 0, .int .u8 0, .int .u8 0, .int .u8 0, .int .u8 0, .int .u8 0, .int .u8 0, .int .u8 0, .int .u8 0, .int .u8 0, .int .u8 0, .int .u8 0, .int .u8 0, .int .u8 0, .int .u8 0, .int .u8 0, .int .u8 0, .int .u8 0, .int .u8 0, .int .u8 0, .int .u8 0, .int .u8 0, .int .u8 0, .int .u8 0, .int .u8 0, .int .u8 0, .int .u8 0, .int .u8 0, .int .u8 0, .int .u8 0, .int .u8 0, .int .u8 0, .int .u8 0, .int .u8 0, .int .u8 0, .int .u8 0, .int .u8 0, .int .u8 0, .int .u8 0, .int .u8 0, .int .u8 0, .int .u8 0, .int .u8 0, .int .u8 0, .int .u8 0, .int .u8 0, .int .u8 0, .int .u8 0, .int .u8 0, .int .u8 0, .int .u8 0, .int .u8 0] 35) := ⟨_, rfl⟩
              obtain ⟨b10, hb10⟩ : ∃ b10, b10 = wr.heap.size := ⟨_, rfl⟩
              have hz : (#[.int .u8 0, .int .u8 0, .int .u8 0, .int .u8 0, .int .u8 0, .int .u8 0, .int .u8 0, .int .u8 0, .int .u8 0, .int .u8 0, .int .u8 0, .int .u8 0, .int .u8 0, .int .u8 0, .int .u8 0, .int .u8 0, .int .u8 0, .int .u8 0, .int .u8 0, .int .u8 0, .int .u8 0, .int .u8 0, .int .u8 0, .int .u8 0, .int .u8 0, .int .u8 0, .int .u8 0, .int .u8 0, .int .u8 0, .int .u8 0, .int .u8 0, .int .u8 0, .int .u8 0, .int .u8 0, .int .u8 0, .int .u8 0, .int .u8 0, .int .u8 0, .int .u8 0, .int .u8 0, .int .u8 0, .int .u8 0, .int .u8 0, .int .u8 0, .int .u8 0, .int .u8 0, .int .u8 0, .int .u8 0, .int .u8 0, .int .u8 0, .int .u8 0, .int .u8 0, .int .u8 0, .int .u8 0, .int .u8 0, .int .u8 0, .int .u8 0, .int .u8 0, .int .u8 0, .int .u8 0, .int .u8 0, .int .u8 0, .int .u8 0, .int .u8 0] : Array Value) = secA sec0 := by rfl
              have HB10 : Hid (Blk w6 b10 35 (u8s sec0).toArray) := Lib.hid (by rw [hw6, hb10, hz]; exact Blk.new _ _ _)
              have HN6 : Hid (New wr w6) := Lib.hid (by rw [hw6]; exact New.al (New.refl _) _)
              have HL10 : Hid (b10 = wr.heap.size) := Lib.hid hb10
              rw [← hw6, ← hb10]
              clear hw6 hb10 hz
              go_wp2_with (first
                | ((with_reducible refine atOp ⟨some 74, _, _, _, _, _⟩ ?_); refine wpList_copyF (q := fun k => (Value.slice X m xc).ownBlock = some k) rfl (.tmp 72) (.tmp 73) 43 43 rfl 5 Tryd.underlying43 rfl b10 0 64 64 X m xc rfl rfl (u8s sec0) 35 HB10.out (u8s (l.raw b k)) (by rw [u8s_len, HXL.out]; exact (Nat.min_eq_left hm64).symm) ⟨m, u8s (l.raw b k), Rd.own (HN6.out.own HXO.out) rfl, List.take_length⟩ (by rw [u8s_len, u8s_len, HXL.out, sec0_ok.1]; omega) (u8s_one _) ?_; intro w7 hb7 hf7; rw [HSP.out] at hb7; have HB7 : Hid (Blk w7 b10 35 (secA (l.sec b k))) := Lib.hid hb7; have HF7 := Lib.hid hf7; clear hb7 hf7; have HN7 : Hid (New wr w7) := Lib.hid (HN6.out.fr HF7.out (fun k hk => by have := HL10.out; omega)))
                | ((with_reducible refine atOp ⟨some 76, .load _ _, _, _, _, _⟩ ?_); refine wpList_load_any rfl _ rfl Tryd.underlying35 rfl (by rw [HP64.out]; rfl) rfl HB7.out ?_)
                | ((with_reducible refine atOp ⟨some 77, .buildSlice _ _ _, _, _, _, _⟩ ?_); refine wpList_bs1 elSec (by decide) rfl (.tmp 76) rfl (secA (l.sec b k)) rfl HP64.out ?_)
                | ((with_reducible refine atOp ⟨some 78, _, _, _, _, _⟩ ?_); refine wpList_app elSec _ rfl (.tmp 75) (.tmp 77) rfl w4.heap.size (.slice C k cc) k _ rfl (New.own (New.al HN7.out _) HOO.out) (some ⟨w7.heap.size, 0, none⟩) 1 1 (u8s (l.sec b k)) rfl (by have h := Rd.ofBlk (p := fun _ => True) (Blk.new w7 35 (secA (l.sec b k))) 64 1 (by rw [HP64.out]) trivial; rwa [secA_list] at h) (u8s_one _) (by unfold maxLen; omega) (by omega) (New.al (HNr.out.tr HN7.out) _).size ?_; intro A8 c8 w8 hO8 hF8 hA8; have HF8 := Lib.hid hF8; have HO8 := Lib.hid hO8; clear hO8 hF8 hA8))
              have HN8 : Hid (New w4 w8) := Lib.hid ((New.al (HNr.out.tr HN7.out) _).fr HF8.out (fun k hk => (own_lt HOO.out k hk).1))
              have HO9 : Hid (w8.ownsRow w4.heap.size 35 64 (.slice A8 (k + 1) c8) (k + 1) (secF l b (k + 1))) := Lib.hid (by rw [secF_succ]; exact HO8.out)
              go_roundw
              case rel => exact ⟨k + 1, A8, c8, by omega, by go_num, rfl, HN8, HO9⟩
              case measure => simp [intOf]; omega
            · go_upto_region 15 with fail
              obtain ⟨w6, hw6⟩ : ∃ w6 : World, w6 = wr.alloc (.cells #[.int .u8 0, .int .u8 0, .int .u8 0, .int .u8 0, .int .u8 0, .int .u8 0, .int .u8 0, .int .u8 0, .int .u8 0, .int .u8 0, .int .u8 0, .int .u8 0, .int .u8 0, .int .u8 0, .int .u8 0, .int .u8 0, .int .u8 0, .int .u8 0, .int .u8 0, .int .u8 0, .int .u8 0, .int .u8 0, .int .u8 0, .int .u8 0, .int .u8 0, .int .u8 0, .int .u8 0, .int .u8 0, .int .u8 0, .int .u8 0, .int .u8 0, .int .u8 0, .int .u8 0, .int .u8 0, .int .u8 0, .int .u8 0, .int .u8 0, .int .u8 0, .int .u8 0, .int .u8 0, .int .u8 0, .int .u8 0, .int .u8 0, .int .u8 0, .int .u8 0, .int .u8 0, .int .u8 0, .int .u8 0, .int .u8 0, .int .u8 0, .int .u8 0, .int .u8 0, .int .u8 0, .int .u8 0, .int .u8 0, .int .u8 0, .int .u8 0, .int .u8 0, .int .u8 0, .int .u8 0, .int .u8 0, .int .u8 0, .int .u8 0, .int .u8 0] 35) := ⟨_, rfl⟩
              obtain ⟨b10, hb10⟩ : ∃ b10, b10 = wr.heap.size := ⟨_, rfl⟩
              have hz : (#[.int .u8 0, .int .u8 0, .int .u8 0, .int .u8 0, .int .u8 0, .int .u8 0, .int .u8 0, .int .u8 0, .int .u8 0, .int .u8 0, .int .u8 0, .int .u8 0, .int .u8 0, .int .u8 0, .int .u8 0, .int .u8 0, .int .u8 0, .int .u8 0, .int .u8 0, .int .u8 0, .int .u8 0, .int .u8 0, .int .u8 0, .int .u8 0, .int .u8 0, .int .u8 0, .int .u8 0, .int .u8 0, .int .u8 0, .int .u8 0, .int .u8 0, .int .u8 0, .int .u8 0, .int .u8 0, .int .u8 0, .int .u8 0, .int .u8 0, .int .u8 0, .int .u8 0, .int .u8 0, .int .u8 0, .int .u8 0, .int .u8 0, .int .u8 0, .int .u8 0, .int .u8 0, .int .u8 0, .int .u8 0, .int .u8 0, .int .u8 0, .int .u8 0, .int .u8 0, .int .u8 0, .int .u8 0, .int .u8 0, .int .u8 0, .int .u8 0, .int .u8 0, .int .u8 0, .int .u8 0, .int .u8 0, .int .u8 0, .int .u8 0, .int .u8 0] : Array Value) = secA sec0 := by rfl
              have HB10 : Hid (Blk w6 b10 35 (u8s sec0).toArray) := Lib.hid (by rw [hw6, hb10, hz]; exact Blk.new _ _ _)
              have HN6 : Hid (New wr w6) := Lib.hid (by rw [hw6]; exact New.al (New.refl _) _)
              have HL10 : Hid (b10 = wr.heap.size) := Lib.hid hb10
              rw [← hw6, ← hb10]
              clear hw6 hb10 hz
              go_wp2_with (first
                | ((with_reducible refine atOp ⟨some 74, _, _, _, _, _⟩ ?_); refine wpList_copyF (q := fun k => (Value.slice X m xc).ownBlock = some k) rfl (.tmp 72) (.tmp 73) 43 43 rfl 5 Tryd.underlying43 rfl b10 0 64 64 X m xc rfl rfl (u8s sec0) 35 HB10.out (u8s (l.raw b k)) (by rw [u8s_len, HXL.out]; exact (Nat.min_eq_left hm64).symm) ⟨m, u8s (l.raw b k), Rd.own (HN6.out.own HXO.out) rfl, List.take_length⟩ (by rw [u8s_len, u8s_len, HXL.out, sec0_ok.1]; omega) (u8s_one _) ?_; intro w7 hb7 hf7; rw [HSP.out] at hb7; have HB7 : Hid (Blk w7 b10 35 (secA (l.sec b k))) := Lib.hid hb7; have HF7 := Lib.hid hf7; clear hb7 hf7; have HN7 : Hid (New wr w7) := Lib.hid (HN6.out.fr HF7.out (fun k hk => by have := HL10.out; omega)))
                | ((with_reducible refine atOp ⟨some 76, .load _ _, _, _, _, _⟩ ?_); refine wpList_load_any rfl _ rfl Tryd.underlying35 rfl (by rw [HP64.out]; rfl) rfl HB7.out ?_)
                | ((with_reducible refine atOp ⟨some 77, .buildSlice _ _ _, _, _, _, _⟩ ?_); refine wpList_bs1 elSec (by decide) rfl (.tmp 76) rfl (secA (l.sec b k)) rfl HP64.out ?_)
                | ((with_reducible refine atOp ⟨some 78, _, _, _, _, _⟩ ?_); refine wpList_app elSec _ rfl (.tmp 75) (.tmp 77) rfl w4.heap.size (.slice C k cc) k _ rfl (New.own (New.al HN7.out _) HOO.out) (some ⟨w7.heap.size, 0, none⟩) 1 1 (u8s (l.sec b k)) rfl (by have h := Rd.ofBlk (p := fun _ => True) (Blk.new w7 35 (secA (l.sec b k))) 64 1 (by rw [HP64.out]) trivial; rwa [secA_list] at h) (u8s_one _) (by unfold maxLen; omega) (by omega) (New.al (HNr.out.tr HN7.out) _).size ?_; intro A8 c8 w8 hO8 hF8 hA8; have HF8 := Lib.hid hF8; have HO8 := Lib.hid hO8; clear hO8 hF8 hA8))
              have HN8 : Hid (New w4 w8) := Lib.hid ((New.al (HNr.out.tr HN7.out) _).fr HF8.out (fun k hk => (own_lt HOO.out k hk).1))
              have HO9 : Hid (w8.ownsRow w4.heap.size 35 64 (.slice A8 (k + 1) c8) (k + 1) (secF l b (k + 1))) := Lib.hid (by rw [secF_succ]; exact HO8.out)
              go_roundw
              case rel => exact ⟨k + 1, A8, c8, by omega, by go_num, rfl, HN8, HO9⟩
              case measure => simp [intOf]; omega
    · have hkK : k = K := by omega
      subst hkK
      have hkf : ¬ 55 * (k : Int) < (fl : Int) := by have := HK.out; have := HFL2.out; omega
      go_wp2_with fail
      go_ret
      exact ⟨⟨C, cc, rfl, own_base HO.out (fun j hj => by have := (own_lt HO.out j hj).1; have := HN4'.out.size; have := HN0.out.size; omega)⟩, (HN0.out.tr HN4'.out).tr HN.out⟩
end Go.Proofs.YteeclfejgpgooaaDoor
/- A record's sectors, compared with its frame byte by byte: in plain words. No condition. -/
namespace Go.Proofs.YteeclfejgpgooaaDoor
set_option linter.unusedVariables false
set_option linter.unusedSimpArgs false
set_option linter.constructorNameAsVariable false
open Go.RowKit Go.Sort

/-- How much of the i-th sector is asked. -/
def endL (n k i : Nat) : Nat := if i + 1 = k then 9 + (n + 19) % 55 + 1 else 64
theorem raw_end {l : LG} {b : List Int} {n k i : Nat} (hb : b.length = n) (hk : k = (n + 74) / 55) (hi : i < k) : (l.raw b i).length = endL n k i := by
  unfold LG.raw endL
  rw [List.length_append, LG.hdr_len, List.length_take, List.length_drop, LG.frame_len, hb]
  by_cases h : i + 1 = k
  · rw [if_pos h]; omega
  · rw [if_neg h]; omega
theorem endL_le (n k i : Nat) : endL n k i ≤ 64 := by unfold endL; split <;> omega
theorem sec_take {l : LG} {b : List Int} {n k i : Nat} (hb : b.length = n) (hk : k = (n + 74) / 55) (hi : i < k) : (l.sec b i).take (endL n k i) = l.raw b i := by
  have h := raw_end (l := l) hb hk hi
  unfold LG.sec pad64
  rw [List.take_append_of_le_length (by omega), ← h, List.take_length]
/-- The i-th part of a frame that is read. -/
theorem frame_part {p : DP} (hp : p.Ok) (l : LG) : ∀ (k i : Nat), i < k → ((frameL p l k).drop (55 * i)).take 55 = (sct p l i).drop 9
  | 0, i, hi => absurd hi (by omega)
  | k + 1, i, hi => by
    rw [frameL_succ]
    have hl := frameL_len hp l k
    have hs : ((sct p l k).drop 9).length = 55 := by rw [List.length_drop, (sct_ok hp l k).1]
    by_cases h : i = k
    · subst h
      rw [List.drop_append_of_le_length (by omega), List.drop_of_length_le (by omega), List.nil_append, List.take_of_length_le (by omega)]
    · rw [List.drop_append_of_le_length (by omega), List.take_append_of_le_length (by rw [List.length_drop]; omega)]
      exact frame_part hp l k i (by omega)
theorem ext_parts : ∀ (k : Nat) (x y : List Int), x.length ≤ 55 * k → y.length ≤ 55 * k → (∀ i, i < k → (x.drop (55 * i)).take 55 = (y.drop (55 * i)).take 55) → x = y
  | 0, x, y, hx, hy, _ => by
    have h1 : x = [] := List.eq_nil_of_length_eq_zero (by omega)
    have h2 : y = [] := List.eq_nil_of_length_eq_zero (by omega)
    rw [h1, h2]
  | k + 1, x, y, hx, hy, h => by
    have h0 := h 0 (by omega)
    rw [Nat.mul_zero, List.drop_zero, List.drop_zero] at h0
    have h1 : x.drop 55 = y.drop 55 := ext_parts k _ _ (by rw [List.length_drop]; omega) (by rw [List.length_drop]; omega) fun i hi => by
      have h2 := h (i + 1) (by omega)
      rw [List.drop_drop, List.drop_drop]
      rwa [show 55 + 55 * i = 55 * (i + 1) by omega]
    rw [← List.take_append_drop 55 x, ← List.take_append_drop 55 y, h0, h1]
section
variable {p : DP} {l : LG} {n k : Nat}
/-- The frame that is read starts with the record's length. -/
theorem frame_head (hp : p.Ok) (hn : n = l.many p) (hk1 : 1 ≤ k) : (frameL p l k).take 4 = beL 4 n := by
  have h0 := frame_part hp l k 0 hk1
  rw [Nat.mul_zero, List.drop_zero] at h0
  have h4 : (frameL p l k).take 4 = ((sct p l 0).drop 9).take 4 := by
    rw [← h0, List.take_take]
    rfl
  have hb : Byt ((frameL p l k).take 4) := fun x hx => frameL_byt hp l k x (List.mem_of_mem_take hx)
  have hl : ((frameL p l k).take 4).length = 4 := by rw [List.length_take, frameL_len hp]; omega
  have hv : valL ((frameL p l k).take 4) = n := by rw [h4, hn]; rfl
  have := beL_valL _ hb
  rw [hl, hv] at this
  exact this.symm
theorem frame_split (hp : p.Ok) (hn : n = l.many p) (hk : k = secN n) (hk0 : k ≠ 0) : (frameL p l k).take (20 + n) = beL 4 n ++ ((frameL p l k).drop 4).take 16 ++ l.body p := by
  have h1 := frame_head (l := l) (k := k) hp hn (by omega)
  have h2 : l.body p = ((frameL p l k).drop 20).take n := by unfold LG.body; rw [← hn, ← hk]
  rw [h2, ← h1, show 20 + n = 4 + (16 + n) by omega, List.take_add, List.take_add, List.append_assoc, List.drop_drop]
theorem match_of_next (hp : p.Ok) (hn : n = l.many p) (hk : k = secN n) (h : l.Next p) : ∀ i, i < k → (sct p l i).take (endL n k i) = (l.sec (l.body p) i).take (endL n k i) := fun i hi => by
  have hk0 : k ≠ 0 := by omega
  have hpos := secN_pos (n := n) (by rw [← hk]; exact hk0)
  have hkk : k = (n + 74) / 55 := by omega
  have hb : (l.body p).length = n := by rw [LG.body_len hp h.pos, hn]
  have hfr : (frameL p l k).take (20 + n) = l.frame (l.body p) := by
    rw [frame_split hp hn hk hk0, LG.frame, hb]
    have := h.tag
    rw [← hn, ← hk] at this
    rw [this]
  have hre := raw_end (l := l) hb hkk hi
  rw [sec_take hb hkk hi, ← hre]
  have h9 := h.hdr i (by rw [← hn, ← hk]; exact hi)
  have hm : endL n k i = 9 + (endL n k i - 9) := by unfold endL; split <;> omega
  rw [hre, hm, List.take_add, h9]
  unfold LG.raw
  congr 1
  have hp1 := frame_part hp l k i hi
  rw [← hfr, ← hp1, List.take_take]
  have hle : endL n k i - 9 ≤ 55 := by have := endL_le n k i; omega
  rw [Nat.min_eq_left hle]
  have hlen := frameL_len hp l k
  have : ((frameL p l k).take (20 + n)).drop (55 * i) = ((frameL p l k).drop (55 * i)).take (20 + n - 55 * i) := by rw [List.drop_take]
  rw [this, List.take_take]
  congr 1
  unfold endL
  split <;> omega
theorem next_of_match (hp : p.Ok) (hn : n = l.many p) (hk : k = secN n) (hk0 : k ≠ 0) (hr : l.used < l.size) (hf : l.used + k ≤ l.size) (h : ∀ i, i < k → (sct p l i).take (endL n k i) = (l.sec (l.body p) i).take (endL n k i)) : l.Next p := by
  have hpos := secN_pos (n := n) (by rw [← hk]; exact hk0)
  have hkk : k = (n + 74) / 55 := by omega
  have hb : (l.body p).length = n := by rw [LG.body_len hp (by rw [← hn, ← hk]; exact hk0), hn]
  have hlen := frameL_len hp l k
  have hraw : ∀ i, i < k → (sct p l i).take (endL n k i) = l.raw (l.body p) i := fun i hi => by rw [h i hi, sec_take hb hkk hi]
  have hhdr : ∀ i, i < k → (sct p l i).take 9 = l.hdr i := fun i hi => by
    have h1 := congrArg (List.take 9) (hraw i hi)
    rw [List.take_take] at h1
    have h2 : min 9 (endL n k i) = 9 := by unfold endL; split <;> omega
    rw [h2] at h1
    rw [h1]
    unfold LG.raw
    rw [List.take_append_of_le_length (by rw [LG.hdr_len]; exact Nat.le_refl _), List.take_of_length_le (by rw [LG.hdr_len]; exact Nat.le_refl _)]
  have hfr : (frameL p l k).take (20 + n) = l.frame (l.body p) := by
    refine ext_parts k _ _ (by rw [List.length_take]; omega) (by rw [LG.frame_len, hb]; omega) fun i hi => ?_
    have h1 := congrArg (List.drop 9) (hraw i hi)
    have h2 : (l.raw (l.body p) i).drop 9 = ((l.frame (l.body p)).drop (55 * i)).take 55 := by
      unfold LG.raw
      rw [List.drop_append_of_le_length (by rw [LG.hdr_len]; exact Nat.le_refl _), List.drop_of_length_le (by rw [LG.hdr_len]; exact Nat.le_refl _), List.nil_append]
    rw [h2, List.drop_take] at h1
    rw [← h1, ← frame_part hp l k i hi, List.take_take, List.drop_take, List.take_take]
    congr 1
    unfold endL
    split <;> omega
  refine ⟨hr, by rw [← hn, ← hk]; exact hk0, by rw [← hn, ← hk]; exact hf, by rw [← hn, ← hk]; exact hhdr, ?_⟩
  rw [← hn, ← hk]
  rw [frame_split hp hn hk hk0, LG.frame, hb] at hfr
  have h1 := List.append_inj hfr (by rw [List.length_append, List.length_append, beL_len, tagL_len, List.length_take, List.length_drop, hlen]; omega)
  exact (List.append_inj h1.1 rfl).2
end
end Go.Proofs.YteeclfejgpgooaaDoor
/- The reference's disk: lists of sectors, in plain words and in memory; how it goes with the disk. No condition. -/
namespace Go.Proofs.YteeclfejgpgooaaDoor
set_option linter.unusedVariables false
set_option linter.unusedSimpArgs false
set_option linter.constructorNameAsVariable false
open Go.RowKit Go.Maps

theorem snoc_ind {α : Type} {P : List α → Prop} (h0 : P []) (h1 : ∀ l a, P l → P (l ++ [a])) (l : List α) : P l := by
  have key : ∀ l : List α, P l.reverse := by
    intro l
    induction l with
    | nil => exact h0
    | cons a l ih => rw [List.reverse_cons]; exact h1 _ _ ih
  have := key l.reverse
  rwa [List.reverse_reverse] at this
/-- A sector that was put. -/
structure PU where
  pos : Int
  s : List Int
def PU.cells (x : PU) : List Value := .int .i64 x.pos :: u8s x.s
theorem PU.len {x : PU} (h : SecOk x.s) : x.cells.length = 65 := by simp [PU.cells, u8s_len, h.1]
theorem PU.one (x : PU) : ∀ u ∈ x.cells, u.oneCell' = true := by
  intro u hu
  rcases List.mem_cons.1 hu with rfl | hu
  · rfl
  · exact u8s_one _ u hu
def flatP (L : List PU) : List Value := L.flatMap PU.cells
theorem flatP_app (L M : List PU) : flatP (L ++ M) = flatP L ++ flatP M := by simp [flatP]
theorem flatP_one (x : PU) : flatP [x] = x.cells := by simp [flatP]
theorem flatP_cell (L : List PU) : ∀ u ∈ flatP L, u.oneCell' = true := by
  intro u hu
  obtain ⟨x, _, hx⟩ := List.mem_flatMap.1 hu
  exact x.one u hx

/-- The last one of a place. -/
def lastP (L : List PU) (x : Int) : Option (List Int) := L.foldl (fun acc p => if p.pos = x then some p.s else acc) none
theorem lastP_snoc (L : List PU) (p : PU) (x : Int) : lastP (L ++ [p]) x = if p.pos = x then some p.s else lastP L x := by simp [lastP, List.foldl_append]
theorem lastP_app (L M : List PU) (x : Int) : lastP (L ++ M) x = match lastP M x with | some s => some s | none => lastP L x := by
  induction M using snoc_ind with
  | h0 => simp [lastP]
  | h1 M p ih =>
    rw [← List.append_assoc, lastP_snoc, lastP_snoc, ih]
    split <;> rfl
theorem lastP_none {L : List PU} {x : Int} : lastP L x = none ↔ x ∉ L.map PU.pos := by
  induction L using snoc_ind with
  | h0 => simp [lastP]
  | h1 L p ih =>
    rw [lastP_snoc]
    split
    · next h => subst h; simp
    · next h => rw [ih]; simp; intro _ e; exact absurd e.symm h
theorem lastP_mem {L : List PU} {x : Int} {s : List Int} (h : lastP L x = some s) : ∃ p ∈ L, p.pos = x ∧ p.s = s := by
  induction L using snoc_ind with
  | h0 => simp [lastP] at h
  | h1 L p ih =>
    rw [lastP_snoc] at h
    split at h
    · next e => injection h with h; exact ⟨p, by simp, e, h⟩
    · obtain ⟨q, hq, h1, h2⟩ := ih h
      exact ⟨q, by simp [hq], h1, h2⟩
/-- The places that wait. -/
def waits (L : List PU) : List Int := L.foldl (fun acc p => if p.pos ∈ acc then acc else acc ++ [p.pos]) []
theorem waits_snoc (L : List PU) (p : PU) : waits (L ++ [p]) = if p.pos ∈ waits L then waits L else waits L ++ [p.pos] := by unfold waits; rw [List.foldl_append]; rfl
theorem mem_waits (L : List PU) : ∀ x : Int, x ∈ waits L ↔ x ∈ L.map PU.pos := by
  induction L using snoc_ind with
  | h0 => simp [waits]
  | h1 L p ih' =>
    intro x
    rw [waits_snoc]
    split
    · next h =>
      have h' := (ih' p.pos).1 h
      rw [ih']
      simp only [List.map_append, List.map_cons, List.map_nil, List.mem_append, List.mem_singleton]
      exact ⟨.inl, fun hx => hx.elim id fun e => e ▸ h'⟩
    · rw [List.mem_append, ih' x]; simp
theorem waits_len (L : List PU) : (waits L).length ≤ L.length := by
  induction L using snoc_ind with
  | h0 => simp [waits]
  | h1 L p ih =>
    rw [waits_snoc]
    split <;> simp <;> omega

/-- The reference's disk. -/
structure RP where
  size : Int
  sure : List PU
  fresh : List PU
  fuse : Int
  down : Bool
def RP.new (n : Int) : RP := ⟨n, [], [], -1, false⟩
def RP.burn (r : RP) : RP := { r with fuse := if 0 < r.fuse then r.fuse - 1 else r.fuse }
def RP.within (r : RP) (a : Int) : Bool := decide (0 ≤ a ∧ a < r.size)
def RP.wcode (r : RP) (a : Int) : Int := if r.within a = true then (if r.fuse = 0 ∨ r.down = true then 14 else 0) else 1
def RP.write (r : RP) (a : Int) (s : List Int) : RP := if r.within a = true then (if r.fuse = 0 ∨ r.down = true then { r with down := true } else { r.burn with fresh := r.fresh ++ [⟨a, s⟩] }) else r
def RP.scode (r : RP) : Int := if r.down = true then 14 else 0
def RP.sync (r : RP) : RP := if r.down = true then r else { r with sure := r.sure ++ r.fresh, fresh := [] }
def RP.rcode (r : RP) (a : Int) : Int := if r.within a = true then 0 else 1
def RP.rget (r : RP) (a : Int) : List Int := if r.within a = true then (match lastP r.fresh a with | some s => s | none => (lastP r.sure a).getD sec0) else sec0
def cutR (r : RP) (keep : List Bool) : Nat → List PU
  | 0 => r.sure
  | j + 1 => if keep.getD j false = true then cutR r keep j ++ [⟨(waits r.fresh).getD j 0, (lastP r.fresh ((waits r.fresh).getD j 0)).getD sec0⟩] else cutR r keep j
def RP.cut (r : RP) (keep : List Bool) : RP := ⟨r.size, cutR r keep (waits r.fresh).length, [], -1, false⟩
def RP.fused (r : RP) (a : Int) : RP := { r with fuse := max a (-1) }
def RP.Ok (r : RP) : Prop := (∀ x ∈ r.sure, SecOk x.s) ∧ ∀ x ∈ r.fresh, SecOk x.s
def RP.tot (r : RP) : Nat := r.sure.length + r.fresh.length

/-- The disk and the reference's. -/
structure Mt (p : DP) (r : RP) : Prop where
  size : r.size = p.size
  sure : ∀ x, p.sure x = lastP r.sure x
  fresh : ∀ x, p.fresh x = lastP r.fresh x
  order : p.order = waits r.fresh
  fuse : r.fuse = p.fuse
  down : r.down = p.down
theorem Mt.new (n : Nat) : Mt (DP.new n) (RP.new n) := ⟨rfl, fun _ => rfl, fun _ => rfl, rfl, rfl, rfl⟩
section
variable {p : DP} {r : RP}
theorem Mt.within (h : Mt p r) (a : Int) : r.within a = p.within a := by unfold RP.within DP.within; rw [h.size]
theorem Mt.wcode (h : Mt p r) (a : Int) : r.wcode a = p.wcode a := by unfold RP.wcode DP.wcode; rw [h.within, h.fuse, h.down]
theorem Mt.scode (h : Mt p r) : r.scode = p.scode := by unfold RP.scode DP.scode; rw [h.down]
theorem Mt.rcode (h : Mt p r) (a : Int) : r.rcode a = p.rcode a := by unfold RP.rcode DP.rcode; rw [h.within]
theorem Mt.rget (h : Mt p r) (a : Int) : r.rget a = p.rget a := by
  unfold RP.rget DP.rget DP.get
  rw [h.within, h.fresh a, h.sure a]
  rfl
theorem Mt.write (h : Mt p r) (a : Int) (s : List Int) : Mt (p.doWrite a s) (r.write a s) := by
  unfold DP.doWrite RP.write
  rw [h.within, h.fuse, h.down]
  split
  · split
    · exact ⟨h.size, h.sure, h.fresh, h.order, rfl, rfl⟩
    · refine ⟨h.size, h.sure, ?_, ?_, ?_, h.down⟩
      · intro x
        show upd p.fresh a (some s) x = lastP (r.fresh ++ [⟨a, s⟩]) x
        rw [lastP_snoc, upd, ← h.fresh x]
        by_cases e : x = a
        · subst e; simp
        · rw [if_neg e, if_neg (fun e' => e e'.symm)]
      · show (if p.fresh a = none then p.order ++ [a] else p.order) = waits (r.fresh ++ [⟨a, s⟩])
        rw [waits_snoc, h.order, h.fresh a]
        by_cases e : a ∈ waits r.fresh
        · rw [if_pos e, if_neg (fun e' => lastP_none.1 e' ((mem_waits _ _).1 e))]
        · rw [if_neg e, if_pos (lastP_none.2 fun e' => e ((mem_waits _ _).2 e'))]
      · show (if 0 < r.fuse then r.fuse - 1 else r.fuse) = if 0 < p.fuse then p.fuse - 1 else p.fuse
        rw [h.fuse]
  · exact h
theorem Mt.sync (h : Mt p r) : Mt p.doSync r.sync := by
  unfold DP.doSync RP.sync
  rw [h.down]
  split
  · exact h
  · refine ⟨h.size, ?_, fun _ => rfl, rfl, h.fuse, rfl⟩
    intro x
    show (match p.fresh x with | some s => some s | none => p.sure x) = lastP (r.sure ++ r.fresh) x
    rw [lastP_app, h.fresh x, h.sure x]
theorem Mt.cutS (h : Mt p r) (hok : p.Ok) (keep : List Bool) : ∀ j, j ≤ p.order.length → ∀ x, Go.Proofs.YteeclfejgpgooaaDoor.cutS p keep j x = lastP (cutR r keep j) x
  | 0, _, x => h.sure x
  | j + 1, hj, x => by
    simp only [Go.Proofs.YteeclfejgpgooaaDoor.cutS, cutR]
    split
    · rw [lastP_snoc, upd, ← h.order]
      have hlt : j < p.order.length := by omega
      have ha : p.order.getD j 0 ∈ p.order := by rw [List.getD_eq_getElem?_getD, List.getElem?_eq_getElem hlt]; exact List.getElem_mem _
      by_cases e : x = p.order.getD j 0
      · rw [if_pos e, if_pos e.symm, h.fresh]
        cases hf : lastP r.fresh (p.order.getD j 0) with
        | some s => rfl
        | none => exact absurd ((h.fresh _).trans hf) ((hok.ord _).1 ha)
      · rw [if_neg e, if_neg (fun e' => e e'.symm)]
        exact h.cutS hok keep j (by omega) x
    · exact h.cutS hok keep j (by omega) x
theorem Mt.cut (h : Mt p r) (hok : p.Ok) (keep : List Bool) : Mt (p.cut keep) (r.cut keep) :=
  ⟨h.size, fun x => by
    show Go.Proofs.YteeclfejgpgooaaDoor.cutS p keep p.order.length x = lastP (cutR r keep (waits r.fresh).length) x
    rw [← h.order]
    exact h.cutS hok keep _ (Nat.le_refl _) x, fun _ => rfl, rfl, rfl, rfl⟩
theorem Mt.fused (h : Mt p r) (a : Int) : Mt (p.fused a) (r.fused a) := ⟨h.size, h.sure, h.fresh, h.order, rfl, h.down⟩
theorem RP.Ok.write (h : r.Ok) (a : Int) {s : List Int} (hs : SecOk s) : (r.write a s).Ok := by
  unfold RP.write
  split
  · split
    · exact h
    · refine ⟨h.1, fun x hx => ?_⟩
      rcases List.mem_append.1 hx with hx | hx
      · exact h.2 x hx
      · obtain rfl := List.mem_singleton.1 hx; exact hs
  · exact h
theorem RP.Ok.sync (h : r.Ok) : r.sync.Ok := by
  unfold RP.sync
  split
  · exact h
  · refine ⟨fun x hx => ?_, by simp⟩
    rcases List.mem_append.1 hx with hx | hx
    · exact h.1 x hx
    · exact h.2 x hx
theorem lastP_ok {L : List PU} (h : ∀ x ∈ L, SecOk x.s) (x : Int) : SecOk ((lastP L x).getD sec0) := by
  cases hl : lastP L x with
  | none => exact sec0_ok
  | some s => obtain ⟨q, hq, _, e⟩ := lastP_mem hl; rw [← e]; exact h q hq
theorem cutR_ok (h : r.Ok) (keep : List Bool) : ∀ j, ∀ x ∈ cutR r keep j, SecOk x.s
  | 0 => h.1
  | j + 1 => by
    intro x hx
    simp only [cutR] at hx
    split at hx
    · rcases List.mem_append.1 hx with hx | hx
      · exact cutR_ok h keep j x hx
      · obtain rfl := List.mem_singleton.1 hx; exact lastP_ok h.2 _
    · exact cutR_ok h keep j x hx
theorem RP.Ok.cut (h : r.Ok) (keep : List Bool) : (r.cut keep).Ok := ⟨cutR_ok h keep _, by simp [RP.cut]⟩
theorem cutR_len (r : RP) (keep : List Bool) : ∀ j, (cutR r keep j).length ≤ r.sure.length + j
  | 0 => Nat.le_refl _
  | j + 1 => by
    have := cutR_len r keep j
    simp only [cutR]
    split <;> simp <;> omega
theorem RP.tot_write (r : RP) (a : Int) (s : List Int) : (r.write a s).tot ≤ r.tot + 1 := by
  unfold RP.write RP.tot
  split
  · split
    · simp
    · simp [RP.burn]; omega
  · omega
theorem RP.tot_sync (r : RP) : r.sync.tot ≤ r.tot := by
  unfold RP.sync RP.tot
  split <;> simp
theorem RP.tot_cut (r : RP) (keep : List Bool) : (r.cut keep).tot ≤ r.tot := by
  have h1 := cutR_len r keep (waits r.fresh).length
  have h2 := waits_len r.fresh
  simp only [RP.tot, RP.cut, List.length_nil]
  omega
theorem RP.Ok.rget (h : r.Ok) (a : Int) : SecOk (r.rget a) := by
  unfold RP.rget
  split
  · cases hl : lastP r.fresh a with
    | some s => obtain ⟨q, hq, _, e⟩ := lastP_mem hl; rw [← e]; exact h.2 q hq
    | none => exact lastP_ok h.1 a
  · exact sec0_ok
end

theorem dk_not {w : World} {base g bs bf : Nat} {v : Value} {p : DP} (h : Dk w base g bs bf v p) : ∀ k, DkOurs g bs bf v k → ¬ IsT 92 w k := by
  rintro k (rfl | rfl | rfl | hk)
  · exact IsT.not_blk h.blk (by decide)
  · exact IsT.not_map h.ms
  · exact IsT.not_map h.mw
  · exact IsT.not_own h.own (by decide) hk

/-- The reference's disk as a value. -/
def RfV (r : RP) (A1 : Option Addr) (c1 : Nat) (A2 : Option Addr) (c2 : Nat) : Array Value := #[.int .i64 r.size, .slice A1 r.sure.length c1, .slice A2 r.fresh.length c2, .int .i64 r.fuse, .bool r.down]
structure RfIn (w : World) (r : RP) (A1 A2 : Option Addr) : Prop where
  sure : RdT 92 w 65 A1 r.sure.length (flatP r.sure)
  fresh : RdT 92 w 65 A2 r.fresh.length (flatP r.fresh)
  ok : r.Ok
theorem RfIn.fr {w w' : World} {S : Nat → Prop} {r : RP} {A1 A2 : Option Addr} (h : RfIn w r A1 A2) (hf : Fr S w w') (hs : ∀ k, S k → ¬ IsT 92 w k) : RfIn w' r A1 A2 := ⟨h.sure.fr hf hs, h.fresh.fr hf hs, h.ok⟩
theorem RfIn.new {w w' : World} {r : RP} {A1 A2 : Option Addr} (h : RfIn w r A1 A2) (hN : New w w') : RfIn w' r A1 A2 := ⟨h.sure.new hN, h.fresh.new hN, h.ok⟩
/-- What a function of the reference's hands back. -/
def RfEnd (w : World) (r : RP) (n : Int) (e : Ending) : Prop := ∃ A1 c1 A2 c2, e = .returned (.tuple #[.agg (RfV r A1 c1 A2 c2), .int .i64 n]) ∧ RfIn w r A1 A2
def RfEnd1 (w : World) (r : RP) (e : Ending) : Prop := ∃ A1 c1 A2 c2, e = .returned (.agg (RfV r A1 c1 A2 c2)) ∧ RfIn w r A1 A2
theorem elP : ElemOf Tryd.prog 30 92 65 72 := ElemOf.mk' (z := .agg (⟨0, sec0⟩ : PU).cells.toArray) Tryd.underlying30 (by kernel_rfl) rfl (by decide)
end Go.Proofs.YteeclfejgpgooaaDoor
