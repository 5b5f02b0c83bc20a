/- A batch's bytes. No condition but that the changes can be read. -/
import Derived.Test.YtfhinmjpokollaaKvR
import Derived.Test.YtfhinmjpokollaaOcW
namespace Go.Proofs.Ytfhinmjpokollaa
set_option linter.unusedVariables false
set_option linter.unusedSimpArgs false
set_option linter.constructorNameAsVariable false
open Go.RowKit Go.Maps Go.Sort

/-- A change's bytes; a batch's. -/
def chB (c : Ch) : List Int := [if !c.d then 1 else 0] ++ beL 2 c.k.n ++ c.k.xs ++ (if c.d then [] else beL 2 c.v.n ++ c.v.xs)
def putB (L : List Ch) : List Int := beL 2 L.length ++ L.flatMap chB
theorem chB_len {c : Ch} (hk : c.k.xs.length = c.k.n) (hv : c.v.xs.length = c.v.n) : (chB c).length ≤ 5 + c.k.n + c.v.n := by
  unfold chB
  simp only [List.length_append, List.length_singleton, beL_len, hk]
  split
  · simp; omega
  · simp [beL_len, hv]; omega
theorem putB_take {L : List Ch} {k : Nat} (h : k < L.length) : (L.take (k + 1)).flatMap chB = (L.take k).flatMap chB ++ chB L[k] := by
  rw [List.take_succ_eq_append_getElem h, List.flatMap_append]
  simp
theorem flat_len {L : List Ch} (h : ∀ c ∈ L, (chB c).length ≤ 40000) (j : Nat) (hj : j ≤ L.length) : ((L.take j).flatMap chB).length ≤ j * 40000 := by
  induction j with
  | zero => simp
  | succ j ih =>
    rw [putB_take (by omega), List.length_append]
    have := ih (by omega)
    have := h L[j] (List.getElem_mem _)
    omega
theorem put_bad (A : Option Addr) (n c : Nat) (L : List Ch) (w : World) (h : RTb w A n L) (hn : n ≤ 100000000) (hb : ∀ c ∈ L, c.k.n ≤ maxLen ∧ c.v.n ≤ maxLen) (hbad : chsOk L = false) :
    Calls Try.prog 30 #[.slice A n c] w fun e w' => e = .returned (.tuple #[.slice none 0 0, .iface 36 (.int .i64 2)]) ∧ New w w' := by
  have HC := Lib.hid (rights_any A n c L w h.rd h.len hn hb)
  rw [hbad] at HC
  clear h hn hb hbad
  go_enter Try.func30, Try.ntmps30
  go_wp2_with fail
  refine HC.out.mono ?_
  rintro e w1 ⟨rfl, hN1⟩
  have HN1 := Lib.hid hN1
  clear hN1 HC
  go_wp2_with fail
  go_ret2
  exact ⟨rfl, HN1.out⟩
/-- What stands in a round of Put. -/
def PutI (w : World) (g j n : Nat) (L : List Ch) (wr : World) : Prop := New w wr ∧ w.heap.size ≤ g ∧ WrIn wr g g (beL 2 n ++ (L.take j).flatMap chB)
def BoxS (b : Nat) (k v d : Value) (w : World) : Prop := w.cell? ⟨b, 0, none⟩ = some k ∧ w.cell? ⟨b, 1, none⟩ = some v ∧ w.cell? ⟨b, 2, none⟩ = some d
theorem BoxS.of {W : World} {b : Nat} {k v d : Value} (h : Blk W b 41 #[k, v, d]) : BoxS b k v d W := ⟨h.cell 0, h.cell 1, h.cell 2⟩
set_option maxHeartbeats 8000000 in
set_option maxRecDepth 100000 in
theorem put_any (A : Option Addr) (n c : Nat) (L : List Ch) (w : World) (h : RTb w A n L) (hok : chsOk L = true) :
    Calls Try.prog 30 #[.slice A n c] w fun e w' => (∃ A' c' base, e = .returned (.tuple #[.slice A' (putB L).length c', .nilIface]) ∧ w.heap.size ≤ base ∧ w'.ownsRow base 5 1 (.slice A' (putB L).length c') (putB L).length (u8s (putB L))) ∧ New w w' := by
  obtain ⟨hl1, hl2, hch⟩ := chsOk_spec hok
  have hn6 : n ≤ 600 := by have := h.len; omega
  have HC := Lib.hid (rights_any A n c L w h.rd h.len (by omega) (fun c hc => by have := hch c hc; unfold maxLen; omega))
  rw [hok] at HC
  have hcl : ∀ c ∈ L, (chB c).length ≤ 40000 := fun c hc => by
    have h1 := chB_len (h.el c hc).k.len (h.el c hc).v.len
    have := hch c hc
    omega
  have HCL := Lib.hid hcl
  have H := Lib.hid h
  have HCH := Lib.hid hch
  clear h hok hl1 hl2 hch hcl
  go_enter Try.func30, Try.ntmps30
  go_wp2_with fail
  refine HC.out.mono ?_
  rintro e w1 ⟨rfl, hN1⟩
  have HN1 := Lib.hid hN1
  clear hN1 HC
  go_upto_region 4 with fail
  obtain ⟨w2, hw2⟩ : ∃ w2 : World, w2 = w1.alloc (.cells #[.nilIface, .slice none 0 0] 86) := ⟨_, rfl⟩
  obtain ⟨g, hg⟩ : ∃ g, g = w1.heap.size := ⟨_, rfl⟩
  have HN2 : Hid (New w w2) := Lib.hid (by rw [hw2]; exact New.al HN1.out _)
  have HW2 : Hid (WrIn w2 g g []) := Lib.hid ⟨⟨none, 0, by rw [hw2, hg]; exact Blk.new _ _ _, World.ownsRow_nil _ _ _ _⟩, Nat.le_refl _, fun x hx => nomatch hx⟩
  have HZ : Hid (w.heap.size ≤ g) := Lib.hid (by rw [hg]; exact HN1.out.size)
  rw [← hw2, ← hg]
  clear hw2 hg HN1
  go_wp2_with fail
  refine (wnum_any HW2.out n 2 (by omega) (by omega) (by simp)).mono ?_
  rintro e w3 ⟨rfl, hW3, hF3⟩
  have HI : Hid (PutI w g 0 n L w3) := Lib.hid ⟨hF3.toNew HN2.out HZ.out (Nat.le_refl _), HZ.out, by simpa using hW3⟩
  clear hW3 hF3 HW2 HN2
  go_wp2_with fail
  go_loopw [20] (fun i wr => ∃ (j : Nat), j ≤ n ∧ i = .int .i64 j ∧ Hid (PutI w g j n L wr)) (fun i _ => n - (intOf i).toNat)
  case atStart => exact ⟨0, Nat.zero_le _, rfl, HI⟩
  case round =>
    obtain ⟨j, hj, rfl, HR⟩ := hrel
    clear HI
    have hlen : (beL 2 n ++ (L.take j).flatMap chB).length ≤ 100000000 := by
      rw [List.length_append, beL_len]
      have := flat_len HCL.out j (by rw [H.out.len]; exact hj)
      omega
    have HLEN := Lib.hid hlen
    clear hlen
    by_cases hlt : j < n
    · as_aux_lemma =>
      obtain ⟨gA, o, hl, rfl, -, -, hrg⟩ := rd_row (f := Ch.cells) (L := L) (fun _ => rfl) (by omega) (HR.out.1.rd H.out.rd) hlt
      have c0 : wr.cell? ⟨gA, o + j * 3, none⟩ = some (.slice L[j].k.A L[j].k.n L[j].k.c) := hrg 0 _ rfl
      have c1 : wr.cell? ⟨gA, o + j * 3 + 1, none⟩ = some (.slice L[j].v.A L[j].v.n L[j].v.c) := hrg 1 _ rfl
      have c2 : wr.cell? ⟨gA, o + j * 3 + 2, none⟩ = some (.bool L[j].d) := hrg 2 _ rfl
      have hin := H.out.el L[j] (List.getElem_mem _)
      have hch := HCH.out L[j] (List.getElem_mem _)
      have hst := putB_take hl
      generalize L[j] = x at c0 c1 c2 hin hch hst
      obtain ⟨⟨kA, kn, kc, ks⟩, ⟨vA, vn, vc, vs⟩, d⟩ := x
      dsimp only at c0 c1 c2 hch
      have HIN := Lib.hid hin
      have HST := Lib.hid hst
      have hj0 : (0 : Int) ≤ (j : Int) := by omega
      have hjn : (j : Int) < (n : Int) := by omega
      clear hrg hl hin hst
      go_upto_region 8 with fail
      obtain ⟨w4, hw4⟩ : ∃ w4 : World, w4 = wr.alloc (.cells #[.slice kA kn kc, .slice vA vn vc, .bool d] 41) := ⟨_, rfl⟩
      obtain ⟨b6, hb6⟩ : ∃ b6, b6 = wr.heap.size := ⟨_, rfl⟩
      have HN4 : Hid (New wr w4) := Lib.hid (by rw [hw4]; exact New.al (New.refl _) _)
      have HB4 : Hid (Blk w4 b6 41 #[.slice kA kn kc, .slice vA vn vc, .bool d]) := Lib.hid (by rw [hw4, hb6]; exact Blk.new _ _ _)
      have HW4 := Lib.hid (HR.out.2.2.new HN4.out)
      have hgb : b6 ≠ g := by have := HR.out.2.2.lt; omega
      rw [← hw4, ← hb6]
      clear hw4 hb6 c0 c1 c2
      obtain ⟨xs, hxs⟩ : ∃ xs, xs = beL 2 n ++ (L.take j).flatMap chB := ⟨_, rfl⟩
      rw [← hxs] at HW4 HLEN
      have HXS := Lib.hid hxs
      clear hxs
      have hS0 : BoxS b6 (.slice kA kn kc) (.slice vA vn vc) (.bool d) w4.drew := BoxS.of HB4.out
      refine wp_region_mixH (BoxS b6 (.slice kA kn kc) (.slice vA vn vc) (.bool d)) [(true, 0), (true, 1), (true, 2), (true, 3), (true, 5), (true, 6), (false, 4), (false, 7)] (by kernel_rfl) (by kernel_rfl) hS0 (fun hne => ?_)
      have q0 : ∀ p : HW (BoxS b6 (.slice kA kn kc) (.slice vA vn vc) (.bool d)), p.w.cell? ⟨b6, 0, none⟩ = some (.slice kA kn kc) := fun p => p.h.1
      have q2 : ∀ p : HW (BoxS b6 (.slice kA kn kc) (.slice vA vn vc) (.bool d)), p.w.cell? ⟨b6, 2, none⟩ = some (.bool d) := fun p => p.h.2.2
      iterate 6 (refine mix_take (o := ⟨_, _, _, _, _, _⟩) rfl (fun K hK => ?_); go_simp; refine hK _ ?_; clear hK K)
      clear q0 q2 hne
      refine mix_act (o := ⟨_, _, _, _, _, _⟩) rfl (fun K hK => ?_) (.inl rfl)
      go_simp
      refine (wflag_any (HW4.out.new (New.dr (New.refl _))) (!d) (by have := HLEN.out; omega)).mono ?_
      rintro e w5 ⟨rfl, hW5, hF5⟩
      have HF5 : Hid (FW g g w4 w5) := Lib.hid ((FW.new (New.dr (New.refl _))).tr hF5)
      have HW5 := Lib.hid hW5
      have HB5 : Hid (Blk w5 b6 41 #[.slice kA kn kc, .slice vA vn vc, .bool d]) := Lib.hid (HF5.out.blk HB4.out (by decide) hgb)
      clear hW5 hF5
      refine hK.out _ _ (fun _ => BoxS.of HB5.out) ?_
      clear hK K
      have HN5 : Hid (New w w5) := Lib.hid (HF5.out.toNew (HR.out.1.tr HN4.out) HR.out.2.1 (Nat.le_refl _))
      refine mix_act (o := ⟨_, _, _, _, _, _⟩) rfl (fun K hK => ?_) (.inl rfl)
      go_simp
      refine (wbytes_any HW5.out kA kn kc ks (HN5.out.rd HIN.out.k.rd) HIN.out.k.byt (by omega) (by rw [List.length_append, List.length_singleton]; have := HLEN.out; omega) (fun k hk => ⟨by have := HR.out.2.1; omega, .inl (by have := HR.out.2.1; omega)⟩)).mono ?_
      rintro e w6 ⟨rfl, hW6, hF6⟩
      have HF6 : Hid (FW g g w4 w6) := Lib.hid (HF5.out.tr hF6)
      have HW6 := Lib.hid hW6
      have HB6 : Hid (Blk w6 b6 41 #[.slice kA kn kc, .slice vA vn vc, .bool d]) := Lib.hid (hF6.blk HB5.out (by decide) hgb)
      have HN6 : Hid (New w w6) := Lib.hid (hF6.toNew HN5.out HR.out.2.1 (Nat.le_refl _))
      clear hW6 hF6
      refine hK.out _ _ (fun _ => BoxS.of HB6.out) ?_
      clear hK K
      refine mix_done ?_
      have e1 : w6.cell? ⟨b6, 1, none⟩ = some (.slice vA vn vc) := HB6.out.cell 1
      have e2 : w6.cell? ⟨b6, 2, none⟩ = some (.bool d) := HB6.out.cell 2
      cases d
      · go_wp2_with fail
        refine (wbytes_any HW6.out vA vn vc vs (HN6.out.rd HIN.out.v.rd) HIN.out.v.byt (by omega) (by simp only [List.length_append, List.length_singleton, beL_len]; have := HLEN.out; have := HIN.out.k.len; dsimp only at this; omega) (fun k hk => ⟨by have := HR.out.2.1; omega, .inl (by have := HR.out.2.1; omega)⟩)).mono ?_
        rintro e w7 ⟨rfl, hW7, hF7⟩
        have HW7 := Lib.hid hW7
        have HN7 : Hid (New w w7) := Lib.hid (hF7.toNew HN6.out HR.out.2.1 (Nat.le_refl _))
        clear hW7 hF7 e1 e2
        go_wp2_with fail
        go_roundw
        case rel =>
          refine ⟨j + 1, by omega, by go_num, Lib.hid ⟨HN7.out, HR.out.2.1, ?_⟩⟩
          rw [HST.out]
          have := HW7.out
          rw [HXS.out] at this
          simpa [chB] using this
        case measure => simp [intOf]; omega
      · go_wp2_with fail
        go_roundw
        case rel =>
          refine ⟨j + 1, by omega, by go_num, Lib.hid ⟨HN6.out, HR.out.2.1, ?_⟩⟩
          rw [HST.out]
          have := HW6.out
          rw [HXS.out] at this
          simpa [chB] using this
        case measure => simp [intOf]; omega
    · as_aux_lemma =>
      obtain rfl : j = n := by omega
      have hp : beL 2 j ++ (L.take j).flatMap chB = putB L := by
        unfold putB
        rw [← H.out.len, List.take_length]
      have hW := HR.out.2.2
      have hlen := HLEN.out
      rw [hp] at hW hlen
      have HD := Lib.hid (wdone_any hW (by omega))
      clear hW hp hlen
      go_wp2_with fail
      refine HD.out.mono ?_
      rintro e w3 ⟨⟨A3, c3, rfl, hO3⟩, hN3⟩
      have HO3 := Lib.hid hO3
      have HN3 := Lib.hid hN3
      clear hO3 hN3 HD
      generalize hpl : (putB L).length = pl at *
      go_wp2_with fail
      go_ret2
      rw [hpl]
      exact ⟨⟨A3, c3, wr.heap.size, rfl, HR.out.1.size, HO3.out⟩, HR.out.1.tr HN3.out⟩
end Go.Proofs.Ytfhinmjpokollaa
