/- Texts of one proof, one behind the other: OrB, OrC, KvY, MxT, KvBc. No condition but each one's own. -/
import Derived.Test.YtfhinmjpokollaaKvBatchesM10
import Derived.Test.YtfhinmjpokollaaKvBatchesM9
import Derived.Test.YtfhinmjpokollaaKvBatchesM8
/- The reference's reader of octets: the same plain words as the program's. No condition but that what is read can be read. -/
namespace Go.Proofs.Ytfhinmjpokollaa
set_option linter.unusedVariables false
set_option linter.unusedSimpArgs false
set_option linter.constructorNameAsVariable false
open Go.RowKit Go.Maps

/-- A reader of the reference: its value, read in a world. -/
structure RIn (p : Nat → Prop) (w : World) (A : Option Addr) (n c : Nat) (s : Rs) : Prop where
  rd : Rd p w 1 A n (u8s s.xs)
  byt : Byt s.xs
  nc : n ≤ c
  cm : c ≤ 140737488355328
def rV (A : Option Addr) (n c : Nat) (e : Nat) : Value := .agg #[.slice A n c, .int .i64 e]
section
variable {p : Nat → Prop} {w w' : World} {A : Option Addr} {n c : Nat} {s : Rs}
theorem RIn.new (h : RIn p w A n c s) (hN : New w w') : RIn p w' A n c s := ⟨hN.rd h.rd, h.byt, h.nc, h.cm⟩
theorem RIn.len (h : RIn p w A n c s) : s.xs.length = n := by have := h.rd.1; rw [u8s_len] at this; omega
end
def BoxR (b : Nat) (x y : Value) (w : World) : Prop := w.cell? ⟨b, 0, none⟩ = some x ∧ w.cell? ⟨b, 1, none⟩ = some y
theorem BoxR.of {W : World} {b T : Nat} {x y : Value} (h : Blk W b T #[x, y]) : BoxR b x y W := ⟨h.cell 0, h.cell 1⟩
/-- What Take says. -/
def TakeSays (p : Nat → Prop) (r : List Int × Rs) (e : Ending) (w' : World) : Prop :=
  ∃ (A1 : Option Addr) (c1 : Nat) (A2 : Option Addr) (n2 c2 : Nat), e = .returned (.tuple #[.slice A1 r.1.length c1, rV A2 n2 c2 r.2.e]) ∧ Rd p w' 1 A1 r.1.length (u8s r.1) ∧ r.1.length ≤ c1 ∧ RIn p w' A2 n2 c2 r.2
theorem raw_err {s : Rs} (h : s.e ≠ 0) (k : Nat) : s.raw k = ([], s) ∨ (s.raw k).1 = [] ∧ (s.raw k).2 = ⟨s.xs.drop k, s.e⟩ := by
  have hl : s.left = 0 := by unfold Rs.left; rw [if_neg h]
  unfold Rs.raw
  rw [hl]
  by_cases hk : 0 < k
  · rw [if_pos hk]
    left
    unfold Rs.bad
    rw [if_neg h]
  · rw [if_neg hk]
    left
    have : k = 0 := by omega
    subst this
    simp
theorem raw_err' {s : Rs} (h : s.e ≠ 0) (k : Nat) : s.raw k = ([], s) := by
  have hl : s.left = 0 := by unfold Rs.left; rw [if_neg h]
  unfold Rs.raw
  rw [hl]
  by_cases hk : 0 < k
  · rw [if_pos hk]
    unfold Rs.bad
    rw [if_neg h]
  · rw [if_neg hk]
    have : k = 0 := by omega
    subst this
    simp
theorem rd_none {p : Nat → Prop} (w : World) : Rd p w 1 none 0 (u8s []) := Rd.nil
theorem rin_drop {p : Nat → Prop} {w : World} {A : Option Addr} {n c : Nat} {s : Rs} (h : RIn p w A n c s) {k : Nat} (hk : k ≤ n) (e : Nat) : RIn p w (if c = k then A else A.map (·.add k)) (n - k) (c - k) ⟨s.xs.drop k, e⟩ := by
  have hd := Rd.drop (cap := c) h.rd hk h.nc
  rw [Nat.mul_one] at hd
  have e3 : (u8s s.xs).drop k = u8s (s.xs.drop k) := by simp [u8s]
  rw [e3] at hd
  refine ⟨hd, fun x hx => h.byt x (List.mem_of_mem_drop hx), ?_, ?_⟩
  · have := h.nc; omega
  · have := h.cm; omega
set_option maxHeartbeats 4000000 in
theorem take_any {p : Nat → Prop} {w : World} {A : Option Addr} {n c : Nat} {s : Rs} (h : RIn p w A n c s) (k : Nat) (hk : k ≤ 1000000) :
    Calls Try.prog 70 #[rV A n c s.e, .int .i64 k] w fun e w' => TakeSays p (s.raw k) e w' ∧ New w w' := by
  have H := Lib.hid h
  have hn := h.len
  have HLN := Lib.hid hn
  have hcm := h.cm
  have hnc := h.nc
  unfold rV
  obtain ⟨r, hr⟩ : ∃ r, r = s.raw k := ⟨_, rfl⟩
  rw [← hr]
  have HR := Lib.hid hr
  obtain ⟨e0, he0⟩ : ∃ e0, e0 = s.e := ⟨_, rfl⟩
  rw [← he0]
  have HE := Lib.hid he0
  clear h hr he0 hn
  go_enter Try.func70, Try.ntmps70
  go_upto_region 1 with fail
  obtain ⟨w1, hw1⟩ : ∃ w1 : World, w1 = (w.alloc (.cells #[.slice A n c, .int .i64 e0] 98)).alloc (.cells #[.slice none 0 0, .int .i64 0] 98) := ⟨_, rfl⟩
  obtain ⟨b2, hb2⟩ : ∃ b2, b2 = w.heap.size := ⟨_, rfl⟩
  obtain ⟨b5, hb5⟩ : ∃ b5, b5 = w.heap.size + 1 := ⟨_, rfl⟩
  have HN1 : Hid (New w w1) := Lib.hid (by rw [hw1]; exact New.al (New.al (New.refl _) _) _)
  have HB2 : Hid (Blk w1 b2 98 #[.slice A n c, .int .i64 e0]) := Lib.hid (by rw [hw1, hb2]; exact (Blk.new _ _ _).alloc _)
  have HB5 : Hid (Blk w1 b5 98 #[.slice none 0 0, .int .i64 0]) := Lib.hid (by rw [hw1, hb5]; exact Blk.new' _ _ _ (by simp))
  have HZ : Hid (w.heap.size ≤ b2 ∧ w.heap.size ≤ b5) := Lib.hid ⟨by omega, by omega⟩
  have hne25 : b2 ≠ b5 := by omega
  rw [← hw1, ← hb5, ← hb2]
  clear hw1 hb2 hb5
  have c20 : w1.cell? ⟨b2, 0, none⟩ = some (.slice A n c) := HB2.out.cell 0
  have c21 : w1.cell? ⟨b2, 1, none⟩ = some (.int .i64 e0) := HB2.out.cell 1
  have c50 : w1.cell? ⟨b5, 0, none⟩ = some (.slice none 0 0) := HB5.out.cell 0
  have c51 : w1.cell? ⟨b5, 1, none⟩ = some (.int .i64 0) := HB5.out.cell 1
  have f50 : w1.frozen? ⟨b5, 0, none⟩ = false := HB5.out.frozen 0
  have f51 : w1.frozen? ⟨b5, 1, none⟩ = false := HB5.out.frozen 1
  have f20 : w1.frozen? ⟨b2, 0, none⟩ = false := HB2.out.frozen 0
  have f21 : w1.frozen? ⟨b2, 1, none⟩ = false := HB2.out.frozen 1
  have hne52 : ¬ b5 = b2 := fun e => hne25 e.symm
  by_cases h0 : e0 = 0
  · subst h0
    by_cases hkn : n < k
    · have hdn : decide (n < k) = true := decide_eq_true hkn
      have HRR : Hid (r = ([], ⟨s.xs, 2⟩)) := Lib.hid (by
        rw [HR.out]
        unfold Rs.raw Rs.left Rs.bad
        rw [if_pos HE.out.symm, if_pos HE.out.symm, HLN.out, if_pos hkn])
      go_upto_region 5 with fail
      obtain ⟨w2, hw2⟩ : ∃ w2 : World, w2 = w1.setCell ⟨b2, 1, none⟩ (.int .i64 2) := ⟨_, rfl⟩
      have hF2 : Fr (fun k => k = b2) w1 w2 := by rw [hw2]; exact (Fr.refl (fun k => k = b2) w1).setCell (p := ⟨b2, 1, none⟩) (fun _ => rfl) _
      have HB2W : Hid (Blk w2 b2 98 #[.slice A n c, .int .i64 2]) := Lib.hid (by
        have := HB2.out.set 1 (.int .i64 2)
        rw [hw2]
        simpa using this)
      have HB5W : Hid (Blk w2 b5 98 #[.slice none 0 0, .int .i64 0]) := Lib.hid (HB5.out.fr hF2 hne52)
      have HF2 := Lib.hid hF2
      rw [← hw2]
      clear hw2 hF2 c20 c21 c50 c51 f50 f51 f20 f21
      have c50 : w2.cell? ⟨b5, 0, none⟩ = some (.slice none 0 0) := HB5W.out.cell 0
      have c51 : w2.cell? ⟨b5, 1, none⟩ = some (.int .i64 0) := HB5W.out.cell 1
      have f50 : w2.frozen? ⟨b5, 0, none⟩ = false := HB5W.out.frozen 0
      have f51 : w2.frozen? ⟨b5, 1, none⟩ = false := HB5W.out.frozen 1
      have hS0 : BoxR b2 (.slice A n c) (.int .i64 2) w2.drew := BoxR.of HB2W.out
      refine wp_region_mixH (BoxR b2 (.slice A n c) (.int .i64 2)) [(true, 0), (true, 1), (false, 2)] (by kernel_rfl) (by kernel_rfl) hS0 (fun hne => ?_)
      have q0 : ∀ p : HW (BoxR b2 (.slice A n c) (.int .i64 2)), p.w.cell? ⟨b2, 0, none⟩ = some (.slice A n c) := fun p => p.h.1
      have q1 : ∀ p : HW (BoxR b2 (.slice A n c) (.int .i64 2)), p.w.cell? ⟨b2, 1, none⟩ = some (.int .i64 2) := fun p => p.h.2
      iterate 2 (refine mix_take (o := ⟨_, _, _, _, _, _⟩) rfl (fun K hK => ?_); go_simp; refine hK _ ?_; clear hK K)
      refine mix_act (o := ⟨_, _, _, _, _, _⟩) rfl (fun K hK => ?_) (.inl rfl)
      go_simp
      obtain ⟨w3, hw3⟩ : ∃ w3 : World, w3 = ((w2.setCell ⟨b5, 0, none⟩ (.slice A n c)).setCell ⟨b5, 1, none⟩ (.int .i64 2)).drew := ⟨_, rfl⟩
      have hF3 : Fr (fun k => k = b5) w2 w3 := by rw [hw3]; exact (((Fr.refl (fun k => k = b5) w2).setCell (p := ⟨b5, 0, none⟩) (fun _ => rfl) _).setCell (p := ⟨b5, 1, none⟩) (fun _ => rfl) _).drew
      have hB3 : Blk w3 b5 98 #[(.slice A n c), (.int .i64 2)] := by rw [hw3]; exact blk_set2 HB5W.out (.slice A n c) (.int .i64 2)
      rw [← hw3]
      refine hK.out _ _ (fun _ => BoxR.of (HB2W.out.fr hF3 hne25)) ?_
      clear hK K q0 q1
      refine mix_done ?_
      have r0 : w3.cell? ⟨b5, 0, none⟩ = some (.slice A n c) := hB3.cell 0
      have r1 : w3.cell? ⟨b5, 1, none⟩ = some (.int .i64 2) := hB3.cell 1
      have HF3 := Lib.hid hF3
      clear hw3 hF3 hB3 hS0
      go_wp2_with fail
      have HNF : Hid (New w w3) := Lib.hid ((HN1.out.fr HF2.out (fun k hk => by have := HZ.out; omega)).fr HF3.out (fun k hk => by have := HZ.out; omega))
      refine bodyPost_ret (v := .tuple #[.slice none 0 0, .agg #[.slice A n c, .int .i64 2]]) (by simp [results, Try.results70, go_sem, r0, r1]) rfl ⟨?_, HNF.out⟩
      rw [HRR.out]
      exact ⟨none, 0, A, n, c, rfl, rd_none _, Nat.le_refl _, ⟨HNF.out.rd H.out.rd, H.out.byt, H.out.nc, H.out.cm⟩⟩
    · have hdn : decide (n < k) = false := decide_eq_false hkn
      have HKN : Hid (k ≤ n) := Lib.hid (by omega)
      have hkc : k ≤ c := by omega
      go_upto_region 8 with fail
      have hri := rin_drop H.out HKN.out 0
      generalize (if c = k then A else Option.map (fun x => x.add k) A) = A2 at hri ⊢
      have HRI := Lib.hid hri
      have HRR : Hid (r = (s.xs.take k, ⟨s.xs.drop k, 0⟩)) := Lib.hid (by
        rw [HR.out]
        unfold Rs.raw Rs.left
        rw [if_pos HE.out.symm, HLN.out, if_neg hkn, ← HE.out])
      have HTK : Hid ((s.xs.take k).length = k) := Lib.hid (by rw [List.length_take, HLN.out]; omega)
      obtain ⟨w2, hw2⟩ : ∃ w2 : World, w2 = w1.setCell ⟨b2, 0, none⟩ (.slice A2 (n - k) (c - k)) := ⟨_, rfl⟩
      have hF2 : Fr (fun k => k = b2) w1 w2 := by rw [hw2]; exact (Fr.refl (fun k => k = b2) w1).setCell (p := ⟨b2, 0, none⟩) (fun _ => rfl) _
      have HB2W : Hid (Blk w2 b2 98 #[.slice A2 (n - k) (c - k), .int .i64 0]) := Lib.hid (by
        have := HB2.out.set 0 (.slice A2 (n - k) (c - k))
        rw [hw2]
        simpa using this)
      have HB5W : Hid (Blk w2 b5 98 #[.slice none 0 0, .int .i64 0]) := Lib.hid (HB5.out.fr hF2 hne52)
      have HF2 := Lib.hid hF2
      rw [← hw2]
      clear hw2 hF2 c20 c21 c50 c51 f50 f51 f20 f21 hri
      have c50 : w2.cell? ⟨b5, 0, none⟩ = some (.slice none 0 0) := HB5W.out.cell 0
      have c51 : w2.cell? ⟨b5, 1, none⟩ = some (.int .i64 0) := HB5W.out.cell 1
      have f50 : w2.frozen? ⟨b5, 0, none⟩ = false := HB5W.out.frozen 0
      have f51 : w2.frozen? ⟨b5, 1, none⟩ = false := HB5W.out.frozen 1
      have hS0 : BoxR b2 (.slice A2 (n - k) (c - k)) (.int .i64 0) w2.drew := BoxR.of HB2W.out
      refine wp_region_mixH (BoxR b2 (.slice A2 (n - k) (c - k)) (.int .i64 0)) [(true, 0), (true, 1), (true, 2), (false, 3)] (by kernel_rfl) (by kernel_rfl) hS0 (fun hne => ?_)
      have q0 : ∀ p : HW (BoxR b2 (.slice A2 (n - k) (c - k)) (.int .i64 0)), p.w.cell? ⟨b2, 0, none⟩ = some (.slice A2 (n - k) (c - k)) := fun p => p.h.1
      have q1 : ∀ p : HW (BoxR b2 (.slice A2 (n - k) (c - k)) (.int .i64 0)), p.w.cell? ⟨b2, 1, none⟩ = some (.int .i64 0) := fun p => p.h.2
      iterate 3 (refine mix_take (o := ⟨_, _, _, _, _, _⟩) rfl (fun K hK => ?_); go_simp; refine hK _ ?_; clear hK K)
      refine mix_act (o := ⟨_, _, _, _, _, _⟩) rfl (fun K hK => ?_) (.inl rfl)
      go_simp
      obtain ⟨w3, hw3⟩ : ∃ w3 : World, w3 = ((w2.setCell ⟨b5, 0, none⟩ (.slice A2 (n - k) (c - k))).setCell ⟨b5, 1, none⟩ (.int .i64 0)).drew := ⟨_, rfl⟩
      have hF3 : Fr (fun k => k = b5) w2 w3 := by rw [hw3]; exact (((Fr.refl (fun k => k = b5) w2).setCell (p := ⟨b5, 0, none⟩) (fun _ => rfl) _).setCell (p := ⟨b5, 1, none⟩) (fun _ => rfl) _).drew
      have hB3 : Blk w3 b5 98 #[(.slice A2 (n - k) (c - k)), (.int .i64 0)] := by rw [hw3]; exact blk_set2 HB5W.out (.slice A2 (n - k) (c - k)) (.int .i64 0)
      rw [← hw3]
      refine hK.out _ _ (fun _ => BoxR.of (HB2W.out.fr hF3 hne25)) ?_
      clear hK K q0 q1
      refine mix_done ?_
      have r0 : w3.cell? ⟨b5, 0, none⟩ = some (.slice A2 (n - k) (c - k)) := hB3.cell 0
      have r1 : w3.cell? ⟨b5, 1, none⟩ = some (.int .i64 0) := hB3.cell 1
      have HF3 := Lib.hid hF3
      clear hw3 hF3 hB3 hS0
      go_wp2_with fail
      have HNF : Hid (New w w3) := Lib.hid ((HN1.out.fr HF2.out (fun k hk => by have := HZ.out; omega)).fr HF3.out (fun k hk => by have := HZ.out; omega))
      refine bodyPost_ret (v := .tuple #[.slice A k c, .agg #[.slice A2 (n - k) (c - k), .int .i64 0]]) (by simp [results, Try.results70, go_sem, r0, r1]) rfl ⟨?_, HNF.out⟩
      rw [HRR.out]
      exact ⟨A, c, A2, n - k, c - k, by dsimp only; rw [HTK.out]; rfl, by dsimp only; rw [HTK.out]; exact HNF.out.rd (Rd.take H.out.rd HKN.out), by dsimp only; rw [HTK.out]; exact hkc, HRI.out.new HNF.out⟩
  · have hz : ((e0 : Int) != 0) = true := by simp; omega
    have hz2 : ((e0 : Int) == 0) = false := by simp; omega
    have hd0 : decide ((e0 : Int) = 0) = false := decide_eq_false (by omega)
    have HB2W := HB2
    have HB5W := HB5
    have HRR : Hid (r = ([], s)) := Lib.hid (by rw [HR.out]; exact raw_err' (by rw [← HE.out]; exact h0) k)
    go_wp2_with fail
    have hS0 : BoxR b2 (.slice A n c) (.int .i64 e0) w1.drew := BoxR.of HB2W.out
    refine wp_region_mixH (BoxR b2 (.slice A n c) (.int .i64 e0)) [(true, 0), (true, 1), (false, 2)] (by kernel_rfl) (by kernel_rfl) hS0 (fun hne => ?_)
    have q0 : ∀ p : HW (BoxR b2 (.slice A n c) (.int .i64 e0)), p.w.cell? ⟨b2, 0, none⟩ = some (.slice A n c) := fun p => p.h.1
    have q1 : ∀ p : HW (BoxR b2 (.slice A n c) (.int .i64 e0)), p.w.cell? ⟨b2, 1, none⟩ = some (.int .i64 e0) := fun p => p.h.2
    iterate 2 (refine mix_take (o := ⟨_, _, _, _, _, _⟩) rfl (fun K hK => ?_); go_simp; refine hK _ ?_; clear hK K)
    refine mix_act (o := ⟨_, _, _, _, _, _⟩) rfl (fun K hK => ?_) (.inl rfl)
    go_simp
    obtain ⟨w3, hw3⟩ : ∃ w3 : World, w3 = ((w1.setCell ⟨b5, 0, none⟩ (.slice A n c)).setCell ⟨b5, 1, none⟩ (.int .i64 e0)).drew := ⟨_, rfl⟩
    have hF3 : Fr (fun k => k = b5) w1 w3 := by rw [hw3]; exact (((Fr.refl (fun k => k = b5) w1).setCell (p := ⟨b5, 0, none⟩) (fun _ => rfl) _).setCell (p := ⟨b5, 1, none⟩) (fun _ => rfl) _).drew
    have hB3 : Blk w3 b5 98 #[(.slice A n c), (.int .i64 e0)] := by rw [hw3]; exact blk_set2 HB5W.out (.slice A n c) (.int .i64 e0)
    rw [← hw3]
    refine hK.out _ _ (fun _ => BoxR.of (HB2W.out.fr hF3 hne25)) ?_
    clear hK K q0 q1
    refine mix_done ?_
    have r0 : w3.cell? ⟨b5, 0, none⟩ = some (.slice A n c) := hB3.cell 0
    have r1 : w3.cell? ⟨b5, 1, none⟩ = some (.int .i64 e0) := hB3.cell 1
    have HF3 := Lib.hid hF3
    clear hw3 hF3 hB3 hS0
    go_wp2_with fail
    have HNF : Hid (New w w3) := Lib.hid (HN1.out.fr HF3.out (fun k hk => by have := HZ.out; omega))
    refine bodyPost_ret (v := .tuple #[.slice none 0 0, .agg #[.slice A n c, .int .i64 e0]]) (by simp [results, Try.results70, go_sem, r0, r1]) rfl ⟨?_, HNF.out⟩
    rw [HRR.out]
    exact ⟨none, 0, A, n, c, by rw [HE.out]; rfl, rd_none _, Nat.le_refl _, H.out.new HNF.out⟩
/-- What Read says. -/
def ReadSays (p : Nat → Prop) (r : Nat × Rs) (e : Ending) (w' : World) : Prop :=
  ∃ (A2 : Option Addr) (n2 c2 : Nat), e = .returned (.tuple #[.int .u64 r.1, rV A2 n2 c2 r.2.e]) ∧ RIn p w' A2 n2 c2 r.2
theorem num_err {s : Rs} (h : s.e ≠ 0) (k : Nat) : s.num k = (0, s) := by
  unfold Rs.num
  rw [raw_err' h]
  rfl
set_option maxHeartbeats 4000000 in
theorem read_any {p : Nat → Prop} {w : World} {A : Option Addr} {n c : Nat} {s : Rs} (h : RIn p w A n c s) (size : Nat) (hs : size = 1 ∨ size = 2 ∨ size = 4 ∨ size = 8) (hp : ∀ k, p k → k < w.heap.size) :
    Calls Try.prog 56 #[rV A n c s.e, .int .i64 size] w fun e w' => ReadSays p (s.num size) e w' ∧ New w w' := by
  have H := Lib.hid h
  have hn := h.len
  have HLN := Lib.hid hn
  have hcm := h.cm
  have hnc := h.nc
  unfold rV
  obtain ⟨r, hr⟩ : ∃ r, r = s.num size := ⟨_, rfl⟩
  rw [← hr]
  have HR := Lib.hid hr
  obtain ⟨e0, he0⟩ : ∃ e0, e0 = s.e := ⟨_, rfl⟩
  rw [← he0]
  have HE := Lib.hid he0
  have HP := Lib.hid hp
  clear hp
  clear h hr he0 hn
  go_enter Try.func56, Try.ntmps56
  go_upto_region 1 with fail
  obtain ⟨w1, hw1⟩ : ∃ w1 : World, w1 = (w.alloc (.cells #[.slice A n c, .int .i64 e0] 98)).alloc (.cells #[.slice none 0 0, .int .i64 0] 98) := ⟨_, rfl⟩
  obtain ⟨b2, hb2⟩ : ∃ b2, b2 = w.heap.size := ⟨_, rfl⟩
  obtain ⟨b5, hb5⟩ : ∃ b5, b5 = w.heap.size + 1 := ⟨_, rfl⟩
  have HN1 : Hid (New w w1) := Lib.hid (by rw [hw1]; exact New.al (New.al (New.refl _) _) _)
  have HB2 : Hid (Blk w1 b2 98 #[.slice A n c, .int .i64 e0]) := Lib.hid (by rw [hw1, hb2]; exact (Blk.new _ _ _).alloc _)
  have HB5 : Hid (Blk w1 b5 98 #[.slice none 0 0, .int .i64 0]) := Lib.hid (by rw [hw1, hb5]; exact Blk.new' _ _ _ (by simp))
  have HZ : Hid (w.heap.size ≤ b2 ∧ w.heap.size ≤ b5) := Lib.hid ⟨by omega, by omega⟩
  have hne25 : b2 ≠ b5 := by omega
  rw [← hw1, ← hb5, ← hb2]
  clear hw1 hb2 hb5
  have c20 : w1.cell? ⟨b2, 0, none⟩ = some (.slice A n c) := HB2.out.cell 0
  have c21 : w1.cell? ⟨b2, 1, none⟩ = some (.int .i64 e0) := HB2.out.cell 1
  have c50 : w1.cell? ⟨b5, 0, none⟩ = some (.slice none 0 0) := HB5.out.cell 0
  have c51 : w1.cell? ⟨b5, 1, none⟩ = some (.int .i64 0) := HB5.out.cell 1
  have f50 : w1.frozen? ⟨b5, 0, none⟩ = false := HB5.out.frozen 0
  have f51 : w1.frozen? ⟨b5, 1, none⟩ = false := HB5.out.frozen 1
  have f20 : w1.frozen? ⟨b2, 0, none⟩ = false := HB2.out.frozen 0
  have f21 : w1.frozen? ⟨b2, 1, none⟩ = false := HB2.out.frozen 1
  have hne52 : ¬ b5 = b2 := fun e => hne25 e.symm
  by_cases h0 : e0 = 0
  · have HT := Lib.hid (take_any (H.out.new HN1.out) size (by omega))
    obtain ⟨q, hq⟩ : ∃ q, q = s.raw size := ⟨_, rfl⟩
    rw [← HE.out] at HT
    rw [← hq] at HT
    unfold rV at HT
    have HRR : Hid (r = (valL q.1, q.2)) := Lib.hid (by rw [HR.out]; unfold Rs.num; rw [← hq])
    have hql : q.1.length ≤ 8 := by rw [hq]; have := raw_le s size; omega
    have HQB : Hid (Byt q.1) := Lib.hid (by rw [hq]; exact raw_byt H.out.byt size)
    have hsz : (size == 1 || size == 2 || size == 4 || size == 8) = true := by rcases hs with rfl | rfl | rfl | rfl <;> rfl
    clear hq
    subst h0
    rcases hs with rfl | rfl | rfl | rfl
    all_goals
      go_wp2_with fail
      refine HT.out.mono ?_
      rintro e w2 ⟨⟨A1, c1, A2, n2, c2, rfl, hr1, hnc1, hri⟩, hN2⟩
      have HR1 := Lib.hid hr1
      have HRI := Lib.hid hri
      have HN2 := Lib.hid hN2
      have HB22 := Lib.hid (hN2.blk HB2.out)
      have HB52 := Lib.hid (hN2.blk HB5.out)
      obtain ⟨q1, hq1⟩ : ∃ q1, q1 = q.1 := ⟨_, rfl⟩
      obtain ⟨q2, hq2⟩ : ∃ q2, q2 = q.2 := ⟨_, rfl⟩
      rw [← hq1, ← hq2] at HRR
      rw [← hq1] at HR1 HQB hql hnc1
      rw [← hq2] at HRI
      rw [← hq1, ← hq2]
      obtain ⟨m1, hm1⟩ : ∃ m1, m1 = q1.length := ⟨_, rfl⟩
      obtain ⟨e2, he2⟩ : ∃ e2, e2 = q2.e := ⟨_, rfl⟩
      rw [← hm1] at hql hnc1 HR1 ⊢
      rw [← he2]
      have HE2 := Lib.hid he2
      clear hr1 hri hN2 hq1 hq2 hm1 he2 c20 c21 c50 c51 f50 f51 f20 f21 HT HB2 HB5
      unfold rV
      have c20 : w2.cell? ⟨b2, 0, none⟩ = some (.slice A n c) := HB22.out.cell 0
      have c21 : w2.cell? ⟨b2, 1, none⟩ = some (.int .i64 0) := HB22.out.cell 1
      have f20 : w2.frozen? ⟨b2, 0, none⟩ = false := HB22.out.frozen 0
      have f21 : w2.frozen? ⟨b2, 1, none⟩ = false := HB22.out.frozen 1
      go_upto_region 7 with fail
      obtain ⟨w4, hw4⟩ : ∃ w4 : World, w4 = (w2.setCell ⟨b2, 0, none⟩ (.slice A2 n2 c2)).setCell ⟨b2, 1, none⟩ (.int .i64 e2) := ⟨_, rfl⟩
      have hF4 : Fr (fun k => k = b2) w2 w4 := by rw [hw4]; exact ((Fr.refl (fun k => k = b2) w2).setCell (p := ⟨b2, 0, none⟩) (fun _ => rfl) _).setCell (p := ⟨b2, 1, none⟩) (fun _ => rfl) _
      have HB2W : Hid (Blk w4 b2 98 #[.slice A2 n2 c2, .int .i64 e2]) := Lib.hid (by rw [hw4]; exact blk_set2 HB22.out _ _)
      have HB5W : Hid (Blk w4 b5 98 #[.slice none 0 0, .int .i64 0]) := Lib.hid (HB52.out.fr hF4 hne52)
      have HN4 : Hid (New w w4) := Lib.hid ((HN1.out.tr HN2.out).fr hF4 (fun k hk => by have := HZ.out; omega))
      rw [← hw4]
      clear hw4 c20 c21 f20 f21
      have hpb : ∀ k, p k → ¬ k = b2 := fun k hk e => by have := HP.out k hk; have := HZ.out; omega
      have HR4 : Hid (Rd p w4 1 A1 m1 (u8s q1)) := Lib.hid (HR1.out.fr hF4 hpb)
      have HRI4 : Hid (RIn p w4 A2 n2 c2 q2) := Lib.hid ⟨HRI.out.rd.fr hF4 hpb, HRI.out.byt, HRI.out.nc, HRI.out.cm⟩
      have HVA := Lib.hid (value_any A1 m1 c1 q1 w4.drew HR4.out HQB.out hql)
      have c50 : w4.cell? ⟨b5, 0, none⟩ = some (.slice none 0 0) := HB5W.out.cell 0
      have c51 : w4.cell? ⟨b5, 1, none⟩ = some (.int .i64 0) := HB5W.out.cell 1
      have f50 : w4.frozen? ⟨b5, 0, none⟩ = false := HB5W.out.frozen 0
      have f51 : w4.frozen? ⟨b5, 1, none⟩ = false := HB5W.out.frozen 1
      clear hF4 hpb
      have hS0 : BoxR b2 (.slice A2 n2 c2) (.int .i64 e2) w4.drew := BoxR.of HB2W.out
      refine wp_region_mixH (BoxR b2 (.slice A2 n2 c2) (.int .i64 e2)) [(true, 0), (true, 2), (false, 1), (true, 3), (false, 4)] (by kernel_rfl) (by kernel_rfl) hS0 (fun hne => ?_)
      have q0 : ∀ p : HW (BoxR b2 (.slice A2 n2 c2) (.int .i64 e2)), p.w.cell? ⟨b2, 0, none⟩ = some (.slice A2 n2 c2) := fun p => p.h.1
      have q1' : ∀ p : HW (BoxR b2 (.slice A2 n2 c2) (.int .i64 e2)), p.w.cell? ⟨b2, 1, none⟩ = some (.int .i64 e2) := fun p => p.h.2
      iterate 2 (refine mix_take (o := ⟨_, _, _, _, _, _⟩) rfl (fun K hK => ?_); go_simp; refine hK _ ?_; clear hK K)
      refine mix_act (o := ⟨_, _, _, _, _, _⟩) rfl (fun K hK => ?_) (.inl rfl)
      go_simp
      refine HVA.out.mono ?_
      rintro e w5 ⟨rfl, rfl⟩
      refine hK.out _ _ (fun _ => BoxR.of HB2W.out) ?_
      clear hK K
      refine mix_take (o := ⟨_, _, _, _, _, _⟩) rfl (fun K hK => ?_)
      go_simp
      refine hK _ ?_
      clear hK K
      refine mix_act (o := ⟨_, _, _, _, _, _⟩) rfl (fun K hK => ?_) (.inl rfl)
      go_simp
      obtain ⟨w3, hw3⟩ : ∃ w3 : World, w3 = ((w4.setCell ⟨b5, 0, none⟩ (.slice A2 n2 c2)).setCell ⟨b5, 1, none⟩ (.int .i64 e2)).drew := ⟨_, rfl⟩
      have hF3 : Fr (fun k => k = b5) w4 w3 := by rw [hw3]; exact (((Fr.refl (fun k => k = b5) w4).setCell (p := ⟨b5, 0, none⟩) (fun _ => rfl) _).setCell (p := ⟨b5, 1, none⟩) (fun _ => rfl) _).drew
      have hB3 : Blk w3 b5 98 #[.slice A2 n2 c2, .int .i64 e2] := by rw [hw3]; exact blk_set2 HB5W.out _ _
      rw [← hw3]
      refine hK.out _ _ (fun _ => BoxR.of (HB2W.out.fr hF3 hne25)) ?_
      clear hK K q0 q1'
      refine mix_done ?_
      have r0 : w3.cell? ⟨b5, 0, none⟩ = some (.slice A2 n2 c2) := hB3.cell 0
      have r1 : w3.cell? ⟨b5, 1, none⟩ = some (.int .i64 e2) := hB3.cell 1
      have HNF : Hid (New w w3) := Lib.hid (HN4.out.fr hF3 (fun k hk => by have := HZ.out; omega))
      have HRF : Hid (RIn p w3 A2 n2 c2 q2) := Lib.hid (by
        have hpb : ∀ k, p k → ¬ k = b5 := fun k hk e => by have := HP.out k hk; have := HZ.out; omega
        exact ⟨HRI4.out.rd.fr hF3 hpb, HRI4.out.byt, HRI4.out.nc, HRI4.out.cm⟩)
      clear hw3 hF3 hB3 hS0
      go_wp2_with fail
      refine bodyPost_ret (v := .tuple #[.int .u64 (valL q1), .agg #[.slice A2 n2 c2, .int .i64 e2]]) (by simp [results, Try.results56, go_sem, r0, r1]) rfl ⟨?_, HNF.out⟩
      rw [HRR.out]
      exact ⟨A2, n2, c2, by rw [HE2.out]; rfl, HRF.out⟩
  · have hz : ((e0 : Int) != 0) = true := by simp; omega
    have hz2 : ((e0 : Int) == 0) = false := by simp; omega
    have hd0 : decide ((e0 : Int) = 0) = false := decide_eq_false (by omega)
    have HB2W := HB2
    have HB5W := HB5
    have HRR : Hid (r = (0, s)) := Lib.hid (by rw [HR.out]; exact num_err (by rw [← HE.out]; exact h0) size)
    clear hs
    go_wp2_with fail
    have hS0 : BoxR b2 (.slice A n c) (.int .i64 e0) w1.drew := BoxR.of HB2W.out
    refine wp_region_mixH (BoxR b2 (.slice A n c) (.int .i64 e0)) [(true, 0), (true, 1), (false, 2)] (by kernel_rfl) (by kernel_rfl) hS0 (fun hne => ?_)
    have q0 : ∀ p : HW (BoxR b2 (.slice A n c) (.int .i64 e0)), p.w.cell? ⟨b2, 0, none⟩ = some (.slice A n c) := fun p => p.h.1
    have q1 : ∀ p : HW (BoxR b2 (.slice A n c) (.int .i64 e0)), p.w.cell? ⟨b2, 1, none⟩ = some (.int .i64 e0) := fun p => p.h.2
    iterate 2 (refine mix_take (o := ⟨_, _, _, _, _, _⟩) rfl (fun K hK => ?_); go_simp; refine hK _ ?_; clear hK K)
    refine mix_act (o := ⟨_, _, _, _, _, _⟩) rfl (fun K hK => ?_) (.inl rfl)
    go_simp
    obtain ⟨w3, hw3⟩ : ∃ w3 : World, w3 = ((w1.setCell ⟨b5, 0, none⟩ (.slice A n c)).setCell ⟨b5, 1, none⟩ (.int .i64 e0)).drew := ⟨_, rfl⟩
    have hF3 : Fr (fun k => k = b5) w1 w3 := by rw [hw3]; exact (((Fr.refl (fun k => k = b5) w1).setCell (p := ⟨b5, 0, none⟩) (fun _ => rfl) _).setCell (p := ⟨b5, 1, none⟩) (fun _ => rfl) _).drew
    have hB3 : Blk w3 b5 98 #[(.slice A n c), (.int .i64 e0)] := by rw [hw3]; exact blk_set2 HB5W.out (.slice A n c) (.int .i64 e0)
    rw [← hw3]
    refine hK.out _ _ (fun _ => BoxR.of (HB2W.out.fr hF3 hne25)) ?_
    clear hK K q0 q1
    refine mix_done ?_
    have r0 : w3.cell? ⟨b5, 0, none⟩ = some (.slice A n c) := hB3.cell 0
    have r1 : w3.cell? ⟨b5, 1, none⟩ = some (.int .i64 e0) := hB3.cell 1
    have HF3 := Lib.hid hF3
    clear hw3 hF3 hB3 hS0
    go_wp2_with fail
    have HNF : Hid (New w w3) := Lib.hid (HN1.out.fr HF3.out (fun k hk => by have := HZ.out; omega))
    refine bodyPost_ret (v := .tuple #[.int .u64 0, .agg #[.slice A n c, .int .i64 e0]]) (by simp [results, Try.results56, go_sem, r0, r1]) rfl ⟨?_, HNF.out⟩
    rw [HRR.out]
    exact ⟨A, n, c, by rw [HE.out]; rfl, H.out.new HNF.out⟩
/-- What Bool says. -/
def BoolSays (p : Nat → Prop) (r : Bool × Rs) (e : Ending) (w' : World) : Prop :=
  ∃ (A2 : Option Addr) (n2 c2 : Nat), e = .returned (.tuple #[.bool r.1, rV A2 n2 c2 r.2.e]) ∧ RIn p w' A2 n2 c2 r.2
theorem flag_err {s : Rs} (h : s.e ≠ 0) : s.flag = (false, s) := by
  have hl : s.left = 0 := by unfold Rs.left; rw [if_neg h]
  unfold Rs.flag
  rw [hl, if_pos (.inl (by omega))]
  unfold Rs.bad
  rw [if_neg h]
def BoxRx (b : Nat) (x y : Value) (g o : Nat) (z : Value) (w : World) : Prop := w.cell? ⟨b, 0, none⟩ = some x ∧ w.cell? ⟨b, 1, none⟩ = some y ∧ w.cell? ⟨g, o, none⟩ = some z
set_option maxHeartbeats 4000000 in
theorem bool_any {p : Nat → Prop} {w : World} {A : Option Addr} {n c : Nat} {s : Rs} (h : RIn p w A n c s) (hp : ∀ k, p k → k < w.heap.size) :
    Calls Try.prog 57 #[rV A n c s.e] w fun e w' => BoolSays p s.flag e w' ∧ New w w' := by
  have H := Lib.hid h
  have hn := h.len
  have HLN := Lib.hid hn
  have hcm := h.cm
  have hnc := h.nc
  unfold rV
  obtain ⟨r, hr⟩ : ∃ r, r = s.flag := ⟨_, rfl⟩
  rw [← hr]
  have HR := Lib.hid hr
  obtain ⟨e0, he0⟩ : ∃ e0, e0 = s.e := ⟨_, rfl⟩
  rw [← he0]
  have HE := Lib.hid he0
  have HP := Lib.hid hp
  clear hp
  clear h hr he0 hn
  go_enter Try.func57, Try.ntmps57
  go_upto_region 1 with fail
  obtain ⟨w1, hw1⟩ : ∃ w1 : World, w1 = (w.alloc (.cells #[.slice A n c, .int .i64 e0] 98)).alloc (.cells #[.slice none 0 0, .int .i64 0] 98) := ⟨_, rfl⟩
  obtain ⟨b2, hb2⟩ : ∃ b2, b2 = w.heap.size := ⟨_, rfl⟩
  obtain ⟨b5, hb5⟩ : ∃ b5, b5 = w.heap.size + 1 := ⟨_, rfl⟩
  have HN1 : Hid (New w w1) := Lib.hid (by rw [hw1]; exact New.al (New.al (New.refl _) _) _)
  have HB2 : Hid (Blk w1 b2 98 #[.slice A n c, .int .i64 e0]) := Lib.hid (by rw [hw1, hb2]; exact (Blk.new _ _ _).alloc _)
  have HB5 : Hid (Blk w1 b5 98 #[.slice none 0 0, .int .i64 0]) := Lib.hid (by rw [hw1, hb5]; exact Blk.new' _ _ _ (by simp))
  have HZ : Hid (w.heap.size ≤ b2 ∧ w.heap.size ≤ b5) := Lib.hid ⟨by omega, by omega⟩
  have hne25 : b2 ≠ b5 := by omega
  rw [← hw1, ← hb5, ← hb2]
  clear hw1 hb2 hb5
  have c20 : w1.cell? ⟨b2, 0, none⟩ = some (.slice A n c) := HB2.out.cell 0
  have c21 : w1.cell? ⟨b2, 1, none⟩ = some (.int .i64 e0) := HB2.out.cell 1
  have c50 : w1.cell? ⟨b5, 0, none⟩ = some (.slice none 0 0) := HB5.out.cell 0
  have c51 : w1.cell? ⟨b5, 1, none⟩ = some (.int .i64 0) := HB5.out.cell 1
  have f50 : w1.frozen? ⟨b5, 0, none⟩ = false := HB5.out.frozen 0
  have f51 : w1.frozen? ⟨b5, 1, none⟩ = false := HB5.out.frozen 1
  have f20 : w1.frozen? ⟨b2, 0, none⟩ = false := HB2.out.frozen 0
  have f21 : w1.frozen? ⟨b2, 1, none⟩ = false := HB2.out.frozen 1
  have hne52 : ¬ b5 = b2 := fun e => hne25 e.symm
  by_cases h0 : e0 = 0
  · subst h0
    by_cases hn0 : n = 0
    · subst hn0
      have HRR : Hid (r = (false, ⟨s.xs, 2⟩)) := Lib.hid (by
        rw [HR.out]
        unfold Rs.flag Rs.left Rs.bad
        rw [if_pos HE.out.symm, HLN.out, if_pos (.inl (by omega)), if_pos HE.out.symm])
      go_upto_region 5 with fail
      obtain ⟨w2, hw2⟩ : ∃ w2 : World, w2 = w1.setCell ⟨b2, 1, none⟩ (.int .i64 2) := ⟨_, rfl⟩
      have hF2 : Fr (fun k => k = b2) w1 w2 := by rw [hw2]; exact (Fr.refl (fun k => k = b2) w1).setCell (p := ⟨b2, 1, none⟩) (fun _ => rfl) _
      have HB2W : Hid (Blk w2 b2 98 #[.slice A 0 c, .int .i64 2]) := Lib.hid (by
        have := HB2.out.set 1 (.int .i64 2)
        rw [hw2]
        simpa using this)
      have HB5W : Hid (Blk w2 b5 98 #[.slice none 0 0, .int .i64 0]) := Lib.hid (HB5.out.fr hF2 hne52)
      have HF2 := Lib.hid hF2
      rw [← hw2]
      clear hw2 hF2 c20 c21 c50 c51 f50 f51 f20 f21
      have c50 : w2.cell? ⟨b5, 0, none⟩ = some (.slice none 0 0) := HB5W.out.cell 0
      have c51 : w2.cell? ⟨b5, 1, none⟩ = some (.int .i64 0) := HB5W.out.cell 1
      have f50 : w2.frozen? ⟨b5, 0, none⟩ = false := HB5W.out.frozen 0
      have f51 : w2.frozen? ⟨b5, 1, none⟩ = false := HB5W.out.frozen 1
      have hS0 : BoxR b2 (.slice A 0 c) (.int .i64 2) w2.drew := BoxR.of HB2W.out
      refine wp_region_mixH (BoxR b2 (.slice A 0 c) (.int .i64 2)) [(true, 0), (true, 1), (false, 2)] (by kernel_rfl) (by kernel_rfl) hS0 (fun hne => ?_)
      have q0 : ∀ p : HW (BoxR b2 (.slice A 0 c) (.int .i64 2)), p.w.cell? ⟨b2, 0, none⟩ = some (.slice A 0 c) := fun p => p.h.1
      have q1 : ∀ p : HW (BoxR b2 (.slice A 0 c) (.int .i64 2)), p.w.cell? ⟨b2, 1, none⟩ = some (.int .i64 2) := fun p => p.h.2
      iterate 2 (refine mix_take (o := ⟨_, _, _, _, _, _⟩) rfl (fun K hK => ?_); go_simp; refine hK _ ?_; clear hK K)
      refine mix_act (o := ⟨_, _, _, _, _, _⟩) rfl (fun K hK => ?_) (.inl rfl)
      go_simp
      obtain ⟨w3, hw3⟩ : ∃ w3 : World, w3 = ((w2.setCell ⟨b5, 0, none⟩ (.slice A 0 c)).setCell ⟨b5, 1, none⟩ (.int .i64 2)).drew := ⟨_, rfl⟩
      have hF3 : Fr (fun k => k = b5) w2 w3 := by rw [hw3]; exact (((Fr.refl (fun k => k = b5) w2).setCell (p := ⟨b5, 0, none⟩) (fun _ => rfl) _).setCell (p := ⟨b5, 1, none⟩) (fun _ => rfl) _).drew
      have hB3 : Blk w3 b5 98 #[(.slice A 0 c), (.int .i64 2)] := by rw [hw3]; exact blk_set2 HB5W.out (.slice A 0 c) (.int .i64 2)
      rw [← hw3]
      refine hK.out _ _ (fun _ => BoxR.of (HB2W.out.fr hF3 hne25)) ?_
      clear hK K q0 q1
      refine mix_done ?_
      have r0 : w3.cell? ⟨b5, 0, none⟩ = some (.slice A 0 c) := hB3.cell 0
      have r1 : w3.cell? ⟨b5, 1, none⟩ = some (.int .i64 2) := hB3.cell 1
      have HF3 := Lib.hid hF3
      clear hw3 hF3 hB3 hS0
      go_wp2_with fail
      have HNF : Hid (New w w3) := Lib.hid ((HN1.out.fr HF2.out (fun k hk => by have := HZ.out; omega)).fr HF3.out (fun k hk => by have := HZ.out; omega))
      refine bodyPost_ret (v := .tuple #[.bool false, .agg #[.slice A 0 c, .int .i64 2]]) (by simp [results, Try.results57, go_sem, r0, r1]) rfl ⟨?_, HNF.out⟩
      rw [HRR.out]
      exact ⟨A, 0, c, rfl, ⟨HNF.out.rd H.out.rd, H.out.byt, H.out.nc, H.out.cm⟩⟩
    · obtain ⟨gA, o, rfl, hpg, -, hq⟩ := H.out.rd.out (by omega) (by omega)
      have hxl : 0 < s.xs.length := by rw [HLN.out]; omega
      have hby := H.out.byt s.xs[0] (List.getElem_mem _)
      have hcx : w1.cell? ⟨gA, o, none⟩ = some (.int .u8 s.xs[0]) := HN1.out.cell_ (hq 0 _ (by simp [u8s, hxl]))
      have hhd : s.xs.headD 0 = s.xs[0] := by
        obtain ⟨xs, e⟩ := s
        match xs, hxl with
        | a :: r, _ => rfl
      have hlf : s.left = n := by unfold Rs.left; rw [if_pos HE.out.symm, HLN.out]
      have hf : s.flag = if (1 : Int) < s.xs[0] then (false, s.bad 2) else (decide ((s.num 1).1 = 1), (s.num 1).2) := by
        unfold Rs.flag
        rw [hhd, hlf]
        by_cases h1 : (1 : Int) < s.xs[0]
        · rw [if_pos (.inr h1), if_pos h1]
        · rw [if_neg (by rintro (h | h) <;> omega), if_neg h1]
      have hnum : s.num 1 = (s.xs[0].toNat, ⟨s.xs.drop 1, 0⟩) := by
        unfold Rs.num Rs.raw
        rw [hlf, if_neg (by omega), ← HE.out]
        obtain ⟨xs, e⟩ := s
        match xs, hxl with
        | a :: r, _ => simp [valL]
      rw [hnum] at hf
      have hgb : gA ≠ b5 ∧ gA ≠ b2 := by have := HP.out gA hpg; have := HZ.out; omega
      obtain ⟨x, hx⟩ : ∃ x, x = s.xs[0] := ⟨_, rfl⟩
      rw [← hx] at hf hcx hby
      have HF := Lib.hid hf
      clear hf hnum hhd hq hx hlf
      have hn1 : decide (n = 0) = false := decide_eq_false hn0
      have hnz : ((n : Int) == 0) = false := by simp; omega
      have hpn : (0 : Int) < (n : Int) := by omega
      have hpn2 : 0 < n := by omega
      by_cases h1 : (1 : Int) < x
      · have hd1 : decide (1 < x) = true := decide_eq_true h1
        have HRR : Hid (r = (false, ⟨s.xs, 2⟩)) := Lib.hid (by
          rw [HR.out, HF.out, if_pos h1]
          unfold Rs.bad
          rw [if_pos HE.out.symm])
        go_upto_region 5 with fail
        obtain ⟨w2, hw2⟩ : ∃ w2 : World, w2 = w1.setCell ⟨b2, 1, none⟩ (.int .i64 2) := ⟨_, rfl⟩
        have hF2 : Fr (fun k => k = b2) w1 w2 := by rw [hw2]; exact (Fr.refl (fun k => k = b2) w1).setCell (p := ⟨b2, 1, none⟩) (fun _ => rfl) _
        have HB2W : Hid (Blk w2 b2 98 #[.slice (some ⟨gA, o, none⟩) n c, .int .i64 2]) := Lib.hid (by
          have := HB2.out.set 1 (.int .i64 2)
          rw [hw2]
          simpa using this)
        have HB5W : Hid (Blk w2 b5 98 #[.slice none 0 0, .int .i64 0]) := Lib.hid (HB5.out.fr hF2 hne52)
        have HF2 := Lib.hid hF2
        rw [← hw2]
        clear hw2 hF2 c20 c21 c50 c51 f50 f51 f20 f21
        have c50 : w2.cell? ⟨b5, 0, none⟩ = some (.slice none 0 0) := HB5W.out.cell 0
        have c51 : w2.cell? ⟨b5, 1, none⟩ = some (.int .i64 0) := HB5W.out.cell 1
        have f50 : w2.frozen? ⟨b5, 0, none⟩ = false := HB5W.out.frozen 0
        have f51 : w2.frozen? ⟨b5, 1, none⟩ = false := HB5W.out.frozen 1
        have hS0 : BoxR b2 (.slice (some ⟨gA, o, none⟩) n c) (.int .i64 2) w2.drew := BoxR.of HB2W.out
        refine wp_region_mixH (BoxR b2 (.slice (some ⟨gA, o, none⟩) n c) (.int .i64 2)) [(true, 0), (true, 1), (false, 2)] (by kernel_rfl) (by kernel_rfl) hS0 (fun hne => ?_)
        have q0 : ∀ p : HW (BoxR b2 (.slice (some ⟨gA, o, none⟩) n c) (.int .i64 2)), p.w.cell? ⟨b2, 0, none⟩ = some (.slice (some ⟨gA, o, none⟩) n c) := fun p => p.h.1
        have q1 : ∀ p : HW (BoxR b2 (.slice (some ⟨gA, o, none⟩) n c) (.int .i64 2)), p.w.cell? ⟨b2, 1, none⟩ = some (.int .i64 2) := fun p => p.h.2
        iterate 2 (refine mix_take (o := ⟨_, _, _, _, _, _⟩) rfl (fun K hK => ?_); go_simp; refine hK _ ?_; clear hK K)
        refine mix_act (o := ⟨_, _, _, _, _, _⟩) rfl (fun K hK => ?_) (.inl rfl)
        go_simp
        obtain ⟨w3, hw3⟩ : ∃ w3 : World, w3 = ((w2.setCell ⟨b5, 0, none⟩ (.slice (some ⟨gA, o, none⟩) n c)).setCell ⟨b5, 1, none⟩ (.int .i64 2)).drew := ⟨_, rfl⟩
        have hF3 : Fr (fun k => k = b5) w2 w3 := by rw [hw3]; exact (((Fr.refl (fun k => k = b5) w2).setCell (p := ⟨b5, 0, none⟩) (fun _ => rfl) _).setCell (p := ⟨b5, 1, none⟩) (fun _ => rfl) _).drew
        have hB3 : Blk w3 b5 98 #[(.slice (some ⟨gA, o, none⟩) n c), (.int .i64 2)] := by rw [hw3]; exact blk_set2 HB5W.out (.slice (some ⟨gA, o, none⟩) n c) (.int .i64 2)
        rw [← hw3]
        refine hK.out _ _ (fun _ => BoxR.of (HB2W.out.fr hF3 hne25)) ?_
        clear hK K q0 q1
        refine mix_done ?_
        have r0 : w3.cell? ⟨b5, 0, none⟩ = some (.slice (some ⟨gA, o, none⟩) n c) := hB3.cell 0
        have r1 : w3.cell? ⟨b5, 1, none⟩ = some (.int .i64 2) := hB3.cell 1
        have HF3 := Lib.hid hF3
        clear hw3 hF3 hB3 hS0
        go_wp2_with fail
        have HNF : Hid (New w w3) := Lib.hid ((HN1.out.fr HF2.out (fun k hk => by have := HZ.out; omega)).fr HF3.out (fun k hk => by have := HZ.out; omega))
        refine bodyPost_ret (v := .tuple #[.bool false, .agg #[.slice (some ⟨gA, o, none⟩) n c, .int .i64 2]]) (by simp [results, Try.results57, go_sem, r0, r1]) rfl ⟨?_, HNF.out⟩
        rw [HRR.out]
        exact ⟨some ⟨gA, o, none⟩, n, c, rfl, ⟨HNF.out.rd H.out.rd, H.out.byt, H.out.nc, H.out.cm⟩⟩
      · have hd1 : decide (1 < x) = false := decide_eq_false h1
        have HRR : Hid (r = (decide (x.toNat = 1), ⟨s.xs.drop 1, 0⟩)) := Lib.hid (by rw [HR.out, HF.out, if_neg h1])
        have hri := rin_drop (k := 1) H.out (by omega) 0
        have h1c : 1 ≤ c := by omega
        have h1n : (1 : Int) ≤ (n : Int) := by omega
        have hmp : Option.map (fun x : Addr => x.add 1) (some ⟨gA, o, none⟩) = some ⟨gA, o + 1, none⟩ := by simp [Addr.add]
        rw [hmp] at hri
        clear hmp
        go_wp2_with fail
        have hS0 : BoxRx b2 (.slice (some ⟨gA, o, none⟩) n c) (.int .i64 0) gA o (.int .u8 x) w1.drew := ⟨c20, c21, hcx⟩
        refine wp_region_mixH (BoxRx b2 (.slice (some ⟨gA, o, none⟩) n c) (.int .i64 0) gA o (.int .u8 x)) [(true, 0), (true, 1), (true, 2), (true, 3), (true, 4), (true, 5), (true, 6), (true, 7), (true, 8), (true, 9), (false, 10)] (by kernel_rfl) (by kernel_rfl) hS0 (fun hne => ?_)
        have q0 : ∀ p : HW (BoxRx b2 (.slice (some ⟨gA, o, none⟩) n c) (.int .i64 0) gA o (.int .u8 x)), p.w.cell? ⟨b2, 0, none⟩ = some (.slice (some ⟨gA, o, none⟩) n c) := fun p => p.h.1
        have q1 : ∀ p : HW (BoxRx b2 (.slice (some ⟨gA, o, none⟩) n c) (.int .i64 0) gA o (.int .u8 x)), p.w.cell? ⟨gA, o, none⟩ = some (.int .u8 x) := fun p => p.h.2.2
        iterate 10 (refine mix_take (o := ⟨_, _, _, _, _, _⟩) rfl (fun K hK => ?_); go_simp; refine hK _ ?_; clear hK K)
        refine mix_act (o := ⟨_, _, _, _, _, _⟩) rfl (fun K hK => ?_) (.inl rfl)
        go_simp
        generalize (if c = 1 then some (⟨gA, o, none⟩ : Addr) else some ⟨gA, o + 1, none⟩) = A2 at hri ⊢
        have HRI := Lib.hid hri
        obtain ⟨w3, hw3⟩ : ∃ w3 : World, w3 = ((w1.setCell ⟨b5, 0, none⟩ (.slice A2 (n - 1) (c - 1))).setCell ⟨b5, 1, none⟩ (.int .i64 0)).drew := ⟨_, rfl⟩
        have hF3 : Fr (fun k => k = b5) w1 w3 := by rw [hw3]; exact (((Fr.refl (fun k => k = b5) w1).setCell (p := ⟨b5, 0, none⟩) (fun _ => rfl) _).setCell (p := ⟨b5, 1, none⟩) (fun _ => rfl) _).drew
        have hB3 : Blk w3 b5 98 #[.slice A2 (n - 1) (c - 1), .int .i64 0] := by rw [hw3]; exact blk_set2 HB5.out _ _
        rw [← hw3]
        refine hK.out _ _ (fun _ => ⟨(HB2.out.fr hF3 hne25).cell 0, (HB2.out.fr hF3 hne25).cell 1, hF3.cell_some hcx hgb.1⟩) ?_
        clear hK K q0 q1
        refine mix_done ?_
        have r0 : w3.cell? ⟨b5, 0, none⟩ = some (.slice A2 (n - 1) (c - 1)) := hB3.cell 0
        have r1 : w3.cell? ⟨b5, 1, none⟩ = some (.int .i64 0) := hB3.cell 1
        have HNF : Hid (New w w3) := Lib.hid (HN1.out.fr hF3 (fun k hk => by have := HZ.out; omega))
        obtain ⟨bb, hbb⟩ : ∃ bb, bb = (x == 1) := ⟨_, rfl⟩
        have HBB : Hid (bb = decide (x.toNat = 1)) := Lib.hid (by
          rw [hbb]
          by_cases hx1 : x = 1
          · subst hx1; rfl
          · have h2 : ¬ x.toNat = 1 := by omega
            rw [decide_eq_false h2]
            simpa using hx1)
        rw [← hbb]
        clear hw3 hF3 hB3 hS0 hri hbb
        go_wp2_with fail
        refine bodyPost_ret (v := .tuple #[.bool bb, .agg #[.slice A2 (n - 1) (c - 1), .int .i64 0]]) (by simp [results, Try.results57, go_sem, r0, r1]) rfl ⟨?_, HNF.out⟩
        rw [HRR.out]
        exact ⟨A2, n - 1, c - 1, by rw [HBB.out]; rfl, HRI.out.new HNF.out⟩
  · skip
    have hz : ((e0 : Int) != 0) = true := by simp; omega
    have hz2 : ((e0 : Int) == 0) = false := by simp; omega
    have hd0 : decide ((e0 : Int) = 0) = false := decide_eq_false (by omega)
    have HB2W := HB2
    have HB5W := HB5
    have HRR : Hid (r = (false, s)) := Lib.hid (by rw [HR.out]; exact flag_err (by rw [← HE.out]; exact h0))
    go_wp2_with fail
    have hS0 : BoxR b2 (.slice A n c) (.int .i64 e0) w1.drew := BoxR.of HB2W.out
    refine wp_region_mixH (BoxR b2 (.slice A n c) (.int .i64 e0)) [(true, 0), (true, 1), (false, 2)] (by kernel_rfl) (by kernel_rfl) hS0 (fun hne => ?_)
    have q0 : ∀ p : HW (BoxR b2 (.slice A n c) (.int .i64 e0)), p.w.cell? ⟨b2, 0, none⟩ = some (.slice A n c) := fun p => p.h.1
    have q1 : ∀ p : HW (BoxR b2 (.slice A n c) (.int .i64 e0)), p.w.cell? ⟨b2, 1, none⟩ = some (.int .i64 e0) := fun p => p.h.2
    iterate 2 (refine mix_take (o := ⟨_, _, _, _, _, _⟩) rfl (fun K hK => ?_); go_simp; refine hK _ ?_; clear hK K)
    refine mix_act (o := ⟨_, _, _, _, _, _⟩) rfl (fun K hK => ?_) (.inl rfl)
    go_simp
    obtain ⟨w3, hw3⟩ : ∃ w3 : World, w3 = ((w1.setCell ⟨b5, 0, none⟩ (.slice A n c)).setCell ⟨b5, 1, none⟩ (.int .i64 e0)).drew := ⟨_, rfl⟩
    have hF3 : Fr (fun k => k = b5) w1 w3 := by rw [hw3]; exact (((Fr.refl (fun k => k = b5) w1).setCell (p := ⟨b5, 0, none⟩) (fun _ => rfl) _).setCell (p := ⟨b5, 1, none⟩) (fun _ => rfl) _).drew
    have hB3 : Blk w3 b5 98 #[(.slice A n c), (.int .i64 e0)] := by rw [hw3]; exact blk_set2 HB5W.out (.slice A n c) (.int .i64 e0)
    rw [← hw3]
    refine hK.out _ _ (fun _ => BoxR.of (HB2W.out.fr hF3 hne25)) ?_
    clear hK K q0 q1
    refine mix_done ?_
    have r0 : w3.cell? ⟨b5, 0, none⟩ = some (.slice A n c) := hB3.cell 0
    have r1 : w3.cell? ⟨b5, 1, none⟩ = some (.int .i64 e0) := hB3.cell 1
    have HF3 := Lib.hid hF3
    clear hw3 hF3 hB3 hS0
    go_wp2_with fail
    have HNF : Hid (New w w3) := Lib.hid (HN1.out.fr HF3.out (fun k hk => by have := HZ.out; omega))
    refine bodyPost_ret (v := .tuple #[.bool false, .agg #[.slice A n c, .int .i64 e0]]) (by simp [results, Try.results57, go_sem, r0, r1]) rfl ⟨?_, HNF.out⟩
    rw [HRR.out]
    exact ⟨A, n, c, by rw [HE.out]; rfl, H.out.new HNF.out⟩
end Go.Proofs.Ytfhinmjpokollaa
/- The reference's reader of octets: Field, End. No condition but that what is read can be read. -/
namespace Go.Proofs.Ytfhinmjpokollaa
set_option linter.unusedVariables false
set_option linter.unusedSimpArgs false
set_option linter.constructorNameAsVariable false
open Go.RowKit Go.Maps

theorem bytes_err {s : Rs} (h : s.e ≠ 0) (m : Nat) : s.bytes m = ([], s) := by
  have hl : s.left = 0 := by unfold Rs.left; rw [if_neg h]
  unfold Rs.bytes
  rw [hl, if_pos (by omega)]
  unfold Rs.bad
  rw [if_neg h]
set_option maxHeartbeats 8000000 in
theorem field_any {p : Nat → Prop} {w : World} {A : Option Addr} {n c : Nat} {s : Rs} (h : RIn p w A n c s) (most : Nat) (hmost : most ≤ 1000000) :
    Calls Try.prog 58 #[rV A n c s.e, .int .i64 most] w fun e w' => TakeSays p (s.bytes most) e w' ∧ New w w' := by
  have H := Lib.hid h
  have hn := h.len
  have HLN := Lib.hid hn
  have hcm := h.cm
  have hnc := h.nc
  unfold rV
  obtain ⟨r, hr⟩ : ∃ r, r = s.bytes most := ⟨_, rfl⟩
  rw [← hr]
  have HR := Lib.hid hr
  obtain ⟨e0, he0⟩ : ∃ e0, e0 = s.e := ⟨_, rfl⟩
  rw [← he0]
  have HE := Lib.hid he0
  clear h hr he0 hn
  go_enter Try.func58, Try.ntmps58
  go_upto_region 1 with fail
  obtain ⟨w1, hw1⟩ : ∃ w1 : World, w1 = (w.alloc (.cells #[.slice A n c, .int .i64 e0] 98)).alloc (.cells #[.slice none 0 0, .int .i64 0] 98) := ⟨_, rfl⟩
  obtain ⟨b2, hb2⟩ : ∃ b2, b2 = w.heap.size := ⟨_, rfl⟩
  obtain ⟨b5, hb5⟩ : ∃ b5, b5 = w.heap.size + 1 := ⟨_, rfl⟩
  have HN1 : Hid (New w w1) := Lib.hid (by rw [hw1]; exact New.al (New.al (New.refl _) _) _)
  have HB2 : Hid (Blk w1 b2 98 #[.slice A n c, .int .i64 e0]) := Lib.hid (by rw [hw1, hb2]; exact (Blk.new _ _ _).alloc _)
  have HB5 : Hid (Blk w1 b5 98 #[.slice none 0 0, .int .i64 0]) := Lib.hid (by rw [hw1, hb5]; exact Blk.new' _ _ _ (by simp))
  have HZ : Hid (w.heap.size ≤ b2 ∧ w.heap.size ≤ b5) := Lib.hid ⟨by omega, by omega⟩
  have hne25 : b2 ≠ b5 := by omega
  rw [← hw1, ← hb5, ← hb2]
  clear hw1 hb2 hb5
  have c20 : w1.cell? ⟨b2, 0, none⟩ = some (.slice A n c) := HB2.out.cell 0
  have c21 : w1.cell? ⟨b2, 1, none⟩ = some (.int .i64 e0) := HB2.out.cell 1
  have c50 : w1.cell? ⟨b5, 0, none⟩ = some (.slice none 0 0) := HB5.out.cell 0
  have c51 : w1.cell? ⟨b5, 1, none⟩ = some (.int .i64 0) := HB5.out.cell 1
  have f50 : w1.frozen? ⟨b5, 0, none⟩ = false := HB5.out.frozen 0
  have f51 : w1.frozen? ⟨b5, 1, none⟩ = false := HB5.out.frozen 1
  have f20 : w1.frozen? ⟨b2, 0, none⟩ = false := HB2.out.frozen 0
  have f21 : w1.frozen? ⟨b2, 1, none⟩ = false := HB2.out.frozen 1
  have hne52 : ¬ b5 = b2 := fun e => hne25 e.symm
  by_cases h0 : e0 = 0
  · subst h0
    have hlf : s.left = n := by unfold Rs.left; rw [if_pos HE.out.symm, HLN.out]
    by_cases hn2 : n < 2
    · have HRR : Hid (r = ([], ⟨s.xs, 2⟩)) := Lib.hid (by
        rw [HR.out]
        unfold Rs.bytes
        rw [hlf, if_pos hn2]
        unfold Rs.bad
        rw [if_pos HE.out.symm])
      have hd2 : decide ((2 : Int) ≤ (n : Int)) = false := decide_eq_false (by omega)
      clear hlf
      go_upto_region 8 with fail
      obtain ⟨w2, hw2⟩ : ∃ w2 : World, w2 = w1.setCell ⟨b2, 1, none⟩ (.int .i64 2) := ⟨_, rfl⟩
      have hF2 : Fr (fun k => k = b2) w1 w2 := by rw [hw2]; exact (Fr.refl (fun k => k = b2) w1).setCell (p := ⟨b2, 1, none⟩) (fun _ => rfl) _
      have HB2W : Hid (Blk w2 b2 98 #[.slice A n c, .int .i64 2]) := Lib.hid (by
        have := HB2.out.set 1 (.int .i64 2)
        rw [hw2]
        simpa using this)
      have HB5W : Hid (Blk w2 b5 98 #[.slice none 0 0, .int .i64 0]) := Lib.hid (HB5.out.fr hF2 hne52)
      have HF2 := Lib.hid hF2
      rw [← hw2]
      clear hw2 hF2 c20 c21 c50 c51 f50 f51 f20 f21
      have c50 : w2.cell? ⟨b5, 0, none⟩ = some (.slice none 0 0) := HB5W.out.cell 0
      have c51 : w2.cell? ⟨b5, 1, none⟩ = some (.int .i64 0) := HB5W.out.cell 1
      have f50 : w2.frozen? ⟨b5, 0, none⟩ = false := HB5W.out.frozen 0
      have f51 : w2.frozen? ⟨b5, 1, none⟩ = false := HB5W.out.frozen 1
      have hS0 : BoxR b2 (.slice A n c) (.int .i64 2) w2.drew := BoxR.of HB2W.out
      refine wp_region_mixH (BoxR b2 (.slice A n c) (.int .i64 2)) [(true, 0), (true, 1), (false, 2)] (by kernel_rfl) (by kernel_rfl) hS0 (fun hne => ?_)
      have q0 : ∀ p : HW (BoxR b2 (.slice A n c) (.int .i64 2)), p.w.cell? ⟨b2, 0, none⟩ = some (.slice A n c) := fun p => p.h.1
      have q1 : ∀ p : HW (BoxR b2 (.slice A n c) (.int .i64 2)), p.w.cell? ⟨b2, 1, none⟩ = some (.int .i64 2) := fun p => p.h.2
      iterate 2 (refine mix_take (o := ⟨_, _, _, _, _, _⟩) rfl (fun K hK => ?_); go_simp; refine hK _ ?_; clear hK K)
      refine mix_act (o := ⟨_, _, _, _, _, _⟩) rfl (fun K hK => ?_) (.inl rfl)
      go_simp
      obtain ⟨w3, hw3⟩ : ∃ w3 : World, w3 = ((w2.setCell ⟨b5, 0, none⟩ (.slice A n c)).setCell ⟨b5, 1, none⟩ (.int .i64 2)).drew := ⟨_, rfl⟩
      have hF3 : Fr (fun k => k = b5) w2 w3 := by rw [hw3]; exact (((Fr.refl (fun k => k = b5) w2).setCell (p := ⟨b5, 0, none⟩) (fun _ => rfl) _).setCell (p := ⟨b5, 1, none⟩) (fun _ => rfl) _).drew
      have hB3 : Blk w3 b5 98 #[(.slice A n c), (.int .i64 2)] := by rw [hw3]; exact blk_set2 HB5W.out (.slice A n c) (.int .i64 2)
      rw [← hw3]
      refine hK.out _ _ (fun _ => BoxR.of (HB2W.out.fr hF3 hne25)) ?_
      clear hK K q0 q1
      refine mix_done ?_
      have r0 : w3.cell? ⟨b5, 0, none⟩ = some (.slice A n c) := hB3.cell 0
      have r1 : w3.cell? ⟨b5, 1, none⟩ = some (.int .i64 2) := hB3.cell 1
      have HF3 := Lib.hid hF3
      clear hw3 hF3 hB3 hS0
      go_wp2_with fail
      have HNF : Hid (New w w3) := Lib.hid ((HN1.out.fr HF2.out (fun k hk => by have := HZ.out; omega)).fr HF3.out (fun k hk => by have := HZ.out; omega))
      refine bodyPost_ret (v := .tuple #[.slice none 0 0, .agg #[.slice A n c, .int .i64 2]]) (by simp [results, Try.results58, go_sem, r0, r1]) rfl ⟨?_, HNF.out⟩
      rw [HRR.out]
      exact ⟨none, 0, A, n, c, rfl, rd_none _, Nat.le_refl _, ⟨HNF.out.rd H.out.rd, H.out.byt, H.out.nc, H.out.cm⟩⟩
    · have hd2 : decide ((2 : Int) ≤ (n : Int)) = true := decide_eq_true (by omega)
      have h2c : 2 ≤ c := by omega
      have hvl := valL_lt (xs := s.xs.take 2) (fun x hx => H.out.byt x (List.mem_of_mem_take hx))
      rw [List.length_take, HLN.out, Nat.min_eq_left (by omega)] at hvl
      have HVA := Lib.hid (fun W (hN : New w W) => value_any A 2 c (s.xs.take 2) W (Rd.take (hN.rd H.out.rd) (by omega)) (fun x hx => H.out.byt x (List.mem_of_mem_take hx)) (by omega))
      obtain ⟨v, hv⟩ : ∃ v, v = valL (s.xs.take 2) := ⟨_, rfl⟩
      rw [← hv] at hvl HVA
      have hv16 : v < 65536 := hvl
      have HRB : Hid (r = if most < v ∨ n - 2 < v then ([], ⟨s.xs, 2⟩) else (s.raw 2).2.raw v) := Lib.hid (by
        rw [HR.out]
        unfold Rs.bytes
        rw [hlf, if_neg hn2, ← hv]
        unfold Rs.bad
        rw [if_pos HE.out.symm])
      have h2n : (2 : Int) ≤ (n : Int) := by omega
      clear hvl hv
      by_cases hm : most < v
      · have HRR : Hid (r = ([], ⟨s.xs, 2⟩)) := Lib.hid (by rw [HRB.out, if_pos (.inl hm)])
        have hdm : decide (v ≤ most) = false := decide_eq_false (by omega)
        clear hlf
        go_wp2_with fail
        refine (HVA.out w1 HN1.out).mono ?_
        rintro e w1' ⟨rfl, rfl⟩
        go_upto_region 8 with fail
        obtain ⟨w2, hw2⟩ : ∃ w2 : World, w2 = w1.setCell ⟨b2, 1, none⟩ (.int .i64 2) := ⟨_, rfl⟩
        have hF2 : Fr (fun k => k = b2) w1 w2 := by rw [hw2]; exact (Fr.refl (fun k => k = b2) w1).setCell (p := ⟨b2, 1, none⟩) (fun _ => rfl) _
        have HB2W : Hid (Blk w2 b2 98 #[.slice A n c, .int .i64 2]) := Lib.hid (by
          have := HB2.out.set 1 (.int .i64 2)
          rw [hw2]
          simpa using this)
        have HB5W : Hid (Blk w2 b5 98 #[.slice none 0 0, .int .i64 0]) := Lib.hid (HB5.out.fr hF2 hne52)
        have HF2 := Lib.hid hF2
        rw [← hw2]
        clear hw2 hF2 c20 c21 c50 c51 f50 f51 f20 f21
        have c50 : w2.cell? ⟨b5, 0, none⟩ = some (.slice none 0 0) := HB5W.out.cell 0
        have c51 : w2.cell? ⟨b5, 1, none⟩ = some (.int .i64 0) := HB5W.out.cell 1
        have f50 : w2.frozen? ⟨b5, 0, none⟩ = false := HB5W.out.frozen 0
        have f51 : w2.frozen? ⟨b5, 1, none⟩ = false := HB5W.out.frozen 1
        have hS0 : BoxR b2 (.slice A n c) (.int .i64 2) w2.drew := BoxR.of HB2W.out
        refine wp_region_mixH (BoxR b2 (.slice A n c) (.int .i64 2)) [(true, 0), (true, 1), (false, 2)] (by kernel_rfl) (by kernel_rfl) hS0 (fun hne => ?_)
        have q0 : ∀ p : HW (BoxR b2 (.slice A n c) (.int .i64 2)), p.w.cell? ⟨b2, 0, none⟩ = some (.slice A n c) := fun p => p.h.1
        have q1 : ∀ p : HW (BoxR b2 (.slice A n c) (.int .i64 2)), p.w.cell? ⟨b2, 1, none⟩ = some (.int .i64 2) := fun p => p.h.2
        iterate 2 (refine mix_take (o := ⟨_, _, _, _, _, _⟩) rfl (fun K hK => ?_); go_simp; refine hK _ ?_; clear hK K)
        refine mix_act (o := ⟨_, _, _, _, _, _⟩) rfl (fun K hK => ?_) (.inl rfl)
        go_simp
        obtain ⟨w3, hw3⟩ : ∃ w3 : World, w3 = ((w2.setCell ⟨b5, 0, none⟩ (.slice A n c)).setCell ⟨b5, 1, none⟩ (.int .i64 2)).drew := ⟨_, rfl⟩
        have hF3 : Fr (fun k => k = b5) w2 w3 := by rw [hw3]; exact (((Fr.refl (fun k => k = b5) w2).setCell (p := ⟨b5, 0, none⟩) (fun _ => rfl) _).setCell (p := ⟨b5, 1, none⟩) (fun _ => rfl) _).drew
        have hB3 : Blk w3 b5 98 #[(.slice A n c), (.int .i64 2)] := by rw [hw3]; exact blk_set2 HB5W.out (.slice A n c) (.int .i64 2)
        rw [← hw3]
        refine hK.out _ _ (fun _ => BoxR.of (HB2W.out.fr hF3 hne25)) ?_
        clear hK K q0 q1
        refine mix_done ?_
        have r0 : w3.cell? ⟨b5, 0, none⟩ = some (.slice A n c) := hB3.cell 0
        have r1 : w3.cell? ⟨b5, 1, none⟩ = some (.int .i64 2) := hB3.cell 1
        have HF3 := Lib.hid hF3
        clear hw3 hF3 hB3 hS0
        go_wp2_with fail
        have HNF : Hid (New w w3) := Lib.hid ((HN1.out.fr HF2.out (fun k hk => by have := HZ.out; omega)).fr HF3.out (fun k hk => by have := HZ.out; omega))
        refine bodyPost_ret (v := .tuple #[.slice none 0 0, .agg #[.slice A n c, .int .i64 2]]) (by simp [results, Try.results58, go_sem, r0, r1]) rfl ⟨?_, HNF.out⟩
        rw [HRR.out]
        exact ⟨none, 0, A, n, c, rfl, rd_none _, Nat.le_refl _, ⟨HNF.out.rd H.out.rd, H.out.byt, H.out.nc, H.out.cm⟩⟩
      · have hdm : decide (v ≤ most) = true := decide_eq_true (by omega)
        by_cases hm2 : n - 2 < v
        · have HRR : Hid (r = ([], ⟨s.xs, 2⟩)) := Lib.hid (by rw [HRB.out, if_pos (.inr hm2)])
          have hdn : decide ((v : Int) ≤ (n : Int) - 2) = false := decide_eq_false (by omega)
          clear hlf
          go_wp2_with fail
          refine (HVA.out w1 HN1.out).mono ?_
          rintro e w1' ⟨rfl, rfl⟩
          go_upto_region 8 with fail
          obtain ⟨w2, hw2⟩ : ∃ w2 : World, w2 = w1.setCell ⟨b2, 1, none⟩ (.int .i64 2) := ⟨_, rfl⟩
          have hF2 : Fr (fun k => k = b2) w1 w2 := by rw [hw2]; exact (Fr.refl (fun k => k = b2) w1).setCell (p := ⟨b2, 1, none⟩) (fun _ => rfl) _
          have HB2W : Hid (Blk w2 b2 98 #[.slice A n c, .int .i64 2]) := Lib.hid (by
            have := HB2.out.set 1 (.int .i64 2)
            rw [hw2]
            simpa using this)
          have HB5W : Hid (Blk w2 b5 98 #[.slice none 0 0, .int .i64 0]) := Lib.hid (HB5.out.fr hF2 hne52)
          have HF2 := Lib.hid hF2
          rw [← hw2]
          clear hw2 hF2 c20 c21 c50 c51 f50 f51 f20 f21
          have c50 : w2.cell? ⟨b5, 0, none⟩ = some (.slice none 0 0) := HB5W.out.cell 0
          have c51 : w2.cell? ⟨b5, 1, none⟩ = some (.int .i64 0) := HB5W.out.cell 1
          have f50 : w2.frozen? ⟨b5, 0, none⟩ = false := HB5W.out.frozen 0
          have f51 : w2.frozen? ⟨b5, 1, none⟩ = false := HB5W.out.frozen 1
          have hS0 : BoxR b2 (.slice A n c) (.int .i64 2) w2.drew := BoxR.of HB2W.out
          refine wp_region_mixH (BoxR b2 (.slice A n c) (.int .i64 2)) [(true, 0), (true, 1), (false, 2)] (by kernel_rfl) (by kernel_rfl) hS0 (fun hne => ?_)
          have q0 : ∀ p : HW (BoxR b2 (.slice A n c) (.int .i64 2)), p.w.cell? ⟨b2, 0, none⟩ = some (.slice A n c) := fun p => p.h.1
          have q1 : ∀ p : HW (BoxR b2 (.slice A n c) (.int .i64 2)), p.w.cell? ⟨b2, 1, none⟩ = some (.int .i64 2) := fun p => p.h.2
          iterate 2 (refine mix_take (o := ⟨_, _, _, _, _, _⟩) rfl (fun K hK => ?_); go_simp; refine hK _ ?_; clear hK K)
          refine mix_act (o := ⟨_, _, _, _, _, _⟩) rfl (fun K hK => ?_) (.inl rfl)
          go_simp
          obtain ⟨w3, hw3⟩ : ∃ w3 : World, w3 = ((w2.setCell ⟨b5, 0, none⟩ (.slice A n c)).setCell ⟨b5, 1, none⟩ (.int .i64 2)).drew := ⟨_, rfl⟩
          have hF3 : Fr (fun k => k = b5) w2 w3 := by rw [hw3]; exact (((Fr.refl (fun k => k = b5) w2).setCell (p := ⟨b5, 0, none⟩) (fun _ => rfl) _).setCell (p := ⟨b5, 1, none⟩) (fun _ => rfl) _).drew
          have hB3 : Blk w3 b5 98 #[(.slice A n c), (.int .i64 2)] := by rw [hw3]; exact blk_set2 HB5W.out (.slice A n c) (.int .i64 2)
          rw [← hw3]
          refine hK.out _ _ (fun _ => BoxR.of (HB2W.out.fr hF3 hne25)) ?_
          clear hK K q0 q1
          refine mix_done ?_
          have r0 : w3.cell? ⟨b5, 0, none⟩ = some (.slice A n c) := hB3.cell 0
          have r1 : w3.cell? ⟨b5, 1, none⟩ = some (.int .i64 2) := hB3.cell 1
          have HF3 := Lib.hid hF3
          clear hw3 hF3 hB3 hS0
          go_wp2_with fail
          have HNF : Hid (New w w3) := Lib.hid ((HN1.out.fr HF2.out (fun k hk => by have := HZ.out; omega)).fr HF3.out (fun k hk => by have := HZ.out; omega))
          refine bodyPost_ret (v := .tuple #[.slice none 0 0, .agg #[.slice A n c, .int .i64 2]]) (by simp [results, Try.results58, go_sem, r0, r1]) rfl ⟨?_, HNF.out⟩
          rw [HRR.out]
          exact ⟨none, 0, A, n, c, rfl, rd_none _, Nat.le_refl _, ⟨HNF.out.rd H.out.rd, H.out.byt, H.out.nc, H.out.cm⟩⟩
        · have hdn : decide ((v : Int) ≤ (n : Int) - 2) = true := decide_eq_true (by omega)
          have hr1 : s.raw 2 = (s.xs.take 2, ⟨s.xs.drop 2, 0⟩) := by
            unfold Rs.raw
            rw [hlf, if_neg hn2, ← HE.out]
          have hr2 : (⟨s.xs.drop 2, 0⟩ : Rs).raw v = ((s.xs.drop 2).take v, ⟨(s.xs.drop 2).drop v, 0⟩) := by
            have hl2 : (⟨s.xs.drop 2, 0⟩ : Rs).left = n - 2 := by unfold Rs.left; rw [if_pos rfl]; dsimp only; rw [List.length_drop, HLN.out]
            unfold Rs.raw
            rw [hl2, if_neg hm2]
          have HRR : Hid (r = ((s.xs.drop 2).take v, ⟨s.xs.drop (2 + v), 0⟩)) := Lib.hid (by
            rw [HRB.out, if_neg (by omega), hr1]
            dsimp only
            rw [hr2, List.drop_drop])
          have hri2 := rin_drop (k := 2) H.out (by omega) 0
          have hri := rin_drop (k := 2 + v) H.out (by omega) 0
          have HTK : Hid (((s.xs.drop 2).take v).length = v) := Lib.hid (by rw [List.length_take, List.length_drop, HLN.out]; omega)
          have hwr : IntKind.i64.wrap (2 + (v : Int)) = 2 + v := IntWalk.i64_in _ (by omega)
          have htn : (2 + (v : Int)).toNat = 2 + v := by omega
          have h2v0 : (0 : Int) ≤ 2 + (v : Int) := by omega
          have h2vn : 2 + (v : Int) ≤ (n : Int) := by omega
          have h2vc : 2 + (v : Int) ≤ (c : Int) := by omega
          have h22 : (2 : Int) ≤ 2 + (v : Int) := by omega
          have h2vnN : 2 + v ≤ n := by omega
          have h2vcN : 2 + v ≤ c := by omega
          have hsub : 2 + v - 2 = v := by omega
          clear hlf hr1 hr2
          go_wp2_with fail
          refine (HVA.out w1 HN1.out).mono ?_
          rintro e w1' ⟨rfl, rfl⟩
          go_wp2_with fail
          have HB2W := HB2
          have HB5W := HB5
          have hS0 : BoxR b2 (.slice A n c) (.int .i64 0) w1.drew := BoxR.of HB2W.out
          refine wp_region_mixH (BoxR b2 (.slice A n c) (.int .i64 0)) [(true, 0), (true, 1), (true, 2), (true, 3), (true, 4), (true, 5), (true, 6), (true, 7), (true, 8), (true, 9), (true, 10), (true, 11), (false, 12)] (by kernel_rfl) (by kernel_rfl) hS0 (fun hne => ?_)
          have q0 : ∀ p : HW (BoxR b2 (.slice A n c) (.int .i64 0)), p.w.cell? ⟨b2, 0, none⟩ = some (.slice A n c) := fun p => p.h.1
          iterate 12 (refine mix_take (o := ⟨_, _, _, _, _, _⟩) rfl (fun K hK => ?_); go_simp; refine hK _ ?_; clear hK K)
          refine mix_act (o := ⟨_, _, _, _, _, _⟩) rfl (fun K hK => ?_) (.inl rfl)
          go_simp
          have hmp2 : Option.map (fun x : Addr => x.add 2) A = Option.map (fun x : Addr => (⟨x.block, x.off + 2, none⟩ : Addr)) A := by
            congr 1
          rw [hmp2] at hri2
          generalize (if c = 2 then A else Option.map (fun x : Addr => (⟨x.block, x.off + 2, none⟩ : Addr)) A) = A1 at hri2 ⊢
          generalize (if c = 2 + v then A else Option.map (fun x => x.add (2 + v)) A) = A2 at hri ⊢
          have HRI2 := Lib.hid hri2
          have HRI := Lib.hid hri
          obtain ⟨w3, hw3⟩ : ∃ w3 : World, w3 = ((w1.setCell ⟨b5, 0, none⟩ (.slice A2 (n - (2 + v)) (c - (2 + v)))).setCell ⟨b5, 1, none⟩ (.int .i64 0)).drew := ⟨_, rfl⟩
          have hF3 : Fr (fun k => k = b5) w1 w3 := by rw [hw3]; exact (((Fr.refl (fun k => k = b5) w1).setCell (p := ⟨b5, 0, none⟩) (fun _ => rfl) _).setCell (p := ⟨b5, 1, none⟩) (fun _ => rfl) _).drew
          have hB3 : Blk w3 b5 98 #[.slice A2 (n - (2 + v)) (c - (2 + v)), .int .i64 0] := by rw [hw3]; exact blk_set2 HB5W.out _ _
          rw [← hw3]
          refine hK.out _ _ (fun _ => BoxR.of (HB2W.out.fr hF3 hne25)) ?_
          clear hK K q0
          refine mix_done ?_
          have r0 : w3.cell? ⟨b5, 0, none⟩ = some (.slice A2 (n - (2 + v)) (c - (2 + v))) := hB3.cell 0
          have r1 : w3.cell? ⟨b5, 1, none⟩ = some (.int .i64 0) := hB3.cell 1
          have HNF : Hid (New w w3) := Lib.hid (HN1.out.fr hF3 (fun k hk => by have := HZ.out; omega))
          obtain ⟨n2, hn2e⟩ : ∃ n2, n2 = n - (2 + v) := ⟨_, rfl⟩
          obtain ⟨c2, hc2e⟩ : ∃ c2, c2 = c - (2 + v) := ⟨_, rfl⟩
          rw [← hn2e, ← hc2e] at r0 HRI
          rw [← hn2e, ← hc2e]
          have H2C : Hid (v ≤ c - 2) := Lib.hid (by omega)
          have H2N : Hid (v ≤ n - 2) := Lib.hid (by omega)
          clear hw3 hF3 hB3 hS0 hri hri2 hmp2 hwr htn h2v0 h2vn h2vc h22 h2vnN h2vcN hsub hn2e hc2e
          go_wp2_with fail
          refine bodyPost_ret (v := .tuple #[.slice A1 v (c - 2), .agg #[.slice A2 n2 c2, .int .i64 0]]) (by simp [results, Try.results58, go_sem, r0, r1]) rfl ⟨?_, HNF.out⟩
          rw [HRR.out]
          exact ⟨A1, c - 2, A2, n2, c2, by dsimp only; rw [HTK.out]; rfl, by dsimp only; rw [HTK.out]; exact HNF.out.rd (Rd.take HRI2.out.rd H2N.out), by dsimp only; rw [HTK.out]; exact H2C.out, HRI.out.new HNF.out⟩
  · skip
    have hz : ((e0 : Int) != 0) = true := by simp; omega
    have hz2 : ((e0 : Int) == 0) = false := by simp; omega
    have hd0 : decide ((e0 : Int) = 0) = false := decide_eq_false (by omega)
    have HB2W := HB2
    have HB5W := HB5
    have HRR : Hid (r = ([], s)) := Lib.hid (by rw [HR.out]; exact bytes_err (by rw [← HE.out]; exact h0) most)
    go_wp2_with fail
    have hS0 : BoxR b2 (.slice A n c) (.int .i64 e0) w1.drew := BoxR.of HB2W.out
    refine wp_region_mixH (BoxR b2 (.slice A n c) (.int .i64 e0)) [(true, 0), (true, 1), (false, 2)] (by kernel_rfl) (by kernel_rfl) hS0 (fun hne => ?_)
    have q0 : ∀ p : HW (BoxR b2 (.slice A n c) (.int .i64 e0)), p.w.cell? ⟨b2, 0, none⟩ = some (.slice A n c) := fun p => p.h.1
    have q1 : ∀ p : HW (BoxR b2 (.slice A n c) (.int .i64 e0)), p.w.cell? ⟨b2, 1, none⟩ = some (.int .i64 e0) := fun p => p.h.2
    iterate 2 (refine mix_take (o := ⟨_, _, _, _, _, _⟩) rfl (fun K hK => ?_); go_simp; refine hK _ ?_; clear hK K)
    refine mix_act (o := ⟨_, _, _, _, _, _⟩) rfl (fun K hK => ?_) (.inl rfl)
    go_simp
    obtain ⟨w3, hw3⟩ : ∃ w3 : World, w3 = ((w1.setCell ⟨b5, 0, none⟩ (.slice A n c)).setCell ⟨b5, 1, none⟩ (.int .i64 e0)).drew := ⟨_, rfl⟩
    have hF3 : Fr (fun k => k = b5) w1 w3 := by rw [hw3]; exact (((Fr.refl (fun k => k = b5) w1).setCell (p := ⟨b5, 0, none⟩) (fun _ => rfl) _).setCell (p := ⟨b5, 1, none⟩) (fun _ => rfl) _).drew
    have hB3 : Blk w3 b5 98 #[(.slice A n c), (.int .i64 e0)] := by rw [hw3]; exact blk_set2 HB5W.out (.slice A n c) (.int .i64 e0)
    rw [← hw3]
    refine hK.out _ _ (fun _ => BoxR.of (HB2W.out.fr hF3 hne25)) ?_
    clear hK K q0 q1
    refine mix_done ?_
    have r0 : w3.cell? ⟨b5, 0, none⟩ = some (.slice A n c) := hB3.cell 0
    have r1 : w3.cell? ⟨b5, 1, none⟩ = some (.int .i64 e0) := hB3.cell 1
    have HF3 := Lib.hid hF3
    clear hw3 hF3 hB3 hS0
    go_wp2_with fail
    have HNF : Hid (New w w3) := Lib.hid (HN1.out.fr HF3.out (fun k hk => by have := HZ.out; omega))
    refine bodyPost_ret (v := .tuple #[.slice none 0 0, .agg #[.slice A n c, .int .i64 e0]]) (by simp [results, Try.results58, go_sem, r0, r1]) rfl ⟨?_, HNF.out⟩
    rw [HRR.out]
    exact ⟨none, 0, A, n, c, by rw [HE.out]; rfl, rd_none _, Nat.le_refl _, H.out.new HNF.out⟩
theorem end_any {p : Nat → Prop} {w : World} {A : Option Addr} {n c : Nat} {s : Rs} (h : RIn p w A n c s) :
    Calls Try.prog 59 #[rV A n c s.e] w fun e w' => e = .returned (.int .i64 s.fin) ∧ New w w' := by
  have hn := h.len
  have hcm := h.cm
  have hnc := h.nc
  unfold rV Rs.fin
  rw [hn]
  obtain ⟨e0, he0⟩ : ∃ e0, e0 = s.e := ⟨_, rfl⟩
  rw [← he0]
  clear h he0 hn
  by_cases h0 : e0 = 0
  · subst h0
    rw [if_neg (by omega)]
    by_cases hn : 0 < n
    · have hd : decide ((0 : Int) < (n : Int)) = true := decide_eq_true (by omega)
      rw [if_pos hn]
      go_enter Try.func59, Try.ntmps59
      go_wp2_with fail
      go_ret
      exact ⟨rfl, New.al (New.refl _) _⟩
    · have hd : decide ((0 : Int) < (n : Int)) = false := decide_eq_false (by omega)
      rw [if_neg hn]
      go_enter Try.func59, Try.ntmps59
      go_wp2_with fail
      go_ret
      exact ⟨rfl, New.al (New.refl _) _⟩
  · have hz : ((e0 : Int) != 0) = true := by simp; omega
    have hz2 : ((e0 : Int) == 0) = false := by simp; omega
    have hd0 : decide ((e0 : Int) = 0) = false := decide_eq_false (by omega)
    rw [if_pos h0]
    go_enter Try.func59, Try.ntmps59
    go_wp2_with fail
    go_ret
    exact ⟨rfl, New.al (New.refl _) _⟩
end Go.Proofs.Ytfhinmjpokollaa
/- The reference's Put: the same bytes. No condition but that the changes can be read. -/
namespace Go.Proofs.Ytfhinmjpokollaa
set_option linter.unusedVariables false
set_option linter.unusedSimpArgs false
set_option linter.constructorNameAsVariable false
open Go.RowKit Go.Maps Go.Sort

/-- What an append to bytes of the call's own leaves. -/
def ApSays (w : World) (base : Nat) (old : Value) (bs : List Int) (A : Option Addr) (n c : Nat) (w' : World) : Prop :=
  w'.ownsRow base 5 1 (.slice A n c) n (u8s bs) ∧ Fr (fun k => old.ownBlock = some k) w w' ∧ ∀ k, (Value.slice A n c).ownBlock = some k → old.ownBlock = some k ∨ w.heap.size ≤ k
theorem u8s_app (xs ys : List Int) : u8s (xs ++ ys) = u8s xs ++ u8s ys := by simp [u8s]
set_option maxHeartbeats 2000000 in
theorem rfield_any {base : Nat} {w : World} {p : Nat → Prop} (A : Option Addr) (n c : Nat) (bs : List Int) (hO : w.ownsRow base 5 1 (.slice A n c) n (u8s bs)) (hbase : base ≤ w.heap.size) (B : Option Addr) (m d : Nat) (xs : List Int) (hR : Rd p w 1 B m (u8s xs)) (hp : ∀ k, p k → k < base) (hn : n + m ≤ 100000000) :
    Calls Try.prog 43 #[.slice A n c, .slice B m d] w fun e w' => (∃ A' c', e = .returned (.slice A' (n + 2 + m) c') ∧ ApSays w base (.slice A n c) (bs ++ beL 2 m ++ xs) A' (n + 2 + m) c' w') := by
  have HO := Lib.hid hO
  have HR := Lib.hid hR
  have HP := Lib.hid hp
  have HB := Lib.hid hbase
  clear hO hR hp hbase
  go_enter Try.func43, Try.ntmps43
  go_wp2_with fail
  refine (number_any m 2 w (by omega) (by omega)).mono ?_
  rintro e w1 ⟨rfl, hO1, hN1⟩
  have HO1 := Lib.hid hO1
  have HN1 := Lib.hid hN1
  clear hO1 hN1
  go_wp2_with (at_builtin; refine atOpS ⟨some 10, _, _, _, _, _⟩ ?_; refine stopHere ?_)
  refine ⟨?_⟩
  refine wpList_app (o := ⟨some 10, _, _, _, _, _⟩) elB _ rfl (.tmp 5) (.tmp 9) rfl base (.slice A n c) n (u8s bs) rfl (HN1.out.own HO.out) _ 2 2 (u8s (beL 2 m)) rfl (Rd.own HO1.out rfl) (u8s_one _) (by unfold maxLen; omega) (by omega) (Nat.le_trans HB.out HN1.out.size) ?_
  intro A2 d2 w3 hO3 hF3 hA3
  have HO3 := Lib.hid hO3
  have HF3 := Lib.hid hF3
  have HA3 := Lib.hid hA3
  have HR3 : Hid (Rd p w3 1 B m (u8s xs)) := Lib.hid ((HN1.out.rd HR.out).fr hF3 (fun k hk hs => by have := HP.out k hk; have := (own_lt HO.out k hs).1; omega))
  clear hO3 hF3 hA3
  go_wp2_with (at_builtin; refine atOpS ⟨some 12, _, _, _, _, _⟩ ?_; refine stopHere ?_)
  refine ⟨?_⟩
  refine wpList_app (o := ⟨some 12, _, _, _, _, _⟩) elB _ rfl (.tmp 10) (.tmp 11) rfl base (.slice A2 (n + 2) d2) (n + 2) (u8s bs ++ u8s (beL 2 m)) rfl HO3.out _ m d (u8s xs) rfl HR3.out (u8s_one _) (by unfold maxLen; omega) (by omega) (by have := HF3.out.size; have := HN1.out.size; have := HB.out; omega) ?_
  intro A4 d4 w5 hO5 hF5 hA5
  have HO5 := Lib.hid hO5
  have HF5 := Lib.hid hF5
  have HA5 := Lib.hid hA5
  clear hO5 hF5 hA5
  go_wp2_with fail
  go_ret
  refine ⟨A4, d4, rfl, ?_, ?_, ?_⟩
  · rw [u8s_app, u8s_app]
    exact HO5.out
  · refine ((HN1.out.toFr _).trans HF3.out).trans' HF5.out (fun k hk hs => ?_)
    rcases HA3.out k hs with h | h
    · exact h
    · have := HN1.out.size; omega
  · intro k hk
    rcases HA5.out k hk with h | h
    · rcases HA3.out k h with h | h
      · exact .inl h
      · exact .inr (Nat.le_trans HN1.out.size h)
    · exact .inr (Nat.le_trans HN1.out.size (Nat.le_trans HF3.out.size h))
/-- The cells of one element. -/
def BoxK (g o : Nat) (k v : Value) (w : World) : Prop := w.cell? ⟨g, o, none⟩ = some k ∧ w.cell? ⟨g, o + 1, none⟩ = some v
theorem BoxK.fr {g o : Nat} {k v : Value} {w w' : World} {S : Nat → Prop} (h : BoxK g o k v w) (hF : Fr S w w') (hs : ¬ S g) : BoxK g o k v w' := ⟨hF.cell_some h.1 hs, hF.cell_some h.2 hs⟩
set_option maxHeartbeats 8000000 in
set_option maxRecDepth 100000 in
theorem rput_any (A : Option Addr) (n c : Nat) (L : List Ch) (w : World) (h : RTb w A n L) (hn : n ≤ 1000) (hs : ∀ c ∈ L, c.k.n ≤ 16 ∧ c.v.n ≤ 16384) :
    Calls Try.prog 26 #[.slice A n c] w fun e w' => (∃ A' c', e = .returned (.slice A' (putB L).length c') ∧ w'.ownsRow w.heap.size 5 1 (.slice A' (putB L).length c') (putB L).length (u8s (putB L))) ∧ New w w' := by
  have H := Lib.hid h
  have HS := Lib.hid hs
  have hcl : ∀ c ∈ L, (chB c).length ≤ 40000 := fun c hc => by
    have h1 := chB_len (h.el c hc).k.len (h.el c hc).v.len
    have := hs c hc
    omega
  have HCL := Lib.hid hcl
  clear h hs hcl
  go_enter Try.func26, Try.ntmps26
  go_wp2_with fail
  refine (number_any n 2 w (by omega) (by omega)).mono ?_
  rintro e w1 ⟨rfl, hO1, hN1⟩
  have HO1 : Hid (w1.ownsRow w.heap.size 5 1 (.slice (some ⟨w.heap.size, 0, none⟩) 2 2) 2 (u8s (beL 2 n ++ (L.take 0).flatMap chB))) := Lib.hid (by simpa using hO1)
  have HN1 := Lib.hid hN1
  clear hO1 hN1
  go_wp2_with fail
  go_loopw [3, 4] (fun b i wr => ∃ (j m : Nat) (A' : Option Addr) (c' : Nat), j ≤ n ∧ i = .int .i64 j ∧ b = .slice A' m c' ∧ Hid (wr.ownsRow w.heap.size 5 1 (.slice A' m c') m (u8s (beL 2 n ++ (L.take j).flatMap chB))) ∧ Hid (New w wr)) (fun b i _ => n - (intOf i).toNat)
  case atStart => exact ⟨0, 2, _, _, Nat.zero_le _, rfl, rfl, HO1, HN1⟩
  case round =>
    obtain ⟨j, m, A', c', hj, rfl, rfl, HO, HN⟩ := hrel
    clear HO1 HN1
    obtain ⟨bs, hbs⟩ : ∃ bs, bs = beL 2 n ++ (L.take j).flatMap chB := ⟨_, rfl⟩
    rw [← hbs] at HO
    have hm : m ≤ 50000000 := by
      have h1 := HO.out.1
      rw [u8s_len, hbs, List.length_append, beL_len] at h1
      have := flat_len HCL.out j (by rw [H.out.len]; exact hj)
      omega
    have HBS := Lib.hid hbs
    clear hbs
    by_cases hlt : j < n
    · as_aux_lemma =>
      obtain ⟨gA, o, hl, rfl, hgp, -, hrg⟩ := rd_row (f := Ch.cells) (L := L) (fun _ => rfl) (by omega) (HN.out.rd H.out.rd) hlt
      have c0 : wr.cell? ⟨gA, o + j * 3, none⟩ = some (.slice L[j].k.A L[j].k.n L[j].k.c) := hrg 0 _ rfl
      have c1 : wr.cell? ⟨gA, o + j * 3 + 1, none⟩ = some (.slice L[j].v.A L[j].v.n L[j].v.c) := hrg 1 _ rfl
      have c2 : wr.cell? ⟨gA, o + j * 3 + 2, none⟩ = some (.bool L[j].d) := hrg 2 _ rfl
      have hin := H.out.el L[j] (List.getElem_mem _)
      have hsz := HS.out L[j] (List.getElem_mem _)
      have hst := putB_take hl
      generalize L[j] = x at c0 c1 c2 hin hsz hst
      obtain ⟨⟨kA, kn, kc, ks⟩, ⟨vA, vn, vc, vs⟩, d⟩ := x
      dsimp only at c0 c1 c2 hsz
      have HIN := Lib.hid hin
      have HST := Lib.hid hst
      have hj0 : (0 : Int) ≤ (j : Int) := by omega
      have hjn : (j : Int) < (n : Int) := by omega
      have hjnN : j < n := hlt
      have HGA : Hid (gA < w.heap.size) := Lib.hid hgp
      clear hrg hl hin hst hgp
      have hS0 : BoxK gA (o + j * 3) (.slice kA kn kc) (.slice vA vn vc) wr.drew := ⟨c0, c1⟩
      have HB0 : Hid (BoxK gA (o + j * 3) (.slice kA kn kc) (.slice vA vn vc) wr) := Lib.hid ⟨c0, c1⟩
      cases d
      · go_wp2_with fail
        refine wp_region_mixH (BoxK gA (o + j * 3) (.slice kA kn kc) (.slice vA vn vc)) [(true, 0), (true, 3), (true, 4), (true, 5), (true, 6), (true, 7), (true, 9), (true, 10), (true, 11), (true, 12), (true, 13), (false, 1), (false, 2), (false, 8), (false, 14), (true, 15)] (by kernel_rfl) (by kernel_rfl) hS0 (fun hne => ?_)
        have q0 : ∀ p : HW (BoxK gA (o + j * 3) (.slice kA kn kc) (.slice vA vn vc)), p.w.cell? ⟨gA, o + j * 3, none⟩ = some (.slice kA kn kc) := fun p => p.h.1
        have q1 : ∀ p : HW (BoxK gA (o + j * 3) (.slice kA kn kc) (.slice vA vn vc)), p.w.cell? ⟨gA, o + j * 3 + 1, none⟩ = some (.slice vA vn vc) := fun p => p.h.2
        iterate 11 (refine mix_take (o := ⟨_, _, _, _, _, _⟩) rfl (fun K hK => ?_); go_simp; refine hK _ ?_; clear hK K)
        clear q0 q1 c0 c1 c2 hS0
        refine mix_act (o := ⟨_, _, _, _, _, _⟩) rfl (fun K hK => ?_) (.inl rfl)
        refine step_bs1v elB rfl (.const (.int .u8 1)) rfl (.int .u8 1) (by rfl) rfl ?_
        intro gb w3 hB3 hN3 hl3
        simp only [Act.put, List.setIfInBounds_toArray, List.set_cons_zero, List.set_cons_succ]
        have HN3 : Hid (New wr w3) := Lib.hid (New.tr (New.dr (New.refl _)) hN3)
        have HB3 := Lib.hid hB3
        refine hK.out _ _ (fun _ => HB0.out.fr (HN3.out.toFr NoB) (fun x => x)) ?_
        clear hK K hB3 hN3 hl3
        refine mix_act (o := ⟨_, _, _, _, _, _⟩) rfl (fun K hK => ?_) (.inl rfl)
        refine step_app elB _ (by rfl) (.tmp 29) (.tmp 30) (by rfl) w.heap.size (.slice A' m c') m (u8s bs) (by rfl) (HN3.out.own HO.out) (some ⟨gb, 0, none⟩) 1 1 (u8s [1]) (by rfl) (Rd.ofBlk (p := fun _ => True) HB3.out 1 1 rfl trivial) (u8s_one _) (by unfold maxLen; omega) (by omega) (Nat.le_trans HN.out.size HN3.out.size) ?_
        intro A4 d4 w4 hO4 hF4 hA4
        simp only [Act.put, List.setIfInBounds_toArray, List.set_cons_zero, List.set_cons_succ]
        rw [← u8s_app] at hO4
        have HO4 := Lib.hid hO4
        have HN4 : Hid (New w w4) := Lib.hid ((HN.out.tr HN3.out).fr hF4 (fun k hk => (own_lt HO.out k hk).1))
        have HS4 : Hid (BoxK gA (o + j * 3) (.slice kA kn kc) (.slice vA vn vc) w4) := Lib.hid ((HB0.out.fr (HN3.out.toFr NoB) (fun x => x)).fr hF4 (fun hk => by have := (own_lt HO.out _ hk).1; have := HGA.out; omega))
        refine hK.out _ _ (fun _ => HS4.out) ?_
        clear hK K hO4 hF4 hA4
        refine mix_act (o := ⟨_, _, _, _, _, _⟩) rfl (fun K hK => ?_) (.inl rfl)
        go_simp
        refine (rfield_any A4 (m + 1) d4 (bs ++ [1]) HO4.out HN4.out.size kA kn kc ks (HN4.out.rd HIN.out.k.rd) (fun k hk => hk) (by omega)).mono ?_
        rintro e w5 ⟨A5, c5, rfl, hO5, hF5, hA5⟩
        have HO5 := Lib.hid hO5
        have HN5 : Hid (New w w5) := Lib.hid (HN4.out.fr hF5 (fun k hk => (own_lt HO4.out k hk).1))
        have HS5 : Hid (BoxK gA (o + j * 3) (.slice kA kn kc) (.slice vA vn vc) w5) := Lib.hid (HS4.out.fr hF5 (fun hk => by have := (own_lt HO4.out _ hk).1; have := HGA.out; omega))
        refine hK.out _ _ (fun _ => HS5.out) ?_
        clear hK K hO5 hF5 hA5
        refine mix_act (o := ⟨_, _, _, _, _, _⟩) rfl (fun K hK => ?_) (.inl rfl)
        go_simp
        refine (rfield_any A5 (m + 1 + 2 + kn) c5 _ HO5.out HN5.out.size vA vn vc vs (HN5.out.rd HIN.out.v.rd) (fun k hk => hk) (by omega)).mono ?_
        rintro e w6 ⟨A6, c6, rfl, hO6, hF6, hA6⟩
        have HO6 := Lib.hid hO6
        have HN6 : Hid (New w w6) := Lib.hid (HN5.out.fr hF6 (fun k hk => (own_lt HO5.out k hk).1))
        refine hK.out _ _ (fun _ => HS5.out.fr hF6 (fun hk => by have := (own_lt HO5.out _ hk).1; have := HGA.out; omega)) ?_
        clear hK K hO6 hF6 hA6
        refine mix_take (o := ⟨_, _, _, _, _, _⟩) rfl (fun K hK => ?_)
        go_simp
        refine hK _ ?_
        clear hK K hne
        refine mix_done ?_
        obtain ⟨m6, hm6⟩ : ∃ m6, m6 = m + 1 + 2 + kn + 2 + vn := ⟨_, rfl⟩
        rw [← hm6] at HO6 ⊢
        clear hm6
        go_wp2_with fail
        go_roundw
        case rel =>
          refine ⟨j + 1, m6, A6, c6, by omega, by go_num, rfl, ?_, HN6⟩
          rw [HST.out]
          have := HO6.out
          rw [HBS.out] at this
          refine Lib.hid ?_
          simpa [chB, List.append_assoc] using this
        case measure => simp [intOf]; omega
      · go_wp2_with fail
        refine wp_region_mixH (BoxK gA (o + j * 3) (.slice kA kn kc) (.slice vA vn vc)) [(true, 0), (true, 3), (true, 4), (true, 5), (true, 6), (true, 7), (false, 1), (false, 2), (false, 8), (true, 9)] (by kernel_rfl) (by kernel_rfl) hS0 (fun hne => ?_)
        have q0 : ∀ p : HW (BoxK gA (o + j * 3) (.slice kA kn kc) (.slice vA vn vc)), p.w.cell? ⟨gA, o + j * 3, none⟩ = some (.slice kA kn kc) := fun p => p.h.1
        iterate 6 (refine mix_take (o := ⟨_, _, _, _, _, _⟩) rfl (fun K hK => ?_); go_simp; refine hK _ ?_; clear hK K)
        clear q0 c0 c1 c2 hS0
        refine mix_act (o := ⟨_, _, _, _, _, _⟩) rfl (fun K hK => ?_) (.inl rfl)
        refine step_bs1v elB rfl (.const (.int .u8 0)) rfl (.int .u8 0) (by rfl) rfl ?_
        intro gb w3 hB3 hN3 hl3
        simp only [Act.put, List.setIfInBounds_toArray, List.set_cons_zero, List.set_cons_succ]
        have HN3 : Hid (New wr w3) := Lib.hid (New.tr (New.dr (New.refl _)) hN3)
        have HB3 := Lib.hid hB3
        refine hK.out _ _ (fun _ => HB0.out.fr (HN3.out.toFr NoB) (fun x => x)) ?_
        clear hK K hB3 hN3 hl3
        refine mix_act (o := ⟨_, _, _, _, _, _⟩) rfl (fun K hK => ?_) (.inl rfl)
        refine step_app elB _ (by rfl) (.tmp 20) (.tmp 21) (by rfl) w.heap.size (.slice A' m c') m (u8s bs) (by rfl) (HN3.out.own HO.out) (some ⟨gb, 0, none⟩) 1 1 (u8s [0]) (by rfl) (Rd.ofBlk (p := fun _ => True) HB3.out 1 1 rfl trivial) (u8s_one _) (by unfold maxLen; omega) (by omega) (Nat.le_trans HN.out.size HN3.out.size) ?_
        intro A4 d4 w4 hO4 hF4 hA4
        simp only [Act.put, List.setIfInBounds_toArray, List.set_cons_zero, List.set_cons_succ]
        rw [← u8s_app] at hO4
        have HO4 := Lib.hid hO4
        have HN4 : Hid (New w w4) := Lib.hid ((HN.out.tr HN3.out).fr hF4 (fun k hk => (own_lt HO.out k hk).1))
        have HS4 : Hid (BoxK gA (o + j * 3) (.slice kA kn kc) (.slice vA vn vc) w4) := Lib.hid ((HB0.out.fr (HN3.out.toFr NoB) (fun x => x)).fr hF4 (fun hk => by have := (own_lt HO.out _ hk).1; have := HGA.out; omega))
        refine hK.out _ _ (fun _ => HS4.out) ?_
        clear hK K hO4 hF4 hA4
        refine mix_act (o := ⟨_, _, _, _, _, _⟩) rfl (fun K hK => ?_) (.inl rfl)
        go_simp
        refine (rfield_any A4 (m + 1) d4 (bs ++ [0]) HO4.out HN4.out.size kA kn kc ks (HN4.out.rd HIN.out.k.rd) (fun k hk => hk) (by omega)).mono ?_
        rintro e w5 ⟨A5, c5, rfl, hO5, hF5, hA5⟩
        have HO5 := Lib.hid hO5
        have HN5 : Hid (New w w5) := Lib.hid (HN4.out.fr hF5 (fun k hk => (own_lt HO4.out k hk).1))
        refine hK.out _ _ (fun _ => HS4.out.fr hF5 (fun hk => by have := (own_lt HO4.out _ hk).1; have := HGA.out; omega)) ?_
        clear hK K hO5 hF5 hA5
        refine mix_take (o := ⟨_, _, _, _, _, _⟩) rfl (fun K hK => ?_)
        go_simp
        refine hK _ ?_
        clear hK K hne
        refine mix_done ?_
        obtain ⟨m6, hm6⟩ : ∃ m6, m6 = m + 1 + 2 + kn := ⟨_, rfl⟩
        rw [← hm6] at HO5 ⊢
        clear hm6
        go_wp2_with fail
        go_roundw
        case rel =>
          refine ⟨j + 1, m6, A5, c5, by omega, by go_num, rfl, ?_, HN5⟩
          rw [HST.out]
          have := HO5.out
          rw [HBS.out] at this
          refine Lib.hid ?_
          simpa [chB, List.append_assoc] using this
        case measure => simp [intOf]; omega
    · as_aux_lemma =>
      obtain rfl : j = n := by omega
      have hp : bs = putB L := by
        rw [HBS.out]
        unfold putB
        rw [← H.out.len, List.take_length]
      rw [hp] at HO
      have hml : m = (putB L).length := by have := HO.out.1; rw [u8s_len] at this; omega
      have HML := Lib.hid hml
      clear hp hml
      go_wp2_with fail
      go_ret
      rw [← HML.out]
      exact ⟨⟨A', c', rfl, HO.out⟩, HN.out⟩
end Go.Proofs.Ytfhinmjpokollaa
/- A mixed script (XMx) that may part in two where two acts are ready at once. S is kept by all. No condition. -/
namespace Go.Proofs.Ytfhinmjpokollaa
set_option linter.unusedVariables false
set_option linter.unusedSimpArgs false
set_option linter.constructorNameAsVariable false
open Go.RowKit

inductive Tr where
  | done
  | take (i : Nat) (t : Tr)
  | act (i : Nat) (t : Tr)
  | two (i : Nat) (t : Tr) (j : Nat) (u : Tr)
def Tr.len : Tr → Nat
  | .done => 0
  | .take _ t => t.len + 1
  | .act _ t => t.len + 1
  | .two _ t _ _ => t.len + 1
section
variable {P : Program} {md : Region.Mode} {ops : Array Oper} {Q : Exit → Act → World → Prop} {S : World → Prop}
def treeB (md : Region.Mode) (ops : Array Oper) : Tr → Array Bool → Bool
  | .done, listed => (Region.ready md ops listed).isEmpty
  | .take i t, listed => (Region.ready md ops listed).contains i && Region.free md ops listed i && treeB md ops t (listed.setIfInBounds i true)
  | .act i t, listed => decide (Region.ready md ops listed = [i]) && treeB md ops t (listed.setIfInBounds i true)
  | .two i t j u, listed => decide (Region.ready md ops listed = [i, j]) && decide (t.len = u.len) && treeB md ops t (listed.setIfInBounds i true) && treeB md ops u (listed.setIfInBounds j true)
/-- One act, wherever it comes up. -/
def ActOk (P : Program) (ops : Array Oper) (S : World → Prop) (Q : Exit → Act → World → Prop) (i : Nat) (R : Act → World → Prop) (a : Act) (w : World) : Prop :=
  ∃ o, ops[i]? = some o ∧ (if Region.wanted o (yielded ops a.tmps) = true then o.wp P a w (fun a' w' => S w' ∧ R a' w') Q else R (a.put o.dst undef) w)
def wpTree (P : Program) (ops : Array Oper) (S : World → Prop) (Q : Exit → Act → World → Prop) : Tr → Act → World → Prop
  | .done, a, w => Q .normal a w
  | .take i t, a, w => ∃ o, ops[i]? = some o ∧ (if Region.wanted o (yielded ops a.tmps) = true then ∃ v, (∀ p : HW S, (execOp a.eval o).run P p.w = .ok (.value v) p.w) ∧ wpTree P ops S Q t (a.put o.dst v) w else wpTree P ops S Q t (a.put o.dst undef) w)
  | .act i t, a, w => ActOk P ops S Q i (wpTree P ops S Q t) a w
  | .two i t j u, a, w => ActOk P ops S Q i (wpTree P ops S Q t) a w ∧ ActOk P ops S Q j (wpTree P ops S Q u) a w
theorem actOk_op {i : Nat} {R R' : Act → World → Prop} {a : Act} {w : World} (h : ActOk P ops S Q i R a w) (hS : S w) (hR : ∀ a' w', S w' → R a' w' → R' a' w') : wpOp P ops Q i (fun a' w' => S w' ∧ R' a' w') a w := by
  obtain ⟨o, ho, h⟩ := h
  unfold wpOp
  simp only [ho]
  by_cases hw : Region.wanted o (yielded ops a.tmps) = true
  · rw [if_pos hw] at h
    simp only [hw, if_true]
    exact .inl (Oper.wp_mono (fun a' w' h' => ⟨h'.1, hR _ _ h'.1 h'.2⟩) h)
  · rw [if_neg hw] at h
    simp only [hw]
    exact ⟨hS, hR _ _ hS h⟩
theorem wpAnyH_of_tree (hs : Region.noSelect ops = true) (hQ : ∀ c a d v w, Q (.panic c) (a.put d v) w → Q (.panic c) a w) : ∀ (t : Tr) (listed : Array Bool) (a : Act) (w : World), treeB md ops t listed = true → S w → wpTree P ops S Q t a w → wpAnyH P md ops Q S t.len listed a w
  | .done, listed, a, w, hB, _, h => ⟨by simpa [treeB] using hB, h⟩
  | .take i t, listed, a, w, hB, hSw, h => by
    simp only [treeB, Bool.and_eq_true] at hB
    obtain ⟨⟨h1, h2⟩, h5⟩ := hB
    obtain ⟨o, ho, h⟩ := h
    have key : ∀ v, YieldsIf P ops S o v a → wpTree P ops S Q t (a.put o.dst v) w → wpAnyH P md ops Q S (Tr.take i t).len listed a w := fun v hy h =>
      wpAnyH_first ho (Region.noSelect_spec hs) (fun c a w => hQ c a _ _ w) _ listed a w (Region.free_spec ho h2) (by simpa using h1) hy hSw (wpAnyH_of_tree hs hQ t _ _ _ h5 hSw h)
    by_cases hw : Region.wanted o (yielded ops a.tmps) = true
    · rw [if_pos hw] at h
      obtain ⟨v, hv, h⟩ := h
      exact key v (.inl ⟨hw, fun w hw => hv ⟨w, hw⟩⟩) h
    · rw [if_neg hw] at h
      exact key undef (.inr ⟨by simpa using hw, rfl⟩) h
  | .act i t, listed, a, w, hB, hS, h => by
    simp only [treeB, Bool.and_eq_true, decide_eq_true_eq] at hB
    obtain ⟨h1, h3⟩ := hB
    refine ⟨fun h0 => (by rw [h1] at h0; cases h0), fun j hj => ?_⟩
    rw [h1, List.mem_singleton] at hj
    subst hj
    exact actOk_op h hS (fun a' w' hS' h' => wpAnyH_of_tree hs hQ t _ _ _ h3 hS' h')
  | .two i t j u, listed, a, w, hB, hS, h => by
    simp only [treeB, Bool.and_eq_true, decide_eq_true_eq] at hB
    obtain ⟨⟨⟨h1, h2⟩, h3⟩, h4⟩ := hB
    refine ⟨fun h0 => (by rw [h1] at h0; cases h0), fun k hk => ?_⟩
    rw [h1] at hk
    rcases List.mem_cons.1 hk with rfl | hk
    · exact actOk_op h.1 hS (fun a' w' hS' h' => wpAnyH_of_tree hs hQ t _ _ _ h3 hS' h')
    · rw [List.mem_singleton] at hk
      subst hk
      refine actOk_op h.2 hS (fun a' w' hS' h' => ?_)
      show wpAnyH P md ops Q S t.len _ a' w'
      rw [h2]
      exact wpAnyH_of_tree hs hQ u _ _ _ h4 hS' h'
theorem wp_region_tree {id : Nat} {a : Act} {w : World} {l : List Oper} (S : World → Prop) (t : Tr) (hm : P.follows .mixedOrders = true)
    (hB : (Region.noSelect l.toArray && decide (t.len = l.toArray.size) && treeB .any l.toArray t (Array.replicate l.toArray.size false)) = true) (hS : S w.drew)
    (h : Nonempty (HW S) → wpTree P l.toArray S (NoPan Q) t a w.drew) : (Code.region id l.toArray true).wp P Q a w := by
  simp only [Bool.and_eq_true, decide_eq_true_eq] at hB
  obtain ⟨⟨h1, h2⟩, h3⟩ := hB
  refine wp_mono (Q := NoPan Q) (wp_region_held (S := S) hm ?_) NoPan.imp
  have := wpAnyH_of_tree (Q := NoPan Q) h1 (fun _ _ _ _ _ h => h) t _ _ _ h3 hS (h ⟨⟨_, hS⟩⟩)
  rwa [h2] at this
theorem tree_take {i : Nat} {o : Oper} {t : Tr} {a : Act} {w : World} (ho : ops[i]? = some o)
    (h : ∀ K : Act → Prop, (∀ a, wpTree P ops S Q t a w → K a) → if Region.wanted o (yielded ops a.tmps) = true then ∃ v, (∀ p : HW S, (execOp a.eval o).run P p.w = .ok (.value v) p.w) ∧ K (a.put o.dst v) else K (a.put o.dst undef)) : wpTree P ops S Q (.take i t) a w :=
  ⟨o, ho, h _ fun _ h => h⟩
theorem act_ok {i : Nat} {o : Oper} {R : Act → World → Prop} {a : Act} {w : World} (ho : ops[i]? = some o)
    (h : ∀ K : Act → World → Prop, Hid (∀ a w, S w → R a w → K a w) → if Region.wanted o (yielded ops a.tmps) = true then o.wp P a w K Q else K (a.put o.dst undef) w) (hS : Region.wanted o (yielded ops a.tmps) = true ∨ S w) : ActOk P ops S Q i R a w := by
  refine ⟨o, ho, ?_⟩
  have := h (fun a' w' => S w' ∧ R a' w') (Lib.hid fun a w h1 h2 => ⟨h1, h2⟩)
  by_cases hw : Region.wanted o (yielded ops a.tmps) = true
  · rw [if_pos hw] at this ⊢
    exact this
  · rw [if_neg hw] at this ⊢
    exact this.2
theorem tree_act {i : Nat} {o : Oper} {t : Tr} {a : Act} {w : World} (ho : ops[i]? = some o)
    (h : ∀ K : Act → World → Prop, Hid (∀ a w, S w → wpTree P ops S Q t a w → K a w) → if Region.wanted o (yielded ops a.tmps) = true then o.wp P a w K Q else K (a.put o.dst undef) w) (hS : Region.wanted o (yielded ops a.tmps) = true ∨ S w) : wpTree P ops S Q (.act i t) a w :=
  act_ok ho h hS
theorem tree_done {a : Act} {w : World} (h : Q .normal a w) : wpTree P ops S (NoPan Q) .done a w := h
end
end Go.Proofs.Ytfhinmjpokollaa
/- The reference's Batches. No condition but that the table can be read. -/
namespace Go.Proofs.Ytfhinmjpokollaa
set_option linter.unusedVariables false
set_option linter.unusedSimpArgs false
set_option linter.constructorNameAsVariable false
open Go.RowKit Go.Maps Go.Sort

theorem elDd : ElemOf Try.prog 26 49 3 56 := ElemOf.mk' (z := .agg ch0.cells.toArray) Try.underlying26 (by kernel_rfl) rfl (by decide)
theorem elDr : ElemOf Try.prog 51 26 1 24 := ElemOf.mk' (z := .slice none 0 0) Try.underlying51 (by kernel_rfl) rfl (by decide)
theorem putB_len {L : List Ch} (hl : LenOk L) (hd : ∀ c ∈ L, c.d = false) : (putB L).length = 2 + (L.map szc).sum := by
  unfold putB
  rw [List.length_append, beL_len]
  congr 1
  induction L with
  | nil => rfl
  | cons c L ih =>
    have h1 := hl c (List.mem_cons_self ..)
    have h2 := hd c (List.mem_cons_self ..)
    rw [List.flatMap_cons, List.length_append, List.map_cons, List.sum_cons, ih (fun x hx => hl x (List.mem_cons_of_mem _ hx)) (fun x hx => hd x (List.mem_cons_of_mem _ hx))]
    congr 1
    unfold chB szc
    rw [h2]
    simp [beL_len, h1.1, h1.2]
    omega
theorem step_appG {P : Program} {t e : TypeId} {size bytes : Nat} (E : ElemOf P t e size bytes) (w : World) {ops : Array Oper} {o : Oper} {a : Act} {K : Act → World → Prop} {Q : Exit → Act → World → Prop} {F : Prop} (hw : Region.wanted o (yielded ops a.tmps) = true) (s x : Operand)
    (ho : o.op = .call { callee := .builtin .append, args := #[s, x], argTypes := #[t, t] })
    (base : Nat) (v : Value) (n : Nat) (xs : List Value) (hs : a.eval s = v) (hown : w.ownsRow base e size v n xs)
    {p : Nat → Prop} (X : Option Addr) (m c : Nat) (news : List Value) (hx : a.eval x = .slice X m c) (hr : Rd p w size X m news) (h1 : ∀ u ∈ news, u.oneCell' = true)
    (h63 : n + m ≤ maxLen) (hbytes : (n + m) * bytes ≤ 140737488355328) (hbase : base ≤ w.heap.size)
    (h : ∀ A' c' w', w'.ownsRow base e size (.slice A' (n + m) c') (n + m) (xs ++ news) → Fr (fun k => v.ownBlock = some k) w w' →
      (∀ k, (Value.slice A' (n + m) c').ownBlock = some k → v.ownBlock = some k ∨ w.heap.size ≤ k) → K (a.put o.dst (.slice A' (n + m) c')) w') :
    if Region.wanted o (yielded ops a.tmps) = true then Oper.wp P o a w K Q else F := by
  rw [if_pos hw]
  exact wp_app E w s x ho base v n xs hs hown X m c news hx hr h1 h63 hbytes hbase h
theorem cellsF_one (L : List Ch) : ∀ u ∈ L.flatMap Ch.cells, u.oneCell' = true := by
  intro u hu
  obtain ⟨c, -, hc⟩ := List.mem_flatMap.1 hu
  exact cells_one c u hc
theorem own_one {w : World} {base g size : Nat} {t : TypeId} {cs : Array Value} (h : Blk w g t cs) (hs : cs.size = size) (hb : base ≤ g) : w.ownsRow base t size (.slice (some ⟨g, 0, none⟩) 1 1) 1 cs.toList :=
  ⟨by simp [hs], .inr ⟨g, 1, cs, rfl, hb, h, Nat.le_refl _, by unfold maxLen; omega, by omega, by rw [List.take_of_length_le]; simp [hs]⟩⟩
def BoxW (gO kn gA o : Nat) (row k v d : Value) (w : World) : Prop := w.cell? ⟨gO, kn, none⟩ = some row ∧ w.cell? ⟨gA, o, none⟩ = some k ∧ w.cell? ⟨gA, o + 1, none⟩ = some v ∧ w.cell? ⟨gA, o + 2, none⟩ = some d
/-- What the reference's rounds leave. -/
def RbI (w : World) (L : List Ch) (j : Nat) (s : Value) (wr : World) : Prop :=
  New w wr ∧ ((j = 0 ∧ s = .slice none 0 0) ∨ ∃ (g n c : Nat) (C : List Sl) (l : Sl) (lo : Nat), s = .slice (some ⟨g, 0, none⟩) n c ∧ Nst 26 49 (fun _ => True) w.heap.size lo wr (some ⟨g, 0, none⟩) n c C l ∧
    spl szc (L.take j) = some (C.map Sl.L, l.L) ∧ l.L.length ≤ 600 ∧ (∀ y ∈ l.L, y ∈ L) ∧ n ≤ j)
def fits (L : List Ch) (j : Nat) (y : Ch) : Bool := match spl szc (L.take j) with
  | none => false
  | some (_, l) => decide (l.length < 600 ∧ (l.map szc).sum + szc y ≤ 8190)
set_option maxHeartbeats 4000000 in
set_option maxRecDepth 100000 in
theorem rbatches_any (A : Option Addr) (n c : Nat) (L : List Ch) (w : World) (h : RTb w A n L) (hn : n ≤ 1000000) (hY : ∀ y ∈ L, ChS y) :
    Calls Try.prog 25 #[.slice A n c] w fun e w' => (∃ (A' : Option Addr) (n' c' : Nat) (R : List Sl), e = .returned (.slice A' n' c') ∧ Bts w' A' n' R ∧ R.map Sl.L = rws (spl szc L)) ∧ New w w' := by
  have H := Lib.hid h
  have HY := Lib.hid hY
  have hll : L.length = n := h.len
  have HLO := Lib.hid h.lens
  clear h hY
  go_enter Try.func25, Try.ntmps25
  go_wp2_with fail
  go_loopw [3, 4] (fun s i wr => ∃ (j : Nat), j ≤ n ∧ i = .int .i64 j ∧ (∃ (aV : Option Addr) (nV cV : Nat), s = .slice aV nV cV ∧ nV ≤ j) ∧ Hid (RbI w L j s wr)) (fun s i _ => n - (intOf i).toNat)
  case atStart => exact ⟨0, Nat.zero_le _, rfl, ⟨none, 0, 0, rfl, Nat.zero_le _⟩, Lib.hid ⟨New.refl w, .inl ⟨rfl, rfl⟩⟩⟩
  case round =>
    obtain ⟨j, hj, rfl, ⟨aV, nV, cV, rfl, hnV⟩, HI⟩ := hrel
    by_cases hlt : j < n
    · obtain ⟨gA, o, hl, rfl, hgA, -, hrg⟩ := rd_row (f := Ch.cells) (L := L) (fun _ => rfl) (by omega) (HI.out.1.rd H.out.rd) hlt
      have c0 : wr.cell? ⟨gA, o + j * 3, none⟩ = some (.slice L[j].k.A L[j].k.n L[j].k.c) := hrg 0 _ rfl
      have c1 : wr.cell? ⟨gA, o + j * 3 + 1, none⟩ = some (.slice L[j].v.A L[j].v.n L[j].v.c) := hrg 1 _ rfl
      have c2 : wr.cell? ⟨gA, o + j * 3 + 2, none⟩ = some (.bool L[j].d) := hrg 2 _ rfl
      have hin := (H.out.el L[j] (List.getElem_mem _)).new HI.out.1
      have hys := HY.out L[j] (List.getElem_mem _)
      have hlo := HLO.out L[j] (List.getElem_mem _)
      have hst : L.take (j + 1) = L.take j ++ [L[j]] := List.take_succ_eq_append_getElem hl
      have hmem : L[j] ∈ L := List.getElem_mem _
      generalize L[j] = y at c0 c1 c2 hin hys hlo hst hmem
      have HIN := Lib.hid hin
      have HYS := Lib.hid hys
      have HLY := Lib.hid hlo
      have HST := Lib.hid hst
      have HME := Lib.hid hmem
      have hj0 : (0 : Int) ≤ (j : Int) := by omega
      have hjn : (j : Int) < (n : Int) := by omega
      clear hin hys hlo hst hmem hrg
      go_wp2_with fail
      obtain ⟨k5, hk5⟩ : ∃ k5 : Int, k5 = (nV : Int) - 1 := ⟨_, rfl⟩
      rw [← hk5]
      have HK5 := Lib.hid hk5
      clear hk5
      refine wp_sw (fun a w' => ∃ (v15 v16 v17 v18 v19 v20 v21 v22 v23 v24 v25 v26 v27 v28 v29 v30 v31 v32 v33 v34 v35 v36 v37 v38 v39 v40 : Value), a = { tmps := #[.slice (some ⟨gA, o, none⟩) n c, undef, .slice none 0 0, .slice aV nV cV, .int .i64 (j : Nat), .int .i64 k5, .int .i64 (j : Nat), .slice (some ⟨gA, o, none⟩) n c, .int .i64 (n : Nat), .bool true, u10, u11, .slice aV nV cV, .int .i64 (nV : Nat), .int .i64 k5, v15, v16, v17, v18, v19, v20, v21, v22, v23, v24, v25, v26, v27, v28, v29, v30, v31, v32, v33, v34, v35, v36, v37, v38, v39, v40, .bool (fits L j y), u42, u43, u44, u45, u46, u47, u48, u49, u50, u51, u52, u53, u54, u55, u56, u57, u58, u59, u60, u61, u62, undef], defers := [] } ∧ Hid (New wr w')) ?next ?reg
      case reg =>
        intro K' hK'
        have HK' := Lib.hid hK'
        clear hK'
        rcases HI.out.2 with ⟨hj00, hv0⟩ | ⟨gO, nO, cO, C, l, lo, hv0, hNs, hsp, hl6, hlm, hns⟩
        · injection hv0 with e1 e2 e3
          subst e1 e2 e3 hj00
          have hk5' : k5 = -1 := by rw [HK5.out]; rfl
          subst hk5'
          have hf : fits L 0 y = false := by simp [fits, spl]
          rw [hf] at HK'
          have hS0 : (fun w' => New wr w') wr.drew := New.dr (New.refl wr)
          refine wp_region_tree (fun w' => New wr w') (.take 0 (.take 1 (.take 2 (.take 3 (.take 4 (.take 5 (.take 6 (.take 7 (.take 8 (.take 9 (.take 10 (.take 12 (.take 13 (.take 14 (.take 15 (.take 17 (.take 18 (.take 19 (.take 20 (.two 11 (.two 16 (.act 21 (.act 22 (.act 23 (.take 24 (.take 25 (.take 26 .done)))))) 21 (.act 16 (.act 22 (.act 23 (.take 24 (.take 25 (.take 26 .done))))))) 21 (.act 11 (.act 16 (.act 22 (.act 23 (.take 24 (.take 25 (.take 26 .done))))))))))))))))))))))))))) (by kernel_rfl) (by kernel_rfl) hS0 (fun hne => ?_)
          iterate 19 (refine tree_take (o := ⟨_, _, _, _, _, _⟩) rfl (fun K hK => ?_); go_simp; refine hK _ ?_; clear hK K)
          refine ⟨?_, ?_⟩
          · refine act_ok (o := ⟨_, _, _, _, _, _⟩) rfl (fun K hK => ?_) (.inr hS0)
            go_simp
            refine hK.out _ _ hS0 ?_
            clear hK K
            refine ⟨?_, ?_⟩
            · refine act_ok (o := ⟨_, _, _, _, _, _⟩) rfl (fun K hK => ?_) (.inr hS0)
              go_simp
              refine hK.out _ _ hS0 ?_
              clear hK K
              refine tree_act (o := ⟨_, _, _, _, _, _⟩) rfl (fun K hK => ?_) (.inr hS0)
              go_simp
              refine hK.out _ _ hS0 ?_
              clear hK K
              refine tree_act (o := ⟨_, _, _, _, _, _⟩) rfl (fun K hK => ?_) (.inr hS0)
              go_simp
              refine hK.out _ _ hS0 ?_
              clear hK K
              refine tree_act (o := ⟨_, _, _, _, _, _⟩) rfl (fun K hK => ?_) (.inr hS0)
              go_simp
              refine hK.out _ _ hS0 ?_
              clear hK K
              iterate 3 (refine tree_take (o := ⟨_, _, _, _, _, _⟩) rfl (fun K hK => ?_); go_simp; refine hK _ ?_; clear hK K)
              clear hne
              refine tree_done ?_
              exact HK'.out _ _ ⟨_, _, _, _, _, _, _, _, _, _, _, _, _, _, _, _, _, _, _, _, _, _, _, _, _, _, rfl, Lib.hid hS0⟩
            · refine act_ok (o := ⟨_, _, _, _, _, _⟩) rfl (fun K hK => ?_) (.inr hS0)
              go_simp
              refine hK.out _ _ hS0 ?_
              clear hK K
              refine tree_act (o := ⟨_, _, _, _, _, _⟩) rfl (fun K hK => ?_) (.inr hS0)
              go_simp
              refine hK.out _ _ hS0 ?_
              clear hK K
              refine tree_act (o := ⟨_, _, _, _, _, _⟩) rfl (fun K hK => ?_) (.inr hS0)
              go_simp
              refine hK.out _ _ hS0 ?_
              clear hK K
              refine tree_act (o := ⟨_, _, _, _, _, _⟩) rfl (fun K hK => ?_) (.inr hS0)
              go_simp
              refine hK.out _ _ hS0 ?_
              clear hK K
              iterate 3 (refine tree_take (o := ⟨_, _, _, _, _, _⟩) rfl (fun K hK => ?_); go_simp; refine hK _ ?_; clear hK K)
              clear hne
              refine tree_done ?_
              exact HK'.out _ _ ⟨_, _, _, _, _, _, _, _, _, _, _, _, _, _, _, _, _, _, _, _, _, _, _, _, _, _, rfl, Lib.hid hS0⟩
          · refine act_ok (o := ⟨_, _, _, _, _, _⟩) rfl (fun K hK => ?_) (.inr hS0)
            go_simp
            refine hK.out _ _ hS0 ?_
            clear hK K
            refine tree_act (o := ⟨_, _, _, _, _, _⟩) rfl (fun K hK => ?_) (.inr hS0)
            go_simp
            refine hK.out _ _ hS0 ?_
            clear hK K
            refine tree_act (o := ⟨_, _, _, _, _, _⟩) rfl (fun K hK => ?_) (.inr hS0)
            go_simp
            refine hK.out _ _ hS0 ?_
            clear hK K
            refine tree_act (o := ⟨_, _, _, _, _, _⟩) rfl (fun K hK => ?_) (.inr hS0)
            go_simp
            refine hK.out _ _ hS0 ?_
            clear hK K
            refine tree_act (o := ⟨_, _, _, _, _, _⟩) rfl (fun K hK => ?_) (.inr hS0)
            go_simp
            refine hK.out _ _ hS0 ?_
            clear hK K
            iterate 3 (refine tree_take (o := ⟨_, _, _, _, _, _⟩) rfl (fun K hK => ?_); go_simp; refine hK _ ?_; clear hK K)
            clear hne
            refine tree_done ?_
            exact HK'.out _ _ ⟨_, _, _, _, _, _, _, _, _, _, _, _, _, _, _, _, _, _, _, _, _, _, _, _, _, _, rfl, Lib.hid hS0⟩
        · injection hv0 with e1 e2 e3
          have hnn := hNs.nn
          obtain ⟨kn, hkn⟩ : ∃ kn, nO = kn + 1 := ⟨C.length, hnn⟩
          subst e1 e2 e3 hkn
          have hk5' : k5 = (kn : Int) := by rw [HK5.out]; omega
          subst hk5'
          have HNS := Lib.hid hNs
          have hll : l.L.length = l.n := hNs.ll
          have cR : wr.cell? ⟨gO, kn, none⟩ = some (.slice l.A l.n l.c) := hNs.lastCell rfl
          have hk0 : (0 : Int) ≤ (kn : Int) := by omega
          have hk1 : (kn : Int) < ((kn : Int) + 1) := by omega
          have hd1 : decide ((0 : Int) ≤ (kn : Int)) = true := decide_eq_true (by omega)
          have hfe : fits L j y = decide (l.L.length < 600 ∧ (l.L.map szc).sum + szc y ≤ 8190) := by unfold fits; rw [hsp]
          clear hNs hsp hnn
          by_cases hrow : l.n < 600
          · have hd3 : decide ((l.n : Int) < 600) = true := decide_eq_true (by omega)
            obtain ⟨pl, hpl⟩ : ∃ pl, pl = (putB (l.L ++ [y])).length := ⟨_, rfl⟩
            have hmem : ∀ z ∈ l.L ++ [y], z ∈ L := fun z hz => by
              rcases List.mem_append.1 hz with hz | hz
              · exact hlm z hz
              · rw [List.mem_singleton.1 hz]; exact HME.out
            have HEL : Hid (∀ z ∈ l.L ++ [y], z.In (fun b => b < w.heap.size) wr) := Lib.hid (fun z hz => (H.out.el z (hmem z hz)).new HI.out.1)
            have HSZ : Hid (∀ z ∈ l.L ++ [y], ChS z) := Lib.hid (fun z hz => HY.out z (hmem z hz))
            have hpl2 : pl = 2 + ((l.L.map szc).sum + szc y) := by
              rw [hpl, putB_len (fun z hz => HLO.out z (hmem z hz)) (fun z hz => (HSZ.out z hz).1)]
              simp
            have hdm : decide ((pl : Int) ≤ 8192) = fits L j y := by
              rw [hfe]
              by_cases hh : (l.L.map szc).sum + szc y ≤ 8190
              · rw [decide_eq_true (by omega), decide_eq_true ⟨by omega, hh⟩]
              · rw [decide_eq_false (by omega), decide_eq_false (fun h => hh h.2)]
            have HPL : Hid ((putB (l.L ++ [y])).length = pl) := Lib.hid hpl.symm
            have HLL : Hid (l.L.length = l.n) := Lib.hid hll
            have hS0 : (fun w' => New wr w') wr.drew := New.dr (New.refl wr)
            clear hpl hpl2 hfe hmem hlm hll
            refine wp_region_tree (fun w' => New wr w') (.take 0 (.take 1 (.take 2 (.take 3 (.take 4 (.take 5 (.take 6 (.take 7 (.take 8 (.take 9 (.take 10 (.take 12 (.take 13 (.take 14 (.take 15 (.take 17 (.take 18 (.take 19 (.take 20 (.two 11 (.two 16 (.act 21 (.act 22 (.act 23 (.take 24 (.take 25 (.take 26 .done)))))) 21 (.act 16 (.act 22 (.act 23 (.take 24 (.take 25 (.take 26 .done))))))) 21 (.act 11 (.act 16 (.act 22 (.act 23 (.take 24 (.take 25 (.take 26 .done))))))))))))))))))))))))))) (by kernel_rfl) (by kernel_rfl) hS0 (fun hne => ?_)
            have q0 : ∀ p : HW (fun w' => New wr w'), p.w.cell? ⟨gA, o + j * 3, none⟩ = some (.slice y.k.A y.k.n y.k.c) := fun p => p.h.cell_ c0
            have q1 : ∀ p : HW (fun w' => New wr w'), p.w.cell? ⟨gA, o + j * 3 + 1, none⟩ = some (.slice y.v.A y.v.n y.v.c) := fun p => p.h.cell_ c1
            have q2 : ∀ p : HW (fun w' => New wr w'), p.w.cell? ⟨gA, o + j * 3 + 2, none⟩ = some (.bool y.d) := fun p => p.h.cell_ c2
            have qR : ∀ p : HW (fun w' => New wr w'), p.w.cell? ⟨gO, kn, none⟩ = some (.slice l.A l.n l.c) := fun p => p.h.cell_ cR
            iterate 19 (refine tree_take (o := ⟨_, _, _, _, _, _⟩) rfl (fun K hK => ?_); go_simp; refine hK _ ?_; clear hK K)
            clear q0 q1 q2 qR cR c0 c1 c2 hS0
            refine ⟨?_, ?_⟩
            · refine act_ok (o := ⟨_, _, _, _, _, _⟩) rfl (fun K hK => ?_) (.inl (by rfl))
              refine step_bs0 elDd (by rfl) (by rfl) ?_
              intro g1 wp1 hB hN hz
              simp only [Act.put, List.setIfInBounds_toArray, List.set_cons_zero, List.set_cons_succ, Nat.zero_add]
              have HNwp1 : Hid (New wr wp1) := Lib.hid (New.tr (New.dr (New.refl _)) hN)
              have HO11wp1 : Hid (wp1.ownsRow wr.heap.size 49 3 (.slice (some ⟨g1, 0, none⟩) 0 0) 0 []) := Lib.hid (own_lit hB (by have := (New.refl wr).size; exact Nat.le_trans this hz))
              have HZ11 : Hid (g1 < wp1.heap.size) := Lib.hid hB.lt
              refine hK.out _ _ HNwp1.out ?_
              clear hK K hB hN hz
              refine ⟨?_, ?_⟩
              · as_aux_lemma =>
                  refine act_ok (o := ⟨_, _, _, _, _, _⟩) rfl (fun K hK => ?_) (.inl (by rfl))
                  refine step_appG elDd _ (by rfl) (.tmp 26) (.tmp 30) (by rfl) wr.heap.size (.slice (some ⟨g1, 0, none⟩) 0 0) 0 [] (by rfl) HO11wp1.out l.A l.n l.c (l.L.flatMap Ch.cells) (by rfl) (HNwp1.out.rd (Rd.own HNS.out.last rfl)) (cellsF_one l.L) (by unfold maxLen; omega) (by omega) HNwp1.out.size ?_
                  intro A1 d1 wp2 hO hF hA
                  simp only [Act.put, List.setIfInBounds_toArray, List.set_cons_zero, List.set_cons_succ, Nat.zero_add]
                  rw [Nat.zero_add, List.nil_append] at hO
                  have HNwp2 : Hid (New wr wp2) := Lib.hid (HNwp1.out.fr hF (fun k hk => (own_lt HO11wp1.out k hk).1))
                  have HO16wp2 := Lib.hid hO
                  refine hK.out _ _ HNwp2.out ?_
                  clear hK K hO hF hA
                  refine tree_act (o := ⟨_, _, _, _, _, _⟩) rfl (fun K hK => ?_) (.inl (by rfl))
                  refine step_bs1 elDd (by decide) (by rfl) (.tmp 35) rfl #[.slice y.k.A y.k.n y.k.c, .slice y.v.A y.v.n y.v.c, .bool y.d] (by rfl) rfl ?_
                  intro g2 wp3 hB hN hz
                  simp only [Act.put, List.setIfInBounds_toArray, List.set_cons_zero, List.set_cons_succ, Nat.zero_add]
                  have HNwp3 : Hid (New wr wp3) := Lib.hid (HNwp2.out.tr hN)
                  have HB21wp3 := Lib.hid hB
                  have HO16wp3 := Lib.hid (hN.own HO16wp2.out)
                  refine hK.out _ _ HNwp3.out ?_
                  clear hK K hB hN hz
                  refine tree_act (o := ⟨_, _, _, _, _, _⟩) rfl (fun K hK => ?_) (.inl (by rfl))
                  refine step_appG elDd _ (by rfl) (.tmp 31) (.tmp 36) (by rfl) wr.heap.size (.slice A1 l.n d1) l.n (l.L.flatMap Ch.cells) (by rfl) HO16wp3.out (some ⟨g2, 0, none⟩) 1 1 y.cells (by rfl) (Rd.ofBlk (p := fun _ => True) (t := 49) (cs := #[.slice y.k.A y.k.n y.k.c, .slice y.v.A y.v.n y.v.c, .bool y.d]) HB21wp3.out 3 1 rfl trivial) (cells_one y) (by unfold maxLen; omega) (by omega) HNwp3.out.size ?_
                  intro A2 d2 wp4 hO hF hA
                  simp only [Act.put, List.setIfInBounds_toArray, List.set_cons_zero, List.set_cons_succ, Nat.zero_add]
                  have HNwp4 : Hid (New wr wp4) := Lib.hid (HNwp3.out.fr hF (fun k hk => (own_lt HO16wp3.out k hk).1))
                  have HO22wp4 := Lib.hid hO
                  refine hK.out _ _ HNwp4.out ?_
                  clear hK K hO hF hA
                  refine tree_act (o := ⟨_, _, _, _, _, _⟩) rfl (fun K hK => ?_) (.inl (by rfl))
                  go_simp
                  refine (rput_any A2 (l.n + 1) d2 (l.L ++ [y]) wp4 ⟨rd_szs (Rd.own (by rw [List.flatMap_append]; simpa using HO22wp4.out) rfl), by simp; exact HLL.out, fun z hz => Ch.In.szs ((HEL.out z hz).new HNwp4.out)⟩ (by omega) (fun z hz => ⟨(HSZ.out z hz).2.1, (HSZ.out z hz).2.2⟩)).mono ?_
                  rintro e wp5 ⟨⟨A3, d3, rfl, hO⟩, hN⟩
                  dsimp only
                  rw [HPL.out]
                  have HNwp5 : Hid (New wr wp5) := Lib.hid (HNwp4.out.tr hN)
                  refine hK.out _ _ HNwp5.out ?_
                  clear hK K hO hN
                  iterate 3 (refine tree_take (o := ⟨_, _, _, _, _, _⟩) rfl (fun K hK => ?_); go_simp; refine hK _ ?_; clear hK K)
                  clear hne
                  refine tree_done ?_
                  exact HK'.out _ _ ⟨_, _, _, _, _, _, _, _, _, _, _, _, _, _, _, _, _, _, _, _, _, _, _, _, _, _, rfl, HNwp5⟩
              · as_aux_lemma =>
                  refine act_ok (o := ⟨_, _, _, _, _, _⟩) rfl (fun K hK => ?_) (.inl (by rfl))
                  refine step_bs1 elDd (by decide) (by rfl) (.tmp 35) rfl #[.slice y.k.A y.k.n y.k.c, .slice y.v.A y.v.n y.v.c, .bool y.d] (by rfl) rfl ?_
                  intro g2 wp2 hB hN hz
                  simp only [Act.put, List.setIfInBounds_toArray, List.set_cons_zero, List.set_cons_succ, Nat.zero_add]
                  have HNwp2 : Hid (New wr wp2) := Lib.hid (HNwp1.out.tr hN)
                  have HB21wp2 := Lib.hid hB
                  have HO11wp2 := Lib.hid (hN.own HO11wp1.out)
                  have HNE : Hid (g2 ≠ g1) := Lib.hid (by have := HZ11.out; omega)
                  refine hK.out _ _ HNwp2.out ?_
                  clear hK K hB hN hz
                  refine tree_act (o := ⟨_, _, _, _, _, _⟩) rfl (fun K hK => ?_) (.inl (by rfl))
                  refine step_appG elDd _ (by rfl) (.tmp 26) (.tmp 30) (by rfl) wr.heap.size (.slice (some ⟨g1, 0, none⟩) 0 0) 0 [] (by rfl) HO11wp2.out l.A l.n l.c (l.L.flatMap Ch.cells) (by rfl) (HNwp2.out.rd (Rd.own HNS.out.last rfl)) (cellsF_one l.L) (by unfold maxLen; omega) (by omega) HNwp2.out.size ?_
                  intro A1 d1 wp3 hO hF hA
                  simp only [Act.put, List.setIfInBounds_toArray, List.set_cons_zero, List.set_cons_succ, Nat.zero_add]
                  rw [Nat.zero_add, List.nil_append] at hO
                  have HNwp3 : Hid (New wr wp3) := Lib.hid (HNwp2.out.fr hF (fun k hk => (own_lt HO11wp2.out k hk).1))
                  have HO16wp3 := Lib.hid hO
                  have HB21wp3 := Lib.hid (HB21wp2.out.fr hF (fun e => HNE.out ((show g1 = g2 from by simpa [Value.ownBlock] using e).symm)))
                  refine hK.out _ _ HNwp3.out ?_
                  clear hK K hO hF hA
                  refine tree_act (o := ⟨_, _, _, _, _, _⟩) rfl (fun K hK => ?_) (.inl (by rfl))
                  refine step_appG elDd _ (by rfl) (.tmp 31) (.tmp 36) (by rfl) wr.heap.size (.slice A1 l.n d1) l.n (l.L.flatMap Ch.cells) (by rfl) HO16wp3.out (some ⟨g2, 0, none⟩) 1 1 y.cells (by rfl) (Rd.ofBlk (p := fun _ => True) (t := 49) (cs := #[.slice y.k.A y.k.n y.k.c, .slice y.v.A y.v.n y.v.c, .bool y.d]) HB21wp3.out 3 1 rfl trivial) (cells_one y) (by unfold maxLen; omega) (by omega) HNwp3.out.size ?_
                  intro A2 d2 wp4 hO hF hA
                  simp only [Act.put, List.setIfInBounds_toArray, List.set_cons_zero, List.set_cons_succ, Nat.zero_add]
                  have HNwp4 : Hid (New wr wp4) := Lib.hid (HNwp3.out.fr hF (fun k hk => (own_lt HO16wp3.out k hk).1))
                  have HO22wp4 := Lib.hid hO
                  refine hK.out _ _ HNwp4.out ?_
                  clear hK K hO hF hA
                  refine tree_act (o := ⟨_, _, _, _, _, _⟩) rfl (fun K hK => ?_) (.inl (by rfl))
                  go_simp
                  refine (rput_any A2 (l.n + 1) d2 (l.L ++ [y]) wp4 ⟨rd_szs (Rd.own (by rw [List.flatMap_append]; simpa using HO22wp4.out) rfl), by simp; exact HLL.out, fun z hz => Ch.In.szs ((HEL.out z hz).new HNwp4.out)⟩ (by omega) (fun z hz => ⟨(HSZ.out z hz).2.1, (HSZ.out z hz).2.2⟩)).mono ?_
                  rintro e wp5 ⟨⟨A3, d3, rfl, hO⟩, hN⟩
                  dsimp only
                  rw [HPL.out]
                  have HNwp5 : Hid (New wr wp5) := Lib.hid (HNwp4.out.tr hN)
                  refine hK.out _ _ HNwp5.out ?_
                  clear hK K hO hN
                  iterate 3 (refine tree_take (o := ⟨_, _, _, _, _, _⟩) rfl (fun K hK => ?_); go_simp; refine hK _ ?_; clear hK K)
                  clear hne
                  refine tree_done ?_
                  exact HK'.out _ _ ⟨_, _, _, _, _, _, _, _, _, _, _, _, _, _, _, _, _, _, _, _, _, _, _, _, _, _, rfl, HNwp5⟩
            · as_aux_lemma =>
                refine act_ok (o := ⟨_, _, _, _, _, _⟩) rfl (fun K hK => ?_) (.inl (by rfl))
                refine step_bs1 elDd (by decide) (by rfl) (.tmp 35) rfl #[.slice y.k.A y.k.n y.k.c, .slice y.v.A y.v.n y.v.c, .bool y.d] (by rfl) rfl ?_
                intro g2 wp1 hB hN hz
                simp only [Act.put, List.setIfInBounds_toArray, List.set_cons_zero, List.set_cons_succ, Nat.zero_add]
                have HNwp1 : Hid (New wr wp1) := Lib.hid (New.tr (New.dr (New.refl _)) hN)
                have HB21wp1 := Lib.hid hB
                refine hK.out _ _ HNwp1.out ?_
                clear hK K hB hN hz
                refine tree_act (o := ⟨_, _, _, _, _, _⟩) rfl (fun K hK => ?_) (.inl (by rfl))
                refine step_bs0 elDd (by rfl) (by rfl) ?_
                intro g1 wp2 hB hN hz
                simp only [Act.put, List.setIfInBounds_toArray, List.set_cons_zero, List.set_cons_succ, Nat.zero_add]
                have HNwp2 : Hid (New wr wp2) := Lib.hid (HNwp1.out.tr hN)
                have HO11wp2 : Hid (wp2.ownsRow wr.heap.size 49 3 (.slice (some ⟨g1, 0, none⟩) 0 0) 0 []) := Lib.hid (own_lit hB (by have := HNwp1.out.size; exact Nat.le_trans this hz))
                have HZ11 : Hid (g1 < wp2.heap.size) := Lib.hid hB.lt
                have HB21wp2 := Lib.hid (hN.blk HB21wp1.out)
                have HNE : Hid (g2 ≠ g1) := Lib.hid (by have := HB21wp1.out.lt; omega)
                refine hK.out _ _ HNwp2.out ?_
                clear hK K hB hN hz
                refine tree_act (o := ⟨_, _, _, _, _, _⟩) rfl (fun K hK => ?_) (.inl (by rfl))
                refine step_appG elDd _ (by rfl) (.tmp 26) (.tmp 30) (by rfl) wr.heap.size (.slice (some ⟨g1, 0, none⟩) 0 0) 0 [] (by rfl) HO11wp2.out l.A l.n l.c (l.L.flatMap Ch.cells) (by rfl) (HNwp2.out.rd (Rd.own HNS.out.last rfl)) (cellsF_one l.L) (by unfold maxLen; omega) (by omega) HNwp2.out.size ?_
                intro A1 d1 wp3 hO hF hA
                simp only [Act.put, List.setIfInBounds_toArray, List.set_cons_zero, List.set_cons_succ, Nat.zero_add]
                rw [Nat.zero_add, List.nil_append] at hO
                have HNwp3 : Hid (New wr wp3) := Lib.hid (HNwp2.out.fr hF (fun k hk => (own_lt HO11wp2.out k hk).1))
                have HO16wp3 := Lib.hid hO
                have HB21wp3 := Lib.hid (HB21wp2.out.fr hF (fun e => HNE.out ((show g1 = g2 from by simpa [Value.ownBlock] using e).symm)))
                refine hK.out _ _ HNwp3.out ?_
                clear hK K hO hF hA
                refine tree_act (o := ⟨_, _, _, _, _, _⟩) rfl (fun K hK => ?_) (.inl (by rfl))
                refine step_appG elDd _ (by rfl) (.tmp 31) (.tmp 36) (by rfl) wr.heap.size (.slice A1 l.n d1) l.n (l.L.flatMap Ch.cells) (by rfl) HO16wp3.out (some ⟨g2, 0, none⟩) 1 1 y.cells (by rfl) (Rd.ofBlk (p := fun _ => True) (t := 49) (cs := #[.slice y.k.A y.k.n y.k.c, .slice y.v.A y.v.n y.v.c, .bool y.d]) HB21wp3.out 3 1 rfl trivial) (cells_one y) (by unfold maxLen; omega) (by omega) HNwp3.out.size ?_
                intro A2 d2 wp4 hO hF hA
                simp only [Act.put, List.setIfInBounds_toArray, List.set_cons_zero, List.set_cons_succ, Nat.zero_add]
                have HNwp4 : Hid (New wr wp4) := Lib.hid (HNwp3.out.fr hF (fun k hk => (own_lt HO16wp3.out k hk).1))
                have HO22wp4 := Lib.hid hO
                refine hK.out _ _ HNwp4.out ?_
                clear hK K hO hF hA
                refine tree_act (o := ⟨_, _, _, _, _, _⟩) rfl (fun K hK => ?_) (.inl (by rfl))
                go_simp
                refine (rput_any A2 (l.n + 1) d2 (l.L ++ [y]) wp4 ⟨rd_szs (Rd.own (by rw [List.flatMap_append]; simpa using HO22wp4.out) rfl), by simp; exact HLL.out, fun z hz => Ch.In.szs ((HEL.out z hz).new HNwp4.out)⟩ (by omega) (fun z hz => ⟨(HSZ.out z hz).2.1, (HSZ.out z hz).2.2⟩)).mono ?_
                rintro e wp5 ⟨⟨A3, d3, rfl, hO⟩, hN⟩
                dsimp only
                rw [HPL.out]
                have HNwp5 : Hid (New wr wp5) := Lib.hid (HNwp4.out.tr hN)
                refine hK.out _ _ HNwp5.out ?_
                clear hK K hO hN
                iterate 3 (refine tree_take (o := ⟨_, _, _, _, _, _⟩) rfl (fun K hK => ?_); go_simp; refine hK _ ?_; clear hK K)
                clear hne
                refine tree_done ?_
                exact HK'.out _ _ ⟨_, _, _, _, _, _, _, _, _, _, _, _, _, _, _, _, _, _, _, _, _, _, _, _, _, _, rfl, HNwp5⟩
          · have hd3 : decide ((l.n : Int) < 600) = false := decide_eq_false (by omega)
            have hf : fits L j y = false := by rw [hfe]; exact decide_eq_false (fun h => by omega)
            rw [hf] at HK'
            clear hfe hf
            have hS0 : (fun w' => New wr w') wr.drew := New.dr (New.refl wr)
            refine wp_region_tree (fun w' => New wr w') (.take 0 (.take 1 (.take 2 (.take 3 (.take 4 (.take 5 (.take 6 (.take 7 (.take 8 (.take 9 (.take 10 (.take 12 (.take 13 (.take 14 (.take 15 (.take 17 (.take 18 (.take 19 (.take 20 (.two 11 (.two 16 (.act 21 (.act 22 (.act 23 (.take 24 (.take 25 (.take 26 .done)))))) 21 (.act 16 (.act 22 (.act 23 (.take 24 (.take 25 (.take 26 .done))))))) 21 (.act 11 (.act 16 (.act 22 (.act 23 (.take 24 (.take 25 (.take 26 .done))))))))))))))))))))))))))) (by kernel_rfl) (by kernel_rfl) hS0 (fun hne => ?_)
            have qR : ∀ p : HW (fun w' => New wr w'), p.w.cell? ⟨gO, kn, none⟩ = some (.slice l.A l.n l.c) := fun p => p.h.cell_ cR
            iterate 19 (refine tree_take (o := ⟨_, _, _, _, _, _⟩) rfl (fun K hK => ?_); go_simp; refine hK _ ?_; clear hK K)
            refine ⟨?_, ?_⟩
            · refine act_ok (o := ⟨_, _, _, _, _, _⟩) rfl (fun K hK => ?_) (.inr hS0)
              go_simp
              refine hK.out _ _ hS0 ?_
              clear hK K
              refine ⟨?_, ?_⟩
              · refine act_ok (o := ⟨_, _, _, _, _, _⟩) rfl (fun K hK => ?_) (.inr hS0)
                go_simp
                refine hK.out _ _ hS0 ?_
                clear hK K
                refine tree_act (o := ⟨_, _, _, _, _, _⟩) rfl (fun K hK => ?_) (.inr hS0)
                go_simp
                refine hK.out _ _ hS0 ?_
                clear hK K
                refine tree_act (o := ⟨_, _, _, _, _, _⟩) rfl (fun K hK => ?_) (.inr hS0)
                go_simp
                refine hK.out _ _ hS0 ?_
                clear hK K
                refine tree_act (o := ⟨_, _, _, _, _, _⟩) rfl (fun K hK => ?_) (.inr hS0)
                go_simp
                refine hK.out _ _ hS0 ?_
                clear hK K
                iterate 3 (refine tree_take (o := ⟨_, _, _, _, _, _⟩) rfl (fun K hK => ?_); go_simp; refine hK _ ?_; clear hK K)
                clear hne
                refine tree_done ?_
                exact HK'.out _ _ ⟨_, _, _, _, _, _, _, _, _, _, _, _, _, _, _, _, _, _, _, _, _, _, _, _, _, _, rfl, Lib.hid hS0⟩
              · refine act_ok (o := ⟨_, _, _, _, _, _⟩) rfl (fun K hK => ?_) (.inr hS0)
                go_simp
                refine hK.out _ _ hS0 ?_
                clear hK K
                refine tree_act (o := ⟨_, _, _, _, _, _⟩) rfl (fun K hK => ?_) (.inr hS0)
                go_simp
                refine hK.out _ _ hS0 ?_
                clear hK K
                refine tree_act (o := ⟨_, _, _, _, _, _⟩) rfl (fun K hK => ?_) (.inr hS0)
                go_simp
                refine hK.out _ _ hS0 ?_
                clear hK K
                refine tree_act (o := ⟨_, _, _, _, _, _⟩) rfl (fun K hK => ?_) (.inr hS0)
                go_simp
                refine hK.out _ _ hS0 ?_
                clear hK K
                iterate 3 (refine tree_take (o := ⟨_, _, _, _, _, _⟩) rfl (fun K hK => ?_); go_simp; refine hK _ ?_; clear hK K)
                clear hne
                refine tree_done ?_
                exact HK'.out _ _ ⟨_, _, _, _, _, _, _, _, _, _, _, _, _, _, _, _, _, _, _, _, _, _, _, _, _, _, rfl, Lib.hid hS0⟩
            · refine act_ok (o := ⟨_, _, _, _, _, _⟩) rfl (fun K hK => ?_) (.inr hS0)
              go_simp
              refine hK.out _ _ hS0 ?_
              clear hK K
              refine tree_act (o := ⟨_, _, _, _, _, _⟩) rfl (fun K hK => ?_) (.inr hS0)
              go_simp
              refine hK.out _ _ hS0 ?_
              clear hK K
              refine tree_act (o := ⟨_, _, _, _, _, _⟩) rfl (fun K hK => ?_) (.inr hS0)
              go_simp
              refine hK.out _ _ hS0 ?_
              clear hK K
              refine tree_act (o := ⟨_, _, _, _, _, _⟩) rfl (fun K hK => ?_) (.inr hS0)
              go_simp
              refine hK.out _ _ hS0 ?_
              clear hK K
              refine tree_act (o := ⟨_, _, _, _, _, _⟩) rfl (fun K hK => ?_) (.inr hS0)
              go_simp
              refine hK.out _ _ hS0 ?_
              clear hK K
              iterate 3 (refine tree_take (o := ⟨_, _, _, _, _, _⟩) rfl (fun K hK => ?_); go_simp; refine hK _ ?_; clear hK K)
              clear hne
              refine tree_done ?_
              exact HK'.out _ _ ⟨_, _, _, _, _, _, _, _, _, _, _, _, _, _, _, _, _, _, _, _, _, _, _, _, _, _, rfl, Lib.hid hS0⟩
      case next =>
        rintro a w6 ⟨v15, v16, v17, v18, v19, v20, v21, v22, v23, v24, v25, v26, v27, v28, v29, v30, v31, v32, v33, v34, v35, v36, v37, v38, v39, v40, rfl, HN6⟩
        dsimp only
        have HNW : Hid (New w w6) := Lib.hid (HI.out.1.tr HN6.out)
        have e0 : w6.cell? ⟨gA, o + j * 3, none⟩ = some (.slice y.k.A y.k.n y.k.c) := HN6.out.cell_ c0
        have e1 : w6.cell? ⟨gA, o + j * 3 + 1, none⟩ = some (.slice y.v.A y.v.n y.v.c) := HN6.out.cell_ c1
        have e2 : w6.cell? ⟨gA, o + j * 3 + 2, none⟩ = some (.bool y.d) := HN6.out.cell_ c2
        have HGA : Hid (gA < w.heap.size) := Lib.hid hgA
        clear c0 c1 c2
        cases hf : fits L j y
        · rcases HI.out.2 with ⟨hj00, hv0⟩ | ⟨gO, nO, cO, C, l, lo, hv0, hNs, hsp, hl6, hlm, hns⟩
          · injection hv0 with e1' e2' e3'
            subst e1' e2' e3'
            have HJ0 := Lib.hid hj00
            clear hj00
            go_wp2_with (at_builtin; refine atOpS ⟨some 62, _, _, _, _, _⟩ ?_; refine stopHere ?_)
            refine ⟨?_⟩
            refine wpList_app (o := ⟨some 62, _, _, _, _, _⟩) elDr _ rfl (.tmp 55) (.tmp 61) rfl w.heap.size (.slice none 0 0) 0 [] rfl (World.ownsRow_nil _ _ _ _) _ 1 1 [.slice (some ⟨w6.heap.size, 0, none⟩) 1 1] rfl (Rd.ofBlk (p := fun _ => True) (t := 26) (cs := #[.slice (some ⟨w6.heap.size, 0, none⟩) 1 1]) (Blk.new' _ _ _ (by simp)) 1 1 rfl trivial) (by intro u hu; obtain rfl := List.mem_singleton.1 hu; rfl) (by unfold maxLen; omega) (by omega) (by have := HNW.out.size; simp; omega) ?_
            intro A8 d8 w8 hO8 hF8 hA8
            have hBy : Blk ((w6.alloc (.cells #[.slice y.k.A y.k.n y.k.c, .slice y.v.A y.v.n y.v.c, .bool y.d] 49)).alloc (.cells #[.slice (some ⟨w6.heap.size, 0, none⟩) 1 1] 26)) w6.heap.size 49 #[.slice y.k.A y.k.n y.k.c, .slice y.v.A y.v.n y.v.c, .bool y.d] := (Blk.new w6 _ _).alloc _
            have hN67 : New w6 ((w6.alloc (.cells #[.slice y.k.A y.k.n y.k.c, .slice y.v.A y.v.n y.v.c, .bool y.d] 49)).alloc (.cells #[.slice (some ⟨w6.heap.size, 0, none⟩) 1 1] 26)) := New.al (New.al (New.refl _) _) _
            obtain ⟨w7, hw7⟩ : ∃ w7, w7 = (w6.alloc (.cells #[.slice y.k.A y.k.n y.k.c, .slice y.v.A y.v.n y.v.c, .bool y.d] 49)).alloc (.cells #[.slice (some ⟨w6.heap.size, 0, none⟩) 1 1] 26) := ⟨_, rfl⟩
            rw [← hw7] at hF8 hA8 hBy hN67
            clear hw7
            obtain ⟨g8, c8, hsl, -, -⟩ := own_form hO8 (by omega)
            have hAe : A8 = some ⟨g8, 0, none⟩ := by injection hsl
            subst hAe
            have hO1 := own_one hBy rfl (Nat.le_refl w6.heap.size)
            have hN78 : New w7 w8 := New.fr (New.refl _) hF8 (fun k hk => by cases hk)
            have hg8 : w7.heap.size ≤ g8 := (hA8 g8 rfl).elim (fun e => by cases e) id
            have hnst : Nst 26 49 (fun _ => True) w.heap.size w6.heap.size w8 (some ⟨g8, 0, none⟩) 1 d8 [] ⟨some ⟨w6.heap.size, 0, none⟩, 1, 1, [y]⟩ := Nst.first (by decide) (fun _ _ => trivial) (by simpa [Sl.cells] using hO8) (W0 := w7) (by simpa [Ch.cells] using hO1) HNW.out.size (Nat.le_trans hN67.size hN78.size) hN78 rfl (fun z hz => by
              rw [List.mem_singleton.1 hz]
              refine ((HIN.out.new ((HN6.out.tr hN67).tr hN78)).imp (fun k hk => ⟨trivial, fun e => ?_, fun e => ?_⟩))
              · have e : g8 = k := by simpa [Value.ownBlock] using e
                have := HNW.out.size; have := hN67.size; omega
              · have e : w6.heap.size = k := by simpa [Value.ownBlock] using e
                have := HNW.out.size; omega)
            have HI9 : Hid (RbI w L (j + 1) (.slice (some ⟨g8, 0, none⟩) 1 d8) w8) := Lib.hid ⟨(HNW.out.tr hN67).tr hN78, .inr ⟨g8, 1, d8, [], _, _, rfl, hnst, by
                rw [HST.out, HJ0.out]
                simp [spl, spS], by simp, fun z hz => by rw [List.mem_singleton.1 hz]; exact HME.out, by omega⟩⟩
            clear hnst hN78 hg8 hO1 hO8 hF8 hA8 hBy hN67
            go_wp2_with fail
            go_roundw
            case rel => exact ⟨j + 1, by omega, by go_num, ⟨_, _, _, rfl, by omega⟩, HI9⟩
            case measure => simp [intOf]; omega
          · injection hv0 with e1' e2' e3'
            have hnn := hNs.nn
            obtain ⟨kn, hkn⟩ : ∃ kn, nO = kn + 1 := ⟨C.length, hnn⟩
            subst e1' e2' e3' hkn
            have hk5' : k5 = (kn : Int) := by rw [HK5.out]; omega
            subst hk5'
            have hll : l.L.length = l.n := hNs.ll
            have hfe : ¬ (l.L.length < 600 ∧ (l.L.map szc).sum + szc y ≤ 8190) := by
              unfold fits at hf
              rw [hsp] at hf
              simpa using hf
            have HFE := Lib.hid hfe
            have HNS : Hid (Nst 26 49 (fun _ => True) w.heap.size lo w6 (some ⟨gO, 0, none⟩) (kn + 1) cV C l) := Lib.hid (hNs.new HN6.out)
            have HSP := Lib.hid hsp
            clear hNs hsp hfe hnn hll hl6 hf hlm
            go_wp2_with (at_builtin; refine atOpS ⟨some 62, _, _, _, _, _⟩ ?_; refine stopHere ?_)
            refine ⟨?_⟩
            refine wpList_app (o := ⟨some 62, _, _, _, _, _⟩) elDr _ rfl (.tmp 55) (.tmp 61) rfl w.heap.size (.slice (some ⟨gO, 0, none⟩) (kn + 1) cV) (kn + 1) ((C ++ [l]).flatMap Sl.cells) rfl (New.own (New.al (New.al (New.refl _) _) _) HNS.out.out) _ 1 1 [.slice (some ⟨w6.heap.size, 0, none⟩) 1 1] rfl (Rd.ofBlk (p := fun _ => True) (t := 26) (cs := #[.slice (some ⟨w6.heap.size, 0, none⟩) 1 1]) (Blk.new' _ _ _ (by simp)) 1 1 rfl trivial) (by intro u hu; obtain rfl := List.mem_singleton.1 hu; rfl) (by unfold maxLen; omega) (by omega) (by have := HNW.out.size; simp; omega) ?_
            intro A8 d8 w8 hO8 hF8 hA8
            have hBy : Blk ((w6.alloc (.cells #[.slice y.k.A y.k.n y.k.c, .slice y.v.A y.v.n y.v.c, .bool y.d] 49)).alloc (.cells #[.slice (some ⟨w6.heap.size, 0, none⟩) 1 1] 26)) w6.heap.size 49 #[.slice y.k.A y.k.n y.k.c, .slice y.v.A y.v.n y.v.c, .bool y.d] := (Blk.new w6 _ _).alloc _
            have hN67 : New w6 ((w6.alloc (.cells #[.slice y.k.A y.k.n y.k.c, .slice y.v.A y.v.n y.v.c, .bool y.d] 49)).alloc (.cells #[.slice (some ⟨w6.heap.size, 0, none⟩) 1 1] 26)) := New.al (New.al (New.refl _) _) _
            obtain ⟨w7, hw7⟩ : ∃ w7, w7 = (w6.alloc (.cells #[.slice y.k.A y.k.n y.k.c, .slice y.v.A y.v.n y.v.c, .bool y.d] 49)).alloc (.cells #[.slice (some ⟨w6.heap.size, 0, none⟩) 1 1] 26) := ⟨_, rfl⟩
            rw [← hw7] at hF8 hA8 hBy hN67
            clear hw7
            obtain ⟨g8, c8, hsl, -, -⟩ := own_form hO8 (by omega)
            have hAe : A8 = some ⟨g8, 0, none⟩ := by injection hsl
            subst hAe
            have hO1 := own_one hBy rfl (Nat.le_refl w6.heap.size)
            have hF68 : Fr (fun k => (Value.slice (some ⟨gO, 0, none⟩) (kn + 1) cV).ownBlock = some k) w6 w8 := (hN67.toFr _).trans hF8
            have hgO := (own_lt HNS.out.out gO rfl)
            have hg8 : g8 = gO ∨ w7.heap.size ≤ g8 := (hA8 g8 rfl).imp (fun e => by have : gO = g8 := by simpa [Value.ownBlock] using e
                                                                                    exact this.symm) id
            have hO1' : w8.ownsRow w6.heap.size 49 3 (.slice (some ⟨w6.heap.size, 0, none⟩) 1 1) 1 ([y].flatMap Ch.cells) := by
              refine own_fr (by simpa [Ch.cells] using hO1) hF8 (fun k hk hs => ?_)
              have e1 : w6.heap.size = k := by simpa [Value.ownBlock] using hk
              have e2 : gO = k := by simpa [Value.ownBlock] using hs
              omega
            have hnst : Nst 26 49 (fun _ => True) w.heap.size w6.heap.size w8 (some ⟨g8, 0, none⟩) (kn + 1 + 1) d8 (C ++ [l]) ⟨some ⟨w6.heap.size, 0, none⟩, 1, 1, [y]⟩ := HNS.out.open_ (Nat.le_refl _) hF68.size (by simpa [Sl.cells] using hO8) hF68 (fun k hk => (hA8 k hk).imp id (fun h => Nat.le_trans hN67.size h)) hO1' rfl (fun z hz => by
              rw [List.mem_singleton.1 hz]
              refine ((((HIN.out.new HN6.out).imp (q := fun k => k < w.heap.size) (fun k hk => hk)).frq hF68 (fun k hk hs => ?_)).imp (fun k hk => ⟨trivial, fun e => ?_, fun e => ?_⟩))
              · have e2 : gO = k := by simpa [Value.ownBlock] using hs
                omega
              · have e : g8 = k := by simpa [Value.ownBlock] using e
                have := HNW.out.size; have := hN67.size; omega
              · have e : w6.heap.size = k := by simpa [Value.ownBlock] using e
                have := HNW.out.size; omega)
            have HI9 : Hid (RbI w L (j + 1) (.slice (some ⟨g8, 0, none⟩) (kn + 1 + 1) d8) w8) := Lib.hid ⟨HNW.out.fr hF68 (fun k hk => by
                have e2 : gO = k := by simpa [Value.ownBlock] using hk
                omega), .inr ⟨g8, kn + 1 + 1, d8, C ++ [l], _, _, rfl, hnst, by
                rw [HST.out, spl_snoc, HSP.out]
                unfold spS
                dsimp only
                rw [if_neg HFE.out]
                simp, by simp, fun z hz => by rw [List.mem_singleton.1 hz]; exact HME.out, by omega⟩⟩
            clear hnst hg8 hO1 hO1' hO8 hF8 hA8 hBy hN67 hF68 hgO
            go_wp2_with fail
            go_roundw
            case rel => exact ⟨j + 1, by omega, by go_num, ⟨_, _, _, rfl, by omega⟩, HI9⟩
            case measure => simp [intOf]; omega
        · rcases HI.out.2 with ⟨hj00, hv0⟩ | ⟨gO, nO, cO, C, l, lo, hv0, hNs, hsp, hl6, hlm, hns⟩
          · subst hj00
            simp [fits, spl] at hf
          · injection hv0 with e1' e2' e3'
            have hnn := hNs.nn
            obtain ⟨kn, hkn⟩ : ∃ kn, nO = kn + 1 := ⟨C.length, hnn⟩
            subst e1' e2' e3' hkn
            have hk5' : k5 = (kn : Int) := by rw [HK5.out]; omega
            subst hk5'
            have hll : l.L.length = l.n := hNs.ll
            have hfe : l.L.length < 600 ∧ (l.L.map szc).sum + szc y ≤ 8190 := by
              unfold fits at hf
              rw [hsp] at hf
              simpa using hf
            have HFE := Lib.hid hfe
            have HNS : Hid (Nst 26 49 (fun _ => True) w.heap.size lo w6 (some ⟨gO, 0, none⟩) (kn + 1) cV C l) := Lib.hid (hNs.new HN6.out)
            have HSP := Lib.hid hsp
            have HLM := Lib.hid hlm
            have cR : w6.cell? ⟨gO, kn, none⟩ = some (.slice l.A l.n l.c) := HNS.out.lastCell rfl
            have hk0 : (0 : Int) ≤ (kn : Int) := by omega
            have hk1 : (kn : Int) < ((kn : Int) + 1) := by omega
            have hl60 : l.n < 600 := by omega
            have hS0 : (BoxW gO kn gA (o + j * 3) (.slice l.A l.n l.c) (.slice y.k.A y.k.n y.k.c) (.slice y.v.A y.v.n y.v.c) (.bool y.d)) w6.drew := ⟨cR, e0, e1, e2⟩
            have HS0 : Hid ((BoxW gO kn gA (o + j * 3) (.slice l.A l.n l.c) (.slice y.k.A y.k.n y.k.c) (.slice y.v.A y.v.n y.v.c) (.bool y.d)) w6) := Lib.hid ⟨cR, e0, e1, e2⟩
            clear hNs hsp hlm hfe hnn hll hl6 hf
            go_wp2_with fail
            refine wp_region_mix (BoxW gO kn gA (o + j * 3) (.slice l.A l.n l.c) (.slice y.k.A y.k.n y.k.c) (.slice y.v.A y.v.n y.v.c) (.bool y.d)) 13 [(true, 0), (true, 1), (true, 2), (true, 3), (true, 4), (true, 5), (true, 6), (true, 7), (true, 8), (true, 9), (false, 10), (false, 11), (true, 12), (false, 13)] (by kernel_rfl) (by kernel_rfl) hS0 (fun hne => ?_)
            have qr : ∀ p : HW (BoxW gO kn gA (o + j * 3) (.slice l.A l.n l.c) (.slice y.k.A y.k.n y.k.c) (.slice y.v.A y.v.n y.v.c) (.bool y.d)), p.w.cell? ⟨gO, kn, none⟩ = some (.slice l.A l.n l.c) := fun p => p.h.1
            have qa : ∀ p : HW (BoxW gO kn gA (o + j * 3) (.slice l.A l.n l.c) (.slice y.k.A y.k.n y.k.c) (.slice y.v.A y.v.n y.v.c) (.bool y.d)), p.w.cell? ⟨gA, o + j * 3, none⟩ = some _ := fun p => p.h.2.1
            have qb : ∀ p : HW (BoxW gO kn gA (o + j * 3) (.slice l.A l.n l.c) (.slice y.k.A y.k.n y.k.c) (.slice y.v.A y.v.n y.v.c) (.bool y.d)), p.w.cell? ⟨gA, o + j * 3 + 1, none⟩ = some _ := fun p => p.h.2.2.1
            have qc : ∀ p : HW (BoxW gO kn gA (o + j * 3) (.slice l.A l.n l.c) (.slice y.k.A y.k.n y.k.c) (.slice y.v.A y.v.n y.v.c) (.bool y.d)), p.w.cell? ⟨gA, o + j * 3 + 2, none⟩ = some _ := fun p => p.h.2.2.2
            iterate 10 (refine mix_take (o := ⟨_, _, _, _, _, _⟩) rfl (fun K hK => ?_); go_simp; refine hK _ ?_; clear hK K)
            clear e0 e1 e2
            refine mix_act (o := ⟨_, _, _, _, _, _⟩) rfl (fun K hK => ?_) (.inl rfl)
            refine step_bs1 elDd (by decide) (by rfl) (.tmp 51) rfl #[.slice y.k.A y.k.n y.k.c, .slice y.v.A y.v.n y.v.c, .bool y.d] (by rfl) rfl ?_
            intro gb w7 hB7 hN7 hl7
            simp only [Act.put, List.setIfInBounds_toArray, List.set_cons_zero, List.set_cons_succ]
            have HN7 : Hid (New w6 w7) := Lib.hid (New.tr (New.dr (New.refl _)) hN7)
            have HB7 := Lib.hid hB7
            refine hK.out _ _ (fun _ => ⟨HN7.out.cell_ HS0.out.1, HN7.out.cell_ HS0.out.2.1, HN7.out.cell_ HS0.out.2.2.1, HN7.out.cell_ HS0.out.2.2.2⟩) ?_
            clear hK K hB7 hN7 hl7
            refine mix_act (o := ⟨_, _, _, _, _, _⟩) rfl (fun K hK => ?_) (.inl rfl)
            refine step_app elDd _ (by rfl) (.tmp 47) (.tmp 52) (by rfl) lo (.slice l.A l.n l.c) l.n (l.L.flatMap Ch.cells) (by rfl) (HN7.out.own HNS.out.last) (some ⟨gb, 0, none⟩) 1 1 y.cells (by rfl) (Rd.ofBlk (p := fun _ => True) (t := 49) (cs := #[.slice y.k.A y.k.n y.k.c, .slice y.v.A y.v.n y.v.c, .bool y.d]) HB7.out 3 1 rfl trivial) (cells_one y) (by unfold maxLen; omega) (by omega) (Nat.le_trans HNS.out.los HN7.out.size) ?_
            intro A' c' w8 hO8 hF8 hA8
            simp only [Act.put, List.setIfInBounds_toArray, List.set_cons_zero, List.set_cons_succ]
            have HO8 := Lib.hid hO8
            have HF8 : Hid (Fr (fun k => (Value.slice l.A l.n l.c).ownBlock = some k) w6 w8) := Lib.hid ((HN7.out.toFr _).trans hF8)
            have HA8 : Hid (∀ k, (Value.slice A' (l.n + 1) c').ownBlock = some k → (Value.slice l.A l.n l.c).ownBlock = some k ∨ w6.heap.size ≤ k) := Lib.hid (fun k hk => (hA8 k hk).imp id (fun h => Nat.le_trans HN7.out.size h))
            have hng : ¬ (Value.slice l.A l.n l.c).ownBlock = some gO := own_own_ne HNS.out.out HNS.out.last HNS.out.ne rfl
            have hna : ¬ (Value.slice l.A l.n l.c).ownBlock = some gA := fun e => by have := (own_lt HNS.out.last gA e).1; have := HNS.out.blo; have := HGA.out; omega
            have c8 : w8.cell? ⟨gO, kn, none⟩ = some (.slice l.A l.n l.c) := HF8.out.cell_some HS0.out.1 hng
            refine hK.out _ _ (fun _ => ⟨c8, HF8.out.cell_some HS0.out.2.1 hna, HF8.out.cell_some HS0.out.2.2.1 hna, HF8.out.cell_some HS0.out.2.2.2 hna⟩) ?_
            clear hK K hO8 hF8 hA8
            refine mix_take (o := ⟨_, _, _, _, _, _⟩) rfl (fun K hK => ?_); go_simp; refine hK _ ?_; clear hK K
            refine mix_act (o := ⟨_, _, _, _, _, _⟩) rfl (fun K hK => ?_) (.inl rfl)
            have f8 : w8.frozen? ⟨gO, kn, none⟩ = false := by
              rw [HF8.out.frozen (p := ⟨gO, kn, none⟩) ((own_lt HNS.out.out gO rfl).2) hng]
              exact HNS.out.lastFrozen kn
            clear qr qa qb qc
            go_simp
            refine hK.out _ _ (fun h => absurd rfl h) ?_
            clear hK K hne
            refine mix_done ?_
            have hnst := HNS.out.push HO8.out HF8.out HA8.out (y := y) (((HIN.out.new HN6.out).lts).imp (fun k hk => ⟨trivial, fun e => by have := (own_lt HNS.out.out gO rfl).1; omega, fun e => by have := (own_lt HNS.out.last k e).1; have := HNS.out.blo; omega⟩)) (i := kn) rfl
            have hF9 : Fr (fun k => k = gO) w8 (w8.setCell ⟨gO, kn, none⟩ (.slice A' (l.n + 1) c')) := (Fr.refl (fun k => k = gO) w8).setCell (p := ⟨gO, kn, none⟩) (fun _ => rfl) _
            have HI9 : Hid (RbI w L (j + 1) (.slice (some ⟨gO, 0, none⟩) (kn + 1) cV) (w8.setCell ⟨gO, kn, none⟩ (.slice A' (l.n + 1) c'))) := Lib.hid ⟨(HNW.out.fr HF8.out (fun k hk => Nat.le_trans HNS.out.blo (own_lt HNS.out.last k hk).1)).fr hF9 (fun k hk => by rw [hk]; exact (own_lt HNS.out.out gO rfl).1), .inr ⟨gO, kn + 1, cV, C, _, lo, rfl, hnst, by
                rw [HST.out, spl_snoc, HSP.out]
                unfold spS
                dsimp only
                rw [if_pos HFE.out], by have := HFE.out.1; simp; omega, fun z hz => by
                rcases List.mem_append.1 hz with hz | hz
                · exact HLM.out z hz
                · rw [List.mem_singleton.1 hz]; exact HME.out, by omega⟩⟩
            clear hnst hF9 c8 f8 hng hna hS0
            go_wp2_with fail
            go_roundw
            case rel => exact ⟨j + 1, by omega, by go_num, ⟨_, _, _, rfl, by omega⟩, HI9⟩
            case measure => simp [intOf]; omega
    · go_wp2_with fail
      go_ret
      have hjn : j = n := by omega
      obtain ⟨A', n', c', R, hs, hbt, hR⟩ : ∃ (A' : Option Addr) (n' c' : Nat) (R : List Sl), Value.slice aV nV cV = .slice A' n' c' ∧ Bts wr A' n' R ∧ R.map Sl.L = rws (spl szc L) := by
        have ht : L.take j = L := List.take_of_length_le (by omega)
        rcases HI.out.2 with ⟨hj00, hv0⟩ | ⟨gO, nO, cO, C, l, lo, hv0, hNs, hsp, hl6, hlm, hns⟩
        · refine ⟨none, 0, 0, [], hv0, Bts.nil wr, ?_⟩
          have : L = [] := List.eq_nil_of_length_eq_zero (by omega)
          rw [this]
          rfl
        · refine ⟨_, _, _, _, hv0, hNs.bts, ?_⟩
          rw [← ht, hsp]
          simp [rws]
      injection hs with h1 h2 h3
      subst h1 h2 h3
      exact ⟨⟨_, _, _, _, rfl, hbt, hR⟩, HI.out.1⟩
end Go.Proofs.Ytfhinmjpokollaa
