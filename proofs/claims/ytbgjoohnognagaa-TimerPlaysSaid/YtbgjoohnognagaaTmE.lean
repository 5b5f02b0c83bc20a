/- TimerEnds' walk: a thing that nobody answers is sent again and again, and is late in the end. No condition. -/
import Derived.Test.YtbgjoohnognagaaTmD
import Derived.Test.YtbgjoohnognagaaOpenA
namespace Go.Proofs.Ytbgjoohnognagaa
open Go.RowKit

theorem mod_in (a m : Int) (hm : 0 < m) : 0 ≤ (IntKind.u64.wrap a).tmod m ∧ (IntKind.u64.wrap a).tmod m < m := by
  have h : 0 ≤ IntKind.u64.wrap a := by simp [IntKind.wrap, IntKind.signed, IntKind.bits]; omega
  exact ⟨Int.tmod_nonneg _ h, Int.tmod_lt_of_pos _ hm⟩

theorem tickZ_id {n : Int} (h0 : 0 ≤ n) (h1 : n ≤ 1099511627776) : tickZ n = n := by unfold tickZ; rw [if_neg (by omega : ¬ n < 0), if_neg (by omega)]
theorem dues_one (now most limit : Int) (r : Rn) : dues now most limit [r] = dueStep now most limit ⟨[], [], []⟩ r := rfl
theorem sent_one (r : Rn) : sentOf [r] r.n = r.s := by simp [sentOf, place]
theorem longer_in {r : Rn} {most : Int} (h1 : 1 ≤ r.l) (h2 : 1 ≤ most) : 1 ≤ longer r most ∧ longer r most ≤ most := by unfold longer; split <;> omega

set_option maxHeartbeats 4000000 in
set_option maxRecDepth 100000 in
theorem ends_walk (a b c st : Int) (w : World) :
    Calls Try.prog 3 #[.agg #[.int .i64 a, .int .i64 b, .int .i64 c], .int .i64 st] w fun e w' => e = .returned (.bool true) ∧ New w w' := by
  obtain ⟨a1, a2⟩ := mod_in a 8 (by omega)
  obtain ⟨b1, b2⟩ := mod_in b 20 (by omega)
  obtain ⟨c1, c2⟩ := mod_in c 9 (by omega)
  obtain ⟨s1, s2⟩ := mod_in st 7 (by omega)
  go_enter Try.func3, Try.ntmps3
  go_wp2_with fail
  obtain ⟨w0, hw0⟩ : ∃ w0 : World, w0 = w.alloc (.cells #[.int .i64 a, .int .i64 b, .int .i64 c] 22) := ⟨_, rfl⟩
  have HN0 : Hid (New w w0) := Lib.hid (by rw [hw0]; exact New.al (New.refl _) _)
  have hb0 : Blk w0 w.heap.size 22 #[.int .i64 a, .int .i64 b, .int .i64 c] := by rw [hw0]; exact Blk.new _ _ _
  rw [← hw0]
  clear hw0
  refine (alive_any w0).mono ?_
  rintro e w1 ⟨rfl, hN1⟩
  have hb1 := New.blk hN1 hb0
  have i0 := hb1.cell 0
  have i1 := hb1.cell 1
  have i2 := hb1.cell 2
  have HN1 : Hid (New w w1) := Lib.hid (HN0.out.tr hN1)
  clear hN1 hb0 hb1
  go_wp2_with fail
  go_quiet (fail)
  go_wp2_with fail
  generalize (IntKind.u64.wrap a).tmod 8 = qa at a1 a2 ⊢
  generalize (IntKind.u64.wrap b).tmod 20 = qb at b1 b2 ⊢
  generalize (IntKind.u64.wrap c).tmod 9 = qc at c1 c2 ⊢
  generalize (IntKind.u64.wrap st).tmod 7 = qs at s1 s2 ⊢
  obtain ⟨w2, hw2⟩ : ∃ w2 : World, w2 = w1.drewN nq := ⟨_, rfl⟩
  have HN2 : Hid (New w w2) := Lib.hid (by rw [hw2]; exact HN1.out.dn _)
  rw [← hw2]
  clear hw2 i0 i1 i2
  refine (new_any (1 + qa) (8 + qb) (1 + qc) w.heap.size w2 (by omega) (by omega) (by omega) (by omega) (by omega) HN2.out.size).mono ?_
  rintro e w3 ⟨rfl, hT3, hN3⟩
  have HT3 := Lib.hid hT3
  have HN3 : Hid (New w w3) := Lib.hid (HN2.out.tr hN3)
  clear hT3 hN3
  go_wp2_with fail
  refine (start_yes w.heap.size w2.heap.size (.slice none 0 0) [] (1 + qa) (8 + qb) (1 + qc) 9221120237041090561 3 0 (1 + qa) w3 HT3.out rfl (tickR_nan (1 + qa) (8 + qb) (by omega) (by omega) (by omega)) (by omega) (by omega) (by simp)).mono ?_
  rintro e w4 ⟨rfl, v4, hT4, hF4, hA4⟩
  have HN4 : Hid (New w w4) := Lib.hid (HN3.out.fr hF4 (fun k hk => by
    rcases hk with rfl | hk
    · exact HN2.out.size
    · cases hk))
  have HT4 : Hid (Tm w4 w.heap.size w2.heap.size v4 [⟨3, 0, 0 + (1 + qa), 1 + qa, 1⟩] (1 + qa) (8 + qb) (1 + qc) 9221120237041090561) := Lib.hid hT4
  have hgb := HN2.out.size
  clear hT4 hF4 hA4
  go_wp2_with fail
  go_loopw [10, 11, 12, 54] (fun s l nw i wr => ∃ (j : Nat) (sent last now due len : Int) (v : Value), j ≤ 2000 ∧ i = .int .i64 j ∧ s = .int .i64 sent ∧ l = .int .i64 last ∧ nw = .int .i64 now ∧
    Hid (Tm wr w.heap.size w2.heap.size v [⟨3, 0, due, len, sent⟩] (1 + qa) (8 + qb) (1 + qc) 9221120237041090561) ∧ (1 ≤ sent ∧ sent ≤ 1 + qc ∧ 1 ≤ len ∧ len ≤ 8 + qb ∧ due = last + len ∧ 0 ≤ last ∧ last ≤ now ∧ now < due ∧ due ≤ sent * 34 ∧ (j : Int) ≤ now) ∧ Hid (New w wr)) (fun _ _ _ i _ => 2000 - (intOf i).toNat)
  case atStart => exact ⟨0, 1, 0, 0, 0 + (1 + qa), 1 + qa, v4, by omega, rfl, rfl, rfl, rfl, HT4, by omega, HN4⟩
  case round =>
    obtain ⟨j, sent, last, now, due, len, v, hj, rfl, rfl, rfl, rfl, HT, ⟨k1, k2, k3, k4, k5, k6, k7, k8, k9, k10⟩, HN⟩ := hrel
    by_cases hlt : j < 2000
    · have htk : tickZ (now + (1 + qs)) = now + (1 + qs) := tickZ_id (by omega) (by omega)
      have HTK := Lib.hid htk
      have hfair : ∀ r ∈ [(⟨3, 0, due, len, sent⟩ : Rn)], r.Fair := by
        intro r hr
        obtain rfl := List.mem_singleton.1 hr
        exact ⟨by simp, by simp, by simp only; omega, by simp only; omega, by simp only; omega, by simp only; omega, by simp only; omega, by simp only; omega⟩
      have HFA := Lib.hid hfair
      have hse := sent_one ⟨3, 0, due, len, sent⟩
      have HSE := Lib.hid hse
      clear htk hfair hse
      by_cases hw : now + (1 + qs) < due
      · have HD : Hid (dues (tickZ (now + (1 + qs))) (8 + qb) (1 + qc) [⟨3, 0, due, len, sent⟩] = ⟨[⟨3, 0, due, len, sent⟩], [], []⟩) := Lib.hid (by rw [HTK.out, dues_one, dues_wait hw]; rfl)
        have hss : (sent != sent) = false := by simp
        go_wp2_with (first
          | (go_at_call 9; refine (due_at w.heap.size w2.heap.size v _ _ [] [] 0 0 (1 + qa) (8 + qb) (1 + qc) 9221120237041090561 (now + (1 + qs)) wr HT.out HFA.out (by omega) (by omega) HD.out rfl rfl).mono ?_; rintro e w5 ⟨Aa, ca, At, ct, vl, rfl, hT5, hOa, hOt, hF5, hvl⟩; have HT5 := Lib.hid hT5; have HF5 := Lib.hid hF5; clear hT5 hOa hOt hF5 hvl)
          | (go_at_call 11; refine (sent_any w.heap.size w2.heap.size vl _ (1 + qa) (8 + qb) (1 + qc) 9221120237041090561 3 w5 HT5.out).mono ?_; rw [HSE.out]; rintro e w6 ⟨rfl, hN6⟩; have HN6 : Hid (New w5 w6) := Lib.hid hN6; clear hN6))
        go_roundw
        case rel => exact ⟨j + 1, sent, last, now + (1 + qs), due, len, vl, by omega, by go_num, rfl, rfl, rfl, Lib.hid (HT5.out.new HN6.out), by omega, Lib.hid ((tm_new HT.out HN.out hgb HF5.out).tr HN6.out)⟩
        case measure => simp [intOf]; omega
      by_cases hla : 1 + qc ≤ sent
      · have HD : Hid (dues (tickZ (now + (1 + qs))) (8 + qb) (1 + qc) [⟨3, 0, due, len, sent⟩] = ⟨[], [], [3]⟩) := Lib.hid (by rw [HTK.out, dues_one, dues_late hw hla]; rfl)
        have hse : (sent == 1 + qc) = true := by simp; omega
        have hdd : decide (now + (1 + qs) - last ≤ 8 + qb + (1 + qs)) = true := by simp; omega
        go_wp2_with (first
          | (go_at_call 9; refine (due_at w.heap.size w2.heap.size v _ _ [] [3] 0 1 (1 + qa) (8 + qb) (1 + qc) 9221120237041090561 (now + (1 + qs)) wr HT.out HFA.out (by omega) (by omega) HD.out rfl rfl).mono ?_; rintro e w5 ⟨Aa, ca, At, ct, vl, rfl, hT5, hOa, hOt, hF5, hvl⟩; obtain ⟨ga, rfl, -, hca⟩ := own_one hOt; have HT5 := Lib.hid hT5; have HF5 := Lib.hid hF5; clear hT5 hOa hOt hF5 hvl)
          | (go_at_call 10; refine (len_any w.heap.size w2.heap.size vl [] (1 + qa) (8 + qb) (1 + qc) 9221120237041090561 w5 HT5.out).mono ?_; rintro e w6 ⟨rfl, rfl⟩))
        go_ret
        exact ⟨rfl, tm_new HT.out HN.out hgb HF5.out⟩
      · obtain ⟨l1, l2⟩ := longer_in (r := ⟨3, 0, due, len, sent⟩) (most := 8 + qb) k3 (by omega)
        have HD : Hid (dues (tickZ (now + (1 + qs))) (8 + qb) (1 + qc) [⟨3, 0, due, len, sent⟩] = ⟨[⟨3, 0, now + (1 + qs) + longer ⟨3, 0, due, len, sent⟩ (8 + qb), longer ⟨3, 0, due, len, sent⟩ (8 + qb), sent + 1⟩], [3], []⟩) := Lib.hid (by rw [HTK.out, dues_one, dues_again hw hla]; rfl)
        generalize longer ⟨3, 0, due, len, sent⟩ (8 + qb) = lo at l1 l2 HD
        have HS2 := Lib.hid (sent_one ⟨3, 0, now + (1 + qs) + lo, lo, sent + 1⟩)
        have hss : (sent + 1 != sent + 1) = false := by simp
        have hdd : decide (8 + qb + (1 + qs) < now + (1 + qs) - last) = false := by simp; omega
        go_wp2_with (first
          | (go_at_call 9; refine (due_at w.heap.size w2.heap.size v _ _ [3] [] 1 0 (1 + qa) (8 + qb) (1 + qc) 9221120237041090561 (now + (1 + qs)) wr HT.out HFA.out (by omega) (by omega) HD.out rfl rfl).mono ?_; rintro e w5 ⟨Aa, ca, At, ct, vl, rfl, hT5, hOa, hOt, hF5, hvl⟩; obtain ⟨ga, rfl, -, hca⟩ := own_one hOa; have HT5 := Lib.hid hT5; have HF5 := Lib.hid hF5; clear hT5 hOa hOt hF5 hvl)
          | (go_at_call 11; refine (sent_any w.heap.size w2.heap.size vl _ (1 + qa) (8 + qb) (1 + qc) 9221120237041090561 3 w5 HT5.out).mono ?_; rw [HS2.out]; rintro e w6 ⟨rfl, hN6⟩; have HN6 : Hid (New w5 w6) := Lib.hid hN6; clear hN6))
        go_roundw
        case rel => exact ⟨j + 1, sent + 1, now + (1 + qs), now + (1 + qs), now + (1 + qs) + lo, lo, vl, by omega, by go_num, rfl, rfl, rfl, Lib.hid (HT5.out.new HN6.out), by omega, Lib.hid ((tm_new HT.out HN.out hgb HF5.out).tr HN6.out)⟩
        case measure => simp [intOf]; omega
    · exfalso
      omega

section
open Go.ChangeShapes Go.WideShapes
variable {H : Type} {enc : TypeId × Value → H} {w : World}
/-- Three numbers. -/
theorem open_three {r : Reach} {b0 : Nat} {v : Value} {d : DataW H} {p : List MemPlace} (hv : Value.okWide Try.prog w r b0 22 v) (h : DataW.Trod enc Try.prog w 0 (fun _ => true) true 22 v d p) :
    ∃ a b c : Int, v = .agg #[.int .i64 a, .int .i64 b, .int .i64 c] ∧ (Lit.int .i64 a).wf = true ∧ (Lit.int .i64 b).wf = true ∧ (Lit.int .i64 c).wf = true := by
  obtain ⟨cs, rfl, hl, hg⟩ := open_array Try.underlying22 (by kernel_rfl) (by kernel_rfl) hv h
  match cs, hl with
  | [c0, c1, c2], _ =>
    obtain ⟨_, _, t0⟩ := hg 0 (by simp)
    obtain ⟨_, _, t1⟩ := hg 1 (by simp)
    obtain ⟨_, _, t2⟩ := hg 2 (by simp)
    obtain ⟨a0, e0, _, g0⟩ := DataW.trod_int Try.underlying3 t0
    obtain ⟨a1, e1, _, g1⟩ := DataW.trod_int Try.underlying3 t1
    obtain ⟨a2, e2, _, g2⟩ := DataW.trod_int Try.underlying3 t2
    simp at e0 e1 e2
    subst e0 e1 e2
    exact ⟨a0, a1, a2, rfl, g0, g1, g2⟩
end
theorem ends_law {v0 : Value} (o : ∃ a b c : Int, v0 = .agg #[.int .i64 a, .int .i64 b, .int .i64 c] ∧ (Lit.int .i64 a).wf = true ∧ (Lit.int .i64 b).wf = true ∧ (Lit.int .i64 c).wf = true) (st : Int) (hs : (Lit.int .i64 st).wf = true) (w : World) :
    Calls Try.prog 3 #[v0, .int .i64 st] w fun e w' => e = .returned (.bool true) ∧ Below w.heap.size w w' := by
  obtain ⟨a, b, c, rfl, _⟩ := o
  exact ends_walk a b c st w
end Go.Proofs.Ytbgjoohnognagaa
