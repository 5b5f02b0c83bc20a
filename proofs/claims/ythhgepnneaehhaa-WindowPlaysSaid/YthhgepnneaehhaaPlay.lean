/- WindowPlays' walk: for every number and every script it answers true. No condition. -/
import Derived.Test.YthhgepnneaehhaaPlayP
import Derived.Test.YthhgepnneaehhaaAlive
import Derived.Test.YthhgepnneaehhaaActs
import Derived.Deep.CutRange
import Derived.Deep.CutBlock
namespace Go.Proofs.Ythhgepnneaehhaa.Wi
open Go.Proofs.Ythhgepnneaehhaa
open Go.RowKit

theorem full_eq {most : Int} {n : Nat} (h : (n : Int) ≤ most) : (decide (most ≤ (n : Int)) != ((n : Int) == most)) = false := by
  by_cases e : (n : Int) = most
  · simp [e]
  · have : ¬ most ≤ (n : Int) := by omega
    simp [e, this]
theorem full_eq2 {most : Int} {n : Nat} (h : (n : Int) ≤ most) : (!decide (most ≤ (n : Int)) == ((n : Int) == most)) = false := by
  by_cases e : (n : Int) = most
  · simp [e]
  · have : ¬ most ≤ (n : Int) := by omega
    simp [e, this]
theorem pi_act {w wr : World} {g bm : Nat} {most : Int} {v : Value} {L : List Wt} {next : Int} {A : Option Addr} {c : Nat} (h : PI w g bm most wr v L next A c) : ¬ (wr.heap.size = g ∨ v.ownBlock = some wr.heap.size) := by
  rintro (e | e)
  · have := h.win.2.1.lt; omega
  · have := (own_lt h.win.2.2.1 _ e).2; omega
theorem pi_act2 {w wr : World} {g bm : Nat} {most : Int} {v : Value} {L : List Wt} {next : Int} {A : Option Addr} {c : Nat} (h : PI w g bm most wr v L next A c) : ¬ wr.heap.size = bm := fun e => by
  have := h.box.lt; omega
theorem rd_al {B : Nat} {w : World} {size n : Nat} {A : Option Addr} {xs : List Value} (h : Rd (fun b => B ≤ b ∧ b < w.heap.size) w size A n xs) (o : Obj) : Rd (fun b => B ≤ b ∧ b < (w.alloc o).heap.size) (w.alloc o) size A n xs :=
  ((New.al (New.refl w) o).rd h).imp fun k hk => by simp; omega
theorem rd_lt_ {p : Nat → Prop} {w : World} {size n : Nat} {A : Option Addr} {xs : List Value} (h : Rd p w size A n xs) : Rd (fun b => b < w.heap.size) w size A n xs :=
  ⟨h.1, fun hn => by obtain ⟨ad, e, _, hb, hc⟩ := h.2 hn; exact ⟨ad, e, hb, hb, hc⟩⟩
theorem rd_act {p : Nat → Prop} {w : World} {A : Option Addr} {n : Nat} {an : List ActR} (h : Rd p w 3 A n (an.flatMap ActR.cells)) (hL : an.length = n) {i : Nat} (hi : i < n) :
    ∃ (g o : Nat) (hl : i < an.length), A = some ⟨g, o, none⟩ ∧ p g ∧ g < w.heap.size ∧ w.cell? ⟨g, o + i * 3, none⟩ = some (.int .i64 an[i].kind) ∧ w.cell? ⟨g, o + i * 3 + 1, none⟩ = some (.int .u64 an[i].n) ∧ w.cell? ⟨g, o + i * 3 + 2, none⟩ = some (.int .i64 an[i].x) := by
  obtain ⟨g, o, hA, hp, hg, hc⟩ := h.out (by omega) (by omega)
  have hl : i < an.length := by omega
  have key : ∀ j, j < 3 → (an.flatMap ActR.cells)[i * 3 + j]? = (an[i].cells)[j]? := fun j hj => fm_get ActR.cells 3 an i j hl (fun _ _ => rfl) hj
  refine ⟨g, o, hl, hA, hp, hg, ?_, ?_, ?_⟩
  · exact hc (i * 3) _ (by have := key 0 (by omega); rw [Nat.add_zero] at this; rw [this]; rfl)
  · rw [Nat.add_assoc]; exact hc (i * 3 + 1) _ (by rw [key 1 (by omega)]; rfl)
  · rw [Nat.add_assoc]; exact hc (i * 3 + 2) _ (by rw [key 2 (by omega)]; rfl)

set_option maxHeartbeats 40000000 in
set_option maxRecDepth 100000 in
theorem plays_walk (most : Int) (A1 : Option Addr) (n1 c1 : Nat) (an : List ActR) (w : World)
    (h1 : n1 ≤ c1 ∧ c1 ≤ maxLen ∧ an.length = n1 ∧ Rd (fun b => b < w.heap.size) w 3 A1 n1 (an.flatMap ActR.cells)) (hgood : ∀ a ∈ an, a.Good) :
    Calls Try.prog 4 #[.int .i64 most, .slice A1 n1 c1] w fun e w' => e = .returned (.bool true) ∧ New w w' := by
  obtain ⟨hnc1, hcm1, hl1, hR1⟩ := h1
  unfold maxLen at hcm1
  have hL1 := Lib.hid hl1
  have HG := Lib.hid hgood
  have HR1 := Lib.hid hR1
  clear hl1 hgood hR1
  by_cases hbig : 120 < n1
  · as_aux_lemma =>
      go_enter Try.func4, Try.ntmps4
      go_wp2_with fail
      refine (alive_any w).mono ?_
      rintro e w1 ⟨rfl, b1⟩
      go_wp2_with fail
      go_ret
      exact ⟨rfl, b1⟩
  by_cases hb1 : most < 1
  · as_aux_lemma =>
      go_enter Try.func4, Try.ntmps4
      go_wp2_with fail
      refine (alive_any w).mono ?_
      rintro e w1 ⟨rfl, b1⟩
      go_wp2_with (first
        | (go_at_call 12; refine (new_bad most w1 (.inl hb1)).mono ?_; rintro e w2 ⟨rfl, rfl⟩)
        | (go_at_call 13; refine (is_some 1 1 _ (by omega)).mono ?_; rintro e w2 ⟨rfl, rfl⟩))
      go_ret
      exact ⟨rfl, b1⟩
  by_cases hb2 : 1024 < most
  · as_aux_lemma =>
      go_enter Try.func4, Try.ntmps4
      go_wp2_with fail
      refine (alive_any w).mono ?_
      rintro e w1 ⟨rfl, b1⟩
      go_wp2_with (first
        | (go_at_call 12; refine (new_bad most w1 (.inr hb2)).mono ?_; rintro e w2 ⟨rfl, rfl⟩)
        | (go_at_call 13; refine (is_some 1 1 _ (by omega)).mono ?_; rintro e w2 ⟨rfl, rfl⟩))
      go_ret
      exact ⟨rfl, b1⟩
  have hm1 : 1 ≤ most := by omega
  have hm2 : most ≤ 1024 := by omega
  clear hb1 hb2
  have hd1 : decide (most < 1) = false := by simp; omega
  have hd2 : decide (1024 < most) = false := by simp; omega
  go_enter Try.func4, Try.ntmps4
  go_wp2_with fail
  refine (alive_any w).mono ?_
  rintro e w1 ⟨rfl, b1⟩
  go_wp2_with fail
  refine (new_any most w.heap.size w1 (by omega) (by omega) b1.size).mono ?_
  rintro e w2 ⟨rfl, hW2, b2⟩
  have HW2 := Lib.hid hW2
  have HN2 : Hid (New w w2) := Lib.hid (New.tr b1 b2)
  clear hW2 b2
  go_wp2_with fail
  go_loopw [46] (fun i wr => ∃ (k : Nat), k ≤ n1 ∧ i = .int .i64 k ∧ Hid (PInv w w1.heap.size w2.heap.size most k wr)) (fun i _ => n1 - (intOf i).toNat)
  case atStart =>
    refine ⟨0, Nat.zero_le _, rfl, Lib.hid ⟨.slice none 0 0, [], 0, none, 0, ⟨?_, Blk.new w2 _ _, ⟨rfl, fun h => by simp at h⟩, by simp, by simp [maxLen], HN2.out.al _, HN2.out.size⟩, Good.nil most (by omega)⟩⟩
    exact HW2.out.below (New.al (New.refl w2) _)
  case round =>
    obtain ⟨k, hk, rfl, HI⟩ := hrel
    obtain ⟨v, L, next, A, c, hP, hG⟩ := HI.out
    have HP := Lib.hid hP
    have HGD := Lib.hid hG
    clear hP hG
    by_cases hlt : k < n1
    · obtain ⟨g', o, hl, rfl, -, -, e0, e1, e2⟩ := rd_act (New.rd HP.out.new HR1.out) hL1.out hlt
      generalize hx : an[k] = x at e0 e1 e2
      have HX := Lib.hid hx
      clear hx
      obtain ⟨kd, an', ax⟩ := x
      simp only at e0 e1 e2
      go_upto_block 2 with fail
      generalize (IntKind.u64.wrap kd).tmod 4 = q
      obtain ⟨w3, hw3⟩ : ∃ w3 : World, w3 = wr.alloc (.cells #[.int .i64 kd, .int .u64 an', .int .i64 ax] 35) := ⟨_, rfl⟩
      have HB3 : Hid (Blk w3 wr.heap.size 35 #[.int .i64 kd, .int .u64 an', .int .i64 ax]) := Lib.hid (by rw [hw3]; exact Blk.new _ _ _)
      have HN3 : Hid (New wr w3) := Lib.hid (by rw [hw3]; exact New.al (New.refl _) _)
      rw [← hw3]
      clear hw3
      have HP3 : Hid (PI w w1.heap.size w2.heap.size most w3 v L next A c) := Lib.hid (HP.out.later HN3.out)
      go_cut [10, 11, 12, 13, 14, 15, 16, 17, 18, 19, 20, 46] from 46 to 214 (fun s10 s11 s12 s13 s14 s15 s16 s17 s18 s19 s20 s46 wx => s46 = .int .i64 k ∧ Hid (PInv w w1.heap.size w2.heap.size most (k + 1) wx))
      case first =>
        have b0 : w3.cell? ⟨w2.heap.size, 0, none⟩ = some (.slice A L.length c) := HP3.out.box.cell 0
        have b1 : w3.cell? ⟨w2.heap.size, 1, none⟩ = some (.int .u64 next) := HP3.out.box.cell 1
        have a0 : w3.cell? ⟨wr.heap.size, 0, none⟩ = some (.int .i64 kd) := HB3.out.cell 0
        have a1 : w3.cell? ⟨wr.heap.size, 1, none⟩ = some (.int .u64 an') := HB3.out.cell 1
        have a2 : w3.cell? ⟨wr.heap.size, 2, none⟩ = some (.int .i64 ax) := HB3.out.cell 2
        clear e0 e1 e2
        by_cases hq0 : q = 0
        · subst hq0
          as_aux_lemma =>
            have hgdm := HGD.out.most
            by_cases hful : (L.length : Int) = most
            · have hle : ((L.length : Int) == most) = true := by simp [hful]
              have HF : Hid (most ≤ (L.length : Int)) := Lib.hid (by omega)
              clear hful hgdm
              go_wp2_with (first
                | (go_at_call 14; refine (add_full (.int .i64 ax) w.heap.size w1.heap.size v L most next w3 HP3.out.win HF.out).mono ?_; rintro e w4 ⟨rfl, hN4⟩; have c0 := New.cell_ hN4 b0; have HN4 : Hid (New w3 w4) := Lib.hid hN4; clear hN4)
                | (go_at_call 13; refine (is_some 12 12 _ (by omega)).mono ?_; rintro e w5 ⟨rfl, rfl⟩))
              go_meet
              exact ⟨rfl, Lib.hid ⟨_, _, _, _, _, HP3.out.later HN4.out, HGD.out.up⟩⟩
            · have hle : ((L.length : Int) == most) = false := by simpa using hful
              have HF : Hid ((L.length : Int) < most) := Lib.hid (by omega)
              have hnn : (next != next) = false := by simp
              have hlo := HGD.out.lo
              have hhi := HGD.out.hi
              have hlen := HGD.out.len
              clear hful hgdm
              go_wp2_with (first
                | (go_at_call 14; refine (add_any ax w.heap.size w1.heap.size v L most next w3 HP3.out.win HF.out hm2 (by omega)).mono ?_; rintro e w4 ⟨rfl, v4, hW4, hF4, hA4⟩; have hbx := HP3.out.boxOf hF4; have c0 := hbx.cell 0; have c1 := hbx.cell 1; have hac := HB3.out.fr hF4 (pi_act HP.out); have ca := hac.cell 2; have HW4 := Lib.hid hW4; have HF4 := Lib.hid hF4; have HA4 := Lib.hid hA4; have HBX := Lib.hid hbx; have HR4 := Lib.hid (rd_lt_ (HP3.out.rdOf (v' := v) hF4 (fun k hk => .inl hk))); clear hW4 hF4 hA4 hbx hac)
                | (go_at_call 15; refine (Rf.add_any A L.length c next ax L w4 rfl HR4.out (flat_one_cell L (fun x hx => by obtain ⟨t, ht⟩ := HGD.out.th x hx; rw [ht]; rfl)) (by omega) (IntWalk.u64_in _ (by omega))).mono ?_; rintro e w5 ⟨⟨vr, rfl, A5, c5, rfl, hr5, hl5, hm5⟩, hN5⟩; have hb5 := New.blk hN5 HBX.out; have d0 := hb5.cell 0; have d1 := hb5.cell 1; have f0 := hb5.frozen 0; have f1 := hb5.frozen 1; have HR5 := Lib.hid hr5; have HN5 : Hid (New w4 w5) := Lib.hid hN5; have HL5 := Lib.hid hl5; have HM5 := Lib.hid hm5; clear hr5 hN5 hb5 hl5 hm5))
              go_meet
              exact ⟨rfl, Lib.hid ⟨_, _, _, _, _, HP3.out.stored HW4.out HF4.out HA4.out HN5.out (n' := L.length + 1) (by simp) (by have h := HR5.out; rw [List.length_append] at h; exact h) (by have h := HL5.out; rw [List.length_append] at h; exact h) HM5.out, HGD.out.add ax HF.out⟩⟩
        have hb0 : (q == 0) = false := by simpa using hq0
        by_cases hq1 : q = 1
        · subst hq1
          as_aux_lemma =>
            have hlo := HGD.out.lo
            have hhi := HGD.out.hi
            have hlen := HGD.out.len
            have HR3 := Lib.hid (rd_lt_ HP3.out.rd)
            rcases answer_cases L an' ax with ⟨i, hi, hp, hd⟩ | ⟨han, hno⟩
            rotate_left
            · have HAN := Lib.hid han
              have HQ := Lib.hid hno
              clear han hno
              go_wp2_with (first
                | (go_at_call 16; refine (Rf.answer_no A L.length c next an' ax L w3 rfl HR3.out (by omega) HQ.out).mono ?_; rintro e w4 ⟨rfl, hN4⟩; have hb4 := (New.blk hN4 HP3.out.box).alloc (.cells #[.slice A L.length c, .int .u64 next] 49); have d0 := hb4.cell 0; have d1 := hb4.cell 1; have f0 := hb4.frozen 0; have f1 := hb4.frozen 1; have hac := ((New.blk hN4 HB3.out).alloc (.cells #[.slice A L.length c, .int .u64 next] 49)).fr (Fr.set2 (S := fun k => k = w2.heap.size) (Fr.refl _ _) (fun _ => rfl) (.slice A L.length c) (.int .u64 next)) (pi_act2 HP.out); have g1 := hac.cell 1; have g2 := hac.cell 2; have HN4 : Hid (New w3 w4) := Lib.hid hN4; have HP4 : Hid (PI w w1.heap.size w2.heap.size most (((w4.alloc (.cells #[.slice A L.length c, .int .u64 next] 49)).setCell ⟨w2.heap.size, 0, none⟩ (.slice A L.length c)).setCell ⟨w2.heap.size, 1, none⟩ (.int .u64 next)) v L next A c) := Lib.hid (HP3.out.same2 (hN4.al _)); clear hN4 hb4 hac)
                | (go_at_call 17; refine (answer_any an' ax w.heap.size w1.heap.size v L most next _ HP4.out.win).mono ?_; rw [HAN.out]; rintro e w5 ⟨rfl, hW5, hF5⟩; have HW5 := Lib.hid hW5; have HF5 := Lib.hid hF5; clear hW5 hF5))
              go_meet
              exact ⟨rfl, Lib.hid ⟨_, _, _, _, _, HP4.out.written HW5.out (HF5.out.mono fun k _ h => Or.inr h) (fun k hk => .inl hk) rfl, HGD.out.up⟩⟩
            · have HAN := Lib.hid (answerL_some (x := ax) hp hi hd)
              have HQ := Lib.hid (placeI_some hp)
              have HD := Lib.hid hd
              clear hp hd
              go_wp2_with (first
                | (go_at_call 16; refine (answer_yes' A c next an' ax L w3 HR3.out (flat_one_cell L (fun x hx => by obtain ⟨t, ht⟩ := HGD.out.th x hx; rw [ht]; rfl)) (by omega) i hi HQ.out HD.out).mono ?_; rintro e w4 ⟨⟨A4, c4, rfl, hr4, hl4, hm4⟩, hN4⟩; have hb4 := (New.blk hN4 HP3.out.box).alloc (.cells #[.slice A4 L.length c4, .int .u64 next] 49); have d0 := hb4.cell 0; have d1 := hb4.cell 1; have f0 := hb4.frozen 0; have f1 := hb4.frozen 1; have hac := ((New.blk hN4 HB3.out).alloc (.cells #[.slice A4 L.length c4, .int .u64 next] 49)).fr (Fr.set2 (S := fun k => k = w2.heap.size) (Fr.refl _ _) (fun _ => rfl) (.slice A4 L.length c4) (.int .u64 next)) (pi_act2 HP.out); have g1 := hac.cell 1; have g2 := hac.cell 2; have HN4 : Hid (New w3 w4) := Lib.hid hN4; have HR4 := Lib.hid hr4; have HL4 := Lib.hid hl4; have HM4 := Lib.hid hm4; have HW4 : Hid (Win (((w4.alloc (.cells #[.slice A4 L.length c4, .int .u64 next] 49)).setCell ⟨w2.heap.size, 0, none⟩ (.slice A4 L.length c4)).setCell ⟨w2.heap.size, 1, none⟩ (.int .u64 next)) w.heap.size w1.heap.size v L most next) := Lib.hid (win_set2 ((HP3.out.later (HN4.out.al _)).win) HP3.out.gm.1 HP3.out.gm.2 _ _); clear hN4 hb4 hac hr4 hl4 hm4)
                | (go_at_call 17; refine (answer_any an' ax w.heap.size w1.heap.size v L most next _ HW4.out).mono ?_; rw [HAN.out]; rintro e w5 ⟨rfl, hW5, hF5⟩; have HW5 := Lib.hid hW5; have HF5 := Lib.hid hF5; clear hW5 hF5))
              go_meet
              exact ⟨rfl, Lib.hid ⟨_, _, _, _, _, HP3.out.turned HN4.out (List.length_set ..) HR4.out HL4.out HM4.out _ HW5.out HF5.out, HGD.out.answer hi ax⟩⟩
        have hb1 : (q == 1) = false := by simpa using hq1
        by_cases hq2 : q = 2
        · subst hq2
          as_aux_lemma =>
            have hlo := HGD.out.lo
            have hhi := HGD.out.hi
            have hlen := HGD.out.len
            have hnn : (next != next) = false := by simp
            rcases hpl : place L an' with _ | i
            · have HQ := Lib.hid (placeI_none hpl)
              have HPL := Lib.hid hpl
              clear hpl
              go_wp2_with (first
                | (go_at_call 18; refine (renew_none an' (.int .i64 ax) w.heap.size w1.heap.size v L most next w3 HP3.out.win HPL.out).mono ?_; rintro e w4 ⟨rfl, hN4⟩; have hb4 := New.blk hN4 HP3.out.box; have d0 := hb4.cell 0; have d1 := hb4.cell 1; have hac := New.blk hN4 HB3.out; have g1 := hac.cell 1; have g2 := hac.cell 2; have HN4 : Hid (New w3 w4) := Lib.hid hN4; have HR4 := Lib.hid (rd_lt_ (HP3.out.later hN4).rd); clear hN4 hb4 hac)
                | (go_at_call 19; refine (Rf.renew_no A L.length c next an' ax L w4 rfl HR4.out (by omega) HQ.out).mono ?_; rintro e w5 ⟨rfl, hN5⟩; have HN5 : Hid (New w4 w5) := Lib.hid hN5; have hb5 := (New.blk hN5 (New.blk HN4.out HP3.out.box)).alloc (.cells #[.slice A L.length c, .int .u64 next] 49); have m0 := hb5.cell 0; have m1 := hb5.cell 1; have f0 := hb5.frozen 0; have f1 := hb5.frozen 1; have HP4 : Hid (PI w w1.heap.size w2.heap.size most (((w5.alloc (.cells #[.slice A L.length c, .int .u64 next] 49)).setCell ⟨w2.heap.size, 0, none⟩ (.slice A L.length c)).setCell ⟨w2.heap.size, 1, none⟩ (.int .u64 next)) v L next A c) := Lib.hid (HP3.out.same2 ((HN4.out.tr HN5.out).al _)); clear hN5 hb5)
                | (go_at_call 13; refine (is_some 11 11 _ (by omega)).mono ?_; rintro e w6 ⟨rfl, rfl⟩))
              go_meet
              exact ⟨rfl, Lib.hid ⟨_, _, _, _, _, HP4.out, HGD.out.up⟩⟩
            · obtain ⟨hi, _⟩ := place_lt hpl
              have HQ := Lib.hid (placeI_some hpl)
              have HPL := Lib.hid hpl
              clear hpl
              go_wp2_with (first
                | (go_at_call 18; refine (renew_some an' ax i w.heap.size w1.heap.size v L most next w3 HP3.out.win HPL.out (by omega)).mono ?_; rintro e w4 ⟨rfl, hW4, hF4⟩; have hbx := HP3.out.boxOf hF4; have d0 := hbx.cell 0; have d1 := hbx.cell 1; have hac := HB3.out.fr hF4 (pi_act HP.out); have g1 := hac.cell 1; have g2 := hac.cell 2; have HW4 := Lib.hid hW4; have HF4 := Lib.hid hF4; have HBX := Lib.hid hbx; have HR4 := Lib.hid (rd_lt_ (HP3.out.rdOf (v' := v) hF4 (fun k hk => .inl hk))); clear hW4 hF4 hbx hac)
                | (go_at_call 19; refine (renew_yes' A c next an' ax L w4 HR4.out (flat_one_cell L (fun x hx => by obtain ⟨t, ht⟩ := HGD.out.th x hx; rw [ht]; rfl)) (by omega) i hi HQ.out (IntWalk.u64_in _ (by omega))).mono ?_; rintro e w5 ⟨⟨A5, c5, rfl, hr5, hl5, hm5⟩, hN5⟩; have hb5 := (New.blk hN5 HBX.out).alloc (.cells #[.slice A5 L.length c5, .int .u64 (next + 1)] 49); have m0 := hb5.cell 0; have m1 := hb5.cell 1; have f0 := hb5.frozen 0; have f1 := hb5.frozen 1; have HN5 : Hid (New w4 w5) := Lib.hid hN5; have HR5 := Lib.hid hr5; have HL5 := Lib.hid hl5; have HM5 := Lib.hid hm5; clear hr5 hN5 hb5 hl5 hm5))
              go_meet
              exact ⟨rfl, Lib.hid ⟨_, _, _, _, _, HP3.out.stored HW4.out HF4.out (fun k hk => .inl hk) (HN5.out.al _) (List.length_set ..) (rd_al HR5.out _) HL5.out HM5.out, HGD.out.renew hi ax⟩⟩
        have hb2 : (q == 2) = false := by simpa using hq2
        as_aux_lemma =>
          rcases L with _ | ⟨x, r⟩
          · go_wp2_with (go_at_call 20; refine (next_none w.heap.size w1.heap.size v [] most next w3 HP3.out.win rfl).mono ?_; rintro e w4 ⟨rfl, hN4⟩; have d0 := New.cell_ hN4 b0; have HN4 : Hid (New w3 w4) := Lib.hid hN4; clear hN4)
            go_meet
            exact ⟨rfl, Lib.hid ⟨_, _, _, _, _, HP3.out.later HN4.out, HGD.out.up⟩⟩
          · obtain ⟨g5, o5, hl5, rfl, -, -, k0, k1, k2, k3⟩ := rd_elem HP3.out.rd (i := 0) (by simp)
            have hr1 : (0 : Int) < (r.length : Int) + 1 := by omega
            cases hd : x.done
            · have k3' : w3.cell? ⟨g5, o5 + 3, none⟩ = some (.bool false) := by simpa [hd] using k3
              have HD : Hid ((nextL (x :: r)).2 = none) := Lib.hid (by simp [nextL, hd])
              clear k0 k1 k2 k3 hd
              go_wp2_with (go_at_call 20; refine (next_none w.heap.size w1.heap.size v (x :: r) most next w3 HP3.out.win HD.out).mono ?_; rintro e w4 ⟨rfl, hN4⟩; have d0 := New.cell_ hN4 b0; have d3 := New.cell_ hN4 k3'; have HN4 : Hid (New w3 w4) := Lib.hid hN4; clear hN4)
              go_meet
              exact ⟨rfl, Lib.hid ⟨_, _, _, _, _, HP3.out.later HN4.out, HGD.out.up⟩⟩
            · obtain ⟨t, ht⟩ := HGD.out.th x (by simp)
              obtain ⟨xn, xt, xd, xo⟩ := x
              simp only at hd ht
              subst hd ht
              have HONE : Hid (∀ y ∈ r, y.thing.oneCell' = true) := Lib.hid (fun y hy => by obtain ⟨t, ht⟩ := HGD.out.th y (List.mem_cons_of_mem _ hy); rw [ht]; rfl)
              have hlc : r.length + 1 ≤ c := HP3.out.lc
              have hcm : c ≤ 9223372036854775807 := by have := HP3.out.cm; unfold maxLen at this; omega
              have htt : (t != t) = false := by simp
              have hxx : (xd != xd) = false := by simp
              clear k0 k1 k2 k3
              by_cases hc1 : c = 1
              · subst hc1
                have hr0 : r = [] := List.eq_nil_of_length_eq_zero (by omega)
                subst hr0
                go_wp2_with (go_at_call 20; refine (next_some w.heap.size w1.heap.size v xn xd t [] most next w3 HP3.out.win HONE.out).mono ?_; rintro e w4 ⟨rfl, v4, hW4, hv4, hF4⟩; have hbx := HP3.out.boxOf hF4; have d0 := hbx.cell 0; have d0f := hbx.frozen 0; obtain ⟨_, _, _, he, -, -, j0, j1, j2, j3⟩ := rd_elem (HP3.out.rdOf (v' := v) hF4 (fun k hk => .inl hk)) (i := 0) (by simp); injection he with he; injection he with he1 he2; subst he1 he2; have j1' : w4.cell? ⟨g5, o5 + 1, none⟩ = some (.int .i64 t) := (by simpa using j1); have j2' : w4.cell? ⟨g5, o5 + 2, none⟩ = some (.int .i64 xd) := (by simpa using j2); have j3' : w4.cell? ⟨g5, o5 + 3, none⟩ = some (.bool true) := (by simpa using j3); have HW4 := Lib.hid hW4; have HV4 := Lib.hid hv4; have HF4 := Lib.hid hF4; clear hW4 hv4 hF4 hbx j0 j1 j2 j3)
                go_meet
                exact ⟨rfl, Lib.hid ⟨_, _, _, _, _, HP3.out.taken (A' := some ⟨g5, o5, none⟩) HW4.out HF4.out HV4.out (by simp), HGD.out.next⟩⟩
              · have hc2 : (1 : Int) ≤ (c : Int) := by omega
                go_wp2_with (go_at_call 20; refine (next_some w.heap.size w1.heap.size v xn xd t r most next w3 HP3.out.win HONE.out).mono ?_; rintro e w4 ⟨rfl, v4, hW4, hv4, hF4⟩; have hbx := HP3.out.boxOf hF4; have d0 := hbx.cell 0; have d0f := hbx.frozen 0; obtain ⟨_, _, _, he, -, -, j0, j1, j2, j3⟩ := rd_elem (HP3.out.rdOf (v' := v) hF4 (fun k hk => .inl hk)) (i := 0) (by simp); injection he with he; injection he with he1 he2; subst he1 he2; have j1' : w4.cell? ⟨g5, o5 + 1, none⟩ = some (.int .i64 t) := (by simpa using j1); have j2' : w4.cell? ⟨g5, o5 + 2, none⟩ = some (.int .i64 xd) := (by simpa using j2); have j3' : w4.cell? ⟨g5, o5 + 3, none⟩ = some (.bool true) := (by simpa using j3); have HW4 := Lib.hid hW4; have HV4 := Lib.hid hv4; have HF4 := Lib.hid hF4; clear hW4 hv4 hF4 hbx j0 j1 j2 j3)
                go_meet
                exact ⟨rfl, Lib.hid ⟨_, _, _, _, _, HP3.out.taken (A' := some ⟨g5, o5 + 4, none⟩) HW4.out HF4.out HV4.out (by simp [hc1, Addr.add]), HGD.out.next⟩⟩
      case rest =>
        as_aux_lemma =>
          obtain ⟨rfl, HI5⟩ := hcut
          clear HP HGD HP3 HB3 HN3 e0 e1 e2 HI
          obtain ⟨v5, L5, next5, A5, c5, hP, hG⟩ := HI5.out
          have HP : Hid (PI w w1.heap.size w2.heap.size most wc.drew v5 L5 next5 A5 c5) := Lib.hid (hP.later (New.dr (New.refl _)))
          have HGD := Lib.hid hG
          have b0 : wc.cell? ⟨w2.heap.size, 0, none⟩ = some (.slice A5 L5.length c5) := hP.box.cell 0
          have b1 : wc.cell? ⟨w2.heap.size, 1, none⟩ = some (.int .u64 next5) := hP.box.cell 1
          have b0d : wc.drew.cell? ⟨w2.heap.size, 0, none⟩ = some (.slice A5 L5.length c5) := b0
          have b1d : wc.drew.cell? ⟨w2.heap.size, 1, none⟩ = some (.int .u64 next5) := b1
          have hfl : (decide (most ≤ (L5.length : Int)) != ((L5.length : Int) == most)) = false := full_eq hG.most
          have hfl2 : (!decide (most ≤ (L5.length : Int)) == ((L5.length : Int) == most)) = false := full_eq2 hG.most
          clear hP hG HI5
          go_wp2_with fail
          go_region_held3 (fun w' => w'.cell? ⟨w2.heap.size, 0, none⟩ = some (.slice A5 L5.length c5) ∧ w'.cell? ⟨w2.heap.size, 1, none⟩ = some (.int .u64 next5))
            (go_keep)
            (first
              | (go_at_call 21; refine (same_any w.heap.size w1.heap.size v5 L5 most next5 A5 L5.length c5 wc.drew HP.out.win HGD.out.th HGD.out.nd HGD.out.none rfl (by have := HGD.out.len; omega) (rd_lt_ HP.out.rd)).mono ?_; rintro e w6 ⟨rfl, hN6⟩; have m0 := New.cell_ hN6 b0d; have m1 := New.cell_ hN6 b1d; have HP6 := Lib.hid (HP.out.later hN6); clear hN6)
              | (go_at_call 22; refine (full_any w.heap.size w1.heap.size v5 L5 most next5 w6 HP6.out.win).mono ?_; rintro e w7 ⟨rfl, hN7⟩; have m2 := New.cell_ hN7 m0; have m3 := New.cell_ hN7 m1; have HP7 := Lib.hid (HP6.out.later hN7); clear hN7))
          all_goals
            go_wp2_with fail
            go_roundw
            case rel => exact ⟨k + 1, by omega, by go_num, Lib.hid ⟨_, _, _, _, _, HP7.out, HGD.out⟩⟩
            case measure => simp [intOf]; omega
    · obtain rfl : k = n1 := by omega
      go_wp2_with fail
      go_ret
      exact ⟨rfl, HP.out.new⟩
end Go.Proofs.Ythhgepnneaehhaa.Wi
namespace Go.Proofs.Ythhgepnneaehhaa
open Go.RowKit
theorem plays_law (most : Int) (hm : (Lit.int .i64 most).wf = true) (A1 : Option Addr) (n1 c1 : Nat) (an : List ActR) (w : World)
    (h1 : n1 ≤ c1 ∧ c1 ≤ maxLen ∧ an.length = n1 ∧ Rd (fun b => b < w.heap.size) w 3 A1 n1 (an.flatMap ActR.cells) ∧ ∀ a ∈ an, a.Good) :
    Calls Try.prog 4 #[.int .i64 most, .slice A1 n1 c1] w fun e w' => e = .returned (.bool true) ∧ Below w.heap.size w w' :=
  Wi.plays_walk most A1 n1 c1 an w ⟨h1.1, h1.2.1, h1.2.2.1, h1.2.2.2.1⟩ h1.2.2.2.2
end Go.Proofs.Ythhgepnneaehhaa
