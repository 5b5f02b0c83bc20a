/- DiskPlays' walk. No condition. -/
import Derived.Test.YtpdgnidoglmgcaaDoC
import Derived.Test.YtpdgnidoglmgcaaDkK
namespace Go.Proofs.Ytpdgnidoglmgcaa
open Go.RowKit Go.Maps

def sec123 : List Int := 1 :: 2 :: 3 :: List.replicate 61 0
theorem sec123_ok : SecOk sec123 := ⟨by simp [sec123], fun x hx => by simp [sec123] at hx; omega⟩
/-- The disk and the document's, at a round. -/
def PL (base : Nat) (w : World) (g bs bf G n : Nat) (wr : World) : Prop := ∃ v p r A1 c1 A2 c2, Dk wr base g bs bf v p ∧ RfIn wr r A1 A2 ∧ Mt p r ∧ r.tot ≤ n ∧ Blk wr G 48 (RfV r A1 c1 A2 c2) ∧ New w wr
theorem RfIn.nil (w : World) (n : Int) : RfIn w (RP.new n) none none := ⟨RdT.nil, RdT.nil, ⟨by simp [RP.new], by simp [RP.new]⟩⟩

set_option maxHeartbeats 8000000 in
set_option maxRecDepth 100000 in
theorem plays_walk (N : Int) (hN : (Lit.int .i64 N).wf = true) (A : Option Addr) (n c : Nat) (L : List AC) (w : World) (hL : L.length = n) (hn : n ≤ maxLen) (hR : Rd (fun b => b < w.heap.size) w 67 A n (L.flatMap AC.cells)) (hg : ∀ a ∈ L, a.Good w) :
    Calls Try.prog 4 #[.int .i64 N, .slice A n c] w fun e w' => e = .returned (.bool true) ∧ New w w' := by
  have HR := Lib.hid hR
  have HL := Lib.hid hL
  have HG := Lib.hid hg
  have hNb := bounds_i64 hN
  unfold maxLen at hn
  clear hR hL hg hN
  go_enter Try.func4, Try.ntmps4
  go_wp2_with fail
  refine (alive_any w).mono ?_
  rintro e w1 ⟨rfl, hN1⟩
  have HN1 := Lib.hid hN1
  clear hN1
  by_cases hbig : 60 < n
  · have t1 : decide ((60 : Int) < (n : Int)) = true := decide_eq_true (by omega)
    go_wp2_with fail
    go_ret
    exact ⟨rfl, HN1.out⟩
  have t1 : decide ((60 : Int) < (n : Int)) = false := decide_eq_false (by omega)
  by_cases hr : 1 ≤ N ∧ N ≤ 16384
  rotate_left
  · by_cases hlow : N < 1
    · go_wp2_with fail
      refine (new_bad N w1 hr).mono ?_
      rintro e w' ⟨rfl, rfl⟩
      go_wp2_with fail
      refine (is_err 1 1 w1 rfl).mono ?_
      rintro e w' ⟨rfl, rfl⟩
      go_wp2_with fail
      go_ret
      exact ⟨rfl, HN1.out⟩
    · have hhi : 16384 < N := by omega
      go_wp2_with fail
      refine (new_bad N w1 hr).mono ?_
      rintro e w' ⟨rfl, rfl⟩
      clear hr
      go_wp2_with fail
      refine (is_err 1 1 w1 rfl).mono ?_
      rintro e w' ⟨rfl, rfl⟩
      go_wp2_with fail
      go_ret
      exact ⟨rfl, HN1.out⟩
  obtain ⟨m, rfl⟩ : ∃ m : Nat, N = m := ⟨N.toNat, by omega⟩
  obtain ⟨hm1, hm2⟩ := hr
  have hm1 : 1 ≤ m := by omega
  have hm2 : m ≤ 16384 := by omega
  go_wp2_with fail
  refine (new_ok m w1 w1.heap.size (Nat.le_refl _) hm1 hm2).mono ?_
  rintro e w2 ⟨rfl, hD2, hN2⟩
  have HD2 := Lib.hid hD2
  have HN2 : Hid (New w w2) := Lib.hid (HN1.out.tr hN2)
  clear hD2 hN2
  obtain ⟨g, hg⟩ : ∃ g, g = w1.heap.size + 2 := ⟨_, rfl⟩
  obtain ⟨bs, hbs⟩ : ∃ g, g = w1.heap.size := ⟨_, rfl⟩
  obtain ⟨bf, hbf⟩ : ∃ g, g = w1.heap.size + 1 := ⟨_, rfl⟩
  have HD2 : Hid (Dk w2 w1.heap.size g bs bf (.slice none 0 0) (DP.new m)) := Lib.hid (by rw [hg, hbs, hbf]; exact HD2.out)
  rw [← hg]
  obtain ⟨base, hbase⟩ : ∃ b, b = w1.heap.size := ⟨_, rfl⟩
  rw [← hbase] at HD2
  have hb0 : w.heap.size ≤ base := by rw [hbase]; exact HN1.out.size
  clear hg hbs hbf hbase
  have hz1 : decide ((m : Int) < 1) = false := decide_eq_false (by omega)
  have hz2 : decide ((16384 : Int) < (m : Int)) = false := decide_eq_false (by omega)
  go_wp2_with fail
  refine (rnew_any (m : Int) w2).mono ?_
  rintro e w3 ⟨rfl, hN3⟩
  have HD3 := Lib.hid (HD2.out.new hN3)
  have HN3 : Hid (New w w3) := Lib.hid (HN2.out.tr hN3)
  clear hN3 HD2 HN2
  obtain ⟨w4, hw4⟩ : ∃ w4 : World, w4 = w3.alloc (.cells (RfV (RP.new m) none 0 none 0) 48) := ⟨_, rfl⟩
  obtain ⟨G, hG⟩ : ∃ G, G = w3.heap.size := ⟨_, rfl⟩
  have HW4 : Hid (w3.alloc (.cells (RfV (RP.new m) none 0 none 0) 48) = w4) := Lib.hid hw4.symm
  have HGE : Hid (w3.heap.size = G) := Lib.hid hG.symm
  have hGw : w.heap.size ≤ G := by rw [hG]; exact HN3.out.size
  have HB4 : Hid (Blk w4 G 48 (RfV (RP.new m) none 0 none 0)) := Lib.hid (by rw [hw4, hG]; exact Blk.new _ _ _)
  have HN4 : Hid (New w3 w4) := Lib.hid (by rw [hw4]; exact New.al (New.refl _) _)
  clear hw4 hG
  have hlast : PL base w g bs bf G 0 w4 := ⟨_, _, RP.new m, none, 0, none, 0, HD3.out.new HN4.out, RfIn.nil _ _, Mt.new m, Nat.le_refl _, HB4.out, HN3.out.tr HN4.out⟩
  have HPL := Lib.hid hlast
  clear hlast
  go_wp2_with ((with_reducible refine atOp ⟨some 7, .alloc _, _, _, _, _⟩ ?_); refine wpList_newrow (C := RfV (RP.new m) none 0 none 0) rfl rfl rfl _ _ rfl rInfo rfl rfl rfl rfl (rf_one _ _ _ _ _ _ _ _ _) ?_; rw [HW4.out, HGE.out])
  go_loopw [39] (fun i wr => ∃ (j : Nat), j ≤ n ∧ i = .int .i64 j ∧ Hid (PL base w g bs bf G j wr)) (fun i _ => n - (intOf i).toNat)
  case atStart => exact ⟨0, Nat.zero_le _, rfl, HPL⟩
  case round =>
    obtain ⟨j, hj, rfl, HLD⟩ := hrel
    clear HPL HD3 HN3 HN4 HB4 HW4 HGE
    by_cases hlt : j < n
    · as_aux_lemma =>
      obtain ⟨v, p, r, A1, c1, A2, c2, hD, hI, hM, ht, hB, hN⟩ := HLD.out
      obtain ⟨gA, oA, hl, rfl, hgA, hra⟩ := rd_act (hN.rd HR.out) HL.out (fun a ha => (HG.out a ha).s) hlt
      have ha := HG.out L[j] (List.getElem_mem _)
      generalize L[j] = ac at hra ha
      have HI := Lib.hid hI
      have HM := Lib.hid hM
      have HT := Lib.hid ht
      have HN := Lib.hid hN
      have HA := Lib.hid ha
      have HRA := Lib.hid hra
      obtain ⟨w5, hw5⟩ : ∃ w5 : World, w5 = wr.alloc (.cells ac.cells.toArray 33) := ⟨_, rfl⟩
      have HN5 : Hid (New wr w5) := Lib.hid (by rw [hw5]; exact New.al (New.refl _) _)
      have hb5 : Blk w5 wr.heap.size 33 ac.cells.toArray := by rw [hw5]; exact Blk.new _ _ _
      have HD5 := Lib.hid (hD.new HN5.out)
      have HB5 := Lib.hid (New.blk HN5.out hB)
      have k66 : w5.cell? ⟨wr.heap.size, 66, none⟩ = some (.slice ac.A ac.n ac.c) := by rw [hb5.cell 66]; simpa using AC.at66 HA.out.s
      have HC5 : Hid (w5.rangeAt wr.heap.size 0 ac.cells) := Lib.hid (fun j u hu => by rw [hb5.cell (0 + j)]; simpa using hu)
      have HW5 : Hid (wr.alloc (.cells ac.cells.toArray 33) = w5) := Lib.hid hw5.symm
      clear hD hN ha hra hb5 hw5 HLD hI hM ht hB
      by_cases h100 : 100 < ac.n
      · have t2 : decide ((100 : Int) < (ac.n : Int)) = true := decide_eq_true (by omega)
        go_wp2_with (first
          | ((with_reducible refine atOp ⟨some 42, .load _ _, _, _, _, _⟩ ?_); refine wpList_load_range rfl _ rfl rfl HRA.out Try.underlying33 rfl (by rw [AC.len HA.out.s]; rfl) ?_)
          | ((with_reducible refine atOp ⟨some 9, .alloc _, _, _, _, _⟩ ?_); refine wpList_newrow (C := ac.cells.toArray) rfl rfl rfl _ _ rfl actInfo rfl rfl rfl (by simp [AC.len HA.out.s]) (all_oneCell_toArray ac.one) ?_; rw [HW5.out]))
        go_ret
        exact ⟨rfl, HN.out.tr HN5.out⟩
      have t2 : decide ((100 : Int) < (ac.n : Int)) = false := decide_eq_false (by omega)
      go_wp2_with (first
        | ((with_reducible refine atOp ⟨some 42, .load _ _, _, _, _, _⟩ ?_); refine wpList_load_range rfl _ rfl rfl HRA.out Try.underlying33 rfl (by rw [AC.len HA.out.s]; rfl) ?_)
        | ((with_reducible refine atOp ⟨some 9, .alloc _, _, _, _, _⟩ ?_); refine wpList_newrow (C := ac.cells.toArray) rfl rfl rfl _ _ rfl actInfo rfl rfl rfl (by simp [AC.len HA.out.s]) (all_oneCell_toArray ac.one) ?_; rw [HW5.out])
        | ((with_reducible refine atOp ⟨some 49, .load _ _, _, _, _, _⟩ ?_); refine wpList_load_any rfl _ rfl Try.underlying48 rfl rfl rfl HB5.out ?_)
        | ((with_reducible refine atOp ⟨some 50, .load _ _, _, _, _, _⟩ ?_); refine wpList_load_range rfl _ rfl rfl HC5.out Try.underlying33 rfl (by rw [AC.len HA.out.s]; rfl) ?_))
      refine (do_any (wb := w) HD5.out r A1 c1 A2 c2 (HI.out.new HN5.out) HM.out (by have := HT.out; omega) ac HA.out (HN.out.tr HN5.out) hb0).mono ?_
      rintro e w6 ⟨v', p', r', B1, d1, B2, d2, rfl, hD6, hI6, hM6, ht6, hF6⟩
      have HB6 := Lib.hid (HB5.out.fr hF6 (dk_notB HD5.out HB5.out))
      have HN6 : Hid (New w w6) := Lib.hid ((HN.out.tr HN5.out).fr hF6 (fun k hk => by have := (HD5.out.ours k hk).1; omega))
      have HI6 := Lib.hid hI6
      have HD6 := Lib.hid hD6
      have HM6 := Lib.hid hM6
      have HT6 : Hid (r'.tot ≤ j + 1) := Lib.hid (by have := HT.out; omega)
      clear hI6 hD6 hM6 ht6 hF6 k66
      obtain ⟨w7, hw7⟩ : ∃ w7 : World, w7 = w6.alloc (.cells (RfV r' B1 d1 B2 d2) 48) := ⟨_, rfl⟩
      have HW7 : Hid (w6.alloc (.cells (RfV r' B1 d1 B2 d2) 48) = w7) := Lib.hid hw7.symm
      have HN7 : Hid (New w6 w7) := Lib.hid (by rw [hw7]; exact New.al (New.refl _) _)
      have HB7 : Hid (Blk w7 w6.heap.size 48 (RfV r' B1 d1 B2 d2)) := Lib.hid (by rw [hw7]; exact Blk.new _ _ _)
      have HG7 := Lib.hid (New.blk HN7.out HB6.out)
      clear hw7
      go_wp2_with (first
        | ((with_reducible refine atOp ⟨some 10, .alloc _, _, _, _, _⟩ ?_); refine wpList_newrow (C := RfV r' B1 d1 B2 d2) rfl rfl rfl _ _ rfl rInfo rfl rfl rfl rfl (rf_one _ _ _ _ _ _ _ _ _) ?_; rw [HW7.out])
        | ((with_reducible refine atOp ⟨some 56, .load _ _, _, _, _, _⟩ ?_); refine wpList_load_any rfl _ rfl Try.underlying48 rfl rfl rfl HB7.out ?_)
        | ((with_reducible refine atOp ⟨none, .store 48 (.tmp 7) _, _, _, _, _⟩ ?_); refine wpList_store_any rfl (.tmp 7) (.tmp 56) rfl rfl rfl rfl HG7.out rfl (rf_one _ _ _ _ _ _ _ _ _) ?_; intro w8 hb8 hf8; have HB8 := Lib.hid hb8; have HF8 := Lib.hid hf8; clear hb8 hf8))
      go_roundw
      case rel =>
        exact ⟨j + 1, by omega, by go_num, Lib.hid ⟨v', p', r', B1, d1, B2, d2, (HD6.out.new HN7.out).fr HF8.out (fun k hk => by subst hk; exact dk_notB (HD6.out.new HN7.out) HG7.out), (HI6.out.new HN7.out).fr HF8.out (fun k hk => by subst hk; exact IsT.not_blk HG7.out (by decide)), HM6.out, HT6.out, HB8.out,
          (HN6.out.tr HN7.out).fr HF8.out (fun k hk => by subst hk; have := hGw; omega)⟩⟩
      case measure => simp [intOf]; omega
    · as_aux_lemma =>
      obtain rfl : j = n := by omega
      obtain ⟨v, p, r, A1, c1, A2, c2, hD, hI, hM, ht, hB, hN⟩ := HLD.out
      have HD := Lib.hid hD
      have HI := Lib.hid hI
      have HM := Lib.hid hM
      have HT : Hid (r.tot ≤ 100000) := Lib.hid (by omega)
      have HB := Lib.hid hB
      have HN := Lib.hid hN
      clear hD hI hM ht hB hN HLD
      go_wp2_with fail
      refine (dcopy_in HD.out).mono ?_
      rintro e w3 ⟨⟨g2, bs2, bf2, v2, rfl, hL3⟩, hN3⟩
      have HC3 := Lib.hid hL3
      have HD3 := Lib.hid (HD.out.new hN3)
      have HI3 := Lib.hid (HI.out.new hN3)
      have HB3 := Lib.hid (New.blk hN3 HB.out)
      have HN3 : Hid (New w w3) := Lib.hid (HN.out.tr hN3)
      have HNr3 := Lib.hid hN3
      clear hL3 hN3
      go_wp2_with ((with_reducible refine atOp ⟨some 61, .load _ _, _, _, _, _⟩ ?_); refine wpList_load_any rfl _ rfl Try.underlying48 rfl rfl rfl HB3.out ?_)
      refine (same_any HD3.out r A1 c1 A2 c2 HI3.out HM.out HT.out).mono ?_
      rintro e w4 ⟨rfl, hN4⟩
      have HN4 := Lib.hid hN4
      have HB4 := Lib.hid (New.blk hN4 HB3.out)
      clear hN4
      go_wp2_with ((with_reducible refine atOp ⟨some 66, .load _ _, _, _, _, _⟩ ?_); refine wpList_load_any rfl _ rfl Try.underlying48 rfl rfl rfl HB4.out ?_)
      refine (same_any (HC3.out.new HN4.out) r A1 c1 A2 c2 (HI3.out.new HN4.out) HM.out HT.out).mono ?_
      rintro e w5 ⟨rfl, hN5⟩
      have HN5 : Hid (New w3 w5) := Lib.hid (HN4.out.tr hN5)
      have HC5 := Lib.hid (HC3.out.new HN5.out)
      clear hN5 HN4 HB4
      go_wp2_with fail
      refine (cut_in HC5.out (q := NoB) none 0 0 [] Rd.nil (by omega) (fun k hk => hk.elim)).mono ?_
      rintro e w6 ⟨rfl, hC6, hF6⟩
      have HC6 := Lib.hid hC6
      have HF6 := Lib.hid hF6
      clear hC6 hF6
      go_wp2_with fail
      refine (write_all HC6.out 0 sec123_ok).mono ?_
      rintro e w7 ⟨rfl, v7, hC7, hF7, -⟩
      have HO : Hid (∀ k, DkOurs g2 bs2 bf2 v2 k → wr.heap.size ≤ k) := Lib.hid fun k hk => (HC3.out.ours k hk).1
      have HO6 : Hid (∀ k, DkOurs g2 bs2 bf2 (.slice none 0 0) k → wr.heap.size ≤ k) := Lib.hid fun k hk => (HC6.out.ours k hk).1
      have HNr5 : Hid (New wr w5) := Lib.hid (HNr3.out.tr HN5.out)
      have HNr6 : Hid (New wr w6) := Lib.hid (HNr5.out.fr HF6.out (fun k hk => HO6.out k (three_ours hk)))
      have HNr7 : Hid (New wr w7) := Lib.hid (HNr6.out.fr hF7 (fun k hk => HO6.out k hk))
      have HB7 := Lib.hid (New.blk HNr7.out HB.out)
      clear hC7 hF7
      go_wp2_with ((with_reducible refine atOp ⟨some 76, .load _ _, _, _, _, _⟩ ?_); refine wpList_load_any rfl _ rfl Try.underlying48 rfl rfl rfl HB7.out ?_)
      refine (same_any (HD.out.new HNr7.out) r A1 c1 A2 c2 (HI.out.new HNr7.out) HM.out HT.out).mono ?_
      rintro e w8 ⟨rfl, hN8⟩
      have HN8 : Hid (New w w8) := Lib.hid ((HN.out.tr HNr7.out).tr hN8)
      clear hN8
      go_wp2_with fail
      go_ret
      exact ⟨rfl, HN8.out⟩
theorem plays_law (n0 : Int) {v1 : Value} {w : World} (hn0 : (Lit.int .i64 n0).wf = true) (o1 : ∃ (A : Option Addr) (n c : Nat) (L : List AC), v1 = .slice A n c ∧ n ≤ maxLen ∧ L.length = n ∧ Rd (fun b => b < w.heap.size) w 67 A n (L.flatMap AC.cells) ∧ ∀ a ∈ L, a.Good w) : Calls Try.prog 4 #[.int .i64 n0, v1] w fun e w' => e = .returned (.bool true) ∧ Below w.heap.size w w' := by
  obtain ⟨A, n, c, L, rfl, hn, hL, hR, hg⟩ := o1
  exact plays_walk n0 hn0 A n c L w hL hn hR hg
end Go.Proofs.Ytpdgnidoglmgcaa
