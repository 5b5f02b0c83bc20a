/- Texts of one proof, one behind the other: RcN, NrB, NrA, Pre. No condition but each one's own. -/
import Derived.Test.YtdojmjglnlkmoaaDoorRecordFirstM18
import Derived.Test.YtdojmjglnlkmoaaDoorRecordFirstM15
import Derived.Test.YtdojmjglnlkmoaaDoorRecordFirstM16
import Derived.Test.YtdojmjglnlkmoaaDoorRecordFirstM10
import Derived.Test.YtdojmjglnlkmoaaDoorRecordFirstM3
import Derived.Test.YtdojmjglnlkmoaaDoorRecordFirstM7
/- The chapter's example. sha's tables are as they were laid. No condition else. -/
namespace Go.Proofs.YtdojmjglnlkmoaaDoor
set_option linter.unusedVariables false
set_option linter.unusedSimpArgs false
set_option linter.constructorNameAsVariable false
open Go.RowKit Go.Sort

set_option maxHeartbeats 2000000
set_option maxRecDepth 100000
theorem alive_any (W : World) (hL : ShaIn 3 2 W) : Calls Tryd.prog 7 #[] W fun e w' => e = .returned (.bool true) ∧ New W w' := by
  have HL := Lib.hid hL
  have HF : Hid ((fstR 3).Ok ∧ (fstR 3).Right) := Lib.hid ⟨fstR_ok (by omega), fstR_right (by omega) (by omega)⟩
  have hst := (Kst.new (n := 4) (by omega) (by omega))
  have ho := hst.toKop.opens
  have hsv := hst.save (show (-1 : Int) ≠ 0 ∧ (-1 : Int) ≠ 1 by omega) HF.out.1 (by show 0 < _; omega)
  rw [if_pos HF.out.2] at hsv
  obtain ⟨s1, s2, s3, -⟩ := hsv
  have HO := Lib.hid ho
  have HSV : Hid ((saveP (DP.new 4) KR.new (fstR 3)).2.2 = 0 ∧ (saveP (DP.new 4) KR.new (fstR 3)).2.1 = ⟨1, fstR 3, false⟩ ∧ Kst (saveP (DP.new 4) KR.new (fstR 3)).1 ⟨1, fstR 3, false⟩) := Lib.hid ⟨s1, s2, s3⟩
  have HSZ : Hid ((fstR 3).cells.size = 37) := Lib.hid (Rc.size HF.out.1.len)
  obtain ⟨r, hr⟩ : ∃ r, r = fstR 3 := ⟨_, rfl⟩
  have HR := Lib.hid hr
  rw [← hr] at HF HSV HSZ
  obtain ⟨p1, hp1⟩ : ∃ p1, p1 = (saveP (DP.new 4) KR.new r).1 := ⟨_, rfl⟩
  have HP1 := Lib.hid hp1
  rw [← hp1] at HSV
  clear hL hst ho s1 s2 s3 hr hp1
  go_enter Tryd.func7, Tryd.ntmps7
  go_wp2_with fail
  refine (dnew_d (New.refl W) 4 (by omega) (by omega)).mono ?_
  rintro e w1 ⟨gd, rfl, hD, hN⟩
  have HD := Lib.hid hD
  clear hD hN
  go_wp2_with fail
  refine (first_ok 3 w1 (HL.out.new HD.out.nw) (by omega) (by omega)).mono ?_
  rintro e w2 ⟨rfl, hN2⟩
  rw [← HR.out]
  have HD2 : Hid (Dsk W w2 gd (DP.new 4)) := Lib.hid (HD.out.new hN2)
  obtain ⟨RC, hRC⟩ : ∃ RC, RC = r.cells := ⟨_, rfl⟩
  have HRC := Lib.hid hRC
  rw [← hRC] at HSZ ⊢
  have HONE : Hid (RC.all (·.oneCell') = true) := Lib.hid (by rw [hRC]; exact Rc.one r)
  clear hN2 HD hRC
  go_upto_region 5 with ((with_reducible refine atOp ⟨some 3, .alloc _, _, _, _, _⟩ ?_); refine wpList_newrow rfl rfl rfl _ _ rfl recInfo (by rfl) rfl rfl HSZ.out HONE.out ?_)
  obtain ⟨w3, hw3⟩ : ∃ w3 : World, w3 = w2.alloc (.cells RC 48) := ⟨_, rfl⟩
  obtain ⟨b3, hb3⟩ : ∃ b3, b3 = w2.heap.size := ⟨_, rfl⟩
  have hN3 : New w2 w3 := by rw [hw3]; exact New.al (New.refl _) _
  have HD3 : Hid (Dsk W w3 gd (DP.new 4)) := Lib.hid (HD2.out.new hN3)
  have HB3 : Hid (Blk w3 b3 48 RC) := Lib.hid (by rw [hw3, hb3]; exact Blk.new _ _ _)
  rw [← hw3, ← hb3]
  clear hw3 hb3 hN3 HD2
  go_wp2_with fail
  refine (kopen_d HD3.out HL.out (by show 4 ≤ 4; omega)).mono ?_
  rintro e w4 ⟨gk, rfl, hK, hN4⟩
  rw [HO.out] at hK
  have HK := Lib.hid hK
  have HB4 : Hid (Blk w4 b3 48 RC) := Lib.hid (hN4.blk HB3.out)
  clear hK hN4 HB3 HD3
  go_wp2_with ((with_reducible refine atOp ⟨some 31, .load _ _, _, _, _, _⟩ ?_); refine wpList_load_any rfl _ rfl Tryd.underlying48 rfl (by rw [HSZ.out]; rfl) rfl HB4.out ?_)
  rw [HRC.out]
  refine (ksave_d HK.out HL.out r HF.out.1).mono ?_
  rintro e w5 ⟨rfl, hK, hT⟩
  rw [HSV.out.1, errD_0]
  rw [HSV.out.2.1, ← HP1.out] at hK
  have HK5 := Lib.hid hK
  have HB5 : Hid (Blk w5 b3 48 RC) := Lib.hid (hT _ _ _ HB4.out (by decide) (by decide) (by decide))
  have HEQ : Hid (∀ W, (binOp .eql 48 (.agg RC) (.agg RC)).run Tryd.prog W = .ok (.bool true) W) := Lib.hid (fun W => by
    have h := eql_rec HF.out.1 HF.out.1 W
    rw [← HRC.out] at h
    simpa using h)
  clear hK hT HK HB4
  rw [← HRC.out]
  go_wp2_with fail
  refine (dcut_d HK5.out.dsk (q := fun _ => False) none 0 0 [] Rd.nil (by unfold maxLen; omega) (fun _ _ _ _ _ h => h.elim)).mono ?_
  rintro e w6 ⟨rfl, hD, hT⟩
  have HD6 := Lib.hid hD
  have HB6 : Hid (Blk w6 b3 48 RC) := Lib.hid (hT _ _ _ HB5.out (by decide) (by decide) (by decide))
  have HO6 : Hid (openP (p1.cut []) = ⟨1, r, false⟩ ∧ 4 ≤ (p1.cut []).size) := Lib.hid (by
    have hs := HSV.out.2.2
    have hg : ∀ x, (p1.cut []).get x = p1.get x := fun x => cut_clean hs.clean hs.fresh [] x
    exact ⟨(hs.toKop.of_slots (slot_all 0 hg rfl) (slot_all 1 hg rfl)).opens, hs.sz⟩)
  clear hD hT HB5 HK5
  go_wp2_with fail
  refine (kopen_d HD6.out HL.out HO6.out.2).mono ?_
  rintro e w7 ⟨gk2, rfl, hK, hN7⟩
  rw [HO6.out.1] at hK
  have HK7 := Lib.hid hK
  have HB7 : Hid (Blk w7 b3 48 RC) := Lib.hid (hN7.blk HB6.out)
  clear hK hN7 HB6 HD6
  go_wp2_with fail
  refine (kget_kp HK7.out.kp).mono ?_
  rintro e w8 ⟨rfl, hN8⟩
  have HK8 : Hid (Kpr W w8 gd gk2 (p1.cut []) ⟨1, r, false⟩) := Lib.hid (HK7.out.new hN8)
  have HB8 : Hid (Blk w8 b3 48 RC) := Lib.hid (hN8.blk HB7.out)
  have hone : (.bool (decide (0 < (⟨1, r, false⟩ : KR).number)) : Value) = .bool true := by rfl
  rw [hone]
  clear hone
  have hnow : (⟨1, r, false⟩ : KR).now.cells = RC := HRC.out.symm
  rw [hnow]
  clear hnow hN8 HB7 HK7
  go_upto_region 13 with ((with_reducible refine atOp ⟨some 6, .alloc _, _, _, _, _⟩ ?_); refine wpList_newrow rfl rfl rfl _ _ rfl recInfo (by rfl) rfl rfl HSZ.out HONE.out ?_)
  obtain ⟨w9, hw9⟩ : ∃ w9 : World, w9 = w8.alloc (.cells RC 48) := ⟨_, rfl⟩
  obtain ⟨b6, hb6⟩ : ∃ b6, b6 = w8.heap.size := ⟨_, rfl⟩
  have hN9 : New w8 w9 := by rw [hw9]; exact New.al (New.refl _) _
  have HK9 : Hid (Kpr W w9 gd gk2 (p1.cut []) ⟨1, r, false⟩) := Lib.hid (HK8.out.new hN9)
  have HB9 : Hid (Blk w9 b3 48 RC) := Lib.hid (hN9.blk HB8.out)
  have HB6 : Hid (Blk w9 b6 48 RC) := Lib.hid (by rw [hw9, hb6]; exact Blk.new _ _ _)
  rw [← hw9, ← hb6]
  have heq := HEQ.out
  clear hw9 hb6 hN9 HK8 HB8
  go_wp2_with (first
    | ((with_reducible refine atOp ⟨some 51, .load _ _, _, _, _, _⟩ ?_); refine wpList_load_any rfl _ rfl Tryd.underlying48 rfl (by rw [HSZ.out]; rfl) rfl HB6.out ?_)
    | ((with_reducible refine atOp ⟨some 52, .load _ _, _, _, _, _⟩ ?_); refine wpList_load_any rfl _ rfl Tryd.underlying48 rfl (by rw [HSZ.out]; rfl) rfl HB9.out ?_))
  refine (number_kp HK9.out.kp).mono ?_
  rintro e w10 ⟨rfl, rfl⟩
  have hnum : (.int .u64 ((⟨1, r, false⟩ : KR).number : Nat) : Value) = .int .u64 1 := by rfl
  rw [hnum]
  go_wp2_with fail
  go_ret
  exact ⟨rfl, HK9.out.nw⟩
end Go.Proofs.YtdojmjglnlkmoaaDoor
/- The reference: a tree's height. No condition. -/
namespace Go.Proofs.YtdojmjglnlkmoaaDoor
set_option linter.unusedVariables false
set_option linter.unusedSimpArgs false
set_option linter.constructorNameAsVariable false
open Go.RowKit

set_option maxHeartbeats 2000000
set_option maxRecDepth 100000
theorem hgt_of {n h : Nat} (h1 : 1 ≤ n) (h2 : n ≤ 4294967296) (hle : n ≤ 2 ^ h) (hlt : h = 0 ∨ 2 ^ (h - 1) < n) : hgt n = h := by
  unfold hgt
  rcases hlt with rfl | hlt
  · rw [show n - 1 = 0 by simp at hle; omega]; rfl
  · cases h with
    | zero => rw [show n - 1 = 0 by simp at hle; omega]; rfl
    | succ k =>
      rw [Nat.add_sub_cancel] at hlt
      exact bitLen_between (by omega) (by omega) (by omega)
theorem high_bad (n : Nat) (w : World) (h : ¬ (1 ≤ n ∧ n ≤ 4294967296)) : Calls Tryd.prog 21 #[.int .u64 n] w fun e w' => e = .returned (.tuple #[.int .i64 0, .bool false]) ∧ w = w' := by
  by_cases hn : n = 0
  · subst hn
    go_enter Tryd.func21, Tryd.ntmps21
    go_wp2_with fail
    go_ret2
    exact ⟨rfl, rfl⟩
  · have q1 : ((n : Int) == 0) = false := by rw [beq_eq_false_iff_ne]; omega
    have q3 : decide ((4294967296 : Int) < (n : Int)) = true := decide_eq_true (by omega)
    clear h hn
    go_enter Tryd.func21, Tryd.ntmps21
    go_wp2_with fail
    go_ret2
    exact ⟨rfl, rfl⟩
theorem high_ok (n : Nat) (w : World) (h1 : 1 ≤ n) (h2 : n ≤ 4294967296) : Calls Tryd.prog 21 #[.int .u64 n] w fun e w' => e = .returned (.tuple #[.int .i64 (hgt n : Nat), .bool true]) ∧ w = w' := by
  have q1 : ((n : Int) == 0) = false := by rw [beq_eq_false_iff_ne]; omega
  have q3 : decide ((4294967296 : Int) < (n : Int)) = false := decide_eq_false (by omega)
  have HN := Lib.hid (And.intro h1 h2)
  clear h1 h2
  go_enter Tryd.func21, Tryd.ntmps21
  go_upto_region 3 with fail
  clear q1 q3
  go_wp2_with fail
  go_loopw [4, 5] (fun hv tv wr => ∃ (h t : Nat), Hid (t = 2 ^ h ∧ (h = 0 ∨ 2 ^ (h - 1) < n) ∧ h ≤ 32) ∧ hv = .int .i64 (h : Int) ∧ tv = .int .u64 (t : Int) ∧ w = wr) (fun hv _ _ => 33 - (intOf hv).toNat)
  case atStart => exact ⟨0, 1, Lib.hid ⟨rfl, .inl rfl, by omega⟩, rfl, rfl, rfl⟩
  case round =>
    obtain ⟨h, t, HI, rfl, rfl, rfl⟩ := hrel
    by_cases hj : t < n
    · have hlt : (t : Int) < (n : Int) := by omega
      have hh : h ≤ 31 := by
        rcases Nat.lt_or_ge h 32 with h' | h'
        · omega
        · have h3 := HI.out
          have : h = 32 := by omega
          subst this
          have := HN.out
          have e : (2 : Nat) ^ 32 = 4294967296 := by decide
          omega
      have ht : t ≤ 2147483648 := by
        have h3 := HI.out.1
        have : (2 : Nat) ^ h ≤ 2 ^ 31 := Nat.pow_le_pow_right (by decide) hh
        have e : (2 : Nat) ^ 31 = 2147483648 := by decide
        omega
      obtain ⟨t2, ht2⟩ : ∃ t2, t2 = t * 2 := ⟨_, rfl⟩
      have e1 : (t : Int) * 2 = (t2 : Int) := by omega
      have e2 : IntKind.u64.wrap (t2 : Int) = (t2 : Int) := by rw [IntKind.wrap_u64]; omega
      have e3 : IntKind.i64.wrap ((h : Int) + 1) = (h : Int) + 1 := IntWalk.i64_in _ (by omega)
      have HI2 : Hid (t2 = 2 ^ (h + 1) ∧ (h + 1 = 0 ∨ 2 ^ (h + 1 - 1) < n) ∧ h + 1 ≤ 32) := Lib.hid ⟨by rw [ht2, HI.out.1, Nat.pow_succ], .inr (by rw [Nat.add_sub_cancel, ← HI.out.1]; exact hj), by omega⟩
      have HM : Hid (33 - (h + 1) < 33 - h) := Lib.hid (by omega)
      clear hj hh ht ht2 HI
      go_wp2_with fail
      go_roundw
      case rel => exact ⟨h + 1, t2, HI2, by go_num, rfl, trivial⟩
      case measure => simp [intOf]; have := HM.out; omega
    · have hge : ¬ ((t : Int) < (n : Int)) := by omega
      have HE : Hid (hgt n = h) := Lib.hid (hgt_of HN.out.1 HN.out.2 (by have := HI.out.1; omega) HI.out.2.1)
      clear hj HI
      go_wp2_with fail
      go_ret2
      exact ⟨by rw [HE.out]; rfl, rfl⟩
end Go.Proofs.YtdojmjglnlkmoaaDoor
/- The reference: a node's text and its hash. The tables of the reference's sha are as they were laid. No condition else. -/
namespace Go.Proofs.YtdojmjglnlkmoaaDoor
set_option linter.unusedVariables false
set_option linter.unusedSimpArgs false
set_option linter.constructorNameAsVariable false
open Go.RowKit Go.Sort

/-- A literal's row, owned. -/
theorem own_full {P : Nat} {w : World} {g : Nat} {t : TypeId} {size n : Nat} {cs : Array Value} (h : Blk w g t cs) (hP : P ≤ g) (hs : cs.size = n * size) (hm : n ≤ maxLen) : w.ownsRow P t size (.slice (some ⟨g, 0, none⟩) n n) n cs.toList :=
  ⟨by rw [Array.length_toList, hs], .inr ⟨g, n, cs, rfl, hP, h, Nat.le_refl _, hm, hs, by rw [← hs, List.take_of_length_le (by rw [Array.length_toList]; exact Nat.le_refl _)]⟩⟩
set_option maxHeartbeats 2000000
set_option maxRecDepth 100000
theorem rjoint_any (h : Nat) (a b : List Int) (w : World) (hh : h ≤ 255) (ha : a.length = 32 ∧ Byt a) (hb : b.length = 32 ∧ Byt b) :
    Calls Tryd.prog 60 #[.int .i64 h, .agg (secA a), .agg (secA b)] w fun e w' => ∃ A d, e = .returned (.slice A 66 d) ∧ Rd (fun _ => True) w' 1 A 66 (u8s (ndL h a b)) ∧ New w w' := by
  have HA := Lib.hid ha
  have HB := Lib.hid hb
  have HJ : Hid ([Value.int .u8 2, .int .u8 (h : Int)] ++ u8s a ++ u8s b = u8s (ndL h a b)) := Lib.hid (by rw [ndL_eq (by omega)]; simp [u8s])
  obtain ⟨RA, hRA⟩ : ∃ RA, RA = secA a := ⟨_, rfl⟩
  have HRA := Lib.hid hRA
  obtain ⟨RB, hRB⟩ : ∃ RB, RB = secA b := ⟨_, rfl⟩
  have HRB := Lib.hid hRB
  rw [← hRA, ← hRB]
  have q3 : IntKind.u8.wrap (h : Int) = (h : Int) := by rw [IntKind.wrap_u8]; omega
  clear ha hb hh hRA hRB
  go_enter Tryd.func60, Tryd.ntmps60
  go_upto_region 1 with fail
  obtain ⟨w1, hw1⟩ : ∃ w1 : World, w1 = (w.alloc (.cells RA 43)).alloc (.cells RB 43) := ⟨_, rfl⟩
  obtain ⟨b4, hb4⟩ : ∃ b4, b4 = w.heap.size := ⟨_, rfl⟩
  obtain ⟨b5, hb5⟩ : ∃ b5, b5 = w.heap.size + 1 := ⟨_, rfl⟩
  have HN1 : Hid (New w w1) := Lib.hid (by rw [hw1]; exact New.al (New.al (New.refl _) _) _)
  have HR4 : Hid (Rd (fun _ => True) w1 1 (some ⟨b4, 0, none⟩) 32 (u8s a)) := Lib.hid (by
    have hB : Blk w1 b4 43 (secA a) := by rw [hw1, hb4, HRA.out]; exact (Blk.new _ _ _).alloc _
    have h := Rd.ofBlk (p := fun _ => True) hB 1 32 (by rw [secA_size, HA.out.1]) trivial
    rw [secA_list] at h
    exact h)
  have HR5 : Hid (Rd (fun _ => True) w1 1 (some ⟨b5, 0, none⟩) 32 (u8s b)) := Lib.hid (by
    have hB : Blk w1 b5 43 (secA b) := by rw [hw1, hb5, HRB.out]; exact Blk.new' _ _ _ (by simp)
    have h := Rd.ofBlk (p := fun _ => True) hB 1 32 (by rw [secA_size, HB.out.1]) trivial
    rw [secA_list] at h
    exact h)
  rw [← hw1, ← hb5, ← hb4]
  clear hw1 hb4 hb5
  have HZ : Hid (w.heap.size ≤ w1.heap.size) := Lib.hid HN1.out.size
  have HN2 : Hid (New w1 (w1.alloc (.cells #[.int .u8 2, .int .u8 (h : Int)] 5))) := Lib.hid (New.al (New.refl _) _)
  go_wp2_with (first
    | ((with_reducible refine atOp ⟨some 12, _, _, _, _, _⟩ ?_); refine wpList_app elB _ rfl (.tmp 10) (.tmp 11) rfl w.heap.size (.slice (some ⟨w1.heap.size, 0, none⟩) 2 2) 2 [.int .u8 2, .int .u8 (h : Int)] rfl (own_full (Blk.new w1 5 #[.int .u8 2, .int .u8 (h : Int)]) HZ.out (by rfl) (by decide)) (some ⟨b4, 0, none⟩) 32 _ (u8s a) rfl (HN2.out.rd HR4.out) (u8s_one a) (by decide) (by decide) (by simp; have := HZ.out; omega) ?_; intro A1 d1 w3 hO hF hA; have HO := Lib.hid hO; have HN3 : Hid (New w1 w3) := Lib.hid (HN2.out.fr hF (by intro k hk; simp [Value.ownBlock] at hk; omega)); have HL3 : Hid (∀ k, (Value.slice A1 (2 + 32) d1).ownBlock = some k → w1.heap.size ≤ k) := Lib.hid (fun k hk => by rcases hA k hk with h | h <;> simp [Value.ownBlock] at h <;> omega); clear hO hF hA)
    | ((with_reducible refine atOp ⟨some 15, _, _, _, _, _⟩ ?_); refine wpList_app elB _ rfl (.tmp 13) (.tmp 14) rfl w.heap.size (.slice A1 (2 + 32) d1) (2 + 32) _ rfl HO.out (some ⟨b5, 0, none⟩) 32 _ (u8s b) rfl (HN3.out.rd HR5.out) (u8s_one b) (by decide) (by decide) (by have := HZ.out; have := HN3.out.size; omega) ?_; intro A2 d2 w4 hO2 hF2 hA2; have HO2 := Lib.hid hO2; have HN4 : Hid (New w1 w4) := Lib.hid (HN3.out.fr hF2 (fun k hk => HL3.out k hk)); clear hO2 hF2 hA2))
  go_ret
  exact ⟨A2, d2, rfl, by rw [← HJ.out]; exact (Rd.own HO2.out rfl).imp (fun _ _ => trivial), HN1.out.tr HN4.out⟩
theorem rjoin_any (h : Nat) (a b : List Int) (w : World) (hL : RShaIn 1 0 w) (hh : h ≤ 255) (ha : a.length = 32 ∧ Byt a) (hb : b.length = 32 ∧ Byt b) :
    Calls Tryd.prog 41 #[.int .i64 h, .agg (secA a), .agg (secA b)] w fun e w' => e = .returned (.agg (secA (ndH h a b))) ∧ New w w' := by
  have HJT := Lib.hid (fun W => rjoint_any h a b W hh ha hb)
  have HJ : Hid (hsh (ndL h a b) = ndH h a b ∧ Byt (ndL h a b) ∧ (secA (ndH h a b)).size = 32) := Lib.hid ⟨rfl, ndL_byt ha.2 hb.2, by rw [secA_size, ndH_len]⟩
  have HL := Lib.hid hL
  obtain ⟨JL, hJL⟩ : ∃ JL, JL = ndL h a b := ⟨_, rfl⟩
  obtain ⟨JH, hJH⟩ : ∃ JH, JH = ndH h a b := ⟨_, rfl⟩
  rw [← hJL] at HJ
  rw [← hJH] at HJ ⊢
  simp only [← hJL] at HJT
  obtain ⟨RA, hRA⟩ : ∃ RA, RA = secA a := ⟨_, rfl⟩
  have HRA : Hid (RA.size = 32) := Lib.hid (by rw [hRA, secA_size, ha.1])
  obtain ⟨RB, hRB⟩ : ∃ RB, RB = secA b := ⟨_, rfl⟩
  have HRB : Hid (RB.size = 32) := Lib.hid (by rw [hRB, secA_size, hb.1])
  simp only [← hRA, ← hRB] at HJT
  rw [← hRA, ← hRB]
  clear hJL hJH hL hh ha hb hRA hRB
  go_enter Tryd.func41, Tryd.ntmps41
  go_upto_region 1 with ((with_reducible refine atOp ⟨some 6, .alloc _, _, _, _, _⟩ ?_); refine wpList_alloc_row rfl rfl hashInfoR ?_; intro b6 w1 hb6 hB6 hN1; have HB6 := Lib.hid hB6; have HN1 := Lib.hid hN1; have HZ := Lib.hid hb6; clear hb6 hB6 hN1)
  have HB4 : Hid (Blk w1 w.heap.size 43 RA) := Lib.hid (HN1.out.blk ((Blk.new _ _ _).alloc _))
  have HB5 : Hid (Blk w1 (w.heap.size + 1) 43 RB) := Lib.hid (HN1.out.blk (Blk.new' _ _ _ (by simp)))
  have HN0 : Hid (New w w1) := Lib.hid ((New.al (New.al (New.refl _) _) _).tr HN1.out)
  have HZ2 : Hid (w.heap.size ≤ b6) := Lib.hid (by have := HZ.out; simp at this; omega)
  obtain ⟨b4, hb4⟩ : ∃ b4, b4 = w.heap.size := ⟨_, rfl⟩
  obtain ⟨b5, hb5⟩ : ∃ b5, b5 = w.heap.size + 1 := ⟨_, rfl⟩
  rw [← hb4] at HB4
  rw [← hb5] at HB5
  rw [← hb5, ← hb4]
  clear hb4 hb5 HZ HN1
  go_wp2_with (first
    | ((with_reducible refine atOp ⟨some 8, .load _ _, _, _, _, _⟩ ?_); refine wpList_load_any rfl _ rfl Tryd.underlying43 rfl (by rw [HRA.out]; rfl) rfl HB4.out ?_)
    | ((with_reducible refine atOp ⟨some 9, .load _ _, _, _, _, _⟩ ?_); refine wpList_load_any rfl _ rfl Tryd.underlying43 rfl (by rw [HRB.out]; rfl) rfl HB5.out ?_))
  refine (HJT.out w1).mono ?_
  rintro e w2 ⟨A, d, rfl, hR, hN2⟩
  have HR := Lib.hid hR
  have HN2 : Hid (New w w2) := Lib.hid (HN0.out.tr hN2)
  have HB62 : Hid (Blk w2 b6 43 (secA (List.replicate 32 0))) := Lib.hid (hN2.blk HB6.out)
  clear hR hN2
  go_wp2_with fail
  refine (rsum_any A 66 d JL w2 (HL.out.new HN2.out) HR.out HJ.out.2.1 (by omega)).mono ?_
  rintro e w3 ⟨rfl, hN3⟩
  rw [HJ.out.1]
  have HN3 : Hid (New w w3) := Lib.hid (HN2.out.tr hN3)
  have HB63 : Hid (Blk w3 b6 43 (secA (List.replicate 32 0))) := Lib.hid (hN3.blk HB62.out)
  clear hN3
  go_wp2_with ((with_reducible refine atOp ⟨none, .store 43 (.tmp 6) _, _, _, _, _⟩ ?_); refine wpList_store_any rfl (.tmp 6) (.tmp 11) rfl (by rw [HJ.out.2.2]; rfl) rfl rfl HB63.out (by rw [HJ.out.2.2]; rfl) (secA_one _) ?_; intro w4 hb3 hf3; have HB64 := Lib.hid hb3; have HF4 := Lib.hid hf3; clear hb3 hf3)
  exact bodyPost_ret (results_rowH rfl _ _ b6 _ _ rfl HB64.out Tryd.underlying43 rfl (by rw [HJ.out.2.2]; rfl)) rfl ⟨rfl, HN3.out.fr HF4.out (fun k hk => by have := HZ2.out; omega)⟩
end Go.Proofs.YtdojmjglnlkmoaaDoor
/- A region that draws its order, by a script of loads (they all come before the first act, whatever order is drawn), pure operations (they yield the same in every world) and acts (each comes up alone). What the loads read may be broken by any act. After XLast, XMx. No condition. -/
namespace Go.Proofs.YtdojmjglnlkmoaaDoor
set_option linter.unusedVariables false
set_option linter.unusedSimpArgs false
set_option linter.constructorNameAsVariable false
open Go.RowKit

section
variable {P : Program} {md : Region.Mode} {ops : Array Oper} {Q : Exit → Act → World → Prop} {S : World → Prop} {first : Nat}
/-- Whatever order is picked, and S holds till number 'first' was done. -/
def wpAnyU (P : Program) (md : Region.Mode) (ops : Array Oper) (Q : Exit → Act → World → Prop) (S : World → Prop) (first : Nat) : Nat → Array Bool → Act → World → Prop
  | 0, listed, a, w => Region.ready md ops listed = [] ∧ Q .normal a w
  | fuel + 1, listed, a, w =>
    (Region.ready md ops listed = [] → Q .normal a w) ∧
    ∀ i ∈ Region.ready md ops listed, wpOp P ops Q i (fun a' w' => ((listed.setIfInBounds i true).getD first true = false → S w') ∧ wpAnyU P md ops Q S first fuel (listed.setIfInBounds i true) a' w') a w
theorem wpAny_of_U : ∀ (fuel : Nat) (listed : Array Bool) (a : Act) (w : World), wpAnyU P md ops Q S first fuel listed a w → wpAny P md ops Q fuel listed a w
  | 0, _, _, _, h => h
  | fuel + 1, _, _, _, h => ⟨h.1, fun i hi => wpOp_mono (fun a' w' h' => wpAny_of_U fuel _ a' w' h'.2) (h.2 i hi)⟩
/-- A take: a load that 'first' waits for, or what yields in every world. -/
theorem wpAnyU_first {S' : World → Prop} {i : Nat} {oi : Oper} {v : Value} (hi : ops[i]? = some oi) (hsel : ∀ (j : Nat) (o : Oper) cs b, ops[j]? = some o → o.op ≠ .select cs b)
    (hQ : ∀ c a w, Q (.panic c) (a.put oi.dst v) w → Q (.panic c) a w) (hif : i ≠ first) (hkind : (waitsOn md ops first i = true ∧ S' = S) ∨ ∀ w, S' w) :
    ∀ (fuel : Nat) (listed : Array Bool) (a : Act) (w : World),
      (∀ j oj, ops[j]? = some oj → j ≠ i → listed.getD j true = false → (∀ e ∈ oj.after, Region.binds md e = true → e.on ≠ i) → oi.apart ops oj = true) →
      i ∈ Region.ready md ops listed → YieldsIf P ops S' oi v a → (listed.getD first true = false → S w) → (waitsOn md ops first i = true → listed.getD first true = false) →
      wpAnyU P md ops Q S first fuel (listed.setIfInBounds i true) (a.put oi.dst v) w → wpAnyU P md ops Q S first (fuel + 1) listed a w := by
  have hset : ∀ (l : Array Bool), (l.setIfInBounds i true).getD first true = l.getD first true := fun l => getD_set_ne true hif
  have hS' : ∀ {listed : Array Bool} {w : World}, (listed.getD first true = false → S w) → (waitsOn md ops first i = true → listed.getD first true = false) → S' w := fun h1 h2 => by
    rcases hkind with ⟨hw, rfl⟩ | h
    · exact h1 (h2 hw)
    · exact h _
  intro fuel
  induction fuel with
  | zero =>
    intro listed a w _ hr hy hS hf H
    refine ⟨fun h => (by rw [h] at hr; cases hr), fun j hj => ?_⟩
    by_cases hji : j = i
    · subst hji; exact hy.wpOp hi (hS' hS hf) ⟨fun h => hS (by rwa [hset] at h), H⟩
    · have := ready_mono hj hji
      rw [H.1] at this
      cases this
  | succ fuel ih =>
    intro listed a w hfree hr hy hS hf H
    refine ⟨fun h => (by rw [h] at hr; cases hr), fun j hj => ?_⟩
    by_cases hji : j = i
    · subst hji; exact hy.wpOp hi (hS' hS hf) ⟨fun h => hS (by rwa [hset] at h), H⟩
    · have h1 := H.2 j (ready_mono hj hji)
      obtain ⟨hjun, oj, hoj, hall⟩ := mem_ready.1 hj
      have hnot : ∀ e ∈ oj.after, Region.binds md e = true → e.on ≠ i := fun e he hb heq => by
        have h1 := hall e he hb
        have h0 := (mem_ready.1 hr).1
        rw [heq] at h1
        rcases Nat.lt_or_ge i listed.size with h' | h'
        · simp [h'] at h0 h1; rw [h0] at h1; cases h1
        · simp [Array.getElem?_eq_none h'] at h1
      have hjl : waitsOn md ops first i = true → j ≠ first := fun hlast e => by
        subst e
        simp only [waitsOn, hoj, Array.any_eq_true] at hlast
        obtain ⟨n, hn, hb⟩ := hlast
        simp only [Bool.and_eq_true, beq_iff_eq] at hb
        exact hnot _ (Array.getElem_mem hn) hb.1 hb.2
      have h2 := wpOp_putIf hoj (hfree j oj hoj hji hjun hnot) (fun cs b => hsel i oi cs b hi) (fun cs b => hsel j oj cs b hoj) hQ hy h1
      have hfree' : ∀ k ok, ops[k]? = some ok → k ≠ i → (listed.setIfInBounds j true).getD k true = false →
          (∀ e ∈ ok.after, Region.binds md e = true → e.on ≠ i) → oi.apart ops ok = true := fun k ok hk hki hun hno => by
        refine hfree k ok hk hki ?_ hno
        by_cases hjk : j = k
        · subst hjk; exact hjun
        · rw [getD_set_ne true hjk] at hun; exact hun
      have hcm : ((listed.setIfInBounds i true).setIfInBounds j true).getD first true = (listed.setIfInBounds j true).getD first true := by
        rw [← Array.setIfInBounds_comm _ _ hji, hset]
      refine wpOp_mono (fun a' w' h3 => ⟨fun h => h3.2.1 (by rw [hcm]; exact h), ih (listed.setIfInBounds j true) a' w' hfree' (ready_mono hr (Ne.symm hji)) h3.1 (fun h => h3.2.1 (by rw [hcm]; exact h)) (fun hw => ?_) ?_⟩) h2
      · rw [getD_set_ne true (hjl hw)]; exact hf hw
      · rw [Array.setIfInBounds_comm _ _ hji]
        exact h3.2.2
/-- The script: 0: a load; 1: a pure operation; 2: an act. -/
def preB (md : Region.Mode) (ops : Array Oper) (first : Nat) : List (Nat × Nat) → Array Bool → Bool
  | [], listed => (Region.ready md ops listed).isEmpty
  | (0, i) :: sc, listed => (Region.ready md ops listed).contains i && Region.free md ops listed i && waitsOn md ops first i && !listed.getD first true && decide (i ≠ first) && preB md ops first sc (listed.setIfInBounds i true)
  | (1, i) :: sc, listed => (Region.ready md ops listed).contains i && Region.free md ops listed i && (!waitsOn md ops first i || !listed.getD first true) && decide (i ≠ first) && preB md ops first sc (listed.setIfInBounds i true)
  | (_, i) :: sc, listed => decide (Region.ready md ops listed = [i]) && (decide (i = first) || listed.getD first true) && preB md ops first sc (listed.setIfInBounds i true)
def wpPre (P : Program) (ops : Array Oper) (S : World → Prop) (Q : Exit → Act → World → Prop) : List (Nat × Nat) → Act → World → Prop
  | [], a, w => Q .normal a w
  | (0, i) :: sc, a, w => ∃ o, ops[i]? = some o ∧ (if Region.wanted o (yielded ops a.tmps) = true then ∃ v, (∀ p : HW S, (execOp a.eval o).run P p.w = .ok (.value v) p.w) ∧ wpPre P ops S Q sc (a.put o.dst v) w else wpPre P ops S Q sc (a.put o.dst undef) w)
  | (1, i) :: sc, a, w => ∃ o, ops[i]? = some o ∧ (if Region.wanted o (yielded ops a.tmps) = true then ∃ v, (∀ p : HW (fun _ => True), (execOp a.eval o).run P p.w = .ok (.value v) p.w) ∧ wpPre P ops S Q sc (a.put o.dst v) w else wpPre P ops S Q sc (a.put o.dst undef) w)
  | (_, i) :: sc, a, w => ∃ o, ops[i]? = some o ∧ (if Region.wanted o (yielded ops a.tmps) = true then o.wp P a w (fun a' w' => wpPre P ops S Q sc a' w') Q else wpPre P ops S Q sc (a.put o.dst undef) w)
theorem wpAnyU_of_pre (hs : Region.noSelect ops = true) (hQ : ∀ c a d v w, Q (.panic c) (a.put d v) w → Q (.panic c) a w) : ∀ (sc : List (Nat × Nat)) (listed : Array Bool) (a : Act) (w : World), preB md ops first sc listed = true → (listed.getD first true = false → S w) → wpPre P ops S Q sc a w → wpAnyU P md ops Q S first sc.length listed a w
  | [], listed, a, w, hB, _, h => ⟨by simpa [preB] using hB, h⟩
  | (0, i) :: sc, listed, a, w, hB, hS, h => by
    simp only [preB, Bool.and_eq_true, decide_eq_true_eq, Bool.not_eq_true'] at hB
    obtain ⟨⟨⟨⟨⟨h1, h2⟩, h3⟩, h4⟩, h5⟩, h6⟩ := hB
    obtain ⟨o, ho, h⟩ := h
    have hset : (listed.setIfInBounds i true).getD first true = listed.getD first true := getD_set_ne true h5
    have key : ∀ v, YieldsIf P ops S o v a → wpPre P ops S Q sc (a.put o.dst v) w → wpAnyU P md ops Q S first ((0, i) :: sc).length listed a w := fun v hy h =>
      wpAnyU_first (S' := S) ho (Region.noSelect_spec hs) (fun c a w => hQ c a _ _ w) h5 (.inl ⟨h3, rfl⟩) sc.length listed a w (Region.free_spec ho h2) (by simpa using h1) hy hS (fun _ => h4)
        (wpAnyU_of_pre hs hQ sc _ _ _ h6 (fun h => hS (by rwa [hset] at h)) h)
    by_cases hw : Region.wanted o (yielded ops a.tmps) = true
    · rw [if_pos hw] at h
      obtain ⟨v, hv, h⟩ := h
      exact key v (.inl ⟨hw, fun w hw => hv ⟨w, hw⟩⟩) h
    · rw [if_neg hw] at h
      exact key undef (.inr ⟨by simpa using hw, rfl⟩) h
  | (1, i) :: sc, listed, a, w, hB, hS, h => by
    simp only [preB, Bool.and_eq_true, decide_eq_true_eq, Bool.or_eq_true, Bool.not_eq_true'] at hB
    obtain ⟨⟨⟨⟨h1, h2⟩, h4⟩, h5⟩, h6⟩ := hB
    obtain ⟨o, ho, h⟩ := h
    have hset : (listed.setIfInBounds i true).getD first true = listed.getD first true := getD_set_ne true h5
    have key : ∀ v, YieldsIf P ops (fun _ => True) o v a → wpPre P ops S Q sc (a.put o.dst v) w → wpAnyU P md ops Q S first ((1, i) :: sc).length listed a w := fun v hy h =>
      wpAnyU_first (S' := fun _ => True) ho (Region.noSelect_spec hs) (fun c a w => hQ c a _ _ w) h5 (.inr fun _ => trivial) sc.length listed a w (Region.free_spec ho h2) (by simpa using h1) hy hS (fun hw => by
          rcases h4 with h4 | h4
          · rw [hw] at h4; cases h4
          · exact h4)
        (wpAnyU_of_pre hs hQ sc _ _ _ h6 (fun h => hS (by rwa [hset] at h)) h)
    by_cases hw : Region.wanted o (yielded ops a.tmps) = true
    · rw [if_pos hw] at h
      obtain ⟨v, hv, h⟩ := h
      exact key v (.inl ⟨hw, fun w hw => hv ⟨w, hw⟩⟩) h
    · rw [if_neg hw] at h
      exact key undef (.inr ⟨by simpa using hw, rfl⟩) h
  | (n + 2, i) :: sc, listed, a, w, hB, hS, h => by
    simp only [preB, Bool.and_eq_true, decide_eq_true_eq, Bool.or_eq_true] at hB
    obtain ⟨⟨h1, h2⟩, h3⟩ := hB
    obtain ⟨o, ho, h⟩ := h
    have hdone : (listed.setIfInBounds i true).getD first true = false → False := fun h => by
      rcases h2 with h2 | h2
      · subst h2
        rcases Nat.lt_or_ge i listed.size with h' | h'
        · simp [h'] at h
        · simp [Array.getElem?_eq_none h'] at h
      · by_cases hif : i = first
        · subst hif
          rcases Nat.lt_or_ge i listed.size with h' | h'
          · simp [h'] at h
          · simp [Array.getElem?_eq_none h'] at h
        · rw [getD_set_ne true hif, h2] at h
          cases h
    refine ⟨fun h0 => (by rw [h1] at h0; cases h0), fun j hj => ?_⟩
    rw [h1, List.mem_singleton] at hj
    subst hj
    unfold wpOp
    simp only [ho]
    by_cases hw : Region.wanted o (yielded ops a.tmps) = true
    · rw [if_pos hw] at h
      simp only [hw, if_true]
      exact .inl (Oper.wp_mono (fun a' w' h' => ⟨fun h => (hdone h).elim, wpAnyU_of_pre hs hQ sc _ _ _ h3 (fun h => (hdone h).elim) h'⟩) h)
    · rw [if_neg hw] at h
      simp only [hw]
      exact ⟨fun h => (hdone h).elim, wpAnyU_of_pre hs hQ sc _ _ _ h3 (fun h => (hdone h).elim) h⟩
theorem wp_region_pre {id : Nat} {a : Act} {w : World} {l : List Oper} (S : World → Prop) (first : Nat) (sc : List (Nat × Nat)) (hm : P.follows .mixedOrders = true)
    (hB : (Region.noSelect l.toArray && decide (sc.length = l.toArray.size) && preB .any l.toArray first sc (Array.replicate l.toArray.size false)) = true) (hS : S w.drew)
    (h : Nonempty (HW S) → Nonempty (HW (fun _ => True)) → wpPre P l.toArray S (NoPan Q) sc a w.drew) : (Code.region id l.toArray true).wp P Q a w := by
  simp only [Bool.and_eq_true, decide_eq_true_eq] at hB
  obtain ⟨⟨h1, h2⟩, h3⟩ := hB
  refine wp_mono (Q := NoPan Q) (wp_region_any hm (wpAny_of_U (S := S) (first := first) _ _ _ _ ?_)) NoPan.imp
  have := wpAnyU_of_pre (P := P) (Q := NoPan Q) h1 (fun _ _ _ _ _ h => h) sc _ a w.drew h3 (fun _ => hS) (h ⟨⟨_, hS⟩⟩ ⟨⟨w, trivial⟩⟩)
  rwa [h2] at this
theorem pre_load {i : Nat} {o : Oper} {sc : List (Nat × Nat)} {a : Act} {w : World} (ho : ops[i]? = some o)
    (h : ∀ K : Act → Prop, (∀ a, wpPre P ops S Q sc a w → K a) → if Region.wanted o (yielded ops a.tmps) = true then ∃ v, (∀ p : HW S, (execOp a.eval o).run P p.w = .ok (.value v) p.w) ∧ K (a.put o.dst v) else K (a.put o.dst undef)) : wpPre P ops S Q ((0, i) :: sc) a w :=
  ⟨o, ho, h _ fun _ h => h⟩
theorem pre_pure {i : Nat} {o : Oper} {sc : List (Nat × Nat)} {a : Act} {w : World} (ho : ops[i]? = some o)
    (h : ∀ K : Act → Prop, (∀ a, wpPre P ops S Q sc a w → K a) → if Region.wanted o (yielded ops a.tmps) = true then ∃ v, (∀ p : HW (fun _ => True), (execOp a.eval o).run P p.w = .ok (.value v) p.w) ∧ K (a.put o.dst v) else K (a.put o.dst undef)) : wpPre P ops S Q ((1, i) :: sc) a w :=
  ⟨o, ho, h _ fun _ h => h⟩
theorem pre_act {i : Nat} {o : Oper} {sc : List (Nat × Nat)} {a : Act} {w : World} (ho : ops[i]? = some o)
    (h : ∀ K : Act → World → Prop, Hid (∀ a w, wpPre P ops S Q sc a w → K a w) → if Region.wanted o (yielded ops a.tmps) = true then o.wp P a w K Q else K (a.put o.dst undef) w) : wpPre P ops S Q ((2, i) :: sc) a w := by
  refine ⟨o, ho, ?_⟩
  exact h (fun a' w' => wpPre P ops S Q sc a' w') (Lib.hid fun a w h => h)
theorem pre_row {i : Nat} {o : Oper} {sc : List (Nat × Nat)} {a : Act} {w : World} {T : TypeId} {d : TypeDesc} {b off : Nat} {cs : List Value} (ho : ops[i]? = some o) (hw : Region.wanted o (yielded ops a.tmps) = true) (x : Operand) (hop : o.op = .load T x) (hx : a.eval x = .pointer (some ⟨b, off, none⟩))
    (hc : ∀ w', S w' → w'.rangeAt b off cs) (hu : P.underlying T = some d) (hd : d.isRow = true) (hi : (P.info? T).map (·.size) = some cs.length)
    (h : wpPre P ops S Q sc (a.put o.dst (.agg cs.toArray)) w) : wpPre P ops S Q ((0, i) :: sc) a w :=
  ⟨o, ho, by
    rw [if_pos hw]
    refine ⟨_, fun p => ?_, h⟩
    unfold execOp
    simp only [hop, hx, Instr.loadAt, Instr.sureAddr, Sem.run_bind, Sem.run_pure, Result.andThen_ok, run_loadVar_mid p.w b off T cs d (hc _ p.h) hu hd hi]⟩
theorem pre_done {a : Act} {w : World} (h : Q .normal a w) : wpPre P ops S (NoPan Q) [] a w := h
end
end Go.Proofs.YtdojmjglnlkmoaaDoor
