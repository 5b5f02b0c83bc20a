/- Texts of one proof, one behind the other: NdB. No condition but each one's own. -/
import Derived.Test.YtpifnmlnhddgeaaGreatDoorVaultNilM7
import Derived.Test.YtpifnmlnhddgeaaGreatDoorVaultNilM8
namespace Go.Proofs.YtpifnmlnhddgeaaGreatDoor
set_option linter.unusedVariables false
set_option linter.unusedSimpArgs false
set_option linter.constructorNameAsVariable false
open Go.RowKit Go.Sort
set_option maxHeartbeats 2000000
set_option maxRecDepth 100000
theorem hashed_any {q : Nat → Prop} (A : Option Addr) (n c : Nat) (xs : List Int) (w : World) (hL : ShaIn 1 0 w) (hR : Rd q w 1 A n (u8s xs)) (hb : Byt xs) (hn : n ≤ 500000000) :
    Calls Tryz.prog 186 #[.slice A n c, .nilIface] w fun e w' => e = .returned (.tuple #[.agg (secA (hsh xs)), .nilIface]) ∧ New w w' := by
 have HC := Lib.hid (fun W (hN : New w W) => sum_any A n c xs W (hL.new hN) (hN.rd hR) hb hn)
 obtain ⟨hs, hhs⟩ : ∃ hs, hs = hsh xs := ⟨_, rfl⟩
 rw [← hhs] at HC ⊢
 have HLN : Hid ((secA hs).size = 32) := Lib.hid (by rw [hhs, secA_size, hsh_len])
 clear hL hR hb hn hhs
 go_enter Tryz.func186, Tryz.ntmps186
 go_upto_region 1 with ((with_reducible refine atOp ⟨some 4, .alloc _, _, _, _, _⟩ ?_); refine wpList_alloc_row rfl rfl hashInfoR ?_; intro b4 w1 hb4 hB4 hN1; have HB4 := Lib.hid hB4; have HN1 := Lib.hid hN1; have HZ := Lib.hid hb4; clear hb4 hB4 hN1)
 go_upto_region 3 with fail
 go_wp2_with fail
 refine (HC.out w1 HN1.out).mono ?_
 rintro e w2 ⟨rfl, hN2⟩
 have HN2 : Hid (New w w2) := Lib.hid (HN1.out.tr hN2)
 have HB42 : Hid (Blk w2 b4 50 (secA (List.replicate 32 0))) := Lib.hid (hN2.blk HB4.out)
 clear hN2
 go_wp2_with ((with_reducible refine atOp ⟨none, .store 50 (.tmp 4) _, _, _, _, _⟩ ?_); refine wpList_store_any rfl (.tmp 4) (.tmp 11) rfl (by rw [HLN.out]; rfl) rfl rfl HB42.out (by rw [HLN.out]; rfl) (secA_one _) ?_; intro w3 hb3 hf3; have HB43 := Lib.hid hb3; have HF3 := Lib.hid hf3; clear hb3 hf3)
 exact bodyPost_ret (results_row2h rfl _ _ b4 _ _ rfl HB43.out Tryz.underlying50 rfl (by rw [HLN.out]; rfl)) rfl ⟨rfl, HN2.out.fr HF3.out (fun k hk => by have := HZ.out; omega)⟩
theorem njoin_any (h : Nat) (a b : List Int) (w : World) (hL : ShaIn 1 0 w) (hh : 1 ≤ h ∧ h ≤ 32) (ha : a.length = 32 ∧ Byt a) (hb : b.length = 32 ∧ Byt b) :
    Calls Tryz.prog 112 #[.int .i64 h, .agg (secA a), .agg (secA b)] w fun e w' => e = .returned (.tuple #[.agg (secA (ndH h a b)), .nilIface]) ∧ New w w' := by
 have HJT := Lib.hid (fun W => joint_any h a b W hh ha hb)
 have HJ : Hid (hsh (ndL h a b) = ndH h a b ∧ Byt (ndL h a b) ∧ (secA (ndH h a b)).size = 32) := Lib.hid ⟨rfl, ndL_byt ha.2 hb.2, by rw [secA_size, ndH_len]⟩
 have HL := Lib.hid hL
 obtain ⟨JL, hJL⟩ : ∃ JL, JL = ndL h a b := ⟨_, rfl⟩
 obtain ⟨JH, hJH⟩ : ∃ JH, JH = ndH h a b := ⟨_, rfl⟩
 rw [← hJL] at HJ
 rw [← hJH] at HJ ⊢
 simp only [← hJL] at HJT
 obtain ⟨RA, hRA⟩ : ∃ RA, RA = secA a := ⟨_, rfl⟩
 have HRA : Hid (RA.size = 32) := Lib.hid (by rw [hRA, secA_size, ha.1])
 obtain ⟨RB, hRB⟩ : ∃ RB, RB = secA b := ⟨_, rfl⟩
 have HRB : Hid (RB.size = 32) := Lib.hid (by rw [hRB, secA_size, hb.1])
 simp only [← hRA, ← hRB] at HJT
 rw [← hRA, ← hRB]
 clear hJL hJH hL hh ha hb hRA hRB
 go_enter Tryz.func112, Tryz.ntmps112
 go_upto_region 1 with ((with_reducible refine atOp ⟨some 6, .alloc _, _, _, _, _⟩ ?_); refine wpList_alloc_row rfl rfl hashInfoR ?_; intro b6 w1 hb6 hB6 hN1; have HB6 := Lib.hid hB6; have HN1 := Lib.hid hN1; have HZ := Lib.hid hb6; clear hb6 hB6 hN1)
 have HB4 : Hid (Blk w1 w.heap.size 50 RA) := Lib.hid (HN1.out.blk ((Blk.new _ _ _).alloc _))
 have HB5 : Hid (Blk w1 (w.heap.size + 1) 50 RB) := Lib.hid (HN1.out.blk (Blk.new' _ _ _ (by simp)))
 have HN0 : Hid (New w w1) := Lib.hid ((New.al (New.al (New.refl _) _) _).tr HN1.out)
 have HZ2 : Hid (w.heap.size ≤ b6) := Lib.hid (by have := HZ.out; simp at this; omega)
 obtain ⟨b4, hb4⟩ : ∃ b4, b4 = w.heap.size := ⟨_, rfl⟩
 obtain ⟨b5, hb5⟩ : ∃ b5, b5 = w.heap.size + 1 := ⟨_, rfl⟩
 rw [← hb4] at HB4
 rw [← hb5] at HB5
 rw [← hb5, ← hb4]
 clear hb4 hb5 HZ HN1
 go_wp2_with (first
  | ((with_reducible refine atOp ⟨some 9, .load _ _, _, _, _, _⟩ ?_); refine wpList_load_any rfl _ rfl Tryz.underlying50 rfl (by rw [HRA.out]; rfl) rfl HB4.out ?_)
  | ((with_reducible refine atOp ⟨some 10, .load _ _, _, _, _, _⟩ ?_); refine wpList_load_any rfl _ rfl Tryz.underlying50 rfl (by rw [HRB.out]; rfl) rfl HB5.out ?_))
 refine (HJT.out w1).mono ?_
 rintro e w2 ⟨A, d, rfl, hR, hN2⟩
 have HR := Lib.hid hR
 have HN2 : Hid (New w w2) := Lib.hid (HN0.out.tr hN2)
 have HB62 : Hid (Blk w2 b6 50 (secA (List.replicate 32 0))) := Lib.hid (hN2.blk HB6.out)
 clear hR hN2
 go_wp2_with fail
 refine (hashed_any A 66 d JL w2 (HL.out.new HN2.out) HR.out HJ.out.2.1 (by omega)).mono ?_
 rintro e w3 ⟨rfl, hN3⟩
 rw [HJ.out.1]
 have HN3 : Hid (New w w3) := Lib.hid (HN2.out.tr hN3)
 have HB63 : Hid (Blk w3 b6 50 (secA (List.replicate 32 0))) := Lib.hid (hN3.blk HB62.out)
 clear hN3
 go_wp2_with ((with_reducible refine atOp ⟨none, .store 50 (.tmp 6) _, _, _, _, _⟩ ?_); refine wpList_store_any rfl (.tmp 6) (.tmp 15) rfl (by rw [HJ.out.2.2]; rfl) rfl rfl HB63.out (by rw [HJ.out.2.2]; rfl) (secA_one _) ?_; intro w4 hb3 hf3; have HB64 := Lib.hid hb3; have HF4 := Lib.hid hf3; clear hb3 hf3)
 exact bodyPost_ret (results_row2h rfl _ _ b6 _ _ rfl HB64.out Tryz.underlying50 rfl (by rw [HJ.out.2.2]; rfl)) rfl ⟨rfl, HN3.out.fr HF4.out (fun k hk => by have := HZ2.out; omega)⟩
end Go.Proofs.YtpifnmlnhddgeaaGreatDoor
