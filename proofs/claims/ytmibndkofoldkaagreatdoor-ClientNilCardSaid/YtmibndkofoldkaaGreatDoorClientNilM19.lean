/- Texts of one proof, one behind the other: HmB, HmC. No condition but each one's own. -/
import Derived.Test.YtmibndkofoldkaaGreatDoorClientNilM16
import Derived.Test.YtmibndkofoldkaaGreatDoorClientNilM17
import Derived.Test.YtmibndkofoldkaaGreatDoorClientNilM10
import Derived.Test.YtmibndkofoldkaaGreatDoorClientNilM14
import Derived.Test.YtmibndkofoldkaaGreatDoorClientNilM18
import Derived.Test.YtmibndkofoldkaaGreatDoorClientNilM2
import Derived.Test.YtmibndkofoldkaaGreatDoorClientNilM8
import Derived.Test.YtmibndkofoldkaaGreatDoorClientNilM1
namespace Go.Proofs.YtmibndkofoldkaaGreatDoor
set_option linter.unusedVariables false
set_option linter.unusedSimpArgs false
set_option linter.constructorNameAsVariable false
open Go.RowKit Go.Sort
theorem parts2 {w : World} {b T1 T2 g : Nat} {A : Option Addr} {n d m e : Nat} {C : List Int} {xs : List Int} {q : Nat → Prop} (hB : Blk w b T1 #[.slice (some ⟨g, 0, none⟩) n d, .slice A m e]) (hn : C.length = n) (hc : Byt C) (hg : Blk w g T2 (secA C)) (hm : xs.length = m) (hx : Byt xs) (hR : Rd q w 1 A m (u8s xs)) : Parts w b 0 [C, xs] := ⟨fun i l hl => by
 match i, hl with
 | 0, hl =>
  obtain rfl : C = l := by simpa using hl
  refine ⟨hc, _, d, by rw [hn]; exact hB.cell 0, ?_⟩
  have h := Rd.ofBlk (p := fun _ => True) hg 1 C.length (by rw [secA_size, Nat.mul_one]) trivial
  rwa [secA_list] at h
 | 1, hl =>
  obtain rfl : xs = l := by simpa using hl
  subst hm
  exact ⟨hx, A, e, hB.cell 1, hR.imp (fun _ _ => trivial)⟩
 | (i + 2), hl => simp at hl⟩
set_option maxHeartbeats 2000000 in
set_option maxRecDepth 100000 in
theorem mac_any {q : Nat → Prop} (A : Option Addr) (n c : Nat) (k : List Int) (b o c2 m : Nat) (ls : List (List Int)) (w : World) (hL : ShaIn 3 1 w) (hR : Rd q w 1 A n (u8s k)) (hk : Byt k) (hn : n ≤ 64) (hm : m = ls.length) (h0 : 1 ≤ ls.length) (h1 : ls.length = 1 → 1 ≤ ls.flatten.length)
    (hP : Parts w b o ls) (hcap : ls.length ≤ c2) (hlen : ls.flatten.length ≤ 400000000) (hln : ls.length ≤ 1000000) :
    Calls Tryz.prog 147 #[.slice A n c, .slice (some ⟨b, o, none⟩) m c2] w fun e w' => e = .returned (.agg (secA (macL k ls.flatten))) ∧ New w w' := by
 have HJ := Lib.hid (fun W (hN : New w W) => joinm b o c2 ls m hm W h0 h1 (hP.new hN) hcap (by omega) hln)
 have HPB := Lib.hid hP.byt
 have hkn : k.length = n := by have := hR.1; rw [u8s_len] at this; omega
 have HL := Lib.hid hL
 have HR := Lib.hid hR
 obtain ⟨fl, hfl⟩ : ∃ fl, fl = ls.flatten := ⟨_, rfl⟩
 rw [← hfl] at HJ HPB hlen ⊢
 obtain ⟨bl, hbl⟩ : ∃ bl, bl = blkL k := ⟨_, rfl⟩
 have HBL : Hid (bl.length = 64 ∧ Byt bl) := Lib.hid ⟨by rw [hbl]; exact blkL_len (by omega), by rw [hbl]; exact blkL_byt hk⟩
 obtain ⟨mid, hmid⟩ : ∃ mid, mid = hsh (xorL 54 bl ++ fl) := ⟨_, rfl⟩
 have HMI := Lib.hid hmid
 obtain ⟨fin, hfin⟩ : ∃ fin, fin = macL k fl := ⟨_, rfl⟩
 have HFI : Hid (fin = hsh (xorL 92 bl ++ mid)) := Lib.hid (by rw [hfin, hmid, hbl]; rfl)
 have HML : Hid (mid.length = 32 ∧ Byt mid) := Lib.hid ⟨by rw [hmid]; exact hsh_len _, by rw [hmid]; exact hsh_byt _⟩
 have HX54 : Hid ((xorL 54 bl).length = 64 ∧ Byt (xorL 54 bl)) := Lib.hid ⟨by rw [xorL_len, HBL.out.1], xorL_byt (by decide) HBL.out.2⟩
 have HX92 : Hid ((xorL 92 bl).length = 64 ∧ Byt (xorL 92 bl)) := Lib.hid ⟨by rw [xorL_len, HBL.out.1], xorL_byt (by decide) HBL.out.2⟩
 have HBK := Lib.hid (fun W (hN : New w W) => block_any A n c k W (hN.rd hR) hn)
 rw [← hbl] at HBK
 rw [← hfin]
 obtain ⟨BA, hBA⟩ : ∃ BA, BA = secA bl := ⟨_, rfl⟩
 have HBA := Lib.hid hBA
 have HB64 : Hid (BA.size = 64) := Lib.hid (by rw [hBA, secA_size, HBL.out.1])
 have HWI := Lib.hid (fun W y => with_any bl y W HBL.out.1)
 rw [← hBA] at HBK HWI
 obtain ⟨MA, hMA⟩ : ∃ MA, MA = secA mid := ⟨_, rfl⟩
 have HMA := Lib.hid hMA
 have HM32 : Hid (MA.size = 32) := Lib.hid (by rw [hMA, secA_size, HML.out.1])
 obtain ⟨FA, hFA⟩ : ∃ FA, FA = secA fin := ⟨_, rfl⟩
 have HFA := Lib.hid hFA
 have HF32 : Hid (FA.size = 32) := Lib.hid (by rw [hFA, secA_size, HFI.out]; exact hsh_len _)
 rw [← hFA]
 have HFL : Hid (fl.length ≤ 400000000) := Lib.hid hlen
 clear hL hR hk hn hm h0 h1 hP hcap hlen hln hfl hbl hmid hfin hBA hMA hFA hkn
 go_enter Tryz.func147, Tryz.ntmps147
 go_upto_region 1 with ((with_reducible refine atOp ⟨some 4, .alloc _, _, _, _, _⟩ ?_); refine wpList_alloc_row rfl rfl hashInfoR ?_; intro b4 w1 hb hB hN; have HB4 := Lib.hid hB; have HN1 := Lib.hid hN; have HZ4 := Lib.hid hb; clear hb hB hN)
 go_wp2_with fail
 refine (HBK.out w1 HN1.out).mono ?_
 rintro e w2 ⟨rfl, hN2⟩
 have HN2 : Hid (New w w2) := Lib.hid (HN1.out.tr hN2)
 have HB42 : Hid (Blk w2 b4 60 (secA (List.replicate 32 0))) := Lib.hid (hN2.blk HB4.out)
 clear hN2
 go_upto_region 2 with ((with_reducible refine atOp ⟨some 5, .alloc _, _, _, _, _⟩ ?_); refine wpList_newrow rfl rfl rfl _ _ rfl blkInfo rfl rfl rfl HB64.out (by rw [HBA.out]; exact secA_one _) ?_)
 obtain ⟨w3, hw3⟩ : ∃ w3 : World, w3 = w2.alloc (.cells BA 153) := ⟨_, rfl⟩
 obtain ⟨b5, hb5⟩ : ∃ b5, b5 = w2.heap.size := ⟨_, rfl⟩
 have HN3 : Hid (New w w3) := Lib.hid (HN2.out.tr (by rw [hw3]; exact New.al (New.refl _) _))
 have HB53 : Hid (Blk w3 b5 153 BA) := Lib.hid (by rw [hw3, hb5]; exact Blk.new _ _ _)
 have HB43 : Hid (Blk w3 b4 60 (secA (List.replicate 32 0))) := Lib.hid (by rw [hw3]; exact HB42.out.alloc _)
 have HLT : Hid (b4 < b5) := Lib.hid (by rw [hb5]; exact HB42.out.lt)
 rw [← hw3, ← hb5]
 clear hw3 hb5 HB42 HB4
 go_wp2_with ((with_reducible refine atOp ⟨some 9, .load _ _, _, _, _, _⟩ ?_); refine wpList_load_any rfl _ rfl Tryz.underlying153 rfl (by rw [HB64.out]; rfl) rfl HB53.out ?_)
 refine (HWI.out w3 54).mono ?_
 rintro e w4 ⟨g, rfl, hB, hle, hN4⟩
 have HN4 : Hid (New w w4) := Lib.hid (HN3.out.tr hN4)
 have HBg : Hid (Blk w4 g 153 (secA (xorL 54 bl))) := Lib.hid hB
 have HB44 : Hid (Blk w4 b4 60 (secA (List.replicate 32 0))) := Lib.hid (hN4.blk HB43.out)
 have HB54 : Hid (Blk w4 b5 153 BA) := Lib.hid (hN4.blk HB53.out)
 clear hB hle hN4 HB43 HB53
 go_wp2_with fail
 refine (HJ.out w4 HN4.out).mono ?_
 rintro e w5 ⟨B, d, rfl, hR5, hN5⟩
 have HN5 : Hid (New w w5) := Lib.hid (HN4.out.tr hN5)
 have HBg5 : Hid (Blk w5 g 153 (secA (xorL 54 bl))) := Lib.hid (hN5.blk HBg.out)
 have HB45 : Hid (Blk w5 b4 60 (secA (List.replicate 32 0))) := Lib.hid (hN5.blk HB44.out)
 have HB55 : Hid (Blk w5 b5 153 BA) := Lib.hid (hN5.blk HB54.out)
 have HR5 := Lib.hid hR5
 clear hR5 hN5 HB44 HB54 HBg
 go_wp2_with fail
 obtain ⟨w6, hw6⟩ : ∃ w6 : World, w6 = w5.alloc (.cells #[.slice (some ⟨g, 0, none⟩) 64 64, .slice B fl.length d] 84) := ⟨_, rfl⟩
 obtain ⟨bp, hbp⟩ : ∃ bp, bp = w5.heap.size := ⟨_, rfl⟩
 have hN56 : New w5 w6 := by rw [hw6]; exact New.al (New.refl _) _
 have HN6 : Hid (New w w6) := Lib.hid (HN5.out.tr hN56)
 have HB46 : Hid (Blk w6 b4 60 (secA (List.replicate 32 0))) := Lib.hid (hN56.blk HB45.out)
 have HB56 : Hid (Blk w6 b5 153 BA) := Lib.hid (hN56.blk HB55.out)
 have HP6 : Hid (Parts w6 bp 0 [xorL 54 bl, fl]) := Lib.hid (parts2 (by rw [hw6, hbp]; exact Blk.new _ _ _) HX54.out.1 HX54.out.2 (hN56.blk HBg5.out) rfl HPB.out (hN56.rd HR5.out))
 rw [← hw6, ← hbp]
 clear hw6 hbp hN56 HB45 HB55 HBg5 HR5
 refine (of_any bp 0 2 [xorL 54 bl, fl] 2 rfl w6 (HL.out.new HN6.out) (by simp) HP6.out (by simp) (by have := HX54.out.1; have := HFL.out; simp; omega) (by simp)).mono ?_
 rintro e w7 ⟨rfl, hN7⟩
 have HMI2 : Hid (hsh [xorL 54 bl, fl].flatten = mid) := Lib.hid (by rw [HMI.out]; simp)
 rw [HMI2.out, ← HMA.out]
 have HN7 : Hid (New w w7) := Lib.hid (HN6.out.tr hN7)
 have HB47 : Hid (Blk w7 b4 60 (secA (List.replicate 32 0))) := Lib.hid (hN7.blk HB46.out)
 have HB57 : Hid (Blk w7 b5 153 BA) := Lib.hid (hN7.blk HB56.out)
 clear hN7 HB46 HB56 HP6
 go_upto_region 3 with ((with_reducible refine atOp ⟨some 6, .alloc _, _, _, _, _⟩ ?_); refine wpList_newrow rfl rfl rfl _ _ rfl hashInfoR rfl rfl rfl HM32.out (by rw [HMA.out]; exact secA_one _) ?_)
 obtain ⟨w8, hw8⟩ : ∃ w8 : World, w8 = (w7.alloc (.cells MA 60)).drew := ⟨_, rfl⟩
 obtain ⟨b6, hb6⟩ : ∃ b6, b6 = w7.heap.size := ⟨_, rfl⟩
 have hN78 : New w7 w8 := by rw [hw8]; exact (New.al (New.refl _) _).dr
 have HN8 : Hid (New w w8) := Lib.hid (HN7.out.tr hN78)
 have HB48 : Hid (Blk w8 b4 60 (secA (List.replicate 32 0))) := Lib.hid (hN78.blk HB47.out)
 have HB58 : Hid (Blk w8 b5 153 BA) := Lib.hid (hN78.blk HB57.out)
 have HB68 : Hid (Blk w8 b6 60 MA) := Lib.hid (by rw [hw8, hb6]; exact (Blk.new _ _ _).drew)
 rw [← hb6]
 refine wp_region_mixH (fun w' => Blk w' b5 153 BA) [(true, 0), (true, 2), (false, 1), (false, 3), (false, 4), (false, 5)] (by kernel_rfl) (by kernel_rfl) (by rw [← hw8]; exact HB58.out) (fun hne => ?_)
 rw [← hw8]
 clear hw8 hb6 hN78 HB47 HB57
 refine mix_take_row (cs := BA.toList) (o := ⟨_, _, _, _, _, _⟩) rfl rfl (.tmp 5) rfl rfl (fun w' h => Blk.rangeOf h) Tryz.underlying153 rfl (by rw [Array.length_toList, HB64.out]; rfl) ?_
 rw [Array.toArray_toList]
 refine mix_take (o := ⟨_, _, _, _, _, _⟩) rfl (fun K hK => ?_)
 go_simp
 refine hK _ ?_
 clear hK K
 refine mix_act (o := ⟨_, _, _, _, _, _⟩) rfl (fun K hK => ?_) (.inl rfl)
 go_simp
 refine (HWI.out w8 92).mono ?_
 rintro e w9 ⟨g2, rfl, hB, hle, hN9⟩
 have HN9 : Hid (New w w9) := Lib.hid (HN8.out.tr hN9)
 have HBg : Hid (Blk w9 g2 153 (secA (xorL 92 bl))) := Lib.hid hB
 have HB49 : Hid (Blk w9 b4 60 (secA (List.replicate 32 0))) := Lib.hid (hN9.blk HB48.out)
 have HB59 : Hid (Blk w9 b5 153 BA) := Lib.hid (hN9.blk HB58.out)
 have HB69 : Hid (Blk w9 b6 60 MA) := Lib.hid (hN9.blk HB68.out)
 clear hB hle hN9 HB48 HB58 HB68
 go_simp
 refine hK.out _ _ (fun _ => HB59.out) ?_
 clear hK K
 refine mix_act (o := ⟨_, _, _, _, _, _⟩) rfl (fun K hK => ?_) (.inl rfl)
 go_simp
 obtain ⟨wa, hwa⟩ : ∃ wa : World, wa = w9.alloc (.cells #[.slice (some ⟨g2, 0, none⟩) 64 64, .slice (some ⟨b6, 0, none⟩) 32 32] 84) := ⟨_, rfl⟩
 obtain ⟨bq, hbq⟩ : ∃ bq, bq = w9.heap.size := ⟨_, rfl⟩
 have hNa : New w9 wa := by rw [hwa]; exact New.al (New.refl _) _
 have HNa : Hid (New w wa) := Lib.hid (HN9.out.tr hNa)
 have HB4a : Hid (Blk wa b4 60 (secA (List.replicate 32 0))) := Lib.hid (hNa.blk HB49.out)
 have HB5a : Hid (Blk wa b5 153 BA) := Lib.hid (hNa.blk HB59.out)
 have HPa : Hid (Parts wa bq 0 [xorL 92 bl, mid]) := Lib.hid (parts2 (by rw [hwa, hbq]; exact Blk.new _ _ _) HX92.out.1 HX92.out.2 (hNa.blk HBg.out) HML.out.1 HML.out.2 (by
  have h := Rd.ofBlk (p := fun _ => True) (hNa.blk HB69.out) 1 32 (by rw [HM32.out]) trivial
  rwa [HMA.out, secA_list] at h))
 rw [← hwa, ← hbq]
 refine hK.out _ _ (fun _ => HB5a.out) ?_
 clear hK K hwa hbq hNa HB49 HB59 HB69 HBg
 refine mix_act (o := ⟨_, _, _, _, _, _⟩) rfl (fun K hK => ?_) (.inl rfl)
 go_simp
 refine (of_any bq 0 2 [xorL 92 bl, mid] 2 rfl wa (HL.out.new HNa.out) (by simp) HPa.out (by simp) (by have := HX92.out.1; have := HML.out.1; simp; omega) (by simp)).mono ?_
 rintro e wb ⟨rfl, hNb⟩
 have HFI2 : Hid (hsh [xorL 92 bl, mid].flatten = fin) := Lib.hid (by rw [HFI.out]; simp)
 rw [HFI2.out, ← HFA.out]
 have HNb : Hid (New w wb) := Lib.hid (HNa.out.tr hNb)
 have HB4b : Hid (Blk wb b4 60 (secA (List.replicate 32 0))) := Lib.hid (hNb.blk HB4a.out)
 have HB5b : Hid (Blk wb b5 153 BA) := Lib.hid (hNb.blk HB5a.out)
 clear hNb HB4a HB5a HPa
 go_simp
 refine hK.out _ _ (fun _ => HB5b.out) ?_
 clear hK K
 refine mix_store (o := ⟨_, _, _, _, _, _⟩) rfl rfl (.tmp 4) (.tmp 19) rfl (by rw [HF32.out]; rfl) rfl rfl HB4b.out (by rw [HF32.out]; rfl) (by rw [HFA.out]; exact secA_one _) (fun wc hbc hfc => ⟨fun _ => HB5b.out.fr hfc (by have := HLT.out; omega), ?_⟩)
 have HBc := Lib.hid hbc
 have HFc := Lib.hid hfc
 clear hbc hfc
 refine mix_done ?_
 go_wp2_with fail
 exact bodyPost_ret (v := .agg FA) (results_rowA rfl _ _ b4 _ _ rfl HBc.out Tryz.underlying60 rfl (by rw [HF32.out]; rfl)) rfl ⟨rfl, HNb.out.fr HFc.out (fun j hj => by have := HZ4.out; omega)⟩
end Go.Proofs.YtmibndkofoldkaaGreatDoor
namespace Go.Proofs.YtmibndkofoldkaaGreatDoor
set_option linter.unusedVariables false
set_option linter.unusedSimpArgs false
set_option linter.constructorNameAsVariable false
open Go.RowKit Go.Sort
theorem rd_sec {w : World} {g T : Nat} {xs : List Int} {n k : Nat} (hB : Blk w g T (secA xs)) (hn : xs.length = n) (hk : k ≤ n) : Rd (fun _ => True) w 1 (some ⟨g, 0, none⟩) k (u8s (xs.take k)) := by
 have h := Rd.ofBlk (p := fun _ => True) hB 1 n (by rw [secA_size, hn, Nat.mul_one]) trivial
 rw [secA_list] at h
 exact Rd.take h hk
set_option maxHeartbeats 2000000 in
set_option maxRecDepth 100000 in
theorem short_any {q : Nat → Prop} (A : Option Addr) (n c : Nat) (k : List Int) (b o c2 m : Nat) (ls : List (List Int)) (w : World) (hL : ShaIn 3 1 w) (hR : Rd q w 1 A n (u8s k)) (hk : Byt k) (hn : n ≤ 64) (hm : m = ls.length) (h0 : 1 ≤ ls.length) (h1 : ls.length = 1 → 1 ≤ ls.flatten.length)
    (hP : Parts w b o ls) (hcap : ls.length ≤ c2) (hlen : ls.flatten.length ≤ 400000000) (hln : ls.length ≤ 1000000) :
    Calls Tryz.prog 120 #[.slice A n c, .slice (some ⟨b, o, none⟩) m c2] w fun e w' => (∃ A' c', e = .returned (.slice A' 16 c') ∧ w'.ownsRow w.heap.size 5 1 (.slice A' 16 c') 16 (u8s (shortL k ls.flatten))) ∧ New w w' := by
 have HM := Lib.hid (mac_any A n c k b o c2 m ls w hL hR hk hn hm h0 h1 hP hcap hlen hln)
 have HS : Hid (shortL k ls.flatten = (macL k ls.flatten).take 16) := Lib.hid rfl
 have HL32 : Hid ((macL k ls.flatten).length = 32) := Lib.hid (macL_len _ _)
 obtain ⟨ML, hML⟩ : ∃ ML, ML = macL k ls.flatten := ⟨_, rfl⟩
 obtain ⟨SL, hSL⟩ : ∃ SL, SL = shortL k ls.flatten := ⟨_, rfl⟩
 rw [← hML] at HM HS HL32
 rw [← hSL] at HS ⊢
 obtain ⟨MA, hMA⟩ : ∃ MA, MA = secA ML := ⟨_, rfl⟩
 have HMA := Lib.hid hMA
 have HM32 : Hid (MA.size = 32) := Lib.hid (by rw [hMA, secA_size, HL32.out])
 rw [← hMA] at HM
 clear hL hR hk hn hm h0 h1 hP hcap hlen hln hML hSL hMA
 go_enter Tryz.func120, Tryz.ntmps120
 go_wp2_with fail
 refine HM.out.mono ?_
 rintro e w1 ⟨rfl, hN1⟩
 have HN1 := Lib.hid hN1
 clear hN1 HM
 go_upto_region 2 with ((with_reducible refine atOp ⟨some 5, .alloc _, _, _, _, _⟩ ?_); refine wpList_newrow rfl rfl rfl _ _ rfl hashInfoR rfl rfl rfl HM32.out (by rw [HMA.out]; exact secA_one _) ?_)
 obtain ⟨w2, hw2⟩ : ∃ w2 : World, w2 = w1.alloc (.cells MA 60) := ⟨_, rfl⟩
 obtain ⟨b5, hb5⟩ : ∃ b5, b5 = w1.heap.size := ⟨_, rfl⟩
 have HN2 : Hid (New w w2) := Lib.hid (HN1.out.tr (by rw [hw2]; exact New.al (New.refl _) _))
 have HR2 : Hid (Rd (fun _ => True) w2 1 (some ⟨b5, 0, none⟩) 16 (u8s SL)) := Lib.hid (by
  rw [HS.out]
  exact rd_sec (n := 32) (by rw [hw2, hb5, HMA.out]; exact Blk.new _ _ _) HL32.out (by decide))
 rw [← hw2, ← hb5]
 clear hw2 hb5
 go_wp2_with fail
 refine (bclone_any (some ⟨b5, 0, none⟩) 16 32 SL w2 (rd_szs' HR2.out) (by decide)).mono ?_
 rintro e w3 ⟨⟨A', c', rfl, hO⟩, hN3⟩
 have HO := Lib.hid hO
 have HN3 := Lib.hid hN3
 clear hO hN3
 go_wp2_with fail
 go_ret
 exact ⟨⟨A', c', rfl, own_base HO.out (fun k hk => Nat.le_trans HN2.out.size (own_lt HO.out k hk).1)⟩, HN2.out.tr HN3.out⟩
set_option maxHeartbeats 4000000
set_option maxRecDepth 100000
theorem hsame_any {P Q : Nat → Prop} (A B : Option Addr) (n c m d : Nat) (xs ys : List Int) (w : World) (hA : Rd P w 1 A n (u8s xs)) (hB : Rd Q w 1 B m (u8s ys)) (hx : Byt xs) (hy : Byt ys) (hn : n ≤ 100000000) :
    Calls Tryz.prog 125 #[.slice A n c, .slice B m d] w fun e w' => e = .returned (.bool (decide (xs = ys))) ∧ New w w' := by
 have HLN : Hid (xs.length = n ∧ ys.length = m) := Lib.hid ⟨by have h1 := hA.1; rw [u8s_len] at h1; omega, by have h1 := hB.1; rw [u8s_len] at h1; omega⟩
 have HA := Lib.hid hA
 have HB := Lib.hid hB
 have HBY := Lib.hid (And.intro hx hy)
 clear hA hB hx hy
 by_cases hnm : n = m
 rotate_left
 · skip
   have hne : ((n : Int) != (m : Int)) = true := by simp; omega
   have HE : Hid (decide (xs = ys) = false) := Lib.hid (decide_eq_false fun h => hnm (by rw [← HLN.out.1, ← HLN.out.2, h]))
   clear hnm
   obtain ⟨r, hr⟩ := nm (decide (xs = ys))
   rw [← hr] at HE ⊢
   clear hr
   go_enter Tryz.func125, Tryz.ntmps125
   go_wp2_with fail
   go_ret
   exact ⟨by rw [HE.out]; rfl, New.refl w⟩
 subst hnm
 have HEQ : Hid (unl xs ys n = 0 ↔ xs = ys) := Lib.hid (by rw [← HLN.out.1]; exact unl_all HBY.out.1 HBY.out.2 (by rw [HLN.out.1, HLN.out.2]))
 obtain ⟨r, hr⟩ := nm (decide (xs = ys))
 have HRR : Hid (decide (unl xs ys n = 0) = r) := Lib.hid (by rw [hr]; exact decide_eq_decide.2 HEQ.out)
 rw [← hr]
 clear hr HEQ
 go_enter Tryz.func125, Tryz.ntmps125
 go_wp2_with fail
 go_loopw [5, 14] (fun u i wr => ∃ j : Nat, j ≤ n ∧ i = .int .i64 j ∧ u = .int .u8 (unl xs ys j) ∧ Hid (New w wr)) (fun _ i _ => n - (intOf i).toNat)
 case atStart => exact ⟨0, Nat.zero_le _, rfl, rfl, Lib.hid (New.refl w)⟩
 case round =>
  obtain ⟨j, hj, rfl, rfl, HN⟩ := hrel
  by_cases hlt : j < n
  · as_aux_lemma =>
    obtain ⟨g, o, rfl, -, -, hrg⟩ := (HN.out.rd HA.out).out (by omega) (by omega)
    obtain ⟨g2, o2, rfl, -, -, hrg2⟩ := (HN.out.rd HB.out).out (by omega) (by omega)
    have hl : j < xs.length := by have := HLN.out; omega
    have hm : j < ys.length := by have := HLN.out; omega
    have ca : wr.cell? ⟨g, o + j, none⟩ = some (.int .u8 (xs.getD j 0)) := hrg j _ (by unfold u8s; rw [List.getElem?_map, List.getElem?_eq_getElem hl, List.getD_eq_getElem?_getD, List.getElem?_eq_getElem hl]; rfl)
    have cb : wr.cell? ⟨g2, o2 + j, none⟩ = some (.int .u8 (ys.getD j 0)) := hrg2 j _ (by unfold u8s; rw [List.getElem?_map, List.getElem?_eq_getElem hm, List.getD_eq_getElem?_getD, List.getElem?_eq_getElem hm]; rfl)
    have HU : Hid (unl xs ys (j + 1) = bits .or .u8 (unl xs ys j) (bits .xor .u8 (xs.getD j 0) (ys.getD j 0))) := Lib.hid rfl
    obtain ⟨x, hx⟩ := nm (xs.getD j 0)
    obtain ⟨y, hy⟩ := nm (ys.getD j 0)
    obtain ⟨u, hu⟩ := nm (unl xs ys j)
    rw [← hx] at ca HU
    rw [← hy] at cb HU
    rw [← hu] at HU ⊢
    have hj0 : (0 : Int) ≤ (j : Int) := by omega
    have hjn : (j : Int) < (n : Int) := by omega
    clear hrg hrg2 hl hm hx hy hu
    go_wp2_with go_quiet (fail)
    go_roundw
    case rel => exact ⟨j + 1, by omega, by go_num, by rw [HU.out], Lib.hid (HN.out.dn _)⟩
    case measure => simp [intOf]; omega
  · as_aux_lemma =>
    obtain rfl : j = n := by omega
    obtain ⟨u, hu⟩ := nm (unl xs ys j)
    rw [← hu] at HRR ⊢
    clear hu
    go_wp2_with fail
    go_ret
    exact ⟨by rw [← HRR.out]; rfl, HN.out⟩
theorem check_any {p q : Nat → Prop} (T : Option Addr) (tc : Nat) (tg : List Int) (A : Option Addr) (n c : Nat) (k : List Int) (b o c2 m : Nat) (ls : List (List Int)) (w : World) (hL : ShaIn 3 1 w) (hT : Rd p w 1 T 16 (u8s tg)) (ht : Byt tg) (hR : Rd q w 1 A n (u8s k)) (hk : Byt k) (hn : n ≤ 64) (hm : m = ls.length) (h0 : 1 ≤ ls.length) (h1 : ls.length = 1 → 1 ≤ ls.flatten.length)
    (hP : Parts w b o ls) (hcap : ls.length ≤ c2) (hlen : ls.flatten.length ≤ 400000000) (hln : ls.length ≤ 1000000) :
    Calls Tryz.prog 89 #[.slice T 16 tc, .slice A n c, .slice (some ⟨b, o, none⟩) m c2] w fun e w' => e = .returned (.bool (decide (tg = shortL k ls.flatten))) ∧ New w w' := by
 have HM := Lib.hid (mac_any A n c k b o c2 m ls w hL hR hk hn hm h0 h1 hP hcap hlen hln)
 have HS : Hid (shortL k ls.flatten = (macL k ls.flatten).take 16) := Lib.hid rfl
 have HL32 : Hid ((macL k ls.flatten).length = 32) := Lib.hid (macL_len _ _)
 have HSB : Hid (Byt (shortL k ls.flatten)) := Lib.hid (shortL_byt _ _)
 have HT := Lib.hid (And.intro hT ht)
 obtain ⟨ML, hML⟩ : ∃ ML, ML = macL k ls.flatten := ⟨_, rfl⟩
 obtain ⟨SL, hSL⟩ : ∃ SL, SL = shortL k ls.flatten := ⟨_, rfl⟩
 rw [← hML] at HM HS HL32
 rw [← hSL] at HS HSB ⊢
 obtain ⟨MA, hMA⟩ : ∃ MA, MA = secA ML := ⟨_, rfl⟩
 have HMA := Lib.hid hMA
 have HM32 : Hid (MA.size = 32) := Lib.hid (by rw [hMA, secA_size, HL32.out])
 rw [← hMA] at HM
 clear hL hR hk hn hm h0 h1 hP hcap hlen hln hML hSL hMA hT ht
 go_enter Tryz.func89, Tryz.ntmps89
 go_wp2_with fail
 refine HM.out.mono ?_
 rintro e w1 ⟨rfl, hN1⟩
 have HN1 := Lib.hid hN1
 clear hN1 HM
 go_upto_region 2 with ((with_reducible refine atOp ⟨some 7, .alloc _, _, _, _, _⟩ ?_); refine wpList_newrow rfl rfl rfl _ _ rfl hashInfoR rfl rfl rfl HM32.out (by rw [HMA.out]; exact secA_one _) ?_)
 obtain ⟨w2, hw2⟩ : ∃ w2 : World, w2 = w1.alloc (.cells MA 60) := ⟨_, rfl⟩
 obtain ⟨b5, hb5⟩ : ∃ b5, b5 = w1.heap.size := ⟨_, rfl⟩
 have HN2 : Hid (New w w2) := Lib.hid (HN1.out.tr (by rw [hw2]; exact New.al (New.refl _) _))
 have HR2 : Hid (Rd (fun _ => True) w2 1 (some ⟨b5, 0, none⟩) 16 (u8s SL)) := Lib.hid (by
  rw [HS.out]
  exact rd_sec (n := 32) (by rw [hw2, hb5, HMA.out]; exact Blk.new _ _ _) HL32.out (by decide))
 rw [← hw2, ← hb5]
 clear hw2 hb5
 go_wp2_with fail
 refine (hsame_any T (some ⟨b5, 0, none⟩) 16 tc 16 32 tg SL w2 (HN2.out.rd HT.out.1) HR2.out HT.out.2 HSB.out (by decide)).mono ?_
 rintro e w3 ⟨rfl, hN3⟩
 have HN3 := Lib.hid hN3
 clear hN3
 go_wp2_with fail
 go_ret
 exact ⟨rfl, HN2.out.tr HN3.out⟩
end Go.Proofs.YtmibndkofoldkaaGreatDoor
