/- Texts of one proof, one behind the other: ClK, ClL. No condition but each one's own. -/
import Derived.Test.YtmibndkofoldkaaGreatDoorClientNilM32
import Derived.Test.YtmibndkofoldkaaGreatDoorClientNilM33
import Derived.Test.YtmibndkofoldkaaGreatDoorClientNilM31
namespace Go.Proofs.YtmibndkofoldkaaGreatDoor
set_option linter.unusedVariables false
set_option linter.unusedSimpArgs false
set_option linter.constructorNameAsVariable false
open Go.RowKit Go.Sort Go.Maps
set_option maxHeartbeats 4000000
set_option maxRecDepth 100000
theorem ldisk_any (n : Nat) (W w : World) (hN : New W w) (hL : ShaIn 3 1 W) (hn : 1 ≤ n ∧ n ≤ 4294967296) : Calls Tryz.prog 9 #[.int .u64 n] w fun e w' => ∃ g p', e = .returned (.pointer (some ⟨g, 0, none⟩)) ∧ Dsk W w' g p' ∧ Kst p' ⟨1, fstR n, false⟩ ∧ p'.fuse = -1 := by
 have HN := Lib.hid hN
 have HL := Lib.hid hL
 have HNN := Lib.hid hn
 clear hN hL hn
 go_enter Tryz.func9, Tryz.ntmps9
 go_wp2_with fail
 refine (dnew_d HN.out 4 (by omega) (by omega)).mono ?_
 rintro e w1 ⟨g, rfl, hD, -⟩
 have HD := Lib.hid hD
 clear hD
 go_wp2_with fail
 refine (cformat_ok (k := KR.new) n w1 HD.out HL.out (Kst.new (by omega) (by omega)) ⟨by decide, by decide⟩ (by decide) HNN.out).mono ?_
 rintro e w2 ⟨rfl, p', hD, hK, hf⟩
 have HD2 := Lib.hid hD
 have HK2 := Lib.hid (And.intro hK hf)
 clear hD hK hf
 go_wp2_with fail
 go_ret
 exact ⟨g, p', rfl, HD2.out, HK2.out.1, HK2.out.2⟩
theorem set_link (key : List Int) (w : World) : (Instr.field 105 (.agg (secA (setL key))) 3).run Tryz.prog w = .ok (.agg (secA (linkK key))) w := by
 have hf : ((Tryz.prog.fieldsOf 105)[3]?).map (fun f => (f.type, f.offset)) = some (60, 80) := by kernel_rfl
 cases hq : (Tryz.prog.fieldsOf 105)[3]? with
 | none => rw [hq] at hf; cases hf
 | some f =>
  rw [hq] at hf
  simp only [Option.map_some, Option.some.injEq, Prod.mk.injEq] at hf
  have hu : (underlying 105).run Tryz.prog w = .ok (.struct (Tryz.prog.fieldsOf 105)) w := run_underlying Tryz.underlying105 w
  have h1 : (isAgg 60).run Tryz.prog w = .ok true w := by simp [isAgg, run_underlying Tryz.underlying60]
  have h2 : (sizeOf 60).run Tryz.prog w = .ok 32 w := by
   have := hashInfoR
   cases hq : Tryz.prog.info? 60 with
   | none => rw [hq] at this; cases this
   | some i => rw [hq] at this; simp only [Option.map_some, Option.some.injEq, Prod.mk.injEq] at this; simp [sizeOf, typeInfo, hq, this.2]
  have e : (secA (setL key)).extract 80 (80 + 32) = secA (linkK key) := by
   unfold secA setL
   rw [List.extract_toArray, List.extract_eq_take_drop]
   simp only [u8s_app]
   rw [List.drop_append_of_le_length (by simp [u8s_len, encK_len, tagK_len, tickK_len]), List.drop_of_length_le (by simp [u8s_len, encK_len, tagK_len, tickK_len]), List.nil_append, List.take_of_length_le (by simp [u8s_len, linkK_len])]
  have hp : (part 60 (secA (setL key)) 80).run Tryz.prog w = .ok (.agg (secA (linkK key))) w := part_agg h1 h2 e
  unfold Instr.field
  simp [Sem.run_bind, hu, hq, asAgg, hf.1, hf.2, hp]
theorem lasked_any {q : Nat → Prop} (key : List Int) (ses s k e : Nat) (A : Option Addr) (d : Nat) (w : World) (hL : ShaIn 3 1 w) (hk : key.length = 16 ∧ Byt key) (hse : ses < 18446744073709551616) (hs : s < 18446744073709551616) (hkk : k = 4 ∨ k = 5) (he : e < 18446744073709551616) (hR : Rd q w 1 A 42 (u8s (frmL (linkK key) 1 ses (rqE s k e)))) (hd : 42 ≤ d) :
    Calls Tryz.prog 35 #[.agg (secA key), .int .u64 ses, .slice A 42 d] w fun x w' => x = .returned (.tuple #[.agg (rmE s k e).cells.toArray, .bool true]) ∧ New w w' := by
 have HKO := Lib.hid (fun W' (hL : ShaIn 3 1 W') => keysOf_any key W' hL hk)
 have HLO := Lib.hid (fun W' (hN : New w W') => lopen_any (linkK key) 1 ses A 17 d (rqE s k e) W' (hL.new hN) ⟨linkK_len key, linkK_byt key⟩ (.inl rfl) hse (hN.rd hR) (rqE_byt _ _ _) ⟨rqE_len _ _ _, by decide⟩ hd)
 have HPE := Lib.hid (fun (q : Nat → Prop) A c W' (hR : Rd q W' 1 A 17 (u8s (rqE s k e))) => parse_epoch s k e A c W' hs hkk he hR)
 have HF := Lib.hid (set_link key)
 have HL := Lib.hid hL
 have HC : Hid ((rmE s k e).cells.toArray.size = 28 ∧ (rmE s k e).cells.toArray.all (·.oneCell') = true) := Lib.hid ⟨rfl, Rm.one _⟩
 obtain ⟨KA, hKA⟩ := nm (secA key)
 have HZ : Hid (KA.size = 16 ∧ KA.all (·.oneCell') = true) := Lib.hid ⟨by rw [hKA, secA_size, hk.1], by rw [hKA]; exact secA_one _⟩
 obtain ⟨SA, hSA⟩ := nm (secA (setL key))
 obtain ⟨LA, hLA⟩ := nm (secA (linkK key))
 obtain ⟨X, hX⟩ := nm (rmE s k e).cells.toArray
 simp only [← hKA, ← hSA, ← hLA, ← hX] at HKO HLO HPE HF HC ⊢
 have hf := HF.out
 clear hk hse hs hkk he hR hL hKA hSA hLA hX
 go_enter Tryz.func35, Tryz.ntmps35
 go_upto_region 1 with ((with_reducible refine atOp ⟨some 6, .alloc _, _, _, _, _⟩ ?_); refine wpList_alloc_row rfl rfl rqInfo ?_; intro b6 w1 hb hB hN; have HB6 := Lib.hid hB; have HN1 := Lib.hid hN; have HZ6 := Lib.hid hb; clear hb hB hN)
 obtain ⟨b3, hb3⟩ := nm w.heap.size
 have hN0 : New w (w.alloc (.cells KA 23)) := New.al (New.refl _) _
 have HB31 : Hid (Blk w1 b3 23 KA) := Lib.hid (by rw [hb3]; exact HN1.out.blk (Blk.new _ _ _))
 have HG : Hid (w.heap.size < b6) := Lib.hid (by rw [HZ6.out]; exact (Blk.new w 23 KA).lt)
 have HN1' : Hid (New w w1) := Lib.hid (hN0.tr HN1.out)
 rw [← hb3]
 clear hb3 hN0 HN1
 go_wp2_with ((with_reducible refine atOp ⟨some 12, .load _ _, _, _, _, _⟩ ?_); refine wpList_load_any rfl _ rfl Tryz.underlying23 rfl (by rw [HZ.out.1]; rfl) rfl HB31.out ?_)
 refine (HKO.out w1 (HL.out.new HN1'.out)).mono ?_
 rintro x w2 ⟨rfl, hN2⟩
 have HN2 : Hid (New w w2) := Lib.hid (HN1'.out.tr hN2)
 have HB62 := Lib.hid (hN2.blk HB6.out)
 clear hN2 HB31 HB6 HN1'
 go_wp2_with fail
 refine (HLO.out w2 HN2.out).mono ?_
 rintro x w3 ⟨⟨A', c', rfl, ho⟩, hN3⟩
 have HR3 := Lib.hid (Rd.own ho rfl)
 have HN3 : Hid (New w w3) := Lib.hid (HN2.out.tr hN3)
 have HB63 := Lib.hid (hN3.blk HB62.out)
 clear ho hN3 HN2 HB62
 go_wp2_with fail
 refine (HPE.out _ A' c' w3 HR3.out).mono ?_
 rintro x w4 ⟨rfl, hN4⟩
 have HN4 : Hid (New w w4) := Lib.hid (HN3.out.tr hN4)
 have HB64 := Lib.hid (hN4.blk HB63.out)
 clear hN4 HN3 HB63 HR3
 go_upto_region 5 with ((with_reducible refine atOp ⟨some 10, .alloc _, _, _, _, _⟩ ?_); refine wpList_newrow rfl rfl rfl (.tmp 10) (.tmp 26) rfl rqInfo rfl rfl rfl HC.out.1 HC.out.2 ?_)
 obtain ⟨b10, hb10⟩ := nm w4.heap.size
 refine wp_world fun w5 hw5 => ?_
 have hN5 : New w4 w5 := by rw [hw5.out]; exact New.al (New.refl _) _
 have HN5 : Hid (New w w5) := Lib.hid (HN4.out.tr hN5)
 have HB65 := Lib.hid (hN5.blk HB64.out)
 have HB10 : Hid (Blk w5.drew b10 91 X) := Lib.hid (by rw [hw5.out, hb10]; exact Blk.new _ _ _)
 have HNEb : b6 ≠ b10 := by have := HB64.out.lt; omega
 rw [← hb10]
 clear hw5 hb10 hN5 HB64
 have HB66 := Lib.hid ((New.dr (New.refl w5)).blk HB65.out)
 have HN6 : Hid (New w w5.drew) := Lib.hid (HN5.out.tr (New.dr (New.refl w5)))
 have HNE : Hid (b6 ≠ b10) := Lib.hid HNEb
 clear HNEb HN5 HB65
 refine wp_region_mixH (fun w' => Blk w' b10 91 X) [(true, 0), (true, 1), (true, 2), (false, 3), (true, 4)] (by kernel_rfl) (by kernel_rfl) HB10.out (fun hne => ?_)
 refine mix_take_row (cs := X.toList) (o := ⟨_, _, _, _, _, _⟩) rfl rfl (.tmp 10) rfl rfl (fun w' h => Blk.rangeOf h) Tryz.underlying91 rfl (by rw [Array.length_toList, HC.out.1]; rfl) ?_
 rw [Array.toArray_toList]
 iterate 2 (refine mix_take (o := ⟨_, _, _, _, _, _⟩) rfl (fun K hK => ?_); go_simp; refine hK _ ?_; clear hK K)
 refine mix_store (o := ⟨_, _, _, _, _, _⟩) (cs := X) rfl rfl (.tmp 6) (.tmp 28) rfl (by rw [HC.out.1]; rfl) rfl rfl HB66.out (by rw [HC.out.1]; rfl) HC.out.2 ?_
 intro w7 hb7 hf7
 refine ⟨fun _ => HB10.out.fr hf7 (fun h => HNE.out h.symm), ?_⟩
 have HB7 := Lib.hid hb7
 have HN7 : Hid (New w w7) := Lib.hid (HN6.out.fr hf7 (fun k hk => by have := HG.out; omega))
 clear hb7 hf7
 refine mix_take (o := ⟨_, _, _, _, _, _⟩) rfl (fun K hK => ?_)
 go_simp
 refine hK _ ?_
 clear hK K
 refine mix_done ?_
 go_wp2_with fail
 exact bodyPost_ret (results_row2h rfl _ _ b6 _ _ rfl HB7.out Tryz.underlying91 rfl (by rw [HC.out.1]; rfl)) rfl ⟨rfl, HN7.out⟩
theorem key_zero : Tryz.prog.built 23 [] = some (secA (List.replicate 16 0)) := by kernel_rfl
theorem fr_one {w : World} {base : Nat} {v : Value} {f : List Int} (h : FrIn w base v [f]) : ∃ g0 cap A d cur, v = .slice (some ⟨g0, 0, none⟩) 1 cap ∧ Blk w g0 84 cur ∧ cur[0]? = some (.slice A f.length d) ∧ base ≤ g0 ∧ f.length ≤ d ∧ w.ownsRow base 5 1 (.slice A f.length d) f.length (u8s f) := by
 obtain ⟨rs, hrow, hfs⟩ := h
 obtain ⟨-, A, d, hr0, hd0, hf0⟩ := hfs 0 _ rfl
 rcases hrow.2 with ⟨_, h0⟩ | ⟨g, cap, cur, rfl, hb, hh, h1, h2, h3, h4⟩
 · cases h0
 · refine ⟨g, cap, A, d, cur, rfl, hh, ?_, hb, hd0, hf0⟩
   rw [← h4, List.getElem?_take] at hr0
   simpa using hr0
theorem calive_any (W : World) (hL : ShaIn 3 1 W) : Calls Tryz.prog 7 #[] W fun e w' => e = .returned (.bool true) ∧ New W w' := by
 have HL := Lib.hid hL
 obtain ⟨key, hkey⟩ := nm (List.replicate 16 (0 : Int))
 have HKY : Hid (key.length = 16 ∧ Byt key) := Lib.hid ⟨by rw [hkey]; rfl, by rw [hkey]; exact fun x hx => by have := List.eq_of_mem_replicate hx; omega⟩
 have HK0 := Lib.hid key_zero
 rw [← hkey] at HK0
 have HCO := Lib.hid (fun gd p w (hD : Dsk W w gd p) (hK : Kst p ⟨1, fstR 4, false⟩) (hf : p.fuse = -1) => copen_ok key 1 4 5 w hD hL hK (by decide) ⟨by omega, by omega⟩ (by decide) (by decide) HKY.out (by decide) (by decide) (by decide) (by decide) (by decide))
 unfold optV at HCO
 have HAS := Lib.hid (fun (q : Nat → Prop) ses s k e A d w hL => lasked_any (q := q) key ses s k e A d w hL HKY.out)
 obtain ⟨KA, hKA⟩ := nm (secA key)
 simp only [← hKA] at HK0 HCO HAS
 have HKS : Hid (KA.size = 16) := Lib.hid (by rw [hKA, secA_size, HKY.out.1])
 clear hL hkey hKA
 go_enter Tryz.func7, Tryz.ntmps7
 go_wp2_with fail
 refine (ldisk_any 4 W W (New.refl W) HL.out ⟨by decide, by decide⟩).mono ?_
 rintro e w1 ⟨gd, p, rfl, hD, hK, hf⟩
 have HO := Lib.hid (HCO.out gd p w1 hD hK hf)
 clear hD hK hf
 go_wp2_with ((with_reducible refine atOp ⟨some 12, .build _ _, _, _, _, _⟩ ?_); refine wpList_built rfl 23 [] rfl [] rfl KA HK0.out ?_)
 refine HO.out.mono ?_
 intro e w2 h
 obtain ⟨gc, gk_, gs, gw, gt, v', vt, vw, r, p', rfl, hC, hv, hF, -, -, -, hgc, hKp, -, -⟩ := h
 have ho : (Cm.Ok { cmNew { (fstR 4) with session := (fstR 4).session + 1 } gk_ gs key gw gt with given := 1, fr := v' }) := ⟨(fstR_ok (by decide)).len, (fstR_ok (by decide)).len, hv, rfl⟩
 have hse : (fstR 4).session + 1 = 1 := rfl
 have hep : (fstR 4).epoch = 0 := rfl
 rw [hse] at hC ho hF
 rw [hep] at hF
 obtain ⟨C, hCC⟩ := nm { cmNew { (fstR 4) with session := 1 } gk_ gs key gw gt with given := 1, fr := v' }
 have hst : C.state = 1 := by rw [hCC]; rfl
 have hss : C.sv.session = 1 := by rw [hCC]; rfl
 have hfr : C.fr = v' := by rw [hCC]
 rw [← hCC] at hC ho
 obtain ⟨g0, cap, A, d, cur, rfl, hB0, hc0, hr0, hd0, hf0⟩ := fr_one hF
 have hfl : (frmL (linkK key) 1 1 (rqE 0 4 0)).length = 42 := by rw [frmL_len, rqE_len]
 rw [hfl] at hf0 hd0 hc0
 have HC2 := Lib.hid hC
 have HOK := Lib.hid ho
 have HN2 := Lib.hid hKp.nw
 have HGC := Lib.hid hgc
 have HST := Lib.hid hst
 have HSS := Lib.hid hss
 have HFR := Lib.hid hfr
 have HB0 := Lib.hid hB0
 have HC0 := Lib.hid (And.intro hc0 hr0)
 have HRD := Lib.hid hf0
 have HD0 := Lib.hid hd0
 clear hCC hst hss hfr hC ho hv hr0 hd0 hf0 hB0 hc0 hse hep hKp hfl hF
 go_wp2_with (first | (refine (cstate_cl _ HC2.out HOK.out).mono ?_; rintro e w3 ⟨rfl, rfl⟩; rw [HST.out]))
 refine (cframes_cl _ HC2.out HOK.out HFR.out).mono ?_
 rintro e w3 ⟨rfl, hC3, hF3⟩
 have HC3 := Lib.hid hC3
 have HB3 := Lib.hid (HB0.out.fr hF3 (Blk.ne_ HB0.out HC2.out (by decide)))
 have HR3 := Lib.hid (own_fr HRD.out hF3 (fun k hk h => own_ne HRD.out HC2.out (by decide) (by rw [← h]; exact hk)))
 have HN3 : Hid (New W w3) := Lib.hid (HN2.out.fr hF3 (fun k hk => by rw [hk]; exact HGC.out))
 obtain ⟨C2, hC2⟩ := nm { C with fr := .slice none 0 0 }
 have HO3 : Hid (C2.Ok ∧ C2.sv.session = 1) := Lib.hid (by rw [hC2]; exact ⟨⟨HOK.out.root, HOK.out.sv, rfl, HOK.out.oo⟩, HSS.out⟩)
 rw [← hC2] at HC3
 clear hC3 hF3 hC2 HC2 HB0 HRD HN2 HOK HFR HSS HST
 go_upto_region 10 with fail
 have HD4 : Hid (Blk w3.drew g0 84 cur ∧ Blk w3.drew gc 109 C2.cells.toArray) := Lib.hid ⟨(New.dr (New.refl w3)).blk HB3.out, (New.dr (New.refl w3)).blk HC3.out⟩
 have HX : Hid ((rmE 0 4 0).cells.toArray.size = 28 ∧ (rmE 0 4 0).cells.toArray.all (·.oneCell') = true) := Lib.hid ⟨rfl, Rm.one _⟩
 have HX1 : Hid (∀ W b T, Blk W b T (rmE 0 4 0).cells.toArray → W.cell? ⟨b, 1, none⟩ = some (.int .i64 4) ∧ W.cell? ⟨b, 27, none⟩ = some (.int .u64 0)) := Lib.hid fun W b T h => ⟨h.cell 1, h.cell 27⟩
 obtain ⟨X, hX⟩ := nm (rmE 0 4 0).cells.toArray
 have HXe := Lib.hid hX
 rw [← hX] at HX HX1
 clear hX
 have HN4 : Hid (New W w3.drew) := Lib.hid (HN3.out.tr (New.dr (New.refl w3)))
 have HR4 := Lib.hid (own_fr HR3.out ((New.dr (New.refl w3)).toFr NoB) (fun _ _ h => h.elim))
 refine wp_region_tree (fun w' => Blk w' g0 84 cur ∧ Blk w' gc 109 C2.cells.toArray) (.take 0 (.take 1 (.take 3 (.take 4 (.take 5 (.two 2 (.two 6 (.take 7 (.take 8 (.take 9 (.act 10 (.act 11 (.take 12 .done)))))) 10 (.act 6 (.take 7 (.take 8 (.take 9 (.act 11 (.take 12 .done))))))) 10 (.act 2 (.act 6 (.take 7 (.take 8 (.take 9 (.act 11 (.take 12 .done))))))))))))) (by kernel_rfl) (by kernel_rfl) HD4.out (fun hne => ?_)
 refine tree_take_built (o := ⟨_, _, _, _, _, _⟩) rfl rfl 23 [] rfl [] rfl KA HK0.out ?_
 have q0 : ∀ p : HW (fun w' => Blk w' g0 84 cur ∧ Blk w' gc 109 C2.cells.toArray), p.w.cell? ⟨g0, 0, none⟩ = some (.slice A 42 d) := fun p => by rw [p.h.1.cell 0]; exact HC0.out.1
 iterate 4 (refine tree_take (o := ⟨_, _, _, _, _, _⟩) rfl (fun K hK => ?_); go_simp; refine hK _ ?_; clear hK K)
 clear q0
 refine And.intro ?_ ?_
 · refine act_ok (o := ⟨_, _, _, _, _, _⟩) rfl (fun K hK => ?_) (.inl rfl)
   go_simp
   refine (cses_cl _ HD4.out.2 HO3.out.1).mono ?_
   rintro e w4 ⟨rfl, hw4⟩
   subst hw4
   rw [HO3.out.2]
   go_simp
   refine hK.out _ _ HD4.out ?_
   clear hK K
   refine And.intro ?_ ?_
   · refine act_ok (o := ⟨_, _, _, _, _, _⟩) rfl (fun K hK => ?_) (.inl rfl)
     go_simp
     refine (HAS.out _ 1 0 4 0 A d w3.drew (HL.out.new HN4.out) (by decide) (by decide) (.inl rfl) (by decide) (Rd.own (HR4.out) rfl) HD0.out).mono ?_
     rintro e w5 ⟨rfl, hN⟩
     rw [← HXe.out]
     have HN5 : Hid (New W w5) := Lib.hid (HN4.out.tr hN)
     have HD5 : Hid (Blk w5 g0 84 cur ∧ Blk w5 gc 109 C2.cells.toArray) := Lib.hid ⟨hN.blk HD4.out.1, hN.blk HD4.out.2⟩
     clear hN
     go_simp
     refine hK.out _ _ HD5.out ?_
     clear hK K
     iterate 3 (refine tree_take (o := ⟨_, _, _, _, _, _⟩) rfl (fun K hK => ?_); go_simp; refine hK _ ?_; clear hK K)
     refine actok_alloc (o := ⟨_, _, _, _, _, _⟩) rfl rfl rfl rqInfo ?_
     intro b5 w6 hB hN hb
     have HN6 : Hid (New W w6) := Lib.hid (HN5.out.tr hN)
     have HD6 : Hid (Blk w6 g0 84 cur ∧ Blk w6 gc 109 C2.cells.toArray) := Lib.hid ⟨hN.blk HD5.out.1, hN.blk HD5.out.2⟩
     have HB6 := Lib.hid hB
     have HG5 : Hid (W.heap.size ≤ b5 ∧ b5 ≠ g0 ∧ b5 ≠ gc) := Lib.hid ⟨Nat.le_trans HN5.out.size hb, by have := HD5.out.1.lt; omega, by have := HD5.out.2.lt; omega⟩
     clear hB hN hb
     refine ⟨HD6.out, ?_⟩
     refine actok_store (o := ⟨_, _, _, _, _, _⟩) (cs := X) rfl rfl (.tmp 5) (.tmp 37) rfl (by rw [HX.out.1]; rfl) rfl rfl HB6.out (by rw [HX.out.1]; rfl) HX.out.2 ?_
     intro w9 hb9 hf9
     refine ⟨⟨HD6.out.1.fr hf9 (fun h => HG5.out.2.1 h.symm), HD6.out.2.fr hf9 (fun h => HG5.out.2.2 h.symm)⟩, ?_⟩
     have HB9 := Lib.hid hb9
     have HN9 : Hid (New W w9) := Lib.hid (HN6.out.fr hf9 (fun k hk => by have := HG5.out; omega))
     clear hb9 hf9
     refine tree_take (o := ⟨_, _, _, _, _, _⟩) rfl (fun K hK => ?_); go_simp; refine hK _ ?_; clear hK K
     refine tree_done ?_
     have c1 := (HX1.out _ _ _ HB9.out).1
     have c2 := (HX1.out _ _ _ HB9.out).2
     go_wp2_with fail
     go_ret
     exact ⟨rfl, HN9.out⟩
   · refine actok_alloc (o := ⟨_, _, _, _, _, _⟩) rfl rfl rfl rqInfo ?_
     intro b5 w5 hB hN hb
     have HN5 : Hid (New W w5) := Lib.hid (HN4.out.tr hN)
     have HD5 : Hid (Blk w5 g0 84 cur ∧ Blk w5 gc 109 C2.cells.toArray) := Lib.hid ⟨hN.blk HD4.out.1, hN.blk HD4.out.2⟩
     have HR5 := Lib.hid (own_fr HR4.out (hN.toFr NoB) (fun _ _ h => h.elim))
     have HB5 := Lib.hid hB
     have HG5 : Hid (W.heap.size ≤ b5 ∧ b5 ≠ g0 ∧ b5 ≠ gc) := Lib.hid ⟨Nat.le_trans HN4.out.size hb, by have := HD4.out.1.lt; omega, by have := HD4.out.2.lt; omega⟩
     clear hB hN hb
     refine ⟨HD5.out, ?_⟩
     refine act_ok (o := ⟨_, _, _, _, _, _⟩) rfl (fun K hK => ?_) (.inl rfl)
     go_simp
     refine (HAS.out _ 1 0 4 0 A d w5 (HL.out.new HN5.out) (by decide) (by decide) (.inl rfl) (by decide) (Rd.own (HR5.out) rfl) HD0.out).mono ?_
     rintro e w6 ⟨rfl, hN⟩
     rw [← HXe.out]
     have HN6 : Hid (New W w6) := Lib.hid (HN5.out.tr hN)
     have HD6 : Hid (Blk w6 g0 84 cur ∧ Blk w6 gc 109 C2.cells.toArray) := Lib.hid ⟨hN.blk HD5.out.1, hN.blk HD5.out.2⟩
     have HB6 := Lib.hid (hN.blk HB5.out)
     clear hN
     go_simp
     refine hK.out _ _ HD6.out ?_
     clear hK K
     iterate 3 (refine tree_take (o := ⟨_, _, _, _, _, _⟩) rfl (fun K hK => ?_); go_simp; refine hK _ ?_; clear hK K)
     refine actok_store (o := ⟨_, _, _, _, _, _⟩) (cs := X) rfl rfl (.tmp 5) (.tmp 37) rfl (by rw [HX.out.1]; rfl) rfl rfl HB6.out (by rw [HX.out.1]; rfl) HX.out.2 ?_
     intro w9 hb9 hf9
     refine ⟨⟨HD6.out.1.fr hf9 (fun h => HG5.out.2.1 h.symm), HD6.out.2.fr hf9 (fun h => HG5.out.2.2 h.symm)⟩, ?_⟩
     have HB9 := Lib.hid hb9
     have HN9 : Hid (New W w9) := Lib.hid (HN6.out.fr hf9 (fun k hk => by have := HG5.out; omega))
     clear hb9 hf9
     refine tree_take (o := ⟨_, _, _, _, _, _⟩) rfl (fun K hK => ?_); go_simp; refine hK _ ?_; clear hK K
     refine tree_done ?_
     have c1 := (HX1.out _ _ _ HB9.out).1
     have c2 := (HX1.out _ _ _ HB9.out).2
     go_wp2_with fail
     go_ret
     exact ⟨rfl, HN9.out⟩
 · refine actok_alloc (o := ⟨_, _, _, _, _, _⟩) rfl rfl rfl rqInfo ?_
   intro b5 w5 hB hN hb
   have HN5 : Hid (New W w5) := Lib.hid (HN4.out.tr hN)
   have HD5 : Hid (Blk w5 g0 84 cur ∧ Blk w5 gc 109 C2.cells.toArray) := Lib.hid ⟨hN.blk HD4.out.1, hN.blk HD4.out.2⟩
   have HR5 := Lib.hid (own_fr HR4.out (hN.toFr NoB) (fun _ _ h => h.elim))
   have HB5 := Lib.hid hB
   have HG5 : Hid (W.heap.size ≤ b5 ∧ b5 ≠ g0 ∧ b5 ≠ gc) := Lib.hid ⟨Nat.le_trans HN4.out.size hb, by have := HD4.out.1.lt; omega, by have := HD4.out.2.lt; omega⟩
   clear hB hN hb
   refine ⟨HD5.out, ?_⟩
   refine act_ok (o := ⟨_, _, _, _, _, _⟩) rfl (fun K hK => ?_) (.inl rfl)
   go_simp
   refine (cses_cl _ HD5.out.2 HO3.out.1).mono ?_
   rintro e w4 ⟨rfl, hw4⟩
   subst hw4
   rw [HO3.out.2]
   go_simp
   refine hK.out _ _ HD5.out ?_
   clear hK K
   refine act_ok (o := ⟨_, _, _, _, _, _⟩) rfl (fun K hK => ?_) (.inl rfl)
   go_simp
   refine (HAS.out _ 1 0 4 0 A d w4 (HL.out.new HN5.out) (by decide) (by decide) (.inl rfl) (by decide) (Rd.own (HR5.out) rfl) HD0.out).mono ?_
   rintro e w6 ⟨rfl, hN⟩
   rw [← HXe.out]
   have HN6 : Hid (New W w6) := Lib.hid (HN5.out.tr hN)
   have HD6 : Hid (Blk w6 g0 84 cur ∧ Blk w6 gc 109 C2.cells.toArray) := Lib.hid ⟨hN.blk HD5.out.1, hN.blk HD5.out.2⟩
   have HB6 := Lib.hid (hN.blk HB5.out)
   clear hN
   go_simp
   refine hK.out _ _ HD6.out ?_
   clear hK K
   iterate 3 (refine tree_take (o := ⟨_, _, _, _, _, _⟩) rfl (fun K hK => ?_); go_simp; refine hK _ ?_; clear hK K)
   refine actok_store (o := ⟨_, _, _, _, _, _⟩) (cs := X) rfl rfl (.tmp 5) (.tmp 37) rfl (by rw [HX.out.1]; rfl) rfl rfl HB6.out (by rw [HX.out.1]; rfl) HX.out.2 ?_
   intro w9 hb9 hf9
   refine ⟨⟨HD6.out.1.fr hf9 (fun h => HG5.out.2.1 h.symm), HD6.out.2.fr hf9 (fun h => HG5.out.2.2 h.symm)⟩, ?_⟩
   have HB9 := Lib.hid hb9
   have HN9 : Hid (New W w9) := Lib.hid (HN6.out.fr hf9 (fun k hk => by have := HG5.out; omega))
   clear hb9 hf9
   refine tree_take (o := ⟨_, _, _, _, _, _⟩) rfl (fun K hK => ?_); go_simp; refine hK _ ?_; clear hK K
   refine tree_done ?_
   have c1 := (HX1.out _ _ _ HB9.out).1
   have c2 := (HX1.out _ _ _ HB9.out).2
   go_wp2_with fail
   go_ret
   exact ⟨rfl, HN9.out⟩
end Go.Proofs.YtmibndkofoldkaaGreatDoor
namespace Go.Proofs.YtmibndkofoldkaaGreatDoor
set_option linter.unusedVariables false
set_option linter.unusedSimpArgs false
set_option linter.constructorNameAsVariable false
open Go.RowKit Go.Sort Go.Maps
set_option maxHeartbeats 8000000
set_option maxRecDepth 100000
theorem neq_rec {r s : Rc} (hr : r.Ok) (hs : s.Ok) (w : World) : (binOp .neq 63 (.agg r.cells) (.agg s.cells)).run Tryz.prog w = .ok (.bool (!decide (r = s))) w := by
 rw [run_neq_struct, equalIn_rc Tryz.underlying63 (by kernel_rfl) (by kernel_rfl) hr hs w]
 rfl
theorem neq_h {x y : List Int} (hx : x.length = 32) (hy : y.length = 32) (bx : Byt x) (by_ : Byt y) (w : World) : (binOp .neq 60 (.agg (secA x)) (.agg (secA y))).run Tryz.prog w = .ok (.bool (!decide (x = y))) w := by
 exact run_neq_sec (P := Tryz.prog) Tryz.underlying60 Tryz.underlying5 (fun w => (by first | exact Tryz.sizeOf5 w | kernel_rfl)) hx hy bx by_ w
theorem cnil_main (key : List Int) (n : Nat) (a b d s : Int) (hk : key.length = 16 ∧ Byt key) (hn : n < 18446744073709551616) (W : World) (hL : ShaIn 3 1 W) :
    Calls Tryz.prog 4 #[.agg (secA key), .agg #[.int .u64 n, .int .i64 a, .int .i64 b, .int .i64 d], .int .i64 s] W fun e w' => e = .returned (.bool true) ∧ New W w' := by
 have HKY := Lib.hid hk
 have HL0 := Lib.hid hL
 have HBN := Lib.hid hn
 obtain ⟨r, hr⟩ : ∃ r : Nat, (IntKind.u64.wrap s).tmod 9 = (r : Int) := ⟨((IntKind.u64.wrap s).tmod 9).toNat, by
  have h0 : 0 ≤ IntKind.u64.wrap s := by rw [IntKind.wrap_u64]; omega
  have h1 : 0 ≤ (IntKind.u64.wrap s).tmod 9 := Int.tmod_nonneg _ h0
  omega⟩
 have hr40 : r < 9 := by
  have h1 : (IntKind.u64.wrap s).tmod 9 < 9 := Int.tmod_lt_of_pos _ (by decide)
  omega
 obtain ⟨sz, hsz⟩ : ∃ sz, sz = 1 + r := ⟨_, rfl⟩
 have w1 : IntKind.i64.wrap (r : Int) = (r : Int) := IntWalk.i64_in _ (by omega)
 have w2 : IntKind.i64.wrap (sz : Int) = (sz : Int) := IntWalk.i64_in _ (by omega)
 have w3 : (1 : Int) + (r : Int) = (sz : Int) := by omega
 have HSZ : Hid (1 ≤ sz ∧ sz ≤ 9) := Lib.hid (by omega)
 obtain ⟨KA, hKA⟩ := nm (secA key)
 have HKA : Hid (KA = secA key ∧ KA.size = 16) := Lib.hid ⟨hKA, by rw [hKA, secA_size, hk.1]⟩
 rw [← hKA]
 have HHZ := Lib.hid hash_zero
 have HHN := Lib.hid (fun w => neq_h (x := List.replicate 32 0) (y := List.replicate 32 0) rfl rfl (fun x hx => by have := List.eq_of_mem_replicate hx; omega) (fun x hx => by have := List.eq_of_mem_replicate hx; omega) w)
 rw [show (!decide (List.replicate 32 (0 : Int) = List.replicate 32 0)) = false from rfl] at HHN
 have HRT := Lib.hid croot_nil
 obtain ⟨H0, hH0⟩ := nm (secA (List.replicate 32 0))
 simp only [← hH0] at HHZ HHN HRT
 have hhn := HHN.out
 have HRZ := Lib.hid rc_zero
 have HRN := Lib.hid (fun w => neq_rec rc0_ok rc0_ok w)
 have HRR := Lib.hid crec_nil
 obtain ⟨R0, hR0⟩ := nm rc0.cells
 simp only [← hR0, decide_true, Bool.not_true] at HRZ HRN HRR
 have hrn := HRN.out
 clear hk hL hn hr40 hsz hKA hH0 hR0
 go_enter Tryz.func4, Tryz.ntmps4
 go_upto_region 1 with fail
 obtain ⟨b3, hb3⟩ := nm W.heap.size
 obtain ⟨b4, hb4⟩ := nm (W.heap.size + 1)
 refine wp_world fun w1 hw1 => ?_
 have HN0 : Hid (New W w1) := Lib.hid (by rw [hw1.out]; exact (New.refl _).al2 _ _)
 have HB3 : Hid (Blk w1 b3 23 KA) := Lib.hid (by rw [hw1.out, hb3]; exact (Blk.new _ _ _).alloc _)
 have HB4 : Hid (Blk w1 b4 52 #[.int .u64 n, .int .i64 a, .int .i64 b, .int .i64 d]) := Lib.hid (by rw [hw1.out, hb4]; exact Blk.new' _ _ _ (by simp))
 have HL := Lib.hid (HL0.out.new HN0.out)
 rw [← hb4, ← hb3]
 clear hw1 hb3 hb4 HL0
 go_wp2_with fail
 refine (calive_any w1 HL.out).mono ?_
 rintro e w2 ⟨rfl, hN2⟩
 have HN2 := Lib.hid hN2
 clear hN2
 go_wp2_with fail
 refine (cdo_nil _ w2).mono ?_
 rintro e w3 ⟨rfl, hN3⟩
 unfold noErr
 have HN3 : Hid (New w1 w3) := Lib.hid (HN2.out.tr hN3)
 clear hN3 HN2
 go_wp2_with fail
 refine (ctick_nil s w3).mono ?_
 rintro e w4 ⟨rfl, hN4⟩
 have HN4 : Hid (New w1 w4) := Lib.hid (HN3.out.tr hN4)
 clear hN4 HN3
 have HFR := Lib.hid (fun w => cframe_nil (.slice none 0 0) w)
 have HCL := Lib.hid cclose_nil
 unfold noErr at HFR HCL
 go_wp2_with (go_at_call 19; refine (is_some 11 11 _ (by decide)).mono ?_; rintro e w' ⟨rfl, rfl⟩)
 refine (HFR.out w4).mono ?_
 rintro e w5 ⟨rfl, hN5⟩
 have HN5 : Hid (New w1 w5) := Lib.hid (HN4.out.tr hN5)
 clear hN5 HN4 HFR
 go_wp2_with (go_at_call 19; refine (is_some 11 11 _ (by decide)).mono ?_; rintro e w' ⟨rfl, rfl⟩)
 refine (HCL.out w5).mono ?_
 rintro e w6 ⟨rfl, hN6⟩
 have HN6 : Hid (New w1 w6) := Lib.hid (HN5.out.tr hN6)
 clear hN6 HN5 HCL
 go_upto_region 8 with (go_at_call 19; refine (is_some 11 11 _ (by decide)).mono ?_; rintro e w' ⟨rfl, rfl⟩)
 go_wp2_with fail
 refine (cframes_nil w6).mono ?_
 rintro e w7 ⟨rfl, hN⟩
 have HN7 : Hid (New w1 w7) := Lib.hid (HN6.out.tr hN)
 clear hN HN6
 go_wp2_with fail
 refine (coutc_nil w7).mono ?_
 rintro e w8 ⟨rfl, hN⟩
 have HN8 : Hid (New w1 w8) := Lib.hid (HN7.out.tr hN)
 clear hN HN7
 go_wp2_with fail
 refine (cstate_nil w8).mono ?_
 rintro e w9 ⟨rfl, hN⟩
 have HN9 : Hid (New w1 w9) := Lib.hid (HN8.out.tr hN)
 clear hN HN8
 go_wp2_with fail
 refine (cwait_nil w9).mono ?_
 rintro e w10 ⟨rfl, hN⟩
 have HN10 : Hid (New w1 w10) := Lib.hid (HN9.out.tr hN)
 clear hN HN9
 go_wp2_with fail
 refine (cblocks_nil w10).mono ?_
 rintro e w11 ⟨rfl, hN⟩
 have HN11 : Hid (New w1 w11) := Lib.hid (HN10.out.tr hN)
 clear hN HN10
 go_wp2_with fail
 refine (cepoch_nil w11).mono ?_
 rintro e w12 ⟨rfl, hN⟩
 have HN12 : Hid (New w1 w12) := Lib.hid (HN11.out.tr hN)
 clear hN HN11
 go_wp2_with fail
 refine (cses_nil w12).mono ?_
 rintro e w13 ⟨rfl, hN⟩
 have HN13 : Hid (New w1 w13) := Lib.hid (HN12.out.tr hN)
 clear hN HN12
 go_wp2_with fail
 refine (HRT.out w13).mono ?_
 rintro e w14 ⟨rfl, hN⟩
 have HN14 : Hid (New w1 w14) := Lib.hid (HN13.out.tr hN)
 clear hN HN13
 go_wp2_with ((with_reducible refine atOp ⟨some 73, .build _ _, _, _, _, _⟩ ?_); refine wpList_built rfl 60 [] rfl [] rfl H0 HHZ.out ?_)
 refine (HRR.out w14).mono ?_
 rintro e w15 ⟨rfl, hN⟩
 have HN15 : Hid (New w1 w15) := Lib.hid (HN14.out.tr hN)
 clear hN HN14
 go_wp2_with ((with_reducible refine atOp ⟨some 79, .build _ _, _, _, _, _⟩ ?_); refine wpList_built rfl 63 [] rfl [] rfl R0 HRZ.out ?_)
 refine (dnew_d HN15.out sz HSZ.out.1 (by have := HSZ.out; omega)).mono ?_
 rintro e wd ⟨gd, rfl, hD, -⟩
 have HD := Lib.hid hD
 have HB3d := Lib.hid (hD.nw.blk HB3.out)
 have HB4d := Lib.hid (hD.nw.blk HB4.out)
 clear hD HN15
 have HNIL := Lib.hid (fun w => copen_nil key a b d w HKY.out.1)
 have HSM := Lib.hid (fun w (h : Dsk w1 w gd (DP.new sz)) (hp : sz < 4) => copen_small key a b d w h hp)
 have HNO := Lib.hid (fun w (h : Dsk w1 w gd (DP.new sz)) (hp : 4 ≤ sz) => copen_none key a b d w h HL.out (Kst.new hp (by have := HSZ.out; omega)) rfl)
 have HFB := Lib.hid (fun d w => cformat_bad d n w)
 have HFS := Lib.hid (fun w (h : Dsk w1 w gd (DP.new sz)) (hp : sz < 4) hn => cformat_small n w h HL.out hp hn)
 have HFO := Lib.hid (fun w (h : Dsk w1 w gd (DP.new sz)) (hp : 4 ≤ sz) hn => cformat_ok n w h HL.out (Kst.new hp (by have := HSZ.out; omega)) (show (-1 : Int) ≠ 0 ∧ (-1 : Int) ≠ 1 from by decide) (show (0 : Nat) < 18446744073709551613 from by decide) hn)
 have HCB := Lib.hid (fun p w (h : Dsk w1 w gd p) (hk : Kst p ⟨1, fstR n, false⟩) => copen_bad key a b d w h HL.out hk (show (0 : Nat) < 1 from by decide))
 have HCO := Lib.hid (fun p w (h : Dsk w1 w gd p) (hk : Kst p ⟨1, fstR n, false⟩) (hf : p.fuse = -1) => copen_ok key a b d w h HL.out hk (show (0 : Nat) < 1 from by decide) ⟨by omega, by omega⟩ (show (1 : Nat) < 18446744073709551613 from by decide) (show (0 : Nat) < 18446744073709551615 from by decide) HKY.out)
 unfold optV noCl at HNIL HSM HNO HCB
 unfold optV at HCO
 rw [← HKA.out.1] at HNIL HSM HNO HCB HCO
 have HLN := Lib.hid (fun w (h : Dsk w1 w gd (DP.new sz)) => show Calls Tryz.prog 29 #[.pointer (some ⟨gd, 0, none⟩)] w (fun e w' => e = .returned (.int .i64 sz) ∧ w = w') from by obtain ⟨bs, bf, v, h, -⟩ := h; exact len_in h)
 have ck : ∀ w, Blk w b4 52 #[.int .u64 n, .int .i64 a, .int .i64 b, .int .i64 d] → w.cell? ⟨b4, 0, none⟩ = some (.int .u64 n) ∧ w.cell? ⟨b4, 1, none⟩ = some (.int .i64 a) ∧ w.cell? ⟨b4, 2, none⟩ = some (.int .i64 b) ∧ w.cell? ⟨b4, 3, none⟩ = some (.int .i64 d) := fun w h => ⟨h.cell 0, h.cell 1, h.cell 2, h.cell 3⟩
 have HCK := Lib.hid ck
 clear ck
 obtain ⟨c0, c1, c2, c3⟩ := HCK.out _ HB4d.out
 go_wp2_with ((with_reducible refine atOp ⟨some 95, .load _ _, _, _, _, _⟩ ?_); refine wpList_load_any rfl _ rfl Tryz.underlying23 rfl (by rw [HKA.out.2]; rfl) rfl HB3d.out ?_)
 by_cases h4 : sz < 4
 · have H4 := Lib.hid h4
   have h4' : (sz : Int) < 4 := by omega
   refine (HSM.out wd HD.out h4).mono ?_
   rintro e w15 ⟨rfl, hN⟩
   have HD15 := Lib.hid (HD.out.new hN)
   have HB35 := Lib.hid (hN.blk HB3d.out)
   have HB45 := Lib.hid (hN.blk HB4d.out)
   clear hN h4 HD HB3d HB4d c0 c1 c2 c3
   obtain ⟨c0, c1, c2, c3⟩ := HCK.out _ HB45.out
   go_wp2_with ((with_reducible refine atOp ⟨some 102, .load _ _, _, _, _, _⟩ ?_); refine wpList_load_any rfl _ rfl Tryz.underlying23 rfl (by rw [HKA.out.2]; rfl) rfl HB35.out ?_)
   refine (HNIL.out w15).mono ?_
   rintro e w16 ⟨rfl, hN⟩
   have HD16 := Lib.hid (HD15.out.new hN)
   have HB36 := Lib.hid (hN.blk HB35.out)
   have HB46 := Lib.hid (hN.blk HB45.out)
   clear hN HD15 HB35 HB45 c0 c1 c2 c3
   obtain ⟨c0, c1, c2, c3⟩ := HCK.out _ HB46.out
   go_wp2_with (first
    | (go_at_call 29; refine (HLN.out _ HD16.out).mono ?_; rintro e w' ⟨rfl, rfl⟩)
    | (go_at_call 19; refine (is_some 11 11 _ (by decide)).mono ?_; rintro e w' ⟨rfl, rfl⟩)
    | (go_at_call 19; refine (is_some 1 1 _ (by decide)).mono ?_; rintro e w' ⟨rfl, rfl⟩))
   by_cases hn : 1 ≤ n ∧ n ≤ 4294967296
   · refine (HFS.out w16 HD16.out H4.out hn).mono ?_
     rintro e w17 ⟨rfl, hN⟩
     have HN17 := Lib.hid (HN0.out.tr (HD16.out.new hN).nw)
     clear hN hn
     go_wp2_with fail
     go_ret
     exact ⟨rfl, HN17.out⟩
   · refine (HFB.out _ w16 hn).mono ?_
     rintro e w17 ⟨rfl, hN⟩
     have HN17 := Lib.hid (HN0.out.tr (HD16.out.new hN).nw)
     clear hN hn
     go_wp2_with fail
     go_ret
     exact ⟨rfl, HN17.out⟩
 · have H4 := Lib.hid (Nat.le_of_not_lt h4)
   have h4' : ¬ ((sz : Int) < 4) := by omega
   refine (HNO.out wd HD.out H4.out).mono ?_
   rintro e w15 ⟨rfl, hN⟩
   have HD15 := Lib.hid (HD.out.new hN)
   have HB35 := Lib.hid (hN.blk HB3d.out)
   have HB45 := Lib.hid (hN.blk HB4d.out)
   clear hN h4 HD HB3d HB4d c0 c1 c2 c3
   obtain ⟨c0, c1, c2, c3⟩ := HCK.out _ HB45.out
   go_wp2_with ((with_reducible refine atOp ⟨some 102, .load _ _, _, _, _, _⟩ ?_); refine wpList_load_any rfl _ rfl Tryz.underlying23 rfl (by rw [HKA.out.2]; rfl) rfl HB35.out ?_)
   refine (HNIL.out w15).mono ?_
   rintro e w16 ⟨rfl, hN⟩
   have HD16 := Lib.hid (HD15.out.new hN)
   have HB36 := Lib.hid (hN.blk HB35.out)
   have HB46 := Lib.hid (hN.blk HB45.out)
   clear hN HD15 HB35 HB45 c0 c1 c2 c3
   obtain ⟨c0, c1, c2, c3⟩ := HCK.out _ HB46.out
   go_wp2_with (first
    | (go_at_call 29; refine (HLN.out _ HD16.out).mono ?_; rintro e w' ⟨rfl, rfl⟩)
    | (go_at_call 19; refine (is_some 11 11 _ (by decide)).mono ?_; rintro e w' ⟨rfl, rfl⟩))
   by_cases hn : 1 ≤ n ∧ n ≤ 4294967296
   · have HNN := Lib.hid hn
     refine (HFO.out w16 HD16.out H4.out hn).mono ?_
     rintro e w17 ⟨rfl, p', hD, hK, hf⟩
     have hf' : p'.fuse = -1 := hf
     have HD17 := Lib.hid hD
     have HK17 := Lib.hid (And.intro hK hf')
     have HB37 := Lib.hid (hD.nw.blk HB3.out)
     have HB47 := Lib.hid (hD.nw.blk HB4.out)
     have k1 : ¬ ((n : Int) < 1) := by omega
     have k2 : ¬ ((4294967296 : Int) < (n : Int)) := by omega
     clear hn hD hK hf hf' HB36 HB46 HD16 c0 c1 c2 c3
     obtain ⟨c0, c1, c2, c3⟩ := HCK.out _ HB47.out
     go_upto_region 25 with fail
     obtain ⟨b15, hb15⟩ := nm w17.heap.size
     refine wp_world fun w18 hw18 => ?_
     have hN18 : New w17 w18 := by rw [hw18.out]; exact New.al (New.refl _) _
     have HB15 : Hid (Blk w18 b15 32 #[.int .i64 a, .int .i64 b, .int .i64 d]) := Lib.hid (by rw [hw18.out, hb15]; exact Blk.new' _ _ _ (by simp))
     have HD18 := Lib.hid (HD17.out.new hN18)
     have HB38 := Lib.hid (hN18.blk HB37.out)
     have HB48 := Lib.hid (hN18.blk HB47.out)
     rw [← hb15]
     clear hw18 hb15 hN18 HD17 HB37 HB47 c0 c1 c2 c3
     have c0 := HB15.out.cell 0
     have c1 := HB15.out.cell 1
     have c2 := HB15.out.cell 2
     by_cases q1 : 1 ≤ a
     · by_cases q2 : a ≤ b
       · by_cases q3 : b ≤ 65536
         · by_cases q4 : 1 ≤ d
           · by_cases q5 : d ≤ 1000
             · go_wp2_with ((with_reducible refine atOp ⟨some 169, .load _ _, _, _, _, _⟩ ?_); refine wpList_load_any rfl _ rfl Tryz.underlying23 rfl (by rw [HKA.out.2]; rfl) rfl HB38.out ?_)
               refine (HCO.out p' w18 HD18.out HK17.out.1 HK17.out.2 q1 q2 q3 q4 q5).mono ?_
               intro e w19 h
               obtain ⟨gc, gk_, gs, gw, gt, v', vt, vw, r', p'', rfl, hC, hv, -, -, -, -, -, hKp, -, -⟩ := h
               have hle : (fstR n).root.length = 32 := (fstR_ok HNN.out.2).len
               have ho : (Cm.Ok { cmNew { (fstR n) with session := (fstR n).session + 1 } gk_ gs key gw gt with given := 1, fr := v' }) := ⟨hle, hle, hv, rfl⟩
               obtain ⟨C, hCC⟩ := nm { cmNew { (fstR n) with session := (fstR n).session + 1 } gk_ gs key gw gt with given := 1, fr := v' }
               have HF : Hid (C.state = 1 ∧ C.blocks = n ∧ C.epoch = 0 ∧ C.sv.session = 1) := Lib.hid (by rw [hCC]; exact ⟨rfl, rfl, rfl, rfl⟩)
               rw [← hCC] at hC ho
               have HC := Lib.hid hC
               have HOK := Lib.hid ho
               have HB49 := Lib.hid (hKp.nw.blk HB4.out)
               have HN19 := Lib.hid (HN0.out.tr hKp.nw)
               clear hCC hC ho hv hKp hle c0 c1 c2
               go_upto_region 29 with fail
               have HD20 : Hid (Blk w19.drew gc 109 C.cells.toArray ∧ Blk w19.drew b4 52 #[.int .u64 n, .int .i64 a, .int .i64 b, .int .i64 d]) := Lib.hid ⟨(New.dr (New.refl w19)).blk HC.out, (New.dr (New.refl w19)).blk HB49.out⟩
               have HN20 : Hid (New W w19.drew) := Lib.hid (HN19.out.tr (New.dr (New.refl w19)))
               refine wp_region_mixH (fun w' => Blk w' gc 109 C.cells.toArray ∧ Blk w' b4 52 #[.int .u64 n, .int .i64 a, .int .i64 b, .int .i64 d]) [(true, 0), (true, 1), (true, 2), (true, 3), (true, 4), (true, 5), (true, 6), (true, 7), (false, 8), (true, 9), (true, 10), (true, 11), (true, 12), (true, 14), (true, 15), (false, 13), (true, 16), (true, 17), (true, 18), (true, 19), (false, 20), (true, 21), (true, 22), (true, 23), (true, 24), (false, 25), (true, 26), (true, 27), (true, 28)] (by kernel_rfl) (by kernel_rfl) HD20.out (fun hne => ?_)
               have q0 : ∀ p : HW (fun w' => Blk w' gc 109 C.cells.toArray ∧ Blk w' b4 52 #[.int .u64 n, .int .i64 a, .int .i64 b, .int .i64 d]), p.w.cell? ⟨b4, 0, none⟩ = some (.int .u64 n) := fun p => p.h.2.cell 0
               iterate 8 (refine mix_take (o := ⟨_, _, _, _, _, _⟩) rfl (fun K hK => ?_); go_simp; refine hK _ ?_; clear hK K)
               refine mix_act (o := ⟨_, _, _, _, _, _⟩) rfl (fun K hK => ?_) (.inl rfl)
               go_simp
               refine (cstate_cl _ HD20.out.1 HOK.out).mono ?_
               rintro e w21 ⟨rfl, hw21⟩
               subst hw21
               rw [HF.out.1]
               go_simp
               refine hK.out _ _ (fun _ => HD20.out) ?_
               clear hK K
               iterate 6 (refine mix_take (o := ⟨_, _, _, _, _, _⟩) rfl (fun K hK => ?_); go_simp; refine hK _ ?_; clear hK K)
               refine mix_act (o := ⟨_, _, _, _, _, _⟩) rfl (fun K hK => ?_) (.inl rfl)
               go_simp
               refine (cblocks_cl _ HD20.out.1 HOK.out).mono ?_
               rintro e w21 ⟨rfl, hw21⟩
               subst hw21
               rw [HF.out.2.1]
               go_simp
               refine hK.out _ _ (fun _ => HD20.out) ?_
               clear hK K
               iterate 4 (refine mix_take (o := ⟨_, _, _, _, _, _⟩) rfl (fun K hK => ?_); go_simp; refine hK _ ?_; clear hK K)
               refine mix_act (o := ⟨_, _, _, _, _, _⟩) rfl (fun K hK => ?_) (.inl rfl)
               go_simp
               refine (cepoch_cl _ HD20.out.1 HOK.out).mono ?_
               rintro e w21 ⟨rfl, hw21⟩
               subst hw21
               rw [HF.out.2.2.1]
               go_simp
               refine hK.out _ _ (fun _ => HD20.out) ?_
               clear hK K
               iterate 4 (refine mix_take (o := ⟨_, _, _, _, _, _⟩) rfl (fun K hK => ?_); go_simp; refine hK _ ?_; clear hK K)
               refine mix_act (o := ⟨_, _, _, _, _, _⟩) rfl (fun K hK => ?_) (.inl rfl)
               go_simp
               refine (cses_cl _ HD20.out.1 HOK.out).mono ?_
               rintro e w21 ⟨rfl, hw21⟩
               subst hw21
               rw [HF.out.2.2.2]
               go_simp
               refine hK.out _ _ (fun _ => HD20.out) ?_
               clear hK K
               iterate 3 (refine mix_take (o := ⟨_, _, _, _, _, _⟩) rfl (fun K hK => ?_); go_simp; refine hK _ ?_; clear hK K)
               clear q0
               refine mix_done ?_
               go_wp2_with fail
               go_ret
               exact ⟨rfl, HN20.out⟩
             · go_wp2_with ((with_reducible refine atOp ⟨some 169, .load _ _, _, _, _, _⟩ ?_); refine wpList_load_any rfl _ rfl Tryz.underlying23 rfl (by rw [HKA.out.2]; rfl) rfl HB38.out ?_)
               refine (HCB.out p' w18 HD18.out HK17.out.1 (by omega)).mono ?_
               rintro e w19 ⟨rfl, hN⟩
               have HN19 := Lib.hid (HN0.out.tr (HD18.out.new hN).nw)
               clear hN
               go_wp2_with (go_at_call 19; refine (is_some 1 1 _ (by decide)).mono ?_; rintro e w' ⟨rfl, rfl⟩)
               go_ret
               exact ⟨rfl, HN19.out⟩
           · go_wp2_with ((with_reducible refine atOp ⟨some 169, .load _ _, _, _, _, _⟩ ?_); refine wpList_load_any rfl _ rfl Tryz.underlying23 rfl (by rw [HKA.out.2]; rfl) rfl HB38.out ?_)
             refine (HCB.out p' w18 HD18.out HK17.out.1 (by omega)).mono ?_
             rintro e w19 ⟨rfl, hN⟩
             have HN19 := Lib.hid (HN0.out.tr (HD18.out.new hN).nw)
             clear hN
             go_wp2_with (go_at_call 19; refine (is_some 1 1 _ (by decide)).mono ?_; rintro e w' ⟨rfl, rfl⟩)
             go_ret
             exact ⟨rfl, HN19.out⟩
         · go_wp2_with ((with_reducible refine atOp ⟨some 169, .load _ _, _, _, _, _⟩ ?_); refine wpList_load_any rfl _ rfl Tryz.underlying23 rfl (by rw [HKA.out.2]; rfl) rfl HB38.out ?_)
           refine (HCB.out p' w18 HD18.out HK17.out.1 (by omega)).mono ?_
           rintro e w19 ⟨rfl, hN⟩
           have HN19 := Lib.hid (HN0.out.tr (HD18.out.new hN).nw)
           clear hN
           go_wp2_with (go_at_call 19; refine (is_some 1 1 _ (by decide)).mono ?_; rintro e w' ⟨rfl, rfl⟩)
           go_ret
           exact ⟨rfl, HN19.out⟩
       · go_wp2_with ((with_reducible refine atOp ⟨some 169, .load _ _, _, _, _, _⟩ ?_); refine wpList_load_any rfl _ rfl Tryz.underlying23 rfl (by rw [HKA.out.2]; rfl) rfl HB38.out ?_)
         refine (HCB.out p' w18 HD18.out HK17.out.1 (by omega)).mono ?_
         rintro e w19 ⟨rfl, hN⟩
         have HN19 := Lib.hid (HN0.out.tr (HD18.out.new hN).nw)
         clear hN
         go_wp2_with (go_at_call 19; refine (is_some 1 1 _ (by decide)).mono ?_; rintro e w' ⟨rfl, rfl⟩)
         go_ret
         exact ⟨rfl, HN19.out⟩
     · go_wp2_with ((with_reducible refine atOp ⟨some 169, .load _ _, _, _, _, _⟩ ?_); refine wpList_load_any rfl _ rfl Tryz.underlying23 rfl (by rw [HKA.out.2]; rfl) rfl HB38.out ?_)
       refine (HCB.out p' w18 HD18.out HK17.out.1 (by omega)).mono ?_
       rintro e w19 ⟨rfl, hN⟩
       have HN19 := Lib.hid (HN0.out.tr (HD18.out.new hN).nw)
       clear hN
       go_wp2_with (go_at_call 19; refine (is_some 1 1 _ (by decide)).mono ?_; rintro e w' ⟨rfl, rfl⟩)
       go_ret
       exact ⟨rfl, HN19.out⟩
   · have HNN := Lib.hid hn
     refine (HFB.out _ w16 hn).mono ?_
     rintro e w17 ⟨rfl, hN⟩
     have HN17 := Lib.hid (HN0.out.tr (HD16.out.new hN).nw)
     have HB47 := Lib.hid (hN.blk HB46.out)
     clear hN hn c0 c1 c2 c3
     obtain ⟨c0, c1, c2, c3⟩ := HCK.out _ HB47.out
     have hq : ((n : Int) < 1) ∨ (¬ ((n : Int) < 1) ∧ (4294967296 : Int) < (n : Int)) := by have := HNN.out; omega
     have HQ := Lib.hid hq
     clear hq
     rcases HQ.out with hq | ⟨hq1, hq2⟩
     · go_wp2_with (go_at_call 19; refine (is_some 1 1 _ (by decide)).mono ?_; rintro e w' ⟨rfl, rfl⟩)
       go_ret
       exact ⟨rfl, HN17.out⟩
     · go_wp2_with (go_at_call 19; refine (is_some 1 1 _ (by decide)).mono ?_; rintro e w' ⟨rfl, rfl⟩)
       all_goals (go_ret; exact ⟨rfl, HN17.out⟩)
end Go.Proofs.YtmibndkofoldkaaGreatDoor
