/- Texts of one proof, one behind the other: VaH. No condition but each one's own. -/
import Derived.Test.YtpifnmlnhddgeaaGreatDoorVaultNilM35
import Derived.Test.YtpifnmlnhddgeaaGreatDoorVaultNilM36
namespace Go.Proofs.YtpifnmlnhddgeaaGreatDoor
set_option linter.unusedVariables false
set_option linter.unusedSimpArgs false
set_option linter.constructorNameAsVariable false
open Go.RowKit Go.Sort Go.Maps
attribute [local go_sem] Oper.semAt_some
theorem keyU : Keyed Tryz.prog 27 := int_keyed Tryz.underlying27
def vaC (gs bl bm gt ep ba : Nat) (KV : Value) : Array Value := #[.pointer (some ⟨gs, 0, none⟩), .int .u64 bl, .map (some bm), .pointer (some ⟨gt, 0, none⟩), .int .u64 ep, .int .u64 ba, KV]
set_option maxHeartbeats 4000000
set_option maxRecDepth 100000
theorem vblocks_any {w : World} {gv gs bl bm gt ep ba : Nat} {KV : Value} (h : Blk w gv 137 (vaC gs bl bm gt ep ba KV)) : Calls Tryz.prog 19 #[.pointer (some ⟨gv, 0, none⟩)] w fun e w' => e = .returned (.int .u64 bl) ∧ w = w' := by
 have c1 : w.cell? ⟨gv, 1, none⟩ = some (.int .u64 bl) := h.cell 1
 clear h
 go_enter Tryz.func19, Tryz.ntmps19
 go_wp2_with fail
 go_ret
 exact ⟨rfl, rfl⟩
theorem sm_keys {L : SM} (h : SmOk L) (hL : ∀ e ∈ L, e.1 < 18446744073709551616) {F : Lit → Option Value} (h1 : ∀ i : Nat, i < 18446744073709551616 → F (.int .u64 i) = (L.lookup i).map sdV) (h2 : ∀ kl, F kl ≠ none → ∃ i : Nat, i < 18446744073709551616 ∧ kl = .int .u64 i) :
    (L.map fun e => (Lit.int .u64 (e.1 : Int))).Nodup ∧ ∀ kl, F kl ≠ none ↔ kl ∈ L.map fun e => (Lit.int .u64 (e.1 : Int)) := by
 constructor
 · rw [List.Nodup, List.pairwise_map]
   exact h.imp fun hab e => by injection e with _ e; omega
 · intro kl
   rw [List.mem_map]
   constructor
   · intro hf
     obtain ⟨i, hi, rfl⟩ := h2 kl hf
     rw [h1 i hi] at hf
     cases hl : L.lookup i with
     | none => rw [hl] at hf; exact absurd rfl hf
     | some y => exact ⟨(i, y), lk_mem hl, rfl⟩
   · rintro ⟨e, he, rfl⟩
     obtain ⟨i, y⟩ := e
     rw [h1 i (hL _ he), mem_lk h he]
     simp
theorem vlen_any {w : World} {gv gs bl bm gt ep ba n bn : Nat} {KV : Value} {s : VS} (h : Blk w gv 137 (vaC gs bl bm gt ep ba KV)) (hs : StM w s bm n gt bn) : Calls Tryz.prog 20 #[.pointer (some ⟨gv, 0, none⟩)] w fun e w' => e = .returned (.int .i64 s.L.length) ∧ w = w' := by
 have c1 : w.cell? ⟨gv, 2, none⟩ = some (.map (some bm)) := h.cell 2
 obtain ⟨F, m, hM, hm, h1, h2⟩ := hs.map
 obtain ⟨k1, k2⟩ := sm_keys hs.ok.so (fun e he => by have h3 := (hs.ok.el e he).1; have := hs.ok.b2; omega) h1 h2
 obtain ⟨D, hD, hsz⟩ := hM.size keyU _ k1 k2
 rw [List.length_map] at hsz
 have hq : ∀ ty, (Builtin.len_ #[131] ty #[.map (some bm)]).run Tryz.prog w = .ok (.int .i64 s.L.length) w := fun ty => by
  have h := hD.len (t := 131) (e := 190) Tryz.underlying131 ty
  rw [hsz] at h
  exact h
 clear h hs hM hm h1 h2 k1 k2 hD hsz
 go_enter Tryz.func20, Tryz.ntmps20
 go_wp2_with fail
 go_ret
 exact ⟨rfl, rfl⟩
theorem vknown_base {w : World} {gv gs bl bm gt ep ba : Nat} {KV : Value} (h : Blk w gv 137 (vaC gs bl bm gt ep ba KV)) (n : Nat) (h1 : n ≤ ep) (h2 : n = ba) : Calls Tryz.prog 95 #[.pointer (some ⟨gv, 0, none⟩), .int .u64 n] w fun e w' => e = .returned .nilIface ∧ New w w' := by
 subst h2
 have HB := Lib.hid h
 have k1 : ¬ ((ep : Int) < (n : Int)) := by omega
 clear h h1
 go_enter Tryz.func95, Tryz.ntmps95
 go_upto_region 1 with fail
 obtain ⟨w1, hw1⟩ := nm (w.alloc (Obj.cells #[.int .u64 n] 27))
 obtain ⟨b3, hb3⟩ := nm w.heap.size
 have c3 : w1.cell? ⟨b3, 0, none⟩ = some (.int .u64 n) := by rw [hw1, hb3]; exact (Blk.new _ _ _).cell 0
 have HN1 : Hid (New w w1) := Lib.hid (by rw [hw1]; exact New.al (New.refl _) _)
 have c4 : w1.cell? ⟨gv, 4, none⟩ = some (.int .u64 ep) := HN1.out.cell_ (HB.out.cell 4)
 have c5 : w1.cell? ⟨gv, 5, none⟩ = some (.int .u64 n) := HN1.out.cell_ (HB.out.cell 5)
 rw [← hw1, ← hb3]
 clear hw1 hb3
 go_wp2_with go_quiet (fail)
 go_ret
 exact ⟨rfl, HN1.out.dn _⟩
theorem vat_now {w : World} {gv gs bl bm gt ep ba : Nat} {KV : Value} (h : Blk w gv 137 (vaC gs bl bm gt ep ba KV)) (hk : ∀ W, New w W → Calls Tryz.prog 95 #[.pointer (some ⟨gv, 0, none⟩), .int .u64 ep] W fun e w' => e = .returned .nilIface ∧ New W w') :
    Calls Tryz.prog 61 #[.pointer (some ⟨gv, 0, none⟩), .int .u64 ep] w fun e w' => e = .returned (.tuple #[.agg #[.int .u64 bl, .map (some bm), .pointer (some ⟨gt, 0, none⟩)], .nilIface]) ∧ New w w' := by
 have HK := Lib.hid hk
 have HB := Lib.hid h
 clear h hk
 refine (callsIn_wide (n := 3)).1 ?_
 refine callsIn_of_wp_marks Tryz.func61 rfl trivial ?_ rfl
 refine wpIn_wide.2 ?_
 simp only [Tryz.ntmps61, List.size_toArray, List.length_cons, List.length_nil, Nat.reduceAdd, Nat.reduceSub, Array.replicate_succ, Array.replicate_zero, List.push_toArray, List.append_toArray, List.nil_append, List.cons_append]
 go_upto_region 1 with fail
 obtain ⟨w1, hw1⟩ := nm (((w.alloc (Obj.cells #[.int .u64 ep] 27)).alloc (Obj.cells #[.int .u64 0, .map none, .pointer none] 134)).alloc (Obj.cells #[.nilIface] 31))
 obtain ⟨b3, hb3⟩ := nm w.heap.size
 obtain ⟨b4, hb4⟩ := nm (w.heap.size + 1)
 obtain ⟨b5, hb5⟩ := nm (w.heap.size + 1 + 1)
 have HB3 : Hid (Blk w1 b3 27 #[.int .u64 ep]) := Lib.hid (by rw [hw1, hb3]; exact ((Blk.new _ _ _).alloc _).alloc _)
 have HN1 : Hid (New w w1) := Lib.hid (by rw [hw1]; exact New.al (New.al (New.al (New.refl _) _) _) _)
 have HB4 : Hid (Blk w1 b4 134 #[.int .u64 0, .map none, .pointer none]) := Lib.hid (by rw [hw1, hb4]; exact (Blk.new' _ _ _ (by simp)).alloc _)
 have HB5 : Hid (Blk w1 b5 31 #[.nilIface]) := Lib.hid (by rw [hw1, hb5]; exact Blk.new' _ _ _ (by simp))
 have HZ : Hid (w.heap.size ≤ b4 ∧ b5 = b4 + 1) := Lib.hid ⟨by omega, by omega⟩
 have c3 := HB3.out.cell 0
 rw [← hw1, ← hb5, ← hb4, ← hb3]
 clear hw1 hb3 hb4 hb5
 go_wp2_with fail
 refine (HK.out w1 HN1.out).mono ?_
 rintro e w2 ⟨rfl, hN2⟩
 have HB42 : Hid (Blk w2 b4 134 #[.int .u64 0, .map none, .pointer none]) := Lib.hid (hN2.blk HB4.out)
 have HB52 : Hid (Blk w2 b5 31 #[.nilIface]) := Lib.hid (hN2.blk HB5.out)
 have HBV := Lib.hid ((HN1.out.tr hN2).blk HB.out)
 have HN2 : Hid (New w w2) := Lib.hid (HN1.out.tr hN2)
 clear c3
 have c3 := (hN2.blk HB3.out).cell 0
 have v1 : w2.cell? ⟨gv, 1, none⟩ = some (.int .u64 bl) := HBV.out.cell 1
 have v2 : w2.cell? ⟨gv, 2, none⟩ = some (.map (some bm)) := HBV.out.cell 2
 have v3 : w2.cell? ⟨gv, 3, none⟩ = some (.pointer (some ⟨gt, 0, none⟩)) := HBV.out.cell 3
 have v4 : w2.cell? ⟨gv, 4, none⟩ = some (.int .u64 ep) := HBV.out.cell 4
 clear hN2 HB4 HB5 HB3 HB
 go_upto_region 5 with go_quiet (fail)
 obtain ⟨w3, hw3⟩ := nm (w2.drewN nq)
 have hN3 : New w2 w3 := by rw [hw3]; exact (New.refl _).dn _
 have HB43 : Hid (Blk w3 b4 134 #[.int .u64 0, .map none, .pointer none]) := Lib.hid (hN3.blk HB42.out)
 have HB53 : Hid (Blk w3 b5 31 #[.nilIface]) := Lib.hid (hN3.blk HB52.out)
 have HN3 : Hid (New w w3) := Lib.hid (HN2.out.tr hN3)
 have HBV3 := Lib.hid (hN3.blk HBV.out)
 rw [← hw3]
 clear v1 v2 v3 v4 c3 hw3 hN3
 have v1 : w3.cell? ⟨gv, 1, none⟩ = some (.int .u64 bl) := HBV3.out.cell 1
 have v2 : w3.cell? ⟨gv, 2, none⟩ = some (.map (some bm)) := HBV3.out.cell 2
 have v3 : w3.cell? ⟨gv, 3, none⟩ = some (.pointer (some ⟨gt, 0, none⟩)) := HBV3.out.cell 3
 go_wp2_with ((with_reducible refine atOp ⟨none, .store 134 (.tmp 4) _, _, _, _, _⟩ ?_); refine wpList_store_any rfl (.tmp 4) (.tmp 27) rfl (by rfl) rfl rfl HB43.out rfl (by simp [Value.oneCell']) ?_; intro w4 hb4 hf4; have HB44 := Lib.hid hb4; have HF4 := Lib.hid hf4; have HB54 : Hid (Blk w4 b5 31 #[.nilIface]) := Lib.hid (HB53.out.fr hf4 (by have := HZ.out; omega)); have f54 := HB54.out.frozen 0; have c54 := HB54.out.cell 0; clear hb4 hf4)
 obtain ⟨w5, hw5⟩ := nm (w4.setCell ⟨b5, 0, none⟩ .nilIface)
 have hB5 : Blk w5 b5 31 #[.nilIface] := by rw [hw5]; exact HB54.out.set 0 _
 have hF5 : Fr (fun k => k = b5) w4 w5 := by rw [hw5]; exact (Fr.refl (fun k => k = b5) w4).setCell (p := ⟨b5, 0, none⟩) (fun _ => rfl) _
 have hB4 := HB44.out.fr hF5 (by have := HZ.out; omega)
 rw [← hw5]
 clear hw5 c54 f54
 refine leaves_marks [] _ (Marks.nil w5.heap.size _) (fun W' hS => ⟨.tuple #[.agg #[.int .u64 bl, .map (some bm), .pointer (some ⟨gt, 0, none⟩)], .nilIface], ?_, rfl, ?_⟩)
 · have c5 : W'.cell? ⟨b5, 0, none⟩ = some .nilIface := Blk.cell (hS.cells _ _ hB5 rfl) 0
   have hb4 : Blk W' b4 134 #[.int .u64 bl, .map (some bm), .pointer (some ⟨gt, 0, none⟩)] := hS.cells _ _ hB4 rfl
   have c40 : W'.cell? ⟨b4, 0, none⟩ = some (.int .u64 bl) := hb4.cell 0
   have c41 : W'.cell? ⟨b4, 1, none⟩ = some (.map (some bm)) := hb4.cell 1
   have c42 : W'.cell? ⟨b4, 2, none⟩ = some (.pointer (some ⟨gt, 0, none⟩)) := hb4.cell 2
   simp [results, Tryz.results61, go_sem, c5, c40, c41, c42]
 · have hz := HZ.out
   have hf := (HN3.out.fr HF4.out (fun k hk => by omega)).fr hF5 (fun k hk => by omega)
   have h4 : b4 < w5.heap.size := Blk.lt hB4
   exact hf.fr (Fr.below hS.below) (fun k hk => by have := hf.size; omega)
theorem vroot_now {w : World} {gv gs bl bm gt bn ep ba n : Nat} {KV : Value} {s : VS} (h : Blk w gv 137 (vaC gs bl bm gt ep ba KV)) (hk : ∀ W, New w W → Calls Tryz.prog 95 #[.pointer (some ⟨gv, 0, none⟩), .int .u64 ep] W fun e w' => e = .returned .nilIface ∧ New W w') (hs : StM w s bm n gt bn) :
    Calls Tryz.prog 15 #[.pointer (some ⟨gv, 0, none⟩), .int .u64 ep] w fun e w' => e = .returned (.tuple #[.agg (secA s.root), .nilIface]) ∧ New w w' := by
 have HAT := Lib.hid (fun W (hN : New w W) => vat_now (hN.blk h) (fun W' hN' => hk W' (hN.tr hN')))
 have HST := Lib.hid hs
 have HI : Hid ((Tryz.prog.info? 50).map (fun i => (i.zero, i.size)) = some (some (.agg (secA (List.replicate 32 0))), 32)) := Lib.hid hashInfoR
 have HRT : Hid (∀ W, New w W → Calls Tryz.prog 62 #[.pointer (some ⟨gt, 0, none⟩)] W fun e w' => e = .returned (.agg (secA s.root)) ∧ New W w') := Lib.hid (fun W hN => troot_any (hs.tr.new hN))
 have HL : Hid ((secA s.root).size = 32) := Lib.hid (by rw [secA_size]; exact (ndv_ok (lfF_ok s.L) (hgt s.blocks) 0).1)
 obtain ⟨R, hR⟩ := nm (secA s.root)
 rw [← hR] at HL HRT ⊢
 have HR := Lib.hid hR
 have HS0 : Hid ((secA (List.replicate 32 0)).size = 32) := Lib.hid (by rw [secA_size]; rfl)
 clear hs h hk hR
 go_enter Tryz.func15, Tryz.ntmps15
 go_upto_region 1 with ((with_reducible refine atOp ⟨some 4, .alloc _, _, _, _, _⟩ ?_); refine wpList_alloc_row rfl rfl HI.out ?_; intro b4 w1 hb4 hB4 hN1; have HB4 := Lib.hid hB4; have HN1 := Lib.hid hN1; have HZ := Lib.hid hb4; clear hb4 hB4 hN1)
 go_wp2_with fail
 refine (HAT.out w1 HN1.out).mono ?_
 rintro e w2 ⟨rfl, hN2⟩
 have HB42 := Lib.hid (hN2.blk HB4.out)
 have HN2 : Hid (New w w2) := Lib.hid (HN1.out.tr hN2)
 clear hN2 HB4
 go_upto_region 2 with fail
 obtain ⟨w3, hw3⟩ := nm (w2.alloc (Obj.cells #[.int .u64 bl, .map (some bm), .pointer (some ⟨gt, 0, none⟩)] 134))
 obtain ⟨b6, hb6⟩ := nm w2.heap.size
 have HN3 : Hid (New w w3) := Lib.hid (by rw [hw3]; exact HN2.out.al _)
 have HB43 : Hid (Blk w3 b4 50 (secA (List.replicate 32 0))) := Lib.hid (by rw [hw3]; exact HB42.out.alloc _)
 have c62 : w3.cell? ⟨b6, 2, none⟩ = some (.pointer (some ⟨gt, 0, none⟩)) := by rw [hw3, hb6]; exact (Blk.new _ _ _).cell 2
 rw [← hw3, ← hb6]
 clear hw3 hb6 HB42
 go_wp2_with fail
 refine (HRT.out w3 HN3.out).mono ?_
 rintro e w4 ⟨rfl, hN4⟩
 have HB44 := Lib.hid (hN4.blk HB43.out)
 have HN4 : Hid (New w w4) := Lib.hid (HN3.out.tr hN4)
 clear hN4 HB43 c62
 go_wp2_with ((with_reducible refine atOp ⟨none, .store 50 (.tmp 4) _, _, _, _, _⟩ ?_); refine wpList_store_any rfl (.tmp 4) (.tmp 20) rfl (by rw [HL.out]; rfl) rfl rfl HB44.out (by rw [HL.out]; exact HS0.out) (by rw [HR.out]; exact secA_one _) ?_; intro w5 hb5 hf5; have HB5 := Lib.hid hb5; have HF5 := Lib.hid hf5; clear hb5 hf5)
 refine bodyPost_ret (results_row2h rfl _ _ b4 _ _ rfl HB5.out Tryz.underlying50 rfl (by rw [HL.out]; rfl)) rfl ⟨rfl, HN4.out.fr HF5.out (fun k hk => by have := HZ.out; omega)⟩
end Go.Proofs.YtpifnmlnhddgeaaGreatDoor
