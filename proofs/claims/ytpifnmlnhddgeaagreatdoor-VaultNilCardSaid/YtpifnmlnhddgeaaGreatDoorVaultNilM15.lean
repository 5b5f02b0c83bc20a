/- Texts of one proof, one behind the other: TeA, TeC. No condition but each one's own. -/
import Derived.Test.YtpifnmlnhddgeaaGreatDoorVaultNilM13
import Derived.Test.YtpifnmlnhddgeaaGreatDoorVaultNilM14
import Derived.Test.YtpifnmlnhddgeaaGreatDoorVaultNilM9
namespace Go.Proofs.YtpifnmlnhddgeaaGreatDoor
set_option linter.unusedVariables false
set_option linter.unusedSimpArgs false
set_option linter.constructorNameAsVariable false
open Go.RowKit Go.Sort Go.Maps
theorem map_ne_blk {w : World} {P : Program} {k : TypeId} {b n g t : Nat} {f : Lit → Option Value} {cs : Array Value} (hM : MapAt w P k b n f) (hB : Blk w g t cs) : g ≠ b := fun e => by
 obtain ⟨D, ⟨es, clock, hb, -⟩, -⟩ := hM
 unfold Blk at hB
 rw [e, hb] at hB
 cases hB
def hV (h : List Int) : Value := .agg (secA h)
def trC (H bn : Nat) : List Value := .int .i64 H :: .map (some bn) :: u8s (empA 33)
structure TrX (w : World) (gt bn H n : Nat) (m : Nat → Nat → Option (List Int)) : Prop where
 blk : Blk w gt 285 (trC H bn).toArray
 map : ∃ F, MapAt w Tryz.prog 287 bn n F ∧ (∀ l p, l ≤ 64 → p < 18446744073709551616 → F (atK l p) = (m l p).map hV) ∧ (∀ kl, F kl ≠ none → ∃ l p, l ≤ 64 ∧ p < 18446744073709551616 ∧ kl = atK l p)
 len : ∀ l p h, m l p = some h → h.length = 32 ∧ Byt h
 h32 : H ≤ 32
section
variable {w w' : World} {gt bn H n : Nat} {m : Nat → Nat → Option (List Int)}
theorem TrX.fr {S : Nat → Prop} (h : TrX w gt bn H n m) (hF : Fr S w w') (h1 : ¬ S gt) (h2 : ¬ S bn) : TrX w' gt bn H n m := by
 obtain ⟨F, hM, r⟩ := h.map
 exact ⟨h.blk.fr hF h1, ⟨F, hM.fr hF h2, r⟩, h.len, h.h32⟩
theorem TrX.new (h : TrX w gt bn H n m) (hN : New w w') : TrX w' gt bn H n m := h.fr (hN.toFr NoB) (fun x => x) (fun x => x)
theorem TrX.lt (h : TrX w gt bn H n m) : gt < w.heap.size ∧ bn < w.heap.size ∧ gt ≠ bn := by
 obtain ⟨F, hM, -⟩ := h.map
 exact ⟨h.blk.lt, hM.lt, map_ne_blk hM h.blk⟩
theorem TrX.c0 (h : TrX w gt bn H n m) : w.cell? ⟨gt, 0, none⟩ = some (.int .i64 H) := by rw [h.blk.cell, List.getElem?_toArray, trC, List.getElem?_cons_zero]
theorem TrX.c1 (h : TrX w gt bn H n m) : w.cell? ⟨gt, 1, none⟩ = some (.map (some bn)) := by rw [h.blk.cell, List.getElem?_toArray, trC, List.getElem?_cons_succ, List.getElem?_cons_zero]
theorem tr_emp (h : Blk w gt 285 (trC H bn).toArray) {l : Nat} (hl : l ≤ 32) : w.rangeAt gt (2 + l * 32) (u8s (empH l)) := fun j v hv => by
 have hj : j < 32 := by have := (List.getElem?_eq_some_iff.1 hv).1; rw [u8s_len, empH_len] at this; exact this
 have h1 := empA_at (k := 33) (i := l) (by omega)
 rw [h.cell, List.getElem?_toArray, show 2 + l * 32 + j = (32 * l + j) + 1 + 1 by omega]
 unfold trC
 rw [List.getElem?_cons_succ, List.getElem?_cons_succ, ← hv, ← h1]
 unfold u8s
 rw [List.getElem?_map, List.getElem?_map, List.getElem?_take_of_lt hj, List.getElem?_drop]
end
set_option maxHeartbeats 4000000
set_option maxRecDepth 100000
theorem zH (w : World) : (zeroValue 50).run Tryz.prog w = .ok (.agg (secA (List.replicate 32 0))) w := (zero_of_info hashInfoR).1 w
theorem tget_any {w : World} {gt bn H n : Nat} {m : Nat → Nat → Option (List Int)} (h : TrX w gt bn H n m) {l p : Nat} (hl : l ≤ 32) (hp : p < 18446744073709551616) :
    Calls Tryz.prog 145 #[.pointer (some ⟨gt, 0, none⟩), atV l p] w fun e w' => e = .returned (.agg (secA ((m l p).getD (empH l)))) ∧ New w w' := by
 obtain ⟨F, hM, hF, -⟩ := h.map
 have HFk := hF l p (by omega) hp
 have HKY := Lib.hid (keyAt (l := l) (p := p) (by omega) hp)
 have HM := Lib.hid hM
 have HX := Lib.hid h
 have HLEN := h.len l p
 obtain ⟨R, hR⟩ := nm ((m l p).getD (empH l))
 rw [← hR]
 have hl32 : (l : Int) < 33 := by omega
 have hl0 : (0 : Int) ≤ (l : Int) := by omega
 have HRL : Hid ((secA R).size = 32) := Lib.hid (by
  rw [hR, secA_size]
  cases hm : m l p with
  | none => exact empH_len l
  | some x => exact (HLEN x hm).1)
 obtain ⟨V, ok, hV, hok, hcase⟩ : ∃ V ok, (F (atK l p)).getD (.agg (secA (List.replicate 32 0))) = .agg (secA V) ∧ (F (atK l p)).isSome = ok ∧ V.length = 32 ∧ (ok = true → R = V) ∧ (ok = false → R = empH l) := by
  rw [HFk, hR]
  cases hm : m l p with
  | none => exact ⟨List.replicate 32 0, false, rfl, rfl, by simp, by simp, fun _ => rfl⟩
  | some x => exact ⟨x, true, rfl, rfl, (HLEN x hm).1, fun _ => rfl, by simp⟩
 have HV := Lib.hid (And.intro hV (And.intro hok hcase))
 clear h hM hF HFk HLEN hR hV hok hcase hl hp
 unfold atV at HKY ⊢
 go_enter Tryz.func145, Tryz.ntmps145
 go_upto_region 1 with ((with_reducible refine atOp ⟨some 4, .alloc _, _, _, _, _⟩ ?_); refine wpList_alloc_row rfl rfl hashInfoR ?_; intro b4 w1 hb4 hB4 hN1; have HB4 := Lib.hid hB4; have HN1 := Lib.hid hN1; have HZ := Lib.hid hb4; clear hb4 hB4 hN1)
 have HB3 : Hid (Blk w1 w.heap.size 287 #[.int .i64 l, .int .u64 p]) := Lib.hid (HN1.out.blk (Blk.new _ _ _))
 have HN : Hid (New w w1) := Lib.hid ((New.al (New.refl _) _).tr HN1.out)
 have HZ2 : Hid (w.heap.size < b4) := Lib.hid (by have := HZ.out; simp at this; omega)
 obtain ⟨b3, hb3⟩ := nm w.heap.size
 rw [← hb3] at HB3 HZ2
 have HZ3 := Lib.hid hb3
 rw [← hb3]
 clear hb3 HZ HN1
 have q0 : ∀ p : HW (New w1), p.w.cell? ⟨gt, 1, none⟩ = some (.map (some bn)) := fun p => p.h.cell_ (HX.out.new HN.out).c1
 refine wp_region_mixH (New w1) [(true, 0), (true, 1), (true, 2), (true, 3), (true, 4), (true, 5), (true, 6), (true, 7), (true, 8), (false, 9), (false, 10), (true, 11)] (by kernel_rfl) (by kernel_rfl) (New.dr (New.refl w1)) (fun hne => ?_)
 iterate 4 (refine mix_take (o := ⟨_, _, _, _, _, _⟩) rfl (fun K hK => ?_); go_simp; refine hK _ ?_; clear hK K)
 refine mix_take_row (o := ⟨_, _, _, _, _, _⟩) (cs := [.int .i64 l, .int .u64 p]) rfl rfl _ rfl rfl (fun w' h => Blk.rangeOf (h.blk HB3.out)) Tryz.underlying287 rfl (by kernel_rfl) ?_
 refine mix_take_look (o := ⟨_, _, _, _, _, _⟩) rfl rfl (fun w' h => (HM.out.fr (HN.out.toFr NoB) (fun x => x)).fr (h.toFr NoB) (fun x => x)) atKeyed Tryz.underlying283 zH (.tmp 11) (.tmp 12) rfl rfl _ _ rfl HKY.out ?_
 rw [HV.out.1, HV.out.2.1]
 iterate 3 (refine mix_take (o := ⟨_, _, _, _, _, _⟩) rfl (fun K hK => ?_); go_simp; refine hK _ ?_; clear hK K)
 clear q0
 refine mix_alloc (o := ⟨_, _, _, _, _, _⟩) rfl rfl rfl hashInfoR ?_
 intro g5 w2 hB5 hN5 hz5
 have HN5 : Hid (New w1 w2) := Lib.hid ((New.dr (New.refl w1)).tr hN5)
 refine ⟨fun _ => HN5.out, ?_⟩
 simp only [Act.put, List.setIfInBounds_toArray, List.set_cons_zero, List.set_cons_succ]
 have HS5 : Hid ((secA V).size = 32) := Lib.hid (by rw [secA_size]; exact HV.out.2.2.1)
 refine mix_store (o := ⟨_, _, _, _, _, _⟩) (cs := secA V) (cs0 := secA (List.replicate 32 0)) rfl rfl (.tmp 5) (.tmp 14) rfl (by rw [HS5.out]; rfl) rfl rfl hB5 (by rw [HS5.out]; simp [secA_size]) (secA_one V) ?_
 intro w3 hB3' hF3
 have HN3 : Hid (New w1 w3) := Lib.hid (HN5.out.fr hF3 (fun k hk => by have : w1.heap.size ≤ g5 := hz5; omega))
 have HB5 := Lib.hid hB3'
 clear hB5 hN5 hB3' hF3
 refine ⟨fun _ => HN3.out, ?_⟩
 simp only [Act.put, List.setIfInBounds_toArray, List.set_cons_zero, List.set_cons_succ]
 (refine mix_take (o := ⟨_, _, _, _, _, _⟩) rfl (fun K hK => ?_); go_simp; refine hK _ ?_; clear hK K)
 refine mix_done ?_
 have HN03 : Hid (New w w3) := Lib.hid (HN.out.tr HN3.out)
 have HB43 : Hid (Blk w3 b4 50 (secA (List.replicate 32 0))) := Lib.hid (HN3.out.blk HB4.out)
 have HB33 : Hid (Blk w3 b3 287 #[.int .i64 l, .int .u64 p]) := Lib.hid (HN3.out.blk HB3.out)
 have HZ5 : Hid (g5 ≠ b4) := Lib.hid (by have := HB4.out.lt; have : w1.heap.size ≤ g5 := hz5; omega)
 clear HB4 HB3 HN3 HN5 HN hz5 hne
 cases ok
 · have HRV : Hid (R = empH l) := Lib.hid (HV.out.2.2.2.2 rfl)
   go_upto_region 4 with fail
   have HBB : Hid (b3 ≠ b4 ∧ gt ≠ b4) := Lib.hid ⟨by have := HZ2.out; omega, by have h1 := HX.out.lt.1; have := HZ2.out; have := HZ3.out; omega⟩
   have q1 : ∀ p : HW (Fr (fun k => k = b4) w3), p.w.cell? ⟨b3, 0, none⟩ = some (.int .i64 l) := fun p => p.h.cell_some (by rw [HB33.out.cell]; rfl) HBB.out.1
   refine wp_region_mixH (Fr (fun k => k = b4) w3) [(true, 0), (true, 1), (true, 2), (true, 3), (true, 4), (true, 5), (true, 6), (false, 7)] (by kernel_rfl) (by kernel_rfl) ((New.dr (New.refl w3)).toFr _) (fun hne => ?_)
   iterate 6 (refine mix_take (o := ⟨_, _, _, _, _, _⟩) rfl (fun K hK => ?_); go_simp; refine hK _ ?_; clear hK K)
   clear q1
   refine mix_take_row (o := ⟨_, _, _, _, _, _⟩) (cs := u8s (empH l)) rfl rfl _ rfl rfl (fun w' h => tr_emp ((HX.out.new HN03.out).blk.fr h HBB.out.2) (by omega)) Tryz.underlying50 rfl (by rw [u8s_len, empH_len]; rfl) ?_
   refine mix_store (o := ⟨_, _, _, _, _, _⟩) (cs := secA (empH l)) (cs0 := secA (List.replicate 32 0)) rfl rfl (.tmp 4) (.tmp 24) rfl (by rw [secA_size, empH_len]; rfl) rfl rfl ((New.dr (New.refl w3)).blk HB43.out) (by rw [secA_size, secA_size, empH_len]; simp) (secA_one _) ?_
   intro w4 hB4 hF4
   have HB44 := Lib.hid hB4
   have HN4 : Hid (New w w4) := Lib.hid ((HN03.out.tr (New.dr (New.refl w3))).fr hF4 (fun k hk => by have := HZ2.out; have := HZ3.out; omega))
   have HS4 : Hid (Fr (fun k => k = b4) w3 w4) := Lib.hid (((New.dr (New.refl w3)).toFr _).trans hF4)
   clear hB4 hF4
   refine ⟨fun _ => HS4.out, ?_⟩
   simp only [Act.put]
   refine mix_done ?_
   go_wp2_with fail
   exact bodyPost_ret (v := .agg (secA (empH l))) (results_rowH rfl _ _ b4 _ _ rfl HB44.out Tryz.underlying50 rfl (by rw [secA_size, empH_len]; rfl)) rfl ⟨by rw [HRV.out], HN4.out⟩
 · have HRV : Hid (R = V) := Lib.hid (HV.out.2.2.2.1 rfl)
   go_wp2_with (first
    | ((with_reducible refine atOp ⟨some 17, .load _ _, _, _, _, _⟩ ?_); refine wpList_load_any rfl _ rfl Tryz.underlying50 rfl (by rw [HS5.out]; rfl) rfl HB5.out ?_)
    | ((with_reducible refine atOp ⟨none, .store 50 (.tmp 4) _, _, _, _, _⟩ ?_); refine wpList_store_any rfl (.tmp 4) (.tmp 17) rfl (by rw [HS5.out]; rfl) rfl rfl HB43.out (by rw [HS5.out]; simp [secA_size]) (secA_one _) ?_; intro w4 hb4 hf4; have HB44 := Lib.hid hb4; have HF4 := Lib.hid hf4; clear hb4 hf4))
   exact bodyPost_ret (v := .agg (secA V)) (results_rowH rfl _ _ b4 _ _ rfl HB44.out Tryz.underlying50 rfl (by rw [HS5.out]; rfl)) rfl ⟨by rw [HRV.out], HN03.out.fr HF4.out (fun k hk => by have := HZ2.out; have := HZ3.out; omega)⟩
end Go.Proofs.YtpifnmlnhddgeaaGreatDoor
namespace Go.Proofs.YtpifnmlnhddgeaaGreatDoor
set_option linter.unusedVariables false
set_option linter.unusedSimpArgs false
set_option linter.constructorNameAsVariable false
open Go.RowKit Go.Sort Go.Maps
def TrIn (w : World) (gt bn H n : Nat) (f : Nat → List Int) : Prop := ∃ m, TrX w gt bn H n m ∧ Nds H f f 0 m ∧ ∀ p, (f p).length = 32 ∧ Byt (f p)
section
variable {w w' : World} {gt bn H n : Nat} {f : Nat → List Int}
theorem TrIn.fr {S : Nat → Prop} (h : TrIn w gt bn H n f) (hF : Fr S w w') (h1 : ¬ S gt) (h2 : ¬ S bn) : TrIn w' gt bn H n f := by
 obtain ⟨m, h, r⟩ := h
 exact ⟨m, h.fr hF h1 h2, r⟩
theorem TrIn.new (h : TrIn w gt bn H n f) (hN : New w w') : TrIn w' gt bn H n f := h.fr (hN.toFr NoB) (fun x => x) (fun x => x)
theorem TrIn.lt (h : TrIn w gt bn H n f) : gt < w.heap.size ∧ bn < w.heap.size ∧ gt ≠ bn := by obtain ⟨m, h, r⟩ := h; exact h.lt
end
theorem ndv_ok {f : Nat → List Int} (hf : ∀ p, (f p).length = 32 ∧ Byt (f p)) (l p : Nat) : (ndv f l p).length = 32 ∧ Byt (ndv f l p) := ⟨ndv_len (fun p => (hf p).1) l p, ndv_byt (fun p => (hf p).2) l p⟩
set_option maxHeartbeats 4000000
set_option maxRecDepth 100000
end Go.Proofs.YtpifnmlnhddgeaaGreatDoor
