/- Texts of one proof, one behind the other: ShJ, ShT. No condition but each one's own. -/
import Derived.Shelf.Bytes.SlJoin
import Derived.Test.YtmibndkofoldkaaGreatDoorClientNilM1
import Derived.Test.YtmibndkofoldkaaGreatDoorClientNilM2
namespace Go.Proofs.YtmibndkofoldkaaGreatDoor
set_option linter.unusedVariables false
set_option linter.unusedSimpArgs false
set_option linter.constructorNameAsVariable false
open Go.RowKit Go.Shelf
def joinL_ren : Go.Shelf.Ren := ⟨fun | 14 => 190 | 15 => 215 | n => n, fun | 26 => 33 | 22 => 84 | 3 => 3 | 4 => 4 | 0 => 0 | 9 => 9 | 20 => 20 | 5 => 5 | n => n, fun | n => n⟩
theorem joinL : Go.Proofs.SlLaysJ.n14 Tryz.prog joinL_ren := {
 mixed := by kernel_rfl
 f14 := Tryz.func190.trans (congrArg some (by kernel_rfl))
 f15 := Tryz.func215.trans (congrArg some (by kernel_rfl))
 t0 := Tryz.underlying0
 a0 := Tryz.isAgg0
 z0 := Tryz.sizeOf0
 v0 := Tryz.zeroValue0
 t3 := Tryz.underlying3
 a3 := Tryz.isAgg3
 z3 := Tryz.sizeOf3
 v3 := Tryz.zeroValue3
 t4 := Tryz.underlying4
 a4 := Tryz.isAgg4
 z4 := Tryz.sizeOf4
 v4 := Tryz.zeroValue4
 t9 := Tryz.underlying9
 a9 := Tryz.isAgg9
 z9 := Tryz.sizeOf9
 v9 := Tryz.zeroValue9
 t20 := Tryz.underlying20
 a20 := Tryz.isAgg20
 z20 := Tryz.sizeOf20
 v20 := Tryz.zeroValue20
 t22 := Tryz.underlying84
 a22 := Tryz.isAgg84
 z22 := Tryz.sizeOf84
 v22 := Tryz.zeroValue84
 t26 := Tryz.underlying33
 a26 := Tryz.isAgg33
 z26 := Tryz.sizeOf33
 v26 := Tryz.zeroValue33
 t5 := Tryz.underlying5
 z5 := Tryz.sizeOf5
 i5 := by kernel_rfl }
def u8b (l : List Int) : List UInt8 := l.map fun x => UInt8.ofNat x.toNat
theorem u8b_len (l : List Int) : (u8b l).length = l.length := by simp [u8b]
theorem u8b_app (a b : List Int) : u8b (a ++ b) = u8b a ++ u8b b := by simp [u8b]
theorem u8b_flat (ls : List (List Int)) : (ls.map u8b).flatten = u8b ls.flatten := by
 induction ls with
 | nil => rfl
 | cons a r ih => rw [List.map_cons, List.flatten_cons, List.flatten_cons, u8b_app, ih]
theorem join_flat (ls : List (List UInt8)) : Lib.join ls [] = ls.flatten := by
 cases ls with
 | nil => rfl
 | cons a r =>
  rw [Lib.join_cons]
  have h : ∀ l : List (List UInt8), Lib.joinTail [] l = l.flatten := by
   intro l
   simp [Lib.joinTail]
  rw [h, List.flatten_cons]
theorem lens_flat (ls : List (List UInt8)) : Lib.lens ls = ls.flatten.length := by
 simp [Lib.lens, List.length_flatten]
theorem u8b_inj {s t : List Int} (hs : Byt s) (ht : Byt t) (h : u8b s = u8b t) : s = t := by
 have := byt_inj hs ht
 unfold u8b at h
 rw [h] at this
 simpa using this
structure Parts (w : World) (b o : Nat) (ls : List (List Int)) : Prop where
 at_ : ∀ (i : Nat) l, ls[i]? = some l → Byt l ∧ ∃ A d, w.cell? ⟨b, o + i, none⟩ = some (.slice A l.length d) ∧ Rd (fun _ => True) w 1 A l.length (u8s l)
theorem join_any (b o c : Nat) (ls : List (List Int)) (w : World) (h2 : 2 ≤ ls.length) (hP : Parts w b o ls) (hcap : ls.length ≤ c) (hlen : ls.flatten.length ≤ 1000000000) (hln : ls.length ≤ 1000000) :
    Calls Tryz.prog 190 #[.slice (some ⟨b, o, none⟩) ls.length c, .slice none 0 0] w fun e w' => ∃ A d, e = .returned (.slice A ls.flatten.length d) ∧ Rd (fun k => w.heap.size ≤ k) w' 1 A ls.flatten.length (u8s ls.flatten) ∧ New w w' := by
 have hbyt : Byt ls.flatten := by
  intro x hx
  obtain ⟨l, hl, hxl⟩ := List.mem_flatten.1 hx
  obtain ⟨i, hi⟩ := List.getElem?_of_mem hl
  exact (hP.at_ i l hi).1 x hxl
 have hcellOf : ∀ i l, ls[i]? = some l → ∃ v, w.cell? ⟨b, o + i, none⟩ = some v ∧ Lib.HoldsBytes w v (u8b l) := by
  intro i l hl
  obtain ⟨hb, A, d, hc, hR⟩ := hP.at_ i l hl
  refine ⟨_, hc, A, d, by rw [u8b_len], fun hA => ?_, fun a ha j x hx => ?_⟩
  · rcases Nat.eq_zero_or_pos l.length with h0 | h0
    · rw [List.eq_nil_of_length_eq_zero h0]; rfl
    · obtain ⟨ad, he, _⟩ := hR.2 h0
      rw [hA] at he
      cases he
  · have hj : j < l.length := by
     have := (List.getElem?_eq_some_iff.1 hx).1
     rwa [u8b_len] at this
    obtain ⟨ad, he, -, -, hcc⟩ := hR.2 (by omega)
    rw [ha] at he
    injection he with he
    subst he
    have hxe : x = UInt8.ofNat (l[j]).toNat := by
     unfold u8b at hx
     rw [List.getElem?_map, List.getElem?_eq_getElem hj] at hx
     injection hx with hx
     exact hx.symm
    have hb2 := hb l[j] (List.getElem_mem _)
    have hxn : ((x.toNat : Nat) : Int) = l[j] := by
     rw [hxe, UInt8.toNat_ofNat']
     omega
    rw [hxn]
    exact hcc j _ (by unfold u8s; rw [List.getElem?_map, List.getElem?_eq_getElem hj]; rfl)
 have hPA : Lib.PartsAt w ⟨b, o, none⟩ ((List.range ls.length).map fun i => (w.cell? ⟨b, o + i, none⟩).getD undef) (ls.map u8b) := by
  refine ⟨by simp, fun i v hv => ?_, fun i v l hv hl => ?_⟩
  · rw [List.getElem?_map] at hv
    obtain ⟨j, hj, rfl⟩ := Option.map_eq_some_iff.1 hv
    have hi : i < ls.length := by
     have := (List.getElem?_eq_some_iff.1 hj).1
     simpa using this
    have hji : j = i := by
     rw [List.getElem?_range hi] at hj
     injection hj with hj
     exact hj.symm
    subst hji
    obtain ⟨v, hc, -⟩ := hcellOf j ls[j] (List.getElem?_eq_getElem hi)
    rw [Lib.add_plain2, hc]
    rfl
  · rw [List.getElem?_map] at hv hl
    obtain ⟨j, hj, rfl⟩ := Option.map_eq_some_iff.1 hv
    obtain ⟨l0, hl0, rfl⟩ := Option.map_eq_some_iff.1 hl
    have hi : i < ls.length := (List.getElem?_eq_some_iff.1 hl0).1
    have hji : j = i := by
     rw [List.getElem?_range hi] at hj
     injection hj with hj
     exact hj.symm
    subst hji
    obtain ⟨v, hc, hh⟩ := hcellOf j l0 hl0
    rw [hc]
    exact hh
 have hj := Any.bytes_Join_many joinL b o ls.length c _ (ls.map u8b) (.slice none 0 0) [] w (by simp) h2 hPA hcap ⟨none, 0, rfl, fun _ => rfl, fun a ha => by cases ha⟩ (by omega)
  (by rw [lens_flat, u8b_flat, u8b_len, List.length_nil, Nat.zero_mul]; omega)
 refine hj.mono ?_
 rintro e w' ⟨v', rfl, hF, hB⟩
 rw [join_flat, u8b_flat] at hF
 obtain ⟨g, cap, zs, rfl, hg, hcg, hcm, hz, hzb, hzt, hcs, -⟩ := hF
 rw [u8b_len] at hcg hzt ⊢
 have hzt2 : zs.take ls.flatten.length = ls.flatten := u8b_inj (fun x hx => hzb x (List.mem_of_mem_take hx)) hbyt hzt
 refine ⟨_, _, rfl, ⟨by rw [u8s_len, Nat.mul_one], fun hn => ⟨_, rfl, hg, ?_, fun j u hu => ?_⟩⟩, hB⟩
 · have := hcs 0 (by omega)
   exact World.block_lt_of_cell? w' _ this
 · have hjl : j < ls.flatten.length := by
    have := (List.getElem?_eq_some_iff.1 hu).1
    rwa [u8s_len] at this
   rw [add_own, hcs j (by omega), ← hu]
   unfold u8s
   rw [List.getElem?_map]
   have e1 : ls.flatten[j]? = zs[j]? := by
    rw [← hzt2, List.getElem?_take_of_lt hjl]
   rw [e1, List.getD_eq_getElem?_getD, List.getElem?_eq_getElem (by omega)]
   rfl
end Go.Proofs.YtmibndkofoldkaaGreatDoor
namespace Go.Proofs.YtmibndkofoldkaaGreatDoor
set_option linter.unusedVariables false
set_option linter.unusedSimpArgs false
set_option linter.constructorNameAsVariable false
open Go.RowKit Go.Sort
theorem Parts.new {w w' : World} {b o : Nat} {ls : List (List Int)} (h : Parts w b o ls) (hN : New w w') : Parts w' b o ls :=
 ⟨fun i l hl => by
  obtain ⟨hb, A, d, hc, hR⟩ := h.at_ i l hl
  exact ⟨hb, A, d, hN.cell_ hc, hN.rd hR⟩⟩
theorem Parts.byt {w : World} {b o : Nat} {ls : List (List Int)} (h : Parts w b o ls) : Byt ls.flatten := by
 intro x hx
 obtain ⟨l, hl, hxl⟩ := List.mem_flatten.1 hx
 obtain ⟨i, hi⟩ := List.getElem?_of_mem hl
 exact (h.at_ i l hi).1 x hxl
set_option maxHeartbeats 1000000 in
set_option maxRecDepth 100000 in
theorem of_any (b o c : Nat) (ls : List (List Int)) (m : Nat) (hm : m = ls.length) (w : World) (hL : ShaIn 3 1 w) (h2 : 2 ≤ ls.length) (hP : Parts w b o ls) (hcap : ls.length ≤ c) (hlen : ls.flatten.length ≤ 500000000) (hln : ls.length ≤ 1000000) :
    Calls Tryz.prog 165 #[.slice (some ⟨b, o, none⟩) m c] w fun e w' => e = .returned (.agg (secA (hsh ls.flatten))) ∧ New w w' := by
 subst hm
 have HL := Lib.hid hL
 have HP := Lib.hid hP
 have HY := Lib.hid hP.byt
 have HJ := Lib.hid (fun W (hN : New w W) => join_any b o c ls W h2 (hP.new hN) hcap (by omega) hln)
 obtain ⟨ln, hln2⟩ : ∃ ln, ln = ls.length := ⟨_, rfl⟩
 obtain ⟨fl, hfl⟩ : ∃ fl, fl = ls.flatten := ⟨_, rfl⟩
 rw [← hfl] at HY hlen HJ ⊢
 rw [← hln2] at HJ ⊢
 clear hL hP h2 hcap hln hfl hln2 HP
 have hsz : (secA (hsh fl)).size = 32 := by rw [secA_size, hsh_len]
 have HSZ := Lib.hid hsz
 obtain ⟨RA, hRA⟩ : ∃ RA, RA = secA (hsh fl) := ⟨_, rfl⟩
 have HRA := Lib.hid hRA
 rw [← hRA] at HSZ ⊢
 clear hsz hRA
 go_enter Tryz.func165, Tryz.ntmps165
 go_upto_region 1 with fail
 have hz : (#[.int .u8 0, .int .u8 0, .int .u8 0, .int .u8 0, .int .u8 0, .int .u8 0, .int .u8 0, .int .u8 0, .int .u8 0, .int .u8 0, .int .u8 0, .int .u8 0, .int .u8 0, .int .u8 0, .int .u8 0, .int .u8 0, .int .u8 0, .int .u8 0, .int .u8 0, .int .u8 0, .int .u8 0, .int .u8 0, .int .u8 0, .int .u8 0, .int .u8 0, .int .u8 0, .int .u8 0, .int .u8 0, .int .u8 0, .int .u8 0, .int .u8 0, .int .u8 0] : Array Value) = secA (List.replicate 32 0) := rfl
 rw [hz]
 obtain ⟨w1, hw1⟩ : ∃ w1 : World, w1 = w.alloc (.cells (secA (List.replicate 32 0)) 60) := ⟨_, rfl⟩
 obtain ⟨b2, hb2⟩ : ∃ b2, b2 = w.heap.size := ⟨_, rfl⟩
 have HN1 : Hid (New w w1) := Lib.hid (by rw [hw1]; exact New.al (New.refl _) _)
 have HB2 : Hid (Blk w1 b2 60 (secA (List.replicate 32 0))) := Lib.hid (by rw [hw1, hb2, ← hz]; exact Blk.new _ _ _)
 have HZ := Lib.hid hb2
 rw [← hw1, ← hb2]
 clear hw1 hb2 hz
 go_wp2_with fail
 refine (HJ.out w1 HN1.out).mono ?_
 rintro e w2 ⟨A, d, rfl, hR, hN2⟩
 have HR := Lib.hid hR
 have HN2 := Lib.hid hN2
 clear hR hN2
 go_wp2_with fail
 refine (sum_any A fl.length d fl w2 ((HL.out.new HN1.out).new HN2.out) HR.out HY.out (by omega)).mono ?_
 rintro e w3 ⟨rfl, hN3⟩
 have HN3 := Lib.hid hN3
 have HB23 : Hid (Blk w3 b2 60 (secA (List.replicate 32 0))) := Lib.hid (hN3.blk (HN2.out.blk HB2.out))
 clear hN3
 rw [← HRA.out]
 go_wp2_with ((with_reducible refine atOp ⟨none, .store 60 (.tmp 2) _, _, _, _, _⟩ ?_); refine wpList_store_any rfl (.tmp 2) (.tmp 5) rfl (by rw [HSZ.out]; rfl) rfl rfl HB23.out (by rw [HSZ.out, secA_size, List.length_replicate]) (by rw [HRA.out]; exact secA_one _) ?_; intro w8 hb8 hf8; have HB8 := Lib.hid hb8; have HF8 := Lib.hid hf8; clear hb8 hf8)
 exact bodyPost_ret (v := .agg RA) (results_rowA rfl _ _ b2 _ _ rfl HB8.out Tryz.underlying60 rfl (by rw [HSZ.out]; rfl)) rfl ⟨rfl, ((HN1.out.tr HN2.out).tr HN3.out).fr HF8.out (fun k hk => by have := HZ.out; omega)⟩
end Go.Proofs.YtmibndkofoldkaaGreatDoor
