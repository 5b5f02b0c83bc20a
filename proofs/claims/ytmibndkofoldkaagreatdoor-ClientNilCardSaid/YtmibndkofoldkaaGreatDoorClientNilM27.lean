/- Texts of one proof, one behind the other: AeC, SnA, ClA, WqB, FrA, FrB, WqC, ClB. No condition but each one's own. -/
import Derived.Test.YtmibndkofoldkaaGreatDoorClientNilM26
import Derived.Test.YtmibndkofoldkaaGreatDoorClientNilM10
import Derived.Test.YtmibndkofoldkaaGreatDoorClientNilM18
import Derived.Test.YtmibndkofoldkaaGreatDoorClientNilM16
import Derived.Test.YtmibndkofoldkaaGreatDoorClientNilM6
import Derived.Test.YtmibndkofoldkaaGreatDoorClientNilM21
import Derived.Test.YtmibndkofoldkaaGreatDoorClientNilM25
import Derived.Test.YtmibndkofoldkaaGreatDoorClientNilM15
import Derived.Test.YtmibndkofoldkaaGreatDoorClientNilM2
namespace Go.Proofs.YtmibndkofoldkaaGreatDoor
set_option linter.unusedVariables false
set_option linter.unusedSimpArgs false
set_option linter.constructorNameAsVariable false
open Go.RowKit Go.Maps Go.Sort
def IsBy (x : Value) : Prop := ∃ v : Nat, v < 256 ∧ x = .int .u8 v
theorem IsBy.one {x : Value} (h : IsBy x) : x.oneCell' = true := by obtain ⟨v, _, rfl⟩ := h; rfl
def BR (w : World) (b T n : Nat) : Prop := ∃ cs : List Value, cs.length = n ∧ (∀ x ∈ cs, IsBy x) ∧ Blk w b T cs.toArray
theorem byt_by {L : List Int} (h : Byt L) : ∀ x ∈ u8s L, IsBy x := by
 intro x hx
 obtain ⟨y, hy, rfl⟩ := List.mem_map.1 hx
 have h1 := h y hy
 obtain ⟨v, rfl⟩ := Int.eq_ofNat_of_zero_le h1.1
 exact ⟨v, by omega, rfl⟩
section
variable {w w' : World} {b T n : Nat}
theorem BR.of {L : List Int} (hl : L.length = n) (hb : Byt L) (h : Blk w b T (secA L)) : BR w b T n := ⟨u8s L, by rw [u8s_len, hl], byt_by hb, h⟩
theorem by_nums : ∀ {cs : List Value}, (∀ x ∈ cs, IsBy x) → ∃ L : List Int, Byt L ∧ u8s L = cs
 | [], _ => ⟨[], (fun x hx => by cases hx), rfl⟩
 | x :: cs, h => by
  obtain ⟨v, hv, rfl⟩ := h x (List.mem_cons_self ..)
  obtain ⟨L, h1, rfl⟩ := by_nums (cs := cs) (fun y hy => h y (List.mem_cons_of_mem _ hy))
  refine ⟨(v : Int) :: L, fun y hy => ?_, rfl⟩
  rcases List.mem_cons.1 hy with rfl | hy
  · omega
  · exact h1 y hy
theorem BR.list (h : BR w b T n) : ∃ L : List Int, L.length = n ∧ Byt L ∧ Blk w b T (secA L) := by
 obtain ⟨cs, h1, h2, h3⟩ := h
 obtain ⟨L, h4, rfl⟩ := by_nums h2
 exact ⟨L, by rwa [u8s_len] at h1, h4, h3⟩
theorem BR.cell (h : BR w b T n) {i : Nat} (hi : i < n) : ∃ v : Nat, v < 256 ∧ w.cell? ⟨b, i, none⟩ = some (.int .u8 v) ∧ w.frozen? ⟨b, i, none⟩ = false := by
 obtain ⟨cs, h1, h2, h3⟩ := h
 obtain ⟨v, hv, he⟩ := h2 (cs[i]'(by omega)) (List.getElem_mem _)
 exact ⟨v, hv, by rw [h3.cell i, List.getElem?_toArray, List.getElem?_eq_getElem (by omega), he], h3.frozen i⟩
theorem BR.range (h : BR w b T n) {off k : Nat} (hk : off + k ≤ n) : ∃ xs : List Value, xs.length = k ∧ (∀ x ∈ xs, IsBy x) ∧ w.rangeAt b off xs := by
 obtain ⟨cs, h1, h2, h3⟩ := h
 refine ⟨(cs.drop off).take k, by rw [List.length_take, List.length_drop]; omega, fun x hx => h2 x (List.mem_of_mem_drop (List.mem_of_mem_take hx)), fun j v hv => ?_⟩
 have hj : j < k := by
  have := (List.getElem?_eq_some_iff.1 hv).1
  rw [List.length_take] at this
  omega
 rw [h3.cell (off + j), List.getElem?_toArray, ← hv, List.getElem?_take, if_pos hj, List.getElem?_drop]
theorem BR.set (h : BR w b T n) (i : Nat) {v : Nat} (hv : v < 256) : BR (w.setCell ⟨b, i, none⟩ (.int .u8 v)) b T n := by
 obtain ⟨cs, h1, h2, h3⟩ := h
 refine ⟨cs.set i (.int .u8 v), by rw [List.length_set, h1], fun x hx => ?_, by have := h3.set i (.int .u8 v); rwa [List.setIfInBounds_toArray] at this⟩
 rcases List.mem_or_eq_of_mem_set hx with h4 | h4
 · exact h2 x h4
 · exact ⟨v, hv, h4⟩
theorem by_splice {cs xs : List Value} (h1 : ∀ x ∈ cs, IsBy x) (h2 : ∀ x ∈ xs, IsBy x) (off : Nat) : ∀ x ∈ splice cs off xs, IsBy x := by
 intro x hx
 unfold splice at hx
 simp only [List.mem_append] at hx
 rcases hx with hx | hx | hx
 · exact h1 x (List.mem_of_mem_take hx)
 · exact h2 x hx
 · exact h1 x (List.mem_of_mem_drop hx)
theorem splice_len {cs xs : List Value} {off : Nat} (h : off + xs.length ≤ cs.length) : (splice cs off xs).length = cs.length := by
 unfold splice
 simp only [List.length_append, List.length_take, List.length_drop]
 omega
theorem BR.splice {cs xs : List Value} (h1 : cs.length = n) (h2 : ∀ x ∈ cs, IsBy x) (h3 : ∀ x ∈ xs, IsBy x) {off : Nat} (ho : off + xs.length ≤ n) (h : Blk w' b T (splice cs off xs).toArray) : BR w' b T n :=
 ⟨_, by rw [splice_len (by omega), h1], by_splice h2 h3 off, h⟩
theorem BR.new (h : BR w b T n) (hN : New w w') : BR w' b T n := by obtain ⟨cs, h1, h2, h3⟩ := h; exact ⟨cs, h1, h2, hN.blk h3⟩
theorem BR.fr {S : Nat → Prop} (h : BR w b T n) (hF : Fr S w w') (hs : ¬ S b) : BR w' b T n := by obtain ⟨cs, h1, h2, h3⟩ := h; exact ⟨cs, h1, h2, h3.fr hF hs⟩
theorem Cip.br (h : Cip w b) : BR w b 286 688 := by obtain ⟨L, h1, h2, h3⟩ := h; exact BR.of h1 h2 h3
theorem BR.cip (h : BR w b 286 688) : Cip w b := by obtain ⟨L, h1, h2, h3⟩ := h.list; exact ⟨L, h1, h2, h3⟩
end
theorem slice16 (b1 t : Nat) (h : t < 4) (w : World) : (Instr.sliceAt 23 (.pointer (some ⟨b1, 0, none⟩)) (some (.int .i64 (4 * (t : Int)))) (some (.int .i64 (4 * (t : Int) + 4))) none).run Tryz.prog w = .ok (.slice (some ⟨b1, 4 * t, none⟩) 4 (16 - 4 * t)) w := by
 have hal : (Tryz.prog.arrayLen 23) = 16 := by kernel_rfl
 have hel : (Tryz.prog.elem 23) = 5 := by kernel_rfl
 have hu : Tryz.prog.underlying 23 = some (.array (Tryz.prog.arrayLen 23) (Tryz.prog.elem 23)) := by rw [hal, hel]; exact Tryz.underlying23
 have hs : (sizeOf 5).run Tryz.prog w = .ok 1 w := by
  first | exact Tryz.sizeOf5 w | simp [Tryz.sizeOf5, go_sem] | kernel_rfl
 rw [run_sliceAt_array_lh (P := Tryz.prog) w 23 ⟨b1, 0, none⟩ hu .i64 .i64 (4 * (t : Int)) (4 * (t : Int) + 4) (by omega) (by omega) (by rw [hal]; omega), hel, hal, hs]
 have e1 : (4 * (t : Int)).toNat = 4 * t := by omega
 have e2 : (4 * (t : Int) + 4).toNat = 4 * t + 4 := by omega
 simp only [Result.andThen_ok, slicedAt, e1, e2]
 rw [if_neg (by omega), add_own, Nat.mul_one]
 simp
theorem arr4 (A : Addr) (c : Nat) (w : World) : (Instr.arrayAt 287 (.slice (some A) 4 c)).run Tryz.prog w = .ok (.pointer (some A)) w := by
 have hu : Tryz.prog.underlying 287 = some (.array 4 5) := Tryz.underlying287
 simp [Instr.arrayAt, run_underlying hu, go_sem]
set_option maxRecDepth 100000 in
theorem index_words {xs : List Int} {t : Nat} (h : t < 44) (w : World) : (Instr.index 288 (.agg (secA xs)) (.int .i64 (t : Int))).run Tryz.prog w = .ok (.agg (secA ((xs.drop (t * 4)).take 4))) w := by
 have hs : (sizeOf 287).run Tryz.prog w = .ok 4 w := by
  first | exact Tryz.sizeOf287 w | simp [Tryz.sizeOf287, go_sem] | kernel_rfl
 have hg : (isAgg 287).run Tryz.prog w = .ok true w := by
  first | kernel_rfl | simp [isAgg, run_underlying Tryz.underlying287, go_sem]
 have he : (secA xs).extract (t * 4) (t * 4 + 4) = secA ((xs.drop (t * 4)).take 4) := by
  unfold secA u8s
  rw [List.extract_toArray]
  simp [List.extract, List.map_take, List.map_drop]
 have hp : (part 287 (secA xs) (t * 4)).run Tryz.prog w = .ok (.agg (secA ((xs.drop (t * 4)).take 4))) w := by
  simp [part, hg, hs, he, go_sem]
 have hn : (t : Int) < 44 := by omega
 obtain ⟨Z, hZ⟩ := nm (secA xs)
 obtain ⟨Y, hY⟩ := nm (secA ((xs.drop (t * 4)).take 4))
 rw [← hZ, ← hY] at he
 rw [← hZ, ← hY]
 clear hp hZ hY hg
 simp [Instr.index, run_underlying Tryz.underlying288, asIntOf, hs, hn, go_sem]
 rw [if_pos h]
 rw [he]
theorem slice_l16 (b off t : Nat) (h : t < 4) (w : World) : (Instr.sliceAt 22 (.pointer (some ⟨b, off, none⟩)) (some (.int .i64 (4 * (t : Int)))) none none).run Tryz.prog w = .ok (.slice (some ⟨b, off + 4 * t, none⟩) (16 - 4 * t) (16 - 4 * t)) w := by
 have hal : (Tryz.prog.arrayLen 22) = 16 := by kernel_rfl
 have hel : (Tryz.prog.elem 22) = 5 := by kernel_rfl
 have hu : Tryz.prog.underlying 22 = some (.array (Tryz.prog.arrayLen 22) (Tryz.prog.elem 22)) := by rw [hal, hel]; exact Tryz.underlying22
 have hs : (sizeOf 5).run Tryz.prog w = .ok 1 w := by
  first | exact Tryz.sizeOf5 w | simp [Tryz.sizeOf5, go_sem] | kernel_rfl
 rw [run_sliceAt_array_l (P := Tryz.prog) w 22 ⟨b, off, none⟩ hu .i64 (4 * (t : Int)) (by omega) (by rw [hal]; omega), hel, hal, hs]
 have e1 : (4 * (t : Int)).toNat = 4 * t := by omega
 simp only [Result.andThen_ok, slicedAt, e1]
 rw [if_neg (by omega), Lib.add_plain2, Nat.mul_one]
def A12 (b7 b12 x0 x1 x2 x3 y0 y1 y2 y3 : Nat) (w' : World) : Prop := w'.cell? ⟨b7, 0, none⟩ = some (.int .u8 x0) ∧ w'.cell? ⟨b7, 1, none⟩ = some (.int .u8 x1) ∧ w'.cell? ⟨b7, 2, none⟩ = some (.int .u8 x2) ∧ w'.cell? ⟨b7, 3, none⟩ = some (.int .u8 x3) ∧ w'.cell? ⟨b12, 176 + x0, none⟩ = some (.int .u8 y0) ∧ w'.cell? ⟨b12, 176 + x1, none⟩ = some (.int .u8 y1) ∧ w'.cell? ⟨b12, 176 + x2, none⟩ = some (.int .u8 y2) ∧ w'.cell? ⟨b12, 176 + x3, none⟩ = some (.int .u8 y3)
theorem cipZero : Tryz.prog.built 286 [] = some (secA (List.replicate 688 0)) := by kernel_rfl
theorem wordsZero : Tryz.prog.built 288 [] = some (secA (List.replicate 176 0)) := by kernel_rfl
theorem wordsInfo : (Tryz.prog.info? 288).map (fun i => (i.zero, i.size)) = some (some (.agg (secA (List.replicate 176 0))), 176) := by kernel_rfl
theorem wordInfo : (Tryz.prog.info? 287).map (fun i => (i.zero, i.size)) = some (some (.agg (secA (List.replicate 4 0))), 4) := by kernel_rfl
theorem zeros_byt (n : Nat) : Byt (List.replicate n 0) := fun x hx => by rw [List.eq_of_mem_replicate hx]; decide
set_option maxHeartbeats 4000000
set_option maxRecDepth 100000
theorem aesnew_any (key : List Int) (w : World) (hk : key.length = 16 ∧ Byt key) : Calls Tryz.prog 109 #[.agg (secA key)] w fun e w' => ∃ b, e = .returned (.pointer (some ⟨b, 0, none⟩)) ∧ Cip w' b ∧ w.heap.size ≤ b ∧ New w w' := by
 have HK := Lib.hid hk
 obtain ⟨KA, hKA⟩ := nm (secA key)
 have HKA := Lib.hid hKA
 rw [← hKA]
 have hcz := cipZero
 have hwz := wordsZero
 have hwi := wordsInfo
 obtain ⟨ZC, hZC⟩ := nm (secA (List.replicate 688 0))
 obtain ⟨ZW, hZW⟩ := nm (secA (List.replicate 176 0))
 rw [← hZC] at hcz
 rw [← hZW] at hwz hwi
 have HZC := Lib.hid hZC
 have HZW : Hid (ZW = secA (List.replicate 176 0) ∧ ZW.size = 176) := Lib.hid ⟨hZW, by rw [hZW, secA_size, List.length_replicate]⟩
 have HCZ := Lib.hid hcz
 have HWZ := Lib.hid hwz
 have HWI := Lib.hid hwi
 clear hk hKA hcz hwz hwi hZC hZW
 go_enter Tryz.func109, Tryz.ntmps109
 go_upto_region 2 with ((with_reducible refine atOp ⟨some 11, .build _ _, _, _, _, _⟩ ?_); refine wpList_built rfl 286 [] rfl [] rfl ZC HCZ.out ?_)
 obtain ⟨b1, hb1⟩ := nm w.heap.size
 obtain ⟨b12, hb12⟩ := nm (w.heap.size + 1)
 refine wp_world fun w1 hw1 => ?_
 have HN1 : Hid (New w w1) := Lib.hid (by rw [hw1.out]; exact (New.refl _).al2 _ _)
 have HB1 : Hid (BR w1 b1 23 16) := Lib.hid (BR.of HK.out.1 HK.out.2 (by rw [hw1.out, hb1, ← HKA.out]; exact (Blk.new _ _ _).alloc _))
 have HC1 : Hid (Cip w1 b12) := Lib.hid (BR.cip (BR.of (L := List.replicate 688 0) (List.length_replicate ..) (zeros_byt _) (by rw [hw1.out, hb12, ← HZC.out]; exact Blk.new' _ _ _ (by simp))))
 have HLT : Hid (w.heap.size ≤ b1 ∧ b1 < b12) := Lib.hid ⟨by omega, by omega⟩
 rw [← hb12, ← hb1]
 clear hb1 hb12 hw1
 go_wp2_with fail
 refine (tables_any b12 w1 HC1.out).mono ?_
 rintro e w2 ⟨rfl, hC, hF⟩
 have HC2 := Lib.hid hC
 have HN2 : Hid (New w w2) := Lib.hid (HN1.out.fr hF (fun k hk => by have := HLT.out; omega))
 have HB12 : Hid (BR w2 b1 23 16) := Lib.hid (HB1.out.fr hF (by have := HLT.out; omega))
 clear hC hF HC1 HB1 HN1
 go_upto_region 4 with (first
  | ((with_reducible refine atOp ⟨some 4, .alloc _, _, _, _, _⟩ ?_); refine wpList_newrow rfl rfl rfl (.tmp 4) (.tmp 15) rfl wordsInfo rfl rfl rfl HZW.out.2 (by rw [HZW.out.1]; exact secA_one _) ?_)
  | ((with_reducible refine atOp ⟨some 15, .build _ _, _, _, _, _⟩ ?_); refine wpList_built rfl 288 [] rfl [] rfl ZW HWZ.out ?_))
 obtain ⟨b4, hb4⟩ := nm w2.heap.size
 refine wp_world fun w3 hw3 => ?_
 have hN3 : New w2 w3 := by rw [hw3.out]; exact New.al (New.refl _) _
 have HN3 : Hid (New w w3) := Lib.hid (HN2.out.tr hN3)
 have HC3 : Hid (Cip w3 b12) := Lib.hid (HC2.out.new hN3)
 have HB13 : Hid (BR w3 b1 23 16) := Lib.hid (HB12.out.new hN3)
 have HB43 : Hid (BR w3 b4 288 176) := Lib.hid (BR.of (List.length_replicate ..) (zeros_byt _) (by rw [hw3.out, hb4, ← HZW.out.1]; exact Blk.new _ _ _))
 have HLT2 : Hid (b12 < b4) := Lib.hid (by
  obtain ⟨L, _, _, h⟩ := HC2.out
  rw [hb4]; exact h.lt)
 rw [← hb4]
 clear hw3 hb4 hN3 HC2 HB12 HN2
 go_wp2_with fail
 go_loopw [5, 16] (fun vf vi wr => ∃ f k : Nat, vf = .int .u8 f ∧ vi = .int .i64 k ∧ k ≤ 44 ∧ Hid (f < 256) ∧ Hid (New w wr) ∧ Hid (Cip wr b12) ∧ Hid (BR wr b1 23 16) ∧ Hid (BR wr b4 288 176)) (fun _ vi _ => 44 - (intOf vi).toNat)
 case atStart => exact ⟨1, 0, rfl, rfl, by decide, Lib.hid (by decide), HN3, HC3, HB13, HB43⟩
 case round =>
  clear HC3 HB13 HB43 HN3
  obtain ⟨f, k, rfl, rfl, hk, HF, HN, HC, HB1, HB4⟩ := hrel
  by_cases hlt : k < 44
  rotate_left
  · as_aux_lemma =>
    obtain ⟨W, hW1, hW2, hW3⟩ := HB4.out.list
    have HW : Hid (W.length = 176 ∧ Byt W) := Lib.hid ⟨hW1, hW2⟩
    have HW3 := Lib.hid hW3
    clear hW1 hW2 hW3
    go_wp2_with ((with_reducible refine atOp ⟨some 90, .load _ _, _, _, _, _⟩ ?_); refine wpList_load_any rfl _ rfl Tryz.underlying288 rfl (by rw [secA_size, HW.out.1]; rfl) rfl HW3.out ?_)
    go_loopw [91] (fun vi wr => ∃ j : Nat, vi = .int .i64 j ∧ j ≤ 44 ∧ Hid (New w wr) ∧ Hid (Cip wr b12)) (fun vi _ => 44 - (intOf vi).toNat)
    case atStart => exact ⟨0, rfl, by decide, HN, HC⟩
    case round =>
     clear HN HC HB1 HB4 HW3 hk hlt
     obtain ⟨j, rfl, hj, HN, HC⟩ := hrel
     by_cases hjl : j < 44
     · have hix := fun w => index_words (xs := W) hjl w
       have HX : Hid (((W.drop (j * 4)).take 4).length = 4 ∧ Byt ((W.drop (j * 4)).take 4)) := Lib.hid ⟨by rw [List.length_take, List.length_drop, HW.out.1]; omega, fun x hx => HW.out.2 x (List.mem_of_mem_drop (List.mem_of_mem_take hx))⟩
       obtain ⟨X, hX⟩ := nm ((W.drop (j * 4)).take 4)
       rw [← hX] at hix HX
       clear hX
       have HX4 : Hid ((secA X).size = 4) := Lib.hid (by rw [secA_size, HX.out.1])
       obtain ⟨XA, hXA⟩ := nm (secA X)
       rw [← hXA] at hix HX4
       have HXA := Lib.hid hXA
       clear hXA
       obtain ⟨jq, hjq⟩ := nm (j / 4)
       obtain ⟨jr, hjr⟩ := nm (j % 4)
       have hq1 : (j : Int).tdiv 4 = (jq : Int) := by rw [hjq, Int.tdiv_eq_ediv_of_nonneg (by omega)]; omega
       have hr1 : (j : Int).tmod 4 = (jr : Int) := by rw [hjr, Int.tmod_eq_emod_of_nonneg (by omega)]; omega
       have hqw : IntKind.i64.wrap (jq : Int) = (jq : Int) := by rw [IntKind.wrap_i64]; omega
       have hrw : IntKind.i64.wrap (jr : Int) = (jr : Int) := by rw [IntKind.wrap_i64]; omega
       have hrm : IntKind.i64.wrap (4 * (jr : Int)) = 4 * (jr : Int) := by rw [IntKind.wrap_i64]; omega
       have hq11 : (jq : Int) < 11 := by omega
       have HQ : Hid (jq < 11 ∧ jr < 4) := Lib.hid ⟨by omega, by omega⟩
       have hsl := fun w => slice_l16 b12 (jq * 16) jr HQ.out.2 w
       clear hjq hjr
       go_upto_region 23 with (first
        | ((with_reducible refine atOp ⟨some 10, .alloc _, _, _, _, _⟩ ?_); refine wpList_alloc_row rfl rfl wordInfo ?_; intro b10 w5 hb hB hN5; have HB10 := Lib.hid hB; have HN5 : Hid (New w w5) := Lib.hid (HN.out.tr hN5); have HC5 : Hid (Cip w5 b12) := Lib.hid (HC.out.new hN5); have HZ10 := Lib.hid hb; clear hb hB hN5)
        | ((with_reducible refine atOp ⟨none, .store 287 (.tmp 10) _, _, _, _, _⟩ ?_); refine wpList_store_any rfl (.tmp 10) (.tmp 94) rfl (by rw [HX4.out]; rfl) rfl rfl HB10.out (by rw [HX4.out]; rfl) (by rw [HXA.out]; exact secA_one _) ?_; intro w6 hb6 hf6; have HB6 := Lib.hid hb6; have HF6 := Lib.hid hf6; clear hb6 hf6))
       have HN6 : Hid (New w w6) := Lib.hid (HN5.out.fr HF6.out (fun t ht => by
        have h1 := HZ10.out
        have h2 := HN.out.size
        omega))
       have HLTc : Hid (b12 < b10) := Lib.hid (by
        obtain ⟨L, _, _, h⟩ := HC.out
        rw [HZ10.out]; exact h.lt)
       have HC6 : Hid (Cip w6 b12) := Lib.hid (BR.cip (HC5.out.br.fr HF6.out (by have := HLTc.out; omega)))
       refine wp_region_mixH (fun _ => True) [(true, 0), (true, 1), (true, 2), (true, 3), (true, 4), (true, 5), (true, 6), (true, 7), (true, 8), (true, 9), (true, 10), (false, 11)] (by kernel_rfl) (by kernel_rfl) trivial (fun hne => ?_)
       iterate 11 (refine mix_take (o := ⟨_, _, _, _, _, _⟩) rfl (fun K hK => ?_); go_simp; refine hK _ ?_; clear hK K)
       obtain ⟨cs, hc1, hc2, hc3⟩ := (HC6.out.br.new (New.dr (New.refl w6)))
       refine mix_copyF (q := fun _ => True) (o := ⟨_, _, _, _, _, _⟩) rfl rfl (.tmp 104) (.tmp 105) 84 84 rfl 5 Tryz.underlying84 rfl b12 (jq * 16 + 4 * jr) (16 - 4 * jr) (16 - 4 * jr) (some ⟨b10, 0, none⟩) 4 4 rfl rfl cs 286 hc3 (u8s X) (by rw [u8s_len, HX.out.1]; have := HQ.out; exact (Nat.min_eq_left (by omega)).symm) ⟨4, u8s X, by
        have h := Rd.ofBlk (p := fun _ => True) ((New.dr (New.refl w6)).blk HB6.out) 1 4 (by rw [HX4.out]) trivial
        rwa [HXA.out, secA_list] at h, by rw [List.take_length]⟩ (by rw [u8s_len, HX.out.1, hc1]; have := HQ.out; omega) (u8s_one _) (fun w7 hb7 hf7 => ⟨fun _ => trivial, ?_⟩)
       have HN7 : Hid (New w w7) := Lib.hid ((HN6.out.tr (New.dr (New.refl w6))).fr hf7 (fun t ht => by have := HLT.out; omega))
       have HC7 : Hid (Cip w7 b12) := Lib.hid (BR.cip (BR.splice hc1 hc2 (byt_by HX.out.2) (by rw [u8s_len, HX.out.1]; have := HQ.out; omega) hb7))
       clear hc1 hc2 hc3 hb7 hf7
       refine mix_done ?_
       go_wp2_with fail
       go_roundw
       case rel => exact ⟨j + 1, by go_num, by omega, HN7, HC7⟩
       case measure => simp [intOf]; omega
     · go_wp2_with fail
       go_ret
       exact ⟨b12, rfl, HC.out, by have := HLT.out; omega, HN.out⟩
  by_cases hk4 : k < 4
  · as_aux_lemma =>
    have hk0 : (0 : Int) ≤ (k : Int) := by omega
    have hk44 : (k : Int) < 44 := by omega
    have hm : IntKind.i64.wrap (4 * (k : Int)) = 4 * (k : Int) := by rw [IntKind.wrap_i64]; omega
    have hm4 : IntKind.i64.wrap (4 * (k : Int) + 4) = 4 * (k : Int) + 4 := by rw [IntKind.wrap_i64]; omega
    have hsl := fun w => slice16 b1 k hk4 w
    have hat := fun A c w => arr4 A c w
    obtain ⟨xs, hx1, hx2, hx3⟩ := HB1.out.range (off := 4 * k) (k := 4) (by omega)
    have HX := Lib.hid (And.intro hx1 (And.intro hx2 hx3))
    clear hx1 hx2 hx3
    obtain ⟨cs, hc1, hc2, hc3⟩ := HB4.out
    have HCS := Lib.hid (And.intro hc1 (And.intro hc2 hc3))
    clear hc1 hc2 hc3
    have HKL : Hid (k * 4 + 4 ≤ 176) := Lib.hid (by omega)
    go_wp2_with (first
     | ((with_reducible refine atOp ⟨some 29, .load _ _, _, _, _, _⟩ ?_); refine wpList_load_range rfl (.tmp 28) rfl rfl HX.out.2.2 Tryz.underlying287 rfl (by rw [HX.out.1]; rfl) ?_)
     | ((with_reducible refine atOp ⟨none, .store 287 (.tmp 30) _, _, _, _, _⟩ ?_); refine wpList_store_part (cells := xs) (off := k * 4) rfl (.tmp 30) (.tmp 29) rfl rfl rfl HCS.out.2.2 (by rw [HX.out.1, HCS.out.1]; exact HKL.out) (by rw [HX.out.1]; rfl) (fun v hv => (HX.out.2.1 v hv).one) ?_; intro w8 hb8 hf8; have HB8 := Lib.hid hb8; have HF8 := Lib.hid hf8; clear hb8 hf8))
    go_roundw
    case rel => exact ⟨f, k + 1, rfl, by go_num, by omega, HF, Lib.hid (HN.out.fr HF8.out (fun j hj => by have := HLT.out; have := HLT2.out; omega)), Lib.hid (BR.cip (HC.out.br.fr HF8.out (by have := HLT2.out; omega))), Lib.hid (HB1.out.fr HF8.out (by have := HLT.out; have := HLT2.out; omega)), Lib.hid (BR.splice HCS.out.1 HCS.out.2.1 HX.out.2.1 (by rw [HX.out.1]; exact HKL.out) HB8.out)⟩
    case measure => simp [intOf]; omega
  · obtain ⟨k1, hk1⟩ : ∃ k1 : Nat, k = k1 + 1 := ⟨k - 1, by omega⟩
    obtain ⟨k0, hk0⟩ : ∃ k0 : Nat, k = k0 + 4 := ⟨k - 4, by omega⟩
    have hs1 : (k : Int) - 1 = (k1 : Int) := by omega
    have hs4 : (k : Int) - 4 = (k0 : Int) := by omega
    have hw1 : IntKind.i64.wrap (k1 : Int) = (k1 : Int) := by rw [IntKind.wrap_i64]; omega
    have hw4 : IntKind.i64.wrap (k0 : Int) = (k0 : Int) := by rw [IntKind.wrap_i64]; omega
    have hk44 : (k : Int) < 44 := by omega
    have hk144 : (k1 : Int) < 44 := by omega
    have hk044 : (k0 : Int) < 44 := by omega
    have HKK : Hid (k = k1 + 1 ∧ k = k0 + 4 ∧ k < 44) := Lib.hid ⟨hk1, hk0, hlt⟩
    clear hk1 hk0
    obtain ⟨xs, hx1, hx2, hx3⟩ := HB4.out.range (off := k1 * 4) (k := 4) (by have := HKK.out; omega)
    have HX := Lib.hid (And.intro hx1 (And.intro hx2 hx3))
    clear hx1 hx2 hx3
    go_upto_region 11 with (first
     | ((with_reducible refine atOp ⟨some 34, .load _ _, _, _, _, _⟩ ?_); refine wpList_load_range rfl (.tmp 33) rfl rfl HX.out.2.2 Tryz.underlying287 rfl (by rw [HX.out.1]; rfl) ?_)
     | ((with_reducible refine atOp ⟨some 7, .alloc _, _, _, _, _⟩ ?_); refine wpList_newrow rfl rfl rfl (.tmp 7) (.tmp 34) rfl wordInfo rfl rfl rfl (by rw [List.size_toArray, HX.out.1]) (all_oneCell_toArray fun v hv => (HX.out.2.1 v hv).one) ?_))
    obtain ⟨b7, hb7⟩ := nm wr.heap.size
    refine wp_world fun w5 hw5 => ?_
    have hN5 : New wr w5 := by rw [hw5.out]; exact New.al (New.refl _) _
    have HN5 : Hid (New w w5) := Lib.hid (HN.out.tr hN5)
    have HC5 : Hid (Cip w5 b12) := Lib.hid (HC.out.new hN5)
    have HB15 : Hid (BR w5 b1 23 16) := Lib.hid (HB1.out.new hN5)
    have HB45 : Hid (BR w5 b4 288 176) := Lib.hid (HB4.out.new hN5)
    have HB75 : Hid (BR w5 b7 287 4) := Lib.hid ⟨xs, HX.out.1, HX.out.2.1, by rw [hw5.out, hb7]; exact Blk.new _ _ _⟩
    have HLT3 : Hid (b4 < b7) := Lib.hid (by
     obtain ⟨L, _, _, h⟩ := HB4.out.list
     rw [hb7]; exact h.lt)
    rw [← hb7]
    clear hw5 hb7 hN5 HC HB1 HB4 HN HX
    obtain ⟨jr, hjr⟩ := nm (k % 4)
    have hrm : (k : Int).tmod 4 = (jr : Int) := by rw [hjr, Int.tmod_eq_emod_of_nonneg (by omega)]; omega
    have hjw : IntKind.i64.wrap (jr : Int) = (jr : Int) := by rw [IntKind.wrap_i64]; omega
    clear hjr
    by_cases hj0 : jr = 0
    · have hjb : ((jr : Int) == 0) = true := by simp [hj0]
      clear hj0
      obtain ⟨x0, hx0, cx0, -⟩ := HB75.out.cell (i := 0) (by decide)
      obtain ⟨y0, hy0, cy0, -⟩ := HC5.out.br.cell (i := 176 + x0) (by omega)
      have hxi0 : (x0 : Int) < 256 := by omega
      obtain ⟨x1, hx1, cx1, -⟩ := HB75.out.cell (i := 1) (by decide)
      obtain ⟨y1, hy1, cy1, -⟩ := HC5.out.br.cell (i := 176 + x1) (by omega)
      have hxi1 : (x1 : Int) < 256 := by omega
      obtain ⟨x2, hx2, cx2, -⟩ := HB75.out.cell (i := 2) (by decide)
      obtain ⟨y2, hy2, cy2, -⟩ := HC5.out.br.cell (i := 176 + x2) (by omega)
      have hxi2 : (x2 : Int) < 256 := by omega
      obtain ⟨x3, hx3, cx3, -⟩ := HB75.out.cell (i := 3) (by decide)
      obtain ⟨y3, hy3, cy3, -⟩ := HC5.out.br.cell (i := 176 + x3) (by omega)
      have hxi3 : (x3 : Int) < 256 := by omega
      obtain ⟨v1, hv1⟩ := Int.eq_ofNat_of_zero_le (xor8_in (a := (y1 : Int)) (b := (f : Int)) (by omega) (by have := HF.out; omega)).1
      have HV1 : Hid (v1 < 256 ∧ y2 < 256 ∧ y3 < 256 ∧ y0 < 256) := Lib.hid ⟨by have := (xor8_in (a := (y1 : Int)) (b := (f : Int)) (by omega) (by have := HF.out; omega)).2; omega, hy2, hy3, hy0⟩
      have hvx : bits .xor .u8 (y1 : Int) (f : Int) = (v1 : Int) := hv1
      have CX : Hid (A12 b7 b12 x0 x1 x2 x3 y0 y1 y2 y3 w5.drew) := Lib.hid ⟨cx0, cx1, cx2, cx3, cy0, cy1, cy2, cy3⟩
      clear cx0 cx1 cx2 cx3 cy0 cy1 cy2 cy3 hy0 hy1 hy2 hy3 hv1 hx0 hx1 hx2 hx3
      go_upto_region 12 with fail
      refine wp_region_mix (A12 b7 b12 x0 x1 x2 x3 y0 y1 y2 y3) 31 [(true, 0), (true, 1), (true, 2), (true, 3), (true, 4), (true, 5), (true, 6), (true, 7), (true, 8), (true, 9), (true, 10), (true, 11), (true, 12), (true, 13), (true, 14), (true, 15), (true, 16), (true, 17), (true, 18), (true, 19), (true, 20), (true, 21), (true, 22), (true, 23), (true, 24), (true, 25), (true, 26), (true, 27), (true, 28), (true, 29), (true, 30), (false, 31)] (by kernel_rfl) (by kernel_rfl) CX.out (fun hne => ?_)
      have q0 : ∀ p : HW (A12 b7 b12 x0 x1 x2 x3 y0 y1 y2 y3), p.w.cell? ⟨b7, 0, none⟩ = some (.int .u8 x0) := fun p => p.h.1
      have q1 : ∀ p : HW (A12 b7 b12 x0 x1 x2 x3 y0 y1 y2 y3), p.w.cell? ⟨b7, 1, none⟩ = some (.int .u8 x1) := fun p => p.h.2.1
      have q2 : ∀ p : HW (A12 b7 b12 x0 x1 x2 x3 y0 y1 y2 y3), p.w.cell? ⟨b7, 2, none⟩ = some (.int .u8 x2) := fun p => p.h.2.2.1
      have q3 : ∀ p : HW (A12 b7 b12 x0 x1 x2 x3 y0 y1 y2 y3), p.w.cell? ⟨b7, 3, none⟩ = some (.int .u8 x3) := fun p => p.h.2.2.2.1
      have q4 : ∀ p : HW (A12 b7 b12 x0 x1 x2 x3 y0 y1 y2 y3), p.w.cell? ⟨b12, 176 + x0, none⟩ = some (.int .u8 y0) := fun p => p.h.2.2.2.2.1
      have q5 : ∀ p : HW (A12 b7 b12 x0 x1 x2 x3 y0 y1 y2 y3), p.w.cell? ⟨b12, 176 + x1, none⟩ = some (.int .u8 y1) := fun p => p.h.2.2.2.2.2.1
      have q6 : ∀ p : HW (A12 b7 b12 x0 x1 x2 x3 y0 y1 y2 y3), p.w.cell? ⟨b12, 176 + x2, none⟩ = some (.int .u8 y2) := fun p => p.h.2.2.2.2.2.2.1
      have q7 : ∀ p : HW (A12 b7 b12 x0 x1 x2 x3 y0 y1 y2 y3), p.w.cell? ⟨b12, 176 + x3, none⟩ = some (.int .u8 y3) := fun p => p.h.2.2.2.2.2.2.2
      iterate 30 (refine mix_take (o := ⟨_, _, _, _, _, _⟩) rfl (fun K hK => ?_); go_simp; refine hK _ ?_; clear hK K)
      clear q0 q1 q2 q3 q4 q5 q6 q7
      refine mix_take (o := ⟨_, _, _, _, _, _⟩) rfl (fun K hK => ?_)
      go_simp
      refine hK _ ?_
      clear hK K
      obtain ⟨cs7, hc1, hc2, hc3⟩ := (HB75.out.new (New.dr (New.refl w5)))
      refine mix_store (o := ⟨_, _, _, _, _, _⟩) (cs0 := cs7.toArray) (cs := #[.int .u8 v1, .int .u8 y2, .int .u8 y3, .int .u8 y0]) rfl rfl (.tmp 7) (.tmp 68) rfl rfl rfl rfl hc3 (by rw [List.size_toArray, hc1]; rfl) (by simp [Value.oneCell']) (fun w6 hb6 hf6 => ⟨fun h => absurd rfl h, ?_⟩)
      have hN6 : New w w6 := ((HN5.out.tr (New.dr (New.refl w5))).fr hf6 (fun t ht => by have := HLT.out; have := HLT2.out; have := HLT3.out; omega))
      have HN6 := Lib.hid hN6
      have hF6 : Fr (fun t => t = b7) w5 w6 := ((New.dr (New.refl w5)).toFr _).trans hf6
      have HC6 : Hid (Cip w6 b12) := Lib.hid (BR.cip (HC5.out.br.fr hF6 (by have := HLT2.out; have := HLT3.out; omega)))
      have HB16 : Hid (BR w6 b1 23 16) := Lib.hid (HB15.out.fr hF6 (by have := HLT.out; have := HLT2.out; have := HLT3.out; omega))
      have HB46 : Hid (BR w6 b4 288 176) := Lib.hid (HB45.out.fr hF6 (by have := HLT3.out; omega))
      have HB76 : Hid (BR w6 b7 287 4) := Lib.hid ⟨[.int .u8 v1, .int .u8 y2, .int .u8 y3, .int .u8 y0], rfl, (by
       have := HV1.out
       intro x hx
       simp only [List.mem_cons, List.not_mem_nil, or_false] at hx
       rcases hx with rfl | rfl | rfl | rfl
       · exact ⟨v1, this.1, rfl⟩
       · exact ⟨y2, this.2.1, rfl⟩
       · exact ⟨y3, this.2.2.1, rfl⟩
       · exact ⟨y0, this.2.2.2, rfl⟩), hb6⟩
      clear hc1 hc2 hc3 hN6 hF6 hb6 hf6 HN5 HC5 HB15 HB45 HB75 CX
      refine mix_done ?_
      go_upto_region 13 with fail
      go_wp2_with fail
      refine (double_any f w6 (by have := HF.out; omega)).mono ?_
      rintro e w7 ⟨⟨f7, rfl, hf7⟩, rfl⟩
      obtain ⟨f7, rfl⟩ := Int.eq_ofNat_of_zero_le hf7.1
      have HF7 : Hid (f7 < 256) := Lib.hid (by have := hf7.2; omega)
      have HN7 := HN6
      have HC7 := HC6
      have HB17 := HB16
      have HB47 := HB46
      have HB77 := HB76
      clear hf7 HN6 HC6 HB16 HB46 HB76
      go_wp2_with fail
      go_loopw [71] (fun vi wr => ∃ j : Nat, vi = .int .i64 j ∧ j ≤ 4 ∧ Hid (New w wr) ∧ Hid (Cip wr b12) ∧ Hid (BR wr b1 23 16) ∧ Hid (BR wr b4 288 176) ∧ Hid (BR wr b7 287 4)) (fun vi _ => 4 - (intOf vi).toNat)
      case atStart => exact ⟨0, rfl, by decide, HN7, HC7, HB17, HB47, HB77⟩
      case round =>
       clear HN7 HC7 HB17 HB47 HB77
       obtain ⟨j, rfl, hj, HN, HC, HB1, HB4, HB7⟩ := hrel
       by_cases hjl : j < 4
       · as_aux_lemma =>
         have hj44 : (j : Int) < 4 := by omega
         obtain ⟨x, hx, cx, -⟩ := HB4.out.cell (i := k0 * 4 + j) (by have := HKK.out; omega)
         obtain ⟨y, hy, cy, -⟩ := HB7.out.cell (i := j) hjl
         obtain ⟨z0, -, cz, fz⟩ := HB4.out.cell (i := k * 4 + j) (by have := HKK.out; omega)
         obtain ⟨v, hv⟩ := Int.eq_ofNat_of_zero_le (xor8_in (a := (x : Int)) (b := (y : Int)) (by omega) (by omega)).1
         have HV : Hid (v < 256) := Lib.hid (by have := (xor8_in (a := (x : Int)) (b := (y : Int)) (by omega) (by omega)).2; omega)
         have hv2 : bits .xor .u8 (x : Int) (y : Int) = (v : Int) := hv
         have CX : Hid (wr.drew.cell? ⟨b4, k0 * 4 + j, none⟩ = some (.int .u8 x) ∧ wr.drew.cell? ⟨b7, j, none⟩ = some (.int .u8 y)) := Lib.hid ⟨cx, cy⟩
         have CZ : Hid (wr.drew.cell? ⟨b4, k * 4 + j, none⟩ = some (.int .u8 z0) ∧ wr.drew.frozen? ⟨b4, k * 4 + j, none⟩ = false) := Lib.hid ⟨cz, fz⟩
         clear cx cy cz fz hx hy hv
         go_upto_region 17 with fail
         refine wp_region_mix (fun w' => w'.cell? ⟨b4, k0 * 4 + j, none⟩ = some (.int .u8 x) ∧ w'.cell? ⟨b7, j, none⟩ = some (.int .u8 y)) 14 [(true, 0), (true, 1), (true, 2), (true, 3), (true, 4), (true, 5), (true, 6), (true, 7), (true, 8), (true, 9), (true, 10), (true, 11), (true, 12), (true, 13), (false, 14)] (by kernel_rfl) (by kernel_rfl) CX.out (fun hne => ?_)
         have q0 : ∀ p : HW (fun w' => w'.cell? ⟨b4, k0 * 4 + j, none⟩ = some (.int .u8 x) ∧ w'.cell? ⟨b7, j, none⟩ = some (.int .u8 y)), p.w.cell? ⟨b4, k0 * 4 + j, none⟩ = some (.int .u8 x) := fun p => p.h.1
         have q1 : ∀ p : HW (fun w' => w'.cell? ⟨b4, k0 * 4 + j, none⟩ = some (.int .u8 x) ∧ w'.cell? ⟨b7, j, none⟩ = some (.int .u8 y)), p.w.cell? ⟨b7, j, none⟩ = some (.int .u8 y) := fun p => p.h.2
         iterate 14 (refine mix_take (o := ⟨_, _, _, _, _, _⟩) rfl (fun K hK => ?_); go_simp; refine hK _ ?_; clear hK K)
         clear q0 q1
         refine mix_act (o := ⟨_, _, _, _, _, _⟩) rfl (fun K hK => ?_) (.inl rfl)
         have c1 := CZ.out.1
         have c2 := CZ.out.2
         go_simp
         refine hK.out _ _ (fun h => absurd rfl h) ?_
         clear hK K c1 c2
         refine mix_done ?_
         go_upto_region 18 with fail
         refine wp_world fun w9 hw9 => ?_
         have hF9 : Fr (fun t => t = b4) wr w9 := by rw [hw9.out]; exact ((Fr.refl (fun t => t = b4) wr).setCell (fun _ => rfl) _).trans ((New.dr (New.refl _)).toFr _)
         have HB49 : Hid (BR w9 b4 288 176) := Lib.hid (by rw [hw9.out]; exact (HB4.out.set _ HV.out).new (New.dr (New.refl _)))
         have HF9 := Lib.hid hF9
         clear hw9 hF9
         go_wp2_with fail
         go_roundw
         case rel => exact ⟨j + 1, by go_num, by omega, Lib.hid (HN.out.fr HF9.out (fun t ht => by have := HLT.out; have := HLT2.out; omega)), Lib.hid (BR.cip (HC.out.br.fr HF9.out (by have := HLT2.out; omega))), Lib.hid (HB1.out.fr HF9.out (by have := HLT.out; have := HLT2.out; omega)), HB49, Lib.hid (HB7.out.fr HF9.out (by have := HLT3.out; omega))⟩
         case measure => simp [intOf]; omega
       · as_aux_lemma =>
         go_wp2_with fail
         go_roundw
         case rel => exact ⟨f7, k + 1, rfl, by go_num, by have := HKK.out; omega, HF7, HN, HC, HB1, HB4⟩
         case measure => simp [intOf]; have := HKK.out; omega
    · have hjb : ((jr : Int) == 0) = false := by simp; omega
      clear hj0
      have HN7 := HN5
      have HC7 := HC5
      have HB17 := HB15
      have HB47 := HB45
      have HB77 := HB75
      have HF7 := HF
      clear HN5 HC5 HB15 HB45 HB75 HF
      go_wp2_with fail
      go_loopw [71] (fun vi wr => ∃ j : Nat, vi = .int .i64 j ∧ j ≤ 4 ∧ Hid (New w wr) ∧ Hid (Cip wr b12) ∧ Hid (BR wr b1 23 16) ∧ Hid (BR wr b4 288 176) ∧ Hid (BR wr b7 287 4)) (fun vi _ => 4 - (intOf vi).toNat)
      case atStart => exact ⟨0, rfl, by decide, HN7, HC7, HB17, HB47, HB77⟩
      case round =>
       clear HN7 HC7 HB17 HB47 HB77
       obtain ⟨j, rfl, hj, HN, HC, HB1, HB4, HB7⟩ := hrel
       by_cases hjl : j < 4
       · as_aux_lemma =>
         have hj44 : (j : Int) < 4 := by omega
         obtain ⟨x, hx, cx, -⟩ := HB4.out.cell (i := k0 * 4 + j) (by have := HKK.out; omega)
         obtain ⟨y, hy, cy, -⟩ := HB7.out.cell (i := j) hjl
         obtain ⟨z0, -, cz, fz⟩ := HB4.out.cell (i := k * 4 + j) (by have := HKK.out; omega)
         obtain ⟨v, hv⟩ := Int.eq_ofNat_of_zero_le (xor8_in (a := (x : Int)) (b := (y : Int)) (by omega) (by omega)).1
         have HV : Hid (v < 256) := Lib.hid (by have := (xor8_in (a := (x : Int)) (b := (y : Int)) (by omega) (by omega)).2; omega)
         have hv2 : bits .xor .u8 (x : Int) (y : Int) = (v : Int) := hv
         have CX : Hid (wr.drew.cell? ⟨b4, k0 * 4 + j, none⟩ = some (.int .u8 x) ∧ wr.drew.cell? ⟨b7, j, none⟩ = some (.int .u8 y)) := Lib.hid ⟨cx, cy⟩
         have CZ : Hid (wr.drew.cell? ⟨b4, k * 4 + j, none⟩ = some (.int .u8 z0) ∧ wr.drew.frozen? ⟨b4, k * 4 + j, none⟩ = false) := Lib.hid ⟨cz, fz⟩
         clear cx cy cz fz hx hy hv
         go_upto_region 17 with fail
         refine wp_region_mix (fun w' => w'.cell? ⟨b4, k0 * 4 + j, none⟩ = some (.int .u8 x) ∧ w'.cell? ⟨b7, j, none⟩ = some (.int .u8 y)) 14 [(true, 0), (true, 1), (true, 2), (true, 3), (true, 4), (true, 5), (true, 6), (true, 7), (true, 8), (true, 9), (true, 10), (true, 11), (true, 12), (true, 13), (false, 14)] (by kernel_rfl) (by kernel_rfl) CX.out (fun hne => ?_)
         have q0 : ∀ p : HW (fun w' => w'.cell? ⟨b4, k0 * 4 + j, none⟩ = some (.int .u8 x) ∧ w'.cell? ⟨b7, j, none⟩ = some (.int .u8 y)), p.w.cell? ⟨b4, k0 * 4 + j, none⟩ = some (.int .u8 x) := fun p => p.h.1
         have q1 : ∀ p : HW (fun w' => w'.cell? ⟨b4, k0 * 4 + j, none⟩ = some (.int .u8 x) ∧ w'.cell? ⟨b7, j, none⟩ = some (.int .u8 y)), p.w.cell? ⟨b7, j, none⟩ = some (.int .u8 y) := fun p => p.h.2
         iterate 14 (refine mix_take (o := ⟨_, _, _, _, _, _⟩) rfl (fun K hK => ?_); go_simp; refine hK _ ?_; clear hK K)
         clear q0 q1
         refine mix_act (o := ⟨_, _, _, _, _, _⟩) rfl (fun K hK => ?_) (.inl rfl)
         have c1 := CZ.out.1
         have c2 := CZ.out.2
         go_simp
         refine hK.out _ _ (fun h => absurd rfl h) ?_
         clear hK K c1 c2
         refine mix_done ?_
         go_upto_region 18 with fail
         refine wp_world fun w9 hw9 => ?_
         have hF9 : Fr (fun t => t = b4) wr w9 := by rw [hw9.out]; exact ((Fr.refl (fun t => t = b4) wr).setCell (fun _ => rfl) _).trans ((New.dr (New.refl _)).toFr _)
         have HB49 : Hid (BR w9 b4 288 176) := Lib.hid (by rw [hw9.out]; exact (HB4.out.set _ HV.out).new (New.dr (New.refl _)))
         have HF9 := Lib.hid hF9
         clear hw9 hF9
         go_wp2_with fail
         go_roundw
         case rel => exact ⟨j + 1, by go_num, by omega, Lib.hid (HN.out.fr HF9.out (fun t ht => by have := HLT.out; have := HLT2.out; omega)), Lib.hid (BR.cip (HC.out.br.fr HF9.out (by have := HLT2.out; omega))), Lib.hid (HB1.out.fr HF9.out (by have := HLT.out; have := HLT2.out; omega)), HB49, Lib.hid (HB7.out.fr HF9.out (by have := HLT3.out; omega))⟩
         case measure => simp [intOf]; omega
       · as_aux_lemma =>
         go_wp2_with fail
         go_roundw
         case rel => exact ⟨f, k + 1, rfl, by go_num, by have := HKK.out; omega, HF7, HN, HC, HB1, HB4⟩
         case measure => simp [intOf]; have := HKK.out; omega
end Go.Proofs.YtmibndkofoldkaaGreatDoor
namespace Go.Proofs.YtmibndkofoldkaaGreatDoor
set_option linter.unusedVariables false
set_option linter.unusedSimpArgs false
set_option linter.constructorNameAsVariable false
open Go.RowKit Go.Maps Go.Sort
def Slr (w : World) (gs : Nat) (key : List Int) : Prop := ∃ b, Blk w gs 227 (u8s (setL key) ++ [Value.pointer (some ⟨b, 0, none⟩)]).toArray ∧ Cip w b
theorem Slr.new {w w' : World} {gs : Nat} {key : List Int} (h : Slr w gs key) (hN : New w w') : Slr w' gs key := by
 obtain ⟨b, h1, h2⟩ := h
 exact ⟨b, hN.blk h1, h2.new hN⟩
set_option maxRecDepth 100000
theorem slrPlaces : (Tryz.prog.fieldsOf 227).toList.mapM (fun f => (Tryz.prog.info? f.type).map fun i => (f.offset, i.size)) = some [(0, 112), (112, 1)] := by kernel_rfl
theorem slrInfo : (Tryz.prog.info? 227).map (fun i => (i.zero, i.size)) = some (some (.agg (u8s (List.replicate 112 0) ++ [Value.pointer none]).toArray), 113) := by kernel_rfl
theorem slr_built {L : List Int} (hl : L.length = 112) (b : Nat) : Tryz.prog.built 227 [(0, .agg (secA L)), (1, .pointer (some ⟨b, 0, none⟩))] = some (u8s L ++ [Value.pointer (some ⟨b, 0, none⟩)]).toArray := by
 rw [built_struct Tryz.underlying227 slrInfo slrPlaces]
 have h0 : (u8s (List.replicate 112 (0 : Int))).length = 112 := by rw [u8s_len, List.length_replicate]
 rw [fill_one (off := 0) (ys := u8s L) (by rw [u8s_len, hl]; rfl) rfl (by rw [u8s_len, hl, List.length_append, h0]; decide), splice_fst (by rw [h0, u8s_len, hl]), fill_cell (off := 112) rfl rfl (by rw [List.length_append, u8s_len, hl]; decide), fill_nil]
 rw [List.set_append_right _ _ (by rw [u8s_len, hl]; exact Nat.le_refl _), u8s_len, hl]
 rfl
set_option maxHeartbeats 4000000
theorem sealnew_any (key : List Int) (w : World) (hL : ShaIn 3 1 w) (hk : key.length = 16 ∧ Byt key) :
    Calls Tryz.prog 59 #[.agg (secA key)] w fun e w' => ∃ gs, e = .returned (.pointer (some ⟨gs, 0, none⟩)) ∧ Slr w' gs key ∧ w.heap.size ≤ gs ∧ New w w' := by
 have HL := Lib.hid hL
 have HK := Lib.hid hk
 have HOF := Lib.hid (fun W (hN : New w W) => keysOf_any key W (hL.new hN) hk)
 have HE : Hid ((setL key).take 16 = encK key ∧ (encK key).length = 16 ∧ Byt (encK key)) := Lib.hid ⟨by unfold setL; rw [List.append_assoc, List.append_assoc, List.take_left' (encK_len key)], encK_len key, encK_byt key⟩
 have HSL : Hid ((setL key).length = 112) := Lib.hid (setL_len key)
 obtain ⟨ST, hST⟩ := nm (setL key)
 obtain ⟨EN, hEN⟩ := nm (encK key)
 rw [← hST] at HOF HE HSL
 rw [← hEN] at HE
 have HST := Lib.hid hST
 obtain ⟨KA, hKA⟩ := nm (secA key)
 have HKA := Lib.hid hKA
 have HK16 : Hid (KA.size = 16) := Lib.hid (by rw [hKA, secA_size, hk.1])
 rw [← hKA] at HOF ⊢
 obtain ⟨SA, hSA⟩ := nm (secA ST)
 have HSA : Hid (SA = secA ST ∧ SA.size = 112) := Lib.hid ⟨hSA, by rw [hSA, secA_size, HSL.out]⟩
 rw [← hSA] at HOF
 clear hL hk hST hEN hKA hSA
 go_enter Tryz.func59, Tryz.ntmps59
 go_upto_region 1 with fail
 obtain ⟨b1, hb1⟩ := nm w.heap.size
 refine wp_world fun w1 hw1 => ?_
 have HN1 : Hid (New w w1) := Lib.hid (by rw [hw1.out]; exact New.al (New.refl _) _)
 have HB1 : Hid (Blk w1 b1 23 KA) := Lib.hid (by rw [hw1.out, hb1]; exact Blk.new _ _ _)
 rw [← hb1]
 have HZ := Lib.hid hb1
 clear hb1 hw1
 go_wp2_with ((with_reducible refine atOp ⟨some 4, .load _ _, _, _, _, _⟩ ?_); refine wpList_load_any rfl _ rfl Tryz.underlying23 rfl (by rw [HK16.out]; rfl) rfl HB1.out ?_)
 refine (HOF.out w1 HN1.out).mono ?_
 rintro e w2 ⟨rfl, hN2⟩
 have HN2 : Hid (New w w2) := Lib.hid (HN1.out.tr hN2)
 clear hN2
 go_upto_region 2 with ((with_reducible refine atOp ⟨some 3, .alloc _, _, _, _, _⟩ ?_); refine wpList_newrow rfl rfl rfl (.tmp 3) (.tmp 5) rfl setInfo rfl rfl rfl HSA.out.2 (by rw [HSA.out.1]; exact secA_one _) ?_)
 obtain ⟨b3, hb3⟩ := nm w2.heap.size
 refine wp_world fun w3 hw3 => ?_
 have hN3 : New w2 w3 := by rw [hw3.out]; exact New.al (New.refl _) _
 have HN3 : Hid (New w w3) := Lib.hid (HN2.out.tr hN3)
 have HB3 : Hid (Blk w3 b3 105 SA) := Lib.hid (by rw [hw3.out, hb3]; exact Blk.new _ _ _)
 rw [← hb3]
 clear hb3 hw3 hN3
 refine wp_region_mixH (fun w' => Blk w' b3 105 SA) [(true, 0), (true, 1), (true, 2), (false, 3), (true, 4), (false, 5), (true, 6)] (by kernel_rfl) (by kernel_rfl) HB3.out.drew (fun hne => ?_)
 refine mix_take_row (cs := SA.toList) (o := ⟨_, _, _, _, _, _⟩) rfl rfl (.tmp 3) rfl rfl (fun w' h => Blk.rangeOf h) Tryz.underlying105 rfl (by rw [Array.length_toList, HSA.out.2]; rfl) ?_
 rw [Array.toArray_toList]
 refine mix_take (o := ⟨_, _, _, _, _, _⟩) rfl (fun K hK => ?_)
 go_simp
 refine hK _ ?_
 clear hK K
 refine mix_take_row (cs := u8s EN) (o := ⟨_, _, _, _, _, _⟩) rfl rfl (.tmp 7) rfl rfl (fun w' h => by rw [← HE.out.1]; exact range_take (Blk.range (by rw [← HSA.out.1]; exact h))) Tryz.underlying23 rfl (by rw [u8s_len, HE.out.2.1]; rfl) ?_
 refine mix_act (o := ⟨_, _, _, _, _, _⟩) rfl (fun K hK => ?_) (.inl rfl)
 go_simp
 refine (aesnew_any EN w3.drew HE.out.2).mono ?_
 rintro e w4 ⟨b, rfl, hC, -, hN4⟩
 have HC := Lib.hid hC
 have HN4 : Hid (New w w4) := Lib.hid ((HN3.out.tr (New.dr (New.refl w3))).tr hN4)
 have HB4 : Hid (Blk w4 b3 105 SA) := Lib.hid (hN4.blk HB3.out.drew)
 clear hC hN4 HB3
 go_simp
 refine hK.out _ _ (fun _ => HB4.out) ?_
 clear hK K
 obtain ⟨BL, hBL⟩ := nm (u8s ST ++ [Value.pointer (some ⟨b, 0, none⟩)]).toArray
 refine mix_take_built (o := ⟨_, _, _, _, _, _⟩) rfl rfl 227 [(0, .tmp 6), (1, .tmp 9)] rfl [(0, .agg SA), (1, .pointer (some ⟨b, 0, none⟩))] rfl BL (by rw [HSA.out.1, slr_built HSL.out, hBL]) ?_
 have HBL := Lib.hid hBL
 clear hBL
 refine mix_act (o := ⟨_, _, _, _, _, _⟩) rfl (fun K hK => ?_) (.inl rfl)
 go_simp
 obtain ⟨gs, hgs⟩ := nm w4.heap.size
 obtain ⟨w5, hw5⟩ := nm (w4.alloc (.cells BL 227))
 rw [← hw5, ← hgs]
 have hN5 : New w4 w5 := by rw [hw5]; exact New.al (New.refl _) _
 refine hK.out _ _ (fun _ => hN5.blk HB4.out) ?_
 clear hK K
 have HN5 : Hid (New w w5) := Lib.hid (HN4.out.tr hN5)
 have HS : Hid (Slr w5 gs key) := Lib.hid ⟨b, by rw [hw5, hgs, ← HST.out, ← HBL.out]; exact Blk.new _ _ _, HC.out.new hN5⟩
 have HG : Hid (w.heap.size ≤ gs) := Lib.hid (by rw [hgs]; exact HN4.out.size)
 clear hw5 hgs hN5
 refine mix_take (o := ⟨_, _, _, _, _, _⟩) rfl (fun K hK => ?_)
 go_simp
 refine hK _ ?_
 clear hK K
 refine mix_done ?_
 go_wp2_with fail
 go_ret
 exact ⟨gs, rfl, HS.out, HG.out, HN5.out⟩
end Go.Proofs.YtmibndkofoldkaaGreatDoor
namespace Go.Proofs.YtmibndkofoldkaaGreatDoor
set_option linter.unusedVariables false
set_option linter.unusedSimpArgs false
set_option linter.constructorNameAsVariable false
open Go.RowKit Go.Sort Go.Maps
structure Cm where
 root : List Int
 blocks : Nat
 epoch : Nat
 gk : Nat
 sv : Rc
 gs : Nat
 key : List Int
 gw : Nat
 gt : Nat
 state : Int
 now : Int
 calls : Nat
 next : Nat
 given : Nat
 fr : Value
 out : Value
structure Cm.Ok (c : Cm) : Prop where
 root : c.root.length = 32
 sv : c.sv.root.length = 32
 fo : c.fr.oneCell' = true
 oo : c.out.oneCell' = true
def Cm.hd (c : Cm) : List Value := u8s c.root ++ ([.int .u64 c.blocks, .int .u64 c.epoch, .pointer (some ⟨c.gk, 0, none⟩)] ++ (c.sv.cells.toList ++ (.pointer (some ⟨c.gs, 0, none⟩) :: u8s (setL c.key))))
def Cm.tl (c : Cm) : List Value := [.pointer (some ⟨c.gw, 0, none⟩), .pointer (some ⟨c.gt, 0, none⟩), .int .i64 c.state, .int .i64 c.now, .int .u64 c.calls, .int .u64 c.next, .int .u64 c.given, c.fr, c.out]
def Cm.cells (c : Cm) : List Value := c.hd ++ c.tl
section
variable {c : Cm}
theorem Cm.hd_len (h : c.Ok) : c.hd.length = 185 := by
 simp only [Cm.hd, List.length_append, List.length_cons, List.length_nil, u8s_len, h.root, Array.length_toList, Rc.size h.sv, setL_len]
structure ClAt (gc : Nat) (c : Cm) (w : World) : Prop where
 root : w.rangeAt gc 0 (u8s c.root)
 blocks : w.cell? ⟨gc, 32, none⟩ = some (.int .u64 c.blocks)
 epoch : w.cell? ⟨gc, 33, none⟩ = some (.int .u64 c.epoch)
 gk : w.cell? ⟨gc, 34, none⟩ = some (.pointer (some ⟨c.gk, 0, none⟩))
 sv : w.rangeAt gc 35 c.sv.cells.toList
 ses : w.cell? ⟨gc, 71, none⟩ = some (.int .u64 c.sv.session)
 gs : w.cell? ⟨gc, 72, none⟩ = some (.pointer (some ⟨c.gs, 0, none⟩))
 link : w.rangeAt gc 153 (u8s (linkK c.key))
 tl : ∀ i v, c.tl[i]? = some v → w.cell? ⟨gc, 185 + i, none⟩ = some v
theorem hd_sub {A B C : List Value} {i : Nat} {v : Value} {k : Nat} (hk : A.length = k) (h : B[i]? = some v) : (A ++ (B ++ C))[k + i]? = some v := by
 have hi := (List.getElem?_eq_some_iff.1 h).1
 rw [List.getElem?_append_right (by omega), hk, Nat.add_sub_cancel_left, List.getElem?_append_left hi, h]
theorem ClAt.of {gc T : Nat} {w : World} (ho : c.Ok) (h : Blk w gc T c.cells.toArray) : ClAt gc c w := by
 have hc : ∀ i, w.cell? ⟨gc, i, none⟩ = c.cells[i]? := fun i => by rw [h.cell i, List.getElem?_toArray]
 have e0 : c.cells = [] ++ (u8s c.root ++ (([.int .u64 c.blocks, .int .u64 c.epoch, .pointer (some ⟨c.gk, 0, none⟩)] ++ (c.sv.cells.toList ++ (.pointer (some ⟨c.gs, 0, none⟩) :: u8s (setL c.key)))) ++ c.tl)) := by
  simp only [Cm.cells, Cm.hd, List.append_assoc, List.nil_append]
 have e1 : c.cells = u8s c.root ++ ([.int .u64 c.blocks, .int .u64 c.epoch, .pointer (some ⟨c.gk, 0, none⟩)] ++ (c.sv.cells.toList ++ ((.pointer (some ⟨c.gs, 0, none⟩) :: u8s (setL c.key)) ++ c.tl))) := by
  simp only [Cm.cells, Cm.hd, List.append_assoc]
 have e2 : c.cells = (u8s c.root ++ [.int .u64 c.blocks, .int .u64 c.epoch, .pointer (some ⟨c.gk, 0, none⟩)]) ++ (c.sv.cells.toList ++ ((.pointer (some ⟨c.gs, 0, none⟩) :: u8s (setL c.key)) ++ c.tl)) := by
  simp only [Cm.cells, Cm.hd, List.append_assoc]
 have e3 : c.cells = (u8s c.root ++ [.int .u64 c.blocks, .int .u64 c.epoch, .pointer (some ⟨c.gk, 0, none⟩)] ++ c.sv.cells.toList) ++ ([.pointer (some ⟨c.gs, 0, none⟩)] ++ (u8s (setL c.key) ++ c.tl)) := by
  simp only [Cm.cells, Cm.hd, List.append_assoc, List.cons_append, List.nil_append]
 have e4 : c.cells = (u8s c.root ++ [.int .u64 c.blocks, .int .u64 c.epoch, .pointer (some ⟨c.gk, 0, none⟩)] ++ c.sv.cells.toList ++ [.pointer (some ⟨c.gs, 0, none⟩)] ++ u8s (encK c.key ++ tagK c.key ++ tickK c.key)) ++ (u8s (linkK c.key) ++ c.tl) := by
  have : u8s (setL c.key) = u8s (encK c.key ++ tagK c.key ++ tickK c.key) ++ u8s (linkK c.key) := by unfold setL u8s; rw [List.map_append]
  simp only [Cm.cells, Cm.hd, List.append_assoc, List.cons_append, List.nil_append, this]
 have l1 : (u8s c.root).length = 32 := by rw [u8s_len, ho.root]
 have l2 : c.sv.cells.toList.length = 37 := by rw [Array.length_toList, Rc.size ho.sv]
 refine ⟨fun j v hv => ?_, ?_, ?_, ?_, fun j v hv => ?_, ?_, ?_, fun j v hv => ?_, fun i v hv => ?_⟩
 · rw [hc, e0]; exact hd_sub rfl hv
 · rw [hc, e1]; exact hd_sub (i := 0) l1 rfl
 · rw [hc, e1]; exact hd_sub (i := 1) l1 rfl
 · rw [hc, e1]; exact hd_sub (i := 2) l1 rfl
 · rw [hc, e2]; exact hd_sub (by simp [l1]) hv
 · have h36 : c.sv.cells.toList[36]? = some (.int .u64 c.sv.session) := by
    unfold Rc.cells
    rw [List.getElem?_append_right (by rw [u8s_len, ho.sv]; decide), u8s_len, ho.sv]
    rfl
   rw [hc, e2]
   exact hd_sub (i := 36) (k := 35) (by simp [l1]) h36
 · rw [hc, e3]; exact hd_sub (i := 0) (by simp [l1, l2]) rfl
 · rw [hc, e4]; exact hd_sub (by simp [l1, l2, u8s_len, encK_len, tagK_len, tickK_len]) hv
 · rw [hc]
   unfold Cm.cells
   rw [List.getElem?_append_right (by rw [Cm.hd_len ho]; omega), Cm.hd_len ho, Nat.add_sub_cancel_left]
   exact hv
theorem Cm.set_given (h : c.Ok) (n : Nat) : c.cells.toArray.setIfInBounds 191 (.int .u64 n) = ({ c with given := n } : Cm).cells.toArray := by
 unfold Cm.cells
 rw [List.setIfInBounds_toArray, List.set_append_right _ _ (by rw [Cm.hd_len h]; decide), Cm.hd_len h]
 rfl
theorem Cm.set_fr (h : c.Ok) (v : Value) : c.cells.toArray.setIfInBounds 192 v = ({ c with fr := v } : Cm).cells.toArray := by
 unfold Cm.cells
 rw [List.setIfInBounds_toArray, List.set_append_right _ _ (by rw [Cm.hd_len h]; decide), Cm.hd_len h]
 rfl
end
def FrIn (w : World) (base : Nat) (v : Value) (F : List (List Int)) : Prop := ∃ rs : List Value, w.ownsRow base 84 1 v F.length rs ∧ ∀ (i : Nat) (f : List Int), F[i]? = some f → Byt f ∧ ∃ A d, rs[i]? = some (Value.slice A f.length d) ∧ f.length ≤ d ∧ w.ownsRow base 5 1 (.slice A f.length d) f.length (u8s f)
theorem FrIn.nil (w : World) (base : Nat) : FrIn w base (.slice none 0 0) [] := ⟨[], World.ownsRow_nil _ _ _ _, fun i f h => by simp at h⟩
theorem FrIn.new {w w' : World} {base : Nat} {v : Value} {F : List (List Int)} (h : FrIn w base v F) (hN : New w w') : FrIn w' base v F := by
 obtain ⟨rs, h1, h2⟩ := h
 refine ⟨rs, hN.own h1, fun i f hf => ?_⟩
 obtain ⟨hb, A, d, e1, e2, e3⟩ := h2 i f hf
 exact ⟨hb, A, d, e1, e2, hN.own e3⟩
theorem FrIn.fr {S : Nat → Prop} {w w' : World} {base : Nat} {v : Value} {F : List (List Int)} (h : FrIn w base v F) (hF : Fr S w w') (hv : ∀ k, v.ownBlock = some k → ¬ S k) (hs : ∀ k, S k → ¬ IsT 5 w k) : FrIn w' base v F := by
 obtain ⟨rs, h1, h2⟩ := h
 refine ⟨rs, own_fr h1 hF hv, fun i f hf => ?_⟩
 obtain ⟨hb, A, d, e1, e2, e3⟩ := h2 i f hf
 exact ⟨hb, A, d, e1, e2, own_fr e3 hF (fun k hk hS => hs k hS (own_isT' e3 hk))⟩
theorem elF : ElemOf Tryz.prog 33 84 1 24 := ElemOf.mk' (z := .slice none 0 0) Tryz.underlying33 (by kernel_rfl) rfl (by decide)
end Go.Proofs.YtmibndkofoldkaaGreatDoor
namespace Go.Proofs.YtmibndkofoldkaaGreatDoor
set_option linter.unusedVariables false
set_option linter.unusedSimpArgs false
set_option linter.constructorNameAsVariable false
open Go.RowKit Go.Sort Go.Maps
def rqE (seq kind epoch : Nat) : List Int := beL 8 seq ++ beL 1 kind ++ beL 8 epoch
theorem rqE_len (seq kind epoch : Nat) : (rqE seq kind epoch).length = 17 := by simp [rqE, beL_len]
theorem rqE_byt (seq kind epoch : Nat) : Byt (rqE seq kind epoch) := by
 intro x hx
 unfold rqE at hx
 simp only [List.mem_append] at hx
 rcases hx with (h | h) | h <;> exact beL_byt _ _ x h
set_option maxHeartbeats 4000000
set_option maxRecDepth 100000
theorem put_epoch {P Q : Nat → Prop} {x : Rm} (w : World) (hx : x.In P Q w) (k : Nat) (hkk : x.kind = k) (hk : k = 4 ∨ k = 5) (hn : x.n = 0) (hf : x.first = 0) (hm : x.many = 0) (ht : x.tk.tk = tk0) (hs : x.seq < 18446744073709551616) (he : x.epoch < 18446744073709551616) :
    Calls Tryz.prog 86 #[.agg x.cells.toArray] w fun e w' => (∃ A c, e = .returned (.tuple #[.slice A 17 c, .nilIface]) ∧ w'.ownsRow w.heap.size 5 1 (.slice A 17 c) 17 (u8s (rqE x.seq k x.epoch))) ∧ New w w' := by
 have HRI := Lib.hid (fun W (hN : New w W) => right_epoch W (hx.new hN) (by omega) hn hf hm ht)
 have HOF := Lib.hid (fun W b (h : Blk W b 91 x.cells.toArray) => RqAt.of hx.tk.len h)
 have HL : Hid (x.cells.toArray.size = 28) := Lib.hid (by rw [List.size_toArray, hx.len])
 have HSE := Lib.hid (And.intro hs he)
 obtain ⟨XA, hXA⟩ := nm x.cells.toArray
 rw [← hXA] at HOF HL HRI ⊢
 have hkw : IntKind.u64.wrap (k : Int) = (k : Int) := by rw [IntKind.wrap_u64]; omega
 have HK : Hid (k = 4 ∨ k = 5) := Lib.hid hk
 have HKK := Lib.hid hkk
 have hk1 : ((k : Int) == 1) = false := by simp; omega
 have hk2 : ((k : Int) == 2) = false := by simp; omega
 have hk3 : ((k : Int) == 3) = false := by simp; omega
 clear hXA hx ht hn hf hm hs he hk hkk
 go_enter Tryz.func86, Tryz.ntmps86
 go_upto_region 1 with fail
 obtain ⟨b1, hb1⟩ := nm w.heap.size
 refine wp_world fun w1 hw1 => ?_
 have HN1 : Hid (New w w1) := Lib.hid (by rw [hw1.out]; exact New.al (New.refl _) _)
 have HB1 : Hid (Blk w1 b1 91 XA) := Lib.hid (by rw [hw1.out, hb1]; exact Blk.new _ _ _)
 rw [← hb1]
 clear hb1 hw1
 go_wp2_with ((with_reducible refine atOp ⟨some 9, .load _ _, _, _, _, _⟩ ?_); refine wpList_load_any rfl _ rfl Tryz.underlying91 rfl (by rw [HL.out]; rfl) rfl HB1.out ?_)
 refine (HRI.out w1 HN1.out).mono ?_
 rintro e w2 ⟨rfl, hN2⟩
 have HN2 : Hid (New w w2) := Lib.hid (HN1.out.tr hN2)
 have HB2 : Hid (Blk w2 b1 91 XA) := Lib.hid (hN2.blk HB1.out)
 clear hN2 HB1
 go_upto_region 4 with fail
 obtain ⟨g, hg⟩ := nm w2.heap.size
 refine wp_world fun w3 hw3 => ?_
 have hN3 : New w2 w3.drew := by rw [hw3.out]; exact (New.al (New.refl _) _).dr
 have HN3 : Hid (New w w3.drew) := Lib.hid (HN2.out.tr hN3)
 have HB3 : Hid (Blk w3.drew b1 91 XA) := Lib.hid (hN3.blk HB2.out)
 have HW3 : Hid (WrIn w3.drew g g []) := Lib.hid ⟨⟨none, 0, by rw [hw3.out, hg]; exact (Blk.new _ _ _).drew, World.ownsRow_nil _ _ _ _⟩, Nat.le_refl _, fun x hx => nomatch hx⟩
 have HG : Hid (w.heap.size ≤ g ∧ b1 < g) := Lib.hid ⟨by rw [hg]; exact HN2.out.size, by rw [hg]; exact HB2.out.lt⟩
 rw [← hg]
 clear hg hN3 hw3
 refine wp_region_mixH (RqAt b1 x) [(true, 0), (true, 1), (true, 2), (true, 4), (true, 5), (true, 6), (false, 3), (false, 7)] (by kernel_rfl) (by kernel_rfl) (HOF.out _ _ HB3.out) (fun hne => ?_)
 have q0 : ∀ p : HW (RqAt b1 x), p.w.cell? ⟨b1, 0, none⟩ = some (.int .u64 x.seq) := fun p => p.h.c0
 have q1 : ∀ p : HW (RqAt b1 x), p.w.cell? ⟨b1, 1, none⟩ = some (.int .i64 k) := fun p => by rw [p.h.c1, HKK.out]
 iterate 6 (refine mix_take (o := ⟨_, _, _, _, _, _⟩) rfl (fun K hK => ?_); go_simp; refine hK _ ?_; clear hK K)
 clear q0 q1
 refine mix_act (o := ⟨_, _, _, _, _, _⟩) rfl (fun K hK => ?_) (.inl rfl)
 go_simp
 refine (wnum_any HW3.out x.seq 8 (by omega) HSE.out.1 (by simp)).mono ?_
 rintro e w4 ⟨rfl, hW4, hF4⟩
 have HF4 : Hid (FW g g w3.drew w4) := Lib.hid hF4
 have HW4 : Hid (WrIn w4 g g (beL 8 x.seq)) := Lib.hid hW4
 have HB4 : Hid (Blk w4 b1 91 XA) := Lib.hid (hF4.blk HB3.out (by decide) (by have := HG.out; omega))
 clear hW4 hF4
 go_simp
 refine hK.out _ _ (fun _ => HOF.out _ _ HB4.out) ?_
 clear hK K
 refine mix_act (o := ⟨_, _, _, _, _, _⟩) rfl (fun K hK => ?_) (.inl rfl)
 go_simp
 refine (wnum_any HW4.out k 1 (by omega) (by have := HK.out; omega) (by simp [beL_len])).mono ?_
 rintro e w5 ⟨rfl, hW5, hF5⟩
 have HF5 : Hid (FW g g w3.drew w5) := Lib.hid (HF4.out.tr hF5)
 have HW5 := Lib.hid hW5
 have HB5 : Hid (Blk w5 b1 91 XA) := Lib.hid (hF5.blk HB4.out (by decide) (by have := HG.out; omega))
 clear hW5 hF5 HW4 HF4
 go_simp
 refine hK.out _ _ (fun _ => HOF.out _ _ HB5.out) ?_
 clear hK K
 refine mix_done ?_
 have c1 : w5.cell? ⟨b1, 1, none⟩ = some (.int .i64 k) := by rw [(HOF.out _ _ HB5.out).c1, HKK.out]
 have c6 : w5.cell? ⟨b1, 27, none⟩ = some (.int .u64 x.epoch) := (HOF.out _ _ HB5.out).c6
 go_wp2_with fail
 refine (wnum_any HW5.out x.epoch 8 (by omega) HSE.out.2 (by simp [beL_len])).mono ?_
 rintro e w6 ⟨rfl, hW6, hF6⟩
 have HF6 : Hid (FW g g w3.drew w6) := Lib.hid (HF5.out.tr hF6)
 have hW6' : WrIn w6 g g (rqE x.seq k x.epoch) := hW6
 have HW6 := Lib.hid hW6'
 have HB6 : Hid (Blk w6 b1 91 XA) := Lib.hid (hF6.blk HB5.out (by decide) (by have := HG.out; omega))
 have HN6 : Hid (New w w6) := Lib.hid (HF6.out.toNew HN3.out (by have := HG.out; omega) (Nat.le_refl _))
 clear hW6 hW6' hF6 HW5 HF5 c1 c6
 have c1 : w6.cell? ⟨b1, 1, none⟩ = some (.int .i64 k) := by rw [(HOF.out _ _ HB6.out).c1, HKK.out]
 go_wp2_with fail
 refine (wdone_any HW6.out (by rw [rqE_len]; decide)).mono ?_
 rintro e w7 ⟨⟨A, c, rfl, hO⟩, hN7⟩
 rw [rqE_len] at hO ⊢
 have HO := Lib.hid (own_base hO fun k hk => Nat.le_trans HN6.out.size (own_lt hO k hk).1)
 have HN7 : Hid (New w w7) := Lib.hid (HN6.out.tr hN7)
 clear hO hN7
 go_wp2_with fail
 go_ret2
 exact ⟨⟨A, c, rfl, HO.out⟩, HN7.out⟩
end Go.Proofs.YtmibndkofoldkaaGreatDoor
namespace Go.Proofs.YtmibndkofoldkaaGreatDoor
set_option linter.unusedVariables false
set_option linter.unusedSimpArgs false
set_option linter.constructorNameAsVariable false
open Go.RowKit Go.Maps Go.Sort
theorem run_maxz (a : Int) (w : World) : (Builtin.max_ #[3, 3] 3 #[.int .i64 a, .int .i64 0]).run Tryz.prog w = .ok (.int .i64 (if a < 0 then 0 else a)) w := by
 by_cases h : a < 0 <;> simp [Builtin.max_, Builtin.max2, h]
theorem lbytes_any (n : Nat) (w : World) (hn : n ≤ 1000000000000) : Calls Tryz.prog 119 #[.int .i64 n] w fun e w' => e = .returned (.int .i64 ((25 + n : Nat) : Int)) ∧ w = w' := by
 have hm := run_maxz n
 rw [if_neg (by omega)] at hm
 go_enter Tryz.func119, Tryz.ntmps119
 go_wp2_with fail
 go_ret
 refine ⟨?_, rfl⟩
 simp
 omega
set_option maxHeartbeats 4000000
set_option maxRecDepth 100000
theorem lseal_any {q : Nat → Prop} (link : List Int) (way n : Nat) (B : Option Addr) (m d : Nat) (body : List Int) (w : World) (hL : ShaIn 3 1 w) (hk : link.length = 32 ∧ Byt link) (hw : way = 1 ∨ way = 2) (hn : n < 18446744073709551616) (hR : Rd q w 1 B m (u8s body)) (hb : Byt body) (hm : m ≤ 262119) :
    Calls Tryz.prog 64 #[.agg (secA link), .int .i64 way, .int .u64 n, .slice B m d] w fun e w' => (∃ A c, e = .returned (.tuple #[.slice A (25 + m) c, .nilIface]) ∧ w'.ownsRow w.heap.size 5 1 (.slice A (25 + m) c) (25 + m) (u8s (frmL link way n body))) ∧ New w w' := by
 have hml : body.length = m := by have := hR.1; rw [u8s_len] at this; omega
 have HL := Lib.hid hL
 have HK := Lib.hid hk
 have HWY := Lib.hid hw
 have HNN := Lib.hid hn
 have HBY := Lib.hid hb
 have HML := Lib.hid hml
 have HRB : Hid (Rd (fun b => b < w.heap.size) w 1 B m (u8s body)) := Lib.hid (rd_szs' hR)
 have HFB : Hid (frmL link way n body = frmB way n body ++ shortL (sesK link n) [frmB way n body].flatten ∧ Byt (frmB way n body) ∧ (frmB way n body).length = 9 + m) := Lib.hid ⟨by simp [frmL], frmB_byt hb, by rw [frmB_len, hml]⟩
 have HFD : Hid (frmB way n body = beL 1 way ++ beL 8 n ++ body) := Lib.hid rfl
 obtain ⟨FB, hFB⟩ := nm (frmB way n body)
 obtain ⟨FL, hFL⟩ := nm (frmL link way n body)
 rw [← hFB, ← hFL] at HFB
 rw [← hFB] at HFD
 rw [← hFL]
 obtain ⟨KA, hKA⟩ := nm (secA link)
 have HKA := Lib.hid hKA
 have HK32 : Hid (KA.size = 32) := Lib.hid (by rw [hKA, secA_size, hk.1])
 have HSE := Lib.hid (fun W (hN : New w W) => session_any link n W (hL.new hN) hk hn)
 have HSK : Hid ((sesK link n).length = 32 ∧ Byt (sesK link n)) := Lib.hid ⟨sesK_len _ _, sesK_byt _ _⟩
 obtain ⟨sk, hsk⟩ := nm (sesK link n)
 rw [← hsk] at HSE HSK HFB
 rw [← hKA] at HSE ⊢
 obtain ⟨SA, hSA⟩ := nm (secA sk)
 have HSA : Hid (SA = secA sk ∧ SA.size = 32) := Lib.hid ⟨hSA, by rw [hSA, secA_size, HSK.out.1]⟩
 rw [← hSA] at HSE
 have hb1 : ((way : Int) != 1 && (way : Int) != 2) = false := by rcases hw with h | h <;> subst h <;> rfl
 have hq : decide ((262144 : Int) < ((25 + m : Nat) : Int)) = false := decide_eq_false (by omega)
 clear hL hk hn hR hb hml hFB hFL hKA hsk hSA
 rcases hw with rfl | rfl
 all_goals
  go_enter Tryz.func64, Tryz.ntmps64
  go_wp2_with (go_at_call 119; refine (lbytes_any m _ (by omega)).mono ?_; rintro e w0 ⟨rfl, rfl⟩)
  obtain ⟨b4, hb4⟩ := nm w.heap.size
  obtain ⟨g, hg⟩ := nm (w.heap.size + 1)
  refine calls_world fun w1 hw1 => ?_
  have HN1 : Hid (New w w1) := Lib.hid (by rw [hw1.out]; exact (New.refl _).al2 _ _)
  have HB41 : Hid (Blk w1 b4 60 (secA link)) := Lib.hid (by rw [hw1.out, hb4, ← HKA.out]; exact (Blk.new _ _ _).alloc _)
  have HW1 : Hid (WrIn w1 g g []) := Lib.hid ⟨⟨none, 0, by rw [hw1.out, hg]; exact Blk.new' _ _ _ (by simp), World.ownsRow_nil _ _ _ _⟩, Nat.le_refl _, fun x hx => nomatch hx⟩
  have HG : Hid (w.heap.size < g ∧ b4 < g) := Lib.hid ⟨by omega, by omega⟩
  have HR1 : Hid (Rd (fun b => b < g) w1 1 B m (u8s body)) := Lib.hid ((HN1.out.rd HRB.out).imp fun b hb => by have := HG.out; omega)
  rw [← hg, ← hb4]
  clear hw1 hb4 hg
  refine (wnum_any HW1.out _ 1 (by omega) (by decide) (by simp)).mono ?_
  rintro e w2 ⟨rfl, hW2, hF2⟩
  have HF2 : Hid (FW g g w1 w2) := Lib.hid hF2
  have HW2 := Lib.hid hW2
  clear hW2 hF2 HW1
  go_wp2_with fail
  refine (wnum_any HW2.out n 8 (by omega) HNN.out (by simp [beL_len])).mono ?_
  rintro e w3 ⟨rfl, hW3, hF3⟩
  have HF3 : Hid (FW g g w1 w3) := Lib.hid (HF2.out.tr hF3)
  have HW3 := Lib.hid hW3
  have HR3 : Hid (Rd (fun b => b < g) w3 1 B m (u8s body)) := Lib.hid (HR1.out.fr HF3.out (fun k hk h => h.elim (fun e => by omega) (fun e => by omega)))
  clear hW3 hF3 HW2 HF2 HR1
  go_wp2_with fail
  refine (wraw_any HW3.out B m d body HR3.out HBY.out (by simp [beL_len]; omega)).mono ?_
  rintro e w4 ⟨rfl, hW4, hF4⟩
  have hW : WrIn w4 g g FB := by rw [HFD.out]; exact hW4
  have HW4 := Lib.hid hW
  have HF4 : Hid (FW g g w1 w4) := Lib.hid (HF3.out.tr hF4)
  have HB44 : Hid (Blk w4 b4 60 (secA link)) := Lib.hid (HF4.out.blk HB41.out (by decide) (by have := HG.out; omega))
  have HN4 : Hid (New w w4) := Lib.hid (HF4.out.toNew HN1.out (by have := HG.out; omega) (Nat.le_refl _))
  clear hW4 hW hF4 HW3 HF3 HR3 HB41
  go_wp2_with fail
  refine (wdone_any HW4.out (by rw [HFB.out.2.2]; omega)).mono ?_
  rintro e w5 ⟨⟨A, c, rfl, hO⟩, hN5⟩
  rw [HFB.out.2.2] at hO ⊢
  have HO := Lib.hid (own_base hO fun k hk => Nat.le_trans HN4.out.size (own_lt hO k hk).1)
  have HN5 : Hid (New w w5) := Lib.hid (HN4.out.tr hN5)
  have HB45 : Hid (Blk w5 b4 60 KA) := Lib.hid (by rw [HKA.out]; exact hN5.blk HB44.out)
  clear hO hN5 HW4 HF4 HB44
  go_wp2_with ((with_reducible refine atOp ⟨some 45, .load _ _, _, _, _, _⟩ ?_); refine wpList_load_any rfl _ rfl Tryz.underlying60 rfl (by rw [HK32.out]; rfl) rfl HB45.out ?_)
  refine (HSE.out w5 HN5.out).mono ?_
  rintro e w6 ⟨rfl, hN6⟩
  have HN6 : Hid (New w w6) := Lib.hid (HN5.out.tr hN6)
  have HO6 : Hid (w6.ownsRow w.heap.size 5 1 (.slice A (9 + m) c) (9 + m) (u8s FB)) := Lib.hid (hN6.own HO.out)
  clear hN6 HO HB45
  go_upto_region 10 with ((with_reducible refine atOp ⟨some 13, .alloc _, _, _, _, _⟩ ?_); refine wpList_newrow rfl rfl rfl _ _ rfl hashInfoR rfl rfl rfl HSA.out.2 (by rw [HSA.out.1]; exact secA_one _) ?_)
  go_wp2_with fail
  obtain ⟨b13, hb13⟩ := nm w6.heap.size
  obtain ⟨bp, hbp⟩ := nm (w6.heap.size + 1)
  refine calls_world fun w7 hw7 => ?_
  have hN7 : New w6 w7 := by rw [hw7.out]; exact (New.refl _).al2 _ _
  have HN7 : Hid (New w w7) := Lib.hid (HN6.out.tr hN7)
  have HO7 : Hid (w7.ownsRow w.heap.size 5 1 (.slice A (9 + m) c) (9 + m) (u8s FB)) := Lib.hid (hN7.own HO6.out)
  have HR13 : Hid (Rd (fun _ => True) w7 1 (some ⟨b13, 0, none⟩) 32 (u8s sk)) := Lib.hid (by
   have h := rd_sec (T := 60) (xs := sk) (n := 32) (k := 32) (w := w7) (g := b13) (by rw [hw7.out, hb13, ← HSA.out.1]; exact (Blk.new _ _ _).alloc _) HSK.out.1 (Nat.le_refl _)
   rwa [List.take_of_length_le (by rw [HSK.out.1]; exact Nat.le_refl _)] at h)
  have HP : Hid (Parts w7 bp 0 [FB]) := Lib.hid (parts1 (by rw [hw7.out, hbp]; exact Blk.new' _ _ _ (by simp)) HFB.out.2.2 HFB.out.2.1 (Rd.own HO7.out rfl))
  rw [← hbp, ← hb13]
  clear hbp hb13 hN7 HO6 hw7
  have hfl : [FB].flatten.length = 9 + m := by have := HFB.out.2.2; simp; omega
  refine (short_any (some ⟨b13, 0, none⟩) 32 32 sk bp 0 1 1 [FB] w7 (HL.out.new HN7.out) HR13.out HSK.out.2 (by decide) rfl (by simp) (fun _ => by rw [hfl]; omega) HP.out (by simp) (by rw [hfl]; omega) (by simp)).mono ?_
  rintro e w8 ⟨⟨A8, c8, rfl, hO8⟩, hN8⟩
  have HN8 : Hid (New w w8) := Lib.hid (HN7.out.tr hN8)
  have HO8 := Lib.hid hO8
  have HO88 : Hid (w8.ownsRow w.heap.size 5 1 (.slice A (9 + m) c) (9 + m) (u8s FB)) := Lib.hid (hN8.own HO7.out)
  obtain ⟨sh, hsh⟩ := nm (shortL sk [FB].flatten)
  rw [← hsh] at HO8 HFB
  have HX : Hid (u8s FB ++ u8s sh = u8s FL) := Lib.hid (by rw [HFB.out.1]; simp [u8s])
  clear hO8 hN8 hfl hsh HP HR13 HO7
  go_wp2_with (at_builtin; refine wpList_app elB _ rfl (.tmp 48) (.tmp 52) rfl w.heap.size (.slice A (9 + m) c) (9 + m) (u8s FB) rfl HO88.out A8 16 c8 (u8s sh) rfl (Rd.own HO8.out rfl) (u8s_one sh) (by unfold maxLen; omega) (by omega) HN8.out.size ?_; intro A1 d1 w9 hO9 hF9 hA9; have HO9 := Lib.hid hO9; have HN9 : Hid (New w w9) := Lib.hid (HN8.out.fr hF9 (fun k hk => (own_lt HO88.out k hk).1)); clear hO9 hF9 hA9)
  go_ret2
  have e1 : 9 + m + 16 = 25 + m := by omega
  refine ⟨⟨A1, d1, by rw [← e1]; rfl, ?_⟩, HN9.out⟩
  have h := HO9.out
  rw [HX.out, e1] at h
  exact h
end Go.Proofs.YtmibndkofoldkaaGreatDoor
namespace Go.Proofs.YtmibndkofoldkaaGreatDoor
set_option linter.unusedVariables false
set_option linter.unusedSimpArgs false
set_option linter.constructorNameAsVariable false
open Go.RowKit Go.Maps Go.Sort
theorem rs_num {size n : Nat} {xs : List Int} (hn : n < 256 ^ size) : (Rs.mk (beL size n ++ xs) 0).num size = (n, ⟨xs, 0⟩) := by
 have hl := beL_len size n
 have h1 : (Rs.mk (beL size n ++ xs) 0).raw size = (beL size n, ⟨xs, 0⟩) := by
  unfold Rs.raw Rs.left
  rw [if_pos rfl, if_neg (by simp [hl]), List.take_left' hl, List.drop_left' hl]
 unfold Rs.num
 rw [h1, valL_beL _ _ hn]
theorem rs_num0 {size n : Nat} (hn : n < 256 ^ size) : (Rs.mk (beL size n) 0).num size = (n, ⟨[], 0⟩) := by
 have := rs_num (xs := []) hn
 rwa [List.append_nil] at this
set_option maxHeartbeats 4000000
set_option maxRecDepth 100000
theorem lpeek_any {q : Nat → Prop} (way n : Nat) (B : Option Addr) (m d : Nat) (rest : List Int) (w : World) (hw : way = 1 ∨ way = 2) (hn : n < 18446744073709551616) (hR : Rd q w 1 B m (u8s (beL 1 way ++ beL 8 n ++ rest))) (hm : 25 ≤ m ∧ m ≤ 262144) (hd : m ≤ d) :
    Calls Tryz.prog 87 #[.slice B m d] w fun e w' => e = .returned (.tuple #[.int .i64 way, .int .u64 n, .nilIface]) ∧ New w w' := by
 obtain ⟨g, o, rfl, -, -, -⟩ := hR.out (by omega) (by omega)
 have HNN := Lib.hid hn
 have h9 := Rd.take hR (k := 9) (by omega)
 rw [List.take_left' (by simp [beL_len])] at h9
 have HR9 := Lib.hid h9
 have HBY : Hid (Byt (beL 1 way ++ beL 8 n)) := Lib.hid (fun x hx => (List.mem_append.1 hx).elim (beL_byt _ _ x) (beL_byt _ _ x))
 have e1 : decide ((m : Int) < 25) = false := decide_eq_false (by omega)
 have e2 : decide ((262144 : Int) < (m : Int)) = false := decide_eq_false (by omega)
 have hcap : (9 : Int) ≤ (d : Int) := by omega
 have HN1 : Hid ((Rs.mk (beL 1 way ++ beL 8 n) 0).num 1 = (way, ⟨beL 8 n, 0⟩)) := Lib.hid (rs_num (by rcases hw with h | h <;> rw [h] <;> decide))
 have HN2 : Hid ((Rs.mk (beL 8 n) 0).num 8 = (n, ⟨[], 0⟩)) := Lib.hid (rs_num0 hn)
 have hwi : IntKind.i64.wrap (way : Int) = (way : Int) := by rcases hw with h | h <;> rw [h] <;> rfl
 have hwb : ((way : Int) != 1 && (way : Int) != 2) = false := by rcases hw with h | h <;> subst h <;> rfl
 obtain ⟨FB, hFB⟩ := nm (beL 1 way ++ beL 8 n)
 rw [← hFB] at HR9 HBY HN1
 clear hFB hR h9 hn
 go_enter Tryz.func87, Tryz.ntmps87
 go_wp2_with (go_at_call 119; refine (lbytes_any 0 _ (by omega)).mono ?_; rintro e w0 ⟨rfl, rfl⟩)
 refine (from_any (some ⟨g, o, none⟩) 9 d FB w HR9.out HBY.out (by decide)).mono ?_
 rintro e w1 ⟨g1, rfl, hI, hN1, hg1⟩
 have HI := Lib.hid hI
 have HN := Lib.hid hN1
 have HG := Lib.hid hg1
 clear hI hN1 hg1
 go_wp2_with fail
 refine (rnum_any HI.out 1 (by omega)).mono ?_
 rw [HN1.out]
 rintro e w2 ⟨rfl, hI, hF⟩
 have HI2 := Lib.hid hI
 have HNw2 : Hid (New w w2) := Lib.hid (HN.out.fr hF (fun k hk => by have := HG.out; omega))
 clear hI hF
 go_wp2_with fail
 refine (rnum_any HI2.out 8 (by omega)).mono ?_
 rw [HN2.out]
 rintro e w3 ⟨rfl, hI, hF⟩
 have HNw3 : Hid (New w w3) := Lib.hid (HNw2.out.fr hF (fun k hk => by have := HG.out; omega))
 clear hI hF
 rcases hw with rfl | rfl
 all_goals
  go_wp2_with fail
  go_ret3
  exact ⟨rfl, HNw3.out⟩
theorem lopen_any {q : Nat → Prop} (link : List Int) (way n : Nat) (B : Option Addr) (m d : Nat) (body : List Int) (w : World) (hL : ShaIn 3 1 w) (hk : link.length = 32 ∧ Byt link) (hw : way = 1 ∨ way = 2) (hn : n < 18446744073709551616) (hR : Rd q w 1 B (25 + m) (u8s (frmL link way n body))) (hb : Byt body) (hm : body.length = m ∧ m ≤ 262119) (hd : 25 + m ≤ d) :
    Calls Tryz.prog 50 #[.agg (secA link), .int .i64 way, .int .u64 n, .slice B (25 + m) d] w fun e w' => (∃ A c, e = .returned (.tuple #[.slice A m c, .nilIface]) ∧ w'.ownsRow w.heap.size 5 1 (.slice A m c) m (u8s body)) ∧ New w w' := by
 obtain ⟨g, o, rfl, -, -, -⟩ := hR.out (by omega) (by omega)
 have HL := Lib.hid hL
 have HK := Lib.hid hk
 have HNN := Lib.hid hn
 have HBY := Lib.hid hb
 have HM := Lib.hid hm
 have HR := Lib.hid hR
 have HPK := Lib.hid (fun W (hN : New w W) => lpeek_any way n (some ⟨g, o, none⟩) (25 + m) d (body ++ shortL (sesK link n) (frmB way n body)) W hw hn (hN.rd (by
  have e : beL 1 way ++ beL 8 n ++ (body ++ shortL (sesK link n) (frmB way n body)) = frmL link way n body := by simp [frmL, frmB]
  rw [e]; exact hR)) (by omega) hd)
 have HFB : Hid (frmL link way n body = frmB way n body ++ shortL (sesK link n) [frmB way n body].flatten ∧ Byt (frmB way n body) ∧ (frmB way n body).length = 9 + m ∧ (frmB way n body).drop 9 = body) := Lib.hid ⟨by simp [frmL], frmB_byt hb, by rw [frmB_len, hm.1], by unfold frmB; rw [List.drop_left' (by simp [beL_len])]⟩
 obtain ⟨FB, hFB⟩ := nm (frmB way n body)
 obtain ⟨FL, hFL⟩ := nm (frmL link way n body)
 rw [← hFB, ← hFL] at HFB
 rw [← hFL] at HR
 obtain ⟨KA, hKA⟩ := nm (secA link)
 have HKA := Lib.hid hKA
 have HK32 : Hid (KA.size = 32) := Lib.hid (by rw [hKA, secA_size, hk.1])
 have HSE := Lib.hid (fun W (hN : New w W) => session_any link n W (hL.new hN) hk hn)
 have HSK : Hid ((sesK link n).length = 32 ∧ Byt (sesK link n)) := Lib.hid ⟨sesK_len _ _, sesK_byt _ _⟩
 obtain ⟨sk, hsk⟩ := nm (sesK link n)
 rw [← hsk] at HSE HSK HFB
 rw [← hKA] at HSE ⊢
 obtain ⟨SA, hSA⟩ := nm (secA sk)
 have HSA : Hid (SA = secA sk ∧ SA.size = 32) := Lib.hid ⟨hSA, by rw [hSA, secA_size, HSK.out.1]⟩
 rw [← hSA] at HSE
 obtain ⟨sh, hsh⟩ := nm (shortL sk [FB].flatten)
 have HSH : Hid (sh = shortL sk [FB].flatten ∧ sh.length = 16 ∧ Byt sh) := Lib.hid ⟨hsh, by rw [hsh]; exact shortL_len _ _, by rw [hsh]; exact shortL_byt _ _⟩
 rw [← hsh] at HFB
 have hml : body.length = m := hm.1
 obtain ⟨N, hN⟩ := nm (25 + m)
 rw [← hN] at HR HPK hd ⊢
 obtain ⟨j, hj⟩ := nm (9 + m)
 have hsub : (N : Int) - 16 = (j : Int) := by omega
 have hsw : IntKind.i64.wrap (j : Int) = (j : Int) := by rw [IntKind.wrap_i64]; omega
 have HN25 : Hid (N = 25 + m ∧ j = 9 + m ∧ N ≤ d) := Lib.hid ⟨hN, hj, hd⟩
 have hjn : (j : Int) ≤ (N : Int) := by omega
 have hj9 : (9 : Int) ≤ (j : Int) := by omega
 have hjd : (j : Int) ≤ (d : Int) := by omega
 have HDJ : Hid (¬ d = j ∧ N - j = 16) := Lib.hid ⟨by omega, by omega⟩
 clear hL hk hn hR hb hm hFB hFL hKA hsk hSA hsh hml hw hN hj hd
 go_enter Tryz.func50, Tryz.ntmps50
 go_upto_region 1 with fail
 obtain ⟨b4, hb4⟩ := nm w.heap.size
 refine wp_world fun w1 hw1 => ?_
 have HN1 : Hid (New w w1) := Lib.hid (by rw [hw1.out]; exact New.al (New.refl _) _)
 have HB41 : Hid (Blk w1 b4 60 KA) := Lib.hid (by rw [hw1.out, hb4]; exact Blk.new _ _ _)
 rw [← hb4]
 clear hb4 hw1
 go_wp2_with fail
 refine (HPK.out w1 HN1.out).mono ?_
 rintro e w2 ⟨rfl, hN2⟩
 have HN2 : Hid (New w w2) := Lib.hid (HN1.out.tr hN2)
 have HB42 : Hid (Blk w2 b4 60 KA) := Lib.hid (hN2.blk HB41.out)
 clear hN2 HB41
 go_wp2_with ((with_reducible refine atOp ⟨some 35, .load _ _, _, _, _, _⟩ ?_); refine wpList_load_any rfl _ rfl Tryz.underlying60 rfl (by rw [HK32.out]; rfl) rfl HB42.out ?_)
 refine (HSE.out w2 HN2.out).mono ?_
 rintro e w3 ⟨rfl, hN3⟩
 have HN3 : Hid (New w w3) := Lib.hid (HN2.out.tr hN3)
 clear hN3
 go_upto_region 7 with ((with_reducible refine atOp ⟨some 13, .alloc _, _, _, _, _⟩ ?_); refine wpList_newrow rfl rfl rfl _ _ rfl hashInfoR rfl rfl rfl HSA.out.2 (by rw [HSA.out.1]; exact secA_one _) ?_)
 obtain ⟨b13, hb13⟩ := nm w3.heap.size
 refine wp_world fun w4 hw4 => ?_
 have HN4 : Hid (New w w4) := Lib.hid (HN3.out.tr (by rw [hw4.out]; exact New.al (New.refl _) _))
 have HB13 : Hid (Blk w4 b13 60 (secA sk)) := Lib.hid (by rw [hw4.out, hb13, ← HSA.out.1]; exact Blk.new _ _ _)
 rw [← hb13]
 clear hb13 hw4
 go_upto_region 8 with fail
 refine wp_region_mixH (fun _ => True) [(true, 0), (true, 1), (true, 2), (true, 3), (true, 4), (true, 5), (true, 6), (false, 7), (false, 8), (true, 9)] (by kernel_rfl) (by kernel_rfl) trivial (fun hne => ?_)
 iterate 7 (refine mix_take (o := ⟨_, _, _, _, _, _⟩) rfl (fun K hK => ?_); go_simp; refine hK _ ?_; clear hK K)
 refine mix_act (o := ⟨_, _, _, _, _, _⟩) rfl (fun K hK => ?_) (.inl rfl)
 go_simp
 rw [if_neg HDJ.out.1, HDJ.out.2]
 obtain ⟨bp, hbp⟩ := nm w4.heap.size
 obtain ⟨w5, hw5⟩ := nm ((w4.alloc (.cells #[.slice (some ⟨g, o, none⟩) j d] 84)).drew)
 have hN5 : New w4 w5 := by rw [hw5]; exact (New.al (New.refl _) _).dr
 have HN5 : Hid (New w w5) := Lib.hid (HN4.out.tr hN5)
 have HR5 : Hid (Rd q w5 1 (some ⟨g, o, none⟩) N (u8s FL)) := Lib.hid (HN5.out.rd HR.out)
 have HRj : Hid (Rd q w5 1 (some ⟨g, o, none⟩) j (u8s FB)) := Lib.hid (by
  have h := Rd.take HR5.out (k := j) (by have := HN25.out; omega)
  rwa [HFB.out.1, List.take_left' (by rw [HFB.out.2.2.1]; exact HN25.out.2.1.symm)] at h)
 have HRt : Hid (Rd q w5 1 (some ⟨g, o + j, none⟩) 16 (u8s sh)) := Lib.hid (by
  have h := Rd.drop HR5.out (k := j) (cap := d) (by have := HN25.out; omega) (by have := HN25.out; omega)
  rw [if_neg HDJ.out.1, HDJ.out.2, Nat.mul_one, Option.map_some, Lib.add_plain2] at h
  have e : (u8s FL).drop j = u8s sh := by
   have e1 : j = (u8s FB).length := by rw [u8s_len, HFB.out.2.2.1]; exact HN25.out.2.1
   rw [HFB.out.1, e1]
   unfold u8s
   rw [List.map_append, List.drop_left]
  rwa [e] at h)
 have HP : Hid (Parts w5 bp 0 [FB]) := Lib.hid (parts1 (by rw [hw5, hbp]; exact (Blk.new _ _ _).drew) (by rw [HFB.out.2.2.1]; exact HN25.out.2.1.symm) HFB.out.2.1 HRj.out)
 have HR13 : Hid (Rd (fun _ => True) w5 1 (some ⟨b13, 0, none⟩) 32 (u8s sk)) := Lib.hid (by
  have h := rd_sec (n := 32) (k := 32) (hN5.blk HB13.out) HSK.out.1 (Nat.le_refl _)
  rwa [List.take_of_length_le (by rw [HSK.out.1]; exact Nat.le_refl _)] at h)
 rw [← hw5, ← hbp]
 refine hK.out _ _ (fun _ => trivial) ?_
 clear hK K hw5 hbp hN5 HB13
 refine mix_act (o := ⟨_, _, _, _, _, _⟩) rfl (fun K hK => ?_) (.inl rfl)
 go_simp
 have hfl : [FB].flatten.length = 9 + m := by have := HFB.out.2.2; simp; omega
 refine (check_any (some ⟨g, o + j, none⟩) (d - j) sh (some ⟨b13, 0, none⟩) 32 32 sk bp 0 1 1 [FB] w5 (HL.out.new HN5.out) HRt.out HSH.out.2.2 HR13.out HSK.out.2 (by decide) rfl (by simp) (fun _ => by rw [hfl]; omega) HP.out (by simp) (by rw [hfl]; have := HM.out; omega) (by simp)).mono ?_
 rintro e w6 ⟨rfl, hN6⟩
 rw [decide_eq_true HSH.out.1]
 have HN6 : Hid (New w w6) := Lib.hid (HN5.out.tr hN6)
 clear hN6 hfl HP HR13 HRt HRj HR5
 go_simp
 refine hK.out _ _ (fun _ => trivial) ?_
 clear hK K
 refine mix_take (o := ⟨_, _, _, _, _, _⟩) rfl (fun K hK => ?_)
 go_simp
 refine hK _ ?_
 clear hK K
 refine mix_done ?_
 have hd99 : ¬ d = 9 := by have := HN25.out; omega
 go_wp2_with fail
 clear hd99
 have HRb : Hid (Rd q w6 1 (some ⟨g, o + 9, none⟩) m (u8s body)) := Lib.hid (by
  have h := Rd.take (HN6.out.rd HR.out) (k := j) (by have := HN25.out; omega)
  rw [HFB.out.1, List.take_left' (by rw [HFB.out.2.2.1]; exact HN25.out.2.1.symm)] at h
  have h := Rd.drop h (k := 9) (cap := d) (by have := HN25.out; omega) (by have := HN25.out; omega)
  rw [if_neg (by have := HN25.out; omega), Nat.mul_one, Option.map_some, Lib.add_plain2] at h
  have e : (u8s FB).drop 9 = u8s body := by rw [← HFB.out.2.2.2]; unfold u8s; rw [List.map_drop]
  rw [e] at h
  rwa [show j - 9 = m by have := HN25.out; omega] at h)
 rw [show j - 9 = m by have := HN25.out; omega]
 obtain ⟨d9, hd9⟩ := nm (d - 9)
 obtain ⟨o9, ho9⟩ := nm (o + 9)
 rw [← ho9] at HRb
 rw [← hd9, ← ho9]
 clear hd9 ho9
 have HCL := Lib.hid (sclone_any (some ⟨g, o9, none⟩) m d9 body w6 HRb.out (by have := HM.out; omega))
 refine HCL.out.mono ?_
 rintro e w7 ⟨⟨A', c', rfl, hO⟩, hN7⟩
 have HO := Lib.hid (own_base hO fun k hk => Nat.le_trans HN6.out.size (own_lt hO k hk).1)
 have HN7 : Hid (New w w7) := Lib.hid (HN6.out.tr hN7)
 clear hO hN7
 go_wp2_with fail
 go_ret2
 exact ⟨⟨A', c', rfl, HO.out⟩, HN7.out⟩
end Go.Proofs.YtmibndkofoldkaaGreatDoor
namespace Go.Proofs.YtmibndkofoldkaaGreatDoor
set_option linter.unusedVariables false
set_option linter.unusedSimpArgs false
set_option linter.constructorNameAsVariable false
open Go.RowKit Go.Sort Go.Maps
def rmE (seq k epoch : Nat) : Rm := ⟨seq, k, none, 0, 0, [], 0, 0, tm0, epoch⟩
theorem rmE_in {P Q : Nat → Prop} (seq k epoch : Nat) (w : World) : (rmE seq k epoch).In P Q w := ⟨⟨rfl, fun h => absurd h (by show ¬ 0 < 0; decide)⟩, tm0_in w, by show 0 ≤ _; decide⟩
set_option maxRecDepth 100000
theorem rqInfo : (Tryz.prog.info? 91).map (fun i => (i.zero, i.size)) = some (some (.agg (rmE 0 0 0).cells.toArray), 28) := by kernel_rfl
theorem rq_built (s k : Nat) : Tryz.prog.built 91 [(0, .int .u64 s), (1, .int .i64 k)] = some (rmE s k 0).cells.toArray := by kernel_rfl
theorem rmE_set (s k e : Nat) : (rmE s k 0).cells.toArray.setIfInBounds 27 (.int .u64 e) = (rmE s k e).cells.toArray := by rfl
theorem rqE_read (s k e : Nat) (hs : s < 18446744073709551616) (hk : k < 256) (he : e < 18446744073709551616) : (⟨rqE s k e, 0⟩ : Rs).num 8 = (s, ⟨beL 1 k ++ beL 8 e, 0⟩) ∧ (⟨beL 1 k ++ beL 8 e, 0⟩ : Rs).num 1 = (k, ⟨beL 8 e, 0⟩) ∧ (⟨beL 8 e, 0⟩ : Rs).num 8 = (e, ⟨[], 0⟩) := by
 refine ⟨?_, rs_num hk, rs_num0 he⟩
 unfold rqE
 rw [List.append_assoc]
 exact rs_num hs
set_option maxHeartbeats 4000000
theorem parse_epoch {q : Nat → Prop} (s k e : Nat) (A : Option Addr) (c : Nat) (w : World) (hs : s < 18446744073709551616) (hk : k = 4 ∨ k = 5) (he : e < 18446744073709551616) (hR : Rd q w 1 A 17 (u8s (rqE s k e))) :
    Calls Tryz.prog 66 #[.slice A 17 c] w fun x w' => x = .returned (.tuple #[.agg (rmE s k e).cells.toArray, .nilIface]) ∧ New w w' := by
 have hrd := rqE_read s k e hs (by omega) he
 have H1 := Lib.hid hrd.1
 have H2 := Lib.hid hrd.2.1
 have H3 := Lib.hid hrd.2.2
 have HRI := Lib.hid (fun W => right_epoch W (rmE_in (P := fun _ => True) (Q := fun _ => True) s k e W) (by show (k : Int) = 4 ∨ (k : Int) = 5; omega) rfl rfl rfl rfl)
 have HFR := Lib.hid (fun W (hN : New w W) => from_any A 17 c (rqE s k e) W (hN.rd hR) (rqE_byt _ _ _) (by decide))
 obtain ⟨RB, hRB⟩ := nm (rqE s k e)
 rw [← hRB] at HFR H1
 have HBT := Lib.hid (rq_built s k)
 have HST := Lib.hid (rmE_set s k e)
 have HK := Lib.hid hk
 have HC0 : Hid (∀ W b T, Blk W b T (rmE s k 0).cells.toArray → W.cell? ⟨b, 1, none⟩ = some (.int .i64 k) ∧ W.cell? ⟨b, 27, none⟩ = some (.int .u64 0)) := Lib.hid fun W b T h => ⟨h.cell 1, h.cell 27⟩
 have HC1 : Hid (∀ W b T, Blk W b T (rmE s k e).cells.toArray → W.cell? ⟨b, 1, none⟩ = some (.int .i64 k)) := Lib.hid fun W b T h => h.cell 1
 have HL : Hid ((rmE s k 0).cells.toArray.size = 28 ∧ (rmE s k e).cells.toArray.size = 28 ∧ (rmE s k 0).cells.toArray.all (·.oneCell') = true ∧ (rmE s k e).cells.toArray.all (·.oneCell') = true) := Lib.hid ⟨rfl, rfl, Rm.one _, Rm.one _⟩
 obtain ⟨X0, hX0⟩ := nm (rmE s k 0).cells.toArray
 obtain ⟨X1, hX1⟩ := nm (rmE s k e).cells.toArray
 rw [← hX0] at HBT HST HL HC0
 rw [← hX1] at HST HL HC1 HRI ⊢
 have hkw : IntKind.i64.wrap (k : Int) = (k : Int) := by rw [IntKind.wrap_i64]; omega
 have hk1 : ((k : Int) == 1) = false := by simp; omega
 have hk2 : ((k : Int) == 2) = false := by simp; omega
 have hk3 : ((k : Int) == 3) = false := by simp; omega
 clear hrd hRB hX0 hX1 hk hs he hR
 go_enter Tryz.func66, Tryz.ntmps66
 go_upto_region 1 with ((with_reducible refine atOp ⟨some 2, .alloc _, _, _, _, _⟩ ?_); refine wpList_alloc_row rfl rfl rqInfo ?_; intro b2 w1 hb hB hN; have HB2 := Lib.hid hB; have HN1 := Lib.hid hN; have HZ2 := Lib.hid hb; clear hb hB hN)
 go_wp2_with fail
 refine (HFR.out w1 HN1.out).mono ?_
 rintro x w2 ⟨g, rfl, hI, hN2, hg⟩
 have HI := Lib.hid hI
 have HN2 : Hid (New w w2) := Lib.hid (HN1.out.tr hN2)
 have HG : Hid (w1.heap.size ≤ g ∧ w.heap.size ≤ w1.heap.size ∧ b2 < w1.heap.size ∧ w.heap.size ≤ b2) := Lib.hid ⟨hg, HN1.out.size, HB2.out.lt, by rw [HZ2.out]; exact Nat.le_refl _⟩
 have HB22 := Lib.hid (hN2.blk HB2.out)
 clear hI hN2 hg HB2 HN1
 go_wp2_with fail
 refine (rnum_any HI.out 8 (by omega)).mono ?_
 rw [H1.out]
 rintro x w3 ⟨rfl, hI, hF⟩
 have HI3 := Lib.hid hI
 have HN3 : Hid (New w w3) := Lib.hid (HN2.out.fr hF (fun j hj => by have := HG.out; omega))
 have HB23 := Lib.hid (HB22.out.fr hF (by have := HG.out; omega))
 clear hI hF HI HB22
 go_wp2_with fail
 refine (rnum_any HI3.out 1 (by omega)).mono ?_
 rw [H2.out]
 rintro x w4 ⟨rfl, hI, hF⟩
 have HI4 := Lib.hid hI
 have HN4 : Hid (New w w4) := Lib.hid (HN3.out.fr hF (fun j hj => by have := HG.out; omega))
 have HB24 := Lib.hid (HB23.out.fr hF (by have := HG.out; omega))
 clear hI hF HI3 HB23
 go_upto_region 3 with (first
  | ((with_reducible refine atOp ⟨some 5, .alloc _, _, _, _, _⟩ ?_); refine wpList_newrow rfl rfl rfl (.tmp 5) (.tmp 14) rfl rqInfo rfl rfl rfl HL.out.1 HL.out.2.2.1 ?_)
  | ((with_reducible refine atOp ⟨some 14, .build _ _, _, _, _, _⟩ ?_); refine wpList_built rfl 91 [(0, .tmp 10), (1, .tmp 13)] rfl [(0, .int .u64 s), (1, .int .i64 k)] rfl X0 HBT.out ?_))
 obtain ⟨b5, hb5⟩ := nm w4.heap.size
 refine wp_world fun w5 hw5 => ?_
 have hN5 : New w4 w5 := by rw [hw5.out]; exact New.al (New.refl _) _
 have HN5 : Hid (New w w5) := Lib.hid (HN4.out.tr hN5)
 have HI5 := Lib.hid (HI4.out.new hN5)
 have HB25 := Lib.hid (hN5.blk HB24.out)
 have HB55 : Hid (Blk w5 b5 91 X0) := Lib.hid (by rw [hw5.out, hb5]; exact Blk.new _ _ _)
 have HG5 : Hid (g < b5 ∧ b2 < b5) := Lib.hid ⟨by rw [hb5]; exact HI4.out.lt, by rw [hb5]; exact HB24.out.lt⟩
 rw [← hb5]
 clear hw5 hb5 hN5 HI4 HB24
 have c1 : w5.cell? ⟨b5, 1, none⟩ = some (.int .i64 k) := (HC0.out _ _ _ HB55.out).1
 go_wp2_with fail
 clear c1
 refine (rnum_any HI5.out 8 (by omega)).mono ?_
 rw [H3.out]
 rintro x w6 ⟨rfl, hI, hF⟩
 have HI6 := Lib.hid hI
 have HN6 : Hid (New w w6) := Lib.hid (HN5.out.fr hF (fun j hj => by have := HG.out; omega))
 have HB26 := Lib.hid (HB25.out.fr hF (by have := HG.out; omega))
 have HB56 := Lib.hid (HB55.out.fr hF (by have := HG5.out; omega))
 clear hI hF HI5 HB25 HB55
 have c27 : w6.cell? ⟨b5, 27, none⟩ = some (.int .u64 0) := (HC0.out _ _ _ HB56.out).2
 have f27 : w6.frozen? ⟨b5, 27, none⟩ = false := HB56.out.frozen 27
 go_upto_region 6 with fail
 clear c27 f27
 refine wp_world fun w7 hw7 => ?_
 have hF7 : Fr (fun j => j = b5) w6 w7 := by rw [hw7.out]; exact (Fr.refl (fun j => j = b5) w6).setCell (fun _ => rfl) _
 have HB57 : Hid (Blk w7 b5 91 X1) := Lib.hid (by
  have h := HB56.out.set 27 (.int .u64 e)
  rw [HST.out] at h
  rw [hw7.out]; exact h)
 have HN7 : Hid (New w w7) := Lib.hid (HN6.out.fr hF7 (fun j hj => by have := HG.out; have := HG5.out; omega))
 have HI7 := Lib.hid (HI6.out.fr hF7 (by have := HG5.out; omega) (fun j hj h => by
  subst hj
  exact IsT.not_blk HB56.out (by decide) h))
 have HB27 := Lib.hid (HB26.out.fr hF7 (by have := HG5.out; omega))
 clear hw7 hF7 HI6 HB56 HB26
 have c1 : w7.cell? ⟨b5, 1, none⟩ = some (.int .i64 k) := HC1.out _ _ _ HB57.out
 go_upto_region 16 with fail
 clear c1
 go_wp2_with fail
 refine (rend_any HI7.out).mono ?_
 rintro x w8 ⟨rfl, rfl⟩
 have hfin : (⟨[], 0⟩ : Rs).fin = 0 := rfl
 rw [hfin, errV_zero]
 clear hfin
 go_wp2_with ((with_reducible refine atOp ⟨some 60, .load _ _, _, _, _, _⟩ ?_); refine wpList_load_any rfl _ rfl Tryz.underlying91 rfl (by rw [HL.out.2.1]; rfl) rfl HB57.out ?_)
 refine (HRI.out w7).mono ?_
 rintro x w8 ⟨rfl, hN8⟩
 have HN8 : Hid (New w w8) := Lib.hid (HN7.out.tr hN8)
 have HB58 := Lib.hid (hN8.blk HB57.out)
 have HB28 := Lib.hid (hN8.blk HB27.out)
 clear hN8 HB57 HB27
 go_wp2_with (first
  | ((with_reducible refine atOp ⟨some 66, .load _ _, _, _, _, _⟩ ?_); refine wpList_load_any rfl _ rfl Tryz.underlying91 rfl (by rw [HL.out.2.1]; rfl) rfl HB58.out ?_)
  | ((with_reducible refine atOp ⟨none, .store 91 (.tmp 2) _, _, _, _, _⟩ ?_); refine wpList_store_any rfl (.tmp 2) (.tmp 66) rfl (by rw [HL.out.2.1]; rfl) rfl rfl HB28.out (by rw [HL.out.2.1]; rfl) HL.out.2.2.2 ?_; intro w9 hb9 hf9; have HB9 := Lib.hid hb9; have HF9 := Lib.hid hf9; clear hb9 hf9))
 exact bodyPost_ret (results_row2h rfl _ _ b2 _ _ rfl HB9.out Tryz.underlying91 rfl (by rw [HL.out.2.1]; rfl)) rfl ⟨rfl, HN8.out.fr HF9.out (fun j hj => by have := HG.out; omega)⟩
end Go.Proofs.YtmibndkofoldkaaGreatDoor
namespace Go.Proofs.YtmibndkofoldkaaGreatDoor
set_option linter.unusedVariables false
set_option linter.unusedSimpArgs false
set_option linter.constructorNameAsVariable false
open Go.RowKit Go.Sort Go.Maps
def itL (call : Nat) (kind : Int) (x : Rm) (asks : Bool) : List Value := [.int .u64 call, .int .i64 kind] ++ (x.cells ++ [.bool asks])
theorem itL_len {call : Nat} {kind : Int} {x : Rm} {asks : Bool} (h : x.cells.length = 28) : (itL call kind x asks).length = 31 := by simp [itL, h]
theorem itL_one (call : Nat) (kind : Int) (x : Rm) (asks : Bool) : ∀ v ∈ itL call kind x asks, v.oneCell' = true := by
 intro v hv
 unfold itL at hv
 simp only [List.mem_append, List.mem_cons, List.not_mem_nil, or_false] at hv
 rcases hv with (rfl | rfl) | hv | rfl
 · rfl
 · rfl
 · have h := Rm.one x
   exact Array.all_eq_true'.1 h v (by simpa using hv)
 · rfl
theorem itL_at {w : World} {b T : Nat} {call : Nat} {kind : Int} {x : Rm} {asks : Bool} (h : x.cells.length = 28) (hb : Blk w b T (itL call kind x asks).toArray) : w.cell? ⟨b, 30, none⟩ = some (.bool asks) ∧ w.cell? ⟨b, 2, none⟩ = some (.int .u64 x.seq) ∧ w.rangeAt b 2 x.cells := by
 have hc : ∀ i, w.cell? ⟨b, i, none⟩ = (itL call kind x asks)[i]? := fun i => by rw [hb.cell i, List.getElem?_toArray]
 refine ⟨?_, ?_, fun j v hv => ?_⟩
 · rw [hc]
   unfold itL
   rw [List.getElem?_append_right (by show 2 ≤ 30; decide), List.getElem?_append_right (by rw [h]; show 28 ≤ 30 - 2; decide), h]
   rfl
 · rw [hc]; rfl
 · rw [hc]; exact hd_sub (k := 2) rfl hv
theorem itL_seq (call : Nat) (kind : Int) (x : Rm) (asks : Bool) (n : Nat) : (itL call kind x asks).toArray.setIfInBounds 2 (.int .u64 n) = (itL call kind { x with seq := n } asks).toArray := by
 unfold itL Rm.cells
 rw [List.setIfInBounds_toArray]
 rfl
theorem rm_seq_len {x : Rm} (h : x.cells.length = 28) (n : Nat) : (Rm.cells { x with seq := n }).length = 28 := by
 rw [← h]
 simp only [Rm.cells, List.length_append, List.length_cons]
set_option maxHeartbeats 4000000
set_option maxRecDepth 100000
theorem send_any {gc base n m call : Nat} {kind : Int} {c : Cm} {x : Rm} {F : List (List Int)} {body : List Int} (w : World) (hc : Blk w gc 109 c.cells.toArray) (ho : c.Ok) (hF : FrIn w base c.fr F) (hb : base ≤ w.heap.size) (hf : F.length ≤ 1000) (hL : ShaIn 3 1 w) (hx : x.cells.length = 28)
    (hput : ∀ W, New w W → Calls Tryz.prog 86 #[.agg (Rm.cells { x with seq := n }).toArray] W fun e w' => (∃ A d, e = .returned (.tuple #[.slice A m d, .nilIface]) ∧ w'.ownsRow W.heap.size 5 1 (.slice A m d) m (u8s body)) ∧ New W w')
    (hm : m ≤ 262119) (hbb : Byt body) (hs : c.sv.session < 18446744073709551616) :
    Calls Tryz.prog 49 #[.pointer (some ⟨gc, 0, none⟩), .int .u64 n, .agg (itL call kind x true).toArray] w fun e w' => e = .returned (.tuple #[]) ∧
     ∃ v', Blk w' gc 109 (Cm.cells { c with fr := v' }).toArray ∧ v'.oneCell' = true ∧ FrIn w' base v' (F ++ [frmL (linkK c.key) 1 c.sv.session body]) ∧ Fr (fun k => k = gc ∨ c.fr.ownBlock = some k) w w' ∧ (∀ k, v'.ownBlock = some k → c.fr.ownBlock = some k ∨ w.heap.size ≤ k) := by
 have HC := Lib.hid hc
 have HO := Lib.hid ho
 have HF := Lib.hid hF
 have HL := Lib.hid hL
 have HP := Lib.hid hput
 have HBY := Lib.hid (And.intro hbb (And.intro hb hf))
 have HX := Lib.hid hx
 have HSS := Lib.hid hs
 have HA1 := Lib.hid (fun W b (h : Blk W b 115 (itL call kind x true).toArray) => itL_at hx h)
 have HA2 := Lib.hid (fun W b (h : Blk W b 115 (itL call kind { x with seq := n } true).toArray) => (itL_at (rm_seq_len hx n) h).2.2)
 have HST := Lib.hid (itL_seq call kind x true n)
 have HLN : Hid ((Rm.cells { x with seq := n }).length = 28) := Lib.hid (rm_seq_len hx n)
 obtain ⟨IA, hIA⟩ := nm (itL call kind x true).toArray
 obtain ⟨IB, hIB⟩ := nm (itL call kind { x with seq := n } true).toArray
 obtain ⟨RC, hRC⟩ := nm (Rm.cells { x with seq := n })
 rw [← hIA] at HA1 HST ⊢
 rw [← hIB] at HA2 HST
 rw [← hRC] at HA2 HP HLN
 obtain ⟨NF, hNF⟩ := nm (frmL (linkK c.key) 1 c.sv.session body)
 have HNF := Lib.hid hNF
 rw [← hNF]
 clear hc ho hF hL hput hb hf hx hs hIA hIB hRC hbb hNF
 go_enter Tryz.func49, Tryz.ntmps49
 go_upto_region 1 with fail
 obtain ⟨b5, hb5⟩ := nm w.heap.size
 refine wp_world fun w1 hw1 => ?_
 have HN1 : Hid (New w w1) := Lib.hid (by rw [hw1.out]; exact New.al (New.refl _) _)
 have HB1 : Hid (Blk w1 b5 115 IA) := Lib.hid (by rw [hw1.out, hb5]; exact Blk.new _ _ _)
 have HG : Hid (gc < b5 ∧ w.heap.size ≤ b5) := Lib.hid ⟨by rw [hb5]; exact HC.out.lt, by omega⟩
 rw [← hb5]
 clear hb5 hw1
 have c30 := (HA1.out _ _ HB1.out).1
 have c2 := (HA1.out _ _ HB1.out).2.1
 have f2 : w1.frozen? ⟨b5, 2, none⟩ = false := HB1.out.frozen 2
 go_upto_region 3 with fail
 clear c30 c2 f2
 refine wp_world fun w2 hw2 => ?_
 have HB2 : Hid (Blk w2 b5 115 IB) := Lib.hid (by
  have h := HB1.out.set 2 (.int .u64 n)
  rw [HST.out] at h
  rw [hw2.out]; exact h)
 have HN2 : Hid (New w w2) := Lib.hid (by rw [hw2.out]; exact HN1.out.set HG.out.2 _)
 clear hw2 HN1 HB1
 go_wp2_with ((with_reducible refine atOp ⟨some 18, .load _ _, _, _, _, _⟩ ?_); refine wpList_load_range rfl (.tmp 17) rfl rfl (HA2.out _ _ HB2.out) Tryz.underlying91 rfl (by rw [HLN.out]; rfl) ?_)
 refine (HP.out w2 HN2.out).mono ?_
 rintro e w3 ⟨⟨A, d, rfl, hO⟩, hN3⟩
 have HO3 := Lib.hid hO
 have HN3 : Hid (New w w3.drew) := Lib.hid ((HN2.out.tr hN3).dr)
 have HOd : Hid (w3.drew.ownsRow w2.heap.size 5 1 (.slice A m d) m (u8s body)) := Lib.hid ((New.dr (New.refl w3)).own hO)
 have HC3 : Hid (Blk w3.drew gc 109 c.cells.toArray) := Lib.hid (HN3.out.blk HC.out)
 clear hO hN3 HO3
 go_upto_region 5 with fail
 refine wp_region_mixH (ClAt gc c) [(true, 0), (true, 1), (true, 2), (true, 3), (true, 4), (true, 5), (true, 6), (true, 7), (true, 8), (true, 9), (true, 10), (false, 11), (true, 12), (true, 13), (true, 14), (true, 15), (true, 16)] (by kernel_rfl) (by kernel_rfl) (ClAt.of HO.out HC3.out) (fun hne => ?_)
 iterate 4 (refine mix_take (o := ⟨_, _, _, _, _, _⟩) rfl (fun K hK => ?_); go_simp; refine hK _ ?_; clear hK K)
 refine mix_take_row (cs := u8s (linkK c.key)) (o := ⟨_, _, _, _, _, _⟩) rfl rfl (.tmp 28) rfl rfl (fun w' h => h.link) Tryz.underlying60 rfl (by rw [u8s_len, linkK_len]; rfl) ?_
 rw [show (u8s (linkK c.key)).toArray = secA (linkK c.key) from rfl]
 obtain ⟨ss, hss⟩ := nm c.sv.session
 have q0 : ∀ p : HW (ClAt gc c), p.w.cell? ⟨gc, 71, none⟩ = some (.int .u64 ss) := fun p => by rw [hss]; exact p.h.ses
 have HSQ := Lib.hid hss
 clear hss
 obtain ⟨LA, hLA⟩ := nm (secA (linkK c.key))
 have HLA := Lib.hid hLA
 rw [← hLA]
 clear hLA
 iterate 6 (refine mix_take (o := ⟨_, _, _, _, _, _⟩) rfl (fun K hK => ?_); go_simp; refine hK _ ?_; clear hK K)
 clear q0
 refine mix_act (o := ⟨_, _, _, _, _, _⟩) rfl (fun K hK => ?_) (.inl rfl)
 go_simp
 rw [HLA.out]
 refine (lseal_any (linkK c.key) 1 ss A m d body w3.drew (HL.out.new HN3.out) ⟨linkK_len _, linkK_byt _⟩ (.inl rfl) (by rw [HSQ.out]; exact HSS.out) (Rd.own HOd.out rfl) HBY.out.1 hm).mono ?_
 rintro e w4 ⟨⟨A2, d2, rfl, hO2⟩, hN4⟩
 rw [HSQ.out, ← HNF.out] at hO2
 have HN4 : Hid (New w w4) := Lib.hid (HN3.out.tr hN4)
 have HO4 : Hid (w4.ownsRow w.heap.size 5 1 (.slice A2 (25 + m) d2) (25 + m) (u8s NF)) := Lib.hid (own_base hO2 fun k hk => Nat.le_trans HN3.out.size (own_lt hO2 k hk).1)
 have HC4 : Hid (Blk w4 gc 109 c.cells.toArray) := Lib.hid (hN4.blk HC3.out)
 have HFL : Hid (NF.length = 25 + m ∧ Byt NF) := Lib.hid ⟨by
  have := hO2.1
  rw [u8s_len] at this
  omega, by rw [HNF.out]; exact frmL_byt HBY.out.1⟩
 clear hO2 hN4 HC3 HOd
 obtain ⟨fl, hfl⟩ := nm (25 + m)
 rw [← hfl] at HO4 HFL ⊢
 clear hfl
 go_simp
 refine hK.out _ _ (fun _ => ClAt.of HO.out HC4.out) ?_
 clear hK K
 iterate 5 (refine mix_take (o := ⟨_, _, _, _, _, _⟩) rfl (fun K hK => ?_); go_simp; refine hK _ ?_; clear hK K)
 refine mix_done ?_
 obtain ⟨rs, hr1, hr2⟩ := HF.out.new HN4.out
 obtain ⟨A0, d0, hfr, hnc, hcm, -, -⟩ := own_shape hr1
 have HR1 := Lib.hid hr1
 have HR2 := Lib.hid hr2
 have c192 : w4.cell? ⟨gc, 192, none⟩ = some (.slice A0 F.length d0) := by
  have := (ClAt.of HO.out HC4.out).tl 7 c.fr rfl
  rw [hfr] at this
  exact this
 have HFR := Lib.hid hfr
 clear hr1 hr2 hnc hcm hfr
 obtain ⟨FN, hFN⟩ := nm F.length
 rw [← hFN] at HR1 HFR c192
 have HFN := Lib.hid hFN
 clear hFN
 have HAF : Hid (∀ W, New w4 W → W.ownsRow base 84 1 (.slice A0 FN d0) FN rs) := Lib.hid (fun W hN => by rw [← HFR.out]; exact hN.own HR1.out)
 have HNE : Hid ((Value.slice A0 FN d0).ownBlock ≠ some gc) := Lib.hid (own_ne (HAF.out w4 (New.refl _)) HC4.out (by decide))
 have HNal : Hid (New w4 (w4.alloc (.cells #[.slice A2 fl d2] 84))) := Lib.hid (New.al (New.refl _) _)
 go_wp2_with (at_builtin; refine wpList_app elF _ rfl (.tmp 45) (.tmp 47) rfl base (.slice A0 FN d0) FN rs rfl (HAF.out _ (New.al (New.refl w4) _)) (some ⟨w4.heap.size, 0, none⟩) 1 1 [.slice A2 fl d2] rfl (Rd.ofBlk (p := fun _ => True) (cs := #[.slice A2 fl d2]) (Blk.new _ _ _) 1 1 rfl trivial) (by simp [Value.oneCell']) (by have := HFN.out; have := HBY.out.2.2; unfold maxLen; omega) (by have := HFN.out; have := HBY.out.2.2; omega) (by have := HN4.out.size; have := HBY.out.2.1; simp; omega) ?_; intro A' c' w5 hO5 hF5 hA5; have hB5 : Blk w5 gc 109 c.cells.toArray := (HNal.out.blk HC4.out).fr hF5 (fun e => HNE.out e); have c5 := hB5.cell 192; have f5 : w5.frozen? ⟨gc, 192, none⟩ = false := hB5.frozen 192; have c192' : w5.cell? ⟨gc, 192, none⟩ = some (.slice A0 FN d0) := (by have h := (ClAt.of HO.out hB5).tl 7 c.fr rfl; rw [HFR.out] at h; exact h); have HB5 := Lib.hid hB5; have HO5 := Lib.hid hO5; have HF5 := Lib.hid hF5; have HA5 := Lib.hid hA5; clear hB5 c5 hO5 hF5 hA5 c192)
 go_end0
 have hw45 := HNal.out
 have hF6 : Fr (fun k => k = gc) w5 (w5.setCell ⟨gc, 192, none⟩ (.slice A' (FN + 1) c')) := (Fr.refl (fun k => k = gc) _).setCell (fun _ => rfl) _
 have hA' : ∀ k, (Value.slice A' (FN + 1) c').ownBlock = some k → ¬ k = gc := fun k hk e => own_ne HO5.out HB5.out (by decide) (by rw [hk, e])
 have hFa : Fr (fun k => k = gc ∨ (Value.slice A0 FN d0).ownBlock = some k) w4 (w5.setCell ⟨gc, 192, none⟩ (.slice A' (FN + 1) c')) := ((hw45.toFr _).trans (HF5.out.mono fun b _ h => Or.inr h)).trans (hF6.mono fun b _ h => Or.inl h)
 have hnB : ∀ k, (k = gc ∨ (Value.slice A0 FN d0).ownBlock = some k) → ¬ IsT 5 w4 k := fun k hk => by
  rcases hk with rfl | hk
  · exact IsT.not_blk HC4.out (by decide)
  · exact IsT.not_own (HAF.out w4 (New.refl _)) (by decide) hk
 have hrl : rs.length = FN := by have := HR1.out.1; omega
 refine ⟨rfl, .slice A' (FN + 1) c', ?_, rfl, ?_, ?_, ?_⟩
 · have h := HB5.out.set 192 (.slice A' (FN + 1) c')
   rwa [Cm.set_fr HO.out] at h
 · refine ⟨rs ++ [.slice A2 fl d2], ?_, fun i f hf => ?_⟩
   · rw [List.length_append, ← HFN.out]
     exact own_fr HO5.out hF6 hA'
   · by_cases hi : i < FN
     · rw [List.getElem?_append_left (by rw [← HFN.out]; exact hi)] at hf
       obtain ⟨h1, A, d, h2, h3, h4⟩ := HR2.out i f hf
       exact ⟨h1, A, d, by rw [List.getElem?_append_left (by omega)]; exact h2, h3, own_fr h4 hFa (fun k hk hS => hnB k hS (own_isT' h4 hk))⟩
     · have hl := (List.getElem?_eq_some_iff.1 hf).1
       rw [List.length_append, ← HFN.out] at hl
       obtain rfl : i = FN := by simp at hl; omega
       rw [List.getElem?_append_right (by rw [← HFN.out]; exact Nat.le_refl _), ← HFN.out, Nat.sub_self] at hf
       obtain rfl : NF = f := by simpa using hf
       rw [HFL.out.1]
       refine ⟨HFL.out.2, A2, d2, by rw [List.getElem?_append_right (by omega), hrl, Nat.sub_self]; rfl, ?_, ?_⟩
       · obtain ⟨A', c', he, h1, -, -, -⟩ := own_shape HO4.out
         injection he with _ _ he
         rw [he]; exact h1
       · exact own_fr (own_base HO4.out fun k hk => Nat.le_trans HBY.out.2.1 (own_lt HO4.out k hk).1) hFa (fun k hk hS => hnB k hS (own_isT' HO4.out hk))
 · refine ((HN4.out.toFr _).trans (hFa.mono fun b _ h => ?_))
   rw [HFR.out]
   exact h
 · intro k hk
   rcases HA5.out k hk with h | h
   · exact .inl (by rw [HFR.out]; exact h)
   · exact .inr (Nat.le_trans HN4.out.size (Nat.le_trans hw45.size h))
end Go.Proofs.YtmibndkofoldkaaGreatDoor
