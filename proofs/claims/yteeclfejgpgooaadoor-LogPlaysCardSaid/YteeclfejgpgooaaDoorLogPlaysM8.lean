/- Texts of one proof, one behind the other: ShJ, ShT, ShF, ShG. No condition but each one's own. -/
import Derived.Shelf.Bytes.SlJoin
import Derived.Test.YteeclfejgpgooaaDoorLogPlaysM4
import Derived.Test.YteeclfejgpgooaaDoorLogPlaysM6
import Derived.Test.YteeclfejgpgooaaDoorLogPlaysM7
import Derived.Test.YteeclfejgpgooaaDoorLogPlaysM5
/- bytes.Join of two parts or more without anything between them: the kit's contract at this program (its own tool wrote the numbers), in lists of numbers. No condition but the parts' own. -/
namespace Go.Proofs.YteeclfejgpgooaaDoor
set_option linter.unusedVariables false
set_option linter.unusedSimpArgs false
set_option linter.constructorNameAsVariable false
open Go.RowKit Go.Shelf

def joinL_ren : Go.Shelf.Ren := ⟨fun | 14 => 73 | 15 => 79 | n => n, fun | 26 => 40 | 22 => 43 | 3 => 3 | 4 => 4 | 0 => 0 | 9 => 9 | 20 => 20 | 5 => 5 | n => n, fun | n => n⟩
theorem joinL : Go.Proofs.SlLaysJ.n14 Tryd.prog joinL_ren := {
  mixed := by kernel_rfl
  f14 := Tryd.func73.trans (congrArg some (by kernel_rfl))
  f15 := Tryd.func79.trans (congrArg some (by kernel_rfl))
  t0 := Tryd.underlying0
  a0 := Tryd.isAgg0
  z0 := Tryd.sizeOf0
  v0 := Tryd.zeroValue0
  t3 := Tryd.underlying3
  a3 := Tryd.isAgg3
  z3 := Tryd.sizeOf3
  v3 := Tryd.zeroValue3
  t4 := Tryd.underlying4
  a4 := Tryd.isAgg4
  z4 := Tryd.sizeOf4
  v4 := Tryd.zeroValue4
  t9 := Tryd.underlying9
  a9 := Tryd.isAgg9
  z9 := Tryd.sizeOf9
  v9 := Tryd.zeroValue9
  t20 := Tryd.underlying20
  a20 := Tryd.isAgg20
  z20 := Tryd.sizeOf20
  v20 := Tryd.zeroValue20
  t22 := Tryd.underlying43
  a22 := Tryd.isAgg43
  z22 := Tryd.sizeOf43
  v22 := Tryd.zeroValue43
  t26 := Tryd.underlying40
  a26 := Tryd.isAgg40
  z26 := Tryd.sizeOf40
  v26 := Tryd.zeroValue40
  t5 := Tryd.underlying5
  z5 := Tryd.sizeOf5
  i5 := by kernel_rfl }
/-- A list of numbers as bytes. -/
def u8b (l : List Int) : List UInt8 := l.map fun x => UInt8.ofNat x.toNat
theorem u8b_len (l : List Int) : (u8b l).length = l.length := by simp [u8b]
theorem u8b_app (a b : List Int) : u8b (a ++ b) = u8b a ++ u8b b := by simp [u8b]
theorem u8b_flat (ls : List (List Int)) : (ls.map u8b).flatten = u8b ls.flatten := by
  induction ls with
  | nil => rfl
  | cons a r ih => rw [List.map_cons, List.flatten_cons, List.flatten_cons, u8b_app, ih]
theorem join_flat (ls : List (List UInt8)) : Lib.join ls [] = ls.flatten := by
  cases ls with
  | nil => rfl
  | cons a r =>
    rw [Lib.join_cons]
    have h : ∀ l : List (List UInt8), Lib.joinTail [] l = l.flatten := by
      intro l
      simp [Lib.joinTail]
    rw [h, List.flatten_cons]
theorem lens_flat (ls : List (List UInt8)) : Lib.lens ls = ls.flatten.length := by
  simp [Lib.lens, List.length_flatten]
theorem u8b_inj {s t : List Int} (hs : Byt s) (ht : Byt t) (h : u8b s = u8b t) : s = t := by
  have := byt_inj hs ht
  unfold u8b at h
  rw [h] at this
  simpa using this
/-- Parts of a text in memory. -/
structure Parts (w : World) (b o : Nat) (ls : List (List Int)) : Prop where
  at_ : ∀ (i : Nat) l, ls[i]? = some l → Byt l ∧ ∃ A d, w.cell? ⟨b, o + i, none⟩ = some (.slice A l.length d) ∧ Rd (fun _ => True) w 1 A l.length (u8s l)
theorem join_any (b o c : Nat) (ls : List (List Int)) (w : World) (h2 : 2 ≤ ls.length) (hP : Parts w b o ls) (hcap : ls.length ≤ c) (hlen : ls.flatten.length ≤ 1000000000) (hln : ls.length ≤ 1000000) :
    Calls Tryd.prog 73 #[.slice (some ⟨b, o, none⟩) ls.length c, .slice none 0 0] w fun e w' => ∃ A d, e = .returned (.slice A ls.flatten.length d) ∧ Rd (fun k => w.heap.size ≤ k) w' 1 A ls.flatten.length (u8s ls.flatten) ∧ New w w' := by
  have hbyt : Byt ls.flatten := by
    intro x hx
    obtain ⟨l, hl, hxl⟩ := List.mem_flatten.1 hx
    obtain ⟨i, hi⟩ := List.getElem?_of_mem hl
    exact (hP.at_ i l hi).1 x hxl
  have hcellOf : ∀ i l, ls[i]? = some l → ∃ v, w.cell? ⟨b, o + i, none⟩ = some v ∧ Lib.HoldsBytes w v (u8b l) := by
    intro i l hl
    obtain ⟨hb, A, d, hc, hR⟩ := hP.at_ i l hl
    refine ⟨_, hc, A, d, by rw [u8b_len], fun hA => ?_, fun a ha j x hx => ?_⟩
    · rcases Nat.eq_zero_or_pos l.length with h0 | h0
      · rw [List.eq_nil_of_length_eq_zero h0]; rfl
      · obtain ⟨ad, he, _⟩ := hR.2 h0
        rw [hA] at he
        cases he
    · have hj : j < l.length := by
        have := (List.getElem?_eq_some_iff.1 hx).1
        rwa [u8b_len] at this
      obtain ⟨ad, he, -, -, hcc⟩ := hR.2 (by omega)
      rw [ha] at he
      injection he with he
      subst he
      have hxe : x = UInt8.ofNat (l[j]).toNat := by
        unfold u8b at hx
        rw [List.getElem?_map, List.getElem?_eq_getElem hj] at hx
        injection hx with hx
        exact hx.symm
      have hb2 := hb l[j] (List.getElem_mem _)
      have hxn : ((x.toNat : Nat) : Int) = l[j] := by
        rw [hxe, UInt8.toNat_ofNat']
        omega
      rw [hxn]
      exact hcc j _ (by unfold u8s; rw [List.getElem?_map, List.getElem?_eq_getElem hj]; rfl)
  have hPA : Lib.PartsAt w ⟨b, o, none⟩ ((List.range ls.length).map fun i => (w.cell? ⟨b, o + i, none⟩).getD undef) (ls.map u8b) := by
    refine ⟨by simp, fun i v hv => ?_, fun i v l hv hl => ?_⟩
    · rw [List.getElem?_map] at hv
      obtain ⟨j, hj, rfl⟩ := Option.map_eq_some_iff.1 hv
      have hi : i < ls.length := by
        have := (List.getElem?_eq_some_iff.1 hj).1
        simpa using this
      have hji : j = i := by
        rw [List.getElem?_range hi] at hj
        injection hj with hj
        exact hj.symm
      subst hji
      obtain ⟨v, hc, -⟩ := hcellOf j ls[j] (List.getElem?_eq_getElem hi)
      rw [Lib.add_plain2, hc]
      rfl
    · rw [List.getElem?_map] at hv hl
      obtain ⟨j, hj, rfl⟩ := Option.map_eq_some_iff.1 hv
      obtain ⟨l0, hl0, rfl⟩ := Option.map_eq_some_iff.1 hl
      have hi : i < ls.length := (List.getElem?_eq_some_iff.1 hl0).1
      have hji : j = i := by
        rw [List.getElem?_range hi] at hj
        injection hj with hj
        exact hj.symm
      subst hji
      obtain ⟨v, hc, hh⟩ := hcellOf j l0 hl0
      rw [hc]
      exact hh
  have hj := Any.bytes_Join_many joinL b o ls.length c _ (ls.map u8b) (.slice none 0 0) [] w (by simp) h2 hPA hcap ⟨none, 0, rfl, fun _ => rfl, fun a ha => by cases ha⟩ (by omega)
    (by rw [lens_flat, u8b_flat, u8b_len, List.length_nil, Nat.zero_mul]; omega)
  refine hj.mono ?_
  rintro e w' ⟨v', rfl, hF, hB⟩
  rw [join_flat, u8b_flat] at hF
  obtain ⟨g, cap, zs, rfl, hg, hcg, hcm, hz, hzb, hzt, hcs, -⟩ := hF
  rw [u8b_len] at hcg hzt ⊢
  have hzt2 : zs.take ls.flatten.length = ls.flatten := u8b_inj (fun x hx => hzb x (List.mem_of_mem_take hx)) hbyt hzt
  refine ⟨_, _, rfl, ⟨by rw [u8s_len, Nat.mul_one], fun hn => ⟨_, rfl, hg, ?_, fun j u hu => ?_⟩⟩, hB⟩
  · have := hcs 0 (by omega)
    exact World.block_lt_of_cell? w' _ this
  · have hjl : j < ls.flatten.length := by
      have := (List.getElem?_eq_some_iff.1 hu).1
      rwa [u8s_len] at this
    rw [add_own, hcs j (by omega), ← hu]
    unfold u8s
    rw [List.getElem?_map]
    have e1 : ls.flatten[j]? = zs[j]? := by
      rw [← hzt2, List.getElem?_take_of_lt hjl]
    rw [e1, List.getD_eq_getElem?_getD, List.getElem?_eq_getElem (by omega)]
    rfl
end Go.Proofs.YteeclfejgpgooaaDoor
/- sha: the hash of parts, two or more. The constants and the initial values are cells of their globals. No condition else but the parts' lengths. -/
namespace Go.Proofs.YteeclfejgpgooaaDoor
set_option linter.unusedVariables false
set_option linter.unusedSimpArgs false
set_option linter.constructorNameAsVariable false
open Go.RowKit Go.Sort

theorem Parts.new {w w' : World} {b o : Nat} {ls : List (List Int)} (h : Parts w b o ls) (hN : New w w') : Parts w' b o ls :=
  ⟨fun i l hl => by
    obtain ⟨hb, A, d, hc, hR⟩ := h.at_ i l hl
    exact ⟨hb, A, d, hN.cell_ hc, hN.rd hR⟩⟩
theorem Parts.byt {w : World} {b o : Nat} {ls : List (List Int)} (h : Parts w b o ls) : Byt ls.flatten := by
  intro x hx
  obtain ⟨l, hl, hxl⟩ := List.mem_flatten.1 hx
  obtain ⟨i, hi⟩ := List.getElem?_of_mem hl
  exact (h.at_ i l hi).1 x hxl
set_option maxHeartbeats 1000000 in
set_option maxRecDepth 100000 in
theorem of_any (b o c : Nat) (ls : List (List Int)) (m : Nat) (hm : m = ls.length) (w : World) (hL : ShaIn 3 2 w) (h2 : 2 ≤ ls.length) (hP : Parts w b o ls) (hcap : ls.length ≤ c) (hlen : ls.flatten.length ≤ 500000000) (hln : ls.length ≤ 1000000) :
    Calls Tryd.prog 62 #[.slice (some ⟨b, o, none⟩) m c] w fun e w' => e = .returned (.agg (secA (hsh ls.flatten))) ∧ New w w' := by
  subst hm
  have HL := Lib.hid hL
  have HP := Lib.hid hP
  have HY := Lib.hid hP.byt
  have HJ := Lib.hid (fun W (hN : New w W) => join_any b o c ls W h2 (hP.new hN) hcap (by omega) hln)
  obtain ⟨ln, hln2⟩ : ∃ ln, ln = ls.length := ⟨_, rfl⟩
  obtain ⟨fl, hfl⟩ : ∃ fl, fl = ls.flatten := ⟨_, rfl⟩
  rw [← hfl] at HY hlen HJ ⊢
  rw [← hln2] at HJ ⊢
  clear hL hP h2 hcap hln hfl hln2 HP
  have hsz : (secA (hsh fl)).size = 32 := by rw [secA_size, hsh_len]
  have HSZ := Lib.hid hsz
  obtain ⟨RA, hRA⟩ : ∃ RA, RA = secA (hsh fl) := ⟨_, rfl⟩
  have HRA := Lib.hid hRA
  rw [← hRA] at HSZ ⊢
  clear hsz hRA
  go_enter Tryd.func62, Tryd.ntmps62
  go_upto_region 1 with fail
  obtain ⟨w1, hw1⟩ : ∃ w1 : World, w1 = w.alloc (.cells #[.int .u8 0, .int .u8 0, .int .u8 0, .int .u8 0, .int .u8 0, .int .u8 0, .int .u8 0, .int .u8 0, .int .u8 0, .int .u8 0, .int .u8 0, .int .u8 0, .int .u8 0, .int .u8 0, .int .u8 0, .int .u8 0, .int .u8 0, .int .u8 0, .int .u8 0, .int .u8 0, .int .u8 0, .int .u8 0, .int .u8 0, .int .u8 0, .int .u8 0, .int .u8 0, .int .u8 0, .int .u8 0, .int .u8 0, .int .u8 0, .int .u8 0, .int .u8 0] 122) := ⟨_, rfl⟩
  obtain ⟨b2, hb2⟩ : ∃ b2, b2 = w.heap.size := ⟨_, rfl⟩
  have hz : (#[.int .u8 0, .int .u8 0, .int .u8 0, .int .u8 0, .int .u8 0, .int .u8 0, .int .u8 0, .int .u8 0, .int .u8 0, .int .u8 0, .int .u8 0, .int .u8 0, .int .u8 0, .int .u8 0, .int .u8 0, .int .u8 0, .int .u8 0, .int .u8 0, .int .u8 0, .int .u8 0, .int .u8 0, .int .u8 0, .int .u8 0, .int .u8 0, .int .u8 0, .int .u8 0, .int .u8 0, .int .u8 0, .int .u8 0, .int .u8 0, .int .u8 0, .int .u8 0] : Array Value) = secA (List.replicate 32 0) := by rfl
  have HN1 : Hid (New w w1) := Lib.hid (by rw [hw1]; exact New.al (New.refl _) _)
  have HB2 : Hid (Blk w1 b2 122 (secA (List.replicate 32 0))) := Lib.hid (by rw [hw1, hb2, ← hz]; exact Blk.new _ _ _)
  have HZ := Lib.hid hb2
  rw [← hw1, ← hb2]
  clear hw1 hb2 hz
  go_wp2_with fail
  refine (HJ.out w1 HN1.out).mono ?_
  rintro e w2 ⟨A, d, rfl, hR, hN2⟩
  have HR := Lib.hid hR
  have HN2 := Lib.hid hN2
  clear hR hN2
  go_wp2_with fail
  refine (sum_any A fl.length d fl w2 ((HL.out.new HN1.out).new HN2.out) HR.out HY.out (by omega)).mono ?_
  rintro e w3 ⟨rfl, hN3⟩
  have HN3 := Lib.hid hN3
  have HB23 : Hid (Blk w3 b2 122 (secA (List.replicate 32 0))) := Lib.hid (hN3.blk (HN2.out.blk HB2.out))
  clear hN3
  rw [← HRA.out]
  go_wp2_with ((with_reducible refine atOp ⟨none, .store 122 (.tmp 2) _, _, _, _, _⟩ ?_); refine wpList_store_any rfl (.tmp 2) (.tmp 5) rfl (by rw [HSZ.out]; rfl) rfl rfl HB23.out (by rw [HSZ.out, secA_size, List.length_replicate]) (by rw [HRA.out]; exact secA_one _) ?_; intro w8 hb8 hf8; have HB8 := Lib.hid hb8; have HF8 := Lib.hid hf8; clear hb8 hf8)
  exact bodyPost_ret (v := .agg RA) (results_rowA rfl _ _ b2 _ _ rfl HB8.out Tryd.underlying122 rfl (by rw [HSZ.out]; rfl)) rfl ⟨rfl, ((HN1.out.tr HN2.out).tr HN3.out).fr HF8.out (fun k hk => by have := HZ.out; omega)⟩
end Go.Proofs.YteeclfejgpgooaaDoor
/- sha's reference: Compress. The constants are cells of their global. No condition else. -/
namespace Go.Proofs.YteeclfejgpgooaaDoor
set_option linter.unusedVariables false
set_option linter.unusedSimpArgs false
set_option linter.constructorNameAsVariable false
open Go.RowKit Go.Sort

/-- A word's number behind i of its bytes. -/
def bpart (s : List Int) (t : Nat) : Nat → Int
  | 0 => 0
  | i + 1 => bpart s t i * 256 + at_ s (4 * t + i)
theorem bpart_4 (s : List Int) (t : Nat) : bpart s t 4 = bword s t := by
  unfold bword bpart bpart bpart bpart bpart
  rw [Int.zero_mul, Int.zero_add, Nat.add_zero]
theorem at_b {s : List Int} (hb : Byt s) (i : Nat) : 0 ≤ at_ s i ∧ at_ s i < 256 := by
  unfold at_
  rw [List.getD_eq_getElem?_getD]
  cases h : s[i]? with
  | none => simp
  | some x => exact hb x (List.mem_of_getElem? h)
theorem bpart_b {s : List Int} (hb : Byt s) (t : Nat) : ∀ i, 0 ≤ bpart s t i ∧ bpart s t i < 256 ^ i
  | 0 => by simp [bpart]
  | i + 1 => by
    have := bpart_b hb t i
    have h2 := at_b hb (4 * t + i)
    rw [Int.pow_succ]
    unfold bpart
    omega
theorem bpart_lt {s : List Int} (hb : Byt s) (t : Nat) {i : Nat} (hi : i < 4) : 0 ≤ bpart s t i ∧ bpart s t i < 16777216 := by
  have := bpart_b hb t i
  rcases (by omega : i = 0 ∨ i = 1 ∨ i = 2 ∨ i = 3) with rfl | rfl | rfl | rfl <;> omega
theorem u32A_pad (n : Nat) (L : List Int) (h : L.length < n) : u32A n (L ++ [0]) = u32A n L := by
  unfold u32A
  obtain ⟨m, hm⟩ : ∃ m, n - L.length = m + 1 := ⟨n - L.length - 1, by omega⟩
  have h2 : n - (L ++ [0]).length = m := by simp; omega
  rw [hm, h2, List.replicate_succ, List.append_assoc]
  rfl
theorem u32A_last {n : Nat} {L : List Int} (x v : Int) (h : L.length < n) : (u32A n (L ++ [x])).setIfInBounds L.length (.int .u32 v) = u32A n (L ++ [v]) := by
  unfold u32A
  rw [List.setIfInBounds_toArray]
  congr 1
  have h2 : n - (L ++ [x]).length = n - (L ++ [v]).length := by simp
  rw [h2, List.map_append, List.map_append, List.set_append_left _ _ (by simp), List.map_append, List.set_append_right _ _ (by simp)]
  simp
theorem u32A_mid {n : Nat} {L : List Int} (x : Int) (h : L.length < n) : (u32A n (L ++ [x]))[L.length]? = some (.int .u32 x) := by
  rw [u32A_get (by simp)]
  simp [at_]
theorem sprd_lo (s : List Int) {t : Nat} (h : t < 16) : sprd s (t + 1) = sprd s t ++ [bword s t] := by simp [sprd, h]
theorem sprd_hi (s : List Int) {t : Nat} (h : ¬ t < 16) : sprd s (t + 1) = sprd s t ++ [add32 (add32 (add32 (at_ (sprd s t) (t - 16)) (sg0 (at_ (sprd s t) (t - 15)))) (at_ (sprd s t) (t - 7))) (sg1 (at_ (sprd s t) (t - 2)))] := by simp [sprd, h]
theorem add32_comm (a b : Int) : add32 a b = add32 b a := by unfold add32; rw [Int.add_comm]
theorem rturn_q (x : Int) (k : Nat) (k' : Int) (e : k' = (k : Int)) (hx : 0 ≤ x ∧ x < 4294967296) (hk : 1 ≤ k ∧ k ≤ 31) (w : World) : ∀ d os, Calls Tryd.prog 76 #[.int .u32 x, .int .i64 k'] (grow (redrawn w d) os) fun e w'' => e = .returned (.int .u32 (rotr x k)) ∧ ∃ p : Regrown, w'' = grow (redrawn w p.d) p.os :=
  e ▸ calls_regrown (fun W _ => (rturn_any x k W hx hk).mono fun e w' h => ⟨h.1, by rw [← h.2]; exact New.refl _⟩)
set_option maxHeartbeats 8000000 in
set_option maxRecDepth 100000 in
theorem rcompress_any (S : H8) (A : Option Addr) (cap : Nat) (s : List Int) (w : World) (hK : ∀ t, t < 64 → w.cell? ⟨1, t, none⟩ = some (.int .u32 (at_ kL t))) (hS : S.Ok) (hR : Rd (fun b => b < w.heap.size) w 1 A 64 (u8s s)) (hb : Byt s) : Calls Tryd.prog 71 #[.agg S.arr, .slice A 64 cap] w fun e w' => e = .returned (.agg (compr S s).arr) ∧ New w w' := by
  have hs : s.length = 64 := by have := hR.1; rw [u8s_len] at this; omega
  obtain ⟨bB, oB, rfl, -, -, hcB⟩ := hR.out (by omega) (by omega)
  have HCB : Hid (∀ m, m < 64 → w.cell? ⟨bB, oB + m, none⟩ = some (.int .u8 (at_ s m))) := Lib.hid fun m hm => hcB m _ (by
    unfold u8s at_
    rw [List.getElem?_map, List.getElem?_eq_getElem (by omega), List.getD_eq_getElem?_getD, List.getElem?_eq_getElem (by omega)]
    rfl)
  have HS := Lib.hid hs
  have HB := Lib.hid hb
  have HO := Lib.hid hS
  have HADD : Hid (compr S s = (rnds (fun t => at_ kL t) (sprd s 64) S 64).add S) := Lib.hid rfl
  obtain ⟨K, hKe⟩ : ∃ K : Nat → Int, K = fun t => at_ kL t := ⟨_, rfl⟩
  have HK : Hid (∀ t, t < 64 → w.cell? ⟨1, t, none⟩ = some (.int .u32 (K t))) := Lib.hid (by rw [hKe]; exact hK)
  rw [← hKe] at HADD
  clear hs hb hS hK hKe hcB hR
  obtain ⟨RA, hRA⟩ : ∃ RA, RA = (compr S s).arr := ⟨_, rfl⟩
  rw [← hRA]
  have HRA := Lib.hid hRA
  clear hRA
  obtain ⟨a, b, c, d, e, f, g, hz⟩ := S
  unfold H8.arr
  dsimp only
  go_enter Tryd.func71, Tryd.ntmps71
  go_upto_region 2 with fail
  obtain ⟨w1, hw1⟩ : ∃ w1 : World, w1 = ((w.alloc (.cells #[.int .u32 a, .int .u32 b, .int .u32 c, .int .u32 d, .int .u32 e, .int .u32 f, .int .u32 g, .int .u32 hz] 134)).alloc (.cells #[.int .u32 0, .int .u32 0, .int .u32 0, .int .u32 0, .int .u32 0, .int .u32 0, .int .u32 0, .int .u32 0] 134)).alloc (.cells #[.int .u32 0, .int .u32 0, .int .u32 0, .int .u32 0, .int .u32 0, .int .u32 0, .int .u32 0, .int .u32 0, .int .u32 0, .int .u32 0, .int .u32 0, .int .u32 0, .int .u32 0, .int .u32 0, .int .u32 0, .int .u32 0, .int .u32 0, .int .u32 0, .int .u32 0, .int .u32 0, .int .u32 0, .int .u32 0, .int .u32 0, .int .u32 0, .int .u32 0, .int .u32 0, .int .u32 0, .int .u32 0, .int .u32 0, .int .u32 0, .int .u32 0, .int .u32 0, .int .u32 0, .int .u32 0, .int .u32 0, .int .u32 0, .int .u32 0, .int .u32 0, .int .u32 0, .int .u32 0, .int .u32 0, .int .u32 0, .int .u32 0, .int .u32 0, .int .u32 0, .int .u32 0, .int .u32 0, .int .u32 0, .int .u32 0, .int .u32 0, .int .u32 0, .int .u32 0, .int .u32 0, .int .u32 0, .int .u32 0, .int .u32 0, .int .u32 0, .int .u32 0, .int .u32 0, .int .u32 0, .int .u32 0, .int .u32 0, .int .u32 0, .int .u32 0] 139) := ⟨_, rfl⟩
  obtain ⟨b2, hb2⟩ : ∃ b2, b2 = w.heap.size := ⟨_, rfl⟩
  obtain ⟨b4, hb4⟩ : ∃ b4, b4 = w.heap.size + 1 := ⟨_, rfl⟩
  obtain ⟨b5, hb5⟩ : ∃ b5, b5 = w.heap.size + 1 + 1 := ⟨_, rfl⟩
  have hz5 : (#[.int .u32 0, .int .u32 0, .int .u32 0, .int .u32 0, .int .u32 0, .int .u32 0, .int .u32 0, .int .u32 0, .int .u32 0, .int .u32 0, .int .u32 0, .int .u32 0, .int .u32 0, .int .u32 0, .int .u32 0, .int .u32 0, .int .u32 0, .int .u32 0, .int .u32 0, .int .u32 0, .int .u32 0, .int .u32 0, .int .u32 0, .int .u32 0, .int .u32 0, .int .u32 0, .int .u32 0, .int .u32 0, .int .u32 0, .int .u32 0, .int .u32 0, .int .u32 0, .int .u32 0, .int .u32 0, .int .u32 0, .int .u32 0, .int .u32 0, .int .u32 0, .int .u32 0, .int .u32 0, .int .u32 0, .int .u32 0, .int .u32 0, .int .u32 0, .int .u32 0, .int .u32 0, .int .u32 0, .int .u32 0, .int .u32 0, .int .u32 0, .int .u32 0, .int .u32 0, .int .u32 0, .int .u32 0, .int .u32 0, .int .u32 0, .int .u32 0, .int .u32 0, .int .u32 0, .int .u32 0, .int .u32 0, .int .u32 0, .int .u32 0, .int .u32 0] : Array Value) = u32A 64 [] := by rfl
  have HN1 : Hid (New w w1) := Lib.hid (by rw [hw1]; exact New.al (New.al (New.al (New.refl _) _) _) _)
  have HB2 : Hid (Blk w1 b2 134 (H8.arr ⟨a, b, c, d, e, f, g, hz⟩)) := Lib.hid (by rw [hw1, hb2]; exact ((Blk.new _ _ _).alloc _).alloc _)
  have HB4 : Hid (Blk w1 b4 134 (u32A 8 [])) := Lib.hid (by rw [hw1, hb4]; exact (Blk.new' _ _ _ (by simp)).alloc _)
  have HB5 : Hid (Blk w1 b5 139 (u32A 64 [])) := Lib.hid (by rw [hw1, hb5, ← hz5]; exact Blk.new' _ _ _ (by simp))
  have HZ : Hid (b2 = w.heap.size ∧ b4 = w.heap.size + 1 ∧ b5 = w.heap.size + 2) := Lib.hid ⟨hb2, hb4, hb5⟩
  rw [← hw1, ← hb5, ← hb4, ← hb2]
  clear hw1 hb2 hb4 hb5 hz5
  obtain ⟨SA, hSA⟩ : ∃ SA, SA = H8.arr ⟨a, b, c, d, e, f, g, hz⟩ := ⟨_, rfl⟩
  rw [← hSA] at HB2
  have HSA := Lib.hid hSA
  clear hSA
  go_wp2_with fail
  go_loopw [6] (fun i wr => ∃ (t : Nat), t ≤ 64 ∧ i = .int .i64 t ∧ Hid (New w wr) ∧ Hid (Blk wr b2 134 SA) ∧ Hid (Blk wr b4 134 (u32A 8 [])) ∧ Hid (Blk wr b5 139 (u32A 64 (sprd s t)))) (fun i _ => 64 - (intOf i).toNat)
  case atStart => exact ⟨0, Nat.zero_le _, rfl, HN1, HB2, HB4, HB5⟩
  case round =>
    clear HB2 HB4 HB5 HN1
    obtain ⟨t, ht, rfl, HN, HB2, HB4, HB5⟩ := hrel
    by_cases hlt : t < 64
    · have ht0 : (0 : Int) ≤ (t : Int) := by omega
      have ht6 : (t : Int) < 64 := by omega
      have hlen : (sprd s t).length = t := sprd_len s t
      have HLEN := Lib.hid hlen
      clear hlen
      by_cases h16 : t < 16
      · have hd : decide ((t : Int) < 16) = true := decide_eq_true (by omega)
        have HB50 : Hid (Blk wr b5 139 (u32A 64 (sprd s t ++ [bpart s t 0]))) := Lib.hid (by
          have := u32A_pad 64 (sprd s t) (by rw [HLEN.out]; exact hlt)
          show Blk wr b5 139 (u32A 64 (sprd s t ++ [0]))
          rw [this]
          exact HB5.out)
        clear HB5
        obtain ⟨wo, hwo⟩ : ∃ wo : World, wo = wr := ⟨_, rfl⟩
        rw [← hwo] at HN HB2 HB4 HB50 ⊢
        clear hwo
        go_wp2_with fail
        go_loopw [7] (fun i wr => ∃ (k : Nat), k ≤ 4 ∧ i = .int .i64 k ∧ Hid (New w wr) ∧ Hid (Blk wr b2 134 SA) ∧ Hid (Blk wr b4 134 (u32A 8 [])) ∧ Hid (Blk wr b5 139 (u32A 64 (sprd s t ++ [bpart s t k])))) (fun i _ => 4 - (intOf i).toNat)
        case atStart => exact ⟨0, Nat.zero_le _, rfl, HN, HB2, HB4, HB50⟩
        case round =>
          clear HB2 HB4 HB50 HN
          obtain ⟨k, hk, rfl, HN, HB2, HB4, HB5⟩ := hrel
          by_cases hlk : k < 4
          · have hk0 : (0 : Int) ≤ (k : Int) := by omega
            have hk4 : (k : Int) < 4 := by omega
            obtain ⟨t4, ht4⟩ : ∃ t4, t4 = 4 * t := ⟨_, rfl⟩
            obtain ⟨m, hm⟩ : ∃ m, m = t4 + k := ⟨_, rfl⟩
            have e1 : (4 * (t : Int)) = (t4 : Int) := by omega
            have e2 : ((t4 : Int) + (k : Int)) = (m : Int) := by omega
            have w1 : IntKind.i64.wrap (t4 : Int) = (t4 : Int) := IntWalk.i64_in _ (by omega)
            have w2 : IntKind.i64.wrap (m : Int) = (m : Int) := IntWalk.i64_in _ (by omega)
            have hm0 : (m : Int) < 64 := by omega
            obtain ⟨pt, hpt⟩ : ∃ pt, pt = bpart s t k := ⟨_, rfl⟩
            obtain ⟨x, hx⟩ : ∃ x, x = at_ s m := ⟨_, rfl⟩
            obtain ⟨q, hq⟩ : ∃ q, q = pt * 256 := ⟨_, rfl⟩
            obtain ⟨pn, hpn⟩ : ∃ pn, pn = q + x := ⟨_, rfl⟩
            have hpb := bpart_lt HB.out t hlk
            have hxb := at_b HB.out m
            rw [← hpt] at hpb
            rw [← hx] at hxb
            have f1 : IntKind.u32.wrap (pt * 256) = q := by rw [hq]; exact u32_in _ (by omega) (by omega)
            have f2 : IntKind.u32.wrap x = x := u32_in _ (by omega) (by omega)
            have f3 : IntKind.u32.wrap (q + x) = pn := by rw [hpn]; exact u32_in _ (by omega) (by omega)
            have HPN : Hid (pn = bpart s t (k + 1)) := Lib.hid (by rw [hpn, hq, hpt, hx, hm, ht4]; rfl)
            have c5 : wr.cell? ⟨b5, t, none⟩ = some (.int .u32 pt) := by
              have := u32A_mid (n := 64) (L := sprd s t) (bpart s t k) (by rw [HLEN.out]; exact hlt)
              rw [HLEN.out] at this
              rw [HB5.out.cell t, this, hpt]
            have cB : wr.cell? ⟨bB, oB + m, none⟩ = some (.int .u8 x) := by rw [hx]; exact HN.out.cell_ (HCB.out m (by omega))
            have HC5 := Lib.hid c5
            have d5 := cell_regrown c5
            have dB := cell_regrown cB
            clear c5 cB ht4 hm hpt hx hq hpn hpb hxb
            go_wp2_with fail
            refine wp_region_tail 15 (by kernel_rfl) (by kernel_rfl) ?_
            simp only [List.take_succ_cons, List.take_zero, List.drop_succ_cons, List.drop_zero]
            repeat (quiet_step (fail))
            refine wpQuiet_nil ?_
            intro Wq hNq
            have HNq : Hid (New wr Wq) := Lib.hid hNq
            have e5 : Wq.cell? ⟨b5, t, none⟩ = some (.int .u32 pt) := HNq.out.cell_ HC5.out
            have f5 : Wq.frozen? ⟨b5, t, none⟩ = false := (HNq.out.blk HB5.out).frozen t
            clear d5 dB hNq f1 f2 f3 e1 e2 w1 w2
            have HF : Hid (Fr (fun j => j = b5) Wq (Wq.setCell ⟨b5, t, none⟩ (.int .u32 pn))) := Lib.hid ((Fr.refl (fun j => j = b5) Wq).setCell (p := ⟨b5, t, none⟩) (fun _ => rfl) _)
            have HN6 : Hid (New w (Wq.setCell ⟨b5, t, none⟩ (.int .u32 pn))) := Lib.hid ((HN.out.tr HNq.out).fr HF.out (fun k hk => by have := HZ.out; omega))
            have HB46 : Hid (Blk (Wq.setCell ⟨b5, t, none⟩ (.int .u32 pn)) b4 134 (u32A 8 [])) := Lib.hid ((HNq.out.blk HB4.out).fr HF.out (by have := HZ.out; omega))
            have HB26 : Hid (Blk (Wq.setCell ⟨b5, t, none⟩ (.int .u32 pn)) b2 134 SA) := Lib.hid ((HNq.out.blk HB2.out).fr HF.out (by have := HZ.out; omega))
            have HB56 : Hid (Blk (Wq.setCell ⟨b5, t, none⟩ (.int .u32 pn)) b5 139 (u32A 64 (sprd s t ++ [bpart s t (k + 1)]))) := Lib.hid (by
              have := (HNq.out.blk HB5.out).set t (.int .u32 pn)
              have h2 := u32A_last (n := 64) (L := sprd s t) (bpart s t k) pn (by rw [HLEN.out]; exact hlt)
              rw [HLEN.out] at h2
              rw [h2] at this
              rw [← HPN.out]
              exact this)
            go_wp2_with fail
            go_roundw
            case rel => exact ⟨k + 1, by omega, by go_num, HN6, HB26, HB46, HB56⟩
            case measure => simp [intOf]; omega
          · obtain rfl : k = 4 := by omega
            have HB5n : Hid (Blk wr b5 139 (u32A 64 (sprd s (t + 1)))) := Lib.hid (by rw [sprd_lo s h16, ← bpart_4]; exact HB5.out)
            go_wp2_with fail
            go_roundw
            case rel => exact ⟨t + 1, by omega, by go_num, HN, HB2, HB4, HB5n⟩
            case measure => simp [intOf]; omega
      · have hd : decide ((t : Int) < 16) = false := decide_eq_false (by omega)
        obtain ⟨xx, hxx⟩ : ∃ xx, xx = at_ (sprd s t) (t - 15) := ⟨_, rfl⟩
        obtain ⟨yy, hyy⟩ : ∃ yy, yy = at_ (sprd s t) (t - 2) := ⟨_, rfl⟩
        obtain ⟨i15, h15⟩ : ∃ i, i = t - 15 := ⟨_, rfl⟩
        obtain ⟨i2, h2⟩ : ∃ i, i = t - 2 := ⟨_, rfl⟩
        obtain ⟨i16, h16'⟩ : ∃ i, i = t - 16 := ⟨_, rfl⟩
        obtain ⟨i7, h7⟩ : ∃ i, i = t - 7 := ⟨_, rfl⟩
        have e15 : ((t : Int) - 15) = (i15 : Int) := by omega
        have e2 : ((t : Int) - 2) = (i2 : Int) := by omega
        have e16 : ((t : Int) - 16) = (i16 : Int) := by omega
        have e7 : ((t : Int) - 7) = (i7 : Int) := by omega
        have hlen : (sprd s t).length = t := sprd_len s t
        have HC15 : Hid ((u32A 64 (sprd s t))[i15]? = some (.int .u32 xx)) := Lib.hid (by rw [hxx, ← h15]; exact u32A_get (by omega))
        have HC2 : Hid ((u32A 64 (sprd s t))[i2]? = some (.int .u32 yy)) := Lib.hid (by rw [hyy, ← h2]; exact u32A_get (by omega))
        have HC16 : Hid ((u32A 64 (sprd s t))[i16]? = some (.int .u32 (at_ (sprd s t) i16))) := Lib.hid (u32A_get (by omega))
        have HC7 : Hid ((u32A 64 (sprd s t))[i7]? = some (.int .u32 (at_ (sprd s t) i7))) := Lib.hid (u32A_get (by omega))
        have hbx : 0 ≤ xx ∧ xx < 4294967296 := by rw [hxx]; exact sprd_b HS.out HB.out t _
        have hby : 0 ≤ yy ∧ yy < 4294967296 := by rw [hyy]; exact sprd_b HS.out HB.out t _
        have l15 : (i15 : Int) < 64 := by omega
        have l2 : (i2 : Int) < 64 := by omega
        have l16 : (i16 : Int) < 64 := by omega
        have l7 : (i7 : Int) < 64 := by omega
        have w15 : IntKind.i64.wrap (i15 : Int) = (i15 : Int) := IntWalk.i64_in _ (by omega)
        have w2 : IntKind.i64.wrap (i2 : Int) = (i2 : Int) := IntWalk.i64_in _ (by omega)
        have w16 : IntKind.i64.wrap (i16 : Int) = (i16 : Int) := IntWalk.i64_in _ (by omega)
        have w7 : IntKind.i64.wrap (i7 : Int) = (i7 : Int) := IntWalk.i64_in _ (by omega)
        have HXX := Lib.hid hxx
        have HYY := Lib.hid hyy
        have HI : Hid (i15 = t - 15 ∧ i2 = t - 2 ∧ i16 = t - 16 ∧ i7 = t - 7) := Lib.hid ⟨h15, h2, h16', h7⟩
        have d15 := cell_regrown (show wr.cell? ⟨b5, i15, none⟩ = some (.int .u32 xx) from (HB5.out.cell i15).trans HC15.out)
        have d2 := cell_regrown (show wr.cell? ⟨b5, i2, none⟩ = some (.int .u32 yy) from (HB5.out.cell i2).trans HC2.out)
        clear hlen hxx hyy h15 h2 h16' h7
        go_wp2_with fail
        refine wp_region_quiet_below (by kernel_rfl) (by kernel_rfl) ?_
        repeat (quiet_step (fail))
        refine wpQuiet_nil ?_
        intro _ hw'
        obtain ⟨⟨dq, osq⟩, hw''⟩ := hw'
        obtain ⟨Wq, hWq⟩ : ∃ Wq, Wq = grow (redrawn wr dq) osq := ⟨_, rfl⟩
        have HNq : Hid (New wr Wq) := Lib.hid (by rw [hWq]; exact below_regrown _ dq osq)
        rw [hw'', ← hWq]
        clear hw'' hWq d15 d2
        have HB5q : Hid (Blk Wq b5 139 (u32A 64 (sprd s t))) := Lib.hid (HNq.out.blk HB5.out)
        go_wp2_with fail
        refine (rturn_any xx 7 Wq hbx (by omega)).mono ?_
        rintro ee w5 ⟨rfl, rfl⟩
        go_wp2_with fail
        refine (rturn_any xx 18 Wq hbx (by omega)).mono ?_
        rintro ee w5 ⟨rfl, rfl⟩
        go_wp2_with fail
        refine (rturn_any yy 17 Wq hby (by omega)).mono ?_
        rintro ee w5 ⟨rfl, rfl⟩
        go_wp2_with fail
        refine (rturn_any yy 19 Wq hby (by omega)).mono ?_
        rintro ee w5 ⟨rfl, rfl⟩
        have d16 := cell_regrown (show Wq.cell? ⟨b5, i16, none⟩ = some (.int .u32 (at_ (sprd s t) i16)) from (HB5q.out.cell i16).trans HC16.out)
        have d7 := cell_regrown (show Wq.cell? ⟨b5, i7, none⟩ = some (.int .u32 (at_ (sprd s t) i7)) from (HB5q.out.cell i7).trans HC7.out)
        go_wp2_with fail
        refine wp_region_tail 15 (by kernel_rfl) (by kernel_rfl) ?_
        simp only [List.take_succ_cons, List.take_zero, List.drop_succ_cons, List.drop_zero]
        repeat (quiet_step (fail))
        refine wpQuiet_nil ?_
        intro Wr hNr
        have HNr : Hid (New Wq Wr) := Lib.hid hNr
        obtain ⟨v, hv⟩ := u32A_any (n := 64) (L := sprd s t) hlt
        have c5 : Wr.cell? ⟨b5, t, none⟩ = some v := ((HNr.out.blk HB5q.out).cell t).trans hv
        have f5 : Wr.frozen? ⟨b5, t, none⟩ = false := (HNr.out.blk HB5q.out).frozen t
        obtain ⟨val, hval⟩ : ∃ val, val = (add32 (add32 (add32 (at_ (sprd s t) i16) (sg0 xx)) (at_ (sprd s t) i7)) (sg1 yy)) := ⟨_, rfl⟩
        have hval2 : IntKind.u32.wrap (IntKind.u32.wrap (IntKind.u32.wrap (at_ (sprd s t) i16 + bits BinOp.xor .u32 (bits BinOp.xor .u32 (rotr xx 7) (rotr xx 18)) (xx / 8)) + at_ (sprd s t) i7) + bits BinOp.xor .u32 (bits BinOp.xor .u32 (rotr yy 17) (rotr yy 19)) (yy / 1024)) = val := hval.symm
        rw [hval2]
        have HF : Hid (Fr (fun k => k = b5) Wr (Wr.setCell ⟨b5, t, none⟩ (.int .u32 val))) := Lib.hid ((Fr.refl (fun k => k = b5) Wr).setCell (p := ⟨b5, t, none⟩) (fun _ => rfl) _)
        have HN6 : Hid (New w (Wr.setCell ⟨b5, t, none⟩ (.int .u32 val))) := Lib.hid (((HN.out.tr HNq.out).tr HNr.out).fr HF.out (fun k hk => by have := HZ.out; omega))
        have HB6 : Hid (Blk (Wr.setCell ⟨b5, t, none⟩ (.int .u32 val)) b5 139 (u32A 64 (sprd s (t + 1)))) := Lib.hid (by
          have := (HNr.out.blk HB5q.out).set t (.int .u32 val)
          have h2 := u32A_set (n := 64) (L := sprd s t) val (by rw [sprd_len]; exact hlt)
          rw [sprd_len] at h2
          rw [h2, hval, HXX.out, HYY.out, HI.out.2.2.1, HI.out.2.2.2] at this
          rw [hval, HXX.out, HYY.out, HI.out.2.2.1, HI.out.2.2.2, sprd_hi s h16]
          exact this)
        have HB26 : Hid (Blk (Wr.setCell ⟨b5, t, none⟩ (.int .u32 val)) b2 134 SA) := Lib.hid (((HNq.out.tr HNr.out).blk HB2.out).fr HF.out (by have := HZ.out; omega))
        have HB46 : Hid (Blk (Wr.setCell ⟨b5, t, none⟩ (.int .u32 val)) b4 134 (u32A 8 [])) := Lib.hid (((HNq.out.tr HNr.out).blk HB4.out).fr HF.out (by have := HZ.out; omega))
        clear hNr hv d16 d7 hval hval2 hbx hby e15 e2 e16 e7 w15 w2 w16 w7
        go_wp2_with fail
        go_roundw
        case rel => exact ⟨t + 1, by omega, by go_num, HN6, HB26, HB46, HB6⟩
        case measure => simp [intOf]; omega
    · have HT64 : Hid (t = 64) := Lib.hid (by omega)
      have hn64 : ¬ (t : Int) < 64 := by omega
      obtain ⟨ws, hws⟩ : ∃ ws, ws = sprd s 64 := ⟨_, rfl⟩
      have HWL : Hid (ws.length = 64) := Lib.hid (by rw [hws]; exact sprd_len s 64)
      have HB5w : Hid (Blk wr b5 139 (u32A 64 ws)) := Lib.hid (by rw [hws]; have := HB5.out; rwa [HT64.out] at this)
      have HADW : Hid (compr ⟨a, b, c, d, e, f, g, hz⟩ s = (rnds K ws ⟨a, b, c, d, e, f, g, hz⟩ 64).add ⟨a, b, c, d, e, f, g, hz⟩) := Lib.hid (by rw [hws]; exact HADD.out)
      have HB2a : Hid (Blk wr b2 134 (H8.arr ⟨a, b, c, d, e, f, g, hz⟩)) := Lib.hid (by rw [← HSA.out]; exact HB2.out)
      clear hws HB5 HADD HB2 HSA
      obtain ⟨wo, hwo⟩ : ∃ wo : World, wo = wr := ⟨_, rfl⟩
      rw [← hwo] at HB5w HB2a HN HB4 ⊢
      clear hwo hlt ht HT64
      have q0 := cell_regrown (show wo.cell? ⟨b2, 0, none⟩ = some (.int .u32 a) from HB2a.out.cell 0)
      have q1 := cell_regrown (show wo.cell? ⟨b2, 1, none⟩ = some (.int .u32 b) from HB2a.out.cell 1)
      have q2 := cell_regrown (show wo.cell? ⟨b2, 2, none⟩ = some (.int .u32 c) from HB2a.out.cell 2)
      have q3 := cell_regrown (show wo.cell? ⟨b2, 3, none⟩ = some (.int .u32 d) from HB2a.out.cell 3)
      have q4 := cell_regrown (show wo.cell? ⟨b2, 4, none⟩ = some (.int .u32 e) from HB2a.out.cell 4)
      have q5 := cell_regrown (show wo.cell? ⟨b2, 5, none⟩ = some (.int .u32 f) from HB2a.out.cell 5)
      have q6 := cell_regrown (show wo.cell? ⟨b2, 6, none⟩ = some (.int .u32 g) from HB2a.out.cell 6)
      have q7 := cell_regrown (show wo.cell? ⟨b2, 7, none⟩ = some (.int .u32 hz) from HB2a.out.cell 7)
      go_wp2_with fail
      refine wp_region_quiet_below (by kernel_rfl) (by kernel_rfl) ?_
      repeat (quiet_step (fail))
      refine wpQuiet_nil ?_
      intro _ hw'
      obtain ⟨⟨dq, osq⟩, hw''⟩ := hw'
      obtain ⟨Wq, hWq⟩ : ∃ Wq, Wq = grow (redrawn wo dq) osq := ⟨_, rfl⟩
      have hNq : New wo Wq := by rw [hWq]; exact below_regrown _ dq osq
      have HNw : Hid (New w Wq) := Lib.hid (HN.out.tr hNq)
      have HB5q : Hid (Blk Wq b5 139 (u32A 64 ws)) := Lib.hid (hNq.blk HB5w.out)
      have HB2q : Hid (Blk Wq b2 134 (H8.arr ⟨a, b, c, d, e, f, g, hz⟩)) := Lib.hid (hNq.blk HB2a.out)
      have HB4q : Hid (Blk Wq b4 134 (u32A 8 [])) := Lib.hid (hNq.blk HB4.out)
      rw [hw'', ← hWq]
      clear hw'' hWq hNq q0 q1 q2 q3 q4 q5 q6 q7 HB5w HB2a HB4 HN hn64
      go_wp2_with fail
      go_loopw [12, 13, 14, 15, 16, 17, 18, 19, 20] (fun va vb vc vd ve vf vg vh i wr => ∃ (t : Nat) (xa xb xc xd xe xf xg xh : Int), t ≤ 64 ∧ i = .int .i64 t ∧ va = .int .u32 xa ∧ vb = .int .u32 xb ∧ vc = .int .u32 xc ∧ vd = .int .u32 xd ∧ ve = .int .u32 xe ∧ vf = .int .u32 xf ∧ vg = .int .u32 xg ∧ vh = .int .u32 xh ∧ Hid ((⟨xa, xb, xc, xd, xe, xf, xg, xh⟩ : H8) = rnds K ws ⟨a, b, c, d, e, f, g, hz⟩ t) ∧ Hid (New w wr) ∧ Hid (Blk wr b2 134 (H8.arr ⟨a, b, c, d, e, f, g, hz⟩)) ∧ Hid (Blk wr b4 134 (u32A 8 [])) ∧ Hid (Blk wr b5 139 (u32A 64 ws))) (fun _ _ _ _ _ _ _ _ i _ => 64 - (intOf i).toNat)
      case atStart => exact ⟨0, a, b, c, d, e, f, g, hz, Nat.zero_le _, rfl, rfl, rfl, rfl, rfl, rfl, rfl, rfl, rfl, Lib.hid rfl, HNw, HB2q, HB4q, HB5q⟩
      case round =>
        clear HNw HB2q HB4q HB5q
        obtain ⟨t, xa, xb, xc, xd, xe, xf, xg, xh, ht, rfl, rfl, rfl, rfl, rfl, rfl, rfl, rfl, rfl, HX, HN, HB2, HB4, HB5⟩ := hrel
        have hok := rnds_ok (K := K) (W := ws) HO.out t
        rw [← HX.out] at hok
        have hea : 0 ≤ xa ∧ xa < 4294967296 := hok.a
        have hee : 0 ≤ xe ∧ xe < 4294967296 := hok.e
        clear hok
        by_cases hlt : t < 64
        · have ht0 : (0 : Int) ≤ (t : Int) := by omega
          have ht6 : (t : Int) < 64 := by omega
          have kW := cell_regrown (show wr.cell? ⟨b5, t, none⟩ = some (.int .u32 (at_ ws t)) from (HB5.out.cell t).trans (u32A_get (by rw [HWL.out]; exact hlt)))
          have kK := cell_regrown (show wr.cell? ⟨1, t, none⟩ = some (.int .u32 (K t)) from HN.out.cell_ (HK.out t hlt))
          have t1 := rturn_q xe 6 6 rfl hee (by omega) wr
          have t2 := rturn_q xe 11 11 rfl hee (by omega) wr
          have t3 := rturn_q xe 25 25 rfl hee (by omega) wr
          go_wp2_with fail
          refine wp_region_quiet_below (by kernel_rfl) (by kernel_rfl) ?_
          repeat (quiet_step (with_reducible (first | exact t1 _ _ | exact t2 _ _ | exact t3 _ _)))
          refine wpQuiet_nil ?_
          intro _ hw'
          obtain ⟨⟨dq, osq⟩, hw''⟩ := hw'
          obtain ⟨Wq, hWq⟩ : ∃ Wq, Wq = grow (redrawn wr dq) osq := ⟨_, rfl⟩
          have HNq : Hid (New wr Wq) := Lib.hid (by rw [hWq]; exact below_regrown _ dq osq)
          rw [hw'', ← hWq]
          clear hw'' hWq t1 t2 t3 kW kK
          obtain ⟨pv, hpv⟩ : ∃ pv, pv = cP (K t) (at_ ws t) ⟨xa, xb, xc, xd, xe, xf, xg, xh⟩ := ⟨_, rfl⟩
          have hpv2 : IntKind.u32.wrap (IntKind.u32.wrap (IntKind.u32.wrap (IntKind.u32.wrap (xh + bits BinOp.xor .u32 (bits BinOp.xor .u32 (rotr xe 6) (rotr xe 11)) (rotr xe 25)) + bits BinOp.xor .u32 (bits BinOp.and .u32 xe xf) (bits BinOp.and .u32 (bits BinOp.xor .u32 (if IntKind.u32.signed = true then -1 else IntKind.u32.max) xe) xg)) + K t) + at_ ws t) = pv := hpv.symm
          rw [hpv2]
          have HPV := Lib.hid hpv
          clear hpv hpv2
          go_wp2_with fail
          refine (rturn_any xa 2 Wq hea (by omega)).mono ?_
          rintro ee w5 ⟨rfl, rfl⟩
          go_wp2_with fail
          refine (rturn_any xa 13 Wq hea (by omega)).mono ?_
          rintro ee w5 ⟨rfl, rfl⟩
          go_wp2_with fail
          refine (rturn_any xa 22 Wq hea (by omega)).mono ?_
          rintro ee w5 ⟨rfl, rfl⟩
          have HB2n := Lib.hid (HNq.out.blk HB2.out)
          have HB4n := Lib.hid (HNq.out.blk HB4.out)
          have HB5n := Lib.hid (HNq.out.blk HB5.out)
          have HNn := Lib.hid (HN.out.tr HNq.out)
          go_wp2_with fail
          go_roundw
          case rel =>
            refine ⟨t + 1, _, _, _, _, _, _, _, _, by omega, by go_num, rfl, rfl, rfl, rfl, rfl, rfl, rfl, rfl, Lib.hid ?_, HNn, HB2n, HB4n, HB5n⟩
            show _ = cR (K t) (at_ ws t) (rnds K ws ⟨a, b, c, d, e, f, g, hz⟩ t)
            rw [← HX.out]
            have e1 : add32 pv (cQ ⟨xa, xb, xc, xd, xe, xf, xg, xh⟩) = (pv + (xor32 (xor32 (rotr xa 2) (rotr xa 13)) (rotr xa 22) + xor32 (xor32 (and32 xa xb) (and32 xa xc)) (and32 xb xc)) % 4294967296) % 4294967296 := by unfold cQ; rw [add_m, add_m]
            have e2 := add_m xd pv
            unfold cR
            rw [← HPV.out]
            dsimp only
            rw [e1, e2]
            rfl
          case measure => simp [intOf]; omega
        · have HT2 : Hid (t = 64) := Lib.hid (by omega)
          have hn64 : ¬ (t : Int) < 64 := by omega
          have c0 : wr.cell? ⟨b2, 0, none⟩ = some (.int .u32 a) := HB2.out.cell 0
          have c1 : wr.cell? ⟨b2, 1, none⟩ = some (.int .u32 b) := HB2.out.cell 1
          have c2 : wr.cell? ⟨b2, 2, none⟩ = some (.int .u32 c) := HB2.out.cell 2
          have c3 : wr.cell? ⟨b2, 3, none⟩ = some (.int .u32 d) := HB2.out.cell 3
          have c4 : wr.cell? ⟨b2, 4, none⟩ = some (.int .u32 e) := HB2.out.cell 4
          have c5 : wr.cell? ⟨b2, 5, none⟩ = some (.int .u32 f) := HB2.out.cell 5
          have c6 : wr.cell? ⟨b2, 6, none⟩ = some (.int .u32 g) := HB2.out.cell 6
          have c7 : wr.cell? ⟨b2, 7, none⟩ = some (.int .u32 hz) := HB2.out.cell 7
          have hsz0 : (u32A 8 []).size = 8 := u32A_size (by simp)
          go_wp2_with ((with_reducible refine atOp ⟨none, .store 134 (.tmp 4) _, _, _, _, _⟩ ?_); refine wpList_store_any rfl (.tmp 4) (.tmp 198) rfl rfl rfl rfl HB4.out hsz0 (by simp [Value.oneCell']) ?_; intro w8 hb8 hf8; have HB8 := Lib.hid hb8; have HF8 := Lib.hid hf8; clear hb8 hf8)
          have hfin : (compr ⟨a, b, c, d, e, f, g, hz⟩ s).arr = #[.int .u32 ((a + xa) % 4294967296), .int .u32 ((b + xb) % 4294967296), .int .u32 ((c + xc) % 4294967296), .int .u32 ((d + xd) % 4294967296), .int .u32 ((e + xe) % 4294967296), .int .u32 ((f + xf) % 4294967296), .int .u32 ((g + xg) % 4294967296), .int .u32 ((hz + xh) % 4294967296)] := by
            have hx := HX.out
            rw [HT2.out] at hx
            rw [HADW.out, ← hx]
            simp only [H8.add, H8.arr, add_m, Int.add_comm]
          rw [HRA.out, hfin]
          exact bodyPost_ret (v := .agg _) (results_rowA rfl _ _ b4 _ _ rfl HB8.out Tryd.underlying134 rfl rfl) rfl ⟨rfl, HN.out.fr HF8.out (fun k hk => by have := HZ.out; omega)⟩
end Go.Proofs.YteeclfejgpgooaaDoor
/- sha's reference: a text's hash. The constants and the initial values are cells of their globals. No condition else but the text's length. -/
namespace Go.Proofs.YteeclfejgpgooaaDoor
set_option linter.unusedVariables false
set_option linter.unusedSimpArgs false
set_option linter.constructorNameAsVariable false
open Go.RowKit Go.Sort

/-- The first i numbers of a list, noughts behind them. -/
def someOf (h : List Int) (i : Nat) : List Int := h.take i ++ List.replicate (h.length - i) 0
theorem someOf_0 (h : List Int) : someOf h 0 = List.replicate h.length 0 := by simp [someOf]
theorem someOf_all (h : List Int) : someOf h h.length = h := by simp [someOf]
theorem someOf_len {h : List Int} {i : Nat} (hi : i ≤ h.length) : (someOf h i).length = h.length := by simp [someOf]; omega
theorem someOf_set {h : List Int} {i : Nat} (hi : i < h.length) : (someOf h i).set i (at_ h i) = someOf h (i + 1) := by
  unfold someOf at_
  obtain ⟨m, hm⟩ : ∃ m, h.length - i = m + 1 := ⟨h.length - i - 1, by omega⟩
  have h2 : h.length - (i + 1) = m := by omega
  have hl : (h.take i).length = i := by rw [List.length_take]; omega
  rw [hm, h2, List.replicate_succ, List.set_append_right _ _ (by omega), hl, Nat.sub_self, List.set_cons_zero, List.getD_eq_getElem?_getD, List.getElem?_eq_getElem hi, List.take_succ_eq_append_getElem hi, List.append_assoc]
  rfl
theorem secA_set (s : List Int) (i : Nat) (v : Int) : (secA s).setIfInBounds i (.int .u8 v) = secA (s.set i v) := by
  unfold secA u8s
  rw [List.setIfInBounds_toArray, List.map_set]
/-- A state's bytes. -/
def hxL (x : H8) : List Int := x.list.flatMap fun y => beL 4 y.toNat
theorem hxL_len (x : H8) : (hxL x).length = 32 := rfl
theorem hxL_at (x : H8) {i : Nat} (h : i < 32) : at_ (hxL x) i = ((byteAt (at_ x.list (i / 4)).toNat (3 - i % 4) : Nat) : Int) := by
  rcases (by omega : i = 0 ∨ i = 1 ∨ i = 2 ∨ i = 3 ∨ i = 4 ∨ i = 5 ∨ i = 6 ∨ i = 7 ∨ i = 8 ∨ i = 9 ∨ i = 10 ∨ i = 11 ∨ i = 12 ∨ i = 13 ∨ i = 14 ∨ i = 15 ∨ i = 16 ∨ i = 17 ∨ i = 18 ∨ i = 19 ∨ i = 20 ∨ i = 21 ∨ i = 22 ∨ i = 23 ∨ i = 24 ∨ i = 25 ∨ i = 26 ∨ i = 27 ∨ i = 28 ∨ i = 29 ∨ i = 30 ∨ i = 31) with rfl | rfl | rfl | rfl | rfl | rfl | rfl | rfl | rfl | rfl | rfl | rfl | rfl | rfl | rfl | rfl | rfl | rfl | rfl | rfl | rfl | rfl | rfl | rfl | rfl | rfl | rfl | rfl | rfl | rfl | rfl | rfl <;> rfl
theorem shr_byte (n k : Nat) : IntKind.u8.wrap ((n : Int) / 2 ^ (8 * (k : Int)).toNat) = ((byteAt n k : Nat) : Int) := by
  rw [shr_int, u8_wrap]
  rfl
theorem shr_byte2 (n k : Nat) : (n : Int) / 2 ^ (8 * k) % 256 = ((byteAt n k : Nat) : Int) := by
  have h := shr_byte n k
  have e : (8 * (k : Int)).toNat = 8 * k := by omega
  rw [IntKind.wrap_u8, e] at h
  exact h
/-- The reference's tables as they were laid. -/
structure RShaIn (gk gi : Nat) (w : World) : Prop where
  k : ∀ t, t < 64 → w.cell? ⟨gk, t, none⟩ = some (.int .u32 (at_ kL t))
  i : w.rangeAt gi 0 iH.arr.toList
theorem RShaIn.new {gk gi : Nat} {w w' : World} (h : RShaIn gk gi w) (hN : New w w') : RShaIn gk gi w' := ⟨fun t ht => hN.cell_ (h.k t ht), fun j v hv => hN.cell_ (h.i j v hv)⟩
theorem RShaIn.lt {gk gi : Nat} {w : World} (h : RShaIn gk gi w) : gk < w.heap.size ∧ gi < w.heap.size := ⟨World.block_lt_of_cell? w _ (h.k 0 (by decide)), World.block_lt_of_cell? w _ (h.i 0 _ rfl)⟩
theorem RShaIn.fr {gk gi : Nat} {S : Nat → Prop} {w w' : World} (h : RShaIn gk gi w) (hF : Fr S w w') (h1 : ¬ S gk) (h2 : ¬ S gi) : RShaIn gk gi w' := ⟨fun t ht => hF.cell_some (h.k t ht) h1, fun j v hv => hF.cell_some (h.i j v hv) h2⟩
set_option maxHeartbeats 4000000 in
set_option maxRecDepth 100000 in
theorem rsum_any {q : Nat → Prop} (A : Option Addr) (n c : Nat) (xs : List Int) (w : World) (hL : RShaIn 1 0 w) (hR : Rd q w 1 A n (u8s xs)) (hb : Byt xs) (hn : n ≤ 500000000) :
    Calls Tryd.prog 61 #[.slice A n c] w fun e w' => e = .returned (.agg (secA (hsh xs))) ∧ New w w' := by
  have HL := Lib.hid hL
  have HPB := Lib.hid (padL_byt hb)
  have HP64 := Lib.hid (padL_len xs)
  have hxn : xs.length = n := by have := hR.1; rw [u8s_len] at this; omega
  have hpl : (padL xs).length ≤ n + 80 ∧ 64 ≤ (padL xs).length := by
    have h1 := padL_len xs
    have h2 := (zN_mod xs.length).2
    rw [padL_eq, List.length_append, padZ_len, beL_len] at h1 ⊢
    omega
  have HH : Hid (hsh xs = hxL (comprN (padL xs) ((padL xs).length / 64))) := Lib.hid rfl
  obtain ⟨RA, hRA⟩ : ∃ RA, RA = secA (hsh xs) := ⟨_, rfl⟩
  rw [← hRA]
  have HRA := Lib.hid hRA
  have HPAD := Lib.hid (fun W (hN : New w W) => rpad_any A n c xs W (hN.rd hR) (by omega))
  obtain ⟨p, hp⟩ : ∃ p, p = padL xs := ⟨_, rfl⟩
  rw [← hp] at HPB HP64 HH HPAD hpl
  obtain ⟨N, hN⟩ : ∃ N, N = p.length := ⟨_, rfl⟩
  rw [← hN] at HP64 HH HPAD hpl
  have HNL := Lib.hid hN
  clear hL hR hb hxn hp hN hRA
  go_enter Tryd.func61, Tryd.ntmps61
  go_upto_region 1 with fail
  obtain ⟨w1, hw1⟩ : ∃ w1 : World, w1 = w.alloc (.cells #[.int .u8 0, .int .u8 0, .int .u8 0, .int .u8 0, .int .u8 0, .int .u8 0, .int .u8 0, .int .u8 0, .int .u8 0, .int .u8 0, .int .u8 0, .int .u8 0, .int .u8 0, .int .u8 0, .int .u8 0, .int .u8 0, .int .u8 0, .int .u8 0, .int .u8 0, .int .u8 0, .int .u8 0, .int .u8 0, .int .u8 0, .int .u8 0, .int .u8 0, .int .u8 0, .int .u8 0, .int .u8 0, .int .u8 0, .int .u8 0, .int .u8 0, .int .u8 0] 122) := ⟨_, rfl⟩
  obtain ⟨b2, hb2⟩ : ∃ b2, b2 = w.heap.size := ⟨_, rfl⟩
  have hz : (#[.int .u8 0, .int .u8 0, .int .u8 0, .int .u8 0, .int .u8 0, .int .u8 0, .int .u8 0, .int .u8 0, .int .u8 0, .int .u8 0, .int .u8 0, .int .u8 0, .int .u8 0, .int .u8 0, .int .u8 0, .int .u8 0, .int .u8 0, .int .u8 0, .int .u8 0, .int .u8 0, .int .u8 0, .int .u8 0, .int .u8 0, .int .u8 0, .int .u8 0, .int .u8 0, .int .u8 0, .int .u8 0, .int .u8 0, .int .u8 0, .int .u8 0, .int .u8 0] : Array Value) = secA (List.replicate 32 0) := by rfl
  have HN1 : Hid (New w w1) := Lib.hid (by rw [hw1]; exact New.al (New.refl _) _)
  have HB2 : Hid (Blk w1 b2 122 (secA (List.replicate 32 0))) := Lib.hid (by rw [hw1, hb2, ← hz]; exact Blk.new _ _ _)
  have HZ := Lib.hid hb2
  rw [← hw1, ← hb2]
  clear hw1 hb2 hz
  go_wp2_with fail
  refine (HPAD.out w1 HN1.out).mono ?_
  rintro e w2 ⟨⟨A1, d1, rfl, hO⟩, hN2⟩
  obtain ⟨g, cap, hv, hNc, hcm⟩ := own_form hO (by omega)
  injection hv with hv1 hv2 hv3
  subst hv1 hv3
  have HO := Lib.hid hO
  have HN2 := Lib.hid hN2
  clear hO hN2 hv2 HPAD
  go_wp2_with ((with_reducible refine atOp ⟨some 10, .load _ _, _, _, _, _⟩ ?_); refine wpList_load_range rfl _ rfl rfl (((HL.out.new HN1.out).new HN2.out).i) Tryd.underlying134 rfl rfl ?_; dsimp only [iH, H8.arr])
  obtain ⟨w3, hw3⟩ : ∃ w3 : World, w3 = w2.alloc (.cells #[.int .u32 1779033703, .int .u32 3144134277, .int .u32 1013904242, .int .u32 2773480762, .int .u32 1359893119, .int .u32 2600822924, .int .u32 528734635, .int .u32 1541459225] 134) := ⟨_, rfl⟩
  obtain ⟨b4, hb4⟩ : ∃ b4, b4 = w2.heap.size := ⟨_, rfl⟩
  have HN3 : Hid (New w2 w3) := Lib.hid (by rw [hw3]; exact New.al (New.refl _) _)
  have HB4 : Hid (Blk w3 b4 134 (comprN p 0).arr) := Lib.hid (by rw [hw3, hb4]; exact Blk.new _ _ _)
  have HB23 : Hid (Blk w3 b2 122 (secA (List.replicate 32 0))) := Lib.hid (HN3.out.blk (HN2.out.blk HB2.out))
  have HLT : Hid (b4 = w2.heap.size ∧ g < w2.heap.size ∧ b2 < w2.heap.size ∧ g ≠ b4) := Lib.hid ⟨hb4, (own_lt HO.out g rfl).2, (HN2.out.blk HB2.out).lt, by have := (own_lt HO.out g rfl).2; omega⟩
  have HDATA : Hid (∀ j v, (u8s p)[j]? = some v → w3.cell? ⟨g, j, none⟩ = some v) := Lib.hid fun j v hj => by
    obtain ⟨g', o', he, -, -, hc⟩ := (Rd.own HO.out rfl).out (by omega) (by omega)
    injection he with he
    injection he with e1 e2
    subst e1 e2
    have := hc j v hj
    rw [Nat.zero_add] at this
    exact HN3.out.cell_ this
  have HN3w : Hid (New w w3) := Lib.hid ((HN1.out.tr HN2.out).tr HN3.out)
  rw [← hw3, ← hb4]
  clear hw3 hb4 HB2
  have HF0 : Hid (Fr (fun j => j = b4 ∨ w3.heap.size ≤ j) w3 w3) := Lib.hid (Fr.refl _ _)
  go_loopw [5] (fun i wr => ∃ (k i0 : Nat), k ≤ N / 64 ∧ Hid (i0 = 64 * k) ∧ i0 ≤ N ∧ i = .int .i64 i0 ∧ Hid (Fr (fun j => j = b4 ∨ w3.heap.size ≤ j) w3 wr) ∧ Hid (Blk wr b4 134 (comprN p k).arr)) (fun i _ => N - (intOf i).toNat)
  case atStart => exact ⟨0, 0, Nat.zero_le _, Lib.hid rfl, Nat.zero_le _, rfl, HF0, HB4⟩
  case round =>
    clear HF0 HB4
    obtain ⟨k, i, hk, HI, hi, rfl, HF, HB4⟩ := hrel
    by_cases hlt : i < N
    · have hk1 : i + 64 ≤ N := by have := HP64.out; have := HI.out; omega
      have hkk : k + 1 ≤ N / 64 := by have := HP64.out; have := HI.out; omega
      obtain ⟨j, hj⟩ : ∃ j, j = i + 64 := ⟨_, rfl⟩
      have e1 : (i : Int) + 64 = (j : Int) := by omega
      have w1' : IntKind.i64.wrap (j : Int) = (j : Int) := IntWalk.i64_in _ (by omega)
      have hji : j - i = 64 := by omega
      have hij : i ≤ j := by omega
      have hjc : j ≤ d1 := by omega
      have hjN : j ≤ N := by omega
      have hi0 : (0 : Int) ≤ (i : Int) := by omega
      have hci : ¬ d1 = i := by omega
      have HJ : Hid (j = 64 * (k + 1)) := Lib.hid (by have := HI.out; omega)
      obtain ⟨st, hst⟩ : ∃ st, st = comprN p k := ⟨_, rfl⟩
      rw [← hst] at HB4
      obtain ⟨bl, hbl⟩ : ∃ bl, bl = (p.drop (64 * k)).take 64 := ⟨_, rfl⟩
      have HST : Hid (comprN p (k + 1) = compr st bl) := Lib.hid (by rw [hst, hbl]; rfl)
      have hbl64 : bl.length = 64 := by rw [hbl, List.length_take, List.length_drop]; have := HI.out; have := HNL.out; omega
      have HBB : Hid (Byt bl) := Lib.hid (by
        rw [hbl]
        intro x hx
        exact HPB.out x (List.mem_of_mem_drop (List.mem_of_mem_take hx)))
      have HRG : Hid (∀ W', New wr W' → Rd (fun b => b < W'.heap.size) W' 1 (some ⟨g, i, none⟩) 64 (u8s bl)) := Lib.hid fun W' hN => by
        refine ⟨by rw [u8s_len, hbl64], fun _ => ⟨_, rfl, ?_, ?_, fun j v hj => ?_⟩⟩
        · have := HLT.out; have := HN3.out.size; have := HF.out.size; have := hN.size; show g < W'.heap.size; omega
        · have := HLT.out; have := HN3.out.size; have := HF.out.size; have := hN.size; show g < W'.heap.size; omega
        · have hj' : j < 64 := by
            have := (List.getElem?_eq_some_iff.1 hj).1
            rwa [u8s_len, hbl64] at this
          have h1 : (u8s p)[i + j]? = some v := by
            rw [← hj, hbl]
            unfold u8s
            rw [List.getElem?_map, List.getElem?_map, List.getElem?_take_of_lt hj', List.getElem?_drop, HI.out]
          have h2 := HDATA.out _ v h1
          have h3 : (⟨g, i, none⟩ : Addr).add j = ⟨g, i + j, none⟩ := by
            unfold Addr.add
            by_cases hj0 : j = 0 <;> simp [hj0]
          rw [h3]
          exact hN.cell_ (HF.out.cell_some h2 (fun hs => by
            have hs' : g = b4 ∨ w3.heap.size ≤ g := hs
            have := HLT.out
            have := HN3.out.size
            omega))
      have HSOK : Hid st.Ok := Lib.hid (by rw [hst]; exact comprN_ok p k)
      have HSH : Hid (∀ W', New wr W' → ∀ t, t < 64 → W'.cell? ⟨1, t, none⟩ = some (.int .u32 (at_ kL t))) := Lib.hid fun W' hN t ht => hN.cell_ (HF.out.cell_some (HN3w.out.cell_ (HL.out.k t ht)) (fun hs => by
        have hs' : 1 = b4 ∨ w3.heap.size ≤ 1 := hs
        have h1 := HL.out.lt
        have h2 := HN3w.out.size
        have h3 := HN1.out.size
        have h4 := HN2.out.size
        have h5 := HLT.out
        omega))
      clear hst hbl hbl64 hj
      go_wp2_with fail
      refine wp_region_mix (New wr) 7 [(true, 0), (true, 1), (true, 2), (true, 3), (true, 4), (true, 5), (false, 6), (false, 7)] (by kernel_rfl) (by kernel_rfl) (New.dr (New.refl wr)) (fun hne => ?_)
      refine mix_take_row (o := ⟨_, _, _, _, _, _⟩) rfl rfl (.tmp 4) rfl rfl (fun W' hN => (hN.blk HB4.out).rangeOf) Tryd.underlying134 rfl rfl ?_
      simp only [Act.put, List.setIfInBounds_toArray, List.set_cons_zero, List.set_cons_succ]
      iterate 5 (refine mix_take (o := ⟨_, _, _, _, _, _⟩) rfl (fun K hK => ?_); go_simp; refine hK _ ?_; clear hK K)
      refine mix_act (o := ⟨_, _, _, _, _, _⟩) rfl (fun K hK => ?_) (.inl rfl)
      go_simp
      have hcp := rcompress_any st (some ⟨g, i, none⟩) (d1 - i) bl wr.drew (HSH.out _ (New.dr (New.refl wr))) HSOK.out (HRG.out _ (New.dr (New.refl wr))) HBB.out
      refine hcp.mono ?_
      rintro e w4 ⟨rfl, hN4⟩
      have HN4 : Hid (New wr w4) := Lib.hid (New.tr (New.dr (New.refl wr)) hN4)
      clear hcp hN4
      go_simp
      refine hK.out _ _ (fun _ => HN4.out) ?_
      clear hK K
      refine mix_act (o := ⟨_, _, _, _, _, _⟩) rfl (fun K hK => ?_) (.inl rfl)
      refine step_store_any (cs := (compr st bl).arr) rfl (.tmp 4) (.tmp 23) rfl rfl rfl rfl (HN4.out.blk HB4.out) rfl (by simp [H8.arr, Value.oneCell']) ?_
      intro w5 hB5 hF5
      simp only [Act.put, List.setIfInBounds_toArray, List.set_cons_zero, List.set_cons_succ]
      refine hK.out _ _ (fun h => absurd rfl h) ?_
      have HB5 : Hid (Blk w5 b4 134 (comprN p (k + 1)).arr) := Lib.hid (by rw [HST.out]; exact hB5)
      have HF5 : Hid (Fr (fun j => j = b4 ∨ w3.heap.size ≤ j) w3 w5) := Lib.hid ((HF.out.trans (HN4.out.toFr _)).trans (hF5.mono (fun k _ hs => .inl hs)))
      clear hK K hne hB5 hF5
      refine mix_done ?_
      go_wp2_with fail
      go_roundw
      case rel => exact ⟨k + 1, j, hkk, HJ, hjN, rfl, HF5, HB5⟩
      case measure => simp [intOf]; omega
    · have hiN : i = N := by omega
      have hk2 : k = N / 64 := by have := HI.out; omega
      subst hiN
      obtain ⟨x, hx⟩ : ∃ x, x = comprN p k := ⟨_, rfl⟩
      rw [← hx] at HB4
      have HXOK : Hid x.Ok := Lib.hid (by rw [hx]; exact comprN_ok _ _)
      have HHX : Hid (hsh xs = hxL x) := Lib.hid (by rw [HH.out, hx, ← hk2])
      have HNW : Hid (New w wr) := Lib.hid (HN3w.out.fr HF.out (fun k hs => by
        have hs' : k = b4 ∨ w3.heap.size ≤ k := hs
        have h2 := HLT.out
        have h1 := HN1.out.size
        have h3 := HN2.out.size
        have h4 := HN3.out.size
        omega))
      have HB2W : Hid (Blk wr b2 122 (secA (List.replicate 32 0))) := Lib.hid (HB23.out.fr HF.out (fun hs => by
        have hs' : b2 = b4 ∨ w3.heap.size ≤ b2 := hs
        have h2 := HLT.out
        have h4 := HN3.out.size
        omega))
      have HLT4 : Hid (b4 < wr.heap.size ∧ b2 < wr.heap.size ∧ w.heap.size ≤ b4) := Lib.hid ⟨HB4.out.lt, HB2W.out.lt, by have := HLT.out; have := HN1.out.size; have := HN2.out.size; omega⟩
      clear hx hk2 HF HDATA HB23 HI hk hi
      obtain ⟨wo, hwo⟩ : ∃ wo : World, wo = wr := ⟨_, rfl⟩
      rw [← hwo] at HB4 HNW HB2W HLT4 ⊢
      clear hwo
      go_wp2_with fail
      obtain ⟨W1, hW1⟩ : ∃ W1 : World, W1 = wo.alloc (.cells #[.int .u8 0, .int .u8 0, .int .u8 0, .int .u8 0, .int .u8 0, .int .u8 0, .int .u8 0, .int .u8 0, .int .u8 0, .int .u8 0, .int .u8 0, .int .u8 0, .int .u8 0, .int .u8 0, .int .u8 0, .int .u8 0, .int .u8 0, .int .u8 0, .int .u8 0, .int .u8 0, .int .u8 0, .int .u8 0, .int .u8 0, .int .u8 0, .int .u8 0, .int .u8 0, .int .u8 0, .int .u8 0, .int .u8 0, .int .u8 0, .int .u8 0, .int .u8 0] 122) := ⟨_, rfl⟩
      obtain ⟨b6, hb6⟩ : ∃ b6, b6 = wo.heap.size := ⟨_, rfl⟩
      have hz : (#[.int .u8 0, .int .u8 0, .int .u8 0, .int .u8 0, .int .u8 0, .int .u8 0, .int .u8 0, .int .u8 0, .int .u8 0, .int .u8 0, .int .u8 0, .int .u8 0, .int .u8 0, .int .u8 0, .int .u8 0, .int .u8 0, .int .u8 0, .int .u8 0, .int .u8 0, .int .u8 0, .int .u8 0, .int .u8 0, .int .u8 0, .int .u8 0, .int .u8 0, .int .u8 0, .int .u8 0, .int .u8 0, .int .u8 0, .int .u8 0, .int .u8 0, .int .u8 0] : Array Value) = secA (someOf (hxL x) 0) := by rfl
      have HN6 : Hid (New w W1) := Lib.hid (by rw [hW1]; exact New.al HNW.out _)
      have HB6 : Hid (Blk W1 b6 122 (secA (someOf (hxL x) 0))) := Lib.hid (by rw [hW1, hb6, ← hz]; exact Blk.new _ _ _)
      have HB26 : Hid (Blk W1 b2 122 (secA (List.replicate 32 0))) := Lib.hid (by rw [hW1]; exact HB2W.out.alloc _)
      have HB46 : Hid (Blk W1 b4 134 x.arr) := Lib.hid (by rw [hW1]; exact HB4.out.alloc _)
      have HZ6 : Hid (w.heap.size ≤ b6 ∧ b2 ≠ b6 ∧ b4 ≠ b6 ∧ w.heap.size ≤ b2) := Lib.hid ⟨by rw [hb6]; exact HNW.out.size, by have := HLT4.out; omega, by have := HLT4.out; omega, by have := HZ.out; omega⟩
      rw [← hW1, ← hb6]
      clear hW1 hb6 hz HNW HB2W HB4 HLT4
      go_loopw [7] (fun i wr => ∃ (k : Nat), k ≤ 32 ∧ i = .int .i64 k ∧ Hid (New w wr) ∧ Hid (Blk wr b6 122 (secA (someOf (hxL x) k))) ∧ Hid (Blk wr b2 122 (secA (List.replicate 32 0))) ∧ Hid (Blk wr b4 134 x.arr)) (fun i _ => 32 - (intOf i).toNat)
      case atStart => exact ⟨0, Nat.zero_le _, rfl, HN6, HB6, HB26, HB46⟩
      case round =>
        clear HN6 HB6 HB26 HB46
        obtain ⟨k, hk, rfl, HN, HB6, HB2, HB4⟩ := hrel
        by_cases hlk : k < 32
        · have hk0 : (0 : Int) ≤ (k : Int) := by omega
          have hk32 : (k : Int) < 32 := by omega
          obtain ⟨r, hr⟩ : ∃ r, r = k / 4 := ⟨_, rfl⟩
          obtain ⟨m, hm⟩ : ∃ m, m = 3 - k % 4 := ⟨_, rfl⟩
          have e1 : (k : Int) / 4 = (r : Int) := by omega
          obtain ⟨r4, hr4⟩ : ∃ r4, r4 = k % 4 := ⟨_, rfl⟩
          have e2 : (k : Int) % 4 = (r4 : Int) := by omega
          have e3 : (24 : Int) - 8 * (r4 : Int) = 8 * (m : Int) := by omega
          have hr8 : (r : Int) < 8 := by omega
          have hm4 : (m : Int) < 4 := by omega
          have hr44 : (r4 : Int) < 4 := by omega
          obtain ⟨yn, hyn⟩ : ∃ yn, yn = (at_ x.list r).toNat := ⟨_, rfl⟩
          have hyb := H8.ok_b HXOK.out r
          have hy : at_ x.list r = (yn : Int) := by omega
          have c4 : wr.cell? ⟨b4, r, none⟩ = some (.int .u32 (yn : Int)) := by
            rw [← hy, HB4.out.cell r, H8.arr_list]
            exact u32A_get (by show r < 8; omega)
          have HV : Hid (at_ (hxL x) k = ((byteAt yn m : Nat) : Int)) := Lib.hid (by rw [hxL_at x hlk, ← hr, ← hm, hyn])
          have c6 : ∃ u, wr.cell? ⟨b6, k, none⟩ = some u := by
            rw [HB6.out.cell k, secA_get (by rw [someOf_len (by rw [hxL_len]; omega), hxL_len]; exact hlk)]
            exact ⟨_, rfl⟩
          obtain ⟨u6, c6⟩ := c6
          have f6 : wr.frozen? ⟨b6, k, none⟩ = false := HB6.out.frozen k
          have hyb2 : (yn : Int) < 4294967296 := by omega
          have hyb0 : 0 ≤ (yn : Int) := by omega
          have HSB : Hid ((yn : Int) / 2 ^ (8 * m) % 256 = at_ (hxL x) k) := Lib.hid (by rw [HV.out]; exact shr_byte2 yn m)
          clear hr hm hr4 hyn hy hyb
          go_wp2_with fail
          rw [HSB.out]
          have HB68 : Hid (Blk (wr.setCell ⟨b6, k, none⟩ (.int .u8 (at_ (hxL x) k))) b6 122 (secA (someOf (hxL x) (k + 1)))) := Lib.hid (by
            have := HB6.out.set k (.int .u8 (at_ (hxL x) k))
            rw [secA_set, someOf_set (by rw [hxL_len]; exact hlk)] at this
            exact this)
          have HF8 : Hid (Fr (fun j => j = b6) wr (wr.setCell ⟨b6, k, none⟩ (.int .u8 (at_ (hxL x) k)))) := Lib.hid ((Fr.refl (fun j => j = b6) wr).setCell (p := ⟨b6, k, none⟩) (fun _ => rfl) _)
          have HN8 : Hid (New w (wr.setCell ⟨b6, k, none⟩ (.int .u8 (at_ (hxL x) k)))) := Lib.hid (HN.out.fr HF8.out (fun j hj => by have := HZ6.out; omega))
          have HB28 : Hid (Blk (wr.setCell ⟨b6, k, none⟩ (.int .u8 (at_ (hxL x) k))) b2 122 (secA (List.replicate 32 0))) := Lib.hid (HB2.out.fr HF8.out (by have := HZ6.out; omega))
          have HB48 : Hid (Blk (wr.setCell ⟨b6, k, none⟩ (.int .u8 (at_ (hxL x) k))) b4 134 x.arr) := Lib.hid (HB4.out.fr HF8.out (by have := HZ6.out; omega))
          go_roundw
          case rel => exact ⟨k + 1, by omega, by go_num, HN8, HB68, HB28, HB48⟩
          case measure => simp [intOf]; omega
        · obtain rfl : k = 32 := by omega
          have hn32 : ¬ ((32 : Nat) : Int) < 32 := by omega
          have hsz : (secA (hxL x)).size = 32 := by rw [secA_size, hxL_len]
          have HSZ := Lib.hid hsz
          have HBF : Hid (Blk wr b6 122 (secA (hxL x))) := Lib.hid (by
            have h := HB6.out
            have e : someOf (hxL x) 32 = hxL x := someOf_all (hxL x)
            rw [e] at h
            exact h)
          clear hsz HB6
          go_wp2_with (first
            | ((with_reducible refine atOp ⟨some 41, .load _ _, _, _, _, _⟩ ?_); refine wpList_load_any rfl _ rfl Tryd.underlying122 rfl (by rw [HSZ.out]; rfl) rfl HBF.out ?_)
            | ((with_reducible refine atOp ⟨none, .store 122 (.tmp 2) _, _, _, _, _⟩ ?_); refine wpList_store_any rfl (.tmp 2) (.tmp 41) rfl (by rw [HSZ.out]; rfl) rfl rfl HB2.out (by rw [HSZ.out, secA_size, List.length_replicate]) (secA_one _) ?_; intro w8 hb8 hf8; have HB8 := Lib.hid hb8; have HF8 := Lib.hid hf8; clear hb8 hf8))
          rw [HRA.out, HHX.out]
          exact bodyPost_ret (v := .agg (secA (hxL x))) (results_rowA rfl _ _ b2 _ _ rfl HB8.out Tryd.underlying122 rfl (by rw [HSZ.out]; rfl)) rfl ⟨rfl, HN.out.fr HF8.out (fun j hj => by have := HZ6.out; omega)⟩
end Go.Proofs.YteeclfejgpgooaaDoor
