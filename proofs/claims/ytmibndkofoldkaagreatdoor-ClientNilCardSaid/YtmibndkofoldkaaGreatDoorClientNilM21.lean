/- Texts of one proof, one behind the other: KyA, KyB, CwA, RcP, RcA, RcB. No condition but each one's own. -/
import Derived.Test.YtmibndkofoldkaaGreatDoorClientNilM19
import Derived.Test.YtmibndkofoldkaaGreatDoorClientNilM20
import Derived.Laws.IdiomStrings
import Derived.Laws.BytesArg
import Derived.Test.YtmibndkofoldkaaGreatDoorClientNilM16
import Derived.Test.YtmibndkofoldkaaGreatDoorClientNilM2
import Derived.Test.YtmibndkofoldkaaGreatDoorClientNilM1
import Derived.Test.YtmibndkofoldkaaGreatDoorClientNilM18
import Derived.Test.YtmibndkofoldkaaGreatDoorClientNilM15
import Derived.Test.YtmibndkofoldkaaGreatDoorClientNilM14
import Derived.Test.YtmibndkofoldkaaGreatDoorClientNilM6
import Derived.Test.YtmibndkofoldkaaGreatDoorClientNilM3
import Derived.Test.YtmibndkofoldkaaGreatDoorClientNilM4
import Derived.Lib.SlBytesConst
import Derived.Test.YtmibndkofoldkaaGreatDoorClientNilM10
namespace Go.Proofs.YtmibndkofoldkaaGreatDoor
set_option linter.unusedVariables false
set_option linter.unusedSimpArgs false
set_option linter.constructorNameAsVariable false
open Go.RowKit Go.Maps Go.Sort
theorem conv_lab (xs : List Int) (hb : Byt xs) (w : World) : ∃ (c : Nat) (w' : World), (convert 9 84 (.string (strOfNums xs))).run Tryz.prog w = .ok (.slice (some ⟨w.heap.size, 0, none⟩) xs.length c) w' ∧ New w w' ∧ Rd (fun _ => True) w' 1 (some ⟨w.heap.size, 0, none⟩) xs.length (u8s xs) := by
 have h := Go.run_bytes_of_string (P := Tryz.prog) w 9 84 5 (strOfNums xs) Tryz.underlying9 Tryz.underlying84 Tryz.underlying5
 rw [strOfNums_size] at h
 refine ⟨_, _, h, New.al (New.dr (New.refl w)) _, u8s_len xs ▸ by omega, fun _ => ⟨_, rfl, trivial, by simp, fun j u hu => ?_⟩⟩
 have hj : j < xs.length := by
  have := (List.getElem?_eq_some_iff.1 hu).1
  rwa [u8s_len] at this
 have hx := hb _ (List.getElem_mem hj)
 have hu' : u = .int .u8 xs[j] := by
  unfold u8s at hu
  rw [List.getElem?_map, List.getElem?_eq_getElem hj] at hu
  simpa using hu.symm
 subst hu'
 have hd : (strOfNums xs).data[j]? = some (UInt8.ofNat xs[j].toNat) := by
  have h1 : (strOfNums xs).data.toList = xs.map (fun x => UInt8.ofNat x.toNat) := by simp [strOfNums]
  have h2 : (strOfNums xs).data.toList[j]? = some (UInt8.ofNat xs[j].toNat) := by
   rw [h1, List.getElem?_map, List.getElem?_eq_getElem hj]
   rfl
  rwa [Array.getElem?_toList] at h2
 have hds : j < (strOfNums xs).data.size := (Array.getElem?_eq_some_iff.1 hd).1
 have hcs : (bytesRow (strOfNums xs) (grownCap w xs.length 0 5))[j]? = some (.int .u8 xs[j]) := by
  unfold bytesRow
  rw [Array.getElem?_append_left (by simpa using hds), Array.getElem?_map, hd]
  have : ((UInt8.ofNat xs[j].toNat).toNat : Int) = xs[j] := by
   rw [UInt8.toNat_ofNat']
   omega
  simp only [Option.map_some, this]
 generalize bytesRow (strOfNums xs) (grownCap w xs.length 0 5) = cs at hcs
 have hW : (w.drew.alloc (.cells cs 5 (cs.size, cs.size + 1))).heap[w.heap.size]? = some (.cells cs 5 (cs.size, cs.size + 1)) := by
  show (w.heap.push _)[w.heap.size]? = _
  simp
 rw [add_own]
 simp only [World.cell?, hW]
 simpa using hcs
theorem parts1 {w : World} {b T1 : Nat} {A : Option Addr} {n d : Nat} {xs : List Int} {q : Nat → Prop} (hB : Blk w b T1 #[.slice A n d]) (hn : xs.length = n) (hc : Byt xs) (hR : Rd q w 1 A n (u8s xs)) : Parts w b 0 [xs] := ⟨fun i l hl => by
 match i, hl with
 | 0, hl =>
  obtain rfl : xs = l := by simpa using hl
  subst hn
  exact ⟨hc, A, d, hB.cell 0, hR.imp (fun _ _ => trivial)⟩
 | (i + 1), hl => simp at hl⟩
set_option maxHeartbeats 2000000 in
set_option maxRecDepth 100000 in
theorem label_any (key xs : List Int) (s : ByteArray) (hs : strOfNums xs = s) (w : World) (hL : ShaIn 3 1 w) (hk : key.length = 16 ∧ Byt key) (hx : Byt xs) (h1 : 1 ≤ xs.length ∧ xs.length ≤ 100) :
    Calls Tryz.prog 110 #[.agg (secA key), .string s] w fun e w' => e = .returned (.agg (secA (macL key xs))) ∧ New w w' := by
 subst hs
 have HL := Lib.hid hL
 have HK := Lib.hid hk
 have HX := Lib.hid (And.intro hx h1)
 have HCV := Lib.hid (fun W => conv_lab xs hx W)
 obtain ⟨st, hst⟩ := nm (strOfNums xs)
 rw [← hst] at HCV ⊢
 obtain ⟨ML, hML⟩ := nm (macL key xs)
 have HM32 : Hid ((secA ML).size = 32) := Lib.hid (by rw [hML, secA_size, macL_len])
 have HML : Hid (macL key [xs].flatten = ML) := Lib.hid (by rw [hML]; simp)
 rw [← hML]
 obtain ⟨KA, hKA⟩ := nm (secA key)
 have HKA := Lib.hid hKA
 rw [← hKA]
 clear hL hk hx h1 hst hML hKA
 go_enter Tryz.func110, Tryz.ntmps110
 go_upto_region 1 with ((with_reducible refine atOp ⟨some 4, .alloc _, _, _, _, _⟩ ?_); refine wpList_alloc_row rfl rfl hashInfoR ?_; intro b4 w1 hb hB hN; have HB4 := Lib.hid hB; have HN1 := Lib.hid hN; have HZ4 := Lib.hid hb; clear hb hB hN)
 have HR2 : Hid (Rd (fun _ => True) w1 1 (some ⟨w.heap.size, 0, none⟩) 16 (u8s key)) := Lib.hid (HN1.out.rd (by
  have h := rd_sec (T := 23) (xs := key) (n := 16) (k := 16) (w := w.alloc (.cells KA 23)) (g := w.heap.size) (by rw [HKA.out]; exact Blk.new _ _ _) HK.out.1 (Nat.le_refl _)
  rwa [List.take_of_length_le (by rw [HK.out.1]; exact Nat.le_refl _)] at h))
 have HN1' : Hid (New w w1) := Lib.hid ((New.al (New.refl w) _).tr HN1.out)
 have HZ : Hid (w.heap.size ≤ b4) := Lib.hid (by have := HZ4.out; simp at this; omega)
 obtain ⟨b2, hb2⟩ := nm w.heap.size
 rw [← hb2] at HR2
 rw [← hb2]
 have HZb := Lib.hid hb2
 clear hb2 HN1 HZ4
 obtain ⟨c7, w2, hrun, hN2, hR7⟩ := HCV.out w1
 obtain ⟨b7, hb7⟩ := nm w1.heap.size
 rw [← hb7] at hrun hR7
 have HN2 : Hid (New w w2) := Lib.hid (HN1'.out.tr hN2)
 have HR7 := Lib.hid hR7
 have HB42 : Hid (Blk w2 b4 60 (secA (List.replicate 32 0))) := Lib.hid (hN2.blk HB4.out)
 have HR22 : Hid (Rd (fun _ => True) w2 1 (some ⟨b2, 0, none⟩) 16 (u8s key)) := Lib.hid (hN2.rd HR2.out)
 clear hN2 hR7 hb7 HB4 HR2
 go_wp2_with fail
 obtain ⟨bp, hbp⟩ := nm w2.heap.size
 refine calls_world fun w3 hw3 => ?_
 have hN3 : New w2 w3 := by rw [hw3.out]; exact New.al (New.refl _) _
 have HN3 : Hid (New w w3) := Lib.hid (HN2.out.tr hN3)
 have HP : Hid (Parts w3 bp 0 [xs]) := Lib.hid (parts1 (by rw [hw3.out, hbp]; exact Blk.new _ _ _) rfl HX.out.1 (hN3.rd HR7.out))
 have HB43 : Hid (Blk w3 b4 60 (secA (List.replicate 32 0))) := Lib.hid (hN3.blk HB42.out)
 have HR23 : Hid (Rd (fun _ => True) w3 1 (some ⟨b2, 0, none⟩) 16 (u8s key)) := Lib.hid (hN3.rd HR22.out)
 rw [← hbp]
 clear hbp hN3 HB42 HR22 HR7
 have hfl : [xs].flatten.length = xs.length := by simp
 have hx2 := HX.out.2
 refine (mac_any (some ⟨b2, 0, none⟩) 16 16 key bp 0 1 1 [xs] w3 (HL.out.new HN3.out) HR23.out HK.out.2 (by decide) rfl (by simp) (fun _ => by rw [hfl]; exact hx2.1) HP.out (by simp) (by rw [hfl]; omega) (by simp)).mono ?_
 rintro e w4 ⟨rfl, hN4⟩
 rw [HML.out]
 have HN4 : Hid (New w w4) := Lib.hid (HN3.out.tr hN4)
 have HB44 : Hid (Blk w4 b4 60 (secA (List.replicate 32 0))) := Lib.hid (hN4.blk HB43.out)
 clear hN4 hfl hx2 HB43
 go_wp2_with ((with_reducible refine atOp ⟨none, .store 60 (.tmp 4) _, _, _, _, _⟩ ?_); refine wpList_store_any rfl (.tmp 4) (.tmp 9) rfl (by rw [HM32.out]; rfl) rfl rfl HB44.out (by rw [HM32.out]; rfl) (secA_one _) ?_; intro w8 hb8 hf8; have HB8 := Lib.hid hb8; have HF8 := Lib.hid hf8; clear hb8 hf8)
 exact bodyPost_ret (v := .agg (secA ML)) (results_rowA rfl _ _ b4 _ _ rfl HB8.out Tryz.underlying60 rfl (by rw [HM32.out]; rfl)) rfl ⟨rfl, HN4.out.fr HF8.out (fun k hk => by have := HZ.out; have := HZb.out; omega)⟩
set_option maxHeartbeats 2000000 in
set_option maxRecDepth 100000 in
theorem session_any (link : List Int) (n : Nat) (w : World) (hL : ShaIn 3 1 w) (hk : link.length = 32 ∧ Byt link) (hn : n < 18446744073709551616) :
    Calls Tryz.prog 88 #[.agg (secA link), .int .u64 n] w fun e w' => e = .returned (.agg (secA (sesK link n))) ∧ New w w' := by
 have HL := Lib.hid hL
 have HK := Lib.hid hk
 have HNN := Lib.hid hn
 obtain ⟨ML, hML⟩ := nm (sesK link n)
 have HM32 : Hid ((secA ML).size = 32) := Lib.hid (by rw [hML, secA_size, sesK_len])
 have HML : Hid (macL link [beL 8 n].flatten = ML) := Lib.hid (by rw [hML]; simp [sesK])
 rw [← hML]
 obtain ⟨KA, hKA⟩ := nm (secA link)
 have HKA := Lib.hid hKA
 rw [← hKA]
 clear hL hk hML hKA hn
 go_enter Tryz.func88, Tryz.ntmps88
 go_upto_region 1 with ((with_reducible refine atOp ⟨some 4, .alloc _, _, _, _, _⟩ ?_); refine wpList_alloc_row rfl rfl hashInfoR ?_; intro b4 w1 hb hB hN; have HB4 := Lib.hid hB; have HN1 := Lib.hid hN; have HZ4 := Lib.hid hb; clear hb hB hN)
 have HR2 : Hid (Blk w1 w.heap.size 60 (secA link)) := Lib.hid (HN1.out.blk (by rw [← HKA.out]; exact Blk.new _ _ _))
 have HN1' : Hid (New w w1) := Lib.hid ((New.al (New.refl w) _).tr HN1.out)
 have HZ : Hid (w.heap.size ≤ b4) := Lib.hid (by have := HZ4.out; simp at this; omega)
 obtain ⟨b2, hb2⟩ := nm w.heap.size
 rw [← hb2] at HR2
 rw [← hb2]
 have HZb := Lib.hid hb2
 clear hb2 HN1 HZ4
 go_upto_region 2 with fail
 obtain ⟨g, hg⟩ := nm w1.heap.size
 refine wp_world fun w2 hw2 => ?_
 have hN2 : New w1 w2 := by rw [hw2.out]; exact New.al (New.refl _) _
 have HN2 : Hid (New w w2) := Lib.hid (HN1'.out.tr hN2)
 have HW2 : Hid (WrIn w2 g g []) := Lib.hid ⟨⟨none, 0, by rw [hw2.out, hg]; exact Blk.new _ _ _, World.ownsRow_nil _ _ _ _⟩, Nat.le_refl _, fun x hx => nomatch hx⟩
 have HB42 : Hid (Blk w2 b4 60 (secA (List.replicate 32 0))) := Lib.hid (hN2.blk HB4.out)
 have HR22 : Hid (Blk w2 b2 60 (secA link)) := Lib.hid (hN2.blk HR2.out)
 have HG : Hid (w.heap.size ≤ g ∧ b4 < g ∧ b2 < g) := Lib.hid (by
  have h1 := HB4.out.lt
  have h2 := HN1'.out.size
  have h3 := HZb.out
  have h4 := HZ.out
  exact ⟨by omega, by omega, by omega⟩)
 rw [← hg]
 clear hg hN2 HB4 HR2 hw2
 go_wp2_with fail
 refine (wnum_any HW2.out n 8 (by omega) HNN.out (by simp)).mono ?_
 rintro e w3 ⟨rfl, hW, hF⟩
 have hW : WrIn w3 g g (beL 8 n) := hW
 have HW3 := Lib.hid hW
 have HN3 : Hid (New w w3) := Lib.hid (hF.toNew HN2.out HG.out.1 (Nat.le_refl _))
 have HB43 : Hid (Blk w3 b4 60 (secA (List.replicate 32 0))) := Lib.hid (hF.blk HB42.out (by decide) (by have := HG.out; omega))
 have HR23 : Hid (Blk w3 b2 60 (secA link)) := Lib.hid (hF.blk HR22.out (by decide) (by have := HG.out; omega))
 clear hW hF HW2 HB42 HR22
 go_wp2_with fail
 refine (wdone_any HW3.out (by rw [beL_len]; decide)).mono ?_
 rintro e w4 ⟨⟨A, c, rfl, hO⟩, hN4⟩
 rw [beL_len] at hO ⊢
 have HO := Lib.hid hO
 have HN4 : Hid (New w w4) := Lib.hid (HN3.out.tr hN4)
 have HB44 : Hid (Blk w4 b4 60 (secA (List.replicate 32 0))) := Lib.hid (hN4.blk HB43.out)
 have HR24 : Hid (Blk w4 b2 60 (secA link)) := Lib.hid (hN4.blk HR23.out)
 clear hO hN4 HB43 HR23 HW3
 go_wp2_with fail
 obtain ⟨bp, hbp⟩ := nm w4.heap.size
 refine calls_world fun w5 hw5 => ?_
 have hN5 : New w4 w5 := by rw [hw5.out]; exact New.al (New.refl _) _
 have HN5 : Hid (New w w5) := Lib.hid (HN4.out.tr hN5)
 have HP : Hid (Parts w5 bp 0 [beL 8 n]) := Lib.hid (parts1 (by rw [hw5.out, hbp]; exact Blk.new _ _ _) (beL_len _ _) (beL_byt _ _) (hN5.rd (Rd.own HO.out rfl)))
 have HB45 : Hid (Blk w5 b4 60 (secA (List.replicate 32 0))) := Lib.hid (hN5.blk HB44.out)
 have HR25 : Hid (Rd (fun _ => True) w5 1 (some ⟨b2, 0, none⟩) 32 (u8s link)) := Lib.hid (by
  have h := rd_sec (n := 32) (k := 32) (hN5.blk HR24.out) HK.out.1 (Nat.le_refl _)
  rwa [List.take_of_length_le (by rw [HK.out.1]; exact Nat.le_refl _)] at h)
 rw [← hbp]
 clear hbp hN5 HB44 HR24 HO hw5
 have hfl : [beL 8 n].flatten.length = 8 := by simp [beL_len]
 refine (mac_any (some ⟨b2, 0, none⟩) 32 32 link bp 0 1 1 [beL 8 n] w5 (HL.out.new HN5.out) HR25.out HK.out.2 (by decide) rfl (by simp) (fun _ => by rw [hfl]; decide) HP.out (by simp) (by rw [hfl]; decide) (by simp)).mono ?_
 rintro e w6 ⟨rfl, hN6⟩
 rw [HML.out]
 have HN6 : Hid (New w w6) := Lib.hid (HN5.out.tr hN6)
 have HB46 : Hid (Blk w6 b4 60 (secA (List.replicate 32 0))) := Lib.hid (hN6.blk HB45.out)
 clear hN6 hfl HB45
 go_wp2_with ((with_reducible refine atOp ⟨none, .store 60 (.tmp 4) _, _, _, _, _⟩ ?_); refine wpList_store_any rfl (.tmp 4) (.tmp 23) rfl (by rw [HM32.out]; rfl) rfl rfl HB46.out (by rw [HM32.out]; rfl) (secA_one _) ?_; intro w8 hb8 hf8; have HB8 := Lib.hid hb8; have HF8 := Lib.hid hf8; clear hb8 hf8)
 exact bodyPost_ret (v := .agg (secA ML)) (results_rowA rfl _ _ b4 _ _ rfl HB8.out Tryz.underlying60 rfl (by rw [HM32.out]; rfl)) rfl ⟨rfl, HN6.out.fr HF8.out (fun k hk => by have := HZ.out; have := HZb.out; omega)⟩
end Go.Proofs.YtmibndkofoldkaaGreatDoor
namespace Go.Proofs.YtmibndkofoldkaaGreatDoor
set_option linter.unusedVariables false
set_option linter.unusedSimpArgs false
set_option linter.constructorNameAsVariable false
open Go.RowKit Go.Maps Go.Sort
def setL (key : List Int) : List Int := encK key ++ tagK key ++ tickK key ++ linkK key
theorem setL_len (key : List Int) : (setL key).length = 112 := by simp [setL, encK_len, tagK_len, tickK_len, linkK_len]
theorem setInfo : (Tryz.prog.info? 105).map (fun i => (i.zero, i.size)) = some (some (.agg (secA (List.replicate 112 0))), 112) := by kernel_rfl
theorem splice_next {a b ys : List Value} {o : Nat} (h : a.length = o) : splice (a ++ b) o ys = (a ++ ys) ++ b.drop ys.length := by
 have := splice_app (a := a) (b := b) (ys := ys) (o := o) (k := 0) h
 rw [Nat.add_zero] at this
 rw [this, splice_pre rfl, List.append_assoc]
theorem setPlaces : (Tryz.prog.fieldsOf 105).toList.mapM (fun f => (Tryz.prog.info? f.type).map fun i => (f.offset, i.size)) = some [(0, 16), (16, 32), (48, 32), (80, 32)] := by kernel_rfl
set_option maxRecDepth 100000
theorem built_set {e t k l : List Int} (he : e.length = 16) (ht : t.length = 32) (hk : k.length = 32) (hl : l.length = 32) :
    Tryz.prog.built 105 [(0, .agg (secA e)), (1, .agg (secA t)), (2, .agg (secA k)), (3, .agg (secA l))] = some (secA (e ++ t ++ k ++ l)) := by
 rw [built_struct Tryz.underlying105 setInfo setPlaces]
 have hz : (secA (List.replicate 112 0)) = (u8s (List.replicate 112 0)).toArray := rfl
 have h0 : (u8s (List.replicate 112 (0 : Int))).length = 112 := by rw [u8s_len, List.length_replicate]
 rw [hz, fill_one (off := 0) (ys := u8s e) (by rw [u8s_len, he]; rfl) rfl (by rw [u8s_len, he, h0]; decide)]
 rw [show splice (u8s (List.replicate 112 0)) 0 (u8s e) = ([] ++ u8s e) ++ (u8s (List.replicate 112 0)).drop (u8s e).length from splice_next (a := []) rfl, List.nil_append]
 rw [fill_one (off := 16) (ys := u8s t) (by rw [u8s_len, ht]; rfl) rfl (by simp [u8s_len, he, ht]), splice_next (by rw [u8s_len, he])]
 rw [fill_one (off := 48) (ys := u8s k) (by rw [u8s_len, hk]; rfl) rfl (by simp [u8s_len, he, ht, hk]), splice_next (by simp [u8s_len, he, ht])]
 rw [fill_one (off := 80) (ys := u8s l) (by rw [u8s_len, hl]; rfl) rfl (by simp [u8s_len, he, ht, hk, hl]), splice_next (by simp [u8s_len, he, ht, hk])]
 rw [fill_nil]
 congr 1
 unfold secA
 congr 1
 rw [List.drop_eq_nil_of_le (by simp [u8s_len, he, ht, hk, hl]), List.append_nil]
 simp [u8s]
theorem range_take {w : World} {b o : Nat} {xs : List Int} {k : Nat} (h : w.rangeAt b o (u8s xs)) : w.rangeAt b o (u8s (xs.take k)) := fun j v hv => h j v (by
 have e : u8s (xs.take k) = (u8s xs).take k := by simp [u8s, List.map_take]
 rw [e, List.getElem?_take] at hv
 split at hv
 · exact hv
 · cases hv)
set_option maxHeartbeats 4000000
theorem keysOf_any (key : List Int) (w : World) (hL : ShaIn 3 1 w) (hk : key.length = 16 ∧ Byt key) :
    Calls Tryz.prog 60 #[.agg (secA key)] w fun e w' => e = .returned (.agg (secA (setL key))) ∧ New w w' := by
 have HL := Lib.hid hL
 have HK := Lib.hid hk
 have HLA := Lib.hid (fun (s : ByteArray) (xs : List Int) (hs : strOfNums xs = s) (hx : Byt xs) (h1 : 1 ≤ xs.length ∧ xs.length ≤ 100) (W : World) (hN : New w W) => label_any key xs s hs W (hL.new hN) hk hx h1)
 obtain ⟨KA, hKA⟩ := nm (secA key)
 have HKA := Lib.hid hKA
 have HK16 : Hid (KA.size = 16) := Lib.hid (by rw [hKA, secA_size, hk.1])
 rw [← hKA]
 simp only [← hKA] at HLA
 obtain ⟨RS, hRS⟩ := nm (secA (setL key))
 have HRS := Lib.hid hRS
 have HR112 : Hid (RS.size = 112) := Lib.hid (by rw [hRS, secA_size, setL_len])
 rw [← hRS]
 obtain ⟨se, hse⟩ := nm (macL key wSeal)
 obtain ⟨tg, htg⟩ := nm (macL key wTag)
 obtain ⟨tk, htk⟩ := nm (macL key wTick)
 obtain ⟨lk, hlk⟩ := nm (macL key wLink)
 have HE : Hid (setL key = se.take 16 ++ tg ++ tk ++ lk) := Lib.hid (by rw [hse, htg, htk, hlk]; rfl)
 have HS32 : Hid (se.length = 32 ∧ tg.length = 32 ∧ tk.length = 32 ∧ lk.length = 32) := Lib.hid ⟨by rw [hse, macL_len], by rw [htg, macL_len], by rw [htk, macL_len], by rw [hlk, macL_len]⟩
 have HL1 := Lib.hid (HLA.out _ wSeal rfl wSeal_byt (by decide))
 have HL2 := Lib.hid (HLA.out _ wTag rfl wTag_byt (by decide))
 have HL3 := Lib.hid (HLA.out _ wTick rfl wTick_byt (by decide))
 have HL4 := Lib.hid (HLA.out _ wLink rfl wLink_byt (by decide))
 rw [← hse] at HL1
 rw [← htg] at HL2
 rw [← htk] at HL3
 rw [← hlk] at HL4
 obtain ⟨SE, hSE⟩ := nm (secA se)
 obtain ⟨TG, hTG⟩ := nm (secA tg)
 obtain ⟨TK, hTK⟩ := nm (secA tk)
 obtain ⟨LK, hLK⟩ := nm (secA lk)
 rw [← hSE] at HL1
 rw [← hTG] at HL2
 rw [← hTK] at HL3
 rw [← hLK] at HL4
 have HSE : Hid (SE = secA se ∧ SE.size = 32) := Lib.hid ⟨hSE, by rw [hSE, secA_size, HS32.out.1]⟩
 have HQ : Hid (TG = secA tg ∧ TK = secA tk ∧ LK = secA lk) := Lib.hid ⟨hTG, hTK, hLK⟩
 clear hL hk hKA hRS hse htg htk hlk hSE hTG hTK hLK HLA
 go_enter Tryz.func60, Tryz.ntmps60
 go_upto_region 1 with ((with_reducible refine atOp ⟨some 2, .alloc _, _, _, _, _⟩ ?_); refine wpList_alloc_row rfl rfl setInfo ?_; intro b2 w1 hb hB hN; have HB2 := Lib.hid hB; have HN1 := Lib.hid hN; have HZ2 := Lib.hid hb; clear hb hB hN)
 have HB1 : Hid (Blk w1 w.heap.size 23 KA) := Lib.hid (HN1.out.blk (Blk.new _ _ _))
 have HN1' : Hid (New w w1) := Lib.hid ((New.al (New.refl w) _).tr HN1.out)
 have HZ : Hid (w.heap.size < b2) := Lib.hid (by have := HZ2.out; simp at this; omega)
 obtain ⟨b1, hb1⟩ := nm w.heap.size
 rw [← hb1] at HB1
 rw [← hb1]
 have HZb := Lib.hid hb1
 clear hb1 HN1 HZ2
 go_wp2_with ((with_reducible refine atOp ⟨some 4, .load _ _, _, _, _, _⟩ ?_); refine wpList_load_any rfl _ rfl Tryz.underlying23 rfl (by rw [HK16.out]; rfl) rfl HB1.out ?_)
 refine (HL1.out w1 HN1'.out).mono ?_
 rintro e w2 ⟨rfl, hN2⟩
 have HN2 : Hid (New w w2) := Lib.hid (HN1'.out.tr hN2)
 have HB12 : Hid (Blk w2 b1 23 KA) := Lib.hid (hN2.blk HB1.out)
 have HB22 : Hid (Blk w2 b2 105 (secA (List.replicate 112 0))) := Lib.hid (hN2.blk HB2.out)
 clear hN2 HB1 HB2
 go_upto_region 2 with ((with_reducible refine atOp ⟨some 3, .alloc _, _, _, _, _⟩ ?_); refine wpList_newrow rfl rfl rfl _ _ rfl hashInfoR rfl rfl rfl HSE.out.2 (by rw [HSE.out.1]; exact secA_one _) ?_)
 obtain ⟨b3, hb3⟩ := nm w2.heap.size
 refine wp_region_mixH (fun w' => Blk w' b1 23 KA ∧ Blk w' b3 60 SE) [(true, 0), (true, 1), (true, 2), (true, 3), (true, 5), (true, 7), (false, 4), (false, 6), (false, 8), (true, 9), (false, 10)] (by kernel_rfl) (by kernel_rfl) ⟨((HB12.out.alloc _).drew : _), (by rw [hb3]; exact (Blk.new _ _ _).drew)⟩ (fun hne => ?_)
 obtain ⟨w3, hw3⟩ : ∃ w3 : World, w3 = (w2.alloc (.cells SE 60)).drew := ⟨_, rfl⟩
 have hN3 : New w2 w3 := by rw [hw3]; exact (New.al (New.refl _) _).dr
 have HN3 : Hid (New w w3) := Lib.hid (HN2.out.tr hN3)
 have HB13 : Hid (Blk w3 b1 23 KA) := Lib.hid (hN3.blk HB12.out)
 have HB23 : Hid (Blk w3 b2 105 (secA (List.replicate 112 0))) := Lib.hid (hN3.blk HB22.out)
 have HB33 : Hid (Blk w3 b3 60 SE) := Lib.hid (by rw [hw3, hb3]; exact (Blk.new _ _ _).drew)
 have HLT : Hid (b2 < b3 ∧ b1 < b2) := Lib.hid ⟨by rw [hb3]; exact HB22.out.lt, by have := HZ.out; have := HZb.out; omega⟩
 rw [← hw3, ← hb3]
 clear hw3 hb3 hN3 HB12 HB22
 refine mix_take (o := ⟨_, _, _, _, _, _⟩) rfl (fun K hK => ?_)
 go_simp
 refine hK _ ?_
 clear hK K
 refine mix_take_arr (o := ⟨_, _, _, _, _, _⟩) rfl rfl (.tmp 6) rfl rfl Tryz.underlying23 (by decide) ?_
 refine mix_take_row (cs := u8s (se.take 16)) (o := ⟨_, _, _, _, _, _⟩) rfl rfl (.tmp 7) rfl rfl (fun w' h => ?_) Tryz.underlying23 rfl (by rw [u8s_len, List.length_take, HS32.out.1]; rfl) ?_
 · exact range_take (Blk.range (by rw [← HSE.out.1]; exact h.2))
 iterate 3 (refine mix_take_row (cs := KA.toList) (o := ⟨_, _, _, _, _, _⟩) rfl rfl (.tmp 1) rfl rfl (fun w' h => Blk.rangeOf h.1) Tryz.underlying23 rfl (by rw [Array.length_toList, HK16.out]; rfl) ?_; rw [Array.toArray_toList])
 refine mix_act (o := ⟨_, _, _, _, _, _⟩) rfl (fun K hK => ?_) (.inl rfl)
 go_simp
 refine (HL2.out w3 HN3.out).mono ?_
 rintro e w4 ⟨rfl, hN4⟩
 have HN4 : Hid (New w w4) := Lib.hid (HN3.out.tr hN4)
 have HB14 : Hid (Blk w4 b1 23 KA) := Lib.hid (hN4.blk HB13.out)
 have HB24 : Hid (Blk w4 b2 105 (secA (List.replicate 112 0))) := Lib.hid (hN4.blk HB23.out)
 have HB34 : Hid (Blk w4 b3 60 SE) := Lib.hid (hN4.blk HB33.out)
 clear hN4 HB13 HB23 HB33
 go_simp
 refine hK.out _ _ (fun _ => ⟨HB14.out, HB34.out⟩) ?_
 clear hK K
 refine mix_act (o := ⟨_, _, _, _, _, _⟩) rfl (fun K hK => ?_) (.inl rfl)
 go_simp
 refine (HL3.out w4 HN4.out).mono ?_
 rintro e w5 ⟨rfl, hN5⟩
 have HN5 : Hid (New w w5) := Lib.hid (HN4.out.tr hN5)
 have HB15 : Hid (Blk w5 b1 23 KA) := Lib.hid (hN5.blk HB14.out)
 have HB25 : Hid (Blk w5 b2 105 (secA (List.replicate 112 0))) := Lib.hid (hN5.blk HB24.out)
 have HB35 : Hid (Blk w5 b3 60 SE) := Lib.hid (hN5.blk HB34.out)
 clear hN5 HB14 HB24 HB34
 go_simp
 refine hK.out _ _ (fun _ => ⟨HB15.out, HB35.out⟩) ?_
 clear hK K
 refine mix_act (o := ⟨_, _, _, _, _, _⟩) rfl (fun K hK => ?_) (.inl rfl)
 go_simp
 refine (HL4.out w5 HN5.out).mono ?_
 rintro e w6 ⟨rfl, hN6⟩
 have HN6 : Hid (New w w6) := Lib.hid (HN5.out.tr hN6)
 have HB16 : Hid (Blk w6 b1 23 KA) := Lib.hid (hN6.blk HB15.out)
 have HB26 : Hid (Blk w6 b2 105 (secA (List.replicate 112 0))) := Lib.hid (hN6.blk HB25.out)
 have HB36 : Hid (Blk w6 b3 60 SE) := Lib.hid (hN6.blk HB35.out)
 clear hN6 HB15 HB25 HB35
 go_simp
 refine hK.out _ _ (fun _ => ⟨HB16.out, HB36.out⟩) ?_
 clear hK K
 refine mix_take_built (o := ⟨_, _, _, _, _, _⟩) rfl rfl 105 [(0, .tmp 8), (1, .tmp 10), (2, .tmp 12), (3, .tmp 14)] rfl [(0, .agg (secA (se.take 16))), (1, .agg TG), (2, .agg TK), (3, .agg LK)] rfl RS (by
  have h32 := HS32.out
  rw [HQ.out.1, HQ.out.2.1, HQ.out.2.2, built_set (by rw [List.length_take, h32.1]; rfl) h32.2.1 h32.2.2.1 h32.2.2.2, HRS.out, HE.out]) ?_
 refine mix_store (o := ⟨_, _, _, _, _, _⟩) rfl rfl (.tmp 2) (.tmp 15) rfl (by rw [HR112.out]; rfl) rfl rfl HB26.out (by rw [HR112.out]; rfl) (by rw [HRS.out]; exact secA_one _) (fun wc hbc hfc => ⟨fun _ => ⟨HB16.out.fr hfc (by have := HLT.out; omega), HB36.out.fr hfc (by have := HLT.out; omega)⟩, ?_⟩)
 have HBc := Lib.hid hbc
 have HFc := Lib.hid hfc
 clear hbc hfc
 refine mix_done ?_
 go_wp2_with fail
 exact bodyPost_ret (v := .agg RS) (results_rowA rfl _ _ b2 _ _ rfl HBc.out Tryz.underlying105 rfl (by rw [HR112.out]; rfl)) rfl ⟨rfl, HN6.out.fr HFc.out (fun j hj => by have := HZ.out; have := HZb.out; omega)⟩
end Go.Proofs.YtmibndkofoldkaaGreatDoor
namespace Go.Proofs.YtmibndkofoldkaaGreatDoor
set_option linter.unusedVariables false
set_option linter.unusedSimpArgs false
set_option linter.constructorNameAsVariable false
open Go.RowKit Go.Sort Go.Maps
structure Wr where
 num : Nat
 it : List Value
 an : List Value
 dn : Bool
def Wr.cells (x : Wr) : List Value := .int .u64 x.num :: (x.it ++ (x.an ++ [.bool x.dn]))
structure Wr.Ok (x : Wr) : Prop where
 it : x.it.length = 31
 an : x.an.length = 29
 io : ∀ v ∈ x.it, v.oneCell' = true
 ao : ∀ v ∈ x.an, v.oneCell' = true
theorem Wr.len {x : Wr} (h : x.Ok) : x.cells.length = 62 := by
 simp only [Wr.cells, List.length_cons, List.length_append, List.length_nil, h.it, h.an]
theorem Wr.one {x : Wr} (h : x.Ok) : ∀ v ∈ x.cells, v.oneCell' = true := by
 intro v hv
 unfold Wr.cells at hv
 simp only [List.mem_cons, List.mem_append, List.not_mem_nil, or_false] at hv
 rcases hv with rfl | hv | hv | rfl
 · rfl
 · exact h.io v hv
 · exact h.ao v hv
 · rfl
def rp0 : List Value := [.int .u64 0, .int .i64 0, .int .i64 0, .slice none 0 0, .bool false] ++ (tm0.cells ++ [.slice none 0 0, .slice none 0 0])
def it0 : List Value := [.int .u64 0, .int .i64 0] ++ ((Rm.cells ⟨0, 0, none, 0, 0, [], 0, 0, tm0, 0⟩) ++ [.bool false])
theorem rp0_one : ∀ v ∈ rp0, v.oneCell' = true := List.all_eq_true.1 (by kernel_rfl)
theorem rp0_len : rp0.length = 29 := by kernel_rfl
def WinC (w : World) (base g : Nat) (v : Value) (L : List Wr) (next : Nat) : Prop :=
 base ≤ g ∧ Blk w g 167 #[v, .int .i64 32, .int .u64 next] ∧ w.ownsRow base 193 62 v L.length (L.flatMap Wr.cells) ∧ L.length ≤ 32 ∧ ∀ x ∈ L, x.Ok
section
variable {w w' : World} {base g next : Nat} {v : Value} {L : List Wr}
theorem WinC.fr {S : Nat → Prop} (h : WinC w base g v L next) (hf : Fr S w w') (hg : ¬ S g) (hv : ∀ k, v.ownBlock = some k → ¬ S k) : WinC w' base g v L next :=
 ⟨h.1, h.2.1.fr hf hg, own_fr h.2.2.1 hf hv, h.2.2.2⟩
theorem WinC.new (h : WinC w base g v L next) (hN : New w w') : WinC w' base g v L next := ⟨h.1, hN.blk h.2.1, hN.own h.2.2.1, h.2.2.2⟩
end
set_option maxRecDepth 100000
theorem elW : ElemOf Tryz.prog 165 193 62 400 := ElemOf.mk' (z := .agg (.int .u64 0 :: (it0 ++ (rp0 ++ [.bool false]))).toArray) Tryz.underlying165 (by kernel_rfl) rfl (by decide)
theorem wrPlaces : (Tryz.prog.fieldsOf 193).toList.mapM (fun f => (Tryz.prog.info? f.type).map fun i => (f.offset, i.size)) = some [(0, 1), (1, 31), (32, 29), (61, 1)] := by kernel_rfl
theorem wrInfo : (Tryz.prog.info? 193).map (fun i => (i.zero, i.size)) = some (some (.agg (Value.int .u64 0 :: (it0 ++ (rp0 ++ [.bool false]))).toArray), 62) := by kernel_rfl
theorem wr_built {n : Nat} {it : List Value} (h : it.length = 31) : Tryz.prog.built 193 [(0, .int .u64 n), (1, .agg it.toArray)] = some (Wr.cells ⟨n, it, rp0, false⟩).toArray := by
 rw [built_struct Tryz.underlying193 wrInfo wrPlaces]
 rw [fill_cell (off := 0) rfl rfl (by simp), List.set_cons_zero, fill_one (off := 1) (ys := it) (by rw [h]; rfl) rfl (by rw [h]; show 32 ≤ 62; decide), fill_nil]
 have h1 := splice_app (a := [Value.int .u64 n]) (b := it0 ++ (rp0 ++ [.bool false])) (ys := it) (o := 1) (k := 0) rfl
 rw [splice_fst (by rw [h]; rfl)] at h1
 exact congrArg (fun l : List Value => some l.toArray) h1
theorem wnew_any (w : World) (base : Nat) (hb : base ≤ w.heap.size) : Calls Tryz.prog 57 #[.int .i64 32] w fun e w' => ∃ g, e = .returned (.tuple #[.pointer (some ⟨g, 0, none⟩), .nilIface]) ∧ WinC w' base g (.slice none 0 0) [] 0 ∧ w.heap.size ≤ g ∧ New w w' := by
 go_enter Tryz.func57, Tryz.ntmps57
 go_wp2_with fail
 go_ret2
 exact ⟨_, rfl, ⟨hb, Blk.new _ _ _, World.ownsRow_nil _ _ _ _, by decide, fun x hx => nomatch hx⟩, Nat.le_refl _, New.al (New.refl _) _⟩
theorem wfull_any {base g next : Nat} {v : Value} {L : List Wr} (w : World) (h : WinC w base g v L next) : Calls Tryz.prog 40 #[.pointer (some ⟨g, 0, none⟩)] w fun e w' => e = .returned (.bool (decide (32 ≤ L.length))) ∧ New w w' := by
 obtain ⟨A, c, rfl, hnc, hcm, -, -⟩ := own_shape h.2.2.1
 have h0 : w.cell? ⟨g, 0, none⟩ = some (.slice A L.length c) := h.2.1.cell 0
 have h1 : w.cell? ⟨g, 1, none⟩ = some (.int .i64 32) := h.2.1.cell 1
 have HD : Hid (decide ((32 : Int) ≤ (L.length : Int)) = decide (32 ≤ L.length)) := Lib.hid (decide_eq_decide.2 (by omega))
 obtain ⟨ln, hln⟩ := nm L.length
 rw [← hln] at h0 HD ⊢
 clear hln h
 go_enter Tryz.func40, Tryz.ntmps40
 go_wp2_with fail
 go_quiet (fail)
 go_wp2_with fail
 go_ret
 exact ⟨by rw [← HD.out]; rfl, (New.refl _).dn _⟩
theorem wnumber_any {base g next : Nat} {v : Value} {L : List Wr} (w : World) (h : WinC w base g v L next) (hn : next < 18446744073709551615) :
    Calls Tryz.prog 133 #[.pointer (some ⟨g, 0, none⟩)] w fun e w' => e = .returned (.int .u64 next) ∧ w' = w.setCell ⟨g, 2, none⟩ (.int .u64 ((next + 1 : Nat) : Int)) := by
 have h0 : w.cell? ⟨g, 2, none⟩ = some (.int .u64 next) := h.2.1.cell 2
 have h1 : w.frozen? ⟨g, 2, none⟩ = false := h.2.1.frozen 2
 have hw : IntKind.u64.wrap ((next : Int) + 1) = ((next + 1 : Nat) : Int) := by rw [IntKind.wrap_u64]; omega
 go_enter Tryz.func133, Tryz.ntmps133
 go_wp2_with fail
 go_ret
 exact ⟨rfl, by simp⟩
set_option maxHeartbeats 4000000
theorem wadd_any {base g next : Nat} {v : Value} {L : List Wr} (it : List Value) (w : World) (h : WinC w base g v L next) (hf : L.length < 32) (hn : next < 18446744073709551615) (hi : it.length = 31 ∧ ∀ v ∈ it, v.oneCell' = true) :
    Calls Tryz.prog 77 #[.pointer (some ⟨g, 0, none⟩), .agg it.toArray] w fun e w' => e = .returned (.tuple #[.int .u64 next, .nilIface]) ∧
     ∃ v', WinC w' base g v' (L ++ [⟨next, it, rp0, false⟩]) (next + 1) ∧ Fr (fun k => k = g ∨ v.ownBlock = some k) w w' ∧ (∀ k, v'.ownBlock = some k → v.ownBlock = some k ∨ w.heap.size ≤ k) := by
 have H := Lib.hid h
 have HI := Lib.hid hi
 have HF := Lib.hid hf
 have HNX := Lib.hid hn
 obtain ⟨IA, hIA⟩ := nm it.toArray
 have HIA : Hid (IA = it.toArray ∧ IA.size = 31) := Lib.hid ⟨hIA, by rw [hIA, List.size_toArray, hi.1]⟩
 rw [← hIA]
 have hd : decide (32 ≤ L.length) = false := decide_eq_false (by omega)
 clear h hi hf hn hIA
 go_enter Tryz.func77, Tryz.ntmps77
 go_upto_region 1 with fail
 obtain ⟨b3, hb3⟩ := nm w.heap.size
 refine wp_world fun w0 hw0 => ?_
 have HN0 : Hid (New w w0) := Lib.hid (by rw [hw0.out]; exact New.al (New.refl _) _)
 have HB3 : Hid (Blk w0 b3 115 IA) := Lib.hid (by rw [hw0.out, hb3]; exact Blk.new _ _ _)
 have H0 := Lib.hid (H.out.new HN0.out)
 rw [← hb3]
 have HZ := Lib.hid hb3
 clear hb3 hw0
 go_wp2_with fail
 refine (wfull_any w0 H0.out).mono ?_
 rintro e w1 ⟨rfl, hN1⟩
 rw [hd]
 have HN1 : Hid (New w w1) := Lib.hid (HN0.out.tr hN1)
 have H1 := Lib.hid (H0.out.new hN1)
 have HB31 := Lib.hid (hN1.blk HB3.out)
 clear hN1 H0 HB3
 go_wp2_with fail
 refine (wnumber_any w1 H1.out HNX.out).mono ?_
 rintro e w2 ⟨rfl, hw2⟩
 have hB2 : Blk w2 g 167 #[v, .int .i64 32, .int .u64 ((next + 1 : Nat) : Int)] := by rw [hw2]; exact H1.out.2.1.set 2 _
 have hF2 : Fr (fun k => k = g) w1 w2 := by rw [hw2]; exact (Fr.refl (fun k => k = g) _).setCell (fun _ => rfl) _
 have HNG : Hid (∀ k, v.ownBlock = some k → ¬ k = g) := Lib.hid (fun k hk e => own_ne H1.out.2.2.1 H1.out.2.1 (by decide) (by rw [hk, e]))
 have HO2 : Hid (w2.ownsRow base 193 62 v L.length (L.flatMap Wr.cells)) := Lib.hid (own_fr H1.out.2.2.1 hF2 HNG.out)
 have HB2 := Lib.hid hB2
 have HF2 := Lib.hid hF2
 have HB32 : Hid (Blk w2 b3 115 IA) := Lib.hid (HB31.out.fr hF2 (fun e => by
  have h1 := HB31.out
  have h2 := H1.out.2.1
  rw [e] at h1
  have := h1.symm.trans h2
  injection this with this
  injection this with _ h3
  exact absurd h3 (by decide)))
 clear hw2 hB2 hF2 HB31
 obtain ⟨A, c, rfl, hnc, hcm, -, -⟩ := own_shape HO2.out
 have HLW : Hid (base ≤ w2.heap.size ∧ L.length ≤ 32 ∧ (∀ x ∈ L, x.Ok) ∧ base ≤ g) := Lib.hid ⟨by have h1 := HB2.out.lt; have h2 := H1.out.1; omega, H1.out.2.2.2.1, H1.out.2.2.2.2, H1.out.1⟩
 clear hnc hcm
 have HLD : Hid (base ≤ w2.drew.heap.size) := Lib.hid HLW.out.1
 have HBd : Hid (Blk w2.drew g 167 #[.slice A L.length c, .int .i64 32, .int .u64 ((next + 1 : Nat) : Int)] ∧ Blk w2.drew b3 115 IA) := Lib.hid ⟨HB2.out, HB32.out⟩
 have HOd : Hid (w2.drew.ownsRow base 193 62 (.slice A L.length c) L.length (L.flatMap Wr.cells)) := Lib.hid ((New.dr (New.refl w2)).own HO2.out)
 have HBu := Lib.hid (wr_built (n := next) HI.out.1)
 obtain ⟨WA, hWA⟩ := nm (Wr.cells ⟨next, it, rp0, false⟩).toArray
 have HWA : Hid (WA = (Wr.cells ⟨next, it, rp0, false⟩).toArray ∧ WA.size = 62) := Lib.hid ⟨hWA, by rw [hWA, List.size_toArray]; exact Wr.len ⟨HI.out.1, rp0_len, HI.out.2, rp0_one⟩⟩
 rw [← hWA] at HBu
 clear hWA
 go_upto_region 6 with fail
 refine wp_region_mix (fun w' => w'.cell? ⟨g, 0, none⟩ = some (.slice A L.length c) ∧ Blk w' b3 115 IA) 12 [(true, 0), (true, 1), (true, 2), (true, 3), (true, 4), (true, 5), (true, 6), (true, 7), (false, 8), (false, 9), (true, 10), (true, 11), (false, 12)] (by kernel_rfl) (by kernel_rfl) ⟨HBd.out.1.cell 0, HBd.out.2⟩ (fun hne => ?_)
 have q0 : ∀ p : HW (fun w' => w'.cell? ⟨g, 0, none⟩ = some (.slice A L.length c) ∧ Blk w' b3 115 IA), p.w.cell? ⟨g, 0, none⟩ = some (.slice A L.length c) := fun p => p.h.1
 iterate 6 (refine mix_take (o := ⟨_, _, _, _, _, _⟩) rfl (fun K hK => ?_); go_simp; refine hK _ ?_; clear hK K)
 clear q0
 refine mix_take_row (cs := IA.toList) (o := ⟨_, _, _, _, _, _⟩) rfl rfl (.tmp 3) rfl rfl (fun w' h => Blk.rangeOf h.2) Tryz.underlying115 rfl (by rw [Array.length_toList, HIA.out.2]; rfl) ?_
 rw [Array.toArray_toList]
 refine mix_take_built (o := ⟨_, _, _, _, _, _⟩) rfl rfl 193 [(0, .tmp 22), (1, .tmp 23)] rfl [(0, .int .u64 next), (1, .agg IA)] rfl WA (by rw [HIA.out.1, HBu.out]) ?_
 refine mix_act (o := ⟨_, _, _, _, _, _⟩) rfl (fun K hK => ?_) (.inl rfl)
 refine step_bs1 elW (by decide) rfl (.tmp 24) rfl WA rfl HWA.out.2 (fun b5 w3 hB5 hN3 hle => ?_)
 refine hK.out _ _ (fun _ => ⟨(hN3.blk HBd.out.1).cell 0, hN3.blk HBd.out.2⟩) ?_
 clear hK K
 have HRb : Hid (Rd (fun _ => True) w3 62 (some ⟨b5, 0, none⟩) 1 (Wr.cells ⟨next, it, rp0, false⟩)) := Lib.hid (by
  have h := Rd.ofBlk (p := fun _ => True) hB5 62 1 (by rw [HWA.out.2]) trivial
  rwa [HWA.out.1] at h)
 have hbw : base ≤ w3.heap.size := Nat.le_trans HLD.out hN3.size
 refine mix_app (o := ⟨_, _, _, _, _, _⟩) elW w3 rfl rfl (.tmp 21) (.tmp 25) rfl base (.slice A L.length c) L.length (L.flatMap Wr.cells) rfl (hN3.own HOd.out) (some ⟨b5, 0, none⟩) 1 1 (Wr.cells ⟨next, it, rp0, false⟩) rfl HRb.out (Wr.one ⟨HI.out.1, rp0_len, HI.out.2, rp0_one⟩) (by have := HLW.out.2.1; unfold maxLen; omega) (by have := HLW.out.2.1; omega) hbw (fun A' c' w4 hO4 hF4 hA4 => ?_)
 have hB4 : Blk w4 g 167 #[.slice A L.length c, .int .i64 32, .int .u64 ((next + 1 : Nat) : Int)] := (hN3.blk HBd.out.1).fr hF4 (fun e => HNG.out g e rfl)
 have hB34 : Blk w4 b3 115 IA := (hN3.blk HBd.out.2).fr hF4 (fun e => by
  have h1 := own_ne (hN3.own HOd.out) (hN3.blk HBd.out.2) (by decide)
  exact h1 e)
 refine ⟨fun _ => ⟨hB4.cell 0, hB34⟩, ?_⟩
 have HB4 := Lib.hid hB4
 have HO4 := Lib.hid hO4
 have HA4 : Hid (∀ k, (Value.slice A' (L.length + 1) c').ownBlock = some k → (Value.slice A L.length c).ownBlock = some k ∨ w.heap.size ≤ k) := Lib.hid (fun k hk => (hA4 k hk).elim .inl fun h => .inr (Nat.le_trans (Nat.le_trans (Nat.le_trans HN1.out.size HF2.out.size) hN3.size) h))
 have HF4 : Hid (Fr (fun k => k = g ∨ (Value.slice A L.length c).ownBlock = some k) w w4) := Lib.hid (((((HN1.out.toFr _).trans (HF2.out.mono fun b _ h => Or.inl h)).trans ((New.dr (New.refl w2)).toFr _)).trans (hN3.toFr _)).trans (hF4.mono fun b _ h => Or.inr h))
 have HNN : Hid (∀ k, (Value.slice A' (L.length + 1) c').ownBlock = some k → ¬ k = g) := Lib.hid (fun k hk e => own_ne hO4 hB4 (by decide) (by rw [hk, e]))
 clear hB4 hO4 hA4 hF4 hB34 hB5 hN3 hle hbw HRb
 iterate 2 (refine mix_take (o := ⟨_, _, _, _, _, _⟩) rfl (fun K hK => ?_); go_simp; refine hK _ ?_; clear hK K)
 have c0 : w4.cell? ⟨g, 0, none⟩ = some (.slice A L.length c) := HB4.out.cell 0
 have f0 : w4.frozen? ⟨g, 0, none⟩ = false := HB4.out.frozen 0
 refine mix_act (o := ⟨_, _, _, _, _, _⟩) rfl (fun K hK => ?_) (.inl rfl)
 go_simp
 refine hK.out _ _ (fun h => absurd rfl h) ?_
 clear hK K c0 f0
 refine mix_done ?_
 go_wp2_with fail
 go_ret2
 have hF5 : Fr (fun k => k = g) w4 (w4.setCell ⟨g, 0, none⟩ (.slice A' (L.length + 1) c')) := (Fr.refl (fun k => k = g) _).setCell (fun _ => rfl) _
 refine ⟨rfl, _, ⟨HLW.out.2.2.2, HB4.out.set 0 _, ?_, ?_, ?_⟩, ?_, HA4.out⟩
 · rw [List.flatMap_append, List.flatMap_cons, List.flatMap_nil, List.append_nil, List.length_append]
   exact own_fr HO4.out hF5 HNN.out
 · have := HF.out
   rw [List.length_append]
   simp
   omega
 · intro x hx
   rcases List.mem_append.1 hx with hx | hx
   · exact HLW.out.2.2.1 x hx
   · obtain rfl : x = _ := List.mem_singleton.1 hx
     exact ⟨HI.out.1, rp0_len, HI.out.2, rp0_one⟩
 · exact HF4.out.trans (hF5.mono fun b _ h => Or.inl h)
end Go.Proofs.YtmibndkofoldkaaGreatDoor
namespace Go.Proofs.YtmibndkofoldkaaGreatDoor
set_option linter.unusedVariables false
set_option linter.unusedSimpArgs false
set_option linter.constructorNameAsVariable false
open Go.RowKit Go.Sort
structure Rc where
 root : List Int
 blocks : Nat
 epoch : Nat
 since : Nat
 limit : Nat
 session : Nat
structure Rc.Ok (r : Rc) : Prop where
 len : r.root.length = 32
 byt : Byt r.root
 blocks : r.blocks < 18446744073709551616
 epoch : r.epoch < 18446744073709551616
 since : r.since < 18446744073709551616
 limit : r.limit < 18446744073709551616
 session : r.session < 18446744073709551616
def Rc.cells (r : Rc) : Array Value := (u8s r.root ++ [Value.int .u64 r.blocks, Value.int .u64 r.epoch, Value.int .u64 r.since, Value.int .u64 r.limit, Value.int .u64 r.session]).toArray
theorem Rc.size {r : Rc} (h : r.root.length = 32) : r.cells.size = 37 := by simp [Rc.cells, u8s_len, h]
theorem Rc.one (r : Rc) : r.cells.all (·.oneCell') = true := by
 unfold Rc.cells
 refine all_oneCell_toArray fun v hv => ?_
 rcases List.mem_append.1 hv with hv | hv
 · exact u8s_one _ v hv
 · simp only [List.mem_cons, List.not_mem_nil, or_false] at hv
   rcases hv with rfl | rfl | rfl | rfl | rfl <;> rfl
theorem Rc.at {r : Rc} (h : r.root.length = 32) (i : Nat) : r.cells[32 + i]? = [Value.int .u64 r.blocks, .int .u64 r.epoch, .int .u64 r.since, .int .u64 r.limit, .int .u64 r.session][i]? := by
 unfold Rc.cells
 rw [List.getElem?_toArray, List.getElem?_append_right (by rw [u8s_len]; omega), u8s_len, h, Nat.add_sub_cancel_left]
theorem Rc.rootRange {w : World} {T g : Nat} {r : Rc} (hb : Blk w g T r.cells) : w.rangeAt g 0 (u8s r.root) := fun j v hv => by
 rw [Nat.zero_add, hb.cell j]
 unfold Rc.cells
 rw [List.getElem?_toArray, List.getElem?_append_left (List.getElem?_eq_some_iff.1 hv).1]
 exact hv
def rc0 : Rc := ⟨List.replicate 32 0, 0, 0, 0, 0, 0⟩
theorem rc0_ok : rc0.Ok := ⟨by simp [rc0], fun x hx => by simp [rc0] at hx; omega, by decide, by decide, by decide, by decide, by decide⟩
structure Rc.Right (r : Rc) : Prop where
 blocks1 : 1 ≤ r.blocks
 blocks2 : r.blocks ≤ 4294967296
 since1 : 1 ≤ r.since
 since2 : r.since ≤ r.limit
 epoch : r.epoch < r.limit
instance (r : Rc) : Decidable r.Right := decidable_of_iff (1 ≤ r.blocks ∧ r.blocks ≤ 4294967296 ∧ 1 ≤ r.since ∧ r.since ≤ r.limit ∧ r.epoch < r.limit) ⟨fun ⟨a, b, c, d, e⟩ => ⟨a, b, c, d, e⟩, fun ⟨a, b, c, d, e⟩ => ⟨a, b, c, d, e⟩⟩
def wordL : List Int := [101, 110, 116, 114, 117, 115, 116, 32, 114, 101, 99, 111, 114, 100]
theorem wordL_byt : Byt wordL := fun x hx => by simp [wordL] at hx; omega
def fstL (n : Nat) (r : Rc) : List Int := beL 8 n ++ r.root ++ beL 8 r.blocks ++ beL 8 r.epoch ++ beL 8 r.since
def sndL (n : Nat) (r : Rc) : List Int := beL 8 n ++ beL 8 r.limit ++ beL 8 r.session
def recH (n : Nat) (r : Rc) : List Int := (hsh (wordL ++ (fstL n r ++ sndL n r))).take 16
def putL (n : Nat) (r : Rc) : List Int := fstL n r ++ sndL n r ++ recH n r ++ List.replicate 24 0
theorem fstL_len {n : Nat} {r : Rc} (h : r.root.length = 32) : (fstL n r).length = 64 := by simp [fstL, beL_len, h]
theorem sndL_len (n : Nat) (r : Rc) : (sndL n r).length = 24 := by simp [sndL, beL_len]
theorem recH_len (n : Nat) (r : Rc) : (recH n r).length = 16 := by simp [recH, hsh_len]
theorem putL_len {n : Nat} {r : Rc} (h : r.root.length = 32) : (putL n r).length = 128 := by simp [putL, fstL_len h, sndL_len, recH_len]
theorem fstL_byt {n : Nat} {r : Rc} (h : Byt r.root) : Byt (fstL n r) := by
 intro x hx
 simp only [fstL, List.mem_append] at hx
 rcases hx with (((hx | hx) | hx) | hx) | hx
 · exact beL_byt _ _ x hx
 · exact h x hx
 · exact beL_byt _ _ x hx
 · exact beL_byt _ _ x hx
 · exact beL_byt _ _ x hx
theorem sndL_byt (n : Nat) (r : Rc) : Byt (sndL n r) := by
 intro x hx
 simp only [sndL, List.mem_append] at hx
 rcases hx with (hx | hx) | hx
 · exact beL_byt _ _ x hx
 · exact beL_byt _ _ x hx
 · exact beL_byt _ _ x hx
theorem recH_byt (n : Nat) (r : Rc) : Byt (recH n r) := fun x hx => hsh_byt _ x (List.mem_of_mem_take hx)
theorem putL_byt {n : Nat} {r : Rc} (h : Byt r.root) : Byt (putL n r) := by
 intro x hx
 simp only [putL, List.mem_append] at hx
 rcases hx with ((hx | hx) | hx) | hx
 · exact fstL_byt h x hx
 · exact sndL_byt n r x hx
 · exact recH_byt n r x hx
 · have := List.eq_of_mem_replicate hx
   omega
def cutL (b : List Int) (i n : Nat) : List Int := (b.drop i).take n
def rcOf (b : List Int) : Rc := ⟨cutL b 8 32, valL (cutL b 40 8), valL (cutL b 48 8), valL (cutL b 56 8), valL (cutL b 72 8), valL (cutL b 80 8)⟩
def numOf (b : List Int) : Nat := valL (cutL b 0 8)
theorem cutL_len {b : List Int} {i n : Nat} (h : i + n ≤ b.length) : (cutL b i n).length = n := by rw [cutL, List.length_take, List.length_drop]; omega
theorem cutL_byt {b : List Int} (h : Byt b) (i n : Nat) : Byt (cutL b i n) := fun x hx => h x (List.mem_of_mem_drop (List.mem_of_mem_take hx))
theorem cutL_val {b : List Int} (h : Byt b) (i : Nat) (hl : i + 8 ≤ b.length) : valL (cutL b i 8) < 18446744073709551616 := by
 have := valL_lt (cutL_byt h i 8)
 rwa [cutL_len hl] at this
theorem rcOf_ok {b : List Int} (h : Byt b) (hl : b.length = 128) : (rcOf b).Ok :=
 ⟨cutL_len (by omega), cutL_byt h _ _, cutL_val h _ (by omega), cutL_val h _ (by omega), cutL_val h _ (by omega), cutL_val h _ (by omega), cutL_val h _ (by omega)⟩
theorem numOf_lt {b : List Int} (h : Byt b) (hl : b.length = 128) : numOf b < 18446744073709551616 := cutL_val h _ (by omega)
def RecIn (slot : Nat) (b : List Int) : Prop := putL (numOf b) (rcOf b) = b ∧ numOf b % 2 = slot ∧ (rcOf b).Right
instance (slot : Nat) (b : List Int) : Decidable (RecIn slot b) := inferInstanceAs (Decidable (_ ∧ _ ∧ _))
def getN (slot : Nat) (b : List Int) : Nat := if RecIn slot b then numOf b else 0
def getR (slot : Nat) (b : List Int) : Rc := if RecIn slot b then rcOf b else rc0
theorem getR_ok (slot : Nat) {b : List Int} (h : Byt b) (hl : b.length = 128) : (getR slot b).Ok := by
 unfold getR
 split
 · exact rcOf_ok h hl
 · exact rc0_ok
theorem getN_lt (slot : Nat) {b : List Int} (h : Byt b) (hl : b.length = 128) : getN slot b < 18446744073709551616 := by
 unfold getN
 split
 · exact numOf_lt h hl
 · decide
theorem cutL_app (a b c : List Int) {i n : Nat} (hi : a.length = i) (hn : b.length = n) : cutL (a ++ (b ++ c)) i n = b := by
 subst hi hn
 simp [cutL]
theorem numOf_put {n : Nat} {r : Rc} (hn : n < 18446744073709551616) : numOf (putL n r) = n := by
 have e : putL n r = [] ++ (beL 8 n ++ (r.root ++ beL 8 r.blocks ++ beL 8 r.epoch ++ beL 8 r.since ++ sndL n r ++ recH n r ++ List.replicate 24 0)) := by simp [putL, fstL]
 have q : cutL (putL n r) 0 8 = beL 8 n := by rw [e]; exact cutL_app [] _ _ rfl (beL_len _ _)
 unfold numOf
 rw [q, valL_beL 8 n (by omega)]
theorem rcOf_put {n : Nat} {r : Rc} (h : r.Ok) : rcOf (putL n r) = r := by
 have e1 : putL n r = beL 8 n ++ (r.root ++ (beL 8 r.blocks ++ beL 8 r.epoch ++ beL 8 r.since ++ sndL n r ++ recH n r ++ List.replicate 24 0)) := by simp [putL, fstL]
 have e2 : putL n r = (beL 8 n ++ r.root) ++ (beL 8 r.blocks ++ (beL 8 r.epoch ++ beL 8 r.since ++ sndL n r ++ recH n r ++ List.replicate 24 0)) := by simp [putL, fstL]
 have e3 : putL n r = (beL 8 n ++ r.root ++ beL 8 r.blocks) ++ (beL 8 r.epoch ++ (beL 8 r.since ++ sndL n r ++ recH n r ++ List.replicate 24 0)) := by simp [putL, fstL]
 have e4 : putL n r = (beL 8 n ++ r.root ++ beL 8 r.blocks ++ beL 8 r.epoch) ++ (beL 8 r.since ++ (sndL n r ++ recH n r ++ List.replicate 24 0)) := by simp [putL, fstL]
 have e5 : putL n r = (fstL n r ++ beL 8 n) ++ (beL 8 r.limit ++ (beL 8 r.session ++ recH n r ++ List.replicate 24 0)) := by simp [putL, sndL]
 have e6 : putL n r = (fstL n r ++ beL 8 n ++ beL 8 r.limit) ++ (beL 8 r.session ++ (recH n r ++ List.replicate 24 0)) := by simp [putL, sndL]
 have hl := h.len
 have p : ∀ x : Nat, x < 18446744073709551616 → x < 256 ^ 8 := fun x hx => by omega
 have q1 : cutL (putL n r) 8 32 = r.root := by rw [e1]; exact cutL_app _ _ _ (beL_len _ _) hl
 have q2 : cutL (putL n r) 40 8 = beL 8 r.blocks := by rw [e2]; exact cutL_app _ _ _ (by simp [beL_len, hl]) (beL_len _ _)
 have q3 : cutL (putL n r) 48 8 = beL 8 r.epoch := by rw [e3]; exact cutL_app _ _ _ (by simp [beL_len, hl]) (beL_len _ _)
 have q4 : cutL (putL n r) 56 8 = beL 8 r.since := by rw [e4]; exact cutL_app _ _ _ (by simp [beL_len, hl]) (beL_len _ _)
 have q5 : cutL (putL n r) 72 8 = beL 8 r.limit := by rw [e5]; exact cutL_app _ _ _ (by simp [beL_len, fstL_len hl]) (beL_len _ _)
 have q6 : cutL (putL n r) 80 8 = beL 8 r.session := by rw [e6]; exact cutL_app _ _ _ (by simp [beL_len, fstL_len hl]) (beL_len _ _)
 unfold rcOf
 rw [q1, q2, q3, q4, q5, q6, valL_beL _ _ (p _ h.blocks), valL_beL _ _ (p _ h.epoch), valL_beL _ _ (p _ h.since), valL_beL _ _ (p _ h.limit), valL_beL _ _ (p _ h.session)]
theorem recIn_put {n slot : Nat} {r : Rc} (h : r.Ok) (hn : n < 18446744073709551616) (hs : n % 2 = slot) (hr : r.Right) : RecIn slot (putL n r) := by
 unfold RecIn
 rw [numOf_put hn, rcOf_put h]
 exact ⟨rfl, hs, hr⟩
end Go.Proofs.YtmibndkofoldkaaGreatDoor
namespace Go.Proofs.YtmibndkofoldkaaGreatDoor
set_option linter.unusedVariables false
set_option linter.unusedSimpArgs false
set_option linter.constructorNameAsVariable false
open Go.RowKit Go.Sort
theorem rd_cells {w : World} {g T : Nat} {fz : Nat × Nat} {cs : Array Value} {xs : List Value} {n : Nat} (h : w.heap[g]? = some (.cells cs T fz)) (hx : cs.toList = xs) (hn : xs.length = n) : Rd (fun _ => True) w 1 (some ⟨g, 0, none⟩) n xs := by
 subst hx
 refine ⟨by omega, fun _ => ⟨_, rfl, trivial, (Array.getElem?_eq_some_iff.1 h).1, fun j u hu => ?_⟩⟩
 rw [add_own]
 simpa [World.cell?, h] using hu
set_option maxHeartbeats 3000000 in
set_option maxRecDepth 100000 in
theorem put_any_l27 (n : Nat) (r : Rc) (w : World) (hL : ShaIn 3 1 w) (hr : r.Ok) (hn : n < 18446744073709551616) :
    Calls Tryz.prog 107 #[.int .u64 n, .agg r.cells] w fun e w' => e = .returned (.tuple #[.agg (secA (putL n r)), .nilIface]) ∧ New w w' := by
 have HL := Lib.hid hL
 have HR := Lib.hid hr
 have HNN : Hid (n < 256 ^ 8) := Lib.hid (by omega)
 obtain ⟨RC, hRC⟩ : ∃ RC, RC = r.cells := ⟨_, rfl⟩
 have HRC := Lib.hid hRC
 rw [← hRC]
 have HSZ : Hid (RC.size = 37) := Lib.hid (by rw [hRC, Rc.size hr.len])
 clear hL hr hn hRC
 go_enter Tryz.func107, Tryz.ntmps107
 go_upto_region 2 with fail
 obtain ⟨w1, hw1⟩ : ∃ w1 : World, w1 = ((w.alloc (.cells RC 63)).alloc (.cells Tryz.zeroCells220 220)).alloc (.cells #[.nilIface, .slice none 0 0] 235) := ⟨_, rfl⟩
 obtain ⟨b3, hb3⟩ : ∃ b3, b3 = w.heap.size := ⟨_, rfl⟩
 obtain ⟨b4, hb4⟩ : ∃ b4, b4 = w.heap.size + 1 := ⟨_, rfl⟩
 obtain ⟨g, hg⟩ : ∃ g, g = w.heap.size + 1 + 1 := ⟨_, rfl⟩
 have hz : (Tryz.zeroCells220 : Array Value) = secA (List.replicate 128 0) := by kernel_rfl
 have HN1 : Hid (New w w1) := Lib.hid (by rw [hw1]; exact New.al (New.al (New.al (New.refl _) _) _) _)
 have HB3 : Hid (Blk w1 b3 63 r.cells) := Lib.hid (by rw [hw1, hb3, HRC.out]; exact ((Blk.new _ _ _).alloc _).alloc _)
 have HB4 : Hid (Blk w1 b4 220 (secA (List.replicate 128 0))) := Lib.hid (by rw [hw1, hb4, ← hz]; exact (Blk.new' _ _ _ (by simp)).alloc _)
 have HW1 : Hid (WrIn w1 g g []) := Lib.hid ⟨⟨none, 0, by rw [hw1, hg]; exact Blk.new' _ _ _ (by simp), World.ownsRow_nil _ _ _ _⟩, Nat.le_refl _, fun x hx => nomatch hx⟩
 have HZ : Hid (b3 = w.heap.size ∧ b4 = w.heap.size + 1 ∧ g = w.heap.size + 2) := Lib.hid ⟨hb3, hb4, hg⟩
 rw [← hw1, ← hg, ← hb4, ← hb3]
 clear hw1 hb3 hb4 hg hz
 refine wp_region_mixH (fun w' => Blk w' b3 63 r.cells) [(true, 0), (true, 1), (true, 3), (true, 4), (true, 6), (true, 7), (true, 9), (true, 10), (true, 12), (true, 13), (false, 2), (false, 5), (false, 8), (false, 11), (false, 14)] (by kernel_rfl) (by kernel_rfl) ((New.dr (New.refl w1)).blk HB3.out) (fun hne => ?_)
 have q1 : ∀ p : HW (fun w' => Blk w' b3 63 r.cells), p.w.cell? ⟨b3, 32, none⟩ = some (.int .u64 r.blocks) := fun p => by rw [Blk.cell p.h]; exact Rc.at HR.out.len 0
 have q2 : ∀ p : HW (fun w' => Blk w' b3 63 r.cells), p.w.cell? ⟨b3, 33, none⟩ = some (.int .u64 r.epoch) := fun p => by rw [Blk.cell p.h]; exact Rc.at HR.out.len 1
 have q3 : ∀ p : HW (fun w' => Blk w' b3 63 r.cells), p.w.cell? ⟨b3, 34, none⟩ = some (.int .u64 r.since) := fun p => by rw [Blk.cell p.h]; exact Rc.at HR.out.len 2
 iterate 3 (refine mix_take (o := ⟨_, _, _, _, _, _⟩) rfl (fun K hK => ?_); go_simp; refine hK _ ?_; clear hK K)
 refine mix_take_row (o := ⟨_, _, _, _, _, _⟩) (cs := u8s r.root) rfl rfl _ rfl rfl (fun w' h => Rc.rootRange h) Tryz.underlying60 rfl (by rw [u8s_len, HR.out.len]; rfl) ?_
 iterate 6 (refine mix_take (o := ⟨_, _, _, _, _, _⟩) rfl (fun K hK => ?_); go_simp; refine hK _ ?_; clear hK K)
 clear q1 q2 q3
 refine mix_act (o := ⟨_, _, _, _, _, _⟩) rfl (fun K hK => ?_) (.inl rfl)
 go_simp
 refine (wnum_any (w := w1.drew) (HW1.out.new (New.dr (New.refl w1))) n 8 (by omega) HNN.out (by simp)).mono ?_
 rintro e wa ⟨rfl, hW, hF⟩
 have HWwa := Lib.hid hW
 have HFwa : Hid (FW g g w1 wa) := Lib.hid ((FW.new (New.dr (New.refl w1))).tr hF)
 have HB3wa : Hid (Blk wa b3 63 r.cells) := Lib.hid (HFwa.out.blk HB3.out (by decide) (by have := HZ.out; omega))
 clear hW hF
 go_simp
 refine hK.out _ _ (fun _ => HB3wa.out) ?_
 clear hK K
 refine mix_act (o := ⟨_, _, _, _, _, _⟩) rfl (fun K hK => ?_) (.inl rfl)
 go_simp
 refine (whash_any HWwa.out r.root HR.out.len HR.out.byt (by simp [beL_len])).mono ?_
 rintro e wb ⟨rfl, hW, hF⟩
 have HWwb := Lib.hid hW
 have HFwb : Hid (FW g g w1 wb) := Lib.hid (HFwa.out.tr hF)
 have HB3wb : Hid (Blk wb b3 63 r.cells) := Lib.hid (HFwb.out.blk HB3.out (by decide) (by have := HZ.out; omega))
 clear hW hF
 go_simp
 refine hK.out _ _ (fun _ => HB3wb.out) ?_
 clear hK K
 refine mix_act (o := ⟨_, _, _, _, _, _⟩) rfl (fun K hK => ?_) (.inl rfl)
 go_simp
 refine (wnum_any HWwb.out r.blocks 8 (by omega) (by have := HR.out.blocks; omega) (by simp [beL_len, HR.out.len])).mono ?_
 rintro e wc ⟨rfl, hW, hF⟩
 have HWwc := Lib.hid hW
 have HFwc : Hid (FW g g w1 wc) := Lib.hid (HFwb.out.tr hF)
 have HB3wc : Hid (Blk wc b3 63 r.cells) := Lib.hid (HFwc.out.blk HB3.out (by decide) (by have := HZ.out; omega))
 clear hW hF
 go_simp
 refine hK.out _ _ (fun _ => HB3wc.out) ?_
 clear hK K
 refine mix_act (o := ⟨_, _, _, _, _, _⟩) rfl (fun K hK => ?_) (.inl rfl)
 go_simp
 refine (wnum_any HWwc.out r.epoch 8 (by omega) (by have := HR.out.epoch; omega) (by simp [beL_len, HR.out.len])).mono ?_
 rintro e wd ⟨rfl, hW, hF⟩
 have HWwd := Lib.hid hW
 have HFwd : Hid (FW g g w1 wd) := Lib.hid (HFwc.out.tr hF)
 have HB3wd : Hid (Blk wd b3 63 r.cells) := Lib.hid (HFwd.out.blk HB3.out (by decide) (by have := HZ.out; omega))
 clear hW hF
 go_simp
 refine hK.out _ _ (fun _ => HB3wd.out) ?_
 clear hK K
 refine mix_act (o := ⟨_, _, _, _, _, _⟩) rfl (fun K hK => ?_) (.inl rfl)
 go_simp
 refine (wnum_any HWwd.out r.since 8 (by omega) (by have := HR.out.since; omega) (by simp [beL_len, HR.out.len])).mono ?_
 rintro e we ⟨rfl, hW, hF⟩
 have HWwe := Lib.hid hW
 have HFwe : Hid (FW g g w1 we) := Lib.hid (HFwd.out.tr hF)
 have HB3we : Hid (Blk we b3 63 r.cells) := Lib.hid (HFwe.out.blk HB3.out (by decide) (by have := HZ.out; omega))
 clear hW hF
 go_simp
 refine hK.out _ _ (fun _ => HB3we.out) ?_
 clear hK K
 refine mix_done ?_
 clear HWwa HWwb HWwc HWwd HFwa HFwb HFwc HFwd HB3wa HB3wb HB3wc HB3wd
 go_upto_region 3 with fail
 refine wp_region_mixH (fun w' => Blk w' b3 63 r.cells) [(true, 0), (true, 1), (true, 3), (true, 4), (true, 6), (true, 7), (false, 2), (false, 5), (false, 8), (false, 9), (true, 10), (true, 11), (true, 12), (true, 13), (true, 14)] (by kernel_rfl) (by kernel_rfl) ((New.dr (New.refl we)).blk HB3we.out) (fun hne => ?_)
 have q1 : ∀ p : HW (fun w' => Blk w' b3 63 r.cells), p.w.cell? ⟨b3, 35, none⟩ = some (.int .u64 r.limit) := fun p => by rw [Blk.cell p.h]; exact Rc.at HR.out.len 3
 have q2 : ∀ p : HW (fun w' => Blk w' b3 63 r.cells), p.w.cell? ⟨b3, 36, none⟩ = some (.int .u64 r.session) := fun p => by rw [Blk.cell p.h]; exact Rc.at HR.out.len 4
 iterate 6 (refine mix_take (o := ⟨_, _, _, _, _, _⟩) rfl (fun K hK => ?_); go_simp; refine hK _ ?_; clear hK K)
 clear q1 q2
 refine mix_act (o := ⟨_, _, _, _, _, _⟩) rfl (fun K hK => ?_) (.inl rfl)
 go_simp
 refine (wnum_any (w := we.drew) (HWwe.out.new (New.dr (New.refl we))) n 8 (by omega) HNN.out (by simp [beL_len, HR.out.len])).mono ?_
 rintro e wf ⟨rfl, hW, hF⟩
 have HWwf := Lib.hid hW
 have HFwf : Hid (FW g g w1 wf) := Lib.hid (HFwe.out.tr ((FW.new (New.dr (New.refl we))).tr hF))
 have HB3wf : Hid (Blk wf b3 63 r.cells) := Lib.hid (HFwf.out.blk HB3.out (by decide) (by have := HZ.out; omega))
 clear hW hF
 go_simp
 refine hK.out _ _ (fun _ => HB3wf.out) ?_
 clear hK K
 refine mix_act (o := ⟨_, _, _, _, _, _⟩) rfl (fun K hK => ?_) (.inl rfl)
 go_simp
 refine (wnum_any HWwf.out r.limit 8 (by omega) (by have := HR.out.limit; omega) (by simp [beL_len, HR.out.len])).mono ?_
 rintro e wg ⟨rfl, hW, hF⟩
 have HWwg := Lib.hid hW
 have HFwg : Hid (FW g g w1 wg) := Lib.hid (HFwf.out.tr hF)
 have HB3wg : Hid (Blk wg b3 63 r.cells) := Lib.hid (HFwg.out.blk HB3.out (by decide) (by have := HZ.out; omega))
 clear hW hF
 go_simp
 refine hK.out _ _ (fun _ => HB3wg.out) ?_
 clear hK K
 refine mix_act (o := ⟨_, _, _, _, _, _⟩) rfl (fun K hK => ?_) (.inl rfl)
 go_simp
 refine (wnum_any HWwg.out r.session 8 (by omega) (by have := HR.out.session; omega) (by simp [beL_len, HR.out.len])).mono ?_
 rintro e wh ⟨rfl, hW, hF⟩
 have HWwh := Lib.hid hW
 have HFwh : Hid (FW g g w1 wh) := Lib.hid (HFwg.out.tr hF)
 have HB3wh : Hid (Blk wh b3 63 r.cells) := Lib.hid (HFwh.out.blk HB3.out (by decide) (by have := HZ.out; omega))
 clear hW hF
 go_simp
 refine hK.out _ _ (fun _ => HB3wh.out) ?_
 clear hK K
 have HWx : Hid (WrIn wh g g (fstL n r ++ sndL n r)) := Lib.hid (by
  have e : [] ++ beL 8 n ++ r.root ++ beL 8 r.blocks ++ beL 8 r.epoch ++ beL 8 r.since ++ beL 8 n ++ beL 8 r.limit ++ beL 8 r.session = fstL n r ++ sndL n r := by simp [fstL, sndL]
  rw [← e]
  exact HWwh.out)
 have HX88 : Hid ((fstL n r ++ sndL n r).length = 88) := Lib.hid (by rw [List.length_append, fstL_len HR.out.len, sndL_len])
 have HXB : Hid (Byt (fstL n r ++ sndL n r)) := Lib.hid (fun x hx => (List.mem_append.1 hx).elim (fstL_byt HR.out.byt x) (sndL_byt n r x))
 obtain ⟨X, hX⟩ : ∃ X, X = fstL n r ++ sndL n r := ⟨_, rfl⟩
 have HX := Lib.hid hX
 rw [← hX] at HWx HX88 HXB
 clear hX HWwe HWwf HWwg HFwe HFwf HFwg HB3we HB3wf HB3wg HWwh
 refine mix_act (o := ⟨_, _, _, _, _, _⟩) rfl (fun K hK => ?_) (.inl rfl)
 go_simp
 refine (wdone_any HWx.out (by rw [HX88.out]; omega)).mono ?_
 rintro e w6 ⟨⟨B, d, rfl, hO⟩, hN6⟩
 rw [HX88.out] at hO ⊢
 have HO := Lib.hid hO
 have HF6 : Hid (FW g g w1 w6) := Lib.hid (HFwh.out.tr (FW.new hN6))
 have HWS : Hid (wh.heap.size ≤ w6.heap.size ∧ b4 < wh.heap.size ∧ w.heap.size ≤ wh.heap.size) := Lib.hid (by have h1 := hN6.size; have h2 := HWx.out.lt; have := HZ.out; exact ⟨h1, by omega, by omega⟩)
 have HB36 : Hid (Blk w6 b3 63 r.cells) := Lib.hid (hN6.blk HB3wh.out)
 have HB46 : Hid (Blk w6 b4 220 (secA (List.replicate 128 0))) := Lib.hid (HF6.out.blk HB4.out (by decide) (by have := HZ.out; omega))
 have HN6 : Hid (New w w6) := Lib.hid (HN1.out.fr HF6.out (fun k hk => by
  have := HZ.out
  rcases hk with rfl | hk
  · omega
  · have := hk.1; omega))
 clear hO hN6 HB4
 go_simp
 refine hK.out _ _ (fun _ => HB36.out) ?_
 clear hK K HWx HFwh HB3wh HB3 HN1 HW1
 iterate 5 (refine mix_take (o := ⟨_, _, _, _, _, _⟩) rfl (fun K hK => ?_); go_simp; refine hK _ ?_; clear hK K)
 refine mix_done ?_
 go_upto_region 6 with fail
 have kc := fun (w : World) (C : Array Value) (n c : Nat) => Lib.run_convert_bytes_const (P := Tryz.prog) w 84 5 C n c Tryz.underlying84 Tryz.underlying5
 go_wp2_with fail
 clear kc
 obtain ⟨w7, hw7⟩ : ∃ w7 : World, w7 = (w6.alloc (.cells #[.int .u8 101, .int .u8 110, .int .u8 116, .int .u8 114, .int .u8 117, .int .u8 115, .int .u8 116, .int .u8 32, .int .u8 114, .int .u8 101, .int .u8 99, .int .u8 111, .int .u8 114, .int .u8 100] 5 (14, 15))).alloc (.cells #[.slice (some ⟨w6.heap.size, 0, none⟩) 14 14, .slice B 88 d] 84) := ⟨_, rfl⟩
 obtain ⟨bp, hbp⟩ : ∃ bp, bp = w6.heap.size + 1 := ⟨_, rfl⟩
 have HN7 : Hid (New w6 w7) := Lib.hid (by rw [hw7]; exact New.al (New.al (New.refl _) _) _)
 have HP : Hid (Parts w7 bp 0 [wordL, X]) := Lib.hid ⟨fun i l hl => by
  have hB : Blk w7 bp 84 #[.slice (some ⟨w6.heap.size, 0, none⟩) 14 14, .slice B 88 d] := by rw [hw7, hbp]; exact Blk.new' _ _ _ (by simp)
  have hG : w7.heap[w6.heap.size]? = some (.cells #[.int .u8 101, .int .u8 110, .int .u8 116, .int .u8 114, .int .u8 117, .int .u8 115, .int .u8 116, .int .u8 32, .int .u8 114, .int .u8 101, .int .u8 99, .int .u8 111, .int .u8 114, .int .u8 100] 5 (14, 15)) := by rw [hw7]; exact (Below.heap_alloc _ _ _ (by simp)).trans (World.alloc_heap_new w6 _)
  match i, hl with
  | 0, hl =>
   obtain rfl : wordL = l := by simpa using hl
   exact ⟨wordL_byt, some ⟨w6.heap.size, 0, none⟩, 14, hB.cell 0, rd_cells hG rfl rfl⟩
  | 1, hl =>
   obtain rfl : X = l := by simpa using hl
   refine ⟨HXB.out, B, d, ?_, ?_⟩
   · rw [HX88.out]; exact hB.cell 1
   · rw [HX88.out]; exact HN7.out.rd ((Rd.own HO.out rfl).imp (fun _ _ => trivial))
  | (i + 2), hl => simp at hl⟩
 rw [← hw7, ← hbp]
 clear hw7 hbp
 have hfl : ([wordL, X].flatten).length = 102 := by
  have := HX88.out
  simp [wordL]
  omega
 refine (of_any bp 0 2 [wordL, X] 2 rfl w7 ((HL.out.new HN6.out).new HN7.out) (by simp) HP.out (by simp) (by omega) (by simp)).mono ?_
 rintro e w8 ⟨rfl, hN8⟩
 have HTL : Hid (recH n r = (hsh [wordL, X].flatten).take 16) := Lib.hid (by rw [HX.out]; simp [recH])
 obtain ⟨HS, hHS⟩ : ∃ HS, HS = hsh [wordL, X].flatten := ⟨_, rfl⟩
 rw [← hHS] at HTL ⊢
 have hl32 : HS.length = 32 := by rw [hHS]; exact hsh_len _
 have HS32 := Lib.hid hl32
 have HN8 : Hid (New w6 w8) := Lib.hid (HN7.out.tr hN8)
 have hsz3 : (secA HS).size = 32 := by rw [secA_size, hl32]
 have HZ3 := Lib.hid hsz3
 clear hN8 hHS hfl hl32 hsz3
 go_upto_region 7 with ((with_reducible refine atOp ⟨some 9, .alloc _, _, _, _, _⟩ ?_); refine wpList_newvar (s := HS) rfl rfl rfl _ _ rfl hashInfoR rfl rfl rfl HS32.out ?_)
 go_upto_region 8 with fail
 obtain ⟨w9, hw9⟩ : ∃ w9 : World, w9 = (w8.alloc (.cells (secA HS) 60)).alloc (.cells Tryz.zeroCells220 220) := ⟨_, rfl⟩
 obtain ⟨b9, hb9⟩ : ∃ b9, b9 = w8.heap.size := ⟨_, rfl⟩
 obtain ⟨b10, hb10⟩ : ∃ b10, b10 = w8.heap.size + 1 := ⟨_, rfl⟩
 have hz : (Tryz.zeroCells220 : Array Value) = (u8s (List.replicate 128 0)).toArray := by kernel_rfl
 have HB9 : Hid (Blk w9 b9 60 (secA HS)) := Lib.hid (by rw [hw9, hb9]; exact (Blk.new _ _ _).alloc _)
 have HB10 : Hid (Blk w9 b10 220 (u8s (List.replicate 128 0)).toArray) := Lib.hid (by rw [hw9, hb10, ← hz]; exact Blk.new' _ _ _ (by simp))
 have HN9 : Hid (New w6 w9) := Lib.hid (HN8.out.tr (by rw [hw9]; exact New.al (New.al (New.refl _) _) _))
 have HO9 : Hid (w9.ownsRow wh.heap.size 5 1 (.slice B 88 d) 88 (u8s X)) := Lib.hid (HN9.out.own HO.out)
 have HZ9 : Hid (b9 = w8.heap.size ∧ b10 = w8.heap.size + 1 ∧ w9.heap.size = w8.heap.size + 2) := Lib.hid ⟨hb9, hb10, by rw [hw9]; simp⟩
 have HWH : Hid (wh.heap.size ≤ w6.heap.size ∧ w6.heap.size ≤ w8.heap.size ∧ b4 < wh.heap.size ∧ w.heap.size ≤ wh.heap.size) := Lib.hid ⟨HWS.out.1, HN8.out.size, HWS.out.2.1, HWS.out.2.2⟩
 have HB49 : Hid (Blk w9 b4 220 (secA (List.replicate 128 0))) := Lib.hid (HN9.out.blk HB46.out)
 have HR16 : Hid (Rd (fun _ => True) w9 1 (some ⟨b9, 0, none⟩) 16 (u8s (HS.take 16))) := Lib.hid (by
  have h := Rd.ofBlk (p := fun _ => True) HB9.out 1 32 (by rw [secA_size, HS32.out]) trivial
  rw [secA_list] at h
  exact Rd.take h (by omega))
 have H16 : Hid ((HS.take 16).length = 16) := Lib.hid (by rw [List.length_take, HS32.out]; rfl)
 rw [← hw9, ← hb10, ← hb9]
 clear hw9 hb9 hb10 hz
 have HB4B : Hid ((Value.slice B 88 d).ownBlock ≠ some b4 ∧ (Value.slice B 88 d).ownBlock ≠ some b10) := Lib.hid ⟨fun h => by have h1 := own_lt HO.out _ h; have := HWH.out; omega, fun h => by have h1 := own_lt HO.out _ h; have := HWH.out; have := HZ9.out; omega⟩
 have HXL : Hid ((u8s (X ++ HS.take 16)).length = 104) := Lib.hid (by rw [u8s_len, List.length_append, HX88.out, H16.out])
 have HSP : Hid ((splice (u8s (List.replicate 128 0)) 0 (u8s (X ++ HS.take 16))).toArray = secA (putL n r)) := Lib.hid (by
  have e : u8s (List.replicate 128 0) = List.replicate 128 (Value.int .u8 0) := by unfold u8s; rw [List.map_replicate]
  have e2 : u8s (List.replicate 24 0) = List.replicate 24 (Value.int .u8 0) := by unfold u8s; rw [List.map_replicate]
  unfold splice secA putL
  rw [List.take_zero, List.nil_append, Nat.zero_add, HXL.out, e, List.drop_replicate, HX.out, ← HTL.out]
  simp only [u8s, List.map_append] at e2 ⊢
  rw [e2])
 have HPZ : Hid ((secA (putL n r)).size = 128) := Lib.hid (by rw [secA_size, putL_len HR.out.len])
 refine wp_region_mixH (fun _ => True) [(true, 0), (true, 1), (true, 2), (false, 3), (false, 4)] (by kernel_rfl) (by kernel_rfl) trivial (fun hne => ?_)
 iterate 3 (refine mix_take (o := ⟨_, _, _, _, _, _⟩) rfl (fun K hK => ?_); go_simp; refine hK _ ?_; clear hK K)
 refine mix_app (o := ⟨_, _, _, _, _, _⟩) elB w9.drew rfl rfl (.tmp 51) (.tmp 52) rfl wh.heap.size (.slice B 88 d) 88 (u8s X) rfl ((New.dr (New.refl w9)).own HO9.out) (some ⟨b9, 0, none⟩) 16 _ (u8s (HS.take 16)) rfl ((New.dr (New.refl w9)).rd HR16.out) (u8s_one _) (by unfold maxLen; omega) (by omega) (by show _ ≤ w9.heap.size; have := HWH.out; have := HZ9.out; omega) ?_
 intro A1 d1 w10 hO10 hF10 hA10
 have hf10 := Fr.ofDrew hF10
 have HOA : Hid (w10.ownsRow wh.heap.size 5 1 (.slice A1 104 d1) 104 (u8s (X ++ HS.take 16))) := Lib.hid (by unfold u8s; rw [List.map_append]; exact hO10)
 have HBA4 : Hid (Blk w10 b4 220 (secA (List.replicate 128 0))) := Lib.hid (HB49.out.fr hf10 (fun h => HB4B.out.1 h))
 have HBA10 : Hid (Blk w10 b10 220 (u8s (List.replicate 128 0)).toArray) := Lib.hid (HB10.out.fr hf10 (fun h => HB4B.out.2 h))
 have HF10 := Lib.hid hf10
 clear hO10 hF10 hA10 hf10
 refine ⟨fun _ => trivial, ?_⟩
 refine mix_copyF (o := ⟨_, _, _, _, _, _⟩) (q := fun k => (Value.slice A1 104 d1).ownBlock = some k) rfl rfl (.tmp 50) (.tmp 53) 84 84 rfl 5 Tryz.underlying84 rfl b10 0 128 128 A1 104 d1 rfl rfl (u8s (List.replicate 128 0)) 220 HBA10.out (u8s (X ++ HS.take 16)) (by rw [HXL.out]; rfl) ⟨104, u8s (X ++ HS.take 16), Rd.own HOA.out rfl, List.take_length⟩ (by rw [HXL.out, u8s_len, List.length_replicate]; decide) (u8s_one _) ?_
 intro w11 hb11 hf11
 rw [HSP.out] at hb11
 have HB11 : Hid (Blk w11 b10 220 (secA (putL n r))) := Lib.hid hb11
 have HF11 := Lib.hid hf11
 have HBB4 : Hid (Blk w11 b4 220 (secA (List.replicate 128 0))) := Lib.hid (HBA4.out.fr hf11 (by have := HWH.out; have := HZ9.out; omega))
 clear hb11 hf11
 refine ⟨fun _ => trivial, ?_⟩
 refine mix_done ?_
 go_wp2_with (first
  | ((with_reducible refine atOp ⟨some 55, .load _ _, _, _, _, _⟩ ?_); refine wpList_load_any rfl _ rfl Tryz.underlying220 rfl (by rw [HPZ.out]; rfl) rfl HB11.out ?_)
  | ((with_reducible refine atOp ⟨none, .store 220 (.tmp 4) _, _, _, _, _⟩ ?_); refine wpList_store_any rfl (.tmp 4) (.tmp 55) rfl (by rw [HPZ.out]; rfl) rfl rfl HBB4.out (by rw [HPZ.out, secA_size, List.length_replicate]) (secA_one _) ?_; intro w12 hb12 hf12; have HB12 := Lib.hid hb12; have HF12 := Lib.hid hf12; clear hb12 hf12))
 exact bodyPost_ret (results_row2h rfl _ _ b4 _ _ rfl HB12.out Tryz.underlying220 rfl (by rw [HPZ.out]; rfl)) rfl ⟨rfl, (((HN6.out.tr HN9.out).fr HF10.out (fun k hk => by have h1 := own_lt HO.out _ hk; have := HWH.out; omega)).fr HF11.out (fun k hk => by have := HWH.out; have := HZ9.out; have := HN6.out.size; omega)).fr HF12.out (fun k hk => by have := HZ.out; omega)⟩
end Go.Proofs.YtmibndkofoldkaaGreatDoor
namespace Go.Proofs.YtmibndkofoldkaaGreatDoor
set_option linter.unusedVariables false
set_option linter.unusedSimpArgs false
set_option linter.constructorNameAsVariable false
open Go.RowKit Go.Sort
set_option maxHeartbeats 2000000 in
set_option maxRecDepth 100000 in
theorem right_any_l27 (r : Rc) (w : World) (hr : r.Ok) : Calls Tryz.prog 106 #[.agg r.cells] w fun e w' => e = .returned (.bool (decide r.Right)) ∧ New w w' := by
 have HRI : Hid (decide r.Right = true ↔ 1 ≤ r.blocks ∧ r.blocks ≤ 4294967296 ∧ 1 ≤ r.since ∧ r.since ≤ r.limit ∧ r.epoch < r.limit) := Lib.hid ⟨fun h => by have h := of_decide_eq_true h; exact ⟨h.1, h.2, h.3, h.4, h.5⟩, fun ⟨a, b, c, d, e⟩ => decide_eq_true ⟨a, b, c, d, e⟩⟩
 obtain ⟨bb, hbb⟩ : ∃ bb, bb = decide r.Right := ⟨_, rfl⟩
 rw [← hbb] at HRI ⊢
 have K1 : Hid (r.cells[32]? = some (.int .u64 r.blocks)) := Lib.hid (Rc.at hr.len 0)
 have K2 : Hid (r.cells[33]? = some (.int .u64 r.epoch)) := Lib.hid (Rc.at hr.len 1)
 have K3 : Hid (r.cells[34]? = some (.int .u64 r.since)) := Lib.hid (Rc.at hr.len 2)
 have K4 : Hid (r.cells[35]? = some (.int .u64 r.limit)) := Lib.hid (Rc.at hr.len 3)
 obtain ⟨RC, hRC⟩ : ∃ RC, RC = r.cells := ⟨_, rfl⟩
 rw [← hRC] at K1 K2 K3 K4 ⊢
 obtain ⟨bl, hbl⟩ : ∃ x, x = r.blocks := ⟨_, rfl⟩
 obtain ⟨ep, hep⟩ : ∃ x, x = r.epoch := ⟨_, rfl⟩
 obtain ⟨si, hsi⟩ : ∃ x, x = r.since := ⟨_, rfl⟩
 obtain ⟨li, hli⟩ : ∃ x, x = r.limit := ⟨_, rfl⟩
 rw [← hbl] at K1 HRI
 rw [← hep] at K2 HRI
 rw [← hsi] at K3 HRI
 rw [← hli] at K4 HRI
 clear hr hRC hbl hep hsi hli hbb
 go_enter Tryz.func106, Tryz.ntmps106
 go_upto_region 1 with fail
 obtain ⟨w1, hw1⟩ : ∃ w1 : World, w1 = w.alloc (.cells RC 63) := ⟨_, rfl⟩
 obtain ⟨b3, hb3⟩ : ∃ b3, b3 = w.heap.size := ⟨_, rfl⟩
 have HN1 : Hid (New w w1) := Lib.hid (by rw [hw1]; exact New.al (New.refl _) _)
 have HB3 : Hid (Blk w1 b3 63 RC) := Lib.hid (by rw [hw1, hb3]; exact Blk.new _ _ _)
 rw [← hw1, ← hb3]
 clear hw1 hb3
 have c1 : w1.cell? ⟨b3, 32, none⟩ = some (.int .u64 bl) := by rw [HB3.out.cell]; exact K1.out
 have c2 : w1.cell? ⟨b3, 33, none⟩ = some (.int .u64 ep) := by rw [HB3.out.cell]; exact K2.out
 have c3 : w1.cell? ⟨b3, 34, none⟩ = some (.int .u64 si) := by rw [HB3.out.cell]; exact K3.out
 have c4 : w1.cell? ⟨b3, 35, none⟩ = some (.int .u64 li) := by rw [HB3.out.cell]; exact K4.out
 go_wp2_with fail
 all_goals
  go_ret
  refine ⟨?_, HN1.out⟩
  have hri := HRI.out
  show Ending.returned (.bool _) = _
  rcases bb with _ | _
  all_goals
   simp at hri ⊢
   try omega
end Go.Proofs.YtmibndkofoldkaaGreatDoor
