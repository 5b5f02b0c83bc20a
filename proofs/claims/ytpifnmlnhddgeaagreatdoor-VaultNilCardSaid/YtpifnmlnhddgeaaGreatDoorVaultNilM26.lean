/- Texts of one proof, one behind the other: KvI, KvM, KvO, KvQ, KvR, KvU, OcF, KvV, KvW, KvBa, AppIn. No condition but each one's own. -/
import Derived.Test.YtpifnmlnhddgeaaGreatDoorVaultNilM16
import Derived.Laws.IdiomStrings
import Derived.Sort.Walk0
import Derived.Test.YtpifnmlnhddgeaaGreatDoorVaultNilM4
import Derived.SizedLaws
import Derived.OpenShut
import Derived.Test.YtpifnmlnhddgeaaGreatDoorVaultNilM2
import Derived.Test.YtpifnmlnhddgeaaGreatDoorVaultNilM6
import Derived.Test.YtpifnmlnhddgeaaGreatDoorVaultNilM1
import Derived.OwnWalkIn
import Derived.TacticsInMore
namespace Go.Proofs.YtpifnmlnhddgeaaGreatDoor
set_option linter.unusedVariables false
set_option linter.unusedSimpArgs false
set_option linter.constructorNameAsVariable false
open Go.RowKit Go.Maps Go.Sort
theorem conv_back (xs : List Int) (hb : Byt xs) (w : World) : ∃ (c : Nat) (w' : World), (convert 9 122 (.string (strOfNums xs))).run Tryz.prog w = .ok (.slice (some ⟨w.heap.size, 0, none⟩) xs.length c) w' ∧ New w w' ∧ Rd (fun k => k = w.heap.size) w' 1 (some ⟨w.heap.size, 0, none⟩) xs.length (u8s xs) := by
 have h := Go.run_bytes_of_string (P := Tryz.prog) w 9 122 5 (strOfNums xs) Tryz.underlying9 Tryz.underlying122 Tryz.underlying5
 rw [strOfNums_size] at h
 refine ⟨_, _, h, New.al (New.dr (New.refl w)) _, u8s_len xs ▸ by omega, fun _ => ⟨_, rfl, rfl, by simp, fun j u hu => ?_⟩⟩
 have hj : j < xs.length := by
  have := (List.getElem?_eq_some_iff.1 hu).1
  rwa [u8s_len] at this
 have hx := hb _ (List.getElem_mem hj)
 have hu' : u = .int .u8 xs[j] := by
  unfold u8s at hu
  rw [List.getElem?_map, List.getElem?_eq_getElem hj] at hu
  simpa using hu.symm
 subst hu'
 have hd : (strOfNums xs).data[j]? = some (UInt8.ofNat xs[j].toNat) := by
  have h1 := strs_of (xs := xs)
  have h2 : (strOfNums xs).data.toList[j]? = some (UInt8.ofNat xs[j].toNat) := by
   rw [h1, List.getElem?_map, List.getElem?_eq_getElem hj]
   rfl
  rwa [Array.getElem?_toList] at h2
 have hds : j < (strOfNums xs).data.size := (Array.getElem?_eq_some_iff.1 hd).1
 have hcs : (bytesRow (strOfNums xs) (grownCap w xs.length 0 5))[j]? = some (.int .u8 xs[j]) := by
  unfold bytesRow
  rw [Array.getElem?_append_left (by simpa using hds), Array.getElem?_map, hd]
  have : ((UInt8.ofNat xs[j].toNat).toNat : Int) = xs[j] := by
   rw [UInt8.toNat_ofNat']
   omega
  simp only [Option.map_some, this]
 generalize bytesRow (strOfNums xs) (grownCap w xs.length 0 5) = cs at hcs
 have hW : (w.drew.alloc (.cells cs 5 (cs.size, cs.size + 1))).heap[w.heap.size]? = some (.cells cs 5 (cs.size, cs.size + 1)) := by
  show (w.heap.push _)[w.heap.size]? = _
  simp
 rw [add_own]
 simp only [World.cell?, hW]
 simpa using hcs
end Go.Proofs.YtpifnmlnhddgeaaGreatDoor
namespace Go.Proofs.YtpifnmlnhddgeaaGreatDoor
set_option linter.unusedVariables false
set_option linter.unusedSimpArgs false
set_option linter.constructorNameAsVariable false
open Go.RowKit Go.Maps Go.Sort
def ch0 : Ch := ⟨⟨none, 0, 0, []⟩, ⟨none, 0, 0, []⟩, false⟩
theorem cells_one (c : Ch) : ∀ u ∈ c.cells, u.oneCell' = true := by
 intro u hu
 simp [Ch.cells] at hu
 rcases hu with rfl | rfl | rfl <;> rfl
end Go.Proofs.YtpifnmlnhddgeaaGreatDoor
namespace Go.Proofs.YtpifnmlnhddgeaaGreatDoor
set_option linter.unusedVariables false
set_option linter.unusedSimpArgs false
set_option linter.constructorNameAsVariable false
open Go.RowKit Go.Maps Go.Sort
theorem szs {P : Nat → Prop} {w : World} {x : Fm} (h : x.In P w) : x.In (fun b => b < w.heap.size) w := ⟨rd_szs h.rd, h.byt⟩
theorem Ch.In.szs {P : Nat → Prop} {w : World} {c : Ch} (h : c.In P w) : c.In (fun b => b < w.heap.size) w := ⟨Go.Proofs.YtpifnmlnhddgeaaGreatDoor.szs h.k, Go.Proofs.YtpifnmlnhddgeaaGreatDoor.szs h.v⟩
structure RTb (w : World) (A : Option Addr) (n : Nat) (L : List Ch) : Prop where
 rd : Rd (fun b => b < w.heap.size) w 3 A n (L.flatMap Ch.cells)
 len : L.length = n
 el : ∀ c ∈ L, c.In (fun b => b < w.heap.size) w
theorem cells_len (L : List Ch) : (L.flatMap Ch.cells).length = L.length * 3 := by
 induction L with
 | nil => rfl
 | cons c L ih => rw [List.flatMap_cons, List.length_append, ih]; simp [Ch.cells]; omega
theorem RTb.new {w w' : World} {A : Option Addr} {n : Nat} {L : List Ch} (h : RTb w A n L) (hN : New w w') : RTb w' A n L :=
 ⟨rd_szs (hN.rd h.rd), h.len, fun c hc => Ch.In.szs ((h.el c hc).new hN)⟩
end Go.Proofs.YtpifnmlnhddgeaaGreatDoor
namespace Go.Proofs.YtpifnmlnhddgeaaGreatDoor
set_option linter.unusedVariables false
set_option linter.unusedSimpArgs false
set_option linter.constructorNameAsVariable false
open Go.RowKit Go.Maps Go.Sort
def cl (L : List Ch) : CT := L.map fun c => (c.k.xs, c.v.xs)
structure Kn (T : CT) : Prop where
 nd : (T.map Prod.fst).Nodup
 byt : ∀ e ∈ T, Byt e.1
theorem Kn.del {T : CT} (h : Kn T) (k : List Int) : Kn (cdel T k) := ⟨(List.Sublist.map _ List.filter_sublist).nodup h.nd, fun e he => h.byt e (List.mem_filter.1 he).1⟩
theorem Kn.put {T : CT} (h : Kn T) {k v : List Int} (hk : Byt k) : Kn (cput T k v) := by
 refine ⟨?_, fun e he => ?_⟩
 · unfold cput
   rw [List.map_append, List.nodup_append]
   refine ⟨(h.del k).nd, by simp, fun x hx y hy e => ?_⟩
   simp at hy
   subst hy e
   simp [cdel] at hx
 · rcases List.mem_append.1 he with he | he
   · exact (h.del k).byt e he
   · rw [List.mem_singleton.1 he]
     exact hk
theorem sct_perm (T : CT) : (sct_l19 T).Perm T := List.mergeSort_perm T _
end Go.Proofs.YtpifnmlnhddgeaaGreatDoor
namespace Go.Proofs.YtpifnmlnhddgeaaGreatDoor
set_option linter.unusedVariables false
set_option linter.unusedSimpArgs false
set_option linter.constructorNameAsVariable false
open Go.RowKit Go.Maps Go.Sort Go.WideShapes Go.ChangeShapes
section
variable {H : Type} {enc : TypeId × Value → H} {w : World}
structure Sl where
 A : Option Addr
 n : Nat
 c : Nat
 L : List Ch
def Sl.cells (x : Sl) : List Value := [.slice x.A x.n x.c]
end
end Go.Proofs.YtpifnmlnhddgeaaGreatDoor
namespace Go.Proofs.YtpifnmlnhddgeaaGreatDoor
set_option linter.unusedVariables false
set_option linter.unusedSimpArgs false
set_option linter.constructorNameAsVariable false
open Go.RowKit Go.Maps Go.Sort
def chB (c : Ch) : List Int := [if !c.d then 1 else 0] ++ beL 2 c.k.n ++ c.k.xs ++ (if c.d then [] else beL 2 c.v.n ++ c.v.xs)
def putB (L : List Ch) : List Int := beL 2 L.length ++ L.flatMap chB
theorem chB_len {c : Ch} (hk : c.k.xs.length = c.k.n) (hv : c.v.xs.length = c.v.n) : (chB c).length ≤ 5 + c.k.n + c.v.n := by
 unfold chB
 simp only [List.length_append, List.length_singleton, beL_len, hk]
 split
 · simp; omega
 · simp [beL_len, hv]; omega
theorem putB_take {L : List Ch} {k : Nat} (h : k < L.length) : (L.take (k + 1)).flatMap chB = (L.take k).flatMap chB ++ chB L[k] := by
 rw [List.take_succ_eq_append_getElem h, List.flatMap_append]
 simp
theorem flat_len {L : List Ch} (h : ∀ c ∈ L, (chB c).length ≤ 40000) (j : Nat) (hj : j ≤ L.length) : ((L.take j).flatMap chB).length ≤ j * 40000 := by
 induction j with
 | zero => simp
 | succ j ih =>
  rw [putB_take (by omega), List.length_append]
  have := ih (by omega)
  have := h L[j] (List.getElem_mem _)
  omega
theorem put_bad (A : Option Addr) (n c : Nat) (L : List Ch) (w : World) (h : RTb w A n L) (hn : n ≤ 100000000) (hb : ∀ c ∈ L, c.k.n ≤ maxLen ∧ c.v.n ≤ maxLen) (hbad : chsOk L = false) :
    Calls Tryz.prog 124 #[.slice A n c] w fun e w' => e = .returned (.tuple #[.slice none 0 0, .iface 99 (.int .i64 2)]) ∧ New w w' := by
 have HC := Lib.hid (rights_any A n c L w h.rd h.len hn hb)
 rw [hbad] at HC
 clear h hn hb hbad
 go_enter Tryz.func124, Tryz.ntmps124
 go_wp2_with fail
 refine HC.out.mono ?_
 rintro e w1 ⟨rfl, hN1⟩
 have HN1 := Lib.hid hN1
 clear hN1 HC
 go_wp2_with fail
 go_ret2
 exact ⟨rfl, HN1.out⟩
def PutI (w : World) (g j n : Nat) (L : List Ch) (wr : World) : Prop := New w wr ∧ w.heap.size ≤ g ∧ WrIn wr g g (beL 2 n ++ (L.take j).flatMap chB)
def BoxS (b : Nat) (k v d : Value) (w : World) : Prop := w.cell? ⟨b, 0, none⟩ = some k ∧ w.cell? ⟨b, 1, none⟩ = some v ∧ w.cell? ⟨b, 2, none⟩ = some d
theorem BoxS.of {W : World} {b : Nat} {k v d : Value} (h : Blk W b 124 #[k, v, d]) : BoxS b k v d W := ⟨h.cell 0, h.cell 1, h.cell 2⟩
set_option maxHeartbeats 8000000 in
set_option maxRecDepth 100000 in
theorem put_any (A : Option Addr) (n c : Nat) (L : List Ch) (w : World) (h : RTb w A n L) (hok : chsOk L = true) :
    Calls Tryz.prog 124 #[.slice A n c] w fun e w' => (∃ A' c' base, e = .returned (.tuple #[.slice A' (putB L).length c', .nilIface]) ∧ w.heap.size ≤ base ∧ w'.ownsRow base 5 1 (.slice A' (putB L).length c') (putB L).length (u8s (putB L))) ∧ New w w' := by
 obtain ⟨hl1, hl2, hch⟩ := chsOk_spec hok
 have hn6 : n ≤ 600 := by have := h.len; omega
 have HC := Lib.hid (rights_any A n c L w h.rd h.len (by omega) (fun c hc => by have := hch c hc; unfold maxLen; omega))
 rw [hok] at HC
 have hcl : ∀ c ∈ L, (chB c).length ≤ 40000 := fun c hc => by
  have h1 := chB_len (h.el c hc).k.len (h.el c hc).v.len
  have := hch c hc
  omega
 have HCL := Lib.hid hcl
 have H := Lib.hid h
 have HCH := Lib.hid hch
 clear h hok hl1 hl2 hch hcl
 go_enter Tryz.func124, Tryz.ntmps124
 go_wp2_with fail
 refine HC.out.mono ?_
 rintro e w1 ⟨rfl, hN1⟩
 have HN1 := Lib.hid hN1
 clear hN1 HC
 go_upto_region 4 with fail
 obtain ⟨w2, hw2⟩ : ∃ w2 : World, w2 = w1.alloc (.cells #[.nilIface, .slice none 0 0] 255) := ⟨_, rfl⟩
 obtain ⟨g, hg⟩ : ∃ g, g = w1.heap.size := ⟨_, rfl⟩
 have HN2 : Hid (New w w2) := Lib.hid (by rw [hw2]; exact New.al HN1.out _)
 have HW2 : Hid (WrIn w2 g g []) := Lib.hid ⟨⟨none, 0, by rw [hw2, hg]; exact Blk.new _ _ _, World.ownsRow_nil _ _ _ _⟩, Nat.le_refl _, fun x hx => nomatch hx⟩
 have HZ : Hid (w.heap.size ≤ g) := Lib.hid (by rw [hg]; exact HN1.out.size)
 rw [← hw2, ← hg]
 clear hw2 hg HN1
 go_wp2_with fail
 refine (wnum_any HW2.out n 2 (by omega) (by omega) (by simp)).mono ?_
 rintro e w3 ⟨rfl, hW3, hF3⟩
 have HI : Hid (PutI w g 0 n L w3) := Lib.hid ⟨hF3.toNew HN2.out HZ.out (Nat.le_refl _), HZ.out, by simpa using hW3⟩
 clear hW3 hF3 HW2 HN2
 go_wp2_with fail
 go_loopw [20] (fun i wr => ∃ (j : Nat), j ≤ n ∧ i = .int .i64 j ∧ Hid (PutI w g j n L wr)) (fun i _ => n - (intOf i).toNat)
 case atStart => exact ⟨0, Nat.zero_le _, rfl, HI⟩
 case round =>
  obtain ⟨j, hj, rfl, HR⟩ := hrel
  clear HI
  have hlen : (beL 2 n ++ (L.take j).flatMap chB).length ≤ 100000000 := by
   rw [List.length_append, beL_len]
   have := flat_len HCL.out j (by rw [H.out.len]; exact hj)
   omega
  have HLEN := Lib.hid hlen
  clear hlen
  by_cases hlt : j < n
  · as_aux_lemma =>
    obtain ⟨gA, o, hl, rfl, -, -, hrg⟩ := rd_row (f := Ch.cells) (L := L) (fun _ => rfl) (by omega) (HR.out.1.rd H.out.rd) hlt
    have c0 : wr.cell? ⟨gA, o + j * 3, none⟩ = some (.slice L[j].k.A L[j].k.n L[j].k.c) := hrg 0 _ rfl
    have c1 : wr.cell? ⟨gA, o + j * 3 + 1, none⟩ = some (.slice L[j].v.A L[j].v.n L[j].v.c) := hrg 1 _ rfl
    have c2 : wr.cell? ⟨gA, o + j * 3 + 2, none⟩ = some (.bool L[j].d) := hrg 2 _ rfl
    have hin := H.out.el L[j] (List.getElem_mem _)
    have hch := HCH.out L[j] (List.getElem_mem _)
    have hst := putB_take hl
    generalize L[j] = x at c0 c1 c2 hin hch hst
    obtain ⟨⟨kA, kn, kc, ks⟩, ⟨vA, vn, vc, vs⟩, d⟩ := x
    dsimp only at c0 c1 c2 hch
    have HIN := Lib.hid hin
    have HST := Lib.hid hst
    have hj0 : (0 : Int) ≤ (j : Int) := by omega
    have hjn : (j : Int) < (n : Int) := by omega
    clear hrg hl hin hst
    go_upto_region 8 with fail
    obtain ⟨w4, hw4⟩ : ∃ w4 : World, w4 = wr.alloc (.cells #[.slice kA kn kc, .slice vA vn vc, .bool d] 124) := ⟨_, rfl⟩
    obtain ⟨b6, hb6⟩ : ∃ b6, b6 = wr.heap.size := ⟨_, rfl⟩
    have HN4 : Hid (New wr w4) := Lib.hid (by rw [hw4]; exact New.al (New.refl _) _)
    have HB4 : Hid (Blk w4 b6 124 #[.slice kA kn kc, .slice vA vn vc, .bool d]) := Lib.hid (by rw [hw4, hb6]; exact Blk.new _ _ _)
    have HW4 := Lib.hid (HR.out.2.2.new HN4.out)
    have hgb : b6 ≠ g := by have := HR.out.2.2.lt; omega
    rw [← hw4, ← hb6]
    clear hw4 hb6 c0 c1 c2
    obtain ⟨xs, hxs⟩ : ∃ xs, xs = beL 2 n ++ (L.take j).flatMap chB := ⟨_, rfl⟩
    rw [← hxs] at HW4 HLEN
    have HXS := Lib.hid hxs
    clear hxs
    have hS0 : BoxS b6 (.slice kA kn kc) (.slice vA vn vc) (.bool d) w4.drew := BoxS.of HB4.out
    refine wp_region_mixH (BoxS b6 (.slice kA kn kc) (.slice vA vn vc) (.bool d)) [(true, 0), (true, 1), (true, 2), (true, 3), (true, 5), (true, 6), (false, 4), (false, 7)] (by kernel_rfl) (by kernel_rfl) hS0 (fun hne => ?_)
    have q0 : ∀ p : HW (BoxS b6 (.slice kA kn kc) (.slice vA vn vc) (.bool d)), p.w.cell? ⟨b6, 0, none⟩ = some (.slice kA kn kc) := fun p => p.h.1
    have q2 : ∀ p : HW (BoxS b6 (.slice kA kn kc) (.slice vA vn vc) (.bool d)), p.w.cell? ⟨b6, 2, none⟩ = some (.bool d) := fun p => p.h.2.2
    iterate 6 (refine mix_take (o := ⟨_, _, _, _, _, _⟩) rfl (fun K hK => ?_); go_simp; refine hK _ ?_; clear hK K)
    clear q0 q2 hne
    refine mix_act (o := ⟨_, _, _, _, _, _⟩) rfl (fun K hK => ?_) (.inl rfl)
    go_simp
    refine (wflag_any (HW4.out.new (New.dr (New.refl _))) (!d) (by have := HLEN.out; omega)).mono ?_
    rintro e w5 ⟨rfl, hW5, hF5⟩
    have HF5 : Hid (FW g g w4 w5) := Lib.hid ((FW.new (New.dr (New.refl _))).tr hF5)
    have HW5 := Lib.hid hW5
    have HB5 : Hid (Blk w5 b6 124 #[.slice kA kn kc, .slice vA vn vc, .bool d]) := Lib.hid (HF5.out.blk HB4.out (by decide) hgb)
    clear hW5 hF5
    refine hK.out _ _ (fun _ => BoxS.of HB5.out) ?_
    clear hK K
    have HN5 : Hid (New w w5) := Lib.hid (HF5.out.toNew (HR.out.1.tr HN4.out) HR.out.2.1 (Nat.le_refl _))
    refine mix_act (o := ⟨_, _, _, _, _, _⟩) rfl (fun K hK => ?_) (.inl rfl)
    go_simp
    refine (wbytes_any HW5.out kA kn kc ks (HN5.out.rd HIN.out.k.rd) HIN.out.k.byt (by omega) (by rw [List.length_append, List.length_singleton]; have := HLEN.out; omega) (fun k hk => ⟨by have := HR.out.2.1; omega, .inl (by have := HR.out.2.1; omega)⟩)).mono ?_
    rintro e w6 ⟨rfl, hW6, hF6⟩
    have HF6 : Hid (FW g g w4 w6) := Lib.hid (HF5.out.tr hF6)
    have HW6 := Lib.hid hW6
    have HB6 : Hid (Blk w6 b6 124 #[.slice kA kn kc, .slice vA vn vc, .bool d]) := Lib.hid (hF6.blk HB5.out (by decide) hgb)
    have HN6 : Hid (New w w6) := Lib.hid (hF6.toNew HN5.out HR.out.2.1 (Nat.le_refl _))
    clear hW6 hF6
    refine hK.out _ _ (fun _ => BoxS.of HB6.out) ?_
    clear hK K
    refine mix_done ?_
    have e1 : w6.cell? ⟨b6, 1, none⟩ = some (.slice vA vn vc) := HB6.out.cell 1
    have e2 : w6.cell? ⟨b6, 2, none⟩ = some (.bool d) := HB6.out.cell 2
    cases d
    · go_wp2_with fail
      refine (wbytes_any HW6.out vA vn vc vs (HN6.out.rd HIN.out.v.rd) HIN.out.v.byt (by omega) (by simp only [List.length_append, List.length_singleton, beL_len]; have := HLEN.out; have := HIN.out.k.len; dsimp only at this; omega) (fun k hk => ⟨by have := HR.out.2.1; omega, .inl (by have := HR.out.2.1; omega)⟩)).mono ?_
      rintro e w7 ⟨rfl, hW7, hF7⟩
      have HW7 := Lib.hid hW7
      have HN7 : Hid (New w w7) := Lib.hid (hF7.toNew HN6.out HR.out.2.1 (Nat.le_refl _))
      clear hW7 hF7 e1 e2
      go_wp2_with fail
      go_roundw
      case rel =>
       refine ⟨j + 1, by omega, by go_num, Lib.hid ⟨HN7.out, HR.out.2.1, ?_⟩⟩
       rw [HST.out]
       have := HW7.out
       rw [HXS.out] at this
       simpa [chB] using this
      case measure => simp [intOf]; omega
    · go_wp2_with fail
      go_roundw
      case rel =>
       refine ⟨j + 1, by omega, by go_num, Lib.hid ⟨HN6.out, HR.out.2.1, ?_⟩⟩
       rw [HST.out]
       have := HW6.out
       rw [HXS.out] at this
       simpa [chB] using this
      case measure => simp [intOf]; omega
  · as_aux_lemma =>
    obtain rfl : j = n := by omega
    have hp : beL 2 j ++ (L.take j).flatMap chB = putB L := by
     unfold putB
     rw [← H.out.len, List.take_length]
    have hW := HR.out.2.2
    have hlen := HLEN.out
    rw [hp] at hW hlen
    have HD := Lib.hid (wdone_any hW (by omega))
    clear hW hp hlen
    go_wp2_with fail
    refine HD.out.mono ?_
    rintro e w3 ⟨⟨A3, c3, rfl, hO3⟩, hN3⟩
    have HO3 := Lib.hid hO3
    have HN3 := Lib.hid hN3
    clear hO3 hN3 HD
    generalize hpl : (putB L).length = pl at *
    go_wp2_with fail
    go_ret2
    rw [hpl]
    exact ⟨⟨A3, c3, wr.heap.size, rfl, HR.out.1.size, HO3.out⟩, HR.out.1.tr HN3.out⟩
end Go.Proofs.YtpifnmlnhddgeaaGreatDoor
namespace Go.Proofs.YtpifnmlnhddgeaaGreatDoor
set_option linter.unusedVariables false
set_option linter.unusedSimpArgs false
set_option linter.constructorNameAsVariable false
open Go.RowKit Go.Maps
set_option maxHeartbeats 2000000 in
theorem rflag_any {g : Nat} {s : Rs} {w : World} (h : RdIn w g s) :
    Calls Tryz.prog 209 #[.pointer (some ⟨g, 0, none⟩)] w fun x w' => x = .returned (.bool s.flag.1) ∧ RdIn w' g s.flag.2 ∧ Fr (fun k => k = g) w w' := by
 have HL := Lib.hid (rleft_any h)
 have HFL := Lib.hid (rfail_any h 2 (by omega))
 have HN := Lib.hid (rnum_any h 1 (by omega))
 by_cases hl1 : s.left < 1
 · have hx : s.flag = (false, s.bad 2) := by unfold Rs.flag; rw [if_pos (.inl hl1)]
   rw [hx]
   generalize s.left = l at *
   clear hx h
   have hd : decide ((l : Int) < 1) = true := decide_eq_true (by omega)
   go_enter Tryz.func209, Tryz.ntmps209
   go_wp2_with fail
   refine HL.out.mono ?_
   rintro e w1 ⟨rfl, rfl⟩
   go_wp2_with fail
   refine HFL.out.mono ?_
   rintro e w2 ⟨rfl, hR2, hF2⟩
   have HR2 := Lib.hid hR2
   have HF2 := Lib.hid hF2
   clear hR2 hF2
   go_wp2_with fail
   go_ret
   exact ⟨rfl, HR2.out, HF2.out⟩
 · obtain ⟨gA, o, c, hb, hq, hle⟩ := h.left1 (by omega)
   have hxl : 0 < s.xs.length := by omega
   have h0 : s.xs[0]? = some s.xs[0] := List.getElem?_eq_getElem hxl
   have hby := h.byt s.xs[0] (List.getElem_mem _)
   have hhd : s.xs.headD 0 = s.xs[0] := by
    obtain ⟨xs, e⟩ := s
    match xs, hxl with
    | a :: r, _ => rfl
   have k0 : w.cell? ⟨gA, o, none⟩ = some (.int .u8 s.xs[0]) := hq 0 _ h0
   have c1 : w.cell? ⟨g, 1, none⟩ = some (.slice (some ⟨gA, o, none⟩) s.xs.length c) := hb.cell 1
   have hd : decide ((s.left : Int) < 1) = false := decide_eq_false (by omega)
   have hf : s.flag = if (1 : Int) < s.xs[0] then (false, s.bad 2) else (decide ((s.num 1).1 = 1), (s.num 1).2) := by
    unfold Rs.flag
    rw [hhd]
    by_cases h1 : (1 : Int) < s.xs[0]
    · rw [if_pos (.inr h1), if_pos h1]
    · rw [if_neg (by rintro (h | h) <;> omega), if_neg h1]
   rw [hf]
   rw [hle] at HL hd
   generalize s.xs[0] = x at *
   generalize s.xs.length = l at *
   clear hq hb hhd hf h0 hle hl1 h
   by_cases h1 : 1 < x
   · have hd1 : decide (1 < x) = true := decide_eq_true h1
     rw [if_pos h1]
     go_enter Tryz.func209, Tryz.ntmps209
     go_wp2_with fail
     refine HL.out.mono ?_
     rintro e w1 ⟨rfl, rfl⟩
     go_wp2_with fail
     refine HFL.out.mono ?_
     rintro e w2 ⟨rfl, hR2, hF2⟩
     have HR2 := Lib.hid hR2
     have HF2 := Lib.hid hF2
     clear hR2 hF2
     go_wp2_with fail
     go_ret
     exact ⟨rfl, HR2.out, HF2.out⟩
   · have hd1 : decide (1 < x) = false := decide_eq_false h1
     rw [if_neg h1]
     generalize (s.num 1).1 = v at *
     go_enter Tryz.func209, Tryz.ntmps209
     go_wp2_with fail
     refine HL.out.mono ?_
     rintro e w1 ⟨rfl, rfl⟩
     go_wp2_with fail
     refine HN.out.mono ?_
     rintro e w2 ⟨rfl, hR2, hF2⟩
     have HR2 := Lib.hid hR2
     have HF2 := Lib.hid hF2
     clear hR2 hF2
     go_wp2_with fail
     go_ret
     refine ⟨?_, HR2.out, HF2.out⟩
     congr 2
     by_cases hv : v = 1
     · subst hv; rfl
     · rw [decide_eq_false hv]
       simp
       omega
end Go.Proofs.YtpifnmlnhddgeaaGreatDoor
namespace Go.Proofs.YtpifnmlnhddgeaaGreatDoor
set_option linter.unusedVariables false
set_option linter.unusedSimpArgs false
set_option linter.constructorNameAsVariable false
open Go.RowKit Go.Maps Go.Sort
structure PC where
 k : List Int
 v : List Int
 d : Bool
def pcOf (c : Ch) : PC := ⟨c.k.xs, c.v.xs, c.d⟩
def prsStep (s : Rs) : PC × Rs :=
 if s.flag.1 then (⟨(s.flag.2.bytes 16).1, ((s.flag.2.bytes 16).2.bytes 16384).1, false⟩, ((s.flag.2.bytes 16).2.bytes 16384).2)
 else (⟨(s.flag.2.bytes 16).1, [], true⟩, (s.flag.2.bytes 16).2)
def prs : Nat → Rs → List PC → List PC × Rs
 | 0, s, out => (out, s)
 | n + 1, s, out => if (prsStep s).1.k = [] then (out, (prsStep s).2.bad 2) else prs n (prsStep s).2 (out ++ [(prsStep s).1])
def pcOk (c : PC) : Bool := decide (1 ≤ c.k.length) && decide (c.k.length ≤ 16) && decide (c.v.length ≤ 16384) && !(c.d && decide (0 < c.v.length))
def pcsOk (L : List PC) : Bool := decide (1 ≤ L.length) && decide (L.length ≤ 600) && L.all pcOk
def parseB (xs : List Int) : Option (List PC) :=
 if (prs ((⟨xs, 0⟩ : Rs).num 2).1 ((⟨xs, 0⟩ : Rs).num 2).2 []).2.fin = 0 ∧ pcsOk (prs ((⟨xs, 0⟩ : Rs).num 2).1 ((⟨xs, 0⟩ : Rs).num 2).2 []).1 = true then some (prs ((⟨xs, 0⟩ : Rs).num 2).1 ((⟨xs, 0⟩ : Rs).num 2).2 []).1 else none
structure Ch.InT (w : World) (c : Ch) : Prop where
 k : RdT 5 w 1 c.k.A c.k.n (u8s c.k.xs)
 kb : Byt c.k.xs
 v : RdT 5 w 1 c.v.A c.v.n (u8s c.v.xs)
 vb : Byt c.v.xs
theorem Ch.InT.fr {S : Nat → Prop} {w w' : World} {c : Ch} (h : c.InT w) (hF : Fr S w w') (hS : ∀ k, S k → ¬ IsT 5 w k) : c.InT w' := ⟨h.k.fr hF hS, h.kb, h.v.fr hF hS, h.vb⟩
theorem Ch.InT.in_ {w : World} {c : Ch} (h : c.InT w) : c.In (fun b => b < w.heap.size) w := ⟨⟨rd_szs h.k, h.kb⟩, ⟨rd_szs h.v, h.vb⟩⟩
theorem Ch.InT.pc {w : World} {c : Ch} (h : c.InT w) : c.k.xs.length = c.k.n ∧ c.v.xs.length = c.v.n := ⟨h.in_.k.len, h.in_.v.len⟩
theorem pcOk_of {w : World} {c : Ch} (h : c.InT w) : pcOk (pcOf c) = chOk c := by
 obtain ⟨h1, h2⟩ := h.pc
 unfold pcOk chOk pcOf
 simp only [h1, h2]
theorem pcsOk_of {w : World} {L : List Ch} (h : ∀ c ∈ L, c.InT w) : pcsOk (L.map pcOf) = chsOk L := by
 unfold pcsOk chsOk
 have hlen : (L.map pcOf).length = L.length := by simp
 have e : (L.map pcOf).all pcOk = L.all chOk := by
  clear hlen
  induction L with
  | nil => rfl
  | cons c L ih => rw [List.map_cons, List.all_cons, List.all_cons, pcOk_of (h c (List.mem_cons_self ..)), ih fun c hc => h c (List.mem_cons_of_mem _ hc)]
 rw [hlen, e]
theorem bytes_le (s : Rs) (most : Nat) : (s.bytes most).1.length ≤ most := by
 unfold Rs.bytes
 split
 · simp
 · split
   · simp
   · next h =>
     have := raw_le (s.raw 2).2 (valL (s.xs.take 2))
     omega
theorem raw_byt2 {s : Rs} (h : Byt s.xs) (n : Nat) : Byt (s.raw n).2.xs := by
 unfold Rs.raw
 split
 · unfold Rs.bad
   split <;> exact h
 · exact fun x hx => h x (List.mem_of_mem_drop hx)
theorem bytes_byt {s : Rs} (h : Byt s.xs) (most : Nat) : Byt (s.bytes most).1 := by
 unfold Rs.bytes
 split
 · intro x hx; cases hx
 · split
   · intro x hx; cases hx
   · exact raw_byt (raw_byt2 h 2) _
structure PrI (w : World) (g : Nat) (s : Rs) (A : Option Addr) (m c : Nat) (L : List Ch) (wr : World) : Prop where
 new : New w wr
 gz : w.heap.size ≤ g
 rd : RdIn wr g s
 own : wr.ownsRow w.heap.size 124 3 (.slice A m c) m (L.flatMap Ch.cells)
 el : ∀ c ∈ L, c.InT wr
 sz : ∀ c ∈ L, c.k.n ≤ 16 ∧ c.v.n ≤ 16384
theorem elC : ElemOf Tryz.prog 211 124 3 56 := ElemOf.mk' (z := .agg ch0.cells.toArray) Tryz.underlying211 (by kernel_rfl) rfl (by decide)
def ParseSays (w : World) (r : Option (List PC)) (e : Ending) (w' : World) : Prop :=
 (r = none ∧ e = .returned (.tuple #[.slice none 0 0, .iface 99 (.int .i64 2)])) ∨
 (∃ (A : Option Addr) (n c : Nat) (L : List Ch), r = some (L.map pcOf) ∧ e = .returned (.tuple #[.slice A n c, .nilIface]) ∧ RTb w' A n L)
set_option maxHeartbeats 8000000 in
set_option maxRecDepth 100000 in
theorem parse_any {p : Nat → Prop} (A : Option Addr) (n c : Nat) (xs : List Int) (w : World) (hR : Rd p w 1 A n (u8s xs)) (hb : Byt xs) (hn : n ≤ 140737488355328) :
    Calls Tryz.prog 122 #[.slice A n c] w fun e w' => ParseSays w (parseB xs) e w' ∧ New w w' := by
 have HF := Lib.hid (from_any A n c xs w hR hb hn)
 obtain ⟨N, hN⟩ : ∃ N, N = ((⟨xs, 0⟩ : Rs).num 2).1 := ⟨_, rfl⟩
 obtain ⟨s0, hs0⟩ : ∃ s0, s0 = ((⟨xs, 0⟩ : Rs).num 2).2 := ⟨_, rfl⟩
 have hN16 : N < 65536 := by
  rw [hN]
  unfold Rs.num
  have h1 := valL_lt (xs := ((⟨xs, 0⟩ : Rs).raw 2).1) (raw_byt (s := ⟨xs, 0⟩) hb 2)
  have h2 := raw_le (⟨xs, 0⟩ : Rs) 2
  have h3 : 256 ^ ((⟨xs, 0⟩ : Rs).raw 2).1.length ≤ 256 ^ 2 := Nat.pow_le_pow_right (by decide) h2
  exact Nat.lt_of_lt_of_le h1 h3
 obtain ⟨r, hr⟩ : ∃ r, r = prs N s0 [] := ⟨_, rfl⟩
 obtain ⟨q, hq⟩ : ∃ q, q = parseB xs := ⟨_, rfl⟩
 rw [← hq]
 unfold parseB at hq
 rw [← hN, ← hs0, ← hr] at hq
 have HNN := Lib.hid hN
 have HS0 := Lib.hid hs0
 have HRR := Lib.hid hr
 have HQ := Lib.hid hq
 clear hR hb hN hs0 hr hq
 go_enter Tryz.func122, Tryz.ntmps122
 go_wp2_with fail
 refine HF.out.mono ?_
 rintro e w1 ⟨g, rfl, hR1, hN1, hg⟩
 have HR1 := Lib.hid hR1
 have HN1 := Lib.hid hN1
 have HG := Lib.hid hg
 clear hR1 hN1 hg HF
 go_wp2_with fail
 refine (rnum_any HR1.out 2 (by omega)).mono ?_
 rintro e w2 ⟨rfl, hR2, hF2⟩
 rw [← HNN.out]
 rw [← HS0.out] at hR2
 have HI : Hid (PrI w g s0 none 0 0 [] w2) := Lib.hid ⟨HN1.out.fr hF2 (fun k hk => by have := HG.out; omega), HG.out, hR2, World.ownsRow_nil _ _ _ _, (fun c hc => nomatch hc), fun c hc => nomatch hc⟩
 have HP : Hid (r = prs (N - 0) s0 (([] : List Ch).map pcOf)) := Lib.hid HRR.out
 clear hR2 hF2 HR1 HN1
 go_wp2_with fail
 go_loopw [5, 11] (fun o i wr => ∃ (j m : Nat) (s : Rs) (A' : Option Addr) (c' : Nat) (L : List Ch), j ≤ N ∧ m ≤ j ∧ i = .int .u64 j ∧ o = .slice A' m c' ∧ Hid (PrI w g s A' m c' L wr) ∧ Hid (r = prs (N - j) s (L.map pcOf))) (fun o i _ => N - (intOf i).toNat)
 case atStart => exact ⟨0, 0, s0, none, 0, [], Nat.zero_le _, Nat.le_refl _, rfl, rfl, HI, HP⟩
 case round =>
  obtain ⟨j, m, s, A', c', L, hj, hm, rfl, rfl, HJ, HPJ⟩ := hrel
  clear HI HP
  by_cases hlt : j < N
  · skip
    obtain ⟨i0, hNj⟩ : ∃ i0, N - j = i0 + 1 := ⟨N - j - 1, by omega⟩
    obtain rfl : i0 = N - (j + 1) := by omega
    have hj0 : (0 : Int) ≤ (j : Int) := by omega
    have hjn : (j : Int) < (N : Int) := by omega
    cases hb : s.flag.1
    · as_aux_lemma =>
      have HFG := Lib.hid (rflag_any HJ.out.rd)
      rw [hb] at HFG
      obtain ⟨s1, hs1⟩ : ∃ s1, s1 = s.flag.2 := ⟨_, rfl⟩
      rw [← hs1] at HFG
      obtain ⟨key_l19, hkey⟩ : ∃ key_l19, key_l19 = (s1.bytes 16).1 := ⟨_, rfl⟩
      obtain ⟨s2, hs2⟩ : ∃ s2, s2 = (s1.bytes 16).2 := ⟨_, rfl⟩
      obtain ⟨kn, hkn⟩ : ∃ kn, kn = key_l19.length := ⟨_, rfl⟩
      have HSTP : Hid (prsStep s = (⟨key_l19, [], true⟩, s2)) := Lib.hid (by unfold prsStep; rw [hb, if_neg (by decide), ← hs1, ← hs2, ← hkey])
      have HKEY := Lib.hid hkey
      have HS2 := Lib.hid hs2
      have HKN := Lib.hid hkn
      have HK16 : Hid (kn ≤ 16) := Lib.hid (by rw [hkn, hkey]; exact bytes_le s1 16)
      clear hb hs1 hkey hs2 hkn
      go_wp2_with fail
      refine HFG.out.mono ?_
      rintro e w3 ⟨rfl, hR3, hF3⟩
      have HR3 := Lib.hid hR3
      have HF3 := Lib.hid hF3
      clear hR3 hF3
      have hky := rbytes_any HR3.out 16 (by omega)
      rw [← HS2.out, ← HKEY.out, ← HKN.out] at hky
      have HKY := Lib.hid hky
      clear hky
      go_wp2_with fail
      refine HKY.out.mono ?_
      rintro e w4 ⟨⟨kA, kc, rfl, bk, hbk, hO4⟩, hR4, hF4⟩
      have HF4 : Hid (Fr (fun k => k = g) wr w4) := Lib.hid (HF3.out.trans hF4)
      have HKB : Hid (Byt key_l19) := Lib.hid (by rw [HKEY.out]; exact bytes_byt HR3.out.byt 16)
      have hng : ∀ k, k = g → ¬ IsT 5 wr k := fun k hk => by
       subst hk
       obtain ⟨Ar, cr, hbr, _⟩ := HJ.out.rd.st
       exact IsT.not_blk hbr (by decide)
      obtain ⟨w5, hw5⟩ : ∃ w5 : World, w5 = w4.alloc (.cells #[.slice kA kn kc, .slice none 0 0, .bool true] 124) := ⟨_, rfl⟩
      obtain ⟨b6, hb6⟩ : ∃ b6, b6 = w4.heap.size := ⟨_, rfl⟩
      have HN45 : Hid (New w4 w5) := Lib.hid (by rw [hw5]; exact New.al (New.refl _) _)
      have HB5 : Hid (Blk w5 b6 124 #[.slice kA kn kc, .slice none 0 0, .bool true]) := Lib.hid (by rw [hw5, hb6]; exact Blk.new _ _ _)
      have HF5 : Hid (Fr (fun k => k = g) wr w5) := Lib.hid (HF4.out.trans (HN45.out.toFr _))
      have HNG := Lib.hid hng
      have HRT : Hid (RdIn w5 g s2) := Lib.hid (hR4.new HN45.out)
      have HKT : Hid (RdT 5 w5 1 kA kn (u8s key_l19)) := Lib.hid ((RdT.own hO4 rfl).new HN45.out)
      have HNT : Hid (New w w5) := Lib.hid (HJ.out.new.fr HF5.out (fun k hk => by have := HJ.out.gz; omega))
      have HOT : Hid (w5.ownsRow w.heap.size 124 3 (.slice A' m c') m (L.flatMap Ch.cells)) := Lib.hid (own_fr HJ.out.own HF5.out (fun k hk e => by
       obtain ⟨Ar, cr, hbr, _⟩ := HJ.out.rd.st
       subst e
       exact own_ne HJ.out.own hbr (by decide) hk))
      have HLT : Hid (∀ c ∈ L, c.InT w5) := Lib.hid (fun c hc => (HJ.out.el c hc).fr HF5.out HNG.out)
      have hgb : b6 ≠ g := by have := hR4.lt; omega
      clear hO4 hR4 hF4 hng hbk
      go_upto_region 6 with fail
      rw [← hw5, ← hb6]
      clear hw5 hb6
      have HBT := HB5
      have c0 : w5.cell? ⟨b6, 0, none⟩ = some (.slice kA kn kc) := HB5.out.cell 0
      have c2 : w5.cell? ⟨b6, 2, none⟩ = some (.bool true) := HB5.out.cell 2
      by_cases hk0 : kn = 0
      · subst hk0
        have hke : key_l19 = [] := List.eq_nil_of_length_eq_zero HKN.out.symm
        have HST : Hid (q = none) := Lib.hid (by
         have h1 := HPJ.out
         rw [hNj] at h1
         unfold prs at h1
         rw [HSTP.out, if_pos hke] at h1
         rw [HQ.out, h1]
         refine if_neg (fun h => ?_)
         have h2 := h.1
         dsimp only at h2
         revert h2
         unfold Rs.bad Rs.fin
         split <;> simp_all)
        have HFL := Lib.hid (rfail_any HRT.out 2 (by omega))
        have hfin : (s2.bad 2).fin ≠ 0 := by
         unfold Rs.bad Rs.fin
         split <;> simp_all
        have HFIN := Lib.hid hfin
        clear hfin hke HSTP hNj
        go_wp2_with fail
        refine HFL.out.mono ?_
        rintro e w7 ⟨rfl, hR7, hF7⟩
        have HN7 : Hid (New w w7) := Lib.hid (HNT.out.fr hF7 (fun k hk => by have := HJ.out.gz; omega))
        have HE7 := Lib.hid (rend_any hR7)
        clear hR7 hF7
        go_wp2_with fail
        refine HE7.out.mono ?_
        rintro e w8 ⟨rfl, rfl⟩
        rw [errV_pos HFIN.out]
        go_wp2_with fail
        go_ret2
        exact ⟨.inl ⟨HST.out, rfl⟩, HN7.out⟩
      · have hkne : key_l19 ≠ [] := fun e => hk0 (by have := HKN.out; rw [e] at this; simpa using this)
        have hkp : (0 : Int) < (kn : Int) := by omega
        have hkz : ((kn : Int) == 0) = false := by simp; omega
        have HST : Hid (r = prs (N - (j + 1)) s2 ((L ++ [(⟨⟨kA, kn, kc, key_l19⟩, ⟨none, 0, 0, []⟩, true⟩ : Ch)]).map pcOf)) := Lib.hid (by
         have h1 := HPJ.out
         rw [hNj] at h1
         unfold prs at h1
         rw [HSTP.out, if_neg hkne] at h1
         rw [h1, List.map_append]
         rfl)
        have hdk : decide ((0 : Int) = (kn : Int)) = false := decide_eq_false (by omega)
        clear hkne HSTP hNj
        have e0 : w5.cell? ⟨b6, 0, none⟩ = some (.slice kA kn kc) := HBT.out.cell 0
        have e1 : w5.cell? ⟨b6, 1, none⟩ = some (.slice none 0 0) := HBT.out.cell 1
        have e2 : w5.cell? ⟨b6, 2, none⟩ = some (.bool true) := HBT.out.cell 2
        go_wp2_with (first
         | ((with_reducible refine atOpS ⟨some 34, .buildSlice _ _ _, _, _, _, _⟩ ?_); refine wpList_bs1 elC (by decide) rfl (.tmp 33) rfl #[.slice kA kn kc, .slice none 0 0, .bool true] rfl rfl ?_)
         | (at_builtin; refine atOpS ⟨some 35, _, _, _, _, _⟩ ?_; refine stopHere ?_))
        refine ⟨?_⟩
        refine wpList_app (o := ⟨some 35, _, _, _, _, _⟩) elC _ rfl (.tmp 32) (.tmp 34) rfl w.heap.size (.slice A' m c') m (L.flatMap Ch.cells) rfl (New.own (New.al (New.refl _) _) HOT.out) _ 1 1 [.slice kA kn kc, .slice none 0 0, .bool true] rfl (Rd.ofBlk (p := fun _ => True) (Blk.new _ 124 #[.slice kA kn kc, .slice none 0 0, .bool true]) 3 1 rfl trivial) (cells_one ⟨⟨kA, kn, kc, key_l19⟩, ⟨none, 0, 0, []⟩, true⟩) (by unfold maxLen; omega) (by omega) (by have := HNT.out.size; simp; omega) ?_
        intro A8 d8 w8 hO8 hF8 hA8
        have HN8 : Hid (New w w8) := Lib.hid ((New.al HNT.out _).fr hF8 (fun k hk => (own_lt HOT.out k hk).1))
        have hF8t := ((New.al (New.refl w5) (.cells #[.slice kA kn kc, .slice none 0 0, .bool true] 124)).toFr (fun k => (Value.slice A' m c').ownBlock = some k)).trans hF8
        have hnB : ∀ k, (Value.slice A' m c').ownBlock = some k → ¬ IsT 5 w5 k := fun k hk => IsT.not_own HOT.out (by decide) hk
        have HI8 : Hid (PrI w g s2 A8 (m + 1) d8 (L ++ [⟨⟨kA, kn, kc, key_l19⟩, ⟨none, 0, 0, []⟩, true⟩]) w8) := Lib.hid ⟨HN8.out, HJ.out.gz, HRT.out.fr hF8t (fun hk => by
            obtain ⟨Ar, cr, hbr, _⟩ := HRT.out.st
            exact own_ne HOT.out hbr (by decide) hk) hnB, by rw [List.flatMap_append]; simpa [Ch.cells] using hO8, fun c hc => by
            rcases List.mem_append.1 hc with hc | hc
            · exact (HLT.out c hc).fr hF8t hnB
            · rw [List.mem_singleton.1 hc]
              exact Ch.InT.fr (w := w5) (c := ⟨⟨kA, kn, kc, key_l19⟩, ⟨none, 0, 0, []⟩, true⟩) ⟨HKT.out, HKB.out, RdT.nil, fun x hx => nomatch hx⟩ hF8t hnB, fun c hc => by
            rcases List.mem_append.1 hc with hc | hc
            · exact HJ.out.sz c hc
            · rw [List.mem_singleton.1 hc]
              exact ⟨HK16.out, Nat.zero_le _⟩⟩
        clear hO8 hF8 hA8 hF8t hnB
        go_wp2_with fail
        go_roundw
        case rel => exact ⟨j + 1, m + 1, _, A8, d8, _, by omega, by omega, by go_num, rfl, HI8, HST⟩
        case measure => simp [intOf]; omega
    · as_aux_lemma =>
      have HFG := Lib.hid (rflag_any HJ.out.rd)
      rw [hb] at HFG
      obtain ⟨s1, hs1⟩ : ∃ s1, s1 = s.flag.2 := ⟨_, rfl⟩
      rw [← hs1] at HFG
      obtain ⟨key_l19, hkey⟩ : ∃ key_l19, key_l19 = (s1.bytes 16).1 := ⟨_, rfl⟩
      obtain ⟨s2, hs2⟩ : ∃ s2, s2 = (s1.bytes 16).2 := ⟨_, rfl⟩
      obtain ⟨kn, hkn⟩ : ∃ kn, kn = key_l19.length := ⟨_, rfl⟩
      obtain ⟨val, hval⟩ : ∃ val, val = (s2.bytes 16384).1 := ⟨_, rfl⟩
      obtain ⟨s3, hs3⟩ : ∃ s3, s3 = (s2.bytes 16384).2 := ⟨_, rfl⟩
      obtain ⟨vn, hvn⟩ : ∃ vn, vn = val.length := ⟨_, rfl⟩
      have HSTP : Hid (prsStep s = (⟨key_l19, val, false⟩, s3)) := Lib.hid (by unfold prsStep; rw [hb, if_pos rfl, ← hs1, ← hs2, ← hkey, ← hval, ← hs3])
      have HVAL := Lib.hid hval
      have HS3 := Lib.hid hs3
      have HVN := Lib.hid hvn
      clear hval hs3 hvn
      have HKEY := Lib.hid hkey
      have HS2 := Lib.hid hs2
      have HKN := Lib.hid hkn
      have HK16 : Hid (kn ≤ 16) := Lib.hid (by rw [hkn, hkey]; exact bytes_le s1 16)
      clear hb hs1 hkey hs2 hkn
      go_wp2_with fail
      refine HFG.out.mono ?_
      rintro e w3 ⟨rfl, hR3, hF3⟩
      have HR3 := Lib.hid hR3
      have HF3 := Lib.hid hF3
      clear hR3 hF3
      have hky := rbytes_any HR3.out 16 (by omega)
      rw [← HS2.out, ← HKEY.out, ← HKN.out] at hky
      have HKY := Lib.hid hky
      clear hky
      go_wp2_with fail
      refine HKY.out.mono ?_
      rintro e w4 ⟨⟨kA, kc, rfl, bk, hbk, hO4⟩, hR4, hF4⟩
      have HF4 : Hid (Fr (fun k => k = g) wr w4) := Lib.hid (HF3.out.trans hF4)
      have HKB : Hid (Byt key_l19) := Lib.hid (by rw [HKEY.out]; exact bytes_byt HR3.out.byt 16)
      have hng : ∀ k, k = g → ¬ IsT 5 wr k := fun k hk => by
       subst hk
       obtain ⟨Ar, cr, hbr, _⟩ := HJ.out.rd.st
       exact IsT.not_blk hbr (by decide)
      obtain ⟨w5, hw5⟩ : ∃ w5 : World, w5 = w4.alloc (.cells #[.slice kA kn kc, .slice none 0 0, .bool false] 124) := ⟨_, rfl⟩
      obtain ⟨b6, hb6⟩ : ∃ b6, b6 = w4.heap.size := ⟨_, rfl⟩
      have HN45 : Hid (New w4 w5) := Lib.hid (by rw [hw5]; exact New.al (New.refl _) _)
      have HB5 : Hid (Blk w5 b6 124 #[.slice kA kn kc, .slice none 0 0, .bool false]) := Lib.hid (by rw [hw5, hb6]; exact Blk.new _ _ _)
      have HF5 : Hid (Fr (fun k => k = g) wr w5) := Lib.hid (HF4.out.trans (HN45.out.toFr _))
      have HNG := Lib.hid hng
      have HB4S : Hid (b6 = w4.heap.size) := Lib.hid hb6
      have HRT : Hid (RdIn w5 g s2) := Lib.hid (hR4.new HN45.out)
      have HKT : Hid (RdT 5 w5 1 kA kn (u8s key_l19)) := Lib.hid ((RdT.own hO4 rfl).new HN45.out)
      have HNT : Hid (New w w5) := Lib.hid (HJ.out.new.fr HF5.out (fun k hk => by have := HJ.out.gz; omega))
      have HOT : Hid (w5.ownsRow w.heap.size 124 3 (.slice A' m c') m (L.flatMap Ch.cells)) := Lib.hid (own_fr HJ.out.own HF5.out (fun k hk e => by
       obtain ⟨Ar, cr, hbr, _⟩ := HJ.out.rd.st
       subst e
       exact own_ne HJ.out.own hbr (by decide) hk))
      have HLT : Hid (∀ c ∈ L, c.InT w5) := Lib.hid (fun c hc => (HJ.out.el c hc).fr HF5.out HNG.out)
      have hgb : b6 ≠ g := by have := hR4.lt; omega
      clear hO4 hR4 hF4 hng hbk
      go_upto_region 6 with fail
      rw [← hw5, ← hb6]
      clear hw5 hb6
      have c0 : w5.cell? ⟨b6, 0, none⟩ = some (.slice kA kn kc) := HB5.out.cell 0
      have c2 : w5.cell? ⟨b6, 2, none⟩ = some (.bool false) := HB5.out.cell 2
      have hvl := rbytes_any HRT.out 16384 (by omega)
      rw [← HS3.out, ← HVAL.out, ← HVN.out] at hvl
      have HVL := Lib.hid hvl
      clear hvl
      go_wp2_with fail
      refine HVL.out.mono ?_
      rintro e w6 ⟨⟨vA, vc, rfl, bv, hbv, hO6⟩, hR6, hF6⟩
      have HF6 := Lib.hid hF6
      have HB6 : Hid (Blk w6 b6 124 #[.slice kA kn kc, .slice none 0 0, .bool false]) := Lib.hid (HB5.out.fr hF6 hgb)
      have f61 : w6.frozen? ⟨b6, 1, none⟩ = false := HB6.out.frozen 1
      have c61 : w6.cell? ⟨b6, 1, none⟩ = some (.slice none 0 0) := HB6.out.cell 1
      have HVB : Hid (Byt val) := Lib.hid (by rw [HVAL.out]; exact bytes_byt HRT.out.byt 16384)
      have HV16 : Hid (vn ≤ 16384) := Lib.hid (by rw [HVN.out, HVAL.out]; exact bytes_le s2 16384)
      have HR6 := Lib.hid hR6
      have HVT6 : Hid (RdT 5 w6 1 vA vn (u8s val)) := Lib.hid (RdT.own hO6 rfl)
      obtain ⟨w7, hw7⟩ : ∃ w7 : World, w7 = w6.setCell ⟨b6, 1, none⟩ (.slice vA vn vc) := ⟨_, rfl⟩
      have hF67 : Fr (fun k => k = b6) w6 w7 := by rw [hw7]; exact (Fr.refl (fun k => k = b6) w6).setCell (p := ⟨b6, 1, none⟩) (fun _ => rfl) _
      have hnb : ∀ k, k = b6 → ¬ IsT 5 w6 k := fun k hk => by subst hk; exact IsT.not_blk HB6.out (by decide)
      have hng5 : ∀ k, k = g → ¬ IsT 5 w5 k := fun k hk => by
       subst hk
       obtain ⟨Ar, cr, hbr, _⟩ := HRT.out.st
       exact IsT.not_blk hbr (by decide)
      have hob5 : ∀ k, (Value.slice A' m c').ownBlock = some k → ¬ k = b6 := fun k hk e => by
       have h1 := (own_lt HJ.out.own k hk).2
       have h2 := HF4.out.size
       have h3 := HB4S.out
       omega
      have HB7 : Hid (Blk w7 b6 124 #[.slice kA kn kc, .slice vA vn vc, .bool false]) := Lib.hid (by
       have := HB6.out.set 1 (.slice vA vn vc)
       rw [hw7]
       simpa using this)
      have HRT7 : Hid (RdIn w7 g s3) := Lib.hid (HR6.out.fr hF67 (fun e => hgb e.symm) hnb)
      have HKT7 : Hid (RdT 5 w7 1 kA kn (u8s key_l19)) := Lib.hid ((HKT.out.fr HF6.out hng5).fr hF67 hnb)
      have HVT : Hid (RdT 5 w7 1 vA vn (u8s val)) := Lib.hid (HVT6.out.fr hF67 hnb)
      have HNT7 : Hid (New w w7) := Lib.hid ((HNT.out.fr HF6.out (fun k hk => by have := HJ.out.gz; omega)).fr hF67 (fun k hk => by have := HB4S.out; have := HF4.out.size; have := HJ.out.new.size; omega))
      have HOT7 : Hid (w7.ownsRow w.heap.size 124 3 (.slice A' m c') m (L.flatMap Ch.cells)) := Lib.hid (own_fr (own_fr HOT.out HF6.out (fun k hk e => by
       obtain ⟨Ar, cr, hbr, _⟩ := HRT.out.st
       subst e
       exact own_ne HOT.out hbr (by decide) hk)) hF67 hob5)
      have HLT7 : Hid (∀ c ∈ L, c.InT w7) := Lib.hid (fun c hc => ((HLT.out c hc).fr HF6.out hng5).fr hF67 hnb)
      clear HB5 HRT HKT HNT HOT HLT hF6 hO6 hR6 hbv
      go_upto_region 8 with fail
      rw [← hw7]
      clear hw7 hF67 hnb hng5 hob5 c0 c2 f61 c61
      have HBT := HB7
      have HRT := HRT7
      have HKT := HKT7
      have HNT := HNT7
      have HOT := HOT7
      have HLT := HLT7
      have c0 : w7.cell? ⟨b6, 0, none⟩ = some (.slice kA kn kc) := HB7.out.cell 0
      by_cases hk0 : kn = 0
      · subst hk0
        have hke : key_l19 = [] := List.eq_nil_of_length_eq_zero HKN.out.symm
        have HST : Hid (q = none) := Lib.hid (by
         have h1 := HPJ.out
         rw [hNj] at h1
         unfold prs at h1
         rw [HSTP.out, if_pos hke] at h1
         rw [HQ.out, h1]
         refine if_neg (fun h => ?_)
         have h2 := h.1
         dsimp only at h2
         revert h2
         unfold Rs.bad Rs.fin
         split <;> simp_all)
        have HFL := Lib.hid (rfail_any HRT.out 2 (by omega))
        have hfin : (s3.bad 2).fin ≠ 0 := by
         unfold Rs.bad Rs.fin
         split <;> simp_all
        have HFIN := Lib.hid hfin
        clear hfin hke HSTP hNj
        go_wp2_with fail
        refine HFL.out.mono ?_
        rintro e w7 ⟨rfl, hR7, hF7⟩
        have HN7 : Hid (New w w7) := Lib.hid (HNT.out.fr hF7 (fun k hk => by have := HJ.out.gz; omega))
        have HE7 := Lib.hid (rend_any hR7)
        clear hR7 hF7
        go_wp2_with fail
        refine HE7.out.mono ?_
        rintro e w8 ⟨rfl, rfl⟩
        rw [errV_pos HFIN.out]
        go_wp2_with fail
        go_ret2
        exact ⟨.inl ⟨HST.out, rfl⟩, HN7.out⟩
      · have hkne : key_l19 ≠ [] := fun e => hk0 (by have := HKN.out; rw [e] at this; simpa using this)
        have hkp : (0 : Int) < (kn : Int) := by omega
        have hkz : ((kn : Int) == 0) = false := by simp; omega
        have HST : Hid (r = prs (N - (j + 1)) s3 ((L ++ [(⟨⟨kA, kn, kc, key_l19⟩, ⟨vA, vn, vc, val⟩, false⟩ : Ch)]).map pcOf)) := Lib.hid (by
         have h1 := HPJ.out
         rw [hNj] at h1
         unfold prs at h1
         rw [HSTP.out, if_neg hkne] at h1
         rw [h1, List.map_append]
         rfl)
        have hdk : decide ((0 : Int) = (kn : Int)) = false := decide_eq_false (by omega)
        clear hkne HSTP hNj
        have e0 : w7.cell? ⟨b6, 0, none⟩ = some (.slice kA kn kc) := HBT.out.cell 0
        have e1 : w7.cell? ⟨b6, 1, none⟩ = some (.slice vA vn vc) := HBT.out.cell 1
        have e2 : w7.cell? ⟨b6, 2, none⟩ = some (.bool false) := HBT.out.cell 2
        go_wp2_with (first
         | ((with_reducible refine atOpS ⟨some 34, .buildSlice _ _ _, _, _, _, _⟩ ?_); refine wpList_bs1 elC (by decide) rfl (.tmp 33) rfl #[.slice kA kn kc, .slice vA vn vc, .bool false] rfl rfl ?_)
         | (at_builtin; refine atOpS ⟨some 35, _, _, _, _, _⟩ ?_; refine stopHere ?_))
        refine ⟨?_⟩
        refine wpList_app (o := ⟨some 35, _, _, _, _, _⟩) elC _ rfl (.tmp 32) (.tmp 34) rfl w.heap.size (.slice A' m c') m (L.flatMap Ch.cells) rfl (New.own (New.al (New.refl _) _) HOT.out) _ 1 1 [.slice kA kn kc, .slice vA vn vc, .bool false] rfl (Rd.ofBlk (p := fun _ => True) (Blk.new _ 124 #[.slice kA kn kc, .slice vA vn vc, .bool false]) 3 1 rfl trivial) (cells_one ⟨⟨kA, kn, kc, key_l19⟩, ⟨vA, vn, vc, val⟩, false⟩) (by unfold maxLen; omega) (by omega) (by have := HNT.out.size; simp; omega) ?_
        intro A8 d8 w8 hO8 hF8 hA8
        have HN8 : Hid (New w w8) := Lib.hid ((New.al HNT.out _).fr hF8 (fun k hk => (own_lt HOT.out k hk).1))
        have hF8t := ((New.al (New.refl w7) (.cells #[.slice kA kn kc, .slice vA vn vc, .bool false] 124)).toFr (fun k => (Value.slice A' m c').ownBlock = some k)).trans hF8
        have hnB : ∀ k, (Value.slice A' m c').ownBlock = some k → ¬ IsT 5 w7 k := fun k hk => IsT.not_own HOT.out (by decide) hk
        have HI8 : Hid (PrI w g s3 A8 (m + 1) d8 (L ++ [⟨⟨kA, kn, kc, key_l19⟩, ⟨vA, vn, vc, val⟩, false⟩]) w8) := Lib.hid ⟨HN8.out, HJ.out.gz, HRT.out.fr hF8t (fun hk => by
            obtain ⟨Ar, cr, hbr, _⟩ := HRT.out.st
            exact own_ne HOT.out hbr (by decide) hk) hnB, by rw [List.flatMap_append]; simpa [Ch.cells] using hO8, fun c hc => by
            rcases List.mem_append.1 hc with hc | hc
            · exact (HLT.out c hc).fr hF8t hnB
            · rw [List.mem_singleton.1 hc]
              exact Ch.InT.fr (w := w7) (c := ⟨⟨kA, kn, kc, key_l19⟩, ⟨vA, vn, vc, val⟩, false⟩) ⟨HKT.out, HKB.out, HVT.out, HVB.out⟩ hF8t hnB, fun c hc => by
            rcases List.mem_append.1 hc with hc | hc
            · exact HJ.out.sz c hc
            · rw [List.mem_singleton.1 hc]
              exact ⟨HK16.out, HV16.out⟩⟩
        clear hO8 hF8 hA8 hF8t hnB
        go_wp2_with fail
        go_roundw
        case rel => exact ⟨j + 1, m + 1, _, A8, d8, _, by omega, by omega, by go_num, rfl, HI8, HST⟩
        case measure => simp [intOf]; omega
  · obtain rfl : j = N := by omega
    have hpj := HPJ.out
    rw [Nat.sub_self] at hpj
    have hr1 : r.1 = L.map pcOf := by rw [hpj]; rfl
    have hr2 : r.2 = s := by rw [hpj]; rfl
    have hq := HQ.out
    rw [hr1, hr2, pcsOk_of HJ.out.el] at hq
    have HQ2 := Lib.hid hq
    have HE := Lib.hid (rend_any HJ.out.rd)
    have hLm : L.length = m := by have := HJ.out.own.1; rw [cells_len] at this; omega
    have HLM := Lib.hid hLm
    clear hpj hr1 hr2 hq hLm HPJ HRR HQ
    go_wp2_with fail
    refine HE.out.mono ?_
    rintro e w3 ⟨rfl, rfl⟩
    by_cases hf : s.fin = 0
    · rw [hf, errV_zero]
      have hLm := HLM.out
      have HC := Lib.hid (rights_any A' m c' L wr (Rd.own HJ.out.own rfl) hLm (by omega) (fun c hc => by have := HJ.out.sz c hc; unfold maxLen; omega))
      have HRT : Hid (RTb wr A' m L) := Lib.hid ⟨rd_szs (Rd.own HJ.out.own rfl), hLm, fun c hc => (HJ.out.el c hc).in_⟩
      clear hLm
      go_wp2_with fail
      refine HC.out.mono ?_
      rintro e w4 ⟨rfl, hN4⟩
      have HN4 := Lib.hid hN4
      clear hN4 HC
      by_cases hok : chsOk L = true
      · rw [hok]
        have HQ3 : Hid (q = some (L.map pcOf)) := Lib.hid (by rw [HQ2.out, if_pos ⟨hf, hok⟩])
        clear HQ2 hok hf
        go_wp2_with fail
        go_ret2
        exact ⟨.inr ⟨A', m, c', L, HQ3.out, rfl, HRT.out.new HN4.out⟩, HJ.out.new.tr HN4.out⟩
      · have hok : chsOk L = false := by simpa using hok
        rw [hok]
        have HQ3 : Hid (q = none) := Lib.hid (by rw [HQ2.out, if_neg (fun h => by rw [hok] at h; cases h.2)])
        clear HQ2 hok hf
        go_wp2_with fail
        go_ret2
        exact ⟨.inl ⟨HQ3.out, rfl⟩, HJ.out.new.tr HN4.out⟩
    · rw [errV_pos hf]
      have HQ3 : Hid (q = none) := Lib.hid (by rw [HQ2.out, if_neg (fun h => hf h.1)])
      clear HQ2
      go_wp2_with fail
      go_ret2
      exact ⟨.inl ⟨HQ3.out, rfl⟩, HJ.out.new⟩
end Go.Proofs.YtpifnmlnhddgeaaGreatDoor
namespace Go.Proofs.YtpifnmlnhddgeaaGreatDoor
set_option linter.unusedVariables false
set_option linter.unusedSimpArgs false
set_option linter.constructorNameAsVariable false
open Go.RowKit Go.Maps Go.Sort
theorem raw_app (xs rest : List Int) : (⟨xs ++ rest, 0⟩ : Rs).raw xs.length = (xs, ⟨rest, 0⟩) := by
 have hl : (⟨xs ++ rest, 0⟩ : Rs).left = xs.length + rest.length := by
  unfold Rs.left
  simp
 unfold Rs.raw
 rw [hl, if_neg (by omega)]
 simp
theorem num_app (size n : Nat) (rest : List Int) (h : n < 256 ^ size) : (⟨beL size n ++ rest, 0⟩ : Rs).num size = (n, ⟨rest, 0⟩) := by
 unfold Rs.num
 have := raw_app (beL size n) rest
 rw [beL_len] at this
 rw [this, valL_beL size n h]
theorem bytes_app (m most : Nat) (ys rest : List Int) (hm : ys.length = m) (h1 : m ≤ most) (h2 : m < 65536) : (⟨beL 2 m ++ (ys ++ rest), 0⟩ : Rs).bytes most = (ys, ⟨rest, 0⟩) := by
 have hl : (⟨beL 2 m ++ (ys ++ rest), 0⟩ : Rs).left = 2 + m + rest.length := by
  unfold Rs.left
  simp [beL_len, hm]
  omega
 have htk : (beL 2 m ++ (ys ++ rest)).take 2 = beL 2 m := by
  have := List.take_left (l₁ := beL 2 m) (l₂ := ys ++ rest)
  rwa [beL_len] at this
 unfold Rs.bytes
 rw [hl, if_neg (by omega)]
 dsimp only
 rw [htk, valL_beL 2 m (by omega), if_neg (by omega)]
 have h3 := raw_app (beL 2 m) (ys ++ rest)
 rw [beL_len] at h3
 rw [h3]
 dsimp only
 have h4 := raw_app ys rest
 rwa [hm] at h4
theorem flag_app (b : Bool) (rest : List Int) : (⟨[if b then 1 else 0] ++ rest, 0⟩ : Rs).flag = (b, ⟨rest, 0⟩) := by
 unfold Rs.flag Rs.num Rs.raw Rs.left
 cases b <;> simp [valL]
theorem step_app_c {c : Ch} (hk : c.k.xs.length = c.k.n) (hv : c.v.xs.length = c.v.n) (hok : chOk c = true) (rest : List Int) : prsStep ⟨chB c ++ rest, 0⟩ = (pcOf c, ⟨rest, 0⟩) := by
 obtain ⟨⟨kA, kn, kc, ks⟩, ⟨vA, vn, vc, vs⟩, d⟩ := c
 dsimp only at hk hv
 simp only [chOk, Bool.and_eq_true, decide_eq_true_eq, Bool.not_eq_true', Bool.and_eq_false_iff, decide_eq_false_iff_not] at hok
 obtain ⟨⟨⟨h1, h2⟩, h3⟩, h4⟩ := hok
 unfold prsStep chB pcOf
 dsimp only
 cases d
 · have e : [if !false then (1 : Int) else 0] ++ beL 2 kn ++ ks ++ (if false = true then [] else beL 2 vn ++ vs) ++ rest = [if !false then (1 : Int) else 0] ++ (beL 2 kn ++ (ks ++ (beL 2 vn ++ (vs ++ rest)))) := by simp
   rw [e, flag_app]
   dsimp only
   rw [bytes_app kn 16 ks _ hk h2 (by omega), bytes_app vn 16384 vs rest hv h3 (by omega)]
   rfl
 · have hvn : vn = 0 := by
    rcases h4 with h4 | h4
    · cases h4
    · omega
   have hvs : vs = [] := List.eq_nil_of_length_eq_zero (by rw [hv, hvn])
   have e : [if !true then (1 : Int) else 0] ++ beL 2 kn ++ ks ++ (if true = true then [] else beL 2 vn ++ vs) ++ rest = [if !true then (1 : Int) else 0] ++ (beL 2 kn ++ (ks ++ rest)) := by simp
   rw [e, flag_app]
   dsimp only
   rw [bytes_app kn 16 ks _ hk h2 (by omega), hvs]
   rfl
def LenOk (L : List Ch) : Prop := ∀ c ∈ L, c.k.xs.length = c.k.n ∧ c.v.xs.length = c.v.n
theorem RTb.lens {w : World} {A : Option Addr} {n : Nat} {L : List Ch} (h : RTb w A n L) : LenOk L := fun c hc => ⟨(h.el c hc).k.len, (h.el c hc).v.len⟩
theorem prs_app (L : List Ch) (hl : LenOk L) (hok : ∀ c ∈ L, chOk c = true) (out : List PC) (rest : List Int) : prs L.length ⟨L.flatMap chB ++ rest, 0⟩ out = (out ++ L.map pcOf, ⟨rest, 0⟩) := by
 induction L generalizing out with
 | nil => simp [prs]
 | cons c L ih =>
  have hc := hl c (List.mem_cons_self ..)
  have hoc := hok c (List.mem_cons_self ..)
  rw [List.length_cons]
  unfold prs
  rw [List.flatMap_cons, List.append_assoc, step_app_c hc.1 hc.2 hoc]
  have hne : (pcOf c).k ≠ [] := by
   intro e
   have h1 : c.k.xs = [] := e
   have h2 := hc.1
   rw [h1] at h2
   simp only [chOk, Bool.and_eq_true, decide_eq_true_eq] at hoc
   simp at h2
   omega
  rw [if_neg hne]
  dsimp only
  rw [ih (fun c hc => hl c (List.mem_cons_of_mem _ hc)) (fun c hc => hok c (List.mem_cons_of_mem _ hc))]
  simp
theorem pcOk_len {c : Ch} (hk : c.k.xs.length = c.k.n) (hv : c.v.xs.length = c.v.n) : pcOk (pcOf c) = chOk c := by
 unfold pcOk chOk pcOf
 simp only [hk, hv]
theorem pcsOk_len {L : List Ch} (h : LenOk L) : pcsOk (L.map pcOf) = chsOk L := by
 unfold pcsOk chsOk
 have hlen : (L.map pcOf).length = L.length := by simp
 have e : (L.map pcOf).all pcOk = L.all chOk := by
  clear hlen
  induction L with
  | nil => rfl
  | cons c L ih => rw [List.map_cons, List.all_cons, List.all_cons, pcOk_len (h c (List.mem_cons_self ..)).1 (h c (List.mem_cons_self ..)).2, ih fun c hc => h c (List.mem_cons_of_mem _ hc)]
 rw [hlen, e]
theorem chsOk_all {L : List Ch} (h : chsOk L = true) : ∀ c ∈ L, chOk c = true := by
 unfold chsOk at h
 simp only [Bool.and_eq_true] at h
 exact List.all_eq_true.1 h.2
theorem parse_put {L : List Ch} (hl : LenOk L) (hok : chsOk L = true) : parseB (putB L) = some (L.map pcOf) := by
 have hsp := chsOk_spec hok
 unfold parseB putB
 have h1 := num_app 2 L.length (L.flatMap chB) (by omega)
 rw [h1]
 dsimp only
 have h2 := prs_app L hl (chsOk_all hok) [] []
 rw [List.append_nil, List.nil_append] at h2
 rw [h2]
 dsimp only
 rw [if_pos ⟨rfl, by rw [pcsOk_len hl]; exact hok⟩]
end Go.Proofs.YtpifnmlnhddgeaaGreatDoor
namespace Go.Proofs.YtpifnmlnhddgeaaGreatDoor
set_option linter.unusedVariables false
set_option linter.unusedSimpArgs false
set_option linter.constructorNameAsVariable false
open Go.RowKit Go.Maps Go.Sort
section
variable {α : Type}
def spS (f : α → Nat) : Option (List (List α) × List α) → α → Option (List (List α) × List α)
 | none, y => some ([], [y])
 | some (C, l), y => if l.length < 600 ∧ (l.map f).sum + f y ≤ 8190 then some (C, l ++ [y]) else some (C ++ [l], [y])
def spl (f : α → Nat) (L : List α) : Option (List (List α) × List α) := L.foldl (spS f) none
def rws : Option (List (List α) × List α) → List (List α)
 | none => []
 | some (C, l) => C ++ [l]
theorem spl_snoc (f : α → Nat) (L : List α) (y : α) : spl f (L ++ [y]) = spS f (spl f L) y := by simp [spl]
theorem spS_map {β : Type} (g : α → β) (f : β → Nat) (s : Option (List (List α) × List α)) (y : α) :
    spS f (s.map fun x => (x.1.map (List.map g), x.2.map g)) (g y) = (spS (fun a => f (g a)) s y).map fun x => (x.1.map (List.map g), x.2.map g) := by
 rcases s with _ | ⟨C, l⟩
 · simp [spS]
 · have he : (List.map f (List.map g l)).sum = (List.map (fun a => f (g a)) l).sum := by rw [List.map_map]; rfl
   simp only [spS, Option.map_some, List.length_map, he]
   by_cases h : l.length < 600 ∧ (l.map fun a => f (g a)).sum + f (g y) ≤ 8190
   · rw [if_pos h, if_pos h]; simp
   · rw [if_neg h, if_neg h]; simp
theorem spl_map {β : Type} (g : α → β) (f : β → Nat) (L : List α) : spl f (L.map g) = (spl (fun a => f (g a)) L).map fun x => (x.1.map (List.map g), x.2.map g) := by
 suffices h : ∀ s : Option (List (List α) × List α), (L.map g).foldl (spS f) (s.map fun x => (x.1.map (List.map g), x.2.map g)) = (L.foldl (spS fun a => f (g a)) s).map fun x => (x.1.map (List.map g), x.2.map g) from h none
 induction L with
 | nil => intro s; rfl
 | cons y L ih => intro s; rw [List.map_cons, List.foldl_cons, List.foldl_cons, spS_map, ih]
theorem rws_map {β : Type} (g : α → β) (s : Option (List (List α) × List α)) : rws (s.map fun x => (x.1.map (List.map g), x.2.map g)) = (rws s).map (List.map g) := by
 rcases s with _ | ⟨C, l⟩ <;> simp [rws]
theorem spl_flat (f : α → Nat) (L : List α) : (rws (spl f L)).flatten = L := by
 suffices h : ∀ (s : Option (List (List α) × List α)), (rws (L.foldl (spS f) s)).flatten = (rws s).flatten ++ L from (h none).trans (by simp [rws])
 induction L with
 | nil => intro s; simp
 | cons y L ih =>
  intro s
  rw [List.foldl_cons, ih]
  rcases s with _ | ⟨C, l⟩
  · simp [spS, rws]
  · simp only [spS]
    by_cases h : l.length < 600 ∧ (l.map f).sum + f y ≤ 8190
    · rw [if_pos h]; simp [rws]
    · rw [if_neg h]; simp [rws]
theorem spl_rows (f : α → Nat) (L : List α) : ∀ l ∈ rws (spl f L), 1 ≤ l.length ∧ l.length ≤ 600 := by
 suffices h : ∀ (s : Option (List (List α) × List α)), (∀ l ∈ rws s, 1 ≤ l.length ∧ l.length ≤ 600) → ∀ l ∈ rws (L.foldl (spS f) s), 1 ≤ l.length ∧ l.length ≤ 600 from h none (by simp [rws])
 induction L with
 | nil => intro s h; exact h
 | cons y L ih =>
  intro s h
  rw [List.foldl_cons]
  refine ih _ ?_
  rcases s with _ | ⟨C, l⟩
  · simp [spS, rws]
  · simp only [spS]
    have hl := h l (by simp [rws])
    have hC : ∀ x ∈ C, 1 ≤ x.length ∧ x.length ≤ 600 := fun x hx => h x (by simp [rws, hx])
    split
    · next hc =>
      intro x hx
      simp only [rws, List.mem_append, List.mem_singleton] at hx
      rcases hx with hx | rfl
      · exact hC x hx
      · simp; omega
    · intro x hx
      simp only [rws, List.mem_append, List.mem_singleton] at hx
      rcases hx with (hx | rfl) | rfl
      · exact hC x hx
      · exact hl
      · simp
end
def szc (c : Ch) : Nat := 5 + c.k.xs.length + c.v.xs.length
section
variable {B : Nat} {W W' : World}
theorem Puts.cell {p : Addr} {v : Value} (h : Puts B W W') (hc : W.cell? p = some v) : W'.cell? p = some v := by
 have hlt := World.block_lt_of_cell? W p hc
 refine (World.cell?_of_block (w := W) ?_).trans hc
 have ho : W.heap[p.block]? = some W.heap[p.block] := Array.getElem?_eq_getElem hlt
 refine (h.keep ho ?_).trans ho.symm
 generalize W.heap[p.block] = o at ho
 unfold World.cell? at hc
 rw [ho] at hc
 cases o <;> first | rfl | simp at hc
theorem Puts.rd {p : Nat → Prop} {size n : Nat} {A : Option Addr} {xs : List Value} (h : Puts B W W') (hr : Rd p W size A n xs) : Rd p W' size A n xs :=
 ⟨hr.1, fun hn => by
  obtain ⟨ad, e, hp, hb, hc⟩ := hr.2 hn
  have hz : W.heap.size ≤ W'.heap.size := by
   obtain ⟨l, o, o', -, -, -, rfl⟩ := h
   simp
  exact ⟨ad, e, hp, Nat.lt_of_lt_of_le hb hz, fun j u hu => h.cell (hc j u hu)⟩⟩
end
theorem Rd.lts {p : Nat → Prop} {w : World} {s n : Nat} {A : Option Addr} {xs : List Value} (h : Rd p w s A n xs) : Rd (fun b => p b ∧ b < w.heap.size) w s A n xs :=
 ⟨h.1, fun hn => by obtain ⟨ad, e, hp, hb, hc⟩ := h.2 hn; exact ⟨ad, e, ⟨hp, hb⟩, hb, hc⟩⟩
theorem Ch.In.lts {p : Nat → Prop} {w : World} {c : Ch} (h : c.In p w) : c.In (fun b => p b ∧ b < w.heap.size) w := ⟨⟨h.k.rd.lts, h.k.byt⟩, ⟨h.v.rd.lts, h.v.byt⟩⟩
theorem Ch.In.imp {p q : Nat → Prop} {w : World} {c : Ch} (h : c.In p w) (hq : ∀ k, p k → q k) : c.In q w := ⟨⟨h.k.rd.imp hq, h.k.byt⟩, ⟨h.v.rd.imp hq, h.v.byt⟩⟩
theorem Ch.In.frq {p S : Nat → Prop} {w w' : World} {c : Ch} (h : c.In p w) (hF : Fr S w w') (hS : ∀ k, p k → ¬ S k) : c.In p w' := ⟨⟨h.k.rd.fr hF hS, h.k.byt⟩, ⟨h.v.rd.fr hF hS, h.v.byt⟩⟩
theorem own_set {w : World} {base n c g i : Nat} {e : TypeId} {xs : List Value} (h : w.ownsRow base e 1 (.slice (some ⟨g, 0, none⟩) n c) n xs) (hi : i < n) (u : Value) : (w.setCell ⟨g, i, none⟩ u).ownsRow base e 1 (.slice (some ⟨g, 0, none⟩) n c) n (xs.set i u) := by
 refine ⟨by rw [List.length_set]; exact h.1, ?_⟩
 rcases h.2 with ⟨h0, -⟩ | ⟨g', cap, cur, hv, hb, hh, h1, h2, h3, h4⟩
 · injection h0 with h0; cases h0
 · injection hv with hA hn hc
   injection hA with hA
   injection hA with hA
   subst hA hc
   refine .inr ⟨g, c, cur.setIfInBounds i u, rfl, hb, heap_setCell_same w g i cur e u hh, h1, h2, by simpa using h3, ?_⟩
   rw [Array.toList_setIfInBounds, ← h4, List.take_set]
theorem own_own_ne {w : World} {b1 b2 s1 s2 n1 n2 : Nat} {e1 e2 : TypeId} {v1 v2 : Value} {x1 x2 : List Value} (h1 : w.ownsRow b1 e1 s1 v1 n1 x1) (h2 : w.ownsRow b2 e2 s2 v2 n2 x2) (he : e1 ≠ e2) {k : Nat} (hk : v1.ownBlock = some k) : v2.ownBlock ≠ some k :=
 fun hk2 => IsT.not_own h1 he hk (own_isT h2 hk2)
structure Nst (tr te : TypeId) (q : Nat → Prop) (base lo : Nat) (W : World) (A : Option Addr) (n c : Nat) (C : List Sl) (l : Sl) : Prop where
 ne : tr ≠ te
 qb : ∀ j, base ≤ j → q j
 nn : n = C.length + 1
 out : W.ownsRow base tr 1 (.slice A n c) n ((C ++ [l]).flatMap Sl.cells)
 blo : base ≤ lo
 los : lo ≤ W.heap.size
 last : W.ownsRow lo te 3 (.slice l.A l.n l.c) l.n (l.L.flatMap Ch.cells)
 ll : l.L.length = l.n
 cl : ∀ x ∈ C, x.L.length = x.n ∧ Rd (fun j => q j ∧ j < lo ∧ (Value.slice A n c).ownBlock ≠ some j ∧ base ≤ j) W 3 x.A x.n (x.L.flatMap Ch.cells)
 el : ∀ x ∈ C ++ [l], ∀ y ∈ x.L, y.In (fun j => q j ∧ (Value.slice A n c).ownBlock ≠ some j ∧ (Value.slice l.A l.n l.c).ownBlock ≠ some j) W
section
variable {R : List Sl} {tr te : TypeId} {q S : Nat → Prop} {base lo : Nat} {W W' : World} {A : Option Addr} {n c : Nat} {C : List Sl} {l : Sl}
theorem Nst.fr (h : Nst tr te q base lo W A n c C l) (hF : Fr S W W') (hS : ∀ j, S j → ¬ q j) : Nst tr te q base lo W' A n c C l :=
 ⟨h.ne, h.qb, h.nn, own_fr h.out hF (fun k hk hs => hS k hs (h.qb k (own_lt h.out k hk).1)), h.blo, Nat.le_trans h.los hF.size,
  own_fr h.last hF (fun k hk hs => hS k hs (h.qb k (Nat.le_trans h.blo (own_lt h.last k hk).1))), h.ll,
  fun x hx => ⟨(h.cl x hx).1, (h.cl x hx).2.fr hF (fun k hk hs => hS k hs hk.1)⟩,
  fun x hx y hy => (h.el x hx y hy).frq hF (fun k hk hs => hS k hs hk.1)⟩
theorem Nst.new (h : Nst tr te q base lo W A n c C l) (hN : New W W') : Nst tr te q base lo W' A n c C l := h.fr (hN.toFr NoB) (fun _ x => x.elim)
theorem Nst.puts {B : Nat} (h : Nst tr te q base lo W A n c C l) (hp : Puts B W W') : Nst tr te q base lo W' A n c C l :=
 ⟨h.ne, h.qb, h.nn, hp.own h.out, h.blo, Nat.le_trans h.los (by obtain ⟨l, o, o', -, -, -, rfl⟩ := hp; simp), hp.own h.last, h.ll, fun x hx => ⟨(h.cl x hx).1, hp.rd (h.cl x hx).2⟩,
  fun x hx y hy => ⟨⟨hp.rd (h.el x hx y hy).k.rd, (h.el x hx y hy).k.byt⟩, ⟨hp.rd (h.el x hx y hy).v.rd, (h.el x hx y hy).v.byt⟩⟩⟩
theorem Nst.first (hne : tr ≠ te) (hq : ∀ j, base ≤ j → q j) {l : Sl} {W0 : World} (ho : W.ownsRow base tr 1 (.slice A 1 c) 1 l.cells) (hl : W0.ownsRow lo te 3 (.slice l.A l.n l.c) l.n (l.L.flatMap Ch.cells)) (h2 : base ≤ lo) (h3 : lo ≤ W.heap.size) (hF : New W0 W) (hll : l.L.length = l.n)
    (hel : ∀ y ∈ l.L, y.In (fun j => q j ∧ (Value.slice A 1 c).ownBlock ≠ some j ∧ (Value.slice l.A l.n l.c).ownBlock ≠ some j) W) : Nst tr te q base lo W A 1 c [] l :=
 ⟨hne, hq, rfl, by simpa using ho, h2, h3, hF.own hl, hll, fun x hx => (by cases hx), fun x hx y hy => by
  have : x = l := by simpa using hx
  subst this
  exact hel y hy⟩
theorem Nst.open_ (h : Nst tr te q base lo W A n c C l) {l' : Sl} {lo' c' : Nat} {A' : Option Addr} (hlo : W.heap.size ≤ lo') (hlo2 : lo' ≤ W'.heap.size)
    (ho : W'.ownsRow base tr 1 (.slice A' (n + 1) c') (n + 1) ((C ++ [l]).flatMap Sl.cells ++ l'.cells)) (hF : Fr (fun k => (Value.slice A n c).ownBlock = some k) W W')
    (hk : ∀ k, (Value.slice A' (n + 1) c').ownBlock = some k → (Value.slice A n c).ownBlock = some k ∨ W.heap.size ≤ k)
    (hl : W'.ownsRow lo' te 3 (.slice l'.A l'.n l'.c) l'.n (l'.L.flatMap Ch.cells)) (hll : l'.L.length = l'.n)
    (hel : ∀ y ∈ l'.L, y.In (fun j => q j ∧ (Value.slice A' (n + 1) c').ownBlock ≠ some j ∧ (Value.slice l'.A l'.n l'.c).ownBlock ≠ some j) W') :
    Nst tr te q base lo' W' A' (n + 1) c' (C ++ [l]) l' := by
 have hnk : ∀ k, k < W.heap.size → (Value.slice A n c).ownBlock ≠ some k → (Value.slice A' (n + 1) c').ownBlock ≠ some k := fun k h1 h2 h3 => by
  rcases hk k h3 with h4 | h4
  · exact h2 h4
  · omega
 have hlast : ∀ k, k < W.heap.size → (Value.slice l'.A l'.n l'.c).ownBlock ≠ some k := fun k h1 h3 => by
  have := (own_lt hl k h3).1
  omega
 refine ⟨h.ne, h.qb, by have := h.nn; simp; omega, by simpa using ho, Nat.le_trans h.blo (Nat.le_trans h.los hlo), hlo2, hl, hll, fun x hx => ?_, fun x hx y hy => ?_⟩
 · rcases List.mem_append.1 hx with hx | hx
   · obtain ⟨h1, h2⟩ := h.cl x hx
     refine ⟨h1, (h2.lts.imp (q := fun j => (q j ∧ j < lo' ∧ (Value.slice A' (n + 1) c').ownBlock ≠ some j ∧ base ≤ j) ∧ (Value.slice A n c).ownBlock ≠ some j) (fun k hk => ⟨⟨hk.1.1, by omega, hnk k hk.2 hk.1.2.2.1, hk.1.2.2.2⟩, hk.1.2.2.1⟩)).fr hF (fun k hk hs => hk.2 hs) |>.imp (fun k hk => hk.1)⟩
   · have : x = l := by simpa using hx
     subst this
     have hr := Rd.own h.last rfl
     refine ⟨h.ll, (hr.imp (q := fun j => (q j ∧ j < lo' ∧ (Value.slice A' (n + 1) c').ownBlock ≠ some j ∧ base ≤ j) ∧ (Value.slice A n c).ownBlock ≠ some j) (fun k hk => ?_)).fr hF (fun k hk hs => hk.2 hs) |>.imp (fun k hk => hk.1)⟩
     have h1 := own_lt h.last k hk
     have h2 := own_own_ne h.last h.out h.ne.symm hk
     exact ⟨⟨h.qb k (Nat.le_trans h.blo h1.1), by omega, hnk k h1.2 h2, Nat.le_trans h.blo h1.1⟩, h2⟩
 · rcases List.mem_append.1 hx with hx | hx
   · refine ((h.el x hx y hy).lts.imp (q := fun j => (q j ∧ (Value.slice A' (n + 1) c').ownBlock ≠ some j ∧ (Value.slice l'.A l'.n l'.c).ownBlock ≠ some j) ∧ (Value.slice A n c).ownBlock ≠ some j) (fun k hk => ⟨⟨hk.1.1, hnk k hk.2 hk.1.2.1, hlast k hk.2⟩, hk.1.2.1⟩)).frq hF (fun k hk hs => hk.2 hs) |>.imp (fun k hk => hk.1)
   · have : x = l' := by simpa using hx
     subst this
     exact hel y hy
theorem Nst.push {g : Nat} (h : Nst tr te q base lo W (some ⟨g, 0, none⟩) n c C l) {c' : Nat} {A' : Option Addr} {y : Ch}
    (hl : W'.ownsRow lo te 3 (.slice A' (l.n + 1) c') (l.n + 1) (l.L.flatMap Ch.cells ++ y.cells)) (hF : Fr (fun k => (Value.slice l.A l.n l.c).ownBlock = some k) W W')
    (hk : ∀ k, (Value.slice A' (l.n + 1) c').ownBlock = some k → (Value.slice l.A l.n l.c).ownBlock = some k ∨ W.heap.size ≤ k)
    (hy : y.In (fun j => q j ∧ g ≠ j ∧ (Value.slice l.A l.n l.c).ownBlock ≠ some j) W) {i : Nat} (hi : i = n - 1) :
    Nst tr te q base lo (W'.setCell ⟨g, i, none⟩ (.slice A' (l.n + 1) c')) (some ⟨g, 0, none⟩) n c C ⟨A', l.n + 1, c', l.L ++ [y]⟩ := by
 subst hi
 have hnn := h.nn
 have hob : (Value.slice (some ⟨g, 0, none⟩) n c).ownBlock = some g := rfl
 have hlg : (Value.slice l.A l.n l.c).ownBlock ≠ some g := own_own_ne h.out h.last h.ne hob
 have hgw := own_lt h.out g hob
 have hout : W'.ownsRow base tr 1 (.slice (some ⟨g, 0, none⟩) n c) n ((C ++ [l]).flatMap Sl.cells) := own_fr h.out hF (fun k hk hs => by
  rw [hob] at hk
  injection hk with hk
  exact hlg (hk ▸ hs))
 have hA' : (Value.slice A' (l.n + 1) c').ownBlock ≠ some g := own_own_ne hout hl h.ne hob
 have hFs : Fr (fun k => k = g) W' (W'.setCell ⟨g, n - 1, none⟩ (.slice A' (l.n + 1) c')) := (Fr.refl (fun k => k = g) W').setCell (p := ⟨g, n - 1, none⟩) (fun _ => rfl) _
 have hnk : ∀ k, k < W.heap.size → (Value.slice l.A l.n l.c).ownBlock ≠ some k → (Value.slice A' (l.n + 1) c').ownBlock ≠ some k := fun k h1 h2 h3 => by
  rcases hk k h3 with h4 | h4
  · exact h2 h4
  · omega
 have hel : ∀ z : Ch, z.In (fun j => q j ∧ (Value.slice (some ⟨g, 0, none⟩) n c).ownBlock ≠ some j ∧ (Value.slice l.A l.n l.c).ownBlock ≠ some j) W →
     z.In (fun j => q j ∧ (Value.slice (some ⟨g, 0, none⟩) n c).ownBlock ≠ some j ∧ (Value.slice A' (l.n + 1) c').ownBlock ≠ some j) (W'.setCell ⟨g, n - 1, none⟩ (.slice A' (l.n + 1) c')) := fun z hz =>
  (((hz.lts.imp (q := fun j => (q j ∧ (Value.slice (some ⟨g, 0, none⟩) n c).ownBlock ≠ some j ∧ (Value.slice A' (l.n + 1) c').ownBlock ≠ some j) ∧ (Value.slice l.A l.n l.c).ownBlock ≠ some j) (fun k hk => ⟨⟨hk.1.1, hk.1.2.1, hnk k hk.2 hk.1.2.2⟩, hk.1.2.2⟩)).frq hF (fun k hk hs => hk.2 hs)).imp (fun k hk => hk.1)).frq hFs (fun k hk hs => hk.2.1 (by rw [hob, hs]))
 refine ⟨h.ne, h.qb, h.nn, ?_, h.blo, Nat.le_trans h.los (Nat.le_trans hF.size hFs.size), own_fr (by simpa using hl) hFs (fun k hk hs => hA' (hs ▸ hk)), by simp [h.ll], fun x hx => ?_, fun x hx z hz => ?_⟩
 · have := own_set hout (i := n - 1) (by omega) (.slice A' (l.n + 1) c')
   rw [List.flatMap_append] at this ⊢
   have hCl : (C.flatMap Sl.cells).length = C.length := by
    clear this hout hel h hFs hnn
    induction C with
    | nil => rfl
    | cons x C ih => simp [Sl.cells, ih]
   rw [List.set_append_right _ _ (by omega)] at this
   have e : n - 1 - (C.flatMap Sl.cells).length = 0 := by omega
   rw [e] at this
   simpa [Sl.cells] using this
 · obtain ⟨h1, h2⟩ := h.cl x hx
   refine ⟨h1, ((h2.lts).fr hF (fun k hk hs => ?_)).fr hFs (fun k hk hs => hk.1.2.2.1 (by rw [hob, hs])) |>.imp (fun k hk => hk.1)⟩
   have := (own_lt h.last k hs).1
   have := hk.1.2.1
   omega
 · rcases List.mem_append.1 hx with hx | hx
   · exact hel z (h.el x (List.mem_append_left _ hx) z hz)
   · have : x = ⟨A', l.n + 1, c', l.L ++ [y]⟩ := by simpa using hx
     subst this
     rcases List.mem_append.1 hz with hz | hz
     · exact hel z (h.el l (by simp) z hz)
     · have : z = y := by simpa using hz
       subst this
       exact hel z (hy.imp fun k hk => ⟨hk.1, by rw [hob]; exact fun e => hk.2.1 (by injection e), hk.2.2⟩)
structure Bts (W : World) (A : Option Addr) (n : Nat) (R : List Sl) : Prop where
 rd : Rd (fun b => b < W.heap.size) W 1 A n (R.flatMap Sl.cells)
 len : R.length = n
 el : ∀ x ∈ R, RTb W x.A x.n x.L
theorem Bts.nil (W : World) : Bts W none 0 [] := ⟨Rd.nil, rfl, fun x h => by cases h⟩
theorem Nst.bts (h : Nst tr te q base lo W A n c C l) : Bts W A n (C ++ [l]) :=
 ⟨rd_szs (Rd.own h.out rfl), by have := h.nn; simp; omega, fun x hx => by
  refine ⟨?_, ?_, fun y hy => Ch.In.szs (h.el x hx y hy)⟩
  · rcases List.mem_append.1 hx with hx | hx
    · exact rd_szs (h.cl x hx).2
    · have : x = l := by simpa using hx
      subst this
      exact rd_szs (Rd.own h.last rfl)
  · rcases List.mem_append.1 hx with hx | hx
    · exact (h.cl x hx).1
    · have : x = l := by simpa using hx
      subst this
      exact h.ll⟩
structure BtsN (B D : Nat) (W : World) (A : Option Addr) (n : Nat) (R : List Sl) : Prop where
 rd : Rd (fun b => B ≤ b ∧ b < D) W 1 A n (R.flatMap Sl.cells)
 len : R.length = n
 el : ∀ x ∈ R, x.L.length = x.n ∧ Rd (fun b => B ≤ b ∧ b < D) W 3 x.A x.n (x.L.flatMap Ch.cells) ∧ ∀ y ∈ x.L, y.In (fun b => B ≤ b ∧ b < D) W
theorem BtsN.fr {B D : Nat} {R : List Sl} (h : BtsN B D W A n R) (hF : Fr S W W') (hS : ∀ k, S k → k < B ∨ D ≤ k) : BtsN B D W' A n R := by
 have key_l19 : ∀ k, (B ≤ k ∧ k < D) → ¬ S k := fun k hk hs => by have := hS k hs; omega
 exact ⟨h.rd.fr hF key_l19, h.len, fun x hx => ⟨(h.el x hx).1, (h.el x hx).2.1.fr hF key_l19, fun y hy => ⟨⟨((h.el x hx).2.2 y hy).k.rd.fr hF key_l19, ((h.el x hx).2.2 y hy).k.byt⟩, ⟨((h.el x hx).2.2 y hy).v.rd.fr hF key_l19, ((h.el x hx).2.2 y hy).v.byt⟩⟩⟩⟩
theorem BtsN.new {B D : Nat} {R : List Sl} (h : BtsN B D W A n R) (hN : New W W') : BtsN B D W' A n R :=
 ⟨hN.rd h.rd, h.len, fun x hx => ⟨(h.el x hx).1, hN.rd (h.el x hx).2.1, fun y hy => ((h.el x hx).2.2 y hy).new hN⟩⟩
theorem BtsN.row {B D : Nat} {R : List Sl} (h : BtsN B D W A n R) {x : Sl} (hx : x ∈ R) : RTb W x.A x.n x.L :=
 ⟨rd_szs (h.el x hx).2.1, (h.el x hx).1, fun y hy => Ch.In.szs ((h.el x hx).2.2 y hy)⟩
theorem BtsN.nil (B D : Nat) (W : World) : BtsN B D W none 0 [] := ⟨Rd.nil, rfl, fun x h => by cases h⟩
theorem Rd.low {p : Nat → Prop} {s : Nat} {xs : List Value} {B : Nat} (h : Rd p W s A n xs) (hp : ∀ k, p k → B ≤ k) : Rd (fun b => B ≤ b ∧ b < W.heap.size) W s A n xs :=
 ⟨h.1, fun hn => by
  obtain ⟨ad, e, h1, h2, h3⟩ := h.2 hn
  exact ⟨ad, e, ⟨hp _ h1, h2⟩, h2, h3⟩⟩
theorem Nst.btsN (h : Nst tr te q base lo W A n c C l) {B : Nat} (hq : ∀ j, q j → B ≤ j) : BtsN B W.heap.size W A n (C ++ [l]) := by
 have hb : B ≤ base := hq _ (h.qb _ (Nat.le_refl _))
 refine ⟨Rd.low (Rd.own h.out rfl) (fun k hk => Nat.le_trans hb (own_lt h.out k hk).1), by have := h.nn; simp; omega, fun x hx => ?_⟩
 have hel : ∀ y ∈ x.L, y.In (fun b => B ≤ b ∧ b < W.heap.size) W := fun y hy =>
  ⟨⟨Rd.low (h.el x hx y hy).k.rd (fun k hk => hq k hk.1), (h.el x hx y hy).k.byt⟩, ⟨Rd.low (h.el x hx y hy).v.rd (fun k hk => hq k hk.1), (h.el x hx y hy).v.byt⟩⟩
 rcases List.mem_append.1 hx with hx | hx
 · exact ⟨(h.cl x hx).1, Rd.low (h.cl x hx).2 (fun k hk => hq k hk.1), hel⟩
 · have : x = l := by simpa using hx
   subst this
   exact ⟨h.ll, Rd.low (Rd.own h.last rfl) (fun k hk => by have := (own_lt h.last k hk).1; have := h.blo; omega), hel⟩
end
end Go.Proofs.YtpifnmlnhddgeaaGreatDoor
namespace Go.Proofs.YtpifnmlnhddgeaaGreatDoor
set_option linter.unusedVariables false
set_option linter.unusedSimpArgs false
set_option linter.constructorNameAsVariable false
open Go.RowKit
theorem wpListIn_app {F : Fence} {n' : Nat} {P : Program} {t e : TypeId} {size bytes : Nat} (E : ElemOf P t e size bytes) (w : World) {ops : Array Oper} {rest : List Oper} {o : Oper} {a : Act} {Q : Exit → Act → World → Prop} (hgd : o.guard = none) (s x : Operand)
    (ho : o.op = .call { callee := .builtin .append, args := #[s, x], argTypes := #[t, t] })
    (base : Nat) (v : Value) (n : Nat) (xs : List Value) (hs : a.eval s = v) (hown : w.ownsRow base e size v n xs)
    {p : Nat → Prop} (X : Option Addr) (m c : Nat) (news : List Value) (hx : a.eval x = .slice X m c) (hr : Rd p w size X m news) (h1 : ∀ u ∈ news, u.oneCell' = true)
    (h63 : n + m ≤ maxLen) (hbytes : (n + m) * bytes ≤ 140737488355328) (hbase : base ≤ w.heap.size)
    (h : ∀ A' c' w', w'.ownsRow base e size (.slice A' (n + m) c') (n + m) (xs ++ news) → Fr (fun k => v.ownBlock = some k) w w' →
     (∀ k, (Value.slice A' (n + m) c').ownBlock = some k → v.ownBlock = some k ∨ w.heap.size ≤ k) → wpListIn F n' P ops Q rest (a.put o.dst (.slice A' (n + m) c')) w') : wpListIn F n' P ops Q (o :: rest) a w := by
 refine wpListIn_plain hgd fun K hK' => ?_
 obtain ⟨A', c', w', hrun, h2, h3, h4⟩ := run_app E w base o.type v n xs hown X m c news hr h1 h63 hbytes hbase
 unfold Oper.wpIn
 refine ⟨?_, ?_⟩
 · simp [Oper.about, ho, resolve, Target.leads, Sem.run_pure]
 · rw [Oper.semAt_plain F _ _ (by rw [ho]; intro c hc'; cases hc')]
   simp [execOp, ho, resolve, invoke, builtin, hs, hx, hrun, Result.andThen]
   exact hK' _ _ (h A' c' w' h2 h3 h4)
end Go.Proofs.YtpifnmlnhddgeaaGreatDoor
