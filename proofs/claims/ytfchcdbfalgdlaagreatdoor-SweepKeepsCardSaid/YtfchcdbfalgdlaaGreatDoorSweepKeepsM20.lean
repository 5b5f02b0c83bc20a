/- Texts of one proof, one behind the other: KvC, KvF, KvG, KvI, KvJ, KvM. No condition but each one's own. -/
import Derived.Test.YtfchcdbfalgdlaaGreatDoorSweepKeepsM19
import Derived.Test.YtfchcdbfalgdlaaGreatDoorSweepKeepsM3
import Derived.Shelf.Abstract
import Derived.LoopNIn
import Derived.LoopIn
import Derived.Deep.CutRange
import Derived.Test.YtfchcdbfalgdlaaGreatDoorSweepKeepsM7
import Derived.Deep.RegionHeld3
import Derived.Laws.IdiomStrings
namespace Go.Proofs.YtfchcdbfalgdlaaGreatDoor
set_option linter.unusedVariables false
set_option linter.unusedSimpArgs false
set_option linter.constructorNameAsVariable false
open Go.RowKit Go.Maps Go.Sort
attribute [local go_sem] Oper.semAt_some
theorem all_any (v : Option Addr) (w : World) : Calls Tryz.prog 67 #[.pointer v] w fun e w' => e = .returned (.func (.func 114) #[] #[.pointer (some ⟨w.heap.size, 0, none⟩)]) ∧ w' = w.alloc (.cells #[.pointer v] 42) := by
 go_enter Tryz.func67, Tryz.ntmps67
 go_wp2_with fail
 go_ret
 exact ⟨rfl, rfl⟩
def encKV (x : List Int × Fm) : Array Value := #[.string (strOfNums x.1), x.2.val]
theorem New.puts {W W' : World} {w2 : World} {B : Nat} (h : New w2 W) (hp : Puts B W W') (hB : w2.heap.size ≤ B) : New w2 W' := New.fr h (hp.fr (fun j hj => hj)) (fun k hk => Nat.le_trans hB hk)
end Go.Proofs.YtfchcdbfalgdlaaGreatDoor
namespace Go.Proofs.YtfchcdbfalgdlaaGreatDoor
set_option linter.unusedVariables false
set_option linter.unusedSimpArgs false
set_option linter.constructorNameAsVariable false
open Go.RowKit Go.Maps Go.Sort
attribute [local go_sem] Oper.semAt_some
def sb (xs : List Int) : List UInt8 := (strOfNums xs).data.toList
theorem enc_sb (xs : List Int) : encStr (sb xs) = .string (strOfNums xs) := by
 unfold sb
 simp [encStr]
def st (E : Tab) : Tab := E.mergeSort (fun a b => leB (sb a.1) (sb b.1))
def sct_l19 (T : CT) : CT := T.mergeSort (fun a b => leB (sb a.1) (sb b.1))
theorem cont_st (E : Tab) : cont (st E) = sct_l19 (cont E) := by
 unfold cont st sct_l19
 exact List.map_mergeSort (fun a _ b _ => rfl)
theorem st_perm (E : Tab) : (st E).Perm E := List.mergeSort_perm E _
theorem st_len (E : Tab) : (st E).length = E.length := (st_perm E).length_eq
theorem st_mem {E : Tab} {e : List Int × Fm} (h : e ∈ st E) : e ∈ E := (st_perm E).mem_iff.1 h
def kcells (E : Tab) : List Value := (st E).map fun e => .string (strOfNums e.1)
theorem kb_sorted (E : Tab) : ((kbytes E).mergeSort leB).map encStr = kcells E := by
 have h : (kbytes E).mergeSort leB = (st E).map (fun e => sb e.1) := by
  unfold kbytes st
  exact (List.map_mergeSort (f := fun e : List Int × Fm => sb e.1) (s := leB) (fun a _ b _ => rfl)).symm
 rw [h, List.map_map]
 unfold kcells
 exact List.map_congr_left fun e _ => enc_sb e.1
theorem rd_szs {p : Nat → Prop} {w : World} {s n : Nat} {A : Option Addr} {xs : List Value} (h : Rd p w s A n xs) : Rd (fun b => b < w.heap.size) w s A n xs :=
 ⟨h.1, fun hn => by obtain ⟨ad, e, _, hb, hc⟩ := h.2 hn; exact ⟨ad, e, hb, hb, hc⟩⟩
def Kk (B : Nat) (S : Nat → Prop) (W W' : World) : Prop := Fr (fun j => S j ∨ (B ≤ j ∧ ¬ IsT 9 W j)) W W'
section
variable {B : Nat} {S : Nat → Prop} {A W W' : World}
theorem Kk.tr (h : Kk B S A W) (k : Kk B S W W') : Kk B S A W' := by
 refine ⟨k.os.trans h.os, k.tape.trans h.tape, k.output.trans h.output, Nat.le_trans h.size k.size, fun j hj hn => ?_⟩
 have e := h.block j hj hn
 refine (k.block j (Nat.lt_of_lt_of_le hj h.size) (fun hs => hn ?_)).trans e
 rcases hs with hs | ⟨hs, ht⟩
 · exact .inl hs
 · refine .inr ⟨hs, fun hi => ht ?_⟩
   obtain ⟨cs, fz, hx⟩ := hi
   exact ⟨cs, fz, e.trans hx⟩
theorem Kk.puts (h : Puts B W W') : Kk B S W W' := by
 have hk : ∀ {k : Nat} {o : Obj}, W.heap[k]? = some o → o.isCells = true → W'.heap[k]? = some o := fun h1 h2 => h.keep h1 h2
 obtain ⟨l, o1, o', hB, hl, ho, rfl⟩ := h
 refine ⟨rfl, rfl, rfl, by simp, fun k _ hn => World.putObj_heap_other fun e => hn (.inr ⟨e ▸ hB, ?_⟩)⟩
 rintro ⟨cs, fz, hx⟩
 rw [e, hl] at hx
 injection hx with hx
 rw [hx] at ho
 cases ho
theorem Kk.fr (h : Fr S W W') : Kk B S W W' := h.mono fun _ _ x => .inl x
end
def GoodK (B : Nat) (x : List Int × Fm) (W : World) : Prop := W.ownsRow B 5 1 x.2.val x.2.n (u8s x.2.xs) ∧ Byt x.2.xs ∧ x.2.n ≤ 16384 ∧ Byt x.1 ∧ x.1.length ≤ 16
theorem GoodK.puts {B : Nat} {x : List Int × Fm} {W W' : World} (h : GoodK B x W) (hp : Puts B W W') : GoodK B x W' := ⟨hp.own h.1, h.2⟩
def NextK (E : Tab) (pre : List (List Int × Fm)) (x : List Int × Fm) : Prop := ∃ e, (st E)[pre.length]? = some e ∧ x.1 = e.1 ∧ x.2.xs = e.2.xs ∧ x.2.n = e.2.n
theorem zBs (w : World) : (zeroValue 33).run Tryz.prog w = .ok (.slice none 0 0) w := by
 first | exact Tryz.zeroValue33 w | simp [Tryz.zeroValue33, go_sem] | kernel_rfl
set_option maxHeartbeats 2000000 in
theorem all1_live {X : Nat → Prop} {w : World} {base g b m : Nat} {E : Tab} (h : TbIn X w base g b m E) (hm : m ≤ 1000000) (hE : E.length ≤ 1000000) (S : Nat → Prop) (b1 : Nat) (hb1 : Blk w b1 42 #[.pointer (some ⟨g, 0, none⟩)])
    (hS : ∀ j, S j → j < w.heap.size ∧ j ≠ g ∧ j ≠ b ∧ ¬ X j ∧ j ≠ b1) :
    GivesR (NextK E) Tryz.prog 114 #[.pointer (some ⟨b1, 0, none⟩)] encKV (GoodK w.heap.size) (Kk w.heap.size S) (fun xs => xs.map (fun x => (x.1, x.2.xs)) = cont (st E)) 1000001 w := by
 have hB0 : ∀ j, X j → j < w.heap.size := fun j hj => by
  obtain ⟨_, cs, fz, hx⟩ := h.xs j hj
  exact (Array.getElem?_eq_some_iff.1 hx).1
 have hg0 := h.blk.lt
 have hbt := h.blt
 have hb10 := hb1.lt
 obtain ⟨B, hB⟩ : ∃ B, B = w.heap.size := ⟨_, rfl⟩
 rw [← hB] at hS hB0 hg0 hbt hb10 ⊢
 have hkeep : ∀ W W', Kk B S W W' → (TbIn X W base g b m E ∧ Blk W b1 42 #[.pointer (some ⟨g, 0, none⟩)]) → (TbIn X W' base g b m E ∧ Blk W' b1 42 #[.pointer (some ⟨g, 0, none⟩)]) := fun W W' hk h =>
  ⟨h.1.fr hk (fun hs => hs.elim (fun x => (hS _ x).2.1 rfl) (fun x => by omega)) (fun hs => hs.elim (fun x => (hS _ x).2.2.1 rfl) (fun x => by omega)) (fun k hs hx => hs.elim (fun x => (hS _ x).2.2.2.1 hx) (fun x => by have := hB0 k hx; omega)),
   h.2.fr hk (fun hs => hs.elim (fun x => (hS _ x).2.2.2.2 rfl) (fun x => by omega))⟩
 have hkrow : ∀ (W W' : World) (bs n : Nat) (v : Value) (xs : List Value), Kk B S W W' → B ≤ bs → W.ownsRow bs 9 1 v n xs → W'.ownsRow bs 9 1 v n xs := fun W W' bs n v xs hk hbs ho =>
  own_fr ho hk (fun k hv hs => hs.elim (fun x => by have := (hS k x).1; have := (own_lt ho k hv).1; omega) (fun x => x.2 (own_isT ho hv)))
 have hkeep := Lib.hid hkeep
 have hkrow := Lib.hid hkrow
 intro l J W hW hJ hY h0
 refine callsIn_wide.2 ?_
 have HTB : Hid (TbIn X W base g b m E ∧ Blk W b1 42 #[.pointer (some ⟨g, 0, none⟩)]) := Lib.hid ⟨h.new hW, hW.blk hb1⟩
 have HBW : Hid (B ≤ W.heap.size) := Lib.hid (by rw [hB]; exact hW.size)
 have HY := Lib.hid hY
 have HJ := Lib.hid hJ
 have H0 := Lib.hid h0
 have i1 : W.cell? ⟨b1, 0, none⟩ = some (.pointer (some ⟨g, 0, none⟩)) := HTB.out.2.cell 0
 have HK := Lib.hid (keys_any HTB.out.1 hm)
 clear hY hJ hW hb1 h0 h hS hB0 hg0 hbt hb10 hB
 show Calls Tryz.prog 114 #[.func (.yield l) #[] #[], .pointer (some ⟨b1, 0, none⟩)] W _
 go_enter Tryz.func114, Tryz.ntmps114
 go_wp2_with fail
 refine HK.out.mono ?_
 rintro e w1 ⟨⟨v, rfl, hO⟩, hN1⟩
 rw [kb_sorted] at hO
 obtain ⟨A1, c1, rfl, -, -, -, -⟩ := own_shape hO
 generalize hn : E.length = n at *
 have HO1 := Lib.hid hO
 have HJ1 := Lib.hid (HJ.out _ _ _ H0.out hN1)
 have HT1 : Hid (TbIn X w1 base g b m E ∧ Blk w1 b1 42 #[.pointer (some ⟨g, 0, none⟩)]) := Lib.hid ⟨HTB.out.1.new hN1, hN1.blk HTB.out.2⟩
 clear hO hN1 HK HTB i1
 go_wp2_with fail
 go_loopw [8] (fun ix wr => ∃ (k : Nat) (pre : List (List Int × Fm)), k ≤ n ∧ ix = .int .i64 k ∧ pre.map (fun x => (x.1, x.2.xs)) = (cont (st E)).take k ∧ Hid (J pre wr) ∧ Hid (wr.ownsRow W.heap.size 9 1 (.slice A1 n c1) n (kcells E)) ∧ Hid (TbIn X wr base g b m E ∧ Blk wr b1 42 #[.pointer (some ⟨g, 0, none⟩)])) (fun ix _ => n - (intOf ix).toNat)
 case atStart => exact ⟨0, [], Nat.zero_le _, rfl, by simp, HJ1, HO1, HT1⟩
 case round =>
  obtain ⟨k, pre, hk, rfl, hpre, HJk, HOk, HTk⟩ := hrel
  clear HJ1 HO1 HT1 H0
  by_cases hlt : k < n
  · obtain ⟨bA, cA, he, -, -⟩ := own_form HOk.out (by omega)
    injection he with he1 he2 he3
    subst he1 he3
    have hkL : k < (st E).length := by rw [st_len]; omega
    obtain ⟨x, hx⟩ : ∃ x, x = (st E)[k] := ⟨_, rfl⟩
    have hxm : x ∈ E := st_mem (by rw [hx]; exact List.getElem_mem _)
    have HXK : Hid ((st E)[k]? = some x) := Lib.hid (by rw [List.getElem?_eq_getElem hkL, hx])
    have hcell : wr.cell? ⟨bA, k, none⟩ = some (.string (strOfNums x.1)) := by
     obtain ⟨g', o', hA, -, -, hq⟩ := (Rd.own HOk.out rfl).out (by omega) (by omega)
     injection hA with hA
     injection hA with e1 e2 e3
     subst e1 e2
     have := hq k _ (by unfold kcells; rw [List.getElem?_map, HXK.out]; rfl)
     rwa [Nat.zero_add] at this
    have hxe := HTk.out.1.el x hxm
    have hlk : (Instr.lookup 121 (.map (some b)) (.string (strOfNums x.1)) false).run Tryz.prog wr = .ok x.2.val wr := by
     obtain ⟨f, hM, h1, -⟩ := HTk.out.1.map
     have := (hM.look keyS Tryz.underlying121 (zBs wr) (key_of (xs := x.1) (by omega))).2
     rw [this, h1 x.1 hxe.1, mem_lookup HTk.out.1.nd hxm]
     rfl
    have j1 : wr.cell? ⟨b1, 0, none⟩ = some (.pointer (some ⟨g, 0, none⟩)) := HTk.out.2.cell 0
    have j2 : wr.cell? ⟨g, 0, none⟩ = some (.map (some b)) := HTk.out.1.blk.cell 0
    have HXE := Lib.hid hxe
    have hk0 : (0 : Int) ≤ (k : Int) := by omega
    have hkn : (k : Int) < (n : Int) := by omega
    clear hx hxm hkL hxe
    obtain ⟨xk, xA, xn, xc, xs⟩ := x
    simp only [Fm.val] at hlk
    dsimp only at hcell hlk
    go_upto_region 3 with fail
    refine (wpIn_wide (n := 3)).1 ?_
    gi_wp2
    refine ⟨trivial, ?_⟩
    have hpl : pre.length = k := by
     have := congrArg List.length hpre
     rw [List.length_map, List.length_take, cont_len, st_len] at this
     omega
    refine (callsIn_wide.2 (bclone_any xA xn xc xs wr (rd_szs HXE.out.2.2.1.rd) (by have := HXE.out.2.2.2; omega))).mono ?_
    rintro e w2 ⟨⟨A2, c2, rfl, hO2⟩, hN2⟩
    have hbase : B ≤ wr.heap.size := by
     have h1 := (own_lt HOk.out bA (by simp [Value.ownBlock]))
     have := HBW.out
     omega
    have hO2' := own_base (b := B) hO2 (fun k hk => by have := (own_lt hO2 k hk).1; omega)
    obtain ⟨fn, tmps, asg, bo, hy, hR⟩ := HY.out pre (xk, ⟨A2, xn, c2, xs⟩) w2 (by omega) (HJ.out _ _ _ HJk.out hN2) ⟨hO2', HXE.out.2.2.1.byt, HXE.out.2.2.2, HXE.out.1, HXE.out.2.1⟩ ⟨(xk, ⟨xA, xn, xc, xs⟩), by rw [hpl]; exact HXK.out, rfl, rfl, rfl⟩
    simp only [Fm.val, encKV] at hy
    have HN2 : Hid (New wr w2) := Lib.hid hN2
    have HR := Lib.hid hR
    clear hO2 hO2' hN2 hR
    gi_wp2
    refine HR.out.mono ?_
    rintro e w3 ⟨rfl, hJ3, hK3⟩
    have HJ3 := Lib.hid hJ3
    have HK3 := Lib.hid hK3
    clear hJ3 hK3 HR hy hcell
    gi_wp2
    try go_wp2_with fail
    go_roundw
    case rel =>
     refine ⟨k + 1, pre ++ [(xk, ⟨A2, xn, c2, xs⟩)], by omega, by go_num, ?_, HJ3, Lib.hid (hkrow.out _ _ _ _ _ _ HK3.out HBW.out (New.own HN2.out HOk.out)), Lib.hid (hkeep.out _ _ HK3.out ⟨HTk.out.1.new HN2.out, HN2.out.blk HTk.out.2⟩)⟩
     rw [List.map_append, hpre, List.take_add_one]
     unfold cont
     rw [List.getElem?_map, HXK.out]
     rfl
    case measure => simp [intOf]; omega
  · as_aux_lemma =>
     obtain rfl : k = n := by omega
     go_wp2_with fail
     go_end0
     exact ⟨⟨_, rfl⟩, pre, by rw [hpre, ← hn, List.take_of_length_le (by rw [cont_len, st_len]; omega)], HJk.out⟩
end Go.Proofs.YtfchcdbfalgdlaaGreatDoor
namespace Go.Proofs.YtfchcdbfalgdlaaGreatDoor
set_option linter.unusedVariables false
set_option linter.unusedSimpArgs false
set_option linter.constructorNameAsVariable false
open Go.RowKit Go.Maps Go.Sort
set_option maxRecDepth 100000 in
theorem mclone_any (b n : Nat) (f : Lit → Option Value) (w : World) (h : MapAt w Tryz.prog 9 b n f) :
    Calls Tryz.prog 69 #[.map (some b)] w fun e w' => e = .returned (.map (some w.heap.size)) ∧ MapAt w' Tryz.prog 9 w.heap.size n f ∧ New w w' := by
 obtain ⟨o, hrun, hM⟩ := MapAt.cloned (t := 121) h
 have HM := Lib.hid hM
 have hq := fun w => run_eql_map_nil_sl (P := Tryz.prog) w 121 _ _ (some b) Tryz.underlying121
 clear hM h
 go_enter Tryz.func69, Tryz.ntmps69
 go_wp2
 rw [run_callFunc_extern Tryz.func115 (by kernel_rfl) (by kernel_rfl) (by kernel_rfl) (e := Extern.MapsClone.clone) (by kernel_rfl), hrun]
 simp only [Result.andThen]
 rw [Oper.upon_value]
 go_wp2
 rw [run_typeAssert_map_sl _ 121 20 _ _ _ Tryz.underlying121]
 simp only [Result.andThen]
 rw [Oper.upon_value]
 go_wp2
 go_ret
 exact ⟨rfl, HM.out, New.al (New.refl _) _⟩
theorem copy_any_l19 {X : Nat → Prop} {w : World} {base g b m : Nat} {E : Tab} (h : TbIn X w base g b m E) (hbase : base ≤ w.heap.size) :
    Calls Tryz.prog 28 #[.pointer (some ⟨g, 0, none⟩)] w fun e w' => ∃ g' b', e = .returned (.pointer (some ⟨g', 0, none⟩)) ∧ TbIn X w' base g' b' m E ∧ New w w' ∧ w.heap.size ≤ g' ∧ w.heap.size ≤ b' := by
 obtain ⟨f, hM, h1, h2⟩ := h.map
 have H := Lib.hid h
 have c0 : w.cell? ⟨g, 0, none⟩ = some (.map (some b)) := h.blk.cell 0
 have HC := Lib.hid (mclone_any b m f w hM)
 clear h hM
 go_enter Tryz.func28, Tryz.ntmps28
 go_wp2_with fail
 refine HC.out.mono ?_
 rintro e w1 ⟨rfl, hM1, hN1⟩
 have HM1 := Lib.hid hM1
 have HN1 := Lib.hid hN1
 clear hM1 hN1 HC
 go_wp2_with fail
 go_ret
 have hs := HN1.out.size
 refine ⟨w1.heap.size, w.heap.size, rfl, ⟨Blk.new _ _ _, ⟨f, HM1.out.alloc _, h1, h2⟩, H.out.nd, fun e he => ?_, by omega, hbase, fun k hk => ?_⟩, New.al HN1.out _, hs, Nat.le_refl _⟩
 · have := H.out.el e he
   have hN := New.al HN1.out (.cells #[.map (some w.heap.size)] 123)
   exact ⟨this.1, this.2.1, ⟨hN.rd this.2.2.1.rd, this.2.2.1.byt⟩, this.2.2.2⟩
 · exact ⟨(H.out.xs k hk).1, (H.out.xs k hk).2.fr ((New.al HN1.out (.cells #[.map (some w.heap.size)] 123)).toFr NoB) (fun x => x)⟩
def tval (E : Tab) (k : List Int) : Fm := (E.lookup k).getD ⟨none, 0, 0, []⟩
theorem get_any_l19 {X q : Nat → Prop} {w : World} {base g b m : Nat} {E : Tab} (h : TbIn X w base g b m E) (A : Option Addr) (n c : Nat) (xs : List Int) (hR : Rd q w 1 A n (u8s xs)) (hb : Byt xs) (hn : n ≤ 1000000) :
    Calls Tryz.prog 50 #[.pointer (some ⟨g, 0, none⟩), .slice A n c] w fun e w' => ∃ A' c', e = .returned (.tuple #[.slice A' (tval E xs).n c', .bool (E.lookup xs).isSome]) ∧ w'.ownsRow w.heap.size 5 1 (.slice A' (tval E xs).n c') (tval E xs).n (u8s (tval E xs).xs) ∧ New w w' := by
 have hxl : xs.length = n := by have := hR.1; rw [u8s_len] at this; omega
 have hko := key_of (xs := xs) (by omega)
 have hcv := fun q => run_conv (c := c) (w := w.drewN q) hR
 have c0 : w.cell? ⟨g, 0, none⟩ = some (.map (some b)) := h.blk.cell 0
 have hvn : (tval E xs).n ≤ 1000000 ∧ Rd X w 1 (tval E xs).A (tval E xs).n (u8s (tval E xs).xs) := by
  unfold tval
  cases hl : E.lookup xs with
  | none => exact ⟨by simp, ⟨rfl, fun h => absurd h (by simp)⟩⟩
  | some v => have := h.el _ (lookup_mem hl); exact ⟨by have h4 := this.2.2.2; dsimp only at h4; show v.n ≤ 1000000; omega, this.2.2.1.rd⟩
 have hlk : ∀ q, (Instr.lookup 121 (.map (some b)) (.string (strOfNums xs)) true).run Tryz.prog (w.drewN q) = .ok (.tuple #[(tval E xs).val, .bool (E.lookup xs).isSome]) (w.drewN q) := fun q => by
  obtain ⟨f, hM0, h1, -⟩ := h.map
  have hM : MapAt (w.drewN q) Tryz.prog 9 b m f := hM0
  have := (hM.look keyS Tryz.underlying121 (z := .slice none 0 0) (zBs _) hko).1
  rw [h1 xs hb] at this
  rw [this]
  unfold tval
  cases E.lookup xs <;> rfl
 obtain ⟨hvn, hvr⟩ := hvn
 have HV := Lib.hid hvr
 generalize strOfNums xs = sx at hko hcv hlk
 generalize (E.lookup xs).isSome = there at hlk ⊢
 generalize tval E xs = x at hlk hvn HV ⊢
 clear hko hR h hb hvr
 obtain ⟨xA, xn, xc, xv⟩ := x
 simp only [Fm.val] at hlk
 dsimp only at hvn HV ⊢
 go_enter Tryz.func50, Tryz.ntmps50
 go_wp2_with fail
 go_quiet (fail)
 go_wp2_with fail
 refine (bclone_any xA xn xc xv _ (rd_szs (New.rd (New.dn (New.refl _) _) HV.out)) (by omega)).mono ?_
 rintro e w' ⟨⟨A2, c2, rfl, hO2⟩, hN2⟩
 have HO2 := Lib.hid hO2
 have HN2 : Hid (New w w') := Lib.hid ((New.dn (New.refl w) _).tr hN2)
 clear hO2 hN2
 go_wp2_with fail
 go_ret2
 exact ⟨A2, c2, rfl, HO2.out, HN2.out⟩
end Go.Proofs.YtfchcdbfalgdlaaGreatDoor
namespace Go.Proofs.YtfchcdbfalgdlaaGreatDoor
set_option linter.unusedVariables false
set_option linter.unusedSimpArgs false
set_option linter.constructorNameAsVariable false
open Go.RowKit Go.Maps Go.Sort
theorem conv_back (xs : List Int) (hb : Byt xs) (w : World) : ∃ (c : Nat) (w' : World), (convert 9 33 (.string (strOfNums xs))).run Tryz.prog w = .ok (.slice (some ⟨w.heap.size, 0, none⟩) xs.length c) w' ∧ New w w' ∧ Rd (fun k => k = w.heap.size) w' 1 (some ⟨w.heap.size, 0, none⟩) xs.length (u8s xs) := by
 have h := Go.run_bytes_of_string (P := Tryz.prog) w 9 33 5 (strOfNums xs) Tryz.underlying9 Tryz.underlying33 Tryz.underlying5
 rw [strOfNums_size] at h
 refine ⟨_, _, h, New.al (New.dr (New.refl w)) _, u8s_len xs ▸ by omega, fun _ => ⟨_, rfl, rfl, by simp, fun j u hu => ?_⟩⟩
 have hj : j < xs.length := by
  have := (List.getElem?_eq_some_iff.1 hu).1
  rwa [u8s_len] at this
 have hx := hb _ (List.getElem_mem hj)
 have hu' : u = .int .u8 xs[j] := by
  unfold u8s at hu
  rw [List.getElem?_map, List.getElem?_eq_getElem hj] at hu
  simpa using hu.symm
 subst hu'
 have hd : (strOfNums xs).data[j]? = some (UInt8.ofNat xs[j].toNat) := by
  have h1 := strs_of (xs := xs)
  have h2 : (strOfNums xs).data.toList[j]? = some (UInt8.ofNat xs[j].toNat) := by
   rw [h1, List.getElem?_map, List.getElem?_eq_getElem hj]
   rfl
  rwa [Array.getElem?_toList] at h2
 have hds : j < (strOfNums xs).data.size := (Array.getElem?_eq_some_iff.1 hd).1
 have hcs : (bytesRow (strOfNums xs) (grownCap w xs.length 0 5))[j]? = some (.int .u8 xs[j]) := by
  unfold bytesRow
  rw [Array.getElem?_append_left (by simpa using hds), Array.getElem?_map, hd]
  have : ((UInt8.ofNat xs[j].toNat).toNat : Int) = xs[j] := by
   rw [UInt8.toNat_ofNat']
   omega
  simp only [Option.map_some, this]
 generalize bytesRow (strOfNums xs) (grownCap w xs.length 0 5) = cs at hcs
 have hW : (w.drew.alloc (.cells cs 5 (cs.size, cs.size + 1))).heap[w.heap.size]? = some (.cells cs 5 (cs.size, cs.size + 1)) := by
  show (w.heap.push _)[w.heap.size]? = _
  simp
 rw [add_own]
 simp only [World.cell?, hW]
 simpa using hcs
end Go.Proofs.YtfchcdbfalgdlaaGreatDoor
namespace Go.Proofs.YtfchcdbfalgdlaaGreatDoor
set_option linter.unusedVariables false
set_option linter.unusedSimpArgs false
set_option linter.constructorNameAsVariable false
open Go.RowKit Go.Maps Go.Sort
attribute [local go_sem] Oper.semAt_some
theorem same_look {E1 E2 : Tab} (h2 : (E2.map Prod.fst).Nodup) (hp : (cont E1).Perm (cont E2)) {e : List Int × Fm} (he : e ∈ E1) : (E2.lookup e.1).isSome = true ∧ (tval E2 e.1).xs = e.2.xs := by
 have hm : (e.1, e.2.xs) ∈ cont E2 := hp.mem_iff.1 (List.mem_map.2 ⟨e, he, rfl⟩)
 obtain ⟨d, hd, hde⟩ := List.mem_map.1 hm
 have hl := mem_lookup h2 hd
 injection hde with h3 h4
 rw [h3] at hl
 unfold tval
 rw [hl]
 exact ⟨rfl, h4⟩
set_option maxHeartbeats 2000000 in
set_option maxRecDepth 100000 in
theorem same_live {X1 X2 : Nat → Prop} {w : World} {base1 base2 g1 g2 b1 b2 m1 m2 : Nat} {E1 E2 : Tab} (h1 : TbIn X1 w base1 g1 b1 m1 E1) (h2 : TbIn X2 w base2 g2 b2 m2 E2) (hm1 : m1 ≤ 1000000) (hm2 : m2 ≤ 1000000) (hE1 : E1.length ≤ 1000000) (hp : (cont E1).Perm (cont E2)) :
    Calls Tryz.prog 26 #[.pointer (some ⟨g1, 0, none⟩), .pointer (some ⟨g2, 0, none⟩)] w fun e w' => e = .returned (.bool true) ∧ New w w' := by
 have H1 := Lib.hid h1
 have H2 := Lib.hid h2
 have HP := Lib.hid hp
 have hX : ∀ j, X1 j → j < w.heap.size := fun j hj => by
  obtain ⟨_, cs, fz, hx⟩ := h1.xs j hj
  exact (Array.getElem?_eq_some_iff.1 hx).1
 have HX := Lib.hid hX
 have hl : E2.length = E1.length := by have := hp.length_eq; rw [cont_len, cont_len] at this; exact this.symm
 have HL := Lib.hid hl
 clear h1 h2 hX hp hl
 refine (callsIn_wide (n := 3)).1 ?_
 refine callsIn_of_wp_marks Tryz.func26 rfl trivial ?_ rfl
 refine wpIn_wide.2 ?_
 simp only [Tryz.ntmps26, List.size_toArray, List.length_cons, List.length_nil, Nat.reduceAdd, Nat.reduceSub, Array.replicate_succ, Array.replicate_zero, List.push_toArray, List.append_toArray, List.nil_append, List.cons_append]
 go_upto_region 1 with fail
 obtain ⟨w1, hw1⟩ : ∃ w1 : World, w1 = (w.alloc (.cells #[.pointer (some ⟨g2, 0, none⟩)] 42)).alloc (.cells #[.bool false] 4) := ⟨_, rfl⟩
 obtain ⟨b3, hb3⟩ : ∃ b3, b3 = w.heap.size := ⟨_, rfl⟩
 obtain ⟨b4, hb4⟩ : ∃ b4, b4 = w.heap.size + 1 := ⟨_, rfl⟩
 have HN1 : Hid (New w w1) := Lib.hid (by rw [hw1]; exact New.al (New.al (New.refl _) _) _)
 have HB3 : Hid (Blk w1 b3 42 #[.pointer (some ⟨g2, 0, none⟩)]) := Lib.hid (by rw [hw1, hb3]; exact (Blk.new _ _ _).alloc _)
 have HB4 : Hid (Blk w1 b4 4 #[.bool false]) := Lib.hid (by rw [hw1, hb4]; exact Blk.new' _ _ _ (by simp))
 rw [← hw1, ← hb4, ← hb3]
 have HZ4 : Hid (w.heap.size ≤ b4) := Lib.hid (by omega)
 clear hw1 hb3 hb4
 have k3 := cell_regrown (show w1.cell? ⟨b3, 0, none⟩ = some (.pointer (some ⟨g2, 0, none⟩)) from HB3.out.cell 0)
 have cA := calls_regrown (w := w1) (v := .int .i64 E1.length) (f := 66) (args := #[.pointer (some ⟨g1, 0, none⟩)]) (fun W hN => (len_any (H1.out.new (HN1.out.tr hN)) hm1 hE1).mono fun e w h => ⟨h.1, h.2⟩)
 have cB := calls_regrown (w := w1) (v := .int .i64 E1.length) (f := 66) (args := #[.pointer (some ⟨g2, 0, none⟩)]) (fun W hN => (len_any (H2.out.new (HN1.out.tr hN)) hm2 (by rw [HL.out]; exact hE1)).mono fun e w h => ⟨by rw [← HL.out]; exact h.1, h.2⟩)
 refine wp_region_quiet_below (by kernel_rfl) (by kernel_rfl) ?_
 repeat (quiet_step (first | exact cA _ _ | exact cB _ _))
 refine wpQuiet_nil ?_
 intro _ hw'
 obtain ⟨⟨dq, osq⟩, hw''⟩ := hw'
 have HNq : Hid (New w1 (grow (redrawn w1 dq) osq)) := Lib.hid (below_regrown w1 dq osq)
 subst hw''
 generalize grow (redrawn w1 dq) osq = wq at HNq ⊢
 clear k3 cA cB
 go_wp2_with fail
 refine (all_any (some ⟨g1, 0, none⟩) wq).mono ?_
 rintro e w2 ⟨rfl, hw2⟩
 have HN2 : Hid (New w1 w2) := Lib.hid (by rw [hw2]; exact New.al HNq.out _)
 have HS := Lib.hid (all1_live (H1.out.new (HN1.out.tr HN2.out)) hm1 hE1 (fun _ => False) wq.heap.size (by rw [hw2]; exact Blk.new wq _ _) (fun j hj => hj.elim))
 clear hw2
 go_wp2_with fail
 refine wp_rangeR rfl (enters_of Tryz.func114 (by kernel_rfl) rfl) (fun x : List Int × Fm => #[.string (strOfNums x.1), x.2.val]) (fun _ => rfl) HS.out (fun x W W' hg hp => hg.puts hp) (fun h k => h.tr k) (fun W W' hp => Kk.puts hp)
  (fun _ W => New w2 W) (fun _ _ _ h hN => h.tr hN) (fun _ _ _ h hp => h.puts hp (Nat.le_refl _)) (New.refl _) ?a1 ?assign ?body ?done
 case assign =>
  intro l x W K hK
  gi_wp2
  exact hK
 case body =>
  rintro l pre x W hpl hN hG ⟨e0, he0, hx1, hx2, hx3⟩
  have he := st_mem (List.mem_of_getElem? he0)
  have hsl := same_look H2.out.nd HP.out he
  have HNW : Hid (New w W) := Lib.hid ((HN1.out.tr HN2.out).tr hN)
  have HT := Lib.hid (H2.out.new HNW.out)
  have c3 : W.cell? ⟨b3, 0, none⟩ = some (.pointer (some ⟨g2, 0, none⟩)) := (hN.blk (HN2.out.blk HB3.out)).cell 0
  obtain ⟨cc, W2, hcv, hN2, hR2⟩ := conv_back x.1 hG.2.2.2.1 W
  have HN2' := Lib.hid hN2
  have HR2 := Lib.hid hR2
  rw [← hx1] at hsl
  rw [← hx2] at hsl
  have HSL := Lib.hid hsl
  have HG := Lib.hid hG
  have HN := Lib.hid hN
  clear hN2 hR2 hsl hx1 hx2 hx3 he he0 hG hN
  obtain ⟨xk, xA, xn, xc, xs⟩ := x
  simp only [Fm.val]
  dsimp only at hcv
  have hxl : xk.length ≤ 1000000 := by have := HG.out.2.2.2.2; dsimp only at this; omega
  have hbk : Byt xk := HG.out.2.2.2.1
  gi_wp2
  refine ⟨trivial, ?_⟩
  refine (CallsIn.inRound l (callsIn_wide.2 (get_any_l19 (HT.out.new HN2'.out) (some ⟨W.heap.size, 0, none⟩) xk.length cc xk HR2.out hbk hxl))).mono ?_
  rintro e W3 ⟨A3, c3', rfl, hO3, hN3⟩
  rw [HSL.out.1]
  rw [HSL.out.2] at hO3
  generalize (tval E2 xk).n = n3 at hO3 ⊢
  have HN3 : Hid (New W W3) := Lib.hid (HN2'.out.tr hN3)
  have heq := equal_any xA A3 xn n3 xc c3' xs xs W3 (Rd.own (HN3.out.own HG.out.1) rfl) (Rd.own hO3 rfl) HG.out.2.1 HG.out.2.1
  have hts : decide (xs = xs) = true := by simp
  rw [hts] at heq
  have HEQ := Lib.hid heq
  clear heq hO3 hN3 hcv hts
  gi_wp2
  refine ⟨trivial, ?_⟩
  refine (CallsIn.inRound l (callsIn_wide.2 HEQ.out)).mono ?_
  rintro e W4 ⟨rfl, rfl⟩
  gi_wp2
  exact ⟨Kept.new HN3.out, Kk.fr (HN3.out.toFr _), HN.out.tr HN3.out⟩
 case done =>
  rintro D fs W hD hfs hNW hDm
  have HNW := Lib.hid (HN2.out.tr hNW)
  have HDM := Lib.hid hDm
  have c4 : W.cell? ⟨b4, 0, none⟩ = some (.bool false) := (HNW.out.blk HB4.out).cell 0
  have f4 : W.frozen? ⟨b4, 0, none⟩ = false := (HNW.out.blk HB4.out).frozen 0
  clear hNW hDm
  dsimp only
  go_wp2_with fail
  have hF : Fr (fun j => j = b4) W (W.setCell ⟨b4, 0, none⟩ (.bool true)) := (Fr.refl (fun j => j = b4) W).setCell (p := ⟨b4, 0, none⟩) (fun _ => rfl) _
  have hB : Blk (W.setCell ⟨b4, 0, none⟩ (.bool true)) b4 4 #[.bool true] := (HNW.out.blk HB4.out).set 0 _
  refine leaves_marks [D] _ ((Marks.cons (Marks.nil w2.heap.size W) (fun _ h => by cases h) hD HDM.out).fr hF (fun D hD => ?_)) (fun W' hS => ⟨.bool true, ?_, rfl, ?_⟩)
  · subst hD
    exact not_def_blk (HNW.out.blk HB4.out)
  · have hc : W'.cell? ⟨b4, 0, none⟩ = some (.bool true) := by
     have h1 : W'.heap[b4]? = _ := hS.cells b4 _ hB rfl
     exact (show Blk W' b4 4 #[.bool true] from h1).cell 0
    simp [results, Tryz.results26, go_sem, hc]
  · have hz : w.heap.size ≤ w2.heap.size := (HN1.out.tr HN2.out).size
    exact (New.fr (HN1.out.tr HNW.out) hF (fun k hk => by have := HZ4.out; omega)).trans (hS.below.mono hz)
end Go.Proofs.YtfchcdbfalgdlaaGreatDoor
namespace Go.Proofs.YtfchcdbfalgdlaaGreatDoor
set_option linter.unusedVariables false
set_option linter.unusedSimpArgs false
set_option linter.constructorNameAsVariable false
open Go.RowKit Go.Maps Go.Sort
def ch0 : Ch := ⟨⟨none, 0, 0, []⟩, ⟨none, 0, 0, []⟩, false⟩
theorem cells_one (c : Ch) : ∀ u ∈ c.cells, u.oneCell' = true := by
 intro u hu
 simp [Ch.cells] at hu
 rcases hu with rfl | rfl | rfl <;> rfl
end Go.Proofs.YtfchcdbfalgdlaaGreatDoor
