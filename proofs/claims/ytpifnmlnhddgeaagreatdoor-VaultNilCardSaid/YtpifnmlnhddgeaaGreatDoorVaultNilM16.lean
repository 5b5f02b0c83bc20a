/- Texts of one proof, one behind the other: FillS, KvC, KvF, KvG. No condition but each one's own. -/
import Derived.Test.YtpifnmlnhddgeaaGreatDoorVaultNilM10
import Derived.Test.YtpifnmlnhddgeaaGreatDoorVaultNilM12
import Derived.Test.YtpifnmlnhddgeaaGreatDoorVaultNilM1
import Derived.Shelf.Abstract
import Derived.LoopNIn
import Derived.LoopIn
import Derived.Deep.CutRange
import Derived.Test.YtpifnmlnhddgeaaGreatDoorVaultNilM4
import Derived.Deep.RegionHeld3
namespace Go.Proofs.YtpifnmlnhddgeaaGreatDoor
set_option linter.unusedVariables false
set_option linter.unusedSimpArgs false
set_option linter.constructorNameAsVariable false
open Go.RowKit
theorem built_struct {P : Program} {t m : Nat} {fs : Array Field} {zs : Array Value} {places : List (Nat × Nat)} (hu : P.underlying t = some (.struct fs)) (hi : (P.info? t).map (fun i => (i.zero, i.size)) = some (some (.agg zs), m)) (hp : fs.toList.mapM (fun f => (P.info? f.type).map fun i => (f.offset, i.size)) = some places) (parts : List (Nat × Value)) :
    P.built t parts = Instr.fill (places.toArray[·]?) zs parts := by
 unfold Program.built
 cases hq : P.info? t with
 | none => simp [hq] at hi
 | some it =>
  have h1 : it.zero = some (.agg zs) := by
   rw [hq] at hi
   exact congrArg Prod.fst (Option.some.inj hi)
  simp only [hu, h1, hp, Value.cells]
theorem fill_cell {place : Nat → Option (Nat × Nat)} {i off : Nat} {v : Value} {xs : List Value} {rest : List (Nat × Value)} (hp : place i = some (off, 1)) (hv : v.cells = #[v]) (hl : off < xs.length) :
    Instr.fill place xs.toArray ((i, v) :: rest) = Instr.fill place (xs.set off v).toArray rest := by
 rw [fill_one (ys := [v]) hp hv (by simp; omega)]
 congr 2
 unfold splice
 rw [List.length_singleton, List.set_eq_take_append_cons_drop, if_pos hl]
 simp
end Go.Proofs.YtpifnmlnhddgeaaGreatDoor
namespace Go.Proofs.YtpifnmlnhddgeaaGreatDoor
set_option linter.unusedVariables false
set_option linter.unusedSimpArgs false
set_option linter.constructorNameAsVariable false
open Go.RowKit Go.Maps Go.Sort
attribute [local go_sem] Oper.semAt_some
theorem all_any (v : Option Addr) (w : World) : Calls Tryz.prog 57 #[.pointer v] w fun e w' => e = .returned (.func (.func 136) #[] #[.pointer (some ⟨w.heap.size, 0, none⟩)]) ∧ w' = w.alloc (.cells #[.pointer v] 141) := by
 go_enter Tryz.func57, Tryz.ntmps57
 go_wp2_with fail
 go_ret
 exact ⟨rfl, rfl⟩
def encKV (x : List Int × Fm) : Array Value := #[.string (strOfNums x.1), x.2.val]
end Go.Proofs.YtpifnmlnhddgeaaGreatDoor
namespace Go.Proofs.YtpifnmlnhddgeaaGreatDoor
set_option linter.unusedVariables false
set_option linter.unusedSimpArgs false
set_option linter.constructorNameAsVariable false
open Go.RowKit Go.Maps Go.Sort
attribute [local go_sem] Oper.semAt_some
def sb (xs : List Int) : List UInt8 := (strOfNums xs).data.toList
theorem enc_sb (xs : List Int) : encStr (sb xs) = .string (strOfNums xs) := by
 unfold sb
 simp [encStr]
def st (E : Tab) : Tab := E.mergeSort (fun a b => leB (sb a.1) (sb b.1))
def sct_l19 (T : CT) : CT := T.mergeSort (fun a b => leB (sb a.1) (sb b.1))
theorem cont_st (E : Tab) : cont (st E) = sct_l19 (cont E) := by
 unfold cont st sct_l19
 exact List.map_mergeSort (fun a _ b _ => rfl)
theorem st_perm (E : Tab) : (st E).Perm E := List.mergeSort_perm E _
theorem st_len (E : Tab) : (st E).length = E.length := (st_perm E).length_eq
theorem st_mem {E : Tab} {e : List Int × Fm} (h : e ∈ st E) : e ∈ E := (st_perm E).mem_iff.1 h
def kcells (E : Tab) : List Value := (st E).map fun e => .string (strOfNums e.1)
theorem kb_sorted (E : Tab) : ((kbytes E).mergeSort leB).map encStr = kcells E := by
 have h : (kbytes E).mergeSort leB = (st E).map (fun e => sb e.1) := by
  unfold kbytes st
  exact (List.map_mergeSort (f := fun e : List Int × Fm => sb e.1) (s := leB) (fun a _ b _ => rfl)).symm
 rw [h, List.map_map]
 unfold kcells
 exact List.map_congr_left fun e _ => enc_sb e.1
theorem rd_szs {p : Nat → Prop} {w : World} {s n : Nat} {A : Option Addr} {xs : List Value} (h : Rd p w s A n xs) : Rd (fun b => b < w.heap.size) w s A n xs :=
 ⟨h.1, fun hn => by obtain ⟨ad, e, _, hb, hc⟩ := h.2 hn; exact ⟨ad, e, hb, hb, hc⟩⟩
def Kk (B : Nat) (S : Nat → Prop) (W W' : World) : Prop := Fr (fun j => S j ∨ (B ≤ j ∧ ¬ IsT 9 W j)) W W'
section
variable {B : Nat} {S : Nat → Prop} {A W W' : World}
theorem Kk.tr (h : Kk B S A W) (k : Kk B S W W') : Kk B S A W' := by
 refine ⟨k.os.trans h.os, k.tape.trans h.tape, k.output.trans h.output, Nat.le_trans h.size k.size, fun j hj hn => ?_⟩
 have e := h.block j hj hn
 refine (k.block j (Nat.lt_of_lt_of_le hj h.size) (fun hs => hn ?_)).trans e
 rcases hs with hs | ⟨hs, ht⟩
 · exact .inl hs
 · refine .inr ⟨hs, fun hi => ht ?_⟩
   obtain ⟨cs, fz, hx⟩ := hi
   exact ⟨cs, fz, e.trans hx⟩
theorem Kk.puts (h : Puts B W W') : Kk B S W W' := by
 have hk : ∀ {k : Nat} {o : Obj}, W.heap[k]? = some o → o.isCells = true → W'.heap[k]? = some o := fun h1 h2 => h.keep h1 h2
 obtain ⟨l, o1, o', hB, hl, ho, rfl⟩ := h
 refine ⟨rfl, rfl, rfl, by simp, fun k _ hn => World.putObj_heap_other fun e => hn (.inr ⟨e ▸ hB, ?_⟩)⟩
 rintro ⟨cs, fz, hx⟩
 rw [e, hl] at hx
 injection hx with hx
 rw [hx] at ho
 cases ho
theorem Kk.fr (h : Fr S W W') : Kk B S W W' := h.mono fun _ _ x => .inl x
end
def GoodK (B : Nat) (x : List Int × Fm) (W : World) : Prop := W.ownsRow B 5 1 x.2.val x.2.n (u8s x.2.xs) ∧ Byt x.2.xs ∧ x.2.n ≤ 16384 ∧ Byt x.1 ∧ x.1.length ≤ 16
theorem GoodK.puts {B : Nat} {x : List Int × Fm} {W W' : World} (h : GoodK B x W) (hp : Puts B W W') : GoodK B x W' := ⟨hp.own h.1, h.2⟩
def NextK (E : Tab) (pre : List (List Int × Fm)) (x : List Int × Fm) : Prop := ∃ e, (st E)[pre.length]? = some e ∧ x.1 = e.1 ∧ x.2.xs = e.2.xs ∧ x.2.n = e.2.n
theorem zBs (w : World) : (zeroValue 122).run Tryz.prog w = .ok (.slice none 0 0) w := by
 first | exact Tryz.zeroValue122 w | simp [Tryz.zeroValue122, go_sem] | kernel_rfl
set_option maxHeartbeats 2000000 in
theorem all1_live {X : Nat → Prop} {w : World} {base g b m : Nat} {E : Tab} (h : TbIn X w base g b m E) (hm : m ≤ 1000000) (hE : E.length ≤ 1000000) (S : Nat → Prop) (b1 : Nat) (hb1 : Blk w b1 141 #[.pointer (some ⟨g, 0, none⟩)])
    (hS : ∀ j, S j → j < w.heap.size ∧ j ≠ g ∧ j ≠ b ∧ ¬ X j ∧ j ≠ b1) :
    GivesR (NextK E) Tryz.prog 136 #[.pointer (some ⟨b1, 0, none⟩)] encKV (GoodK w.heap.size) (Kk w.heap.size S) (fun xs => xs.map (fun x => (x.1, x.2.xs)) = cont (st E)) 1000001 w := by
 have hB0 : ∀ j, X j → j < w.heap.size := fun j hj => by
  obtain ⟨_, cs, fz, hx⟩ := h.xs j hj
  exact (Array.getElem?_eq_some_iff.1 hx).1
 have hg0 := h.blk.lt
 have hbt := h.blt
 have hb10 := hb1.lt
 obtain ⟨B, hB⟩ : ∃ B, B = w.heap.size := ⟨_, rfl⟩
 rw [← hB] at hS hB0 hg0 hbt hb10 ⊢
 have hkeep : ∀ W W', Kk B S W W' → (TbIn X W base g b m E ∧ Blk W b1 141 #[.pointer (some ⟨g, 0, none⟩)]) → (TbIn X W' base g b m E ∧ Blk W' b1 141 #[.pointer (some ⟨g, 0, none⟩)]) := fun W W' hk h =>
  ⟨h.1.fr hk (fun hs => hs.elim (fun x => (hS _ x).2.1 rfl) (fun x => by omega)) (fun hs => hs.elim (fun x => (hS _ x).2.2.1 rfl) (fun x => by omega)) (fun k hs hx => hs.elim (fun x => (hS _ x).2.2.2.1 hx) (fun x => by have := hB0 k hx; omega)),
   h.2.fr hk (fun hs => hs.elim (fun x => (hS _ x).2.2.2.2 rfl) (fun x => by omega))⟩
 have hkrow : ∀ (W W' : World) (bs n : Nat) (v : Value) (xs : List Value), Kk B S W W' → B ≤ bs → W.ownsRow bs 9 1 v n xs → W'.ownsRow bs 9 1 v n xs := fun W W' bs n v xs hk hbs ho =>
  own_fr ho hk (fun k hv hs => hs.elim (fun x => by have := (hS k x).1; have := (own_lt ho k hv).1; omega) (fun x => x.2 (own_isT ho hv)))
 have hkeep := Lib.hid hkeep
 have hkrow := Lib.hid hkrow
 intro l J W hW hJ hY h0
 refine callsIn_wide.2 ?_
 have HTB : Hid (TbIn X W base g b m E ∧ Blk W b1 141 #[.pointer (some ⟨g, 0, none⟩)]) := Lib.hid ⟨h.new hW, hW.blk hb1⟩
 have HBW : Hid (B ≤ W.heap.size) := Lib.hid (by rw [hB]; exact hW.size)
 have HY := Lib.hid hY
 have HJ := Lib.hid hJ
 have H0 := Lib.hid h0
 have i1 : W.cell? ⟨b1, 0, none⟩ = some (.pointer (some ⟨g, 0, none⟩)) := HTB.out.2.cell 0
 have HK := Lib.hid (keys_any HTB.out.1 hm)
 clear hY hJ hW hb1 h0 h hS hB0 hg0 hbt hb10 hB
 show Calls Tryz.prog 136 #[.func (.yield l) #[] #[], .pointer (some ⟨b1, 0, none⟩)] W _
 go_enter Tryz.func136, Tryz.ntmps136
 go_wp2_with fail
 refine HK.out.mono ?_
 rintro e w1 ⟨⟨v, rfl, hO⟩, hN1⟩
 rw [kb_sorted] at hO
 obtain ⟨A1, c1, rfl, -, -, -, -⟩ := own_shape hO
 generalize hn : E.length = n at *
 have HO1 := Lib.hid hO
 have HJ1 := Lib.hid (HJ.out _ _ _ H0.out hN1)
 have HT1 : Hid (TbIn X w1 base g b m E ∧ Blk w1 b1 141 #[.pointer (some ⟨g, 0, none⟩)]) := Lib.hid ⟨HTB.out.1.new hN1, hN1.blk HTB.out.2⟩
 clear hO hN1 HK HTB i1
 go_wp2_with fail
 go_loopw [8] (fun ix wr => ∃ (k : Nat) (pre : List (List Int × Fm)), k ≤ n ∧ ix = .int .i64 k ∧ pre.map (fun x => (x.1, x.2.xs)) = (cont (st E)).take k ∧ Hid (J pre wr) ∧ Hid (wr.ownsRow W.heap.size 9 1 (.slice A1 n c1) n (kcells E)) ∧ Hid (TbIn X wr base g b m E ∧ Blk wr b1 141 #[.pointer (some ⟨g, 0, none⟩)])) (fun ix _ => n - (intOf ix).toNat)
 case atStart => exact ⟨0, [], Nat.zero_le _, rfl, by simp, HJ1, HO1, HT1⟩
 case round =>
  obtain ⟨k, pre, hk, rfl, hpre, HJk, HOk, HTk⟩ := hrel
  clear HJ1 HO1 HT1 H0
  by_cases hlt : k < n
  · obtain ⟨bA, cA, he, -, -⟩ := own_form HOk.out (by omega)
    injection he with he1 he2 he3
    subst he1 he3
    have hkL : k < (st E).length := by rw [st_len]; omega
    obtain ⟨x, hx⟩ : ∃ x, x = (st E)[k] := ⟨_, rfl⟩
    have hxm : x ∈ E := st_mem (by rw [hx]; exact List.getElem_mem _)
    have HXK : Hid ((st E)[k]? = some x) := Lib.hid (by rw [List.getElem?_eq_getElem hkL, hx])
    have hcell : wr.cell? ⟨bA, k, none⟩ = some (.string (strOfNums x.1)) := by
     obtain ⟨g', o', hA, -, -, hq⟩ := (Rd.own HOk.out rfl).out (by omega) (by omega)
     injection hA with hA
     injection hA with e1 e2 e3
     subst e1 e2
     have := hq k _ (by unfold kcells; rw [List.getElem?_map, HXK.out]; rfl)
     rwa [Nat.zero_add] at this
    have hxe := HTk.out.1.el x hxm
    have hlk : (Instr.lookup 269 (.map (some b)) (.string (strOfNums x.1)) false).run Tryz.prog wr = .ok x.2.val wr := by
     obtain ⟨f, hM, h1, -⟩ := HTk.out.1.map
     have := (hM.look keyS Tryz.underlying269 (zBs wr) (key_of (xs := x.1) (by omega))).2
     rw [this, h1 x.1 hxe.1, mem_lookup HTk.out.1.nd hxm]
     rfl
    have j1 : wr.cell? ⟨b1, 0, none⟩ = some (.pointer (some ⟨g, 0, none⟩)) := HTk.out.2.cell 0
    have j2 : wr.cell? ⟨g, 0, none⟩ = some (.map (some b)) := HTk.out.1.blk.cell 0
    have HXE := Lib.hid hxe
    have hk0 : (0 : Int) ≤ (k : Int) := by omega
    have hkn : (k : Int) < (n : Int) := by omega
    clear hx hxm hkL hxe
    obtain ⟨xk, xA, xn, xc, xs⟩ := x
    simp only [Fm.val] at hlk
    dsimp only at hcell hlk
    go_upto_region 3 with fail
    refine (wpIn_wide (n := 3)).1 ?_
    gi_wp2
    refine ⟨trivial, ?_⟩
    have hpl : pre.length = k := by
     have := congrArg List.length hpre
     rw [List.length_map, List.length_take, cont_len, st_len] at this
     omega
    refine (callsIn_wide.2 (bclone_any xA xn xc xs wr (rd_szs HXE.out.2.2.1.rd) (by have := HXE.out.2.2.2; omega))).mono ?_
    rintro e w2 ⟨⟨A2, c2, rfl, hO2⟩, hN2⟩
    have hbase : B ≤ wr.heap.size := by
     have h1 := (own_lt HOk.out bA (by simp [Value.ownBlock]))
     have := HBW.out
     omega
    have hO2' := own_base (b := B) hO2 (fun k hk => by have := (own_lt hO2 k hk).1; omega)
    obtain ⟨fn, tmps, asg, bo, hy, hR⟩ := HY.out pre (xk, ⟨A2, xn, c2, xs⟩) w2 (by omega) (HJ.out _ _ _ HJk.out hN2) ⟨hO2', HXE.out.2.2.1.byt, HXE.out.2.2.2, HXE.out.1, HXE.out.2.1⟩ ⟨(xk, ⟨xA, xn, xc, xs⟩), by rw [hpl]; exact HXK.out, rfl, rfl, rfl⟩
    simp only [Fm.val, encKV] at hy
    have HN2 : Hid (New wr w2) := Lib.hid hN2
    have HR := Lib.hid hR
    clear hO2 hO2' hN2 hR
    gi_wp2
    refine HR.out.mono ?_
    rintro e w3 ⟨rfl, hJ3, hK3⟩
    have HJ3 := Lib.hid hJ3
    have HK3 := Lib.hid hK3
    clear hJ3 hK3 HR hy hcell
    gi_wp2
    try go_wp2_with fail
    go_roundw
    case rel =>
     refine ⟨k + 1, pre ++ [(xk, ⟨A2, xn, c2, xs⟩)], by omega, by go_num, ?_, HJ3, Lib.hid (hkrow.out _ _ _ _ _ _ HK3.out HBW.out (New.own HN2.out HOk.out)), Lib.hid (hkeep.out _ _ HK3.out ⟨HTk.out.1.new HN2.out, HN2.out.blk HTk.out.2⟩)⟩
     rw [List.map_append, hpre, List.take_add_one]
     unfold cont
     rw [List.getElem?_map, HXK.out]
     rfl
    case measure => simp [intOf]; omega
  · as_aux_lemma =>
     obtain rfl : k = n := by omega
     go_wp2_with fail
     go_end0
     exact ⟨⟨_, rfl⟩, pre, by rw [hpre, ← hn, List.take_of_length_le (by rw [cont_len, st_len]; omega)], HJk.out⟩
end Go.Proofs.YtpifnmlnhddgeaaGreatDoor
namespace Go.Proofs.YtpifnmlnhddgeaaGreatDoor
set_option linter.unusedVariables false
set_option linter.unusedSimpArgs false
set_option linter.constructorNameAsVariable false
open Go.RowKit Go.Maps Go.Sort
set_option maxRecDepth 100000 in
theorem mclone_any (b n : Nat) (f : Lit → Option Value) (w : World) (h : MapAt w Tryz.prog 9 b n f) :
    Calls Tryz.prog 218 #[.map (some b)] w fun e w' => e = .returned (.map (some w.heap.size)) ∧ MapAt w' Tryz.prog 9 w.heap.size n f ∧ New w w' := by
 obtain ⟨o, hrun, hM⟩ := MapAt.cloned (t := 269) h
 have HM := Lib.hid hM
 have hq := fun w => run_eql_map_nil_sl (P := Tryz.prog) w 269 _ _ (some b) Tryz.underlying269
 clear hM h
 go_enter Tryz.func218, Tryz.ntmps218
 go_wp2
 rw [run_callFunc_extern Tryz.func249 (by kernel_rfl) (by kernel_rfl) (by kernel_rfl) (e := Extern.MapsClone.clone) (by kernel_rfl), hrun]
 simp only [Result.andThen]
 rw [Oper.upon_value]
 go_wp2
 rw [run_typeAssert_map_sl _ 269 20 _ _ _ Tryz.underlying269]
 simp only [Result.andThen]
 rw [Oper.upon_value]
 go_wp2
 go_ret
 exact ⟨rfl, HM.out, New.al (New.refl _) _⟩
theorem copy_any_l19 {X : Nat → Prop} {w : World} {base g b m : Nat} {E : Tab} (h : TbIn X w base g b m E) (hbase : base ≤ w.heap.size) :
    Calls Tryz.prog 135 #[.pointer (some ⟨g, 0, none⟩)] w fun e w' => ∃ g' b', e = .returned (.pointer (some ⟨g', 0, none⟩)) ∧ TbIn X w' base g' b' m E ∧ New w w' ∧ w.heap.size ≤ g' ∧ w.heap.size ≤ b' := by
 obtain ⟨f, hM, h1, h2⟩ := h.map
 have H := Lib.hid h
 have c0 : w.cell? ⟨g, 0, none⟩ = some (.map (some b)) := h.blk.cell 0
 have HC := Lib.hid (mclone_any b m f w hM)
 clear h hM
 go_enter Tryz.func135, Tryz.ntmps135
 go_wp2_with fail
 refine HC.out.mono ?_
 rintro e w1 ⟨rfl, hM1, hN1⟩
 have HM1 := Lib.hid hM1
 have HN1 := Lib.hid hN1
 clear hM1 hN1 HC
 go_wp2_with fail
 go_ret
 have hs := HN1.out.size
 refine ⟨w1.heap.size, w.heap.size, rfl, ⟨Blk.new _ _ _, ⟨f, HM1.out.alloc _, h1, h2⟩, H.out.nd, fun e he => ?_, by omega, hbase, fun k hk => ?_⟩, New.al HN1.out _, hs, Nat.le_refl _⟩
 · have := H.out.el e he
   have hN := New.al HN1.out (.cells #[.map (some w.heap.size)] 271)
   exact ⟨this.1, this.2.1, ⟨hN.rd this.2.2.1.rd, this.2.2.1.byt⟩, this.2.2.2⟩
 · exact ⟨(H.out.xs k hk).1, (H.out.xs k hk).2.fr ((New.al HN1.out (.cells #[.map (some w.heap.size)] 271)).toFr NoB) (fun x => x)⟩
def tval (E : Tab) (k : List Int) : Fm := (E.lookup k).getD ⟨none, 0, 0, []⟩
theorem get_any_l19 {X q : Nat → Prop} {w : World} {base g b m : Nat} {E : Tab} (h : TbIn X w base g b m E) (A : Option Addr) (n c : Nat) (xs : List Int) (hR : Rd q w 1 A n (u8s xs)) (hb : Byt xs) (hn : n ≤ 1000000) :
    Calls Tryz.prog 129 #[.pointer (some ⟨g, 0, none⟩), .slice A n c] w fun e w' => ∃ A' c', e = .returned (.tuple #[.slice A' (tval E xs).n c', .bool (E.lookup xs).isSome]) ∧ w'.ownsRow w.heap.size 5 1 (.slice A' (tval E xs).n c') (tval E xs).n (u8s (tval E xs).xs) ∧ New w w' := by
 have hxl : xs.length = n := by have := hR.1; rw [u8s_len] at this; omega
 have hko := key_of (xs := xs) (by omega)
 have hcv := fun q => run_conv (c := c) (w := w.drewN q) hR
 have c0 : w.cell? ⟨g, 0, none⟩ = some (.map (some b)) := h.blk.cell 0
 have hvn : (tval E xs).n ≤ 1000000 ∧ Rd X w 1 (tval E xs).A (tval E xs).n (u8s (tval E xs).xs) := by
  unfold tval
  cases hl : E.lookup xs with
  | none => exact ⟨by simp, ⟨rfl, fun h => absurd h (by simp)⟩⟩
  | some v => have := h.el _ (lookup_mem hl); exact ⟨by have h4 := this.2.2.2; dsimp only at h4; show v.n ≤ 1000000; omega, this.2.2.1.rd⟩
 have hlk : ∀ q, (Instr.lookup 269 (.map (some b)) (.string (strOfNums xs)) true).run Tryz.prog (w.drewN q) = .ok (.tuple #[(tval E xs).val, .bool (E.lookup xs).isSome]) (w.drewN q) := fun q => by
  obtain ⟨f, hM0, h1, -⟩ := h.map
  have hM : MapAt (w.drewN q) Tryz.prog 9 b m f := hM0
  have := (hM.look keyS Tryz.underlying269 (z := .slice none 0 0) (zBs _) hko).1
  rw [h1 xs hb] at this
  rw [this]
  unfold tval
  cases E.lookup xs <;> rfl
 obtain ⟨hvn, hvr⟩ := hvn
 have HV := Lib.hid hvr
 generalize strOfNums xs = sx at hko hcv hlk
 generalize (E.lookup xs).isSome = there at hlk ⊢
 generalize tval E xs = x at hlk hvn HV ⊢
 clear hko hR h hb hvr
 obtain ⟨xA, xn, xc, xv⟩ := x
 simp only [Fm.val] at hlk
 dsimp only at hvn HV ⊢
 go_enter Tryz.func129, Tryz.ntmps129
 go_wp2_with fail
 go_quiet (fail)
 go_wp2_with fail
 refine (bclone_any xA xn xc xv _ (rd_szs (New.rd (New.dn (New.refl _) _) HV.out)) (by omega)).mono ?_
 rintro e w' ⟨⟨A2, c2, rfl, hO2⟩, hN2⟩
 have HO2 := Lib.hid hO2
 have HN2 : Hid (New w w') := Lib.hid ((New.dn (New.refl w) _).tr hN2)
 clear hO2 hN2
 go_wp2_with fail
 go_ret2
 exact ⟨A2, c2, rfl, HO2.out, HN2.out⟩
end Go.Proofs.YtpifnmlnhddgeaaGreatDoor
