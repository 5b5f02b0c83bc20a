/- A live table's All: its keys in order, each with its value. No condition but that the table can be read. -/
import Derived.Test.YtfhinmjpokollaaKvC
namespace Go.Proofs.Ytfhinmjpokollaa
set_option linter.unusedVariables false
set_option linter.unusedSimpArgs false
set_option linter.constructorNameAsVariable false
open Go.RowKit Go.Maps Go.Sort
attribute [local go_sem] Oper.semAt_some

/-- A key's bytes. -/
def sb (xs : List Int) : List UInt8 := (strOfNums xs).data.toList
theorem enc_sb (xs : List Int) : encStr (sb xs) = .string (strOfNums xs) := by
  unfold sb
  simp [encStr]
/-- A table's entries in order of the keys. -/
def st (E : Tab) : Tab := E.mergeSort (fun a b => leB (sb a.1) (sb b.1))
def sct (T : CT) : CT := T.mergeSort (fun a b => leB (sb a.1) (sb b.1))
theorem cont_st (E : Tab) : cont (st E) = sct (cont E) := by
  unfold cont st sct
  exact List.map_mergeSort (fun a _ b _ => rfl)
theorem st_perm (E : Tab) : (st E).Perm E := List.mergeSort_perm E _
theorem st_len (E : Tab) : (st E).length = E.length := (st_perm E).length_eq
theorem st_mem {E : Tab} {e : List Int × Fm} (h : e ∈ st E) : e ∈ E := (st_perm E).mem_iff.1 h
def kcells (E : Tab) : List Value := (st E).map fun e => .string (strOfNums e.1)
theorem kcells_len (E : Tab) : (kcells E).length = E.length := by simp [kcells, st_len]
theorem kb_sorted (E : Tab) : ((kbytes E).mergeSort leB).map encStr = kcells E := by
  have h : (kbytes E).mergeSort leB = (st E).map (fun e => sb e.1) := by
    unfold kbytes st
    exact (List.map_mergeSort (f := fun e : List Int × Fm => sb e.1) (s := leB) (fun a _ b _ => rfl)).symm
  rw [h, List.map_map]
  unfold kcells
  exact List.map_congr_left fun e _ => enc_sb e.1

theorem rd_szs {p : Nat → Prop} {w : World} {s n : Nat} {A : Option Addr} {xs : List Value} (h : Rd p w s A n xs) : Rd (fun b => b < w.heap.size) w s A n xs :=
  ⟨h.1, fun hn => by obtain ⟨ad, e, _, hb, hc⟩ := h.2 hn; exact ⟨ad, e, hb, hb, hc⟩⟩
/-- What a round of a range over All keeps: all but own cells and new blocks that hold no strings. -/
def Kk (B : Nat) (S : Nat → Prop) (W W' : World) : Prop := Fr (fun j => S j ∨ (B ≤ j ∧ ¬ IsT 9 W j)) W W'
section
variable {B : Nat} {S : Nat → Prop} {A W W' : World}
theorem Kk.tr (h : Kk B S A W) (k : Kk B S W W') : Kk B S A W' := by
  refine ⟨k.os.trans h.os, k.tape.trans h.tape, k.output.trans h.output, Nat.le_trans h.size k.size, fun j hj hn => ?_⟩
  have e := h.block j hj hn
  refine (k.block j (Nat.lt_of_lt_of_le hj h.size) (fun hs => hn ?_)).trans e
  rcases hs with hs | ⟨hs, ht⟩
  · exact .inl hs
  · refine .inr ⟨hs, fun hi => ht ?_⟩
    obtain ⟨cs, fz, hx⟩ := hi
    exact ⟨cs, fz, e.trans hx⟩
theorem Kk.puts (h : Puts B W W') : Kk B S W W' := by
  have hk : ∀ {k : Nat} {o : Obj}, W.heap[k]? = some o → o.isCells = true → W'.heap[k]? = some o := fun h1 h2 => h.keep h1 h2
  obtain ⟨l, o1, o', hB, hl, ho, rfl⟩ := h
  refine ⟨rfl, rfl, rfl, by simp, fun k _ hn => World.putObj_heap_other fun e => hn (.inr ⟨e ▸ hB, ?_⟩)⟩
  rintro ⟨cs, fz, hx⟩
  rw [e, hl] at hx
  injection hx with hx
  rw [hx] at ho
  cases ho
theorem Kk.fr (h : Fr S W W') : Kk B S W W' := h.mono fun _ _ x => .inl x
end
/-- A key and a value handed out: the value's bytes are a clone. -/
def GoodK (B : Nat) (x : List Int × Fm) (W : World) : Prop := W.ownsRow B 5 1 x.2.val x.2.n (u8s x.2.xs) ∧ Byt x.2.xs ∧ x.2.n ≤ 16384 ∧ Byt x.1 ∧ x.1.length ≤ 16
theorem GoodK.puts {B : Nat} {x : List Int × Fm} {W W' : World} (h : GoodK B x W) (hp : Puts B W W') : GoodK B x W' := ⟨hp.own h.1, h.2⟩
/-- What All of a table hands out, one by one. -/
def NextK (E : Tab) (pre : List (List Int × Fm)) (x : List Int × Fm) : Prop := ∃ e, (st E)[pre.length]? = some e ∧ x.1 = e.1 ∧ x.2.xs = e.2.xs ∧ x.2.n = e.2.n
theorem zBs (w : World) : (zeroValue 39).run Try.prog w = .ok (.slice none 0 0) w := by
  first | exact Try.zeroValue39 w | simp [Try.zeroValue39, go_sem] | kernel_rfl

set_option maxHeartbeats 2000000 in
theorem all1_live {X : Nat → Prop} {w : World} {base g b m : Nat} {E : Tab} (h : TbIn X w base g b m E) (hm : m ≤ 1000000) (hE : E.length ≤ 1000000) (S : Nat → Prop) (b1 : Nat) (hb1 : Blk w b1 24 #[.pointer (some ⟨g, 0, none⟩)])
    (hS : ∀ j, S j → j < w.heap.size ∧ j ≠ g ∧ j ≠ b ∧ ¬ X j ∧ j ≠ b1) :
    GivesR (NextK E) Try.prog 44 #[.pointer (some ⟨b1, 0, none⟩)] encKV (GoodK w.heap.size) (Kk w.heap.size S) (fun xs => xs.map (fun x => (x.1, x.2.xs)) = cont (st E)) 1000001 w := by
  have hB0 : ∀ j, X j → j < w.heap.size := fun j hj => by
    obtain ⟨_, cs, fz, hx⟩ := h.xs j hj
    exact (Array.getElem?_eq_some_iff.1 hx).1
  have hg0 := h.blk.lt
  have hbt := h.blt
  have hb10 := hb1.lt
  obtain ⟨B, hB⟩ : ∃ B, B = w.heap.size := ⟨_, rfl⟩
  rw [← hB] at hS hB0 hg0 hbt hb10 ⊢
  -- what a round keeps, keeps the table
  have hkeep : ∀ W W', Kk B S W W' → (TbIn X W base g b m E ∧ Blk W b1 24 #[.pointer (some ⟨g, 0, none⟩)]) → (TbIn X W' base g b m E ∧ Blk W' b1 24 #[.pointer (some ⟨g, 0, none⟩)]) := fun W W' hk h =>
    ⟨h.1.fr hk (fun hs => hs.elim (fun x => (hS _ x).2.1 rfl) (fun x => by omega)) (fun hs => hs.elim (fun x => (hS _ x).2.2.1 rfl) (fun x => by omega)) (fun k hs hx => hs.elim (fun x => (hS _ x).2.2.2.1 hx) (fun x => by have := hB0 k hx; omega)),
     h.2.fr hk (fun hs => hs.elim (fun x => (hS _ x).2.2.2.2 rfl) (fun x => by omega))⟩
  have hkrow : ∀ (W W' : World) (bs n : Nat) (v : Value) (xs : List Value), Kk B S W W' → B ≤ bs → W.ownsRow bs 9 1 v n xs → W'.ownsRow bs 9 1 v n xs := fun W W' bs n v xs hk hbs ho =>
    own_fr ho hk (fun k hv hs => hs.elim (fun x => by have := (hS k x).1; have := (own_lt ho k hv).1; omega) (fun x => x.2 (own_isT ho hv)))
  have hkeep := Lib.hid hkeep
  have hkrow := Lib.hid hkrow
  intro l J W hW hJ hY h0
  refine callsIn_wide.2 ?_
  have HTB : Hid (TbIn X W base g b m E ∧ Blk W b1 24 #[.pointer (some ⟨g, 0, none⟩)]) := Lib.hid ⟨h.new hW, hW.blk hb1⟩
  have HBW : Hid (B ≤ W.heap.size) := Lib.hid (by rw [hB]; exact hW.size)
  have HY := Lib.hid hY
  have HJ := Lib.hid hJ
  have H0 := Lib.hid h0
  have i1 : W.cell? ⟨b1, 0, none⟩ = some (.pointer (some ⟨g, 0, none⟩)) := HTB.out.2.cell 0
  have HK := Lib.hid (keys_any HTB.out.1 hm)
  clear hY hJ hW hb1 h0 h hS hB0 hg0 hbt hb10 hB
  show Calls Try.prog 44 #[.func (.yield l) #[] #[], .pointer (some ⟨b1, 0, none⟩)] W _
  go_enter Try.func44, Try.ntmps44
  go_wp2_with fail
  refine HK.out.mono ?_
  rintro e w1 ⟨⟨v, rfl, hO⟩, hN1⟩
  rw [kb_sorted] at hO
  obtain ⟨A1, c1, rfl, -, -, -, -⟩ := own_shape hO
  generalize hn : E.length = n at *
  have HO1 := Lib.hid hO
  have HJ1 := Lib.hid (HJ.out _ _ _ H0.out hN1)
  have HT1 : Hid (TbIn X w1 base g b m E ∧ Blk w1 b1 24 #[.pointer (some ⟨g, 0, none⟩)]) := Lib.hid ⟨HTB.out.1.new hN1, hN1.blk HTB.out.2⟩
  clear hO hN1 HK HTB i1
  go_wp2_with fail
  go_loopw [8] (fun ix wr => ∃ (k : Nat) (pre : List (List Int × Fm)), k ≤ n ∧ ix = .int .i64 k ∧ pre.map (fun x => (x.1, x.2.xs)) = (cont (st E)).take k ∧ Hid (J pre wr) ∧ Hid (wr.ownsRow W.heap.size 9 1 (.slice A1 n c1) n (kcells E)) ∧ Hid (TbIn X wr base g b m E ∧ Blk wr b1 24 #[.pointer (some ⟨g, 0, none⟩)])) (fun ix _ => n - (intOf ix).toNat)
  case atStart => exact ⟨0, [], Nat.zero_le _, rfl, by simp, HJ1, HO1, HT1⟩
  case round =>
    obtain ⟨k, pre, hk, rfl, hpre, HJk, HOk, HTk⟩ := hrel
    clear HJ1 HO1 HT1 H0
    by_cases hlt : k < n
    · obtain ⟨bA, cA, he, -, -⟩ := own_form HOk.out (by omega)
      injection he with he1 he2 he3
      subst he1 he3
      have hkL : k < (st E).length := by rw [st_len]; omega
      obtain ⟨x, hx⟩ : ∃ x, x = (st E)[k] := ⟨_, rfl⟩
      have hxm : x ∈ E := st_mem (by rw [hx]; exact List.getElem_mem _)
      have HXK : Hid ((st E)[k]? = some x) := Lib.hid (by rw [List.getElem?_eq_getElem hkL, hx])
      have hcell : wr.cell? ⟨bA, k, none⟩ = some (.string (strOfNums x.1)) := by
        obtain ⟨g', o', hA, -, -, hq⟩ := (Rd.own HOk.out rfl).out (by omega) (by omega)
        injection hA with hA
        injection hA with e1 e2 e3
        subst e1 e2
        have := hq k _ (by unfold kcells; rw [List.getElem?_map, HXK.out]; rfl)
        rwa [Nat.zero_add] at this
      have hxe := HTk.out.1.el x hxm
      have hlk : (Instr.lookup 67 (.map (some b)) (.string (strOfNums x.1)) false).run Try.prog wr = .ok x.2.val wr := by
        obtain ⟨f, hM, h1, -⟩ := HTk.out.1.map
        have := (hM.look keyS Try.underlying67 (zBs wr) (key_of (xs := x.1) (by omega))).2
        rw [this, h1 x.1 hxe.1, mem_lookup HTk.out.1.nd hxm]
        rfl
      have j1 : wr.cell? ⟨b1, 0, none⟩ = some (.pointer (some ⟨g, 0, none⟩)) := HTk.out.2.cell 0
      have j2 : wr.cell? ⟨g, 0, none⟩ = some (.map (some b)) := HTk.out.1.blk.cell 0
      have HXE := Lib.hid hxe
      have hk0 : (0 : Int) ≤ (k : Int) := by omega
      have hkn : (k : Int) < (n : Int) := by omega
      clear hx hxm hkL hxe
      obtain ⟨xk, xA, xn, xc, xs⟩ := x
      simp only [Fm.val] at hlk
      dsimp only at hcell hlk
      go_upto_region 3 with fail
      refine (wpIn_wide (n := 3)).1 ?_
      gi_wp2
      refine ⟨trivial, ?_⟩
      have hpl : pre.length = k := by
        have := congrArg List.length hpre
        rw [List.length_map, List.length_take, cont_len, st_len] at this
        omega
      refine (callsIn_wide.2 (bclone_any xA xn xc xs wr (rd_szs HXE.out.2.2.1.rd) (by have := HXE.out.2.2.2; omega))).mono ?_
      rintro e w2 ⟨⟨A2, c2, rfl, hO2⟩, hN2⟩
      have hbase : B ≤ wr.heap.size := by
        have h1 := (own_lt HOk.out bA (by simp [Value.ownBlock]))
        have := HBW.out
        omega
      have hO2' := own_base (b := B) hO2 (fun k hk => by have := (own_lt hO2 k hk).1; omega)
      obtain ⟨fn, tmps, asg, bo, hy, hR⟩ := HY.out pre (xk, ⟨A2, xn, c2, xs⟩) w2 (by omega) (HJ.out _ _ _ HJk.out hN2) ⟨hO2', HXE.out.2.2.1.byt, HXE.out.2.2.2, HXE.out.1, HXE.out.2.1⟩ ⟨(xk, ⟨xA, xn, xc, xs⟩), by rw [hpl]; exact HXK.out, rfl, rfl, rfl⟩
      simp only [Fm.val, encKV] at hy
      have HN2 : Hid (New wr w2) := Lib.hid hN2
      have HR := Lib.hid hR
      clear hO2 hO2' hN2 hR
      gi_wp2
      refine HR.out.mono ?_
      rintro e w3 ⟨rfl, hJ3, hK3⟩
      have HJ3 := Lib.hid hJ3
      have HK3 := Lib.hid hK3
      clear hJ3 hK3 HR hy hcell
      gi_wp2
      try go_wp2_with fail
      go_roundw
      case rel =>
        refine ⟨k + 1, pre ++ [(xk, ⟨A2, xn, c2, xs⟩)], by omega, by go_num, ?_, HJ3, Lib.hid (hkrow.out _ _ _ _ _ _ HK3.out HBW.out (New.own HN2.out HOk.out)), Lib.hid (hkeep.out _ _ HK3.out ⟨HTk.out.1.new HN2.out, HN2.out.blk HTk.out.2⟩)⟩
        rw [List.map_append, hpre, List.take_add_one]
        unfold cont
        rw [List.getElem?_map, HXK.out]
        rfl
      case measure => simp [intOf]; omega
    · as_aux_lemma =>
        obtain rfl : k = n := by omega
        go_wp2_with fail
        go_end0
        exact ⟨⟨_, rfl⟩, pre, by rw [hpre, ← hn, List.take_of_length_le (by rw [cont_len, st_len]; omega)], HJk.out⟩
end Go.Proofs.Ytfhinmjpokollaa
