/- Tables: Apply. No condition but that all can be read. -/
import Derived.Test.YtfhinmjpokollaaKvA
import Derived.Test.YtfhinmjpokollaaLast
import Derived.Deep.CutBlock
namespace Go.Proofs.Ytfhinmjpokollaa
set_option linter.unusedVariables false
set_option linter.unusedSimpArgs false
set_option linter.constructorNameAsVariable false
open Go.RowKit Go.Maps Go.Sort

/-- A table by its contents alone. -/
abbrev CT := List (List Int × List Int)
def cont (E : Tab) : CT := E.map fun e => (e.1, e.2.xs)
def cdel (T : CT) (k : List Int) : CT := T.filter fun e => decide (e.1 ≠ k)
def cput (T : CT) (k v : List Int) : CT := cdel T k ++ [(k, v)]
def doC (T : CT) (c : Ch) : CT := if c.d then cdel T c.k.xs else cput T c.k.xs c.v.xs
def doCs (T : CT) (L : List Ch) : CT := L.foldl doC T
theorem cont_del (E : Tab) (k : List Int) : cont (tdel E k) = cdel (cont E) k := by
  unfold cont tdel cdel
  rw [List.filter_map]
  rfl
theorem cont_put (E : Tab) (k : List Int) (v : Fm) : cont (tput E k v) = cput (cont E) k v.xs := by
  unfold cput tput
  rw [← cont_del]
  simp [cont]
theorem cont_len (E : Tab) : (cont E).length = E.length := by simp [cont]
theorem do_snoc (T : CT) (L : List Ch) (c : Ch) : doCs T (L ++ [c]) = doC (doCs T L) c := by simp [doCs]
theorem cdel_le (T : CT) (k : List Int) : (cdel T k).length ≤ T.length := List.length_filter_le _ _
theorem doC_le (T : CT) (c : Ch) : (doC T c).length ≤ T.length + 1 := by
  unfold doC cput
  have := cdel_le T c.k.xs
  split
  · omega
  · simp; omega
theorem chsOk_spec {L : List Ch} (h : chsOk L = true) : 1 ≤ L.length ∧ L.length ≤ 600 ∧ ∀ c ∈ L, 1 ≤ c.k.n ∧ c.k.n ≤ 16 ∧ c.v.n ≤ 16384 ∧ (c.d = true → c.v.n = 0) := by
  unfold chsOk at h
  simp only [Bool.and_eq_true, decide_eq_true_eq, List.all_eq_true] at h
  obtain ⟨⟨h1, h2⟩, h3⟩ := h
  refine ⟨h1, h2, fun c hc => ?_⟩
  have := h3 c hc
  unfold chOk at this
  simp only [Bool.and_eq_true, decide_eq_true_eq, Bool.not_eq_true', Bool.and_eq_false_iff] at this
  obtain ⟨⟨⟨a1, a2⟩, a3⟩, a4⟩ := this
  refine ⟨a1, a2, a3, fun hd => ?_⟩
  rcases a4 with a4 | a4
  · rw [hd] at a4; cases a4
  · simp at a4; omega
section
variable {X : Nat → Prop} {w w' : World} {base g b m : Nat} {E : Tab}
/-- What a delete leaves. -/
theorem TbIn.del (h : TbIn X w base g b m E) {k : List Int} {f : Lit → Option Value} (hk : Byt k) (h1 : ∀ xs, Byt xs → f (key xs) = (E.lookup xs).map Fm.val) (h2 : ∀ kl, (f kl).isSome = true → ∃ xs, Byt xs ∧ kl = key xs)
    (hM : MapAt w' Try.prog 9 b m (putF f (key k) none)) (hF : Fr (fun j => j = b) w w') : TbIn X w' base g b m (tdel E k) := by
  refine ⟨h.blk.fr hF h.gne, ⟨_, hM, fun xs hx => ?_, fun kl hs => ?_⟩, nd_del h.nd k, fun e he => ?_, h.gb, h.lb, fun j hj => ⟨(h.xs j hj).1, (h.xs j hj).2.fr hF (fun e => h.bX (e ▸ hj))⟩⟩
  · rw [lookup_del]
    by_cases e : xs = k
    · rw [if_pos e, e, putF_same (kl := key k) trivial]
      rfl
    · rw [if_neg e, putF_other (fun hh => e (key_inj hx hk hh)), h1 xs hx]
  · by_cases e : kl = key k
    · rw [e, putF_same (kl := key k) trivial] at hs
      cases hs
    · rw [putF_other e] at hs
      exact h2 kl hs
  · have := h.el e (mem_del he)
    exact ⟨this.1, this.2.1, this.2.2.1.fr hF (fun j hj hs => h.bX (hs ▸ hj)), this.2.2.2⟩
/-- What a store leaves. -/
theorem TbIn.put {Y : Nat → Prop} (h : TbIn X w base g b m E) {k : List Int} {v : Fm} {f : Lit → Option Value} (hk : Byt k) (hkl : k.length ≤ 16) (h1 : ∀ xs, Byt xs → f (key xs) = (E.lookup xs).map Fm.val) (h2 : ∀ kl, (f kl).isSome = true → ∃ xs, Byt xs ∧ kl = key xs)
    (hM : MapAt w' Try.prog 9 b (m + 1) (putF f (key k) (some v.val))) (hF : Fr (fun j => j = b) w w') (hv : v.In Y w') (hvn : v.n ≤ 16384) (hY : ∀ j, Y j → base ≤ j ∧ IsT 5 w' j) : TbIn (fun j => X j ∨ Y j) w' base g b (m + 1) (tput E k v) := by
  refine ⟨h.blk.fr hF h.gne, ⟨_, hM, fun xs hx => ?_, fun kl hs => ?_⟩, nd_put h.nd k v, fun e he => ?_, h.gb, h.lb, fun j hj => ?_⟩
  · rw [lookup_put]
    by_cases e : xs = k
    · rw [if_pos e, e, putF_same (kl := key k) trivial]
      rfl
    · rw [if_neg e, putF_other (fun hh => e (key_inj hx hk hh)), h1 xs hx]
  · by_cases e : kl = key k
    · exact ⟨k, hk, e⟩
    · rw [putF_other e] at hs
      exact h2 kl hs
  · rcases mem_put he with he | rfl
    · have := h.el e he
      exact ⟨this.1, this.2.1, ⟨(this.2.2.1.rd.fr hF (fun j hj hs => h.bX (hs ▸ hj))).imp fun _ => .inl, this.2.2.1.byt⟩, this.2.2.2⟩
    · exact ⟨hk, hkl, ⟨hv.rd.imp fun _ => .inr, hv.byt⟩, hvn⟩
  · rcases hj with hj | hj
    · exact ⟨(h.xs j hj).1, (h.xs j hj).2.fr hF (fun e => h.bX (e ▸ hj))⟩
    · exact hY j hj
end
theorem step_mdel {P : Program} {w : World} {ops : Array Oper} {o : Oper} {a : Act} {Q : Exit → Act → World → Prop} {b n : Nat} {f : Lit → Option Value} {k e t : TypeId} {K : Act → World → Prop} {F : Prop} (hM : MapAt w P k b n f) (KK : Keyed P k) (ht : P.underlying t = some (.map k e)) (hg : o.guard = none) (m x : Operand)
    (hop : o.op = Op.call { callee := Callee.builtin Builtin.delete, args := #[m, x], argTypes := #[t, k] })
    (hm : a.eval m = .map (some b)) (key : Value) (kl : Lit) (hx : a.eval x = key) (hkey : keyOf P k key = some kl)
    (hK : ∀ w', MapAt w' P k b n (putF f kl none) → Fr (fun j => j = b) w w' → K (a.put o.dst (.tuple #[])) w') :
    if Region.wanted o (yielded ops a.tmps) = true then Oper.wp P o a w K Q else F := by
  have hw : Region.wanted o (yielded ops a.tmps) = true := by simp [Region.wanted, hg]
  rw [if_pos hw]
  obtain ⟨w', hrun, r1, r2⟩ := hM.drop KK ht hkey o.type
  unfold Oper.wp
  simp [execOp, hop, resolve, invoke, builtin, hm, hx, hrun, Result.andThen]
  exact hK w' r1 r2
theorem own_isT {w : World} {base e s n k : Nat} {v : Value} {xs : List Value} (h : w.ownsRow base e s v n xs) (hk : v.ownBlock = some k) : IsT e w k := by
  rcases h.2 with ⟨rfl, _⟩ | ⟨g', cap, cur, rfl, _, hh, _⟩
  · simp [Value.ownBlock] at hk
  · have : g' = k := by simpa [Value.ownBlock] using hk
    subst this
    exact ⟨_, _, hh⟩
theorem apply_nil (A : Option Addr) (n c : Nat) (w : World) : Calls Try.prog 12 #[.pointer none, .slice A n c] w fun e w' => e = .returned (.iface 36 (.int .i64 11)) ∧ w = w' := by
  go_enter Try.func12, Try.ntmps12
  go_wp2_with fail
  go_ret
  exact ⟨rfl, rfl⟩
theorem apply_bad {P : Nat → Prop} (g : Nat) (A : Option Addr) (n c : Nat) (L : List Ch) (w : World) (h : Rd P w 3 A n (L.flatMap Ch.cells)) (hL : L.length = n) (hn : n ≤ 100000000) (hb : ∀ c ∈ L, c.k.n ≤ maxLen ∧ c.v.n ≤ maxLen) (hbad : chsOk L = false) :
    Calls Try.prog 12 #[.pointer (some ⟨g, 0, none⟩), .slice A n c] w fun e w' => e = .returned (.iface 36 (.int .i64 2)) ∧ New w w' := by
  have HC := Lib.hid (rights_any A n c L w h hL hn hb)
  rw [hbad] at HC
  clear h hL hn hb hbad
  go_enter Try.func12, Try.ntmps12
  go_wp2_with fail
  refine HC.out.mono ?_
  rintro e w1 ⟨rfl, hN1⟩
  have HN1 := Lib.hid hN1
  clear hN1 HC
  go_wp2_with fail
  go_ret
  exact ⟨rfl, HN1.out⟩
theorem keepg {w : World} {g b6 : Nat} {x : Value} {ka va : Value} (h : w.cell? ⟨g, 0, none⟩ = some x ∧ w.cell? ⟨b6, 0, none⟩ = some ka ∧ w.cell? ⟨b6, 1, none⟩ = some va) (w' : World) (hN : New w w') : w'.cell? ⟨g, 0, none⟩ = some x ∧ w'.cell? ⟨b6, 0, none⟩ = some ka ∧ w'.cell? ⟨b6, 1, none⟩ = some va :=
  ⟨hN.cell_ h.1, hN.cell_ h.2.1, hN.cell_ h.2.2⟩
set_option maxRecDepth 100000 in
set_option maxHeartbeats 8000000 in
theorem apply_any {X P : Nat → Prop} {w : World} {base g b m : Nat} {E : Tab} (h : TbIn X w base g b m E) (A : Option Addr) (n c : Nat) (L : List Ch) (hR : Rd P w 3 A n (L.flatMap Ch.cells)) (hL : L.length = n) (hin : ∀ c ∈ L, c.In P w) (hP : ∀ k, P k → k ≠ b) (hok : chsOk L = true) (hm : m ≤ 1000000) :
    Calls Try.prog 12 #[.pointer (some ⟨g, 0, none⟩), .slice A n c] w fun e w' => e = .returned .nilIface ∧ ∃ (X' : Nat → Prop) (E' : Tab), TbIn X' w' base g b (m + n) E' ∧ cont E' = doCs (cont E) L ∧ Fr (fun k => k = b) w w' ∧ ∀ k, X' k → X k ∨ w.heap.size ≤ k := by
  obtain ⟨hl1, hl2, hch⟩ := chsOk_spec hok
  have HC := Lib.hid (rights_any A n c L w hR hL (by omega) (fun c hc => by have := hch c hc; unfold maxLen; omega))
  rw [hok] at HC
  have H := Lib.hid h
  have HR := Lib.hid hR
  have HL := Lib.hid hL
  have HI := Lib.hid hin
  have HP := Lib.hid hP
  have HCH := Lib.hid hch
  have hn6 : n ≤ 600 := by omega
  clear h hR hL hin hP hok hl1 hl2 hch
  go_enter Try.func12, Try.ntmps12
  go_wp2_with fail
  refine HC.out.mono ?_
  rintro e w1 ⟨rfl, hN1⟩
  have HN1 := Lib.hid hN1
  have H1 := Lib.hid (H.out.new hN1)
  have HR1 := Lib.hid (hN1.rd HR.out)
  have HI1 : Hid (∀ c ∈ L, c.In P w1) := Lib.hid (fun c hc => (HI.out c hc).new HN1.out)
  clear hN1 HC
  go_wp2_with fail
  go_loopw [18] (fun ix wr => ∃ (j : Nat) (X' : Nat → Prop) (E' : Tab), j ≤ n ∧ ix = .int .i64 j ∧ Hid (TbIn X' wr base g b (m + j) E' ∧ cont E' = doCs (cont E) (L.take j) ∧ Fr (fun k => k = b) w1 wr ∧ ∀ k, X' k → X k ∨ w1.heap.size ≤ k)) (fun ix _ => n - (intOf ix).toNat)
  case atStart => exact ⟨0, X, E, Nat.zero_le _, rfl, Lib.hid ⟨H1.out, rfl, Fr.refl _ _, fun _ => .inl⟩⟩
  case round =>
    obtain ⟨j, X', E', hj, rfl, HS⟩ := hrel
    by_cases hlt : j < n
    · as_aux_lemma =>
      obtain ⟨ga, o, hl, rfl, -, -, hrg⟩ := rd_row (f := Ch.cells) (L := L) (fun _ => rfl) (by omega) (HR1.out.fr HS.out.2.2.1 (fun k hk hs => HP.out k hk hs)) hlt
      have c0 : wr.cell? ⟨ga, o + j * 3, none⟩ = some (.slice L[j].k.A L[j].k.n L[j].k.c) := hrg 0 _ rfl
      have c1 : wr.cell? ⟨ga, o + j * 3 + 1, none⟩ = some (.slice L[j].v.A L[j].v.n L[j].v.c) := hrg 1 _ rfl
      have c2 : wr.cell? ⟨ga, o + j * 3 + 2, none⟩ = some (.bool L[j].d) := hrg 2 _ rfl
      have hbd := HCH.out L[j] (List.getElem_mem _)
      have hcin := HI1.out L[j] (List.getElem_mem _)
      have hts : L.take (j + 1) = L.take j ++ [L[j]] := List.take_succ_eq_append_getElem hl
      generalize L[j] = x at c0 c1 c2 hbd hcin hts
      obtain ⟨⟨kA, kn, kc, ks⟩, ⟨vA, vn, vc, vs⟩, d⟩ := x
      dsimp only at c0 c1 c2 hbd
      have hj0 : (0 : Int) ≤ (j : Int) := by omega
      have hjn : (j : Int) < (n : Int) := by omega
      have hkr : Fm.In P wr ⟨kA, kn, kc, ks⟩ := hcin.k.fr HS.out.2.2.1 (fun k hk hs => HP.out k hk hs)
      have hvr : Fm.In P wr ⟨vA, vn, vc, vs⟩ := hcin.v.fr HS.out.2.2.1 (fun k hk hs => HP.out k hk hs)
      have HKR := Lib.hid hkr
      have HVR := Lib.hid hvr
      have HTS := Lib.hid hts
      have hkl : ks.length = kn := hkr.len
      have HBD := Lib.hid hbd
      have HKL := Lib.hid hkl
      clear hrg hl hbd hcin hts hkr hvr hkl
      go_upto_region 8 with fail
      obtain ⟨wa, hwa⟩ : ∃ wa : World, wa = wr.alloc (.cells #[.slice kA kn kc, .slice vA vn vc, .bool d] 41) := ⟨_, rfl⟩
      obtain ⟨b6, hb6⟩ : ∃ b6, b6 = wr.heap.size := ⟨_, rfl⟩
      have HNa : Hid (New wr wa) := Lib.hid (by rw [hwa]; exact New.al (New.refl _) _)
      have HB6 : Hid (Blk wa b6 41 #[.slice kA kn kc, .slice vA vn vc, .bool d]) := Lib.hid (by rw [hwa, hb6]; exact Blk.new _ _ _)
      rw [← hwa, ← hb6]
      clear hwa hb6 c0 c1 c2
      have HT := Lib.hid (HS.out.1.new HNa.out)
      have a0 : wa.cell? ⟨b6, 0, none⟩ = some (.slice kA kn kc) := HB6.out.cell 0
      have a1 : wa.cell? ⟨b6, 1, none⟩ = some (.slice vA vn vc) := HB6.out.cell 1
      have a2 : wa.cell? ⟨b6, 2, none⟩ = some (.bool d) := HB6.out.cell 2
      have g0 : wa.cell? ⟨g, 0, none⟩ = some (.map (some b)) := HT.out.blk.cell 0
      have hcv := run_conv (c := kc) (w := wa.drew) (show Rd P wa.drew 1 kA kn (u8s ks) from (New.dr HNa.out).rd HKR.out.rd)
      obtain ⟨f, hM, hf1, hf2⟩ := HT.out.map
      have hko := key_of (xs := ks) (by have := HBD.out.2.1; have := HKL.out; omega)
      obtain ⟨st, hst⟩ : ∃ st, st = strOfNums ks := ⟨_, rfl⟩
      rw [← hst] at hcv hko
      have HM : Hid (MapAt wa.drew Try.prog 9 b (m + j) f) := Lib.hid hM
      have HKO := Lib.hid hko
      have HF1 := Lib.hid hf1
      have HF2 := Lib.hid hf2
      have HSTE := Lib.hid hst
      clear hst hM hko hf1 hf2
      cases d
      · have hvl : vn ≤ 16384 := HBD.out.2.2.1
        go_wp2_with fail
        have hSN : ∀ w', New wa w' → (fun w' => w'.cell? ⟨g, 0, none⟩ = some (.map (some b)) ∧ w'.cell? ⟨b6, 0, none⟩ = some (.slice kA kn kc) ∧ w'.cell? ⟨b6, 1, none⟩ = some (.slice vA vn vc) ∧ Rd P w' 1 kA kn (u8s ks)) w' := fun w' hN => ⟨hN.cell_ g0, hN.cell_ a0, hN.cell_ a1, (HNa.out.tr hN).rd HKR.out.rd⟩
        clear hcv
        refine wp_region_T (fun w' => w'.cell? ⟨g, 0, none⟩ = some (.map (some b)) ∧ w'.cell? ⟨b6, 0, none⟩ = some (.slice kA kn kc) ∧ w'.cell? ⟨b6, 1, none⟩ = some (.slice vA vn vc) ∧ Rd P w' 1 kA kn (u8s ks)) 11 (by kernel_rfl) ?_
        refine wpAnyT_take (i := 0) (oi := ⟨_, _, _, _, _, _⟩) (v := .pointer (some ⟨g, 0, none⟩)) rfl (by kernel_rfl) (by kernel_rfl) (by kernel_rfl) (by kernel_rfl) (fun _ _ _ h => h) (Or.inl ⟨by rfl, fun w hSw => by obtain ⟨s1, s2, s3, s4⟩ := hSw; clear s4; go_simp⟩) (hSN _ (New.dr (New.refl _))) ?_
        try simp only [Act.put, List.setIfInBounds_toArray, List.set_cons_zero, List.set_cons_succ]
        refine wpAnyT_take (i := 1) (oi := ⟨_, _, _, _, _, _⟩) (v := .pointer (some ⟨g, 0, none⟩)) rfl (by kernel_rfl) (by kernel_rfl) (by kernel_rfl) (by kernel_rfl) (fun _ _ _ h => h) (Or.inl ⟨by rfl, fun w hSw => by obtain ⟨s1, s2, s3, s4⟩ := hSw; clear s4; go_simp⟩) (hSN _ (New.dr (New.refl _))) ?_
        try simp only [Act.put, List.setIfInBounds_toArray, List.set_cons_zero, List.set_cons_succ]
        refine wpAnyT_take (i := 2) (oi := ⟨_, _, _, _, _, _⟩) (v := .pointer (some ⟨g, 0, none⟩)) rfl (by kernel_rfl) (by kernel_rfl) (by kernel_rfl) (by kernel_rfl) (fun _ _ _ h => h) (Or.inl ⟨by rfl, fun w hSw => by obtain ⟨s1, s2, s3, s4⟩ := hSw; clear s4; go_simp⟩) (hSN _ (New.dr (New.refl _))) ?_
        try simp only [Act.put, List.setIfInBounds_toArray, List.set_cons_zero, List.set_cons_succ]
        refine wpAnyT_take (i := 3) (oi := ⟨_, _, _, _, _, _⟩) (v := .map (some b)) rfl (by kernel_rfl) (by kernel_rfl) (by kernel_rfl) (by kernel_rfl) (fun _ _ _ h => h) (Or.inl ⟨by rfl, fun w hSw => by obtain ⟨s1, s2, s3, s4⟩ := hSw; clear s4; go_simp⟩) (hSN _ (New.dr (New.refl _))) ?_
        try simp only [Act.put, List.setIfInBounds_toArray, List.set_cons_zero, List.set_cons_succ]
        refine wpAnyT_take (i := 4) (oi := ⟨_, _, _, _, _, _⟩) (v := .pointer (some ⟨b6, 0, none⟩)) rfl (by kernel_rfl) (by kernel_rfl) (by kernel_rfl) (by kernel_rfl) (fun _ _ _ h => h) (Or.inl ⟨by rfl, fun w hSw => by obtain ⟨s1, s2, s3, s4⟩ := hSw; clear s4; go_simp⟩) (hSN _ (New.dr (New.refl _))) ?_
        try simp only [Act.put, List.setIfInBounds_toArray, List.set_cons_zero, List.set_cons_succ]
        refine wpAnyT_take (i := 5) (oi := ⟨_, _, _, _, _, _⟩) (v := .slice kA kn kc) rfl (by kernel_rfl) (by kernel_rfl) (by kernel_rfl) (by kernel_rfl) (fun _ _ _ h => h) (Or.inl ⟨by rfl, fun w hSw => by obtain ⟨s1, s2, s3, s4⟩ := hSw; clear s4; go_simp⟩) (hSN _ (New.dr (New.refl _))) ?_
        try simp only [Act.put, List.setIfInBounds_toArray, List.set_cons_zero, List.set_cons_succ]
        refine wpAnyT_take (i := 6) (oi := ⟨_, _, _, _, _, _⟩) (v := .string st) rfl (by kernel_rfl) (by kernel_rfl) (by kernel_rfl) (by kernel_rfl) (fun _ _ _ h => h) (Or.inl ⟨by rfl, fun w hSw => by have s4 := run_conv (c := kc) hSw.2.2.2; rw [← HSTE.out] at s4; go_simp⟩) (hSN _ (New.dr (New.refl _))) ?_
        try simp only [Act.put, List.setIfInBounds_toArray, List.set_cons_zero, List.set_cons_succ]
        refine wpAnyT_take (i := 8) (oi := ⟨_, _, _, _, _, _⟩) (v := .pointer (some ⟨b6, 1, none⟩)) rfl (by kernel_rfl) (by kernel_rfl) (by kernel_rfl) (by kernel_rfl) (fun _ _ _ h => h) (Or.inl ⟨by rfl, fun w hSw => by obtain ⟨s1, s2, s3, s4⟩ := hSw; clear s4; go_simp⟩) (hSN _ (New.dr (New.refl _))) ?_
        try simp only [Act.put, List.setIfInBounds_toArray, List.set_cons_zero, List.set_cons_succ]
        refine wpAnyT_take (i := 9) (oi := ⟨_, _, _, _, _, _⟩) (v := .slice vA vn vc) rfl (by kernel_rfl) (by kernel_rfl) (by kernel_rfl) (by kernel_rfl) (fun _ _ _ h => h) (Or.inl ⟨by rfl, fun w hSw => by obtain ⟨s1, s2, s3, s4⟩ := hSw; clear s4; go_simp⟩) (hSN _ (New.dr (New.refl _))) ?_
        try simp only [Act.put, List.setIfInBounds_toArray, List.set_cons_zero, List.set_cons_succ]
        refine wpAnyT_ready (rs := [7]) (by kernel_rfl) (by simp) (AllT.cons (i := 7) (o := ⟨_, _, _, _, _, _⟩) rfl (fun K hK => ?_) AllT.nil)
        go_simp
        try simp only [Act.put, List.setIfInBounds_toArray, List.set_cons_zero, List.set_cons_succ]
        refine hK.out _ _ (fun _ => hSN _ (by repeat (first | exact New.refl _ | refine New.dr ?_ | refine New.al ?_ _))) ?_
        refine wpAnyT_ready (rs := [10]) (by kernel_rfl) (by simp) (AllT.cons (i := 10) (o := ⟨_, _, _, _, _, _⟩) rfl (fun K hK => ?_) AllT.nil)
        refine step_app elB _ (by rfl) (.tmp 38) (.tmp 40) (by rfl) wa.heap.size (.slice (some ⟨wa.heap.size, 0, none⟩) 0 0) 0 [] (by rfl) (own_lit (Blk.new wa.drew 5 #[]) (Nat.le_refl _)) vA vn vc (u8s vs) (by rfl) ((New.al (New.dr HNa.out) _).rd HVR.out.rd) (u8s_one vs) (by unfold maxLen; omega) (by omega) (by simp) ?_
        intro A5 d5 w5 hO5 hF5 hA5
        have hN5 : New wa w5 := (New.al (New.dr (New.refl wa)) _).fr hF5 (by intro k hk; simp [Value.ownBlock] at hk; omega)
        rw [Nat.zero_add, List.nil_append] at hO5
        rw [Nat.zero_add]
        have HN5 := Lib.hid hN5
        have HO5 := Lib.hid hO5
        clear hN5 hO5 hF5 hA5
        try simp only [Act.put, List.setIfInBounds_toArray, List.set_cons_zero, List.set_cons_succ]
        refine hK.out _ _ (fun _ => hSN _ (New.tr (New.refl _) HN5.out)) ?_
        refine wpAnyT_ready (rs := [11]) (by kernel_rfl) (by simp) (AllT.cons (i := 11) (o := ⟨_, _, _, _, _, _⟩) rfl (fun K hK => ?_) AllT.nil)
        obtain ⟨w6, hrun, hM6, hF6⟩ := MapAt.store (t := 67) ((show MapAt w5 Try.prog 9 b (m + j) f from MapAt.fr (w := wa) HM.out (HN5.out.toFr NoB) (fun x => x))) keyS Try.underlying67 (by unfold maxLen; omega) HKO.out (.slice A5 vn d5)
        have HM6 := Lib.hid hM6
        have HF6 := Lib.hid hF6
        clear hM6 hF6
        go_simp
        try simp only [Act.put, List.setIfInBounds_toArray, List.set_cons_zero, List.set_cons_succ]
        refine hK.out _ _ (fun h => absurd rfl h) ?_
        refine wpAnyT_done (by kernel_rfl) ?_ _
        go_wp2_with fail
        go_roundw
        case rel =>
          have hT5 := HT.out.new HN5.out
          have hle : ∀ k, (Value.slice A5 vn d5).ownBlock = some k → wa.heap.size ≤ k ∧ k < w5.heap.size := fun k hk => own_lt HO5.out k hk
          have hbk : ∀ k, (Value.slice A5 vn d5).ownBlock = some k → k ≠ b := fun k hk => by
            have h1 := (hle k hk).1
            have h2 := HT.out.blt
            omega
          have hv : Fm.In (fun k => (Value.slice A5 vn d5).ownBlock = some k) w6 ⟨A5, vn, d5, vs⟩ := ⟨(Rd.own HO5.out rfl).fr HF6.out (fun k hk e => hbk k hk e), HVR.out.byt⟩
          have hbase : base ≤ wa.heap.size := Nat.le_trans HT.out.lb (Nat.le_of_lt HT.out.blt)
          have ht := hT5.put HKR.out.byt (by show ks.length ≤ 16; have h16 : kn ≤ 16 := HBD.out.2.1; have := HKL.out; omega) HF1.out HF2.out HM6.out HF6.out hv (by exact hvl) (fun k hk => ⟨Nat.le_trans hbase (hle k hk).1, (own_isT HO5.out hk).fr HF6.out (fun e => hbk k hk e)⟩)
          refine ⟨j + 1, _, tput E' ks ⟨A5, vn, d5, vs⟩, by omega, by go_num, Lib.hid ⟨ht, ?_, HS.out.2.2.1.trans ((HNa.out.toFr _).trans ((HN5.out.toFr _).trans HF6.out)), ?_⟩⟩
          · rw [cont_put, HS.out.2.1, HTS.out, do_snoc]
            rfl
          · rintro k (hk | hk)
            · exact HS.out.2.2.2 k hk
            · have h1 := (hle k hk).1
              have h2 := HNa.out.size
              have h3 := HS.out.2.2.1.size
              exact .inr (by omega)
        case measure => simp [intOf]; omega
      · go_wp2_with fail
        go_region_law (refine step_mdel HM.out keyS Try.underlying67 rfl (.tmp 27) (.tmp 30) rfl (by simp [Act.eval, Act.put]) (.string st) (key ks) (by simp [Act.eval, Act.put]) HKO.out ?_; intro w3 hM3 hF3)
        all_goals
          have HM3 := Lib.hid hM3
          have HF3 : Hid (Fr (fun k => k = b) wa w3) := Lib.hid (Fr.ofDrew hF3)
          clear hM3 hF3
          go_wp2_with fail
          go_roundw
          case rel =>
            refine ⟨j + 1, X', tdel E' ks, by omega, by go_num, Lib.hid ⟨?_, ?_, HS.out.2.2.1.trans ((HNa.out.toFr _).trans HF3.out), HS.out.2.2.2⟩⟩
            · have ht := HT.out.del HKR.out.byt HF1.out HF2.out HM3.out HF3.out
              obtain ⟨f', hm', r'⟩ := ht.map
              exact ⟨ht.blk, ⟨f', hm'.mono (by omega), r'⟩, ht.nd, ht.el, ht.gb, ht.lb, ht.xs⟩
            · rw [cont_del, HS.out.2.1, HTS.out, do_snoc]
              rfl
          case measure => simp [intOf]; omega
    · as_aux_lemma =>
      obtain rfl : j = n := by omega
      go_wp2_with fail
      go_ret
      obtain ⟨h1, h2, h3, h4⟩ := HS.out
      rw [List.take_of_length_le (by rw [HL.out]; exact Nat.le_refl _)] at h2
      exact ⟨rfl, X', E', h1, h2, (HN1.out.toFr _).trans h3, fun k hk => (h4 k hk).imp id (fun e => Nat.le_trans HN1.out.size e)⟩
end Go.Proofs.Ytfhinmjpokollaa
