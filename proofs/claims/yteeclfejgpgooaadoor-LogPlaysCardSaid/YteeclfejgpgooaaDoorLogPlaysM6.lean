/- Texts of one proof, one behind the other: Typ, Bs, OcW, ShE. No condition but each one's own. -/
import Derived.Test.YteeclfejgpgooaaDoorLogPlaysM5
import Derived.Test.YteeclfejgpgooaaDoorLogPlaysM1
import Derived.Great.BuildSlice
import Derived.Test.YteeclfejgpgooaaDoorLogPlaysM2
import Derived.Test.YteeclfejgpgooaaDoorLogPlaysM3
import Derived.IntWalk
import Derived.Test.YteeclfejgpgooaaDoorLogPlaysM4
/- Slices that lie in blocks of one type. No condition. -/
namespace Go.Proofs.YteeclfejgpgooaaDoor
set_option linter.unusedVariables false
set_option linter.unusedSimpArgs false
set_option linter.constructorNameAsVariable false
open Go.RowKit Go.Maps

/-- Block b has cells of type t. -/
def IsT (t : TypeId) (w : World) (b : Nat) : Prop := ∃ (cs : Array Value) (fz : Nat × Nat), w.heap[b]? = some (.cells cs t fz)
theorem IsT.fr {t : TypeId} {w w' : World} {S : Nat → Prop} {b : Nat} (h : IsT t w b) (hf : Fr S w w') (hs : ¬ S b) : IsT t w' b := by
  obtain ⟨cs, fz, hb⟩ := h
  exact ⟨cs, fz, (hf.block b (Array.getElem?_eq_some_iff.1 hb).1 hs).trans hb⟩
theorem IsT.not_blk {t t' : TypeId} {w : World} {cs : Array Value} {k : Nat} (h : Blk w k t' cs) (ht : t' ≠ t) : ¬ IsT t w k := by
  rintro ⟨cs', fz, hb⟩
  unfold Blk at h
  rw [h] at hb
  injection hb with hb
  injection hb with _ hb
  exact ht hb
theorem IsT.not_own {t : TypeId} {w : World} {base e s n k : Nat} {v : Value} {xs : List Value} (h : w.ownsRow base e s v n xs) (he : e ≠ t) (hk : v.ownBlock = some k) : ¬ IsT t w k := by
  rcases h.2 with ⟨rfl, _⟩ | ⟨g', cap, cur, rfl, _, hh, _⟩
  · cases hk
  · have : g' = k := by simpa [Value.ownBlock] using hk
    subst this
    exact IsT.not_blk hh he
theorem IsT.not_map {t : TypeId} {w : World} {P : Program} {kt : TypeId} {b n : Nat} {f : Lit → Option Value} (h : MapAt w P kt b n f) : ¬ IsT t w b := by
  rintro ⟨cs, fz, hb⟩
  obtain ⟨D, ⟨es, clock, hx, _⟩, _⟩ := h
  rw [hx] at hb
  cases hb
/-- A slice that lies in blocks of type t. -/
def RdT (t : TypeId) (w : World) (size : Nat) (A : Option Addr) (n : Nat) (xs : List Value) : Prop := Rd (IsT t w) w size A n xs
section
variable {t : TypeId} {w w' : World} {S : Nat → Prop} {size n : Nat} {A : Option Addr} {xs : List Value}
theorem RdT.fr (h : RdT t w size A n xs) (hf : Fr S w w') (hs : ∀ k, S k → ¬ IsT t w k) : RdT t w' size A n xs := by
  refine ⟨h.1, fun hn => ?_⟩
  obtain ⟨ad, e, hb, hlt, hc⟩ := h.2 hn
  have hns : ¬ S ad.block := fun hk => hs _ hk hb
  exact ⟨ad, e, hb.fr hf hns, Nat.lt_of_lt_of_le hlt hf.size, fun j u hu => by
    have := hc j u hu
    rwa [← hf.cell (p := ad.add j) (by rw [add_block]; exact hlt) (by rw [add_block]; exact hns)] at this⟩
theorem RdT.new (h : RdT t w size A n xs) (hN : New w w') : RdT t w' size A n xs := h.fr (hN.toFr NoB) (fun _ x => x.elim)
theorem RdT.own {base : Nat} {v : Value} {c : Nat} (h : w.ownsRow base t size v n xs) (hv : v = .slice A n c) : RdT t w size A n xs := by
  refine ⟨h.1, fun hn => ?_⟩
  obtain ⟨ad, e, hp, hlt, hc⟩ := (Rd.own h hv).2 hn
  refine ⟨ad, e, ?_, hlt, hc⟩
  subst hv
  rcases h.2 with ⟨h', _⟩ | ⟨g', cap', cur, h', _, hh, _⟩
  · injection h' with h'; rw [h'] at e; cases e
  · injection h' with h'
    rw [h'] at e
    injection e with e
    subst e
    exact ⟨_, _, hh⟩
theorem RdT.nil : RdT t w size A 0 [] := Rd.nil
end
end Go.Proofs.YteeclfejgpgooaaDoor
/- A slice of one element, made for an append: one law, so that nothing of it is reckoned by the kernel. No condition. -/
namespace Go.Proofs.YteeclfejgpgooaaDoor
set_option linter.unusedVariables false
set_option linter.unusedSimpArgs false
set_option linter.constructorNameAsVariable false
open Go.RowKit

theorem run_bs1 {P : Program} {t e : TypeId} {size bytes : Nat} (E : ElemOf P t e size bytes) (hs : size ≤ 16777216) (v : Value) (hv : v.cells.size = size) (w : World) :
    (Instr.buildSlice t 1 #[(0, v)]).run P w = .ok (.slice (some ⟨w.heap.size, 0, none⟩) 1 1) (w.alloc (.cells v.cells e)) := by
  obtain ⟨i, z, hi, hz, hsize, -, hzs⟩ := E.info
  have hp := E.pos
  refine run_buildSlice w t e 1 #[(0, v)] v.cells i z E.ht hi hz (by rw [hsize]; omega) (by rw [hsize]; omega) ?_
  have h := Great.fill_whole (s := i.size) (by omega) [v] ((Array.range (1 * i.size)).map (z.cells[· % z.cells.size]!)) (by intro u hu; obtain rfl := List.mem_singleton.1 hu; omega) (by simp)
  simpa using h

theorem wpList_bs1 {P : Program} {t e : TypeId} {size bytes : Nat} (E : ElemOf P t e size bytes) (hs : size ≤ 16777216) {ops : Array Oper} {rest : List Oper} {o : Oper} {a : Act} {w : World} {Q : Exit → Act → World → Prop} (hg : o.guard = none) (x : Operand)
    (ho : o.op = .buildSlice t 1 #[(0, x)]) (cs : Array Value) (hx : a.eval x = .agg cs) (hc : cs.size = size)
    (h : wpList P ops Q rest (a.put o.dst (.slice (some ⟨w.heap.size, 0, none⟩) 1 1)) (w.alloc (.cells cs e))) : wpList P ops Q (o :: rest) a w :=
  wpList_plain hg fun _ hK => by
    unfold Oper.wp execOp
    simp only [ho, Sem.run_bind, List.map_toArray, List.map_cons, List.map_nil, hx, run_bs1 E hs (.agg cs) hc w, Result.andThen_ok]
    exact hK _ _ h

theorem atOpS {P : Program} {ops : Array Oper} {Q : Exit → Act → World → Prop} {rest : List Oper} {a : Act} {w : World} (o : Oper) (h : wpList P ops Q (o :: rest) a w) : wpList P ops Q (o :: rest) a w := h
end Go.Proofs.YteeclfejgpgooaaDoor
/- The program's writer of octets, as long as nothing is refused: what it has written. No condition but that what is written can be read. -/
namespace Go.Proofs.YteeclfejgpgooaaDoor
set_option linter.unusedVariables false
set_option linter.unusedSimpArgs false
set_option linter.constructorNameAsVariable false
open Go.RowKit Go.Maps

theorem rd_szs' {p : Nat → Prop} {w : World} {s n : Nat} {A : Option Addr} {xs : List Value} (h : Rd p w s A n xs) : Rd (fun b => b < w.heap.size) w s A n xs :=
  ⟨h.1, fun hn => by obtain ⟨ad, e, _, hb, hc⟩ := h.2 hn; exact ⟨ad, e, hb, hb, hc⟩⟩
/-- slices.Clone of bytes. -/
theorem sclone_any {p : Nat → Prop} (A : Option Addr) (n c : Nat) (xs : List Int) (w : World) (hO : Rd p w 1 A n (u8s xs)) (hn : n ≤ 140737488355328) :
    Calls Tryd.prog 65 #[.slice A n c] w fun e w' => (∃ A' c', e = .returned (.slice A' n c') ∧ w'.ownsRow w.heap.size 5 1 (.slice A' n c') n (u8s xs)) ∧ New w w' := by
  have HR := Lib.hid hO
  rcases A with _ | ad
  · have h0 : n = 0 := by
      rcases Nat.eq_zero_or_pos n with h | h
      · exact h
      · obtain ⟨ad, h', _⟩ := hO.2 h
        cases h'
    subst h0
    have hz : xs = [] := List.eq_nil_of_length_eq_zero (by have := hO.1; rw [u8s_len] at this; omega)
    subst hz
    clear hO
    have hen := fun w => Lib.run_eql_slice_nil (P := Tryd.prog) w 43 5 none 0 c 0 0 Tryd.underlying43
    go_enter Tryd.func65, Tryd.ntmps65
    go_wp2_with fail
    go_ret
    exact ⟨⟨none, 0, rfl, World.ownsRow_nil _ _ _ _⟩, New.refl w⟩
  · clear hO
    have hen := fun w => Lib.run_eql_slice_nil (P := Tryd.prog) w 43 5 (some ad) n c 0 0 Tryd.underlying43
    go_enter Tryd.func65, Tryd.ntmps65
    go_wp2_with (at_builtin; refine wpList_app elB _ rfl (.tmp 5) (.tmp 6) rfl w.heap.size (.slice (some ⟨w.heap.size, 0, none⟩) 0 0) 0 [] rfl (own_lit (Blk.new w 5 #[]) (Nat.le_refl _)) (some ad) n c (u8s xs) rfl (New.rd (New.al (New.refl w) _) HR.out) (u8s_one xs) (by unfold maxLen; omega) (by omega) (by simp) ?_; intro A1 d1 w3 hO3 hF3 hA3; rw [Nat.zero_add]; rw [Nat.zero_add, List.nil_append] at hO3; have HO3 := Lib.hid hO3; have HN3 : Hid (New w w3) := Lib.hid ((New.al (New.refl w) _).fr hF3 (by intro k hk; simp [Value.ownBlock] at hk; omega)); clear hO3 hF3 hA3)
    go_ret
    exact ⟨⟨A1, d1, rfl, HO3.out⟩, HN3.out⟩

/-- A writer's own blocks: itself, and rows of bytes that came behind it. -/
def WS (base g : Nat) (w : World) (k : Nat) : Prop := k = g ∨ (base ≤ k ∧ IsT 5 w k)
/-- A writer that has refused nothing. -/
structure WrIn (w : World) (base g : Nat) (xs : List Int) : Prop where
  st : ∃ A c, Blk w g 107 #[.nilIface, .slice A xs.length c] ∧ w.ownsRow base 5 1 (.slice A xs.length c) xs.length (u8s xs)
  gb : base ≤ g
  byt : Byt xs
def FW (base g : Nat) (w w' : World) : Prop := Fr (WS base g w) w w'
section
variable {base g : Nat} {w w' w'' : World} {xs : List Int}
theorem FW.refl : FW base g w w := Fr.refl _ _
theorem FW.tr (h : FW base g w w') (k : FW base g w' w'') : FW base g w w'' := by
  refine ⟨k.os.trans h.os, k.tape.trans h.tape, k.output.trans h.output, Nat.le_trans h.size k.size, fun j hj hn => ?_⟩
  have e := h.block j hj hn
  refine (k.block j (Nat.lt_of_lt_of_le hj h.size) (fun hs => hn ?_)).trans e
  rcases hs with hs | ⟨hs, cs, fz, hx⟩
  · exact .inl hs
  · exact .inr ⟨hs, cs, fz, e.symm.trans hx⟩
theorem FW.new (h : New w w') : FW base g w w' := h.toFr _
theorem WrIn.lt (h : WrIn w base g xs) : g < w.heap.size := by obtain ⟨A, c, hb, _⟩ := h.st; exact hb.lt
theorem WrIn.base_le (h : WrIn w base g xs) : base ≤ w.heap.size := by have := h.lt; have := h.gb; omega
theorem WrIn.new (h : WrIn w base g xs) (hN : New w w') : WrIn w' base g xs := by
  obtain ⟨A, c, hb, ho⟩ := h.st
  exact ⟨⟨A, c, hN.blk hb, hN.own ho⟩, h.gb, h.byt⟩
/-- What a writer's step leaves of other blocks. -/
theorem FW.blk (h : FW base g w w') {k t : Nat} {cs : Array Value} (hb : Blk w k t cs) (ht : t ≠ 5) (hk : k ≠ g) : Blk w' k t cs :=
  hb.fr h (fun hs => hs.elim hk (fun x => IsT.not_blk hb ht x.2))
theorem FW.toNew (h : FW base g w w') {w0 : World} (hN : New w0 w) (hb : w0.heap.size ≤ base) (hg : base ≤ g) : New w0 w' := hN.fr h (fun k hk => hk.elim (fun x => by omega) (fun x => by omega))
end
theorem sized_yes (n : Int) (h : n = 1 ∨ n = 2 ∨ n = 4 ∨ n = 8) (w : World) : Calls Tryd.prog 63 #[.int .i64 n] w fun e w' => e = .returned (.bool true) ∧ w = w' := by
  rcases h with rfl | rfl | rfl | rfl
  all_goals
    go_enter Tryd.func63, Tryd.ntmps63
    go_wp2_with fail
    go_ret
    exact ⟨rfl, rfl⟩
theorem own_isT' {w : World} {base e s n k : Nat} {v : Value} {xs : List Value} (h : w.ownsRow base e s v n xs) (hk : v.ownBlock = some k) : IsT e w k := by
  rcases h.2 with ⟨rfl, _⟩ | ⟨g', cap, cur, rfl, _, hh, _⟩
  · simp [Value.ownBlock] at hk
  · have : g' = k := by simpa [Value.ownBlock] using hk
    subst this
    exact ⟨_, _, hh⟩
/-- An append to what was written, and its store. -/
theorem wr_step {base g : Nat} {w w3 w5 : World} {xs ys : List Int} {A A1 : Option Addr} {n m c d1 : Nat} (H : WrIn w base g xs) (hB : Blk w g 107 #[.nilIface, .slice A n c]) (hO : w.ownsRow base 5 1 (.slice A n c) n (u8s xs)) (hn : n = xs.length) (hN : New w w3)
    (hF5 : Fr (fun k => (Value.slice A n c).ownBlock = some k) w3 w5) (hO5 : w5.ownsRow base 5 1 (.slice A1 (n + m) d1) (n + m) (u8s xs ++ u8s ys)) (hm : ys.length = m) (hb : Byt ys) :
    WrIn (w5.setCell ⟨g, 1, none⟩ (.slice A1 (n + m) d1)) base g (xs ++ ys) ∧ FW base g w (w5.setCell ⟨g, 1, none⟩ (.slice A1 (n + m) d1)) := by
  have hne : (Value.slice A n c).ownBlock ≠ some g := own_ne hO hB (by decide)
  have hB5 : Blk w5 g 107 #[.nilIface, .slice A n c] := (hN.blk hB).fr hF5 (fun hk => hne hk)
  have hFs : Fr (fun k => k = g) w5 (w5.setCell ⟨g, 1, none⟩ (.slice A1 (n + m) d1)) := (Fr.refl (fun k => k = g) w5).setCell (p := ⟨g, 1, none⟩) (fun _ => rfl) _
  have hBs : Blk (w5.setCell ⟨g, 1, none⟩ (.slice A1 (n + m) d1)) g 107 #[.nilIface, .slice A1 (n + m) d1] := by
    have := hB5.set 1 (.slice A1 (n + m) d1)
    simpa using this
  have hne1 : ∀ k, (Value.slice A1 (n + m) d1).ownBlock = some k → ¬ k = g := fun k hk e => by
    subst e
    exact own_ne hO5 hB5 (by decide) hk
  refine ⟨⟨⟨A1, d1, ?_, ?_⟩, H.gb, fun x hx => ?_⟩, ?_⟩
  · rw [List.length_append, ← hn, hm]
    exact hBs
  · rw [List.length_append, ← hn, hm]
    have e : u8s (xs ++ ys) = u8s xs ++ u8s ys := by simp [u8s]
    rw [e]
    exact own_fr hO5 hFs (fun k hk => hne1 k hk)
  · rcases List.mem_append.1 hx with hx | hx
    · exact H.byt x hx
    · exact hb x hx
  · have hF : FW base g w w3 := FW.new hN
    have hF2 : FW base g w3 w5 := hF5.mono (fun k _ hk => .inr ⟨(own_lt hO k hk).1, own_isT' (hN.own hO) hk⟩)
    exact (hF.tr hF2).tr (hFs.mono (fun k _ hk => .inl hk))
theorem wraw_any {base g : Nat} {w : World} {xs : List Int} {p : Nat → Prop} (h : WrIn w base g xs) (B : Option Addr) (m d : Nat) (ys : List Int) (hR : Rd p w 1 B m (u8s ys)) (hb : Byt ys) (hl : xs.length + m ≤ 140737488355328) :
    Calls Tryd.prog 48 #[.pointer (some ⟨g, 0, none⟩), .slice B m d] w fun e w' => e = .returned (.pointer (some ⟨g, 0, none⟩)) ∧ WrIn w' base g (xs ++ ys) ∧ FW base g w w' := by
  obtain ⟨A, c, hB, hO⟩ := h.st
  have hm : ys.length = m := by have := hR.1; rw [u8s_len] at this; omega
  have H := Lib.hid h
  have HB := Lib.hid hB
  have HO := Lib.hid hO
  have HR := Lib.hid hR
  have HY := Lib.hid hb
  have HM := Lib.hid hm
  have hne : (Value.slice A xs.length c).ownBlock ≠ some g := own_ne hO hB (by decide)
  have HNE := Lib.hid hne
  obtain ⟨n, hn⟩ : ∃ n, n = xs.length := ⟨_, rfl⟩
  rw [← hn] at HB HO HNE hl
  have HNL := Lib.hid hn
  clear h hb hB hO hR hm hne hn
  have c1 : w.cell? ⟨g, 1, none⟩ = some (.slice A n c) := HB.out.cell 1
  go_enter Tryd.func48, Tryd.ntmps48
  go_wp2_with (at_builtin; refine wpList_app (o := ⟨some 13, _, _, _, _, _⟩) elB _ rfl (.tmp 11) (.tmp 12) rfl base (.slice A n c) n (u8s xs) rfl HO.out B m d (u8s ys) rfl HR.out (u8s_one ys) (by unfold maxLen; omega) (by omega) H.out.base_le ?_; intro A1 d1 w3 hO3 hF3 hA3; have HB3 : Hid (Blk w3 g 107 #[.nilIface, .slice A n c]) := Lib.hid (HB.out.fr hF3 (fun hk => HNE.out hk)); have f3 := HB3.out.frozen 1; have c3 : w3.cell? ⟨g, 1, none⟩ = some (.slice A n c) := HB3.out.cell 1; have HO3 := Lib.hid hO3; have HF3 := Lib.hid hF3; have HA3 := Lib.hid hA3; clear hO3 hF3 hA3)
  go_ret
  have hst := wr_step (ys := ys) H.out HB.out HO.out HNL.out (New.refl w) HF3.out HO3.out HM.out HY.out
  exact ⟨rfl, hst.1, hst.2⟩
theorem step_bs1v {P : Program} {ops : Array Oper} {o : Oper} {a : Act} {K : Act → World → Prop} {Q : Exit → Act → World → Prop} {w : World} {F : Prop} {t e : TypeId} {bytes : Nat} (E : ElemOf P t e 1 bytes) (hw : Region.wanted o (yielded ops a.tmps) = true) (x : Operand)
    (ho : o.op = .buildSlice t 1 #[(0, x)]) (v : Value) (hx : a.eval x = v) (hv : v.cells.size = 1)
    (h : ∀ g w', Blk w' g e v.cells → New w w' → w.heap.size ≤ g → K (a.put o.dst (.slice (some ⟨g, 0, none⟩) 1 1)) w') : if Region.wanted o (yielded ops a.tmps) = true then Oper.wp P o a w K Q else F := by
  rw [if_pos hw]
  unfold Oper.wp execOp
  simp only [ho, Sem.run_bind, List.map_toArray, List.map_cons, List.map_nil, hx, run_bs1 E (by decide) v hv w, Result.andThen_ok]
  exact h _ _ (Blk.new _ _ _) (New.al (New.refl _) _) (Nat.le_refl _)
theorem shr_int (n k : Nat) : (n : Int) / 2 ^ (8 * (k : Int)).toNat = ((n / 256 ^ k : Nat) : Int) := by
  have e1 : (8 * (k : Int)).toNat = 8 * k := by omega
  have e2 : (2 : Nat) ^ (8 * k) = 256 ^ k := by rw [Nat.pow_mul]
  rw [e1, Int.natCast_ediv, ← e2, Int.natCast_pow]
  rfl
theorem u8_wrap (m : Nat) : IntKind.u8.wrap (m : Int) = ((m % 256 : Nat) : Int) := by
  simp [IntKind.wrap, IntKind.signed, IntKind.bits]
set_option maxRecDepth 100000 in
set_option maxHeartbeats 4000000 in
theorem wnum_any {base g : Nat} {w : World} {xs : List Int} (h : WrIn w base g xs) (n size : Nat) (hs : size = 1 ∨ size = 2 ∨ size = 4 ∨ size = 8) (hn : n < 256 ^ size) (hl : xs.length + 8 ≤ 140737488355328) :
    Calls Tryd.prog 47 #[.pointer (some ⟨g, 0, none⟩), .int .u64 n, .int .i64 size] w fun e w' => e = .returned (.pointer (some ⟨g, 0, none⟩)) ∧ WrIn w' base g (xs ++ beL size n) ∧ FW base g w w' := by
  have H := Lib.hid h
  have hsz := fun w => sized_yes size (by omega) w
  have hs8 : size ≤ 8 := by omega
  have hs1 : 1 ≤ size := by omega
  clear h
  go_enter Tryd.func47, Tryd.ntmps47
  go_wp2_with fail
  refine (hsz w).mono ?_
  rintro e w0 ⟨rfl, rfl⟩
  have hsh := shr_int n size
  rw [Nat.div_eq_of_lt hn] at hsh
  clear hsz
  by_cases h8 : size < 8
  all_goals
    have hd8 : decide ((size : Int) < 8) = decide (size < 8) := decide_eq_decide.2 (by omega)
    go_wp2_with fail
    clear hsh hd8
    go_loopw [7] (fun i wr => ∃ j : Nat, j ≤ size ∧ i = .int .i64 ((j : Int) - 1) ∧ Hid (WrIn wr base g (xs ++ (beL size n).take (size - j))) ∧ Hid (FW base g w wr)) (fun i _ => (intOf i + 1).toNat)
    case atStart => exact ⟨size, Nat.le_refl _, rfl, Lib.hid (by simpa using H.out), Lib.hid FW.refl⟩
    case round =>
      obtain ⟨j, hj, rfl, HR, HF⟩ := hrel
      rcases Nat.eq_zero_or_pos j with h0 | h0
      · subst h0
        go_wp2_with fail
        go_ret
        have hR := HR.out
        rw [Nat.sub_zero, List.take_of_length_le (by rw [beL_len]; exact Nat.le_refl _)] at hR
        exact ⟨rfl, hR, HF.out⟩
      · obtain ⟨k, rfl⟩ : ∃ k, j = k + 1 := ⟨j - 1, by omega⟩
        have hk : (((k + 1 : Nat) : Int) - 1) = (k : Int) := by omega
        rw [hk]
        obtain ⟨A, c, hB, hO⟩ := HR.out.st
        have hlen : (xs ++ (beL size n).take (size - (k + 1))).length = xs.length + (size - (k + 1)) := by
          rw [List.length_append, List.length_take, beL_len]
          omega
        rw [hlen] at hB hO
        have HB := Lib.hid hB
        have HO := Lib.hid hO
        clear hB hO hlen hk
        go_wp2_with fail
        have c1 : wr.cell? ⟨g, 1, none⟩ = some (.slice A (xs.length + (size - (k + 1))) c) := HB.out.cell 1
        refine wp_region_mix (CellIs ⟨g, 1, none⟩ (.slice A (xs.length + (size - (k + 1))) c)) 14 [(true, 0), (true, 1), (true, 2), (true, 3), (true, 4), (true, 5), (true, 6), (true, 7), (true, 8), (true, 9), (false, 10), (false, 11), (true, 12), (true, 13), (false, 14)] (by kernel_rfl) (by kernel_rfl) c1 (fun hne => ?_)
        have cp := CellIs.all ⟨g, 1, none⟩ (.slice A (xs.length + (size - (k + 1))) c)
        have hsh := shr_int n k
        have hbw : IntKind.u8.wrap ((n : Int) / 256 ^ k) = ((byteAt n k : Nat) : Int) := by
          rw [show (n : Int) / 256 ^ k = ((n / 256 ^ k : Nat) : Int) from by simp, u8_wrap]
          rfl
        have hwr : IntKind.i64.wrap (8 * (k : Int)) = 8 * k := IntWalk.i64_in _ (by omega)
        have hk0 : (0 : Int) ≤ 8 * (k : Int) := by omega
        have hk64 : 8 * (k : Int) ≤ 64 := by omega
        iterate 10 (refine mix_take (o := ⟨_, _, _, _, _, _⟩) rfl (fun K hK => ?_); go_simp; refine hK _ ?_; clear hK K)
        refine mix_act (o := ⟨_, _, _, _, _, _⟩) rfl (fun K hK => ?_) (.inl rfl)
        refine step_bs1v elB rfl (.tmp 45) rfl (.int .u8 (byteAt n k : Nat)) (by rfl) rfl ?_
        intro gb w3 hB3 hN3 hl3
        simp only [Act.put, List.setIfInBounds_toArray, List.set_cons_zero, List.set_cons_succ]
        have hN3 : New wr w3 := New.tr (New.dr (New.refl _)) hN3
        have c3 : w3.cell? ⟨g, 1, none⟩ = some (.slice A (xs.length + (size - (k + 1))) c) := hN3.cell_ c1
        refine hK.out _ _ (fun _ => c3) ?_
        clear hK K
        clear hbw hsh hwr
        have HN3 : Hid (New wr w3) := Lib.hid hN3
        have HB3 : Hid (Blk w3 gb 5 #[.int .u8 (byteAt n k : Nat)]) := Lib.hid hB3
        clear hN3 hB3
        refine mix_act (o := ⟨_, _, _, _, _, _⟩) rfl (fun K hK => ?_) (.inl rfl)
        refine step_app elB _ (by rfl) (.tmp 40) (.tmp 46) (by rfl) base (.slice A (xs.length + (size - (k + 1))) c) (xs.length + (size - (k + 1))) _ (by rfl) (HN3.out.own HO.out) (some ⟨gb, 0, none⟩) 1 1 [.int .u8 (byteAt n k : Nat)] (by rfl) (Rd.ofBlk (p := fun _ => True) HB3.out 1 1 rfl trivial) (by simp [Value.oneCell']) (by unfold maxLen; omega) (by omega) (Nat.le_trans HR.out.base_le HN3.out.size) ?_
        intro A4 d4 w5 hO5 hF5 hA5
        simp only [Act.put, List.setIfInBounds_toArray, List.set_cons_zero, List.set_cons_succ]
        have HNE : Hid ((Value.slice A (xs.length + (size - (k + 1))) c).ownBlock ≠ some g) := Lib.hid (own_ne HO.out HB.out (by decide))
        have c5 : w5.cell? ⟨g, 1, none⟩ = some (.slice A (xs.length + (size - (k + 1))) c) := hF5.cell_some c3 (fun hk => HNE.out hk)
        have HB5 : Hid (Blk w5 g 107 #[.nilIface, .slice A (xs.length + (size - (k + 1))) c]) := Lib.hid ((HN3.out.blk HB.out).fr hF5 (fun hk => HNE.out hk))
        have f5 := HB5.out.frozen 1
        have HF5 := Lib.hid hF5
        have HO5 := Lib.hid hO5
        have HA5 := Lib.hid hA5
        clear hF5 hO5 hA5
        refine hK.out _ _ (fun _ => c5) ?_
        clear hK K
        iterate 2 (refine mix_take (o := ⟨_, _, _, _, _, _⟩) rfl (fun K hK => ?_); go_simp; refine hK _ ?_; clear hK K)
        refine mix_act (o := ⟨_, _, _, _, _, _⟩) rfl (fun K hK => ?_) (.inl rfl)
        go_simp
        refine hK.out _ _ (fun h => absurd rfl h) ?_
        clear hK K
        refine mix_done ?_
        go_wp2_with fail
        go_roundw
        case rel =>
          have hst := wr_step (ys := [((byteAt n k : Nat) : Int)]) HR.out HB.out HO.out (by rw [List.length_append, List.length_take, beL_len]; omega) HN3.out HF5.out HO5.out rfl (fun x hx => by
            rw [List.mem_singleton] at hx
            subst hx
            have := byteAt_lt n k
            omega)
          rw [List.append_assoc, ← beL_take size n k (by omega)] at hst
          exact ⟨k, by omega, rfl, Lib.hid hst.1, Lib.hid (HF.out.tr hst.2)⟩
        case measure => simp [intOf]
theorem wdone_any {base g : Nat} {w : World} {xs : List Int} (h : WrIn w base g xs) (hl : xs.length ≤ 140737488355328) :
    Calls Tryd.prog 49 #[.pointer (some ⟨g, 0, none⟩)] w fun e w' => (∃ A c, e = .returned (.tuple #[.slice A xs.length c, .nilIface]) ∧ w'.ownsRow w.heap.size 5 1 (.slice A xs.length c) xs.length (u8s xs)) ∧ New w w' := by
  obtain ⟨A, c, hB, hO⟩ := h.st
  have HB := Lib.hid hB
  have HC := Lib.hid (sclone_any A xs.length c xs w (Rd.own hO rfl) hl)
  have c0 : w.cell? ⟨g, 0, none⟩ = some .nilIface := hB.cell 0
  have c1 : w.cell? ⟨g, 1, none⟩ = some (.slice A xs.length c) := hB.cell 1
  clear h hB hO
  go_enter Tryd.func49, Tryd.ntmps49
  go_wp2_with fail
  refine HC.out.mono ?_
  rintro e w1 ⟨⟨A1, d1, rfl, hO1⟩, hN1⟩
  have HO1 := Lib.hid hO1
  have HN1 := Lib.hid hN1
  clear hO1 hN1
  go_wp2_with fail
  go_ret2
  exact ⟨⟨A1, d1, rfl, HO1.out⟩, HN1.out⟩
end Go.Proofs.YteeclfejgpgooaaDoor
/- sha, both sides: a text padded. No condition but the text's length. -/
namespace Go.Proofs.YteeclfejgpgooaaDoor
set_option linter.unusedVariables false
set_option linter.unusedSimpArgs false
set_option linter.constructorNameAsVariable false
open Go.RowKit Go.Sort

/-- How many noughts. -/
def zN (n : Nat) : Nat := (119 - n % 64) % 64
theorem zN_mod (n : Nat) : (n + 1 + zN n) % 64 = 56 ∧ zN n < 64 := by unfold zN; omega
theorem zN_not {n k : Nat} (h : k < zN n) : (n + 1 + k) % 64 ≠ 56 := by unfold zN at h; omega
/-- A text with its first filling. -/
def padZ (xs : List Int) (k : Nat) : List Int := xs ++ [128] ++ List.replicate k 0
theorem padZ_len (xs : List Int) (k : Nat) : (padZ xs k).length = xs.length + 1 + k := by simp [padZ]; omega
theorem padZ_succ (xs : List Int) (k : Nat) : padZ xs (k + 1) = padZ xs k ++ [0] := by simp [padZ, List.replicate_succ']
theorem padL_eq (xs : List Int) : padL xs = padZ xs (zN xs.length) ++ beL 8 (8 * xs.length) := rfl
theorem u8s_app (a b : List Int) : u8s (a ++ b) = u8s a ++ u8s b := by simp [u8s]
/-- A row of bytes made since a world. -/
def Made (w wr : World) (v : Value) (L : List Int) : Prop := wr.ownsRow w.heap.size 5 1 v L.length (u8s L) ∧ New w wr
set_option maxHeartbeats 2000000 in
set_option maxRecDepth 100000 in
theorem pad_any {p : Nat → Prop} (A : Option Addr) (n c : Nat) (xs : List Int) (w : World) (hR : Rd p w 1 A n (u8s xs)) (hn : n ≤ 1000000000) :
    Calls Tryd.prog 77 #[.slice A n c] w fun e w' => (∃ A' c', e = .returned (.slice A' (padL xs).length c') ∧ w'.ownsRow w.heap.size 5 1 (.slice A' (padL xs).length c') (padL xs).length (u8s (padL xs))) ∧ New w w' := by
  have HXL : Hid (xs.length = n) := Lib.hid (by have := hR.1; rw [u8s_len] at this; omega)
  have HC := Lib.hid (sclone_any A n c xs w hR (by omega))
  have hzl := (zN_mod n).2
  have HZM := Lib.hid (zN_mod n).1
  obtain ⟨z, hz⟩ : ∃ z, z = zN n := ⟨_, rfl⟩
  rw [← hz] at hzl HZM
  have HZ := Lib.hid hz
  clear hR hz
  go_enter Tryd.func77, Tryd.ntmps77
  go_wp2_with fail
  refine HC.out.mono ?_
  rintro e w1 ⟨⟨A1, d1, rfl, hO1⟩, hN1⟩
  have HO1 := Lib.hid hO1
  have HN1 := Lib.hid hN1
  clear hO1 hN1 HC
  have HN2 : Hid (New w (w1.alloc (.cells #[.int .u8 128] 5))) := Lib.hid (New.al HN1.out _)
  go_wp2_with ((with_reducible refine atOp ⟨some 8, _, _, _, _, _⟩ ?_); refine wpList_app elB _ rfl (.tmp 6) (.tmp 7) rfl w.heap.size (.slice A1 n d1) n (u8s xs) rfl (New.own (New.al (New.refl w1) _) HO1.out) (some ⟨w1.heap.size, 0, none⟩) 1 1 [.int .u8 128] rfl (Rd.ofBlk (p := fun _ => True) (Blk.new w1 5 #[.int .u8 128]) 1 1 rfl trivial) (by simp [Value.oneCell']) (by unfold maxLen; omega) (by omega) HN2.out.size ?_; intro A2 d2 w3 hO3 hF3 hA3; have HF3 := Lib.hid hF3; have HO3 := Lib.hid hO3; clear hO3 hF3 hA3)
  have HN3 : Hid (New w w3) := Lib.hid (HN2.out.fr HF3.out (fun k hk => (own_lt HO1.out k hk).1))
  have HI0 : Hid (Made w w3 (.slice A2 (n + 1) d2) (padZ xs 0)) := Lib.hid ⟨by
    rw [padZ_len, HXL.out]
    have e : u8s (padZ xs 0) = u8s xs ++ [.int .u8 128] := by simp [padZ, u8s]
    rw [e]
    exact HO3.out, HN3.out⟩
  clear HO1 HN1 HN2 HO3 HF3 HN3
  go_loopg [3] z (fun g v wr => ∃ (k N : Nat) (A : Option Addr) (d : Nat), k ≤ z ∧ z - k ≤ g ∧ Hid (N = n + 1 + k) ∧ v = .slice A N d ∧ Hid (Made w wr (.slice A N d) (padZ xs k)))
  case atStart => exact ⟨0, n + 1, A2, d2, Nat.zero_le _, by omega, Lib.hid rfl, rfl, HI0⟩
  case round =>
    clear HI0
    obtain ⟨k, N, A3, d3, hk, hg, HN, rfl, HM⟩ := hrel
    have hNb : N ≤ 2000000000 := by have := HN.out; omega
    by_cases hlt : k < z
    · have hm : ((N : Int) % 64 == 56) = false := beq_eq_false_iff_ne.2 (by
        have h1 := HN.out
        have h2 := zN_not (n := n) (k := k) (by rw [← HZ.out]; exact hlt)
        omega)
      have hm2 : ((N : Int) % 64 != 56) = true := by simp [bne, hm]
      have hOk : wr.ownsRow w.heap.size 5 1 (.slice A3 N d3) N (u8s (padZ xs k)) := by
        have := HM.out.1
        rwa [padZ_len, HXL.out, ← HN.out] at this
      have HOk := Lib.hid hOk
      clear hOk
      go_wp2_with ((with_reducible refine atOp ⟨some 15, _, _, _, _, _⟩ ?_); refine wpList_app elB _ rfl (.tmp 13) (.tmp 14) rfl w.heap.size (.slice A3 N d3) N (u8s (padZ xs k)) rfl (New.own (New.al (New.refl wr) _) HOk.out) (some ⟨wr.heap.size, 0, none⟩) 1 1 [.int .u8 0] rfl (Rd.ofBlk (p := fun _ => True) (Blk.new wr 5 #[.int .u8 0]) 1 1 rfl trivial) (by simp [Value.oneCell']) (by unfold maxLen; omega) (by omega) (New.al HM.out.2 _).size ?_; intro A5 d5 w5 hO5 hF5 hA5; have HF5 := Lib.hid hF5; have HO5 := Lib.hid hO5; clear hO5 hF5 hA5)
      go_roundg (z - (k + 1))
      case measure => omega
      case rel =>
        refine ⟨k + 1, N + 1, A5, d5, by omega, by omega, Lib.hid (by have := HN.out; omega), rfl, Lib.hid ⟨?_, (New.al HM.out.2 _).fr HF5.out (fun j hj => (own_lt HOk.out j hj).1)⟩⟩
        rw [padZ_len, HXL.out, padZ_succ, u8s_app, show n + 1 + (k + 1) = N + 1 by have := HN.out; omega]
        exact HO5.out
    · obtain rfl : z = k := by omega
      have hm : ((N : Int) % 64 == 56) = true := beq_iff_eq.2 (by
        have h1 := HN.out
        have h2 := HZM.out
        omega)
      have hm2 : ((N : Int) % 64 != 56) = false := by simp [bne, hm]
      have HM8 : Hid (Made w wr (.slice A3 N d3) (padZ xs z ++ (beL 8 (8 * n)).take (8 - 8))) := Lib.hid (by simpa using HM.out)
      have HNL : Hid ((padZ xs z).length = N) := Lib.hid (by rw [padZ_len, HXL.out, HN.out])
      clear HM
      go_wp2_with fail
      clear hm hm2
      go_loopw [3, 4] (fun v i wr => ∃ (j : Nat) (A : Option Addr) (d : Nat), j ≤ 8 ∧ i = .int .i64 (8 * (j : Int) - 8) ∧ v = .slice A (N + (8 - j)) d ∧ Hid (Made w wr (.slice A (N + (8 - j)) d) (padZ xs z ++ (beL 8 (8 * n)).take (8 - j)))) (fun _ i _ => (intOf i + 8).toNat)
      case atStart => exact ⟨8, A3, d3, Nat.le_refl _, rfl, rfl, HM8⟩
      case round =>
        clear HM8
        obtain ⟨j, A6, d6, hj, rfl, rfl, HM⟩ := hrel
        rcases Nat.eq_zero_or_pos j with h0 | h0
        · subst h0
          have hfin : (padZ xs z ++ (beL 8 (8 * n)).take (8 - 0)) = padL xs := by
            rw [padL_eq, HXL.out, ← HZ.out, Nat.sub_zero, List.take_of_length_le (by rw [beL_len]; exact Nat.le_refl _)]
          have HM2 := HM.out
          rw [hfin] at HM2
          have HLN : (padL xs).length = N + 8 := by rw [padL_eq, List.length_append, beL_len, HXL.out, ← HZ.out, HNL.out]
          have HM3 := Lib.hid HM2
          have HLN := Lib.hid HLN
          clear HM HM2 hfin
          go_wp2_with fail
          go_ret
          rw [HLN.out]
          have := HM3.out.1
          rw [HLN.out] at this
          exact ⟨⟨A6, d6, rfl, this⟩, HM3.out.2⟩
        · obtain ⟨k, rfl⟩ : ∃ k, j = k + 1 := ⟨j - 1, by omega⟩
          have hk : (8 * ((k + 1 : Nat) : Int) - 8) = 8 * (k : Int) := by omega
          rw [hk]
          obtain ⟨M, hM⟩ : ∃ M, M = N + (8 - (k + 1)) := ⟨_, rfl⟩
          rw [← hM] at HM ⊢
          have HMN := Lib.hid hM
          have hMb : M ≤ 2000000010 := by omega
          have hlen : (padZ xs z ++ (beL 8 (8 * n)).take (8 - (k + 1))).length = M := by
            rw [List.length_append, List.length_take, beL_len, HNL.out]
            omega
          have hOk := HM.out.1
          rw [hlen] at hOk
          have HOk := Lib.hid hOk
          obtain ⟨n8, hn8⟩ : ∃ n8, n8 = 8 * n := ⟨_, rfl⟩
          rw [← hn8] at HM HOk
          have HN8 := Lib.hid hn8
          have hsh := shr_int n8 k
          have hbw : IntKind.u8.wrap ((n8 : Int) / 256 ^ k) = ((byteAt n8 k : Nat) : Int) := by
            rw [show (n8 : Int) / 256 ^ k = ((n8 / 256 ^ k : Nat) : Int) from by simp, u8_wrap]
            rfl
          have hv : ((8 : Int) * (n : Int)) = (n8 : Int) := by omega
          have hw8 : IntKind.u64.wrap (n8 : Int) = (n8 : Int) := by rw [IntKind.wrap_u64]; omega
          clear hn8
          have hk0 : (0 : Int) ≤ 8 * (k : Int) := by omega
          have hk64 : 8 * (k : Int) < 64 := by omega
          have hk1 : 8 * (k : Int) ≤ 56 := by omega
          clear hk hOk hlen hM
          go_wp2_with ((with_reducible refine atOp ⟨some 29, _, _, _, _, _⟩ ?_); refine wpList_app elB _ rfl (.tmp 20) (.tmp 28) rfl w.heap.size (.slice A6 M d6) M (u8s (padZ xs z ++ (beL 8 n8).take (8 - (k + 1)))) rfl (New.own (New.al (New.refl wr) _) HOk.out) (some ⟨wr.heap.size, 0, none⟩) 1 1 [.int .u8 (byteAt n8 k : Nat)] rfl (Rd.ofBlk (p := fun _ => True) (Blk.new wr 5 #[.int .u8 (byteAt n8 k : Nat)]) 1 1 rfl trivial) (by simp [Value.oneCell']) (by unfold maxLen; omega) (by omega) (New.al HM.out.2 _).size ?_; intro A5 d5 w5 hO5 hF5 hA5; have HF5 := Lib.hid hF5; have HO5 := Lib.hid hO5; clear hO5 hF5 hA5)
          go_roundw
          case rel =>
            refine ⟨k, A5, d5, by omega, rfl, ?_, Lib.hid ⟨?_, (New.al HM.out.2 _).fr HF5.out (fun j hj => (own_lt HOk.out j hj).1)⟩⟩
            · congr 1
              have := HMN.out
              omega
            · have h1 := HO5.out
              have e1 : (padZ xs z ++ (beL 8 n8).take (8 - k)).length = M + 1 := by
                rw [List.length_append, List.length_take, beL_len, HNL.out]
                have := HMN.out
                omega
              have e2 : u8s (padZ xs z ++ (beL 8 n8).take (8 - k)) = u8s (padZ xs z ++ (beL 8 n8).take (8 - (k + 1))) ++ [.int .u8 (byteAt n8 k : Nat)] := by
                rw [beL_take 8 n8 k (by omega), ← List.append_assoc, u8s_app (padZ xs z ++ _)]
                rfl
              rw [← HN8.out, e1, e2, show N + (8 - k) = M + 1 by have := HMN.out; omega]
              exact h1
          case measure => simp [intOf]; omega
set_option maxHeartbeats 2000000 in
set_option maxRecDepth 100000 in
theorem rpad_any {p : Nat → Prop} (A : Option Addr) (n c : Nat) (xs : List Int) (w : World) (hR : Rd p w 1 A n (u8s xs)) (hn : n ≤ 1000000000) :
    Calls Tryd.prog 70 #[.slice A n c] w fun e w' => (∃ A' c', e = .returned (.slice A' (padL xs).length c') ∧ w'.ownsRow w.heap.size 5 1 (.slice A' (padL xs).length c') (padL xs).length (u8s (padL xs))) ∧ New w w' := by
  have HXL : Hid (xs.length = n) := Lib.hid (by have := hR.1; rw [u8s_len] at this; omega)
  have HR := Lib.hid hR
  have hzl := (zN_mod n).2
  obtain ⟨z, hz⟩ : ∃ z, z = zN n := ⟨_, rfl⟩
  rw [← hz] at hzl
  have HZ := Lib.hid hz
  obtain ⟨r, hr⟩ : ∃ r, r = n % 64 := ⟨_, rfl⟩
  have hr1 : (n : Int) % 64 = (r : Int) := by omega
  have hr2 : (119 - (r : Int)) % 64 = (z : Int) := by rw [hz]; unfold zN; omega
  have hr3 : (r : Int) < 64 := by omega
  have hr0 : (0 : Int) ≤ (r : Int) := by omega
  clear hR hz hr
  go_enter Tryd.func70, Tryd.ntmps70
  go_wp2_with (first
    | ((with_reducible refine atOp ⟨some 15, _, _, _, _, _⟩ ?_); refine wpList_app elB _ rfl (.tmp 13) (.tmp 14) rfl w.heap.size (.slice (some ⟨w.heap.size, 0, none⟩) 0 0) 0 [] rfl (own_lit (Blk.new w 5 #[]) (Nat.le_refl _)) A n c (u8s xs) rfl (New.rd (New.al (New.refl w) _) HR.out) (u8s_one xs) (by unfold maxLen; omega) (by omega) (by simp) ?_; intro A1 d1 w1 hO1 hF1 hA1; rw [Nat.zero_add]; rw [Nat.zero_add, List.nil_append] at hO1; have HO1 := Lib.hid hO1; have HN1 : Hid (New w w1) := Lib.hid ((New.al (New.refl w) _).fr hF1 (by intro k hk; simp [Value.ownBlock] at hk; omega)); clear hO1 hF1 hA1; have HN2 : Hid (New w (w1.alloc (.cells #[.int .u8 128] 5))) := Lib.hid (New.al HN1.out _))
    | ((with_reducible refine atOp ⟨some 18, _, _, _, _, _⟩ ?_); refine wpList_app elB _ rfl (.tmp 16) (.tmp 17) rfl w.heap.size (.slice A1 n d1) n (u8s xs) rfl (New.own (New.al (New.refl w1) _) HO1.out) (some ⟨w1.heap.size, 0, none⟩) 1 1 [.int .u8 128] rfl (Rd.ofBlk (p := fun _ => True) (Blk.new w1 5 #[.int .u8 128]) 1 1 rfl trivial) (by simp [Value.oneCell']) (by unfold maxLen; omega) (by omega) HN2.out.size ?_; intro A2 d2 w3 hO3 hF3 hA3; have HF3 := Lib.hid hF3; have HO3 := Lib.hid hO3; clear hO3 hF3 hA3))
  have HN3 : Hid (New w w3) := Lib.hid (HN2.out.fr HF3.out (fun k hk => (own_lt HO1.out k hk).1))
  have HI0 : Hid (Made w w3 (.slice A2 (n + 1 + 0) d2) (padZ xs 0)) := Lib.hid ⟨by
    rw [padZ_len, HXL.out]
    have e : u8s (padZ xs 0) = u8s xs ++ [.int .u8 128] := by simp [padZ, u8s]
    rw [e]
    exact HO3.out, HN3.out⟩
  clear HO1 HN1 HN2 HO3 HF3 HN3 HR hr1 hr2 hr3 hr0
  go_loopw [4, 5] (fun v i wr => ∃ (k : Nat) (A : Option Addr) (d : Nat), k ≤ z ∧ i = .int .i64 k ∧ v = .slice A (n + 1 + k) d ∧ Hid (Made w wr (.slice A (n + 1 + k) d) (padZ xs k))) (fun _ i _ => z - (intOf i).toNat)
  case atStart => exact ⟨0, A2, d2, Nat.zero_le _, rfl, rfl, HI0⟩
  case round =>
    clear HI0
    obtain ⟨k, A3, d3, hk, rfl, rfl, HM⟩ := hrel
    have hk0 : (0 : Int) ≤ (k : Int) := by omega
    by_cases hlt : k < z
    · obtain ⟨N, hN⟩ : ∃ N, N = n + 1 + k := ⟨_, rfl⟩
      have hNb : N ≤ 2000000000 := by omega
      have hOk : wr.ownsRow w.heap.size 5 1 (.slice A3 N d3) N (u8s (padZ xs k)) := by
        have := HM.out.1
        rwa [padZ_len, HXL.out, ← hN] at this
      have HOk := Lib.hid hOk
      rw [← hN]
      have HNN := Lib.hid hN
      clear hOk hN
      go_wp2_with ((with_reducible refine atOp ⟨some 26, _, _, _, _, _⟩ ?_); refine wpList_app elB _ rfl (.tmp 24) (.tmp 25) rfl w.heap.size (.slice A3 N d3) N (u8s (padZ xs k)) rfl (New.own (New.al (New.refl wr) _) HOk.out) (some ⟨wr.heap.size, 0, none⟩) 1 1 [.int .u8 0] rfl (Rd.ofBlk (p := fun _ => True) (Blk.new wr 5 #[.int .u8 0]) 1 1 rfl trivial) (by simp [Value.oneCell']) (by unfold maxLen; omega) (by omega) (New.al HM.out.2 _).size ?_; intro A5 d5 w5 hO5 hF5 hA5; have HF5 := Lib.hid hF5; have HO5 := Lib.hid hO5; clear hO5 hF5 hA5)
      go_roundw
      case measure => simp [intOf]; omega
      case rel =>
        have hN1 : n + 1 + (k + 1) = N + 1 := by have := HNN.out; omega
        refine ⟨k + 1, A5, d5, by omega, by go_num, by rw [hN1], Lib.hid ⟨?_, (New.al HM.out.2 _).fr HF5.out (fun j hj => (own_lt HOk.out j hj).1)⟩⟩
        rw [padZ_len, HXL.out, padZ_succ, u8s_app, hN1]
        exact HO5.out
    · obtain ⟨N, hN⟩ : ∃ N, N = n + 1 + k := ⟨_, rfl⟩
      have hNb : N ≤ 2000000000 := by omega
      have HKZ : Hid (k = z) := Lib.hid (by omega)
      rw [← hN]
      have HM8 : Hid (Made w wr (.slice A3 N d3) (padZ xs z ++ (beL 8 (8 * n)).take (8 - 8))) := Lib.hid (by
        have := HM.out
        rw [← hN, HKZ.out] at this
        simpa using this)
      have HNL : Hid ((padZ xs z).length = N) := Lib.hid (by rw [padZ_len, HXL.out, hN, HKZ.out])
      obtain ⟨n8, hn8⟩ : ∃ n8, n8 = 8 * n := ⟨_, rfl⟩
      rw [← hn8] at HM8
      have HN8 := Lib.hid hn8
      have hv : ((n : Int) * 8) = (n8 : Int) := by omega
      have hw8 : IntKind.u64.wrap (n8 : Int) = (n8 : Int) := by rw [IntKind.wrap_u64]; omega
      have HFI : Hid (padZ xs z ++ (beL 8 n8).take (8 - 0) = padL xs) := Lib.hid (by
        rw [padL_eq, HXL.out, ← HZ.out, hn8, Nat.sub_zero, List.take_of_length_le (by rw [beL_len]; exact Nat.le_refl _)])
      clear HM hN hn8
      go_wp2_with fail
      clear hv hw8 hlt hk hk0
      go_loopw [4, 7] (fun v i wr => ∃ (j : Nat) (A : Option Addr) (d : Nat), j ≤ 8 ∧ i = .int .i64 ((j : Int) - 1) ∧ v = .slice A (N + (8 - j)) d ∧ Hid (Made w wr (.slice A (N + (8 - j)) d) (padZ xs z ++ (beL 8 n8).take (8 - j)))) (fun _ i _ => (intOf i + 1).toNat)
      case atStart => exact ⟨8, A3, d3, Nat.le_refl _, rfl, rfl, HM8⟩
      case round =>
        clear HM8
        obtain ⟨j, A6, d6, hj, rfl, rfl, HM⟩ := hrel
        rcases Nat.eq_zero_or_pos j with h0 | h0
        · subst h0
          have HM2 := HM.out
          rw [HFI.out] at HM2
          have HLN : (padL xs).length = N + 8 := by rw [padL_eq, List.length_append, beL_len, HXL.out, ← HZ.out, HNL.out]
          have HM3 := Lib.hid HM2
          have HLN := Lib.hid HLN
          clear HM HM2 HFI
          go_wp2_with fail
          go_ret
          rw [HLN.out]
          have := HM3.out.1
          rw [HLN.out] at this
          exact ⟨⟨A6, d6, rfl, this⟩, HM3.out.2⟩
        · obtain ⟨k, rfl⟩ : ∃ k, j = k + 1 := ⟨j - 1, by omega⟩
          have hk : (((k + 1 : Nat) : Int) - 1) = (k : Int) := by omega
          rw [hk]
          obtain ⟨M, hM⟩ : ∃ M, M = N + (8 - (k + 1)) := ⟨_, rfl⟩
          rw [← hM] at HM ⊢
          have HMN := Lib.hid hM
          have hMb : M ≤ 2000000010 := by omega
          have hlen : (padZ xs z ++ (beL 8 n8).take (8 - (k + 1))).length = M := by
            rw [List.length_append, List.length_take, beL_len, HNL.out]
            omega
          have hOk := HM.out.1
          rw [hlen] at hOk
          have HOk := Lib.hid hOk
          have hsh := shr_int n8 k
          have hbw : IntKind.u8.wrap ((n8 : Int) / 256 ^ k) = ((byteAt n8 k : Nat) : Int) := by
            rw [show (n8 : Int) / 256 ^ k = ((n8 / 256 ^ k : Nat) : Int) from by simp, u8_wrap]
            rfl
          have hk0 : (0 : Int) ≤ 8 * (k : Int) := by omega
          have hk1 : 8 * (k : Int) ≤ 56 := by omega
          have hk2 : (0 : Int) ≤ (k : Int) := by omega
          clear hk hOk hlen hM
          go_wp2_with ((with_reducible refine atOp ⟨some 43, _, _, _, _, _⟩ ?_); refine wpList_app elB _ rfl (.tmp 35) (.tmp 42) rfl w.heap.size (.slice A6 M d6) M (u8s (padZ xs z ++ (beL 8 n8).take (8 - (k + 1)))) rfl (New.own (New.al (New.refl wr) _) HOk.out) (some ⟨wr.heap.size, 0, none⟩) 1 1 [.int .u8 (byteAt n8 k : Nat)] rfl (Rd.ofBlk (p := fun _ => True) (Blk.new wr 5 #[.int .u8 (byteAt n8 k : Nat)]) 1 1 rfl trivial) (by simp [Value.oneCell']) (by unfold maxLen; omega) (by omega) (New.al HM.out.2 _).size ?_; intro A5 d5 w5 hO5 hF5 hA5; have HF5 := Lib.hid hF5; have HO5 := Lib.hid hO5; clear hO5 hF5 hA5)
          go_roundw
          case rel =>
            refine ⟨k, A5, d5, by omega, rfl, ?_, Lib.hid ⟨?_, (New.al HM.out.2 _).fr HF5.out (fun j hj => (own_lt HOk.out j hj).1)⟩⟩
            · congr 1
              have := HMN.out
              omega
            · have h1 := HO5.out
              have e1 : (padZ xs z ++ (beL 8 n8).take (8 - k)).length = M + 1 := by
                rw [List.length_append, List.length_take, beL_len, HNL.out]
                have := HMN.out
                omega
              have e2 : u8s (padZ xs z ++ (beL 8 n8).take (8 - k)) = u8s (padZ xs z ++ (beL 8 n8).take (8 - (k + 1))) ++ [.int .u8 (byteAt n8 k : Nat)] := by
                rw [beL_take 8 n8 k (by omega), ← List.append_assoc, u8s_app (padZ xs z ++ _)]
                rfl
              rw [e1, e2, show N + (8 - k) = M + 1 by have := HMN.out; omega]
              exact h1
          case measure => simp [intOf]
end Go.Proofs.YteeclfejgpgooaaDoor
