/- Texts of one proof, one behind the other: MxB, FillS, HmP, HmA. No condition but each one's own. -/
import Derived.Test.YtmibndkofoldkaaGreatDoorClientNilM2
import Derived.Test.YtmibndkofoldkaaGreatDoorClientNilM10
import Derived.Test.YtmibndkofoldkaaGreatDoorClientNilM1
import Derived.Laws.BitsAllLaws
import Derived.Test.YtmibndkofoldkaaGreatDoorClientNilM6
import Derived.Test.YtmibndkofoldkaaGreatDoorClientNilM4
namespace Go.Proofs.YtmibndkofoldkaaGreatDoor
set_option linter.unusedVariables false
set_option linter.unusedSimpArgs false
set_option linter.constructorNameAsVariable false
open Go.RowKit
section
variable {P : Program} {ops : Array Oper} {Q : Exit → Act → World → Prop} {S : World → Prop} {last : Nat}
theorem mix_take_built {i : Nat} {o : Oper} {sc : List (Bool × Nat)} {a : Act} {w : World} (ho : ops[i]? = some o) (hw : Region.wanted o (yielded ops a.tmps) = true) (t : TypeId) (l : List (Nat × Operand)) (hop : o.op = .build t l.toArray) (vs : List (Nat × Value)) (hv : (l.map fun (i, x) => (i, a.eval x)) = vs) (cells : Array Value) (hb : P.built t vs = some cells)
    (h : wpMix P ops S last Q sc (a.put o.dst (.agg cells)) w) : wpMix P ops S last Q ((true, i) :: sc) a w :=
 ⟨o, ho, by
  rw [if_pos hw]
  refine ⟨_, fun p => ?_, h⟩
  have hf : P.built t (l.toArray.map fun (i, x) => (i, a.eval x)).toList = some cells := by rw [List.map_toArray, hv]; exact hb
  unfold execOp
  simp only [hop]
  rw [Sem.run_bind, run_build p.w t _ cells hf]
  rfl⟩
end
end Go.Proofs.YtmibndkofoldkaaGreatDoor
namespace Go.Proofs.YtmibndkofoldkaaGreatDoor
set_option linter.unusedVariables false
set_option linter.unusedSimpArgs false
set_option linter.constructorNameAsVariable false
open Go.RowKit
theorem built_struct {P : Program} {t m : Nat} {fs : Array Field} {zs : Array Value} {places : List (Nat × Nat)} (hu : P.underlying t = some (.struct fs)) (hi : (P.info? t).map (fun i => (i.zero, i.size)) = some (some (.agg zs), m)) (hp : fs.toList.mapM (fun f => (P.info? f.type).map fun i => (f.offset, i.size)) = some places) (parts : List (Nat × Value)) :
    P.built t parts = Instr.fill (places.toArray[·]?) zs parts := by
 unfold Program.built
 cases hq : P.info? t with
 | none => simp [hq] at hi
 | some it =>
  have h1 : it.zero = some (.agg zs) := by
   rw [hq] at hi
   exact congrArg Prod.fst (Option.some.inj hi)
  simp only [hu, h1, hp, Value.cells]
theorem fill_cell {place : Nat → Option (Nat × Nat)} {i off : Nat} {v : Value} {xs : List Value} {rest : List (Nat × Value)} (hp : place i = some (off, 1)) (hv : v.cells = #[v]) (hl : off < xs.length) :
    Instr.fill place xs.toArray ((i, v) :: rest) = Instr.fill place (xs.set off v).toArray rest := by
 rw [fill_one (ys := [v]) hp hv (by simp; omega)]
 congr 2
 unfold splice
 rw [List.length_singleton, List.set_eq_take_append_cons_drop, if_pos hl]
 simp
end Go.Proofs.YtmibndkofoldkaaGreatDoor
namespace Go.Proofs.YtmibndkofoldkaaGreatDoor
set_option linter.unusedVariables false
set_option linter.unusedSimpArgs false
set_option linter.constructorNameAsVariable false
open Go.RowKit Go.Maps
def xor8 (a b : Int) : Int := bits .xor .u8 a b
theorem xor8_in {a b : Int} (ha : 0 ≤ a ∧ a < 256) (hb : 0 ≤ b ∧ b < 256) : 0 ≤ xor8 a b ∧ xor8 a b < 256 := by
 unfold xor8
 rw [u8_xor a b ha.1 ha.2 hb.1 hb.2]
 have : a.toNat ^^^ b.toNat < 2 ^ 8 := Nat.xor_lt_two_pow (by omega) (by omega)
 omega
theorem xor8_zero {a b : Int} (ha : 0 ≤ a ∧ a < 256) (hb : 0 ≤ b ∧ b < 256) : xor8 a b = 0 ↔ a = b := by
 unfold xor8
 rw [u8_xor a b ha.1 ha.2 hb.1 hb.2]
 constructor
 · intro h
   have h1 : a.toNat ^^^ b.toNat = 0 := by omega
   have h2 : a.toNat = b.toNat := by
    have h3 : a.toNat ^^^ b.toNat ^^^ b.toNat = 0 ^^^ b.toNat := by rw [h1]
    rwa [Nat.xor_assoc, Nat.xor_self, Nat.xor_zero, Nat.zero_xor] at h3
   omega
 · rintro rfl; simp
def or8 (a b : Int) : Int := bits .or .u8 a b
theorem or8_in {a b : Int} (ha : 0 ≤ a ∧ a < 256) (hb : 0 ≤ b ∧ b < 256) : 0 ≤ or8 a b ∧ or8 a b < 256 := by
 unfold or8
 rw [u8_or a b ha.1 ha.2 hb.1 hb.2]
 have : a.toNat ||| b.toNat < 2 ^ 8 := Nat.or_lt_two_pow (by omega) (by omega)
 omega
theorem or8_zero {a b : Int} (ha : 0 ≤ a ∧ a < 256) (hb : 0 ≤ b ∧ b < 256) : or8 a b = 0 ↔ a = 0 ∧ b = 0 := by
 unfold or8
 rw [u8_or a b ha.1 ha.2 hb.1 hb.2]
 constructor
 · intro h
   have h1 : a.toNat ||| b.toNat = 0 := by omega
   have h2 := Nat.or_eq_zero_iff.1 h1
   omega
 · rintro ⟨rfl, rfl⟩; simp
def xorL (b : Int) (xs : List Int) : List Int := xs.map fun x => xor8 x b
theorem xorL_len (b : Int) (xs : List Int) : (xorL b xs).length = xs.length := by simp [xorL]
theorem xorL_byt {b : Int} {xs : List Int} (hb : 0 ≤ b ∧ b < 256) (h : Byt xs) : Byt (xorL b xs) := by
 intro x hx
 obtain ⟨y, hy, rfl⟩ := List.mem_map.1 hx
 exact xor8_in (h y hy) hb
def unl (a b : List Int) : Nat → Int
 | 0 => 0
 | k + 1 => or8 (unl a b k) (xor8 (a.getD k 0) (b.getD k 0))
theorem unl_in {a b : List Int} (ha : Byt a) (hb : Byt b) (k : Nat) (h1 : k ≤ a.length) (h2 : k ≤ b.length) : (0 ≤ unl a b k ∧ unl a b k < 256) ∧ (unl a b k = 0 ↔ a.take k = b.take k) := by
 induction k with
 | zero => exact ⟨⟨Int.le_refl _, by show (0 : Int) < 256; decide⟩, by simp [unl]⟩
 | succ k ih =>
  obtain ⟨h3, h4⟩ := ih (by omega) (by omega)
  have ea : a.getD k 0 = a[k]'(by omega) := by rw [List.getD_eq_getElem?_getD, List.getElem?_eq_getElem (by omega)]; rfl
  have eb : b.getD k 0 = b[k]'(by omega) := by rw [List.getD_eq_getElem?_getD, List.getElem?_eq_getElem (by omega)]; rfl
  have ia := ha (a[k]'(by omega)) (List.getElem_mem _)
  have ib := hb (b[k]'(by omega)) (List.getElem_mem _)
  unfold unl
  rw [ea, eb]
  refine ⟨or8_in h3 (xor8_in ia ib), ?_⟩
  rw [or8_zero h3 (xor8_in ia ib), xor8_zero ia ib, h4, List.take_succ_eq_append_getElem (by omega), List.take_succ_eq_append_getElem (by omega)]
  constructor
  · rintro ⟨e1, e2⟩; rw [e1, e2]
  · intro h
    have := List.append_inj h (by simp; omega)
    exact ⟨this.1, by simpa using this.2⟩
theorem unl_all {a b : List Int} (ha : Byt a) (hb : Byt b) (hl : a.length = b.length) : unl a b a.length = 0 ↔ a = b := by
 rw [(unl_in ha hb a.length (Nat.le_refl _) (by omega)).2, List.take_length, hl, List.take_length]
def blkL (k : List Int) : List Int := k ++ List.replicate (64 - k.length) 0
theorem blkL_len {k : List Int} (h : k.length ≤ 64) : (blkL k).length = 64 := by unfold blkL; rw [List.length_append, List.length_replicate]; omega
theorem blkL_byt {k : List Int} (h : Byt k) : Byt (blkL k) := fun x hx => (List.mem_append.1 hx).elim (h x) fun hx => by rw [List.eq_of_mem_replicate hx]; decide
def macL (k xs : List Int) : List Int := hsh (xorL 92 (blkL k) ++ hsh (xorL 54 (blkL k) ++ xs))
theorem macL_len (k xs : List Int) : (macL k xs).length = 32 := hsh_len _
theorem macL_byt (k xs : List Int) : Byt (macL k xs) := hsh_byt _
def shortL (k xs : List Int) : List Int := (macL k xs).take 16
theorem shortL_len (k xs : List Int) : (shortL k xs).length = 16 := by unfold shortL; rw [List.length_take, macL_len]; rfl
theorem shortL_byt (k xs : List Int) : Byt (shortL k xs) := fun x hx => macL_byt k xs x (List.mem_of_mem_take hx)
end Go.Proofs.YtmibndkofoldkaaGreatDoor
namespace Go.Proofs.YtmibndkofoldkaaGreatDoor
set_option linter.unusedVariables false
set_option linter.unusedSimpArgs false
set_option linter.constructorNameAsVariable false
open Go.RowKit Go.Sort
theorem blkInfo : (Tryz.prog.info? 153).map (fun i => (i.zero, i.size)) = some (some (.agg (secA (List.replicate 64 0))), 64) := by kernel_rfl
theorem splice_pre {A S : List Value} {k : Nat} (h : S.length = k) : splice A 0 S = S ++ A.drop k := by unfold splice; rw [List.take_zero, List.nil_append, Nat.zero_add, h]
theorem blk_spl {k : List Int} (h : k.length ≤ 64) : (splice (u8s (List.replicate 64 0)) 0 (u8s k)).toArray = secA (blkL k) := by
 rw [splice_pre (u8s_len k)]
 unfold blkL secA u8s
 rw [List.map_append, ← List.map_drop, List.drop_replicate]
set_option maxHeartbeats 2000000 in
set_option maxRecDepth 100000 in
theorem block_any {q : Nat → Prop} (A : Option Addr) (n c : Nat) (k : List Int) (w : World) (hR : Rd q w 1 A n (u8s k)) (hn : n ≤ 64) :
    Calls Tryz.prog 188 #[.slice A n c] w fun e w' => e = .returned (.agg (secA (blkL k))) ∧ New w w' := by
 have hkn : k.length = n := by have := hR.1; rw [u8s_len] at this; omega
 have HR := Lib.hid hR
 have HK := Lib.hid hkn
 obtain ⟨BA, hBA⟩ : ∃ BA, BA = secA (blkL k) := ⟨_, rfl⟩
 have HBA : Hid (BA = secA (blkL k)) := Lib.hid hBA
 have HSZ : Hid (BA.size = 64) := Lib.hid (by rw [hBA, secA_size, blkL_len (by omega)])
 rw [← hBA]
 obtain ⟨ZR, hZR⟩ : ∃ ZR : List Int, ZR = List.replicate 64 0 := ⟨_, rfl⟩
 have HZR := Lib.hid hZR
 clear hR hkn hBA hZR
 have hgt : decide ((64 : Int) < (n : Int)) = false := decide_eq_false (by omega)
 go_enter Tryz.func188, Tryz.ntmps188
 go_upto_region 1 with ((with_reducible refine atOp ⟨some 2, .alloc _, _, _, _, _⟩ ?_); refine wpList_alloc_row rfl rfl blkInfo ?_; intro b2 w1 hb hB hN; have HB2 := Lib.hid hB; have HN1 := Lib.hid hN; have HZ2 := Lib.hid hb; clear hb hB hN)
 go_upto_region 2 with ((with_reducible refine atOp ⟨some 3, .alloc _, _, _, _, _⟩ ?_); refine wpList_alloc_row rfl rfl blkInfo ?_; intro b3 w2 hb hB hN; have HB3 := Lib.hid hB; have HN2 := Lib.hid hN; have HZ3 := Lib.hid hb; clear hb hB hN)
 have HB22 : Hid (Blk w2 b2 153 (secA (List.replicate 64 0))) := Lib.hid (HN2.out.blk HB2.out)
 have HR2 : Hid (Rd q w2 1 A n (u8s k)) := Lib.hid (HN2.out.rd (HN1.out.rd HR.out))
 have HB32 : Hid (Blk w2 b3 153 (u8s ZR).toArray) := Lib.hid (by rw [HZR.out]; exact HB3.out)
 have HZL : Hid ((u8s ZR).length = 64) := Lib.hid (by rw [u8s_len, HZR.out, List.length_replicate])
 have HLT : Hid (b2 < b3) := Lib.hid (by rw [HZ3.out]; exact HB2.out.lt)
 clear HB3
 go_upto_region 6 with ((with_reducible refine atOp ⟨some 13, _, _, _, _, _⟩ ?_); refine wpList_copyF (q := q) rfl (.tmp 11) (.tmp 12) 84 84 rfl 5 Tryz.underlying84 rfl b3 0 64 64 A n c rfl rfl (u8s ZR) 153 HB32.out (u8s k) (by rw [u8s_len, HK.out]; exact (Nat.min_eq_left hn).symm) ⟨n, u8s k, HR2.out, by rw [List.take_length]⟩ (by rw [u8s_len, HZL.out, HK.out]; omega) (u8s_one _) ?_; intro w3 hb3 hf3; have HB33 := Lib.hid hb3; have HF3 := Lib.hid hf3; clear hb3 hf3)
 obtain ⟨SB, hSB⟩ : ∃ SB, SB = splice (u8s ZR) 0 (u8s k) := ⟨_, rfl⟩
 have HSB : Hid (SB.toArray = BA) := Lib.hid (by rw [hSB, HZR.out, HBA.out]; exact blk_spl (by have := HK.out; omega))
 rw [← hSB] at HB33
 have HB34 : Hid (Blk w3 b3 153 BA) := Lib.hid (by rw [← HSB.out]; exact HB33.out)
 have HB24 : Hid (Blk w3 b2 153 (secA (List.replicate 64 0))) := Lib.hid (HB22.out.fr HF3.out (by have := HLT.out; omega))
 clear hSB HB33 HSB
 go_wp2_with (first
  | ((with_reducible refine atOp ⟨some 14, .load _ _, _, _, _, _⟩ ?_); refine wpList_load_any rfl _ rfl Tryz.underlying153 rfl (by rw [HSZ.out]; rfl) rfl HB34.out ?_)
  | ((with_reducible refine atOp ⟨none, .store 153 (.tmp 2) _, _, _, _, _⟩ ?_); refine wpList_store_any rfl (.tmp 2) (.tmp 14) rfl (by rw [HSZ.out]; rfl) rfl rfl HB24.out (by rw [HSZ.out]; rfl) (by rw [HBA.out]; exact secA_one _) ?_; intro w8 hb8 hf8; have HB8 := Lib.hid hb8; have HF8 := Lib.hid hf8; clear hb8 hf8))
 exact bodyPost_ret (v := .agg BA) (results_rowA rfl _ _ b2 _ _ rfl HB8.out Tryz.underlying153 rfl (by rw [HSZ.out]; rfl)) rfl ⟨rfl, ((HN1.out.tr HN2.out).fr HF3.out (fun j hj => by have := HLT.out; have := HZ2.out; omega)).fr HF8.out (fun j hj => by have := HZ2.out; omega)⟩
def xorS (b : Int) (ks : List Int) (k : Nat) : List Int := xorL b (ks.take k) ++ ks.drop k
theorem xorS_len (b : Int) (ks : List Int) (k : Nat) : (xorS b ks k).length = ks.length := by
 unfold xorS; rw [List.length_append, xorL_len, List.length_take, List.length_drop]; omega
theorem xorS_at {b : Int} {ks : List Int} {k : Nat} (h : k < ks.length) : at_ (xorS b ks k) k = at_ ks k := by
 unfold at_ xorS
 have e : (xorL b (ks.take k)).length = k := by rw [xorL_len, List.length_take]; omega
 rw [List.getD_eq_getElem?_getD, List.getD_eq_getElem?_getD, List.getElem?_append_right (by omega), e, Nat.sub_self, List.getElem?_drop, Nat.add_zero]
theorem xorS_set {b : Int} {ks : List Int} {k : Nat} (h : k < ks.length) : (xorS b ks k).set k (xor8 (at_ ks k) b) = xorS b ks (k + 1) := by
 have e : (xorL b (ks.take k)).length = k := by rw [xorL_len, List.length_take]; omega
 have e2 : at_ ks k = ks[k] := by unfold at_; rw [List.getD_eq_getElem?_getD, List.getElem?_eq_getElem h]; rfl
 unfold xorS
 rw [List.set_append_right _ _ (by omega), e, Nat.sub_self, List.drop_eq_getElem_cons h, List.set_cons_zero, List.take_succ_eq_append_getElem h, e2]
 unfold xorL
 rw [List.map_append, List.append_assoc]
 rfl
set_option maxHeartbeats 2000000 in
set_option maxRecDepth 100000 in
theorem with_any (ks : List Int) (by_ : Int) (w : World) (hk : ks.length = 64) :
    Calls Tryz.prog 189 #[.agg (secA ks), .int .u8 by_] w fun e w' => ∃ b, e = .returned (.slice (some ⟨b, 0, none⟩) 64 64) ∧ Blk w' b 153 (secA (xorL by_ ks)) ∧ w.heap.size ≤ b ∧ New w w' := by
 have HK := Lib.hid hk
 have HX0 : Hid (secA ks = secA (xorS by_ ks 0)) := Lib.hid (by unfold xorS xorL; simp)
 clear hk
 obtain ⟨TA, hTA⟩ : ∃ TA, TA = secA ks := ⟨_, rfl⟩
 have HTA := Lib.hid hTA
 rw [← hTA]
 clear hTA
 go_enter Tryz.func189, Tryz.ntmps189
 go_upto_region 1 with fail
 obtain ⟨w1, hw1⟩ : ∃ w1 : World, w1 = w.alloc (.cells TA 153) := ⟨_, rfl⟩
 obtain ⟨b2, hb2⟩ : ∃ b2, b2 = w.heap.size := ⟨_, rfl⟩
 have HN1 : Hid (New w w1) := Lib.hid (by rw [hw1]; exact New.al (New.refl _) _)
 have HB2 : Hid (Blk w1 b2 153 (secA (xorS by_ ks 0))) := Lib.hid (by rw [hw1, hb2, ← HX0.out, ← HTA.out]; exact Blk.new _ _ _)
 have HZ := Lib.hid hb2
 rw [← hw1, ← hb2]
 clear hw1 hb2
 go_wp2_with fail
 go_loopw [6] (fun i wr => ∃ (k : Nat), k ≤ 64 ∧ i = .int .i64 k ∧ Hid (New w wr) ∧ Hid (Blk wr b2 153 (secA (xorS by_ ks k)))) (fun i _ => 64 - (intOf i).toNat)
 case atStart => exact ⟨0, Nat.zero_le _, rfl, HN1, HB2⟩
 case round =>
  clear HB2 HN1
  obtain ⟨k, hk, rfl, HN, HB⟩ := hrel
  by_cases hlt : k < 64
  · have h1 : wr.cell? ⟨b2, k, none⟩ = some (.int .u8 (at_ ks k)) := by rw [HB.out.cell k, secA_get (by rw [xorS_len, HK.out]; exact hlt), xorS_at (by rw [HK.out]; exact hlt)]
    have h2 : wr.frozen? ⟨b2, k, none⟩ = false := HB.out.frozen k
    go_wp2_with fail
    go_roundw
    case rel =>
     have HN2 : Hid (New w wr) := HN
     refine ⟨k + 1, by omega, by go_num, Lib.hid (HN2.out.set (by show w.heap.size ≤ b2; rw [HZ.out]; exact Nat.le_refl _) _), Lib.hid ?_⟩
     have := HB.out.set k (.int .u8 (xor8 (at_ ks k) by_))
     rwa [secA_set, xorS_set (by rw [HK.out]; exact hlt)] at this
    case measure => simp [intOf]; omega
  · obtain rfl : k = 64 := by omega
    go_wp2_with fail
    go_ret
    refine ⟨b2, rfl, ?_, by rw [HZ.out]; exact Nat.le_refl _, HN.out⟩
    have := HB.out
    unfold xorS at this
    rwa [List.take_of_length_le (by rw [HK.out]; exact Nat.le_refl _), List.drop_eq_nil_of_le (by rw [HK.out]; exact Nat.le_refl _), List.append_nil] at this
end Go.Proofs.YtmibndkofoldkaaGreatDoor
