/- Texts of one proof, one behind the other: PreB, MxB, AppF, RdA. No condition but each one's own. -/
import Derived.Test.YtdojmjglnlkmoaaDoorRecordPlaysM18
import Derived.Test.YtdojmjglnlkmoaaDoorRecordPlaysM6
import Derived.Test.YtdojmjglnlkmoaaDoorRecordPlaysM1
import Derived.Test.YtdojmjglnlkmoaaDoorRecordPlaysM7
import Derived.Test.YtdojmjglnlkmoaaDoorRecordPlaysM15
import Derived.Test.YtdojmjglnlkmoaaDoorRecordPlaysM10
/- More acts for such a script: a slice of one element made, an append. No condition. -/
namespace Go.Proofs.YtdojmjglnlkmoaaDoor
set_option linter.unusedVariables false
set_option linter.unusedSimpArgs false
set_option linter.constructorNameAsVariable false
open Go.RowKit

section
variable {P : Program} {ops : Array Oper} {Q : Exit → Act → World → Prop} {S : World → Prop}
theorem pre_bs1 {t e : TypeId} {size bytes : Nat} (E : ElemOf P t e size bytes) (hs : size ≤ 16777216) {i : Nat} {o : Oper} {sc : List (Nat × Nat)} {a : Act} {w : World} (hop : ops[i]? = some o) (hw : Region.wanted o (yielded ops a.tmps) = true) (x : Operand)
    (ho : o.op = .buildSlice t 1 #[(0, x)]) (cs : Array Value) (hx : a.eval x = .agg cs) (hc : cs.size = size)
    (h : wpPre P ops S Q sc (a.put o.dst (.slice (some ⟨w.heap.size, 0, none⟩) 1 1)) (w.alloc (.cells cs e))) : wpPre P ops S Q ((2, i) :: sc) a w :=
  pre_act hop fun K hK => by
    rw [if_pos hw]
    unfold Oper.wp execOp
    simp only [ho, Sem.run_bind, List.map_toArray, List.map_cons, List.map_nil, hx, run_bs1 E hs (.agg cs) hc w, Result.andThen_ok]
    exact hK.out _ _ h
theorem pre_app {t e : TypeId} {size bytes : Nat} (E : ElemOf P t e size bytes) (w : World) {i : Nat} {o : Oper} {sc : List (Nat × Nat)} {a : Act} (hop : ops[i]? = some o) (hw : Region.wanted o (yielded ops a.tmps) = true) (s x : Operand)
    (ho : o.op = .call { callee := .builtin .append, args := #[s, x], argTypes := #[t, t] })
    (base : Nat) (v : Value) (n : Nat) (xs : List Value) (hs : a.eval s = v) (hown : w.ownsRow base e size v n xs)
    {p : Nat → Prop} (X : Option Addr) (m c : Nat) (news : List Value) (hx : a.eval x = .slice X m c) (hr : Rd p w size X m news) (h1 : ∀ u ∈ news, u.oneCell' = true)
    (h63 : n + m ≤ maxLen) (hbytes : (n + m) * bytes ≤ 140737488355328) (hbase : base ≤ w.heap.size)
    (h : ∀ A' c' w', w'.ownsRow base e size (.slice A' (n + m) c') (n + m) (xs ++ news) → Fr (fun k => v.ownBlock = some k) w w' →
      (∀ k, (Value.slice A' (n + m) c').ownBlock = some k → v.ownBlock = some k ∨ w.heap.size ≤ k) → wpPre P ops S Q sc (a.put o.dst (.slice A' (n + m) c')) w') : wpPre P ops S Q ((2, i) :: sc) a w :=
  pre_act hop fun K hK => by
    rw [if_pos hw]
    exact wp_app E w s x ho base v n xs hs hown X m c news hx hr h1 h63 hbytes hbase fun A' c' w' h2 h3 h4 => hK.out _ _ (h A' c' w' h2 h3 h4)
end
end Go.Proofs.YtdojmjglnlkmoaaDoor
/- More takes and acts for a mixed script: a row read as an act; a struct put together. No condition. -/
namespace Go.Proofs.YtdojmjglnlkmoaaDoor
set_option linter.unusedVariables false
set_option linter.unusedSimpArgs false
set_option linter.constructorNameAsVariable false
open Go.RowKit

section
variable {P : Program} {ops : Array Oper} {Q : Exit → Act → World → Prop} {S : World → Prop} {last : Nat}
theorem mix_act_row {i : Nat} {o : Oper} {sc : List (Bool × Nat)} {a : Act} {w : World} {T : TypeId} {d : TypeDesc} {b off : Nat} {cs : List Value} (ho : ops[i]? = some o) (hw : Region.wanted o (yielded ops a.tmps) = true) (x : Operand) (hop : o.op = .load T x) (hx : a.eval x = .pointer (some ⟨b, off, none⟩))
    (hc : w.rangeAt b off cs) (hu : P.underlying T = some d) (hd : d.isRow = true) (hi : (P.info? T).map (·.size) = some cs.length) (hS : S w)
    (h : wpMix P ops S last Q sc (a.put o.dst (.agg cs.toArray)) w) : wpMix P ops S last Q ((false, i) :: sc) a w :=
  ⟨o, ho, by
    rw [if_pos hw]
    exact wp_load_mid T x hop b off hx cs d hc hu hd hi ⟨fun _ => hS, h⟩⟩
theorem mix_take_built {i : Nat} {o : Oper} {sc : List (Bool × Nat)} {a : Act} {w : World} (ho : ops[i]? = some o) (hw : Region.wanted o (yielded ops a.tmps) = true) (t : TypeId) (l : List (Nat × Operand)) (hop : o.op = .build t l.toArray) (vs : List (Nat × Value)) (hv : (l.map fun (i, x) => (i, a.eval x)) = vs) (cells : Array Value) (hb : P.built t vs = some cells)
    (h : wpMix P ops S last Q sc (a.put o.dst (.agg cells)) w) : wpMix P ops S last Q ((true, i) :: sc) a w :=
  ⟨o, ho, by
    rw [if_pos hw]
    refine ⟨_, fun p => ?_, h⟩
    have hf : P.built t (l.toArray.map fun (i, x) => (i, a.eval x)).toList = some cells := by rw [List.map_toArray, hv]; exact hb
    unfold execOp
    simp only [hop]
    rw [Sem.run_bind, run_build p.w t _ cells hf]
    rfl⟩
end
end Go.Proofs.YtdojmjglnlkmoaaDoor
/- An append to a row that is full (a literal's, a string's bytes): it is copied into a new block. No condition. -/
namespace Go.Proofs.YtdojmjglnlkmoaaDoor
set_option linter.unusedVariables false
set_option linter.unusedSimpArgs false
set_option linter.constructorNameAsVariable false
open Go.RowKit

theorem run_app_full {P : Program} {t e : TypeId} {size bytes : Nat} (E : ElemOf P t e size bytes) (w : World) (base : Nat) (ty : TypeId) {q p : Nat → Prop} (S : Option Addr) (n : Nat) (xs : List Value) (hS : Rd q w size S n xs) (hn : 0 < n)
    (X : Option Addr) (m c : Nat) (news : List Value) (hr : Rd p w size X m news) (hm : 0 < m) (h63 : n + m ≤ maxLen) (hbytes : (n + m) * bytes ≤ 140737488355328) (hbase : base ≤ w.heap.size) :
    ∃ A' c' w', (Builtin.append_ #[t, t] ty #[.slice S n n, .slice X m c]).run P w = .ok (.slice A' (n + m) c') w' ∧ w'.ownsRow base e size (.slice A' (n + m) c') (n + m) (xs ++ news) ∧ New w w' := by
  obtain ⟨i, z, hi, hz, hsize, hby, hzs⟩ := E.info
  subst hsize
  subst hby
  obtain ⟨ad, rfl, -, -, hc⟩ := hS.2 hn
  obtain ⟨ax, rfl, -, -, hx⟩ := hr.2 hm
  have hr0 := run_append_grow (P := P) w t ty e i z E.ht hi hz ad n n xs hS.1 hc ax m c news hr.1 hx (by omega) (by simp only [maxLen] at h63; omega) (growslice_fits (by omega) hbytes)
  have hge := grownCap_ge w (n + m) n e
  have hcm : grownCap w (n + m) n e ≤ maxLen := grownCap_le_maxLen w (n + m) n e h63
  have hlen : (xs ++ news).length = (n + m) * i.size := by rw [List.length_append, hS.1, hr.1, Nat.add_mul]
  refine ⟨_, _, _, hr0, ⟨hlen, .inr ⟨w.heap.size, _, _, rfl, hbase, heap_alloc_new w.drew _, hge, hcm, ?_, ?_⟩⟩, New.al (New.dr (New.refl w)) _⟩
  · simp only [Array.size_append, List.size_toArray, size_zeroCells, hzs, hS.1, hr.1, ← Nat.add_mul]
    congr 1
    omega
  · simp only [Array.toList_append, List.append_assoc]
    rw [← List.append_assoc, ← hlen]
    exact List.take_left
theorem wpList_app_full {P : Program} {t e : TypeId} {size bytes : Nat} (E : ElemOf P t e size bytes) (w : World) {ops : Array Oper} {rest : List Oper} {o : Oper} {a : Act} {Q : Exit → Act → World → Prop} (hgd : o.guard = none) (s x : Operand)
    (ho : o.op = .call { callee := .builtin .append, args := #[s, x], argTypes := #[t, t] })
    (base : Nat) {q p : Nat → Prop} (S : Option Addr) (n : Nat) (xs : List Value) (hs : a.eval s = .slice S n n) (hS : Rd q w size S n xs) (hn : 0 < n)
    (X : Option Addr) (m c : Nat) (news : List Value) (hx : a.eval x = .slice X m c) (hr : Rd p w size X m news) (hm : 0 < m) (h63 : n + m ≤ maxLen) (hbytes : (n + m) * bytes ≤ 140737488355328) (hbase : base ≤ w.heap.size)
    (h : ∀ A' c' w', w'.ownsRow base e size (.slice A' (n + m) c') (n + m) (xs ++ news) → New w w' → wpList P ops Q rest (a.put o.dst (.slice A' (n + m) c')) w') : wpList P ops Q (o :: rest) a w :=
  wpList_plain hgd fun K hK => by
    obtain ⟨A', c', w', hrun, h2, h3⟩ := run_app_full E w base o.type S n xs hS hn X m c news hr hm h63 hbytes hbase
    unfold Oper.wp execOp
    simp only [ho, resolve, invoke, builtin, Sem.run_bind, Sem.run_pure, Result.andThen_ok, List.map_toArray, List.map_cons, List.map_nil, hs, hx, hrun]
    exact hK _ _ (h A' c' w' h2 h3)
end Go.Proofs.YtdojmjglnlkmoaaDoor
/- The reference: a record's two sectors. The tables of the reference's sha are as they were laid. No condition else. -/
namespace Go.Proofs.YtdojmjglnlkmoaaDoor
set_option linter.unusedVariables false
set_option linter.unusedSimpArgs false
set_option linter.constructorNameAsVariable false
open Go.RowKit Go.Sort

theorem twoInfo : (Tryd.prog.info? 97).map (fun i => (i.zero, i.size)) = some (some (.agg (secA (List.replicate 128 0))), 128) := by kernel_rfl
/-- The first of the two, as it grows. -/
def nums3 (r : Rc) : List Nat := [r.blocks, r.epoch, r.since]
def fstN (n : Nat) (r : Rc) (k : Nat) : List Int := beL 8 n ++ r.root ++ ((nums3 r).take k).flatMap (beL 8)
theorem fstN_3 (n : Nat) (r : Rc) : fstN n r 3 = fstL n r := by simp [fstN, nums3, fstL]
theorem fstN_len {n : Nat} {r : Rc} (h : r.root.length = 32) {k : Nat} (hk : k ≤ 3) : (fstN n r k).length = 40 + 8 * k := by
  rcases (show k = 0 ∨ k = 1 ∨ k = 2 ∨ k = 3 by omega) with rfl | rfl | rfl | rfl <;> simp [fstN, nums3, beL_len, h]
theorem fstN_succ (n : Nat) (r : Rc) {k : Nat} (hk : k < 3) : fstN n r (k + 1) = fstN n r k ++ beL 8 ((nums3 r).getD k 0) := by
  rcases (show k = 0 ∨ k = 1 ∨ k = 2 by omega) with rfl | rfl | rfl <;> simp [fstN, nums3]
set_option maxHeartbeats 3000000
set_option maxRecDepth 100000
theorem rput_rec (n : Nat) (r : Rc) (w : World) (hL : RShaIn 1 0 w) (hr : r.Ok) (hn : n < 18446744073709551616) :
    Calls Tryd.prog 35 #[.int .u64 n, .agg r.cells] w fun e w' => e = .returned (.agg (secA (putL n r))) ∧ New w w' := by
  have HL := Lib.hid hL
  have HR := Lib.hid hr
  have HNN := Lib.hid hn
  obtain ⟨RC, hRC⟩ : ∃ RC, RC = r.cells := ⟨_, rfl⟩
  have HRC := Lib.hid hRC
  rw [← hRC]
  clear hL hr hn hRC
  go_enter Tryd.func35, Tryd.ntmps35
  go_upto_region 1 with ((with_reducible refine atOp ⟨some 4, .alloc _, _, _, _, _⟩ ?_); refine wpList_alloc_row rfl rfl twoInfo ?_; intro b4 w1 hb hB hN; have HB4 := Lib.hid hB; have HN1 := Lib.hid hN; have HZ4 := Lib.hid hb; clear hb hB hN)
  have HB3 : Hid (Blk w1 w.heap.size 45 r.cells) := Lib.hid (by rw [← HRC.out]; exact HN1.out.blk (Blk.new _ _ _))
  have HNw : Hid (New w w1) := Lib.hid ((New.al (New.refl _) _).tr HN1.out)
  have HZ : Hid (w.heap.size ≤ b4 ∧ w.heap.size < b4) := Lib.hid (by have := HZ4.out; simp at this; omega)
  obtain ⟨b3, hb3⟩ : ∃ b3, b3 = w.heap.size := ⟨_, rfl⟩
  have HZ3 := Lib.hid hb3
  rw [← hb3] at HB3
  rw [← hb3]
  clear hb3 HN1 HZ4
  have HB34 : Hid (Blk w1 b3 45 r.cells ∧ Blk w1 b4 97 (secA (List.replicate 128 0))) := Lib.hid ⟨HB3.out, HB4.out⟩
  have HRT : Hid (∀ w', Blk w' b3 45 r.cells → Rd (fun _ => True) w' 1 (some ⟨b3, 0, none⟩) 32 (u8s r.root)) := Lib.hid (fun w' h => by
    have h1 := Rc.rootRange h
    exact rd_range h1 h.lt (by rw [u8s_len, HR.out.len]))
  clear HB3 HB4
  refine wp_region_mixH (fun w' => Blk w' b3 45 r.cells) [(true, 0), (true, 2), (true, 3), (false, 1), (false, 4), (true, 5)] (by kernel_rfl) (by kernel_rfl) ((New.dr (New.refl w1)).blk HB34.out.1) (fun hne => ?_)
  iterate 3 (refine mix_take (o := ⟨_, _, _, _, _, _⟩) rfl (fun K hK => ?_); go_simp; refine hK _ ?_; clear hK K)
  refine mix_act (o := ⟨_, _, _, _, _, _⟩) rfl (fun K hK => ?_) (.inl rfl)
  go_simp
  refine (number_any n 8 w1.drew (by omega) HNN.out).mono ?_
  rintro e w2 ⟨rfl, hO2, hN2⟩
  have HO2 := Lib.hid hO2
  have HN2 : Hid (New w1 w2) := Lib.hid ((New.dr (New.refl w1)).tr hN2)
  clear hO2 hN2
  go_simp
  refine hK.out _ _ (fun _ => HN2.out.blk HB34.out.1) ?_
  clear hK K
  refine mix_app (o := ⟨_, _, _, _, _, _⟩) elB w2 rfl rfl (.tmp 12) (.tmp 14) rfl w1.heap.size (.slice (some ⟨w1.heap.size, 0, none⟩) 8 8) 8 (u8s (beL 8 n)) rfl HO2.out (some ⟨b3, 0, none⟩) 32 _ (u8s r.root) rfl (HRT.out _ (HN2.out.blk HB34.out.1)) (u8s_one _) (by decide) (by decide) HN2.out.size ?_
  intro A3 d3 w3 hO3 hF3 hA3
  have HO3 : Hid (w3.ownsRow w1.heap.size 5 1 (.slice A3 (40 + 8 * 0) d3) (40 + 8 * 0) (u8s (fstN n r 0))) := Lib.hid (by
    have e : u8s (fstN n r 0) = u8s (beL 8 n) ++ u8s r.root := by simp [fstN, u8s]
    rw [e]
    exact hO3)
  have HN3 : Hid (New w1 w3) := Lib.hid (HN2.out.fr hF3 (fun k hk => by simp [Value.ownBlock] at hk; omega))
  clear hO3 hF3 hA3
  refine ⟨fun _ => HN3.out.blk HB34.out.1, ?_⟩
  iterate 1 (refine mix_take (o := ⟨_, _, _, _, _, _⟩) rfl (fun K hK => ?_); go_simp; refine hK _ ?_; clear hK K)
  refine mix_done ?_
  have HB33 : Hid (Blk w3 b3 45 r.cells) := Lib.hid (HN3.out.blk HB34.out.1)
  have k0 : w3.cell? ⟨b3, 32, none⟩ = some (.int .u64 r.blocks) := by rw [HB33.out.cell]; exact Rc.at HR.out.len 0
  have k1 : w3.cell? ⟨b3, 33, none⟩ = some (.int .u64 r.epoch) := by rw [HB33.out.cell]; exact Rc.at HR.out.len 1
  have k2 : w3.cell? ⟨b3, 34, none⟩ = some (.int .u64 r.since) := by rw [HB33.out.cell]; exact Rc.at HR.out.len 2
  go_upto_region 3 with fail
  clear k0 k1 k2
  obtain ⟨w4, hw4⟩ : ∃ w4 : World, w4 = w3.alloc (.cells #[.int .u64 r.blocks, .int .u64 r.epoch, .int .u64 r.since] 41) := ⟨_, rfl⟩
  obtain ⟨b6, hb6⟩ : ∃ b6, b6 = w3.heap.size := ⟨_, rfl⟩
  obtain ⟨bn, hbn⟩ : ∃ bn, bn = w1.heap.size := ⟨_, rfl⟩
  have hN4 : New w3 w4 := by rw [hw4]; exact New.al (New.refl _) _
  have HN4 : Hid (New w1 w4) := Lib.hid (HN3.out.tr hN4)
  have HO4 : Hid (w4.ownsRow w1.heap.size 5 1 (.slice A3 (40 + 8 * 0) d3) (40 + 8 * 0) (u8s (fstN n r 0))) := Lib.hid (hN4.own HO3.out)
  have HB6 : Hid (Blk w4 b6 41 #[.int .u64 r.blocks, .int .u64 r.epoch, .int .u64 r.since]) := Lib.hid (by rw [hw4, hb6]; exact Blk.new _ _ _)
  rw [← hw4, ← hb6, ← hbn]
  clear hw4 hb6 hbn hN4 HN3 HO3 HB33 HN2 HO2
  go_wp2_with fail
  go_loopw [5, 7] (fun v i wr => ∃ (k : Nat) (A : Option Addr) (m d : Nat), Hid (k ≤ 3 ∧ m = 40 + 8 * k) ∧ v = .slice A m d ∧ i = .int .i64 (k : Int) ∧ Hid (New w1 wr) ∧ Hid (wr.ownsRow w1.heap.size 5 1 (.slice A m d) m (u8s (fstN n r k))) ∧ Hid (Blk wr b6 41 #[.int .u64 r.blocks, .int .u64 r.epoch, .int .u64 r.since])) (fun _ i _ => 3 - (intOf i).toNat)
  case atStart => exact ⟨0, A3, 40, d3, Lib.hid (by omega), rfl, rfl, HN4, HO4, HB6⟩
  case round =>
    clear HN4 HO4 HB6
    obtain ⟨k, A, m, d, HK, rfl, rfl, HN, HO, HB⟩ := hrel
    by_cases hj : k < 3
    · have hlt : (k : Int) < 3 := by omega
      have HK2 := Lib.hid hj
      have e3 : IntKind.i64.wrap ((k : Int) + 1) = (k : Int) + 1 := IntWalk.i64_in _ (by omega)
      obtain ⟨x, hx⟩ : ∃ x, x = (nums3 r).getD k 0 := ⟨_, rfl⟩
      have HX : Hid (x < 18446744073709551616 ∧ fstN n r (k + 1) = fstN n r k ++ beL 8 x) := Lib.hid ⟨by
        have h1 := HR.out.blocks
        have h2 := HR.out.epoch
        have h3 := HR.out.since
        rw [hx]
        rcases (show k = 0 ∨ k = 1 ∨ k = 2 by omega) with rfl | rfl | rfl
        · exact h1
        · exact h2
        · exact h3, by rw [hx]; exact fstN_succ n r hj⟩
      have ck : wr.cell? ⟨b6, k, none⟩ = some (.int .u64 (x : Int)) := by
        rw [HB.out.cell, hx]
        rcases (show k = 0 ∨ k = 1 ∨ k = 2 by omega) with rfl | rfl | rfl <;> rfl
      clear hj hx
      go_wp2_with fail
      refine (number_any x 8 wr (by omega) HX.out.1).mono ?_
      rintro e w5 ⟨rfl, hO5, hN5⟩
      have HO5 := Lib.hid hO5
      have HN5 := Lib.hid hN5
      obtain ⟨bz, hbz⟩ : ∃ bz, bz = wr.heap.size := ⟨_, rfl⟩
      rw [← hbz] at HO5 ⊢
      clear hO5 hN5 ck hbz
      go_wp2_with (at_builtin; refine wpList_app elB _ rfl (.tmp 29) (.tmp 34) rfl w1.heap.size (.slice A m d) m (u8s (fstN n r k)) rfl (HN5.out.own HO.out) (some ⟨bz, 0, none⟩) 8 8 (u8s (beL 8 x)) rfl (Rd.own HO5.out rfl) (u8s_one _) (by have := HK.out; unfold maxLen; omega) (by have := HK.out; omega) (by have := HN.out.size; have := HN5.out.size; omega) ?_; intro A6 d6 w6 hO6 hF6 hA6; have HO6 : Hid (w6.ownsRow w1.heap.size 5 1 (.slice A6 (m + 8) d6) (m + 8) (u8s (fstN n r (k + 1)))) := Lib.hid (by rw [HX.out.2]; unfold u8s; rw [List.map_append]; exact hO6); have HF6 := Lib.hid hF6; clear hO6 hF6 hA6)
      go_roundw
      case rel => exact ⟨k + 1, A6, m + 8, d6, Lib.hid (by have := HK.out; have := HK2.out; omega), rfl, by go_num, Lib.hid ((HN.out.tr HN5.out).fr HF6.out (fun y hy => (own_lt HO.out y hy).1)), HO6, Lib.hid ((HN5.out.blk HB.out).fr HF6.out (fun hy => own_ne HO.out HB.out (by decide) hy))⟩
      case measure => simp [intOf]; have := HK2.out; omega
    · have hge : ¬ ((k : Int) < 3) := by omega
      have HO64 : Hid (wr.ownsRow w1.heap.size 5 1 (.slice A 64 d) 64 (u8s (fstL n r))) := Lib.hid (by
        obtain rfl : k = 3 := by have := HK.out; omega
        obtain rfl : m = 64 := by have := HK.out; omega
        rw [← fstN_3]
        exact HO.out)
      obtain rfl : m = 64 := by have := HK.out; omega
      have HO64' := HO64
      clear hj HO HK
      have HB3 : Hid (Blk wr b3 45 r.cells ∧ Blk wr b4 97 (secA (List.replicate 128 0))) := Lib.hid ⟨HN.out.blk HB34.out.1, HN.out.blk HB34.out.2⟩
      go_wp2_with fail
      refine wp_region_mixH (fun w' => Blk w' b3 45 r.cells) [(true, 0), (true, 2), (true, 3), (false, 1), (false, 4), (false, 5), (true, 6)] (by kernel_rfl) (by kernel_rfl) ((New.dr (New.refl wr)).blk HB3.out.1) (fun hne => ?_)
      have q1 : ∀ p : HW (fun w' => Blk w' b3 45 r.cells), p.w.cell? ⟨b3, 35, none⟩ = some (.int .u64 r.limit) := fun p => by rw [Blk.cell p.h]; exact Rc.at HR.out.len 3
      iterate 3 (refine mix_take (o := ⟨_, _, _, _, _, _⟩) rfl (fun K hK => ?_); go_simp; refine hK _ ?_; clear hK K)
      clear q1
      refine mix_act (o := ⟨_, _, _, _, _, _⟩) rfl (fun K hK => ?_) (.inl rfl)
      go_simp
      refine (number_any n 8 wr.drew (by omega) HNN.out).mono ?_
      rintro e w5 ⟨rfl, hO5, hN5⟩
      have HO5 := Lib.hid hO5
      have HN5 : Hid (New wr w5) := Lib.hid ((New.dr (New.refl wr)).tr hN5)
      clear hO5 hN5
      go_simp
      refine hK.out _ _ (fun _ => HN5.out.blk HB3.out.1) ?_
      clear hK K
      refine mix_act (o := ⟨_, _, _, _, _, _⟩) rfl (fun K hK => ?_) (.inl rfl)
      go_simp
      refine (number_any r.limit 8 w5 (by omega) HR.out.limit).mono ?_
      rintro e w6 ⟨rfl, hO6, hN6⟩
      have HO6 := Lib.hid hO6
      have HN6 : Hid (New wr w6) := Lib.hid (HN5.out.tr hN6)
      have HO56 : Hid (w6.ownsRow wr.heap.size 5 1 (.slice (some ⟨wr.heap.size, 0, none⟩) 8 8) 8 (u8s (beL 8 n))) := Lib.hid (hN6.own HO5.out)
      clear hO6 hN6 HO5
      go_simp
      refine hK.out _ _ (fun _ => HN6.out.blk HB3.out.1) ?_
      clear hK K
      refine mix_app (o := ⟨_, _, _, _, _, _⟩) elB w6 rfl rfl (.tmp 37) (.tmp 40) rfl wr.heap.size (.slice (some ⟨wr.heap.size, 0, none⟩) 8 8) 8 (u8s (beL 8 n)) rfl HO56.out (some ⟨w5.heap.size, 0, none⟩) 8 8 (u8s (beL 8 r.limit)) rfl (Rd.own HO6.out rfl) (u8s_one _) (by decide) (by decide) HN6.out.size ?_
      intro A7 d7 w7 hO7 hF7 hA7
      have HO7 : Hid (w7.ownsRow wr.heap.size 5 1 (.slice A7 16 d7) 16 (u8s (beL 8 n ++ beL 8 r.limit))) := Lib.hid (by unfold u8s; rw [List.map_append]; exact hO7)
      have HN7 : Hid (New wr w7) := Lib.hid (HN6.out.fr hF7 (fun k hk => by simp [Value.ownBlock] at hk; omega))
      clear hO7 hF7 hA7
      refine ⟨fun _ => HN7.out.blk HB3.out.1, ?_⟩
      iterate 1 (refine mix_take (o := ⟨_, _, _, _, _, _⟩) rfl (fun K hK => ?_); go_simp; refine hK _ ?_; clear hK K)
      refine mix_done ?_
      have HB37 : Hid (Blk w7 b3 45 r.cells ∧ Blk w7 b4 97 (secA (List.replicate 128 0))) := Lib.hid ⟨HN7.out.blk HB3.out.1, HN7.out.blk HB3.out.2⟩
      have k5 : w7.cell? ⟨b3, 36, none⟩ = some (.int .u64 r.session) := by rw [HB37.out.1.cell]; exact Rc.at HR.out.len 4
      have HO647 : Hid (w7.ownsRow w1.heap.size 5 1 (.slice A 64 d) 64 (u8s (fstL n r))) := Lib.hid (HN7.out.own HO64.out)
      obtain ⟨bo, hbo⟩ : ∃ bo, bo = wr.heap.size := ⟨_, rfl⟩
      obtain ⟨bp, hbp⟩ : ∃ bp, bp = w5.heap.size := ⟨_, rfl⟩
      rw [← hbo, ← hbp]
      clear hbo hbp HO56 HO6 HN6 HN5 HO64 HB
      go_wp2_with fail
      refine (number_any r.session 8 w7 (by omega) HR.out.session).mono ?_
      rintro e w8 ⟨rfl, hO8, hN8⟩
      have HO8 := Lib.hid hO8
      have HN8 := Lib.hid hN8
      obtain ⟨bq, hbq⟩ : ∃ bq, bq = w7.heap.size := ⟨_, rfl⟩
      rw [← hbq] at HO8 ⊢
      clear hO8 hN8 k5 hbq
      go_upto_region 9 with (at_builtin; refine wpList_app elB _ rfl (.tmp 42) (.tmp 45) rfl wr.heap.size (.slice A7 16 d7) 16 (u8s (beL 8 n ++ beL 8 r.limit)) rfl (HN8.out.own HO7.out) (some ⟨bq, 0, none⟩) 8 8 (u8s (beL 8 r.session)) rfl (Rd.own HO8.out rfl) (u8s_one _) (by decide) (by decide) (by have := HN7.out.size; have := HN8.out.size; omega) ?_; intro A9 d9 w9 hO9 hF9 hA9; have HO9 : Hid (w9.ownsRow wr.heap.size 5 1 (.slice A9 24 d9) 24 (u8s (sndL n r))) := Lib.hid (by unfold sndL u8s; rw [List.map_append]; exact hO9); have HN9 : Hid (New wr w9) := Lib.hid ((HN7.out.tr HN8.out).fr hF9 (fun y hy => (own_lt HO7.out y hy).1)); have HO649 : Hid (w9.ownsRow w1.heap.size 5 1 (.slice A 64 d) 64 (u8s (fstL n r))) := Lib.hid (own_fr (HN8.out.own HO647.out) hF9 (fun y hy e => by have h1 := own_lt HO7.out y e; have h2 := own_lt HO64'.out y hy; omega)); clear hO9 hF9 hA9)
      have kc := fun (w : World) (C : Array Value) (n c : Nat) => Lib.run_convert_bytes_const (P := Tryd.prog) w 96 5 C n c Tryd.underlying96 Tryd.underlying5
      have HNL : Hid (New w9 (w9.alloc (.cells #[.int .u8 101, .int .u8 110, .int .u8 116, .int .u8 114, .int .u8 117, .int .u8 115, .int .u8 116, .int .u8 32, .int .u8 114, .int .u8 101, .int .u8 99, .int .u8 111, .int .u8 114, .int .u8 100] 5 (14, 15)))) := Lib.hid (New.al (New.refl _) _)
      have HRL : Hid (Rd (fun _ => True) (w9.alloc (.cells #[.int .u8 101, .int .u8 110, .int .u8 116, .int .u8 114, .int .u8 117, .int .u8 115, .int .u8 116, .int .u8 32, .int .u8 114, .int .u8 101, .int .u8 99, .int .u8 111, .int .u8 114, .int .u8 100] 5 (14, 15))) 1 (some ⟨w9.heap.size, 0, none⟩) 14 (u8s wordL)) := Lib.hid (rd_cells (World.alloc_heap_new w9 _) rfl rfl)
      go_wp2_with (first
        | ((with_reducible refine atOp ⟨some 50, _, _, _, _, _⟩ ?_); refine wpList_app_full elB _ rfl (.tmp 48) (.tmp 49) rfl w9.heap.size (some ⟨w9.heap.size, 0, none⟩) 14 (u8s wordL) rfl HRL.out (by decide) A 64 d (u8s (fstL n r)) rfl (HNL.out.rd (Rd.own HO649.out rfl)) (by decide) (by decide) (by decide) (by simp) ?_; intro Aa da wa hOa hNa; have HOa : Hid (wa.ownsRow w9.heap.size 5 1 (.slice Aa (14 + 64) da) (14 + 64) (u8s (wordL ++ fstL n r))) := Lib.hid (by unfold u8s; rw [List.map_append]; exact hOa); have HNa : Hid (New w9 wa) := Lib.hid (HNL.out.tr hNa); clear hOa hNa)
        | ((with_reducible refine atOp ⟨some 52, _, _, _, _, _⟩ ?_); refine wpList_app elB _ rfl (.tmp 50) (.tmp 51) rfl w9.heap.size (.slice Aa (14 + 64) da) (14 + 64) (u8s (wordL ++ fstL n r)) rfl HOa.out A9 24 d9 (u8s (sndL n r)) rfl (HNa.out.rd (Rd.own HO9.out rfl)) (u8s_one _) (by decide) (by decide) HNa.out.size ?_; intro Ab db wb hOb hFb hAb; have HOb : Hid (wb.ownsRow w9.heap.size 5 1 (.slice Ab 102 db) 102 (u8s (wordL ++ (fstL n r ++ sndL n r)))) := Lib.hid (by rw [← List.append_assoc]; unfold u8s; rw [List.map_append]; exact hOb); have HNb : Hid (New w9 wb) := Lib.hid (HNa.out.fr hFb (fun y hy => (own_lt HOa.out y hy).1)); clear hOb hFb hAb))
      clear kc
      have HBW : Hid (Byt (wordL ++ (fstL n r ++ sndL n r))) := Lib.hid (fun x hx => by
        rcases List.mem_append.1 hx with h | h
        · exact wordL_byt x h
        · rcases List.mem_append.1 h with h | h
          · exact fstL_byt HR.out.byt x h
          · exact sndL_byt n r x h)
      refine (rsum_any Ab 102 db _ wb (((((HL.out.new HNw.out).new HN.out).new HN9.out).new HNb.out)) (Rd.own HOb.out rfl) HBW.out (by omega)).mono ?_
      rintro e wc ⟨rfl, hNc⟩
      have HTL : Hid (recH n r = (hsh (wordL ++ (fstL n r ++ sndL n r))).take 16) := Lib.hid rfl
      obtain ⟨HS, hHS⟩ : ∃ HS, HS = hsh (wordL ++ (fstL n r ++ sndL n r)) := ⟨_, rfl⟩
      rw [← hHS] at HTL ⊢
      have HS32 : Hid (HS.length = 32) := Lib.hid (by rw [hHS]; exact hsh_len _)
      have HNc : Hid (New w9 wc) := Lib.hid (HNb.out.tr hNc)
      clear hNc hHS HOa HNa HOb HNb HNL HRL HBW
      go_upto_region 10 with ((with_reducible refine atOp ⟨some 9, .alloc _, _, _, _, _⟩ ?_); refine wpList_newvar (s := HS) rfl rfl rfl _ _ rfl hashInfoR rfl rfl rfl HS32.out ?_)
      go_upto_region 11 with ((with_reducible refine atOp ⟨some 10, .alloc _, _, _, _, _⟩ ?_); refine wpList_alloc_row rfl rfl twoInfo ?_; intro b10 wd hb hB hN; have HB10 := Lib.hid hB; have HNd := Lib.hid hN; have HZ10 := Lib.hid hb; clear hb hB hN)
      have HB9 : Hid (Blk wd wc.heap.size 43 (secA HS)) := Lib.hid (HNd.out.blk (Blk.new _ _ _))
      have HN9d : Hid (New w9 wd) := Lib.hid ((HNc.out.tr (New.al (New.refl _) _)).tr HNd.out)
      have HLT : Hid (wc.heap.size < b10) := Lib.hid (by have := HZ10.out; simp at this; omega)
      obtain ⟨b9, hb9⟩ : ∃ b9, b9 = wc.heap.size := ⟨_, rfl⟩
      rw [← hb9] at HB9 HLT
      rw [← hb9]
      have HLT2 : Hid (w9.heap.size ≤ b9) := Lib.hid (by rw [hb9]; exact HNc.out.size)
      clear hb9 HNd HZ10 HNc
      obtain ⟨ZR, hZR⟩ : ∃ ZR : List Int, ZR = List.replicate 128 0 := ⟨_, rfl⟩
      have HZR := Lib.hid hZR
      rw [← hZR] at HB10
      have HZL : Hid ((u8s ZR).length = 128) := Lib.hid (by rw [u8s_len, hZR, List.length_replicate])
      have HB10' : Hid (Blk wd b10 97 (u8s ZR).toArray) := HB10
      have HF64 : Hid ((u8s (fstL n r)).length = 64) := Lib.hid (by rw [u8s_len, fstL_len HR.out.len])
      have HO64d : Hid (wd.ownsRow w1.heap.size 5 1 (.slice A 64 d) 64 (u8s (fstL n r))) := Lib.hid (HN9d.out.own HO649.out)
      clear hZR HB10
      go_upto_region 12 with ((with_reducible refine atOp ⟨some 57, _, _, _, _, _⟩ ?_); refine wpList_copyF (q := fun k => (Value.slice A 64 d).ownBlock = some k) rfl (.tmp 55) (.tmp 56) 96 96 rfl 5 Tryd.underlying96 rfl b10 0 64 64 A 64 d rfl rfl (u8s ZR) 97 HB10'.out (u8s (fstL n r)) (by rw [HF64.out]; rfl) ⟨64, u8s (fstL n r), Rd.own HO64d.out rfl, List.take_length⟩ (by rw [HF64.out, HZL.out]; decide) (u8s_one _) ?_; intro we hbe hfe; have HBe := Lib.hid hbe; have HFe := Lib.hid hfe; clear hbe hfe)
      obtain ⟨S1, hS1⟩ : ∃ S1, S1 = splice (u8s ZR) 0 (u8s (fstL n r)) := ⟨_, rfl⟩
      have HS1 := Lib.hid hS1
      rw [← hS1] at HBe
      have HS1L : Hid (S1.length = 128) := Lib.hid (by rw [hS1]; unfold splice; simp [HF64.out, HZL.out])
      have HNe : Hid (∀ k, k < w9.heap.size → we.heap[k]? = wd.heap[k]?) := Lib.hid (fun k hk => HFe.out.block k (by have := HN9d.out.size; omega) (by have := HLT2.out; have := HLT.out; omega))
      have HO9e : Hid (we.ownsRow wr.heap.size 5 1 (.slice A9 24 d9) 24 (u8s (sndL n r))) := Lib.hid (own_fr (HN9d.out.own HO9.out) HFe.out (fun y hy e => by have h1 := own_lt HO9.out y hy; have := HLT2.out; have := HLT.out; omega))
      have HR9e : Hid (Rd (fun _ => True) we 1 (some ⟨b9, 0, none⟩) 16 (u8s (HS.take 16))) := Lib.hid (by
        have hB : Blk we b9 43 (secA HS) := HB9.out.fr HFe.out (by have := HLT.out; omega)
        have h := Rd.ofBlk (p := fun _ => True) hB 1 32 (by rw [secA_size, HS32.out]) trivial
        rw [secA_list] at h
        exact Rd.take h (by omega))
      have H16 : Hid ((HS.take 16).length = 16) := Lib.hid (by rw [List.length_take, HS32.out]; rfl)
      have HSL : Hid ((u8s (sndL n r ++ HS.take 16)).length = 40) := Lib.hid (by rw [u8s_len, List.length_append, sndL_len, H16.out])
      have HSP : Hid ((splice S1 64 (u8s (sndL n r ++ HS.take 16))).toArray = secA (putL n r)) := Lib.hid (by
        have e1 : u8s ZR = u8s (List.replicate 64 0) ++ u8s (List.replicate 64 0) := by rw [HZR.out]; unfold u8s; rw [← List.map_append, List.replicate_append_replicate]
        have e3 : u8s (List.replicate 64 (0 : Int)) = u8s (List.replicate 40 0) ++ u8s (List.replicate 24 0) := by unfold u8s; rw [← List.map_append, List.replicate_append_replicate]
        rw [HS1.out, e1, splice_fst (by rw [u8s_len, HF64.out, List.length_replicate])]
        have e2 := splice_app (a := u8s (fstL n r)) (b := u8s (List.replicate 64 0)) (ys := u8s (sndL n r ++ HS.take 16)) (o := 64) (k := 0) HF64.out
        rw [Nat.add_zero] at e2
        rw [e2, e3, splice_fst (by rw [HSL.out, u8s_len, List.length_replicate])]
        unfold secA putL
        rw [HTL.out]
        unfold u8s
        simp)
      have HPZ : Hid ((secA (putL n r)).size = 128) := Lib.hid (by rw [secA_size, putL_len HR.out.len])
      refine wp_region_mixH (fun _ => True) [(true, 0), (true, 1), (true, 2), (true, 3), (false, 4), (false, 5)] (by kernel_rfl) (by kernel_rfl) trivial (fun hne => ?_)
      iterate 4 (refine mix_take (o := ⟨_, _, _, _, _, _⟩) rfl (fun K hK => ?_); go_simp; refine hK _ ?_; clear hK K)
      refine mix_app (o := ⟨_, _, _, _, _, _⟩) elB we.drew rfl rfl (.tmp 60) (.tmp 61) rfl wr.heap.size (.slice A9 24 d9) 24 (u8s (sndL n r)) rfl ((New.dr (New.refl we)).own HO9e.out) (some ⟨b9, 0, none⟩) 16 _ (u8s (HS.take 16)) rfl ((New.dr (New.refl we)).rd HR9e.out) (u8s_one _) (by decide) (by decide) (by have h1 := HN9.out.size; have h2 := HN9d.out.size; have h3 := HFe.out.size; show _ ≤ we.heap.size; omega) ?_
      intro Af df wf hOf hFf hAf
      have hff := Fr.ofDrew hFf
      have HOf : Hid (wf.ownsRow wr.heap.size 5 1 (.slice Af 40 df) 40 (u8s (sndL n r ++ HS.take 16))) := Lib.hid (by unfold u8s; rw [List.map_append]; exact hOf)
      have HFf := Lib.hid hff
      have HBf : Hid (Blk wf b10 97 S1.toArray) := Lib.hid (HBe.out.fr hff (fun h => by have h1 := own_lt HO9.out _ h; have := HLT2.out; have := HLT.out; omega))
      clear hOf hFf hAf hff
      refine ⟨fun _ => trivial, ?_⟩
      refine mix_copyF (o := ⟨_, _, _, _, _, _⟩) (q := fun k => (Value.slice Af 40 df).ownBlock = some k) rfl rfl (.tmp 59) (.tmp 62) 96 96 rfl 5 Tryd.underlying96 rfl b10 64 64 64 Af 40 df rfl rfl S1 97 HBf.out (u8s (sndL n r ++ HS.take 16)) (by rw [HSL.out]; rfl) ⟨40, u8s (sndL n r ++ HS.take 16), Rd.own HOf.out rfl, List.take_length⟩ (by rw [HSL.out, HS1L.out]; decide) (u8s_one _) ?_
      intro wg hbg hfg
      rw [HSP.out] at hbg
      have HBg := Lib.hid hbg
      have HFg := Lib.hid hfg
      clear hbg hfg
      refine ⟨fun _ => trivial, ?_⟩
      refine mix_done ?_
      have HB4d : Hid (Blk wd b4 97 (secA (List.replicate 128 0))) := Lib.hid (HN9d.out.blk (HN9.out.blk HB3.out.2))
      have HB4g : Hid (Blk wg b4 97 (secA (List.replicate 128 0))) := Lib.hid (by
        have h0 := HB3.out.2.lt
        have h1 : b4 ≠ b10 := by have := HLT2.out; have := HLT.out; have := HN9.out.size; omega
        exact ((HB4d.out.fr HFe.out h1).fr HFf.out (fun h => by have h2 := own_lt HO9.out _ h; omega)).fr HFg.out h1)
      have HNg : Hid (New w wg) := Lib.hid (by
        have h0 := HNw.out.size
        have h1 := HN.out.size
        have h2 := HN9.out.size
        have h3 := HLT2.out
        have h4 := HLT.out
        exact ((((((HNw.out.tr HN.out).tr HN9.out).tr HN9d.out).fr HFe.out (fun k hk => by omega)).fr HFf.out (fun k hk => by have := own_lt HO9.out _ hk; omega)).fr HFg.out (fun k hk => by omega)))
      go_wp2_with (first
        | ((with_reducible refine atOp ⟨some 64, .load _ _, _, _, _, _⟩ ?_); refine wpList_load_any rfl _ rfl Tryd.underlying97 rfl (by rw [HPZ.out]; rfl) rfl HBg.out ?_)
        | ((with_reducible refine atOp ⟨none, .store 97 (.tmp 4) _, _, _, _, _⟩ ?_); refine wpList_store_any rfl (.tmp 4) (.tmp 64) rfl (by rw [HPZ.out]; rfl) rfl rfl HB4g.out (by rw [HPZ.out, secA_size, List.length_replicate]) (secA_one _) ?_; intro wh hbh hfh; have HBh := Lib.hid hbh; have HFh := Lib.hid hfh; clear hbh hfh))
      exact bodyPost_ret (results_rowH rfl _ _ b4 _ _ rfl HBh.out Tryd.underlying97 rfl (by rw [HPZ.out]; rfl)) rfl ⟨rfl, HNg.out.fr HFh.out (fun k hk => by have := HZ.out; omega)⟩
end Go.Proofs.YtdojmjglnlkmoaaDoor
