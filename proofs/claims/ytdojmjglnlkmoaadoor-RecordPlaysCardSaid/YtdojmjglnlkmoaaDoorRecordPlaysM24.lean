/- Texts of one proof, one behind the other: RcQ, RcM, RcN, ShL. No condition but each one's own. -/
import Derived.Test.YtdojmjglnlkmoaaDoorRecordPlaysM18
import Derived.Laws.StructEq
import Derived.Test.YtdojmjglnlkmoaaDoorRecordPlaysM20
import Derived.Test.YtdojmjglnlkmoaaDoorRows
import Derived.Test.YtdojmjglnlkmoaaDoorRecordPlaysM8
import Derived.Test.YtdojmjglnlkmoaaDoorRecordPlaysM11
import Derived.Test.YtdojmjglnlkmoaaDoorRecordPlaysM23
import Derived.SevenTiedAt
import Derived.Stop.Joined
/- Two records compared. No condition. -/
namespace Go.Proofs.YtdojmjglnlkmoaaDoor
set_option linter.unusedVariables false
set_option linter.unusedSimpArgs false
set_option linter.constructorNameAsVariable false
open Go.RowKit Go.Sort

instance : DecidableEq Rc := fun r s => decidable_of_iff (r.root = s.root ∧ r.blocks = s.blocks ∧ r.epoch = s.epoch ∧ r.since = s.since ∧ r.limit = s.limit ∧ r.session = s.session) (by cases r; cases s; simp)
theorem eq_step {P : Program} {d : Nat} {xs ys : Array Value} {f : Field} {fs : List Field} {w : World} {a b : Value} {r s : Bool} (hn : f.name ≠ "_") (ha : (part f.type xs f.offset).run P w = .ok a w) (hb : (part f.type ys f.offset).run P w = .ok b w)
    (hr : (Op.equalIn d f.type a b).run P w = .ok r w) (hs : (Op.eqFields d xs ys fs).run P w = .ok s w) : (Op.eqFields d xs ys (f :: fs)).run P w = .ok (r && s) w := by
  simp only [Op.eqFields, if_pos hn, Sem.run_bind, ha, hb, hr, Result.andThen_ok, Sem.run_ite]
  cases r
  · simp
  · simpa using hs
theorem part_cell {t : TypeId} {cs : Array Value} {off : Nat} {v : Value} {w : World} (hk : ∀ w, (isAgg t).run Tryd.prog w = .ok false w) (h : cs[off]? = some v) : (part t cs off).run Tryd.prog w = .ok v w := by
  unfold part
  simp [Sem.run_bind, hk, h]
theorem part_root {r : Rc} (h : r.root.length = 32) (w : World) : (part 43 r.cells 0).run Tryd.prog w = .ok (.agg (secA r.root)) w := by
  have h1 : (isAgg 43).run Tryd.prog w = .ok true w := by
    simp [isAgg, run_underlying Tryd.underlying43]
  have h2 : (sizeOf 43).run Tryd.prog w = .ok 32 w := by
    have := hashInfoR
    cases hq : Tryd.prog.info? 43 with
    | none => rw [hq] at this; cases this
    | some i => rw [hq] at this; simp only [Option.map_some, Option.some.injEq, Prod.mk.injEq] at this; simp [sizeOf, typeInfo, hq, this.2]
  have e : r.cells.extract 0 32 = secA r.root := by
    have hu : (u8s r.root).length = 32 := by rw [u8s_len, h]
    unfold Rc.cells secA
    rw [List.extract_toArray, List.extract_eq_take_drop]
    simp only [Nat.sub_zero, List.drop_zero]
    rw [List.take_append_of_le_length (by omega), List.take_of_length_le (by omega)]
  unfold part
  simp [Sem.run_bind, h1, h2, e]
theorem rc_eq (r s : Rc) : (decide (r.root = s.root) && (((r.blocks : Int) == s.blocks) && (((r.epoch : Int) == s.epoch) && (((r.since : Int) == s.since) && (((r.limit : Int) == s.limit) && (((r.session : Int) == s.session) && true)))))) = decide (r = s) := by
  rw [Bool.eq_iff_iff]
  simp only [Bool.and_eq_true, decide_eq_true_eq, beq_iff_eq, Bool.and_true]
  constructor
  · rintro ⟨h1, h2, h3, h4, h5, h6⟩
    cases r; cases s
    simp only at h1 h2 h3 h4 h5 h6
    simp only [Rc.mk.injEq]
    exact ⟨h1, by omega, by omega, by omega, by omega, by omega⟩
  · rintro rfl; simp
theorem equalIn_rc {T : TypeId} (ht : Tryd.prog.underlying T = some (.struct (Tryd.prog.fieldsOf T))) (hp : Tryd.prog.stoodInHeld T = false) (hf : (Tryd.prog.fieldsOf T).toList.map (fun f => (f.name, f.type, f.offset)) = [("Root", 43, 0), ("Blocks", 41, 32), ("Epoch", 41, 33), ("Since", 41, 34), ("Limit", 41, 35), ("Session", 41, 36)]) {r s : Rc} (hr : r.Ok) (hs : s.Ok) (w : World) :
    (Op.equalIn 10000 T (.agg r.cells) (.agg s.cells)).run Tryd.prog w = .ok (decide (r = s)) w := by
  rw [show (10000 : Nat) = 9999 + 1 from rfl, run_equalIn_struct w 9999 T r.cells s.cells ht hp]
  generalize (Tryd.prog.fieldsOf T).toList = l at hf
  have hn : ∀ w, (isAgg 41).run Tryd.prog w = .ok false w := fun w => by simp [isAgg, run_underlying Tryd.underlying41]
  have hz : ∀ w, (sizeOf 5).run Tryd.prog w = .ok 1 w := fun w => (by first | exact Tryd.sizeOf5 w | kernel_rfl)
  have hroot := run_equalIn_sec (P := Tryd.prog) 9997 Tryd.underlying43 Tryd.underlying5 hz hr.len hs.len hr.byt hs.byt w
  rw [← rc_eq]
  obtain ⟨f0, l, rfl, e0, hf⟩ := List.map_eq_cons_iff.1 hf
  obtain ⟨f1, l, rfl, e1, hf⟩ := List.map_eq_cons_iff.1 hf
  obtain ⟨f2, l, rfl, e2, hf⟩ := List.map_eq_cons_iff.1 hf
  obtain ⟨f3, l, rfl, e3, hf⟩ := List.map_eq_cons_iff.1 hf
  obtain ⟨f4, l, rfl, e4, hf⟩ := List.map_eq_cons_iff.1 hf
  obtain ⟨f5, l, rfl, e5, hf⟩ := List.map_eq_cons_iff.1 hf
  obtain rfl := List.map_eq_nil_iff.1 hf
  simp only [Prod.mk.injEq] at e0 e1 e2 e3 e4 e5
  have nm : ∀ {f : Field} {n : String}, f.name = n → n ≠ "_" → f.name ≠ "_" := fun h1 h2 h3 => h2 (h1.symm.trans h3)
  have num : ∀ {f : Field} {i : Nat} {x y : Int} {w : World} {rest : List Field} {b : Bool}, f.name ≠ "_" → f.type = 41 → f.offset = 32 + i → r.cells[32 + i]? = some (.int .u64 x) → s.cells[32 + i]? = some (.int .u64 y) → (Op.eqFields 9999 r.cells s.cells rest).run Tryd.prog w = .ok b w →
      (Op.eqFields 9999 r.cells s.cells (f :: rest)).run Tryd.prog w = .ok ((x == y) && b) w := fun h1 h2 h3 h4 h5 h6 =>
    eq_step h1 (by rw [h2, h3]; exact part_cell hn h4) (by rw [h2, h3]; exact part_cell hn h5) (by rw [h2]; exact run_equalIn_int _ 9998 41 .u64 .u64 _ _ Tryd.underlying41) h6
  refine eq_step (nm e0.1 (by decide)) (by rw [e0.2.1, e0.2.2]; exact part_root hr.len w) (by rw [e0.2.1, e0.2.2]; exact part_root hs.len w) (by rw [e0.2.1]; exact hroot) ?_
  refine num (i := 0) (nm e1.1 (by decide)) e1.2.1 e1.2.2 (Rc.at hr.len 0) (Rc.at hs.len 0) ?_
  refine num (i := 1) (nm e2.1 (by decide)) e2.2.1 e2.2.2 (Rc.at hr.len 1) (Rc.at hs.len 1) ?_
  refine num (i := 2) (nm e3.1 (by decide)) e3.2.1 e3.2.2 (Rc.at hr.len 2) (Rc.at hs.len 2) ?_
  refine num (i := 3) (nm e4.1 (by decide)) e4.2.1 e4.2.2 (Rc.at hr.len 3) (Rc.at hs.len 3) ?_
  refine num (i := 4) (nm e5.1 (by decide)) e5.2.1 e5.2.2 (Rc.at hr.len 4) (Rc.at hs.len 4) ?_
  simp [Op.eqFields]
set_option maxRecDepth 100000
theorem eql_rec {r s : Rc} (hr : r.Ok) (hs : s.Ok) (w : World) : (binOp .eql 48 (.agg r.cells) (.agg s.cells)).run Tryd.prog w = .ok (.bool (decide (r = s))) w := by
  rw [run_eql_struct, equalIn_rc Tryd.underlying48 (by kernel_rfl) (by kernel_rfl) hr hs w]
  rfl
theorem neq_ref {r s : Rc} (hr : r.Ok) (hs : s.Ok) (w : World) : (binOp .neq 45 (.agg r.cells) (.agg s.cells)).run Tryd.prog w = .ok (.bool (!decide (r = s))) w := by
  rw [run_neq_struct, equalIn_rc Tryd.underlying45 (by kernel_rfl) (by kernel_rfl) hr hs w]
  rfl
end Go.Proofs.YtdojmjglnlkmoaaDoor
/- A keeper on a disk of a function's own, as one fact. sha's tables are as they were laid. No condition else. -/
namespace Go.Proofs.YtdojmjglnlkmoaaDoor
set_option linter.unusedVariables false
set_option linter.unusedSimpArgs false
set_option linter.constructorNameAsVariable false
open Go.RowKit Go.Sort

/-- What a disk and its keeper leave alone. -/
def Kpt (w w' : World) : Prop := ∀ b t cs, Blk w b t cs → t ≠ 90 → t ≠ 83 → t ≠ 3 → Blk w' b t cs
theorem Kpt.refl (w : World) : Kpt w w := fun _ _ _ h _ _ _ => h
theorem Kpt.tr {w w' w'' : World} (h : Kpt w w') (k : Kpt w' w'') : Kpt w w'' := fun b t cs hb h1 h2 h3 => k b t cs (h b t cs hb h1 h2 h3) h1 h2 h3
theorem Kpt.new {w w' : World} (h : New w w') : Kpt w w' := fun _ _ _ hb _ _ _ => h.blk hb
theorem Kpt.dk {w w' : World} {base g bs bf : Nat} {v : Value} {p : DP} (h : Dk w base g bs bf v p) (hF : Fr (DkOurs g bs bf v) w w') : Kpt w w' := fun b t cs hb _ h2 h3 =>
  hb.fr hF (dk_notBlk h hb (fun e => Blk.ne_ hb h.blk (fun e => h2 e) e) h3)
def Dsk (W w : World) (gd : Nat) (p : DP) : Prop := ∃ bs bf v, Dk w W.heap.size gd bs bf v p ∧ New W w
def Kpr (W w : World) (gd gk : Nat) (p : DP) (k : KR) : Prop := ∃ bs bf v, Dk w W.heap.size gd bs bf v p ∧ Kp w gk gd k ∧ W.heap.size ≤ gk ∧ New W w
section
variable {W w w' : World} {gd gk : Nat} {p : DP} {k : KR}
theorem Dsk.new (h : Dsk W w gd p) (hN : New w w') : Dsk W w' gd p := by obtain ⟨bs, bf, v, h1, h2⟩ := h; exact ⟨bs, bf, v, h1.new hN, h2.tr hN⟩
theorem Kpr.new (h : Kpr W w gd gk p k) (hN : New w w') : Kpr W w' gd gk p k := by obtain ⟨bs, bf, v, h1, h2, h3, h4⟩ := h; exact ⟨bs, bf, v, h1.new hN, h2.new hN, h3, h4.tr hN⟩
theorem Kpr.dsk (h : Kpr W w gd gk p k) : Dsk W w gd p := by obtain ⟨bs, bf, v, h1, h2, h3, h4⟩ := h; exact ⟨bs, bf, v, h1, h4⟩
theorem Kpr.kp (h : Kpr W w gd gk p k) : Kp w gk gd k := by obtain ⟨bs, bf, v, h1, h2, h3, h4⟩ := h; exact h2
theorem Kpr.nw (h : Kpr W w gd gk p k) : New W w := by obtain ⟨bs, bf, v, h1, h2, h3, h4⟩ := h; exact h4
theorem Dsk.nw (h : Dsk W w gd p) : New W w := by obtain ⟨bs, bf, v, h1, h2⟩ := h; exact h2
theorem Dsk.ok (h : Dsk W w gd p) : p.Ok := by obtain ⟨bs, bf, v, h1, h2⟩ := h; exact h1.ok
theorem dnew_d (hN : New W w) (n : Nat) (h1 : 1 ≤ n) (h2 : n ≤ 16384) : Calls Tryd.prog 8 #[.int .i64 n] w fun e w' => ∃ g, e = .returned (.tuple #[.pointer (some ⟨g, 0, none⟩), .nilIface]) ∧ Dsk W w' g (DP.new n) ∧ New w w' :=
  (new_ok n w W.heap.size hN.size h1 h2).mono fun e w' ⟨he, hD, hN'⟩ => ⟨_, he, ⟨_, _, _, hD, hN.tr hN'⟩, hN'⟩
theorem kopen_d (h : Dsk W w gd p) (hL : ShaIn 3 2 W) (hp : 4 ≤ p.size) : Calls Tryd.prog 12 #[.pointer (some ⟨gd, 0, none⟩)] w fun e w' => ∃ b, e = .returned (.tuple #[.pointer (some ⟨b, 0, none⟩), .nilIface]) ∧ Kpr W w' gd b p (openP p) ∧ New w w' := by
  obtain ⟨bs, bf, v, h1, h2⟩ := h
  exact (kopen_in h1 (hL.new h2) hp).mono fun e w' ⟨b, he, hK, hN, hb⟩ => ⟨b, he, ⟨bs, bf, v, h1.new hN, hK, by have := h2.size; omega, h2.tr hN⟩, hN⟩
theorem ksave_d (h : Kpr W w gd gk p k) (hL : ShaIn 3 2 W) (r : Rc) (hr : r.Ok) : Calls Tryd.prog 17 #[.pointer (some ⟨gk, 0, none⟩), .agg r.cells] w fun e w' => e = .returned (errD (saveP p k r).2.2) ∧ Kpr W w' gd gk (saveP p k r).1 (saveP p k r).2.1 ∧ Kpt w w' := by
  obtain ⟨bs, bf, v, h1, h2, h3, h4⟩ := h
  refine (ksave_kp h2 h1 (hL.new h4) r hr).mono fun e w' ⟨he, v', hT⟩ => ⟨he, ⟨bs, bf, v', hT.dk, hT.kp, h3, ?_⟩, ?_⟩
  · refine h4.fr hT.fr (fun b hb => ?_)
    rcases hb with rfl | hb
    · exact h3
    · exact (h1.ours b hb).1
  · intro b t cs hb e1 e2 e3
    refine hb.fr hT.fr (fun ho => ?_)
    rcases ho with rfl | ho
    · exact Blk.ne_ hb h2.blk (fun e => e1 e) rfl
    · exact dk_notBlk h1 hb (fun e => Blk.ne_ hb h1.blk (fun e => e2 e) e) e3 ho
theorem dcut_d (h : Dsk W w gd p) {q : Nat → Prop} (A : Option Addr) (n c : Nat) (keep : List Bool) (hR : Rd q w 1 A n (bools keep)) (hn : n ≤ maxLen) (hq : ∀ bs bf v, Dk w W.heap.size gd bs bf v p → ∀ k, q k → k ≠ bs) :
    Calls Tryd.prog 25 #[.pointer (some ⟨gd, 0, none⟩), .slice A n c] w fun e w' => e = .returned (.tuple #[]) ∧ Dsk W w' gd (p.cut keep) ∧ Kpt w w' := by
  obtain ⟨bs, bf, v, h1, h2⟩ := h
  refine (cut_in h1 A n c keep hR hn (hq bs bf v h1)).mono fun e w' ⟨he, hD, hF⟩ => ⟨he, ⟨bs, bf, _, hD, h2.fr hF (fun b hb => ?_)⟩, ?_⟩
  · exact (h1.ours b (by rcases hb with h | h | h <;> simp [DkOurs, h])).1
  · exact Kpt.dk h1 (hF.mono (fun b _ hb => by rcases hb with h | h | h <;> simp [DkOurs, h]))
theorem dfuse_d (h : Kpr W w gd gk p k) (a : Int) (ha : (Lit.int .i64 a).wf = true) : Calls Tryd.prog 24 #[.pointer (some ⟨gd, 0, none⟩), .int .i64 a] w fun e w' => e = .returned (.tuple #[]) ∧ Kpr W w' gd gk (p.fused a) k ∧ Kpt w w' := by
  obtain ⟨bs, bf, v, h1, h2, h3, h4⟩ := h
  refine (fuse_in h1 ha).mono fun e w' ⟨he, hD, hF⟩ => ⟨he, ⟨bs, bf, v, hD, h2.fr hF (fun e => Blk.ne_ h2.blk h1.blk (by decide) e), h3, h4.fr hF (fun b hb => ?_)⟩, ?_⟩
  · rw [hb]; exact h1.lo.1
  · exact Kpt.dk h1 (hF.mono (fun b _ hb => .inl hb))
end
end Go.Proofs.YtdojmjglnlkmoaaDoor
/- The chapter's example. sha's tables are as they were laid. No condition else. -/
namespace Go.Proofs.YtdojmjglnlkmoaaDoor
set_option linter.unusedVariables false
set_option linter.unusedSimpArgs false
set_option linter.constructorNameAsVariable false
open Go.RowKit Go.Sort

set_option maxHeartbeats 2000000
set_option maxRecDepth 100000
theorem alive_any (W : World) (hL : ShaIn 3 2 W) : Calls Tryd.prog 7 #[] W fun e w' => e = .returned (.bool true) ∧ New W w' := by
  have HL := Lib.hid hL
  have HF : Hid ((fstR 3).Ok ∧ (fstR 3).Right) := Lib.hid ⟨fstR_ok (by omega), fstR_right (by omega) (by omega)⟩
  have hst := (Kst.new (n := 4) (by omega) (by omega))
  have ho := hst.toKop.opens
  have hsv := hst.save (show (-1 : Int) ≠ 0 ∧ (-1 : Int) ≠ 1 by omega) HF.out.1 (by show 0 < _; omega)
  rw [if_pos HF.out.2] at hsv
  obtain ⟨s1, s2, s3, -⟩ := hsv
  have HO := Lib.hid ho
  have HSV : Hid ((saveP (DP.new 4) KR.new (fstR 3)).2.2 = 0 ∧ (saveP (DP.new 4) KR.new (fstR 3)).2.1 = ⟨1, fstR 3, false⟩ ∧ Kst (saveP (DP.new 4) KR.new (fstR 3)).1 ⟨1, fstR 3, false⟩) := Lib.hid ⟨s1, s2, s3⟩
  have HSZ : Hid ((fstR 3).cells.size = 37) := Lib.hid (Rc.size HF.out.1.len)
  obtain ⟨r, hr⟩ : ∃ r, r = fstR 3 := ⟨_, rfl⟩
  have HR := Lib.hid hr
  rw [← hr] at HF HSV HSZ
  obtain ⟨p1, hp1⟩ : ∃ p1, p1 = (saveP (DP.new 4) KR.new r).1 := ⟨_, rfl⟩
  have HP1 := Lib.hid hp1
  rw [← hp1] at HSV
  clear hL hst ho s1 s2 s3 hr hp1
  go_enter Tryd.func7, Tryd.ntmps7
  go_wp2_with fail
  refine (dnew_d (New.refl W) 4 (by omega) (by omega)).mono ?_
  rintro e w1 ⟨gd, rfl, hD, hN⟩
  have HD := Lib.hid hD
  clear hD hN
  go_wp2_with fail
  refine (first_ok 3 w1 (HL.out.new HD.out.nw) (by omega) (by omega)).mono ?_
  rintro e w2 ⟨rfl, hN2⟩
  rw [← HR.out]
  have HD2 : Hid (Dsk W w2 gd (DP.new 4)) := Lib.hid (HD.out.new hN2)
  obtain ⟨RC, hRC⟩ : ∃ RC, RC = r.cells := ⟨_, rfl⟩
  have HRC := Lib.hid hRC
  rw [← hRC] at HSZ ⊢
  have HONE : Hid (RC.all (·.oneCell') = true) := Lib.hid (by rw [hRC]; exact Rc.one r)
  clear hN2 HD hRC
  go_upto_region 5 with ((with_reducible refine atOp ⟨some 3, .alloc _, _, _, _, _⟩ ?_); refine wpList_newrow rfl rfl rfl _ _ rfl recInfo (by rfl) rfl rfl HSZ.out HONE.out ?_)
  obtain ⟨w3, hw3⟩ : ∃ w3 : World, w3 = w2.alloc (.cells RC 48) := ⟨_, rfl⟩
  obtain ⟨b3, hb3⟩ : ∃ b3, b3 = w2.heap.size := ⟨_, rfl⟩
  have hN3 : New w2 w3 := by rw [hw3]; exact New.al (New.refl _) _
  have HD3 : Hid (Dsk W w3 gd (DP.new 4)) := Lib.hid (HD2.out.new hN3)
  have HB3 : Hid (Blk w3 b3 48 RC) := Lib.hid (by rw [hw3, hb3]; exact Blk.new _ _ _)
  rw [← hw3, ← hb3]
  clear hw3 hb3 hN3 HD2
  go_wp2_with fail
  refine (kopen_d HD3.out HL.out (by show 4 ≤ 4; omega)).mono ?_
  rintro e w4 ⟨gk, rfl, hK, hN4⟩
  rw [HO.out] at hK
  have HK := Lib.hid hK
  have HB4 : Hid (Blk w4 b3 48 RC) := Lib.hid (hN4.blk HB3.out)
  clear hK hN4 HB3 HD3
  go_wp2_with ((with_reducible refine atOp ⟨some 31, .load _ _, _, _, _, _⟩ ?_); refine wpList_load_any rfl _ rfl Tryd.underlying48 rfl (by rw [HSZ.out]; rfl) rfl HB4.out ?_)
  rw [HRC.out]
  refine (ksave_d HK.out HL.out r HF.out.1).mono ?_
  rintro e w5 ⟨rfl, hK, hT⟩
  rw [HSV.out.1, errD_0]
  rw [HSV.out.2.1, ← HP1.out] at hK
  have HK5 := Lib.hid hK
  have HB5 : Hid (Blk w5 b3 48 RC) := Lib.hid (hT _ _ _ HB4.out (by decide) (by decide) (by decide))
  have HEQ : Hid (∀ W, (binOp .eql 48 (.agg RC) (.agg RC)).run Tryd.prog W = .ok (.bool true) W) := Lib.hid (fun W => by
    have h := eql_rec HF.out.1 HF.out.1 W
    rw [← HRC.out] at h
    simpa using h)
  clear hK hT HK HB4
  rw [← HRC.out]
  go_wp2_with fail
  refine (dcut_d HK5.out.dsk (q := fun _ => False) none 0 0 [] Rd.nil (by unfold maxLen; omega) (fun _ _ _ _ _ h => h.elim)).mono ?_
  rintro e w6 ⟨rfl, hD, hT⟩
  have HD6 := Lib.hid hD
  have HB6 : Hid (Blk w6 b3 48 RC) := Lib.hid (hT _ _ _ HB5.out (by decide) (by decide) (by decide))
  have HO6 : Hid (openP (p1.cut []) = ⟨1, r, false⟩ ∧ 4 ≤ (p1.cut []).size) := Lib.hid (by
    have hs := HSV.out.2.2
    have hg : ∀ x, (p1.cut []).get x = p1.get x := fun x => cut_clean hs.clean hs.fresh [] x
    exact ⟨(hs.toKop.of_slots (slot_all 0 hg rfl) (slot_all 1 hg rfl)).opens, hs.sz⟩)
  clear hD hT HB5 HK5
  go_wp2_with fail
  refine (kopen_d HD6.out HL.out HO6.out.2).mono ?_
  rintro e w7 ⟨gk2, rfl, hK, hN7⟩
  rw [HO6.out.1] at hK
  have HK7 := Lib.hid hK
  have HB7 : Hid (Blk w7 b3 48 RC) := Lib.hid (hN7.blk HB6.out)
  clear hK hN7 HB6 HD6
  go_wp2_with fail
  refine (kget_kp HK7.out.kp).mono ?_
  rintro e w8 ⟨rfl, hN8⟩
  have HK8 : Hid (Kpr W w8 gd gk2 (p1.cut []) ⟨1, r, false⟩) := Lib.hid (HK7.out.new hN8)
  have HB8 : Hid (Blk w8 b3 48 RC) := Lib.hid (hN8.blk HB7.out)
  have hone : (.bool (decide (0 < (⟨1, r, false⟩ : KR).number)) : Value) = .bool true := by rfl
  rw [hone]
  clear hone
  have hnow : (⟨1, r, false⟩ : KR).now.cells = RC := HRC.out.symm
  rw [hnow]
  clear hnow hN8 HB7 HK7
  go_upto_region 13 with ((with_reducible refine atOp ⟨some 6, .alloc _, _, _, _, _⟩ ?_); refine wpList_newrow rfl rfl rfl _ _ rfl recInfo (by rfl) rfl rfl HSZ.out HONE.out ?_)
  obtain ⟨w9, hw9⟩ : ∃ w9 : World, w9 = w8.alloc (.cells RC 48) := ⟨_, rfl⟩
  obtain ⟨b6, hb6⟩ : ∃ b6, b6 = w8.heap.size := ⟨_, rfl⟩
  have hN9 : New w8 w9 := by rw [hw9]; exact New.al (New.refl _) _
  have HK9 : Hid (Kpr W w9 gd gk2 (p1.cut []) ⟨1, r, false⟩) := Lib.hid (HK8.out.new hN9)
  have HB9 : Hid (Blk w9 b3 48 RC) := Lib.hid (hN9.blk HB8.out)
  have HB6 : Hid (Blk w9 b6 48 RC) := Lib.hid (by rw [hw9, hb6]; exact Blk.new _ _ _)
  rw [← hw9, ← hb6]
  have heq := HEQ.out
  clear hw9 hb6 hN9 HK8 HB8
  go_wp2_with (first
    | ((with_reducible refine atOp ⟨some 51, .load _ _, _, _, _, _⟩ ?_); refine wpList_load_any rfl _ rfl Tryd.underlying48 rfl (by rw [HSZ.out]; rfl) rfl HB6.out ?_)
    | ((with_reducible refine atOp ⟨some 52, .load _ _, _, _, _, _⟩ ?_); refine wpList_load_any rfl _ rfl Tryd.underlying48 rfl (by rw [HSZ.out]; rfl) rfl HB9.out ?_))
  refine (number_kp HK9.out.kp).mono ?_
  rintro e w10 ⟨rfl, rfl⟩
  have hnum : (.int .u64 ((⟨1, r, false⟩ : KR).number : Nat) : Value) = .int .u64 1 := by rfl
  rw [hnum]
  go_wp2_with fail
  go_ret
  exact ⟨rfl, HK9.out.nw⟩
end Go.Proofs.YtdojmjglnlkmoaaDoor
/- sha's tables, out of the row's list of laid variables. No condition. -/
namespace Go.Proofs.YtdojmjglnlkmoaaDoor
set_option linter.unusedVariables false
set_option linter.unusedSimpArgs false
set_option linter.constructorNameAsVariable false
open Go.RowKit Go.Sort Go.ChangeShapes Go.WideShapes Go.ChangeAt

theorem laid_u32 {W : World} {n : String} {d : DataW Unit} {r : List (String × DataW Unit)} {ps : List MemPlace} {g t N : Nat} (L : List Int) (h : DataW.LaidVars Tryd.prog W ((n, d) :: r) ps) (hg : Tryd.prog.globalNamed n = some g) (ht : (Tryd.prog.globals[g]?).map (·.type) = some t) (hu : Tryd.prog.underlying t = some (.array N 137)) (hd : d = .agg (L.map fun x => .lit (.int .u32 x))) (hl : L.length = N) :
    (∀ j, j < N → W.cell? ⟨g, j, none⟩ = some (.int .u32 (at_ L j))) ∧ ∃ ps', DataW.LaidVars Tryd.prog W r ps' := by
  obtain ⟨g', t', cs, fuel, p, q, hg', ht', hv, hd', hr, _⟩ := h
  obtain rfl := Option.some.inj (hg.symm.trans hg')
  obtain rfl := Option.some.inj (ht.symm.trans ht')
  refine ⟨fun j hj => ?_, _, hr⟩
  obtain ⟨xs, m, _, ex, _, hxl, hel⟩ := DataW.trod_array hu hd'
  have c5 : Tryd.prog.cellsOf 137 = 1 := by kernel_rfl
  have hE := hel j hj
  rw [c5, Nat.mul_one, List.getElem?_eq_getElem (by omega)] at hE
  obtain ⟨z, e1, e2, _⟩ := DataW.trod_int Tryd.underlying137 hE
  have e3 : (xs.map (·.1)) = L.map fun n => .lit (.int .u32 n) := by
    have h0 := (Prod.mk.inj ex).1
    rw [hd] at h0
    exact (DataW.agg.inj h0).symm
  have e4 : (xs.map (·.1))[j]? = (L.map fun n => (DataW.lit (.int .u32 n) : DataW Unit))[j]? := by rw [e3]
  rw [List.getElem?_map, List.getElem?_map, List.getElem?_eq_getElem (by omega : j < xs.length), List.getElem?_eq_getElem (by omega : j < L.length), e2] at e4
  have hz : z = at_ L j := by
    simp only [Option.map_some, Option.some.injEq, DataW.lit.injEq, Lit.int.injEq, true_and] at e4
    unfold at_
    rw [e4, List.getD, List.getElem?_eq_getElem (by omega : j < L.length)]
    rfl
  rw [World.var?_cell hg hv j, ← hz]
  have : cs.toList[j]? = some (.int .u32 z) := by
    have h0 : ((cs.toList.drop j).take 1)[0]? = some (.int .u32 z) := by rw [e1]; rfl
    simpa using h0
  simpa using this
theorem range_iH {W : World} {g : Nat} (h : ∀ j, j < 8 → W.cell? ⟨g, j, none⟩ = some (.int .u32 (at_ iH.list j))) : W.rangeAt g 0 iH.arr.toList := fun j v hv => by
  have hj : j < 8 := by
    have := (List.getElem?_eq_some_iff.1 hv).1
    exact this
  rw [Nat.zero_add, h j hj, ← hv]
  rcases (by omega : j = 0 ∨ j = 1 ∨ j = 2 ∨ j = 3 ∨ j = 4 ∨ j = 5 ∨ j = 6 ∨ j = 7) with rfl | rfl | rfl | rfl | rfl | rfl | rfl | rfl <;> rfl
theorem sha_both {W : World} (h : laidMetH Tryd.prog [("entrust/entrustref02.Constants", Rows.laid_entrust_entrustref02_Constants), ("entrust/entrustref02.Initials", Rows.laid_entrust_entrustref02_Initials), ("entrust/sha.constants", Rows.laid_entrust_sha_constants), ("entrust/sha.initials", Rows.laid_entrust_sha_initials)] W) : RShaIn 1 0 W ∧ ShaIn 3 2 W := by
  rw [MakeChecks.laidMetH_plain _ _ _ (by kernel_rfl)] at h
  obtain ⟨ps, h, -, -⟩ := h
  obtain ⟨h1, ps1, h⟩ := laid_u32 kL h (by kernel_rfl) (by kernel_rfl) Tryd.underlying151 rfl rfl
  obtain ⟨h2, ps2, h⟩ := laid_u32 iH.list h (by kernel_rfl) (by kernel_rfl) Tryd.underlying138 rfl rfl
  obtain ⟨h3, ps3, h⟩ := laid_u32 kL h (by kernel_rfl) (by kernel_rfl) Tryd.underlying151 rfl rfl
  obtain ⟨h4, ps4, h⟩ := laid_u32 iH.list h (by kernel_rfl) (by kernel_rfl) Tryd.underlying138 rfl rfl
  exact ⟨⟨h1, range_iH h2⟩, ⟨h3, range_iH h4⟩⟩
theorem sha_live {W : World} (h : laidMetH Tryd.prog [("entrust/sha.constants", Rows.laid_entrust_sha_constants), ("entrust/sha.initials", Rows.laid_entrust_sha_initials)] W) : ShaIn 3 2 W := by
  rw [MakeChecks.laidMetH_plain _ _ _ (by kernel_rfl)] at h
  obtain ⟨ps, h, -, -⟩ := h
  obtain ⟨h3, ps3, h⟩ := laid_u32 kL h (by kernel_rfl) (by kernel_rfl) Tryd.underlying151 rfl rfl
  obtain ⟨h4, ps4, h⟩ := laid_u32 iH.list h (by kernel_rfl) (by kernel_rfl) Tryd.underlying138 rfl rfl
  exact ⟨h3, range_iH h4⟩
end Go.Proofs.YtdojmjglnlkmoaaDoor
