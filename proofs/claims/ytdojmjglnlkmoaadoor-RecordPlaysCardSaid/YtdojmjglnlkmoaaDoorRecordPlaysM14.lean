/- Texts of one proof, one behind the other: RcL, RcW, MxT, Join. No condition but each one's own. -/
import Derived.Test.YtdojmjglnlkmoaaDoorRecordPlaysM13
import Derived.Test.YtdojmjglnlkmoaaDoorRecordPlaysM3
import Derived.Test.YtdojmjglnlkmoaaDoorRecordPlaysM4
import Derived.Test.YtdojmjglnlkmoaaDoorRecordPlaysM7
/- A keeper's record; a record as the document's. No condition. -/
namespace Go.Proofs.YtdojmjglnlkmoaaDoor
set_option linter.unusedVariables false
set_option linter.unusedSimpArgs false
set_option linter.constructorNameAsVariable false
open Go.RowKit Go.Sort

theorem zero37 : (#[.int .u8 0, .int .u8 0, .int .u8 0, .int .u8 0, .int .u8 0, .int .u8 0, .int .u8 0, .int .u8 0, .int .u8 0, .int .u8 0, .int .u8 0, .int .u8 0, .int .u8 0, .int .u8 0, .int .u8 0, .int .u8 0, .int .u8 0, .int .u8 0, .int .u8 0, .int .u8 0, .int .u8 0, .int .u8 0, .int .u8 0, .int .u8 0, .int .u8 0, .int .u8 0, .int .u8 0, .int .u8 0, .int .u8 0, .int .u8 0, .int .u8 0, .int .u8 0, .int .u64 0, .int .u64 0, .int .u64 0, .int .u64 0, .int .u64 0] : Array Value) = rc0.cells := by kernel_rfl
/-- A row stored into the middle of a block that is known whole. -/
theorem run_store_part {P : Program} {w : World} {g o : Nat} {T ty : TypeId} {cur cells : List Value} (hg : Blk w g T cur.toArray) (ho : o + cells.length ≤ cur.length) (hi : (P.info? ty).map (·.size) = some cells.length) (h1 : ∀ v ∈ cells, v.oneCell' = true) :
    ∃ w', (Instr.storeAt ty (.pointer (some ⟨g, o, none⟩)) (.agg cells.toArray)).run P w = .ok () w' ∧ Blk w' g T (splice cur o cells).toArray ∧ Fr (fun k => k = g) w w' := by
  have hs := run_storeCells_at (P := P) g o T cells 0 cur.toArray w hg (by simpa using ho) h1
  obtain ⟨r1, r2⟩ := setRow_blk (cs' := (cur.take o ++ (cells ++ cur.drop (o + cells.length))).toArray) hg
  refine ⟨_, ?_, r1, r2⟩
  cases hq : P.info? ty with
  | none => simp [hq] at hi
  | some i =>
    have hz : cells.length = i.size := by simp [hq] at hi; omega
    simp only [Nat.add_zero, List.append_assoc] at hs
    simp [Instr.storeAt, Instr.sureAddr, storeVar, sizeOf, typeInfo, hq, Value.cells, hz, hs, go_sem]
theorem wpList_store_part {P : Program} {w : World} {ops : Array Oper} {rest : List Oper} {o : Oper} {a : Act} {Q : Exit → Act → World → Prop} {g off : Nat} {T ty : TypeId} {cur cells : List Value} (hw : Region.wanted o (yielded ops a.tmps) = true) (x y : Operand) (ho : o.op = .store ty x y) (hx : a.eval x = .pointer (some ⟨g, off, none⟩)) (hy : a.eval y = .agg cells.toArray)
    (hg : Blk w g T cur.toArray) (hl : off + cells.length ≤ cur.length) (hi : (P.info? ty).map (·.size) = some cells.length) (h1 : ∀ v ∈ cells, v.oneCell' = true)
    (h : ∀ w', Blk w' g T (splice cur off cells).toArray → Fr (fun k => k = g) w w' → wpList P ops Q rest (a.put o.dst undef) w') : wpList P ops Q (o :: rest) a w :=
  wpList_want hw fun K hK => by
    obtain ⟨w', hrun, r1, r2⟩ := run_store_part (P := P) hg hl hi h1
    unfold Oper.wp execOp
    simp only [ho, hx, hy, Sem.run_bind, hrun, Result.andThen_ok, Sem.run_pure]
    exact hK _ _ (h w' r1 r2)
/-- A whole row stored, as an act of a mixed script. -/
theorem mix_store {P : Program} {ops : Array Oper} {Q : Exit → Act → World → Prop} {S : World → Prop} {last i : Nat} {w : World} {o : Oper} {sc : List (Bool × Nat)} {a : Act} {T : TypeId} {g : Nat} {cs0 cs : Array Value} (hop : ops[i]? = some o) (hw : Region.wanted o (yielded ops a.tmps) = true) (x y : Operand) (ho : o.op = .store T x y) (hi : (P.info? T).map (·.size) = some cs.size) (hx : a.eval x = .pointer (some ⟨g, 0, none⟩)) (hy : a.eval y = .agg cs) (hb : Blk w g T cs0) (h0 : cs0.size = cs.size) (h1 : cs.all (·.oneCell') = true)
    (h : ∀ w', Blk w' g T cs → Fr (fun k => k = g) w w' → (i ≠ last → S w') ∧ wpMix P ops S last Q sc (a.put o.dst undef) w') : wpMix P ops S last Q ((false, i) :: sc) a w := by
  refine ⟨o, hop, ?_⟩
  rw [if_pos hw]
  obtain ⟨r1, r2⟩ := setRow_blk (cs' := cs) hb
  unfold Oper.wp execOp
  simp only [ho, hx, hy, Instr.storeAt, Instr.sureAddr, Sem.run_bind, Sem.run_pure, Result.andThen_ok, run_storeVar_row w g T T cs0 cs hb hi h0 h1]
  exact h _ r1 r2
set_option maxHeartbeats 1000000
set_option maxRecDepth 100000
theorem document_any (r : Rc) (w : World) (hr : r.Ok) : Calls Tryd.prog 15 #[.agg r.cells] w fun e w' => e = .returned (.agg r.cells) ∧ New w w' := by
  have HSZ : Hid (r.cells.size = 37) := Lib.hid (Rc.size hr.len)
  have H1 : Hid (r.cells.all (·.oneCell') = true) := Lib.hid r.one
  obtain ⟨RC, hRC⟩ : ∃ RC, RC = r.cells := ⟨_, rfl⟩
  rw [← hRC] at HSZ H1 ⊢
  clear hRC hr
  go_enter Tryd.func15, Tryd.ntmps15
  go_upto_region 1 with fail
  obtain ⟨w1, hw1⟩ : ∃ w1 : World, w1 = (w.alloc (.cells RC 48)).alloc (.cells #[.int .u8 0, .int .u8 0, .int .u8 0, .int .u8 0, .int .u8 0, .int .u8 0, .int .u8 0, .int .u8 0, .int .u8 0, .int .u8 0, .int .u8 0, .int .u8 0, .int .u8 0, .int .u8 0, .int .u8 0, .int .u8 0, .int .u8 0, .int .u8 0, .int .u8 0, .int .u8 0, .int .u8 0, .int .u8 0, .int .u8 0, .int .u8 0, .int .u8 0, .int .u8 0, .int .u8 0, .int .u8 0, .int .u8 0, .int .u8 0, .int .u8 0, .int .u8 0, .int .u64 0, .int .u64 0, .int .u64 0, .int .u64 0, .int .u64 0] 45) := ⟨_, rfl⟩
  obtain ⟨b1, hb1⟩ : ∃ b1, b1 = w.heap.size := ⟨_, rfl⟩
  obtain ⟨b2, hb2⟩ : ∃ b2, b2 = w.heap.size + 1 := ⟨_, rfl⟩
  have HN1 : Hid (New w w1) := Lib.hid (by rw [hw1]; exact New.al (New.al (New.refl _) _) _)
  have HB1 : Hid (Blk w1 b1 48 RC) := Lib.hid (by rw [hw1, hb1]; exact (Blk.new _ _ _).alloc _)
  have HB2 : Hid (Blk w1 b2 45 rc0.cells) := Lib.hid (by rw [hw1, hb2, zero37]; exact Blk.new' _ _ _ (by simp))
  have HZ : Hid (b1 = w.heap.size ∧ b2 = w.heap.size + 1) := Lib.hid ⟨hb1, hb2⟩
  rw [← hw1, ← hb2, ← hb1]
  clear hw1 hb1 hb2
  go_wp2_with (first
    | ((with_reducible refine atOp ⟨some 3, .load _ _, _, _, _, _⟩ ?_); refine wpList_load_any rfl _ rfl Tryd.underlying48 rfl (by rw [HSZ.out]; rfl) rfl HB1.out ?_)
    | ((with_reducible refine atOp ⟨none, .store 45 (.tmp 2) _, _, _, _, _⟩ ?_); refine wpList_store_any rfl (.tmp 2) (.tmp 3) rfl (by rw [HSZ.out]; rfl) rfl rfl HB2.out (by rw [HSZ.out]; rfl) H1.out ?_; intro w2 hb2 hf2; have HB22 := Lib.hid hb2; have HF2 := Lib.hid hf2; clear hb2 hf2))
  exact bodyPost_ret (v := .agg RC) (results_rowH rfl _ _ b2 _ _ rfl HB22.out Tryd.underlying45 rfl (by rw [HSZ.out]; rfl)) rfl ⟨rfl, HN1.out.fr HF2.out (fun k hk => by have := HZ.out; omega)⟩
theorem kget_nil (w : World) : Calls Tryd.prog 14 #[.pointer none] w fun e w' => e = .returned (.tuple #[.agg rc0.cells, .bool false]) ∧ New w w' := by
  go_enter Tryd.func14, Tryd.ntmps14
  go_upto_region 2 with fail
  obtain ⟨w1, hw1⟩ : ∃ w1 : World, w1 = w.alloc (.cells #[.int .u8 0, .int .u8 0, .int .u8 0, .int .u8 0, .int .u8 0, .int .u8 0, .int .u8 0, .int .u8 0, .int .u8 0, .int .u8 0, .int .u8 0, .int .u8 0, .int .u8 0, .int .u8 0, .int .u8 0, .int .u8 0, .int .u8 0, .int .u8 0, .int .u8 0, .int .u8 0, .int .u8 0, .int .u8 0, .int .u8 0, .int .u8 0, .int .u8 0, .int .u8 0, .int .u8 0, .int .u8 0, .int .u8 0, .int .u8 0, .int .u8 0, .int .u8 0, .int .u64 0, .int .u64 0, .int .u64 0, .int .u64 0, .int .u64 0] 48) := ⟨_, rfl⟩
  obtain ⟨b2, hb2⟩ : ∃ b2, b2 = w.heap.size := ⟨_, rfl⟩
  have HN1 : Hid (New w w1) := Lib.hid (by rw [hw1]; exact New.al (New.refl _) _)
  have HB2 : Hid (Blk w1 b2 48 rc0.cells) := Lib.hid (by rw [hw1, hb2, zero37]; exact Blk.new _ _ _)
  have HZ : Hid (b2 = w.heap.size) := Lib.hid hb2
  rw [← hw1, ← hb2]
  clear hw1 hb2
  go_wp2_with ((with_reducible refine atOp ⟨none, .store 48 (.tmp 2) _, _, _, _, _⟩ ?_); rw [zero37]; refine wpList_store_any rfl (.tmp 2) (.tmp 6) rfl (by rfl) rfl rfl HB2.out rfl (Rc.one _) ?_; intro w2 hb2 hf2; have HB22 := Lib.hid hb2; have HF2 := Lib.hid hf2; clear hb2 hf2)
  exact bodyPost_ret (results_row2h rfl _ _ b2 _ _ rfl HB22.out Tryd.underlying48 rfl (by rfl)) rfl ⟨rfl, HN1.out.fr HF2.out (fun k hk => by have := HZ.out; omega)⟩
theorem kget_kp {w : World} {gk gd : Nat} {k : KR} (h : Kp w gk gd k) : Calls Tryd.prog 14 #[.pointer (some ⟨gk, 0, none⟩)] w fun e w' => e = .returned (.tuple #[.agg k.now.cells, .bool (decide (0 < k.number))]) ∧ New w w' := by
  have H := Lib.hid h
  have HSZ : Hid (k.now.cells.size = 37) := Lib.hid (Rc.size h.ok.now.len)
  clear h
  go_enter Tryd.func14, Tryd.ntmps14
  go_upto_region 3 with fail
  obtain ⟨w1, hw1⟩ : ∃ w1 : World, w1 = w.alloc (.cells #[.int .u8 0, .int .u8 0, .int .u8 0, .int .u8 0, .int .u8 0, .int .u8 0, .int .u8 0, .int .u8 0, .int .u8 0, .int .u8 0, .int .u8 0, .int .u8 0, .int .u8 0, .int .u8 0, .int .u8 0, .int .u8 0, .int .u8 0, .int .u8 0, .int .u8 0, .int .u8 0, .int .u8 0, .int .u8 0, .int .u8 0, .int .u8 0, .int .u8 0, .int .u8 0, .int .u8 0, .int .u8 0, .int .u8 0, .int .u8 0, .int .u8 0, .int .u8 0, .int .u64 0, .int .u64 0, .int .u64 0, .int .u64 0, .int .u64 0] 48) := ⟨_, rfl⟩
  obtain ⟨b2, hb2⟩ : ∃ b2, b2 = w.heap.size := ⟨_, rfl⟩
  have HN1 : Hid (New w w1) := Lib.hid (by rw [hw1]; exact New.al (New.refl _) _)
  have HB2 : Hid (Blk w1 b2 48 rc0.cells) := Lib.hid (by rw [hw1, hb2, zero37]; exact Blk.new _ _ _)
  have HZ : Hid (b2 = w.heap.size) := Lib.hid hb2
  rw [← hw1, ← hb2]
  clear hw1 hb2
  have HK1 : Hid (Kp w1 gk gd k) := Lib.hid (H.out.new HN1.out)
  refine wp_region_mixH (fun w' => Kp w' gk gd k) [(true, 0), (true, 1), (true, 2), (true, 3), (true, 4), (true, 5), (true, 6), (true, 7), (true, 8), (false, 9), (true, 10)] (by kernel_rfl) (by kernel_rfl) (HK1.out.new (New.dr (New.refl w1))) (fun hne => ?_)
  have q1 : ∀ p : HW (fun w' => Kp w' gk gd k), p.w.cell? ⟨gk, 1, none⟩ = some (.int .u64 k.number) := fun p => p.h.c1
  iterate 3 (refine mix_take (o := ⟨_, _, _, _, _, _⟩) rfl (fun K hK => ?_); go_simp; refine hK _ ?_; clear hK K)
  refine mix_take_row (o := ⟨_, _, _, _, _, _⟩) (cs := k.now.cells.toList) rfl rfl _ rfl rfl (fun w' h => h.nowAt) Tryd.underlying48 rfl (by rw [Array.length_toList, HSZ.out]; rfl) ?_
  iterate 5 (refine mix_take (o := ⟨_, _, _, _, _, _⟩) rfl (fun K hK => ?_); go_simp; refine hK _ ?_; clear hK K)
  refine mix_store (o := ⟨_, _, _, _, _, _⟩) (cs := k.now.cells) rfl rfl (.tmp 2) (.tmp 10) rfl (by rw [HSZ.out]; rfl) rfl rfl ((New.dr (New.refl w1)).blk HB2.out) (by rw [HSZ.out]; rfl) (Rc.one _) ?_
  intro w2 hb2 hf2
  have HB22 := Lib.hid hb2
  have HF2 := Lib.hid (Fr.ofDrew hf2)
  have HK2 : Hid (Kp w2 gk gd k) := Lib.hid (HK1.out.fr (Fr.ofDrew hf2) (by have := HZ.out; have := H.out.blk.lt; omega))
  clear hb2 hf2
  refine ⟨fun _ => HK2.out, ?_⟩
  iterate 1 (refine mix_take (o := ⟨_, _, _, _, _, _⟩) rfl (fun K hK => ?_); go_simp; refine hK _ ?_; clear hK K)
  refine mix_done ?_
  go_wp2_with fail
  exact bodyPost_ret (results_row2h rfl _ _ b2 _ _ rfl HB22.out Tryd.underlying48 rfl (by rw [HSZ.out]; rfl)) rfl ⟨rfl, HN1.out.fr HF2.out (fun k hk => by have := HZ.out; omega)⟩
end Go.Proofs.YtdojmjglnlkmoaaDoor
/- A record's bytes written to the disk, and made sure of. No condition. -/
namespace Go.Proofs.YtdojmjglnlkmoaaDoor
set_option linter.unusedVariables false
set_option linter.unusedSimpArgs false
set_option linter.constructorNameAsVariable false
open Go.RowKit Go.Sort

theorem wpList_arr {P : Program} {ops : Array Oper} {rest : List Oper} {o : Oper} {a : Act} {w : World} {Q : Exit → Act → World → Prop} {T e : TypeId} {n len cap : Nat} {A : Option Addr} (hw : Region.wanted o (yielded ops a.tmps) = true) (x : Operand) (hop : o.op = .sliceToArrayPointer T x) (hx : a.eval x = .slice A len cap)
    (hu : P.underlying T = some (.array n e)) (hn : n ≤ len) (h : wpList P ops Q rest (a.put o.dst (.pointer A)) w) : wpList P ops Q (o :: rest) a w :=
  wpList_want hw fun K hK => by
    unfold Oper.wp execOp
    simp only [hop, hx, Sem.run_bind, run_arrayAt (P := P) (w := w) T e n A len cap hu hn, Result.andThen_ok, Sem.run_pure]
    exact hK _ _ h
theorem kp_apart {w : World} {base gk g bs bf : Nat} {v : Value} {p : DP} {k : KR} (h : Dk w base g bs bf v p) (hk : Kp w gk g k) : ¬ DkOurs g bs bf v gk :=
  dk_notBlk h hk.blk (fun e => Blk.ne_ (g := gk) (g' := g) hk.blk h.blk (by decide) e) (by decide)
/-- write's answer. -/
def WrSays (w : World) (base g bs bf : Nat) (v : Value) (r : DP × Int) (e : Ending) (w' : World) : Prop := e = .returned (errD r.2) ∧ ∃ v', DkTo w base g bs bf v r.1 w' v'
/-- What is read where a sector is written. -/
def RdAt (gk gd b8 : Nat) (s : List Int) (w : World) : Prop := w.cell? ⟨gk, 0, none⟩ = some (.pointer (some ⟨gd, 0, none⟩)) ∧ Blk w b8 23 (secA s)
set_option maxHeartbeats 3000000 in
set_option maxRecDepth 100000 in
theorem kwrite_any {w : World} {gk gd base bs bf : Nat} {v : Value} {p : DP} {k : KR} (h : Kp w gk gd k) (hD : Dk w base gd bs bf v p) (n : Nat) (hn : n < 18446744073709551616) (all : List Int) (hl : all.length = 128) (hb : Byt all) :
    Calls Tryd.prog 37 #[.pointer (some ⟨gk, 0, none⟩), .int .u64 n, .agg (secA all)] w (WrSays w base gd bs bf v (writeP p n all)) := by
  have HKP := Lib.hid h
  have HAP : Hid (¬ DkOurs gd bs bf v gk) := Lib.hid (kp_apart hD h)
  have HSK : Hid (∀ i, i < 2 → SecOk (sec2 all i)) := Lib.hid (fun i hi => sec2_ok hl hb hi)
  obtain ⟨m, hm⟩ : ∃ m, m = n % 2 := ⟨_, rfl⟩
  have HM := Lib.hid hm
  have e0 : (n : Int).tmod 2 = (m : Int) := by rw [Int.tmod_eq_emod_of_nonneg (by omega)]; omega
  have z0 : IntKind.i64.wrap 0 = 0 := by decide
  have z1 : IntKind.i64.wrap 1 = 1 := by decide
  have z2 : IntKind.i64.wrap 2 = 2 := by decide
  have z64 : IntKind.i64.wrap 64 = 64 := by decide
  have z128 : IntKind.i64.wrap 128 = 128 := by decide
  have hm2 : m < 2 := by omega
  obtain ⟨m2, hm2'⟩ : ∃ m2, m2 = 2 * m := ⟨_, rfl⟩
  have HM2 := Lib.hid hm2'
  have e1 : IntKind.i64.wrap (m : Int) = (m : Int) := IntWalk.i64_in _ (by omega)
  have e2 : 2 * (m : Int) = (m2 : Int) := by omega
  have e3 : IntKind.i64.wrap (m2 : Int) = (m2 : Int) := IntWalk.i64_in _ (by omega)
  obtain ⟨m3, hm3⟩ : ∃ m3, m3 = m2 + 1 := ⟨_, rfl⟩
  have HM3 := Lib.hid hm3
  have e4 : (m2 : Int) + 1 = (m3 : Int) := by omega
  have e5 : IntKind.i64.wrap (m3 : Int) = (m3 : Int) := IntWalk.i64_in _ (by omega)
  obtain ⟨WP, hWP⟩ : ∃ WP, WP = writeP p n all := ⟨_, rfl⟩
  rw [← hWP]
  have HWP : Hid (WP = (if (writeQ p n all 2).2 ≠ 0 then writeQ p n all 2 else ((writeQ p n all 2).1.doSync, (writeQ p n all 2).1.scode))) := Lib.hid (by rw [hWP]; rfl)
  have HD := Lib.hid hD
  obtain ⟨AL, hAL⟩ : ∃ AL, AL = secA all := ⟨_, rfl⟩
  have HAL := Lib.hid hAL
  rw [← hAL]
  clear h hD hn hl hb hm hm2' hm3 hWP hAL
  go_enter Tryd.func37, Tryd.ntmps37
  go_upto_region 1 with fail
  obtain ⟨w1, hw1⟩ : ∃ w1 : World, w1 = w.alloc (.cells AL 100) := ⟨_, rfl⟩
  obtain ⟨b5, hb5⟩ : ∃ b5, b5 = w.heap.size := ⟨_, rfl⟩
  have HN1 : Hid (New w w1) := Lib.hid (by rw [hw1]; exact New.al (New.refl _) _)
  have HB5 : Hid (Blk w1 b5 100 (secA all)) := Lib.hid (by rw [hw1, hb5, HAL.out]; exact Blk.new _ _ _)
  have HZ : Hid (b5 = w.heap.size ∧ gk < w.heap.size ∧ gd < w.heap.size) := Lib.hid ⟨hb5, HKP.out.blk.lt, HD.out.blk.lt⟩
  rw [← hw1, ← hb5]
  clear hw1 hb5
  have HD0 : Hid (DkTo w base gd bs bf v p w1 v) := Lib.hid (DkTo.same HD.out HN1.out)
  go_wp2_with fail
  go_loopw [10] (fun i wr => ∃ (j : Nat) (v' : Value), Hid (j ≤ 2) ∧ i = .int .i64 (j : Int) ∧ Hid ((writeQ p n all j).2 = 0) ∧ Hid (DkTo w base gd bs bf v (writeQ p n all j).1 wr v') ∧ Hid (Blk wr b5 100 (secA all))) (fun i _ => 2 - (intOf i).toNat)
  case atStart => exact ⟨0, v, Lib.hid (by omega), rfl, Lib.hid rfl, HD0, HB5⟩
  case round =>
    clear HD0 HB5
    obtain ⟨j, v', HJ, rfl, HE, HD, HB5⟩ := hrel
    have HC0 : Hid (wr.cell? ⟨gk, 0, none⟩ = some (.pointer (some ⟨gd, 0, none⟩))) := Lib.hid (HD.out.fr.cell_some HKP.out.c0 HAP.out)
    rcases (show j = 0 ∨ j = 1 ∨ j = 2 by have := HJ.out; omega) with rfl | rfl | rfl
    · have HC5 := HC0
      have HSO : Hid (SecOk (sec2 all 0)) := Lib.hid (HSK.out 0 (by omega))
      have HSL : Hid ((u8s (sec2 all 0)).length = 64) := Lib.hid (by rw [u8s_len, HSO.out.1])
      have HAD : Hid (slotA n 0 = (m2 : Int)) := Lib.hid (by unfold slotA; have := HM.out; have := HM2.out; have := HM3.out; omega)
      have HGO := Lib.hid (writeQ_go HE.out)
      obtain ⟨q, hq⟩ : ∃ q, q = (writeQ p n all 0).1 := ⟨_, rfl⟩
      rw [← hq, HAD.out] at HGO
      rw [← hq] at HD
      obtain ⟨sc, hsc⟩ : ∃ sc, sc = sec2 all 0 := ⟨_, rfl⟩
      rw [← hsc] at HGO
      have HSCE := Lib.hid hsc
      obtain ⟨q2, hq2⟩ : ∃ q2, q2 = q.doWrite (m2 : Int) sc := ⟨_, rfl⟩
      obtain ⟨c, hc⟩ : ∃ c, c = q.wcode (m2 : Int) := ⟨_, rfl⟩
      rw [← hq2, ← hc] at HGO
      have HQ2 := Lib.hid hq2
      have HC := Lib.hid hc
      clear hq hsc hq2 hc
      go_upto_region 4 with fail
      refine wp_region_list ?_
      iterate 6 (refine wpList_step fun K hK => ?_; go_simp; refine hK _ _ ?_; clear hK K)
      refine wpList_arr rfl _ rfl rfl Tryd.underlying23 (Nat.le_refl _) ?_
      refine wpList_load_range rfl _ rfl rfl (sec2_range (i := 0) HB5.out) Tryd.underlying23 rfl (by rw [HSL.out]; rfl) ?_
      refine wpList_newvar (s := sec2 all 0) rfl rfl rfl _ _ rfl secInfo rfl rfl rfl HSO.out.1 ?_
      obtain ⟨w3, hw3⟩ : ∃ w3 : World, w3 = wr.alloc (.cells (secA (sec2 all 0)) 23) := ⟨_, rfl⟩
      obtain ⟨b8, hb8⟩ : ∃ b8, b8 = wr.heap.size := ⟨_, rfl⟩
      have HN3 : Hid (New wr w3) := Lib.hid (by rw [hw3]; exact New.al (New.refl _) _)
      have HB8 : Hid (Blk w3 b8 23 (secA (sec2 all 0))) := Lib.hid (by rw [hw3, hb8]; exact Blk.new _ _ _)
      have HB53 : Hid (Blk w3 b5 100 (secA all)) := Lib.hid (HN3.out.blk HB5.out)
      have HD3 : Hid (DkTo w base gd bs bf v q w3 v') := Lib.hid (HD.out.new HN3.out)
      have HC3 : Hid (w3.cell? ⟨gk, 0, none⟩ = some (.pointer (some ⟨gd, 0, none⟩))) := Lib.hid (HN3.out.cell_ HC0.out)
      have HL8 : Hid (gd < b8 ∧ b5 < b8) := Lib.hid (by have h1 := HB5.out.lt; have h2 := HD.out.dk.blk.lt; omega)
      simp only [Act.put, List.setIfInBounds_toArray, List.set_cons_zero, List.set_cons_succ]
      rw [← hw3, ← hb8]
      clear hw3 hb8 HB5 HD HC0 HC5
      go_upto_region 5 with fail
      refine wp_region_mixH (RdAt gk gd b8 (sec2 all 0)) [(true, 0), (true, 1), (true, 2), (true, 3), (true, 4), (true, 5), (true, 6), (true, 7), (true, 8), (true, 9), (true, 10), (false, 11), (true, 12)] (by kernel_rfl) (by kernel_rfl) ⟨(New.dr (New.refl w3)).cell_ HC3.out, (New.dr (New.refl w3)).blk HB8.out⟩ (fun hne => ?_)
      have q0 : ∀ p : HW (RdAt gk gd b8 (sec2 all 0)), p.w.cell? ⟨gk, 0, none⟩ = some (.pointer (some ⟨gd, 0, none⟩)) := fun p => p.h.1
      iterate 10 (refine mix_take (o := ⟨_, _, _, _, _, _⟩) rfl (fun K hK => ?_); go_simp; refine hK _ ?_; clear hK K)
      refine mix_take_row (o := ⟨_, _, _, _, _, _⟩) (cs := u8s (sec2 all 0)) rfl rfl _ rfl rfl (fun w' h => by have h2 := Blk.rangeOf h.2; rw [secA_list] at h2; exact h2) Tryd.underlying23 rfl (by rw [HSL.out]; rfl) ?_
      clear q0
      refine mix_act (o := ⟨_, _, _, _, _, _⟩) rfl (fun K hK => ?_) (.inl rfl)
      go_simp
      refine (write_all (HD3.out.dk.new (New.dr (New.refl w3))) (m2 : Int) HSO.out).mono ?_
      rintro e w4 ⟨rfl, v4, hD4, hF4, hO4⟩
      rw [← HSCE.out, ← HQ2.out] at hD4
      rw [← HC.out]
      have hT : DkTo w3 base gd bs bf v' q2 w4 v4 := ⟨hD4, Fr.ofDrew hF4, hO4⟩
      have HD4 : Hid (DkTo w base gd bs bf v q2 w4 v4) := Lib.hid (HD3.out.tr hT)
      have HC4 : Hid (w4.cell? ⟨gk, 0, none⟩ = some (.pointer (some ⟨gd, 0, none⟩))) := Lib.hid (HD4.out.fr.cell_some HKP.out.c0 HAP.out)
      have HB84 : Hid (Blk w4 b8 23 (secA (sec2 all 0))) := Lib.hid (HB8.out.fr hT.fr (dk_notBlk HD3.out.dk HB8.out (by have := HL8.out; omega) (by decide)))
      have HB54 : Hid (Blk w4 b5 100 (secA all)) := Lib.hid (HB53.out.fr hT.fr (dk_notBlk HD3.out.dk HB53.out (by have := HZ.out; omega) (by decide)))
      clear hD4 hF4 hO4 hT
      go_simp
      refine hK.out _ _ (fun _ => ⟨HC4.out, HB84.out⟩) ?_
      clear hK K
      iterate 1 (refine mix_take (o := ⟨_, _, _, _, _, _⟩) rfl (fun K hK => ?_); go_simp; refine hK _ ?_; clear hK K)
      refine mix_done ?_
      by_cases hc0 : c = 0
      · have HWE : Hid (errD c = .nilIface) := Lib.hid (by rw [hc0]; rfl)
        have HG1 : Hid (writeQ p n all (0 + 1) = (q2, 0)) := Lib.hid (by rw [HGO.out, hc0])
        rw [HWE.out]
        clear hc0
        go_wp2_with fail
        go_roundw
        case rel => exact ⟨0 + 1, v4, Lib.hid (by omega), by go_num, Lib.hid (by rw [HG1.out]), Lib.hid (by rw [HG1.out]; exact HD4.out), HB54⟩
        case measure => simp [intOf]
      · have HWE : Hid (errD c = .iface 55 (.int .i64 c)) := Lib.hid (errD_n hc0)
        have HG1 : Hid (writeQ p n all (0 + 1) = (q2, c)) := Lib.hid HGO.out
        have HC0 := Lib.hid hc0
        rw [HWE.out]
        clear hc0
        have HW : Hid (WP = (q2, c)) := Lib.hid (by
          have h2 : writeQ p n all 2 = (q2, c) := (writeQ_bad (by rw [HG1.out]; exact HC0.out)).trans HG1.out
          rw [HWP.out, h2]
          simp only [ne_eq, HC0.out, not_false_eq_true, if_true])
        go_wp2_with fail
        go_ret
        refine ⟨?_, v4, ?_⟩
        · rw [HW.out]; exact (congrArg Ending.returned HWE.out).symm
        · rw [HW.out]; exact HD4.out
    · have HC5 := HC0
      have HSO : Hid (SecOk (sec2 all 1)) := Lib.hid (HSK.out 1 (by omega))
      have HSL : Hid ((u8s (sec2 all 1)).length = 64) := Lib.hid (by rw [u8s_len, HSO.out.1])
      have HAD : Hid (slotA n 1 = (m3 : Int)) := Lib.hid (by unfold slotA; have := HM.out; have := HM2.out; have := HM3.out; omega)
      have HGO := Lib.hid (writeQ_go HE.out)
      obtain ⟨q, hq⟩ : ∃ q, q = (writeQ p n all 1).1 := ⟨_, rfl⟩
      rw [← hq, HAD.out] at HGO
      rw [← hq] at HD
      obtain ⟨sc, hsc⟩ : ∃ sc, sc = sec2 all 1 := ⟨_, rfl⟩
      rw [← hsc] at HGO
      have HSCE := Lib.hid hsc
      obtain ⟨q2, hq2⟩ : ∃ q2, q2 = q.doWrite (m3 : Int) sc := ⟨_, rfl⟩
      obtain ⟨c, hc⟩ : ∃ c, c = q.wcode (m3 : Int) := ⟨_, rfl⟩
      rw [← hq2, ← hc] at HGO
      have HQ2 := Lib.hid hq2
      have HC := Lib.hid hc
      clear hq hsc hq2 hc
      go_upto_region 4 with fail
      refine wp_region_list ?_
      iterate 6 (refine wpList_step fun K hK => ?_; go_simp; refine hK _ _ ?_; clear hK K)
      refine wpList_arr rfl _ rfl rfl Tryd.underlying23 (Nat.le_refl _) ?_
      refine wpList_load_range rfl _ rfl rfl (sec2_range (i := 1) HB5.out) Tryd.underlying23 rfl (by rw [HSL.out]; rfl) ?_
      refine wpList_newvar (s := sec2 all 1) rfl rfl rfl _ _ rfl secInfo rfl rfl rfl HSO.out.1 ?_
      obtain ⟨w3, hw3⟩ : ∃ w3 : World, w3 = wr.alloc (.cells (secA (sec2 all 1)) 23) := ⟨_, rfl⟩
      obtain ⟨b8, hb8⟩ : ∃ b8, b8 = wr.heap.size := ⟨_, rfl⟩
      have HN3 : Hid (New wr w3) := Lib.hid (by rw [hw3]; exact New.al (New.refl _) _)
      have HB8 : Hid (Blk w3 b8 23 (secA (sec2 all 1))) := Lib.hid (by rw [hw3, hb8]; exact Blk.new _ _ _)
      have HB53 : Hid (Blk w3 b5 100 (secA all)) := Lib.hid (HN3.out.blk HB5.out)
      have HD3 : Hid (DkTo w base gd bs bf v q w3 v') := Lib.hid (HD.out.new HN3.out)
      have HC3 : Hid (w3.cell? ⟨gk, 0, none⟩ = some (.pointer (some ⟨gd, 0, none⟩))) := Lib.hid (HN3.out.cell_ HC0.out)
      have HL8 : Hid (gd < b8 ∧ b5 < b8) := Lib.hid (by have h1 := HB5.out.lt; have h2 := HD.out.dk.blk.lt; omega)
      simp only [Act.put, List.setIfInBounds_toArray, List.set_cons_zero, List.set_cons_succ]
      rw [← hw3, ← hb8]
      clear hw3 hb8 HB5 HD HC0 HC5
      go_upto_region 5 with fail
      refine wp_region_mixH (RdAt gk gd b8 (sec2 all 1)) [(true, 0), (true, 1), (true, 2), (true, 3), (true, 4), (true, 5), (true, 6), (true, 7), (true, 8), (true, 9), (true, 10), (false, 11), (true, 12)] (by kernel_rfl) (by kernel_rfl) ⟨(New.dr (New.refl w3)).cell_ HC3.out, (New.dr (New.refl w3)).blk HB8.out⟩ (fun hne => ?_)
      have q0 : ∀ p : HW (RdAt gk gd b8 (sec2 all 1)), p.w.cell? ⟨gk, 0, none⟩ = some (.pointer (some ⟨gd, 0, none⟩)) := fun p => p.h.1
      iterate 10 (refine mix_take (o := ⟨_, _, _, _, _, _⟩) rfl (fun K hK => ?_); go_simp; refine hK _ ?_; clear hK K)
      refine mix_take_row (o := ⟨_, _, _, _, _, _⟩) (cs := u8s (sec2 all 1)) rfl rfl _ rfl rfl (fun w' h => by have h2 := Blk.rangeOf h.2; rw [secA_list] at h2; exact h2) Tryd.underlying23 rfl (by rw [HSL.out]; rfl) ?_
      clear q0
      refine mix_act (o := ⟨_, _, _, _, _, _⟩) rfl (fun K hK => ?_) (.inl rfl)
      go_simp
      refine (write_all (HD3.out.dk.new (New.dr (New.refl w3))) (m3 : Int) HSO.out).mono ?_
      rintro e w4 ⟨rfl, v4, hD4, hF4, hO4⟩
      rw [← HSCE.out, ← HQ2.out] at hD4
      rw [← HC.out]
      have hT : DkTo w3 base gd bs bf v' q2 w4 v4 := ⟨hD4, Fr.ofDrew hF4, hO4⟩
      have HD4 : Hid (DkTo w base gd bs bf v q2 w4 v4) := Lib.hid (HD3.out.tr hT)
      have HC4 : Hid (w4.cell? ⟨gk, 0, none⟩ = some (.pointer (some ⟨gd, 0, none⟩))) := Lib.hid (HD4.out.fr.cell_some HKP.out.c0 HAP.out)
      have HB84 : Hid (Blk w4 b8 23 (secA (sec2 all 1))) := Lib.hid (HB8.out.fr hT.fr (dk_notBlk HD3.out.dk HB8.out (by have := HL8.out; omega) (by decide)))
      have HB54 : Hid (Blk w4 b5 100 (secA all)) := Lib.hid (HB53.out.fr hT.fr (dk_notBlk HD3.out.dk HB53.out (by have := HZ.out; omega) (by decide)))
      clear hD4 hF4 hO4 hT
      go_simp
      refine hK.out _ _ (fun _ => ⟨HC4.out, HB84.out⟩) ?_
      clear hK K
      iterate 1 (refine mix_take (o := ⟨_, _, _, _, _, _⟩) rfl (fun K hK => ?_); go_simp; refine hK _ ?_; clear hK K)
      refine mix_done ?_
      by_cases hc0 : c = 0
      · have HWE : Hid (errD c = .nilIface) := Lib.hid (by rw [hc0]; rfl)
        have HG1 : Hid (writeQ p n all (1 + 1) = (q2, 0)) := Lib.hid (by rw [HGO.out, hc0])
        rw [HWE.out]
        clear hc0
        go_wp2_with fail
        go_roundw
        case rel => exact ⟨1 + 1, v4, Lib.hid (by omega), by go_num, Lib.hid (by rw [HG1.out]), Lib.hid (by rw [HG1.out]; exact HD4.out), HB54⟩
        case measure => simp [intOf]
      · have HWE : Hid (errD c = .iface 55 (.int .i64 c)) := Lib.hid (errD_n hc0)
        have HG1 : Hid (writeQ p n all (1 + 1) = (q2, c)) := Lib.hid HGO.out
        have HC0 := Lib.hid hc0
        rw [HWE.out]
        clear hc0
        have HW : Hid (WP = (q2, c)) := Lib.hid (by
          have h2 : writeQ p n all 2 = (q2, c) := HG1.out
          rw [HWP.out, h2]
          simp only [ne_eq, HC0.out, not_false_eq_true, if_true])
        go_wp2_with fail
        go_ret
        refine ⟨?_, v4, ?_⟩
        · rw [HW.out]; exact (congrArg Ending.returned HWE.out).symm
        · rw [HW.out]; exact HD4.out
    · have cc := HC0.out
      obtain ⟨q, hq⟩ : ∃ q, q = (writeQ p n all 2).1 := ⟨_, rfl⟩
      rw [← hq] at HD
      have HW : Hid (WP = (q.doSync, q.scode)) := Lib.hid (by
        rw [HWP.out, HE.out, ← hq]
        simp)
      clear hq
      go_wp2_with fail
      clear cc
      refine (sync_all HD.out.dk).mono ?_
      rintro e w4 ⟨rfl, v4, hD4, hF4, hO4⟩
      have HD4 : Hid (DkTo w base gd bs bf v q.doSync w4 v4) := Lib.hid (HD.out.tr ⟨hD4, hF4, hO4⟩)
      clear hD4 hF4 hO4
      go_wp2_with fail
      go_ret
      refine ⟨?_, v4, ?_⟩
      · rw [HW.out]; rfl
      · rw [HW.out]; exact HD4.out
end Go.Proofs.YtdojmjglnlkmoaaDoor
/- A mixed script (XMx) that may part in two where two acts are ready at once. S is kept by all. No condition. -/
namespace Go.Proofs.YtdojmjglnlkmoaaDoor
set_option linter.unusedVariables false
set_option linter.unusedSimpArgs false
set_option linter.constructorNameAsVariable false
open Go.RowKit

inductive Tr where
  | done
  | take (i : Nat) (t : Tr)
  | act (i : Nat) (t : Tr)
  | two (i : Nat) (t : Tr) (j : Nat) (u : Tr)
def Tr.len : Tr → Nat
  | .done => 0
  | .take _ t => t.len + 1
  | .act _ t => t.len + 1
  | .two _ t _ _ => t.len + 1
section
variable {P : Program} {md : Region.Mode} {ops : Array Oper} {Q : Exit → Act → World → Prop} {S : World → Prop}
def treeB (md : Region.Mode) (ops : Array Oper) : Tr → Array Bool → Bool
  | .done, listed => (Region.ready md ops listed).isEmpty
  | .take i t, listed => (Region.ready md ops listed).contains i && Region.free md ops listed i && treeB md ops t (listed.setIfInBounds i true)
  | .act i t, listed => decide (Region.ready md ops listed = [i]) && treeB md ops t (listed.setIfInBounds i true)
  | .two i t j u, listed => decide (Region.ready md ops listed = [i, j]) && decide (t.len = u.len) && treeB md ops t (listed.setIfInBounds i true) && treeB md ops u (listed.setIfInBounds j true)
/-- One act, wherever it comes up. -/
def ActOk (P : Program) (ops : Array Oper) (S : World → Prop) (Q : Exit → Act → World → Prop) (i : Nat) (R : Act → World → Prop) (a : Act) (w : World) : Prop :=
  ∃ o, ops[i]? = some o ∧ (if Region.wanted o (yielded ops a.tmps) = true then o.wp P a w (fun a' w' => S w' ∧ R a' w') Q else R (a.put o.dst undef) w)
def wpTree (P : Program) (ops : Array Oper) (S : World → Prop) (Q : Exit → Act → World → Prop) : Tr → Act → World → Prop
  | .done, a, w => Q .normal a w
  | .take i t, a, w => ∃ o, ops[i]? = some o ∧ (if Region.wanted o (yielded ops a.tmps) = true then ∃ v, (∀ p : HW S, (execOp a.eval o).run P p.w = .ok (.value v) p.w) ∧ wpTree P ops S Q t (a.put o.dst v) w else wpTree P ops S Q t (a.put o.dst undef) w)
  | .act i t, a, w => ActOk P ops S Q i (wpTree P ops S Q t) a w
  | .two i t j u, a, w => ActOk P ops S Q i (wpTree P ops S Q t) a w ∧ ActOk P ops S Q j (wpTree P ops S Q u) a w
theorem actOk_op {i : Nat} {R R' : Act → World → Prop} {a : Act} {w : World} (h : ActOk P ops S Q i R a w) (hS : S w) (hR : ∀ a' w', S w' → R a' w' → R' a' w') : wpOp P ops Q i (fun a' w' => S w' ∧ R' a' w') a w := by
  obtain ⟨o, ho, h⟩ := h
  unfold wpOp
  simp only [ho]
  by_cases hw : Region.wanted o (yielded ops a.tmps) = true
  · rw [if_pos hw] at h
    simp only [hw, if_true]
    exact .inl (Oper.wp_mono (fun a' w' h' => ⟨h'.1, hR _ _ h'.1 h'.2⟩) h)
  · rw [if_neg hw] at h
    simp only [hw]
    exact ⟨hS, hR _ _ hS h⟩
theorem wpAnyH_of_tree (hs : Region.noSelect ops = true) (hQ : ∀ c a d v w, Q (.panic c) (a.put d v) w → Q (.panic c) a w) : ∀ (t : Tr) (listed : Array Bool) (a : Act) (w : World), treeB md ops t listed = true → S w → wpTree P ops S Q t a w → wpAnyH P md ops Q S t.len listed a w
  | .done, listed, a, w, hB, _, h => ⟨by simpa [treeB] using hB, h⟩
  | .take i t, listed, a, w, hB, hSw, h => by
    simp only [treeB, Bool.and_eq_true] at hB
    obtain ⟨⟨h1, h2⟩, h5⟩ := hB
    obtain ⟨o, ho, h⟩ := h
    have key : ∀ v, YieldsIf P ops S o v a → wpTree P ops S Q t (a.put o.dst v) w → wpAnyH P md ops Q S (Tr.take i t).len listed a w := fun v hy h =>
      wpAnyH_first ho (Region.noSelect_spec hs) (fun c a w => hQ c a _ _ w) _ listed a w (Region.free_spec ho h2) (by simpa using h1) hy hSw (wpAnyH_of_tree hs hQ t _ _ _ h5 hSw h)
    by_cases hw : Region.wanted o (yielded ops a.tmps) = true
    · rw [if_pos hw] at h
      obtain ⟨v, hv, h⟩ := h
      exact key v (.inl ⟨hw, fun w hw => hv ⟨w, hw⟩⟩) h
    · rw [if_neg hw] at h
      exact key undef (.inr ⟨by simpa using hw, rfl⟩) h
  | .act i t, listed, a, w, hB, hS, h => by
    simp only [treeB, Bool.and_eq_true, decide_eq_true_eq] at hB
    obtain ⟨h1, h3⟩ := hB
    refine ⟨fun h0 => (by rw [h1] at h0; cases h0), fun j hj => ?_⟩
    rw [h1, List.mem_singleton] at hj
    subst hj
    exact actOk_op h hS (fun a' w' hS' h' => wpAnyH_of_tree hs hQ t _ _ _ h3 hS' h')
  | .two i t j u, listed, a, w, hB, hS, h => by
    simp only [treeB, Bool.and_eq_true, decide_eq_true_eq] at hB
    obtain ⟨⟨⟨h1, h2⟩, h3⟩, h4⟩ := hB
    refine ⟨fun h0 => (by rw [h1] at h0; cases h0), fun k hk => ?_⟩
    rw [h1] at hk
    rcases List.mem_cons.1 hk with rfl | hk
    · exact actOk_op h.1 hS (fun a' w' hS' h' => wpAnyH_of_tree hs hQ t _ _ _ h3 hS' h')
    · rw [List.mem_singleton] at hk
      subst hk
      refine actOk_op h.2 hS (fun a' w' hS' h' => ?_)
      show wpAnyH P md ops Q S t.len _ a' w'
      rw [h2]
      exact wpAnyH_of_tree hs hQ u _ _ _ h4 hS' h'
theorem wp_region_tree {id : Nat} {a : Act} {w : World} {l : List Oper} (S : World → Prop) (t : Tr) (hm : P.follows .mixedOrders = true)
    (hB : (Region.noSelect l.toArray && decide (t.len = l.toArray.size) && treeB .any l.toArray t (Array.replicate l.toArray.size false)) = true) (hS : S w.drew)
    (h : Nonempty (HW S) → wpTree P l.toArray S (NoPan Q) t a w.drew) : (Code.region id l.toArray true).wp P Q a w := by
  simp only [Bool.and_eq_true, decide_eq_true_eq] at hB
  obtain ⟨⟨h1, h2⟩, h3⟩ := hB
  refine wp_mono (Q := NoPan Q) (wp_region_held (S := S) hm ?_) NoPan.imp
  have := wpAnyH_of_tree (Q := NoPan Q) h1 (fun _ _ _ _ _ h => h) t _ _ _ h3 hS (h ⟨⟨_, hS⟩⟩)
  rwa [h2] at this
theorem tree_take {i : Nat} {o : Oper} {t : Tr} {a : Act} {w : World} (ho : ops[i]? = some o)
    (h : ∀ K : Act → Prop, (∀ a, wpTree P ops S Q t a w → K a) → if Region.wanted o (yielded ops a.tmps) = true then ∃ v, (∀ p : HW S, (execOp a.eval o).run P p.w = .ok (.value v) p.w) ∧ K (a.put o.dst v) else K (a.put o.dst undef)) : wpTree P ops S Q (.take i t) a w :=
  ⟨o, ho, h _ fun _ h => h⟩
theorem act_ok {i : Nat} {o : Oper} {R : Act → World → Prop} {a : Act} {w : World} (ho : ops[i]? = some o)
    (h : ∀ K : Act → World → Prop, Hid (∀ a w, S w → R a w → K a w) → if Region.wanted o (yielded ops a.tmps) = true then o.wp P a w K Q else K (a.put o.dst undef) w) (hS : Region.wanted o (yielded ops a.tmps) = true ∨ S w) : ActOk P ops S Q i R a w := by
  refine ⟨o, ho, ?_⟩
  have := h (fun a' w' => S w' ∧ R a' w') (Lib.hid fun a w h1 h2 => ⟨h1, h2⟩)
  by_cases hw : Region.wanted o (yielded ops a.tmps) = true
  · rw [if_pos hw] at this ⊢
    exact this
  · rw [if_neg hw] at this ⊢
    exact this.2
theorem tree_act {i : Nat} {o : Oper} {t : Tr} {a : Act} {w : World} (ho : ops[i]? = some o)
    (h : ∀ K : Act → World → Prop, Hid (∀ a w, S w → wpTree P ops S Q t a w → K a w) → if Region.wanted o (yielded ops a.tmps) = true then o.wp P a w K Q else K (a.put o.dst undef) w) (hS : Region.wanted o (yielded ops a.tmps) = true ∨ S w) : wpTree P ops S Q (.act i t) a w :=
  act_ok ho h hS
theorem tree_done {a : Act} {w : World} (h : Q .normal a w) : wpTree P ops S (NoPan Q) .done a w := h
end
end Go.Proofs.YtdojmjglnlkmoaaDoor
/- Where the ways of a piece of code meet: its frame as a function of what is new, left open till the first way ends. No condition. -/
namespace Go.Proofs.YtdojmjglnlkmoaaDoor
set_option linter.unusedVariables false
set_option linter.unusedSimpArgs false
set_option linter.constructorNameAsVariable false
open Go.RowKit

theorem wp_join {α : Type} {P : Program} {c : Code} {Q : Exit → Act → World → Prop} {a : Act} {w : World} (R : α → World → Prop) {F : α → Act}
    (h1 : ∀ K' : Act → World → Prop, Hid (∀ x w', R x w' → K' (F x) w') → c.wp P (Exit.then K' fun _ _ _ => False) a w)
    (h2 : ∀ x w', R x w' → Q .normal (F x) w') : c.wp P Q a w :=
  wp_sw (fun a' w' => ∃ x, a' = F x ∧ R x w') (fun a' w' ⟨x, e, h⟩ => e ▸ h2 x w' h) (fun K' hK => h1 K' (Lib.hid fun x w' h => hK _ _ ⟨x, rfl, h⟩))
section
variable {P : Program} {ops : Array Oper} {Q : Exit → Act → World → Prop} {S : World → Prop}
/-- An allocation, as an act. -/
theorem act_alloc {i : Nat} {o : Oper} {R : Act → World → Prop} {a : Act} {w : World} {T : TypeId} {n : Nat} {Z : Value} (ho : ops[i]? = some o) (hw : Region.wanted o (yielded ops a.tmps) = true) (hop : o.op = .alloc T) (hZ : (P.info? T).map (fun i => (i.zero, i.size)) = some (some Z, n))
    (h : ∀ g w', g = w.heap.size → Blk w' g T Z.cells → New w w' → S w' ∧ R (a.put o.dst (.pointer (some ⟨g, 0, none⟩))) w') : ActOk P ops S Q i R a w := by
  refine ⟨o, ho, ?_⟩
  rw [if_pos hw]
  obtain ⟨z1, z2⟩ := zero_of_info hZ
  have hal : (Instr.alloc T true (.tuple #[])).run P w = .ok (.pointer (some ⟨w.heap.size, 0, none⟩)) (w.alloc (.cells Z.cells T)) := by
    unfold Instr.alloc
    simp [Sem.run_bind, z1 w, newVar, newRow, go_sem, Result.andThen]
  unfold Oper.wp
  simp only [execOp, hop, hal, Result.andThen_ok, Sem.run_bind, Sem.run_pure]
  exact h _ _ rfl (Blk.new _ _ _) (New.al (New.refl _) _)
theorem tree_act_alloc {i : Nat} {o : Oper} {t : Tr} {a : Act} {w : World} {T : TypeId} {n : Nat} {Z : Value} (ho : ops[i]? = some o) (hw : Region.wanted o (yielded ops a.tmps) = true) (hop : o.op = .alloc T) (hZ : (P.info? T).map (fun i => (i.zero, i.size)) = some (some Z, n))
    (h : ∀ g w', g = w.heap.size → Blk w' g T Z.cells → New w w' → S w' ∧ wpTree P ops S Q t (a.put o.dst (.pointer (some ⟨g, 0, none⟩))) w') : wpTree P ops S Q (.act i t) a w :=
  act_alloc ho hw hop hZ h
/-- A whole row stored, as an act. -/
theorem act_store {i : Nat} {o : Oper} {R : Act → World → Prop} {a : Act} {w : World} {T : TypeId} {g : Nat} {cs0 cs : Array Value} (ho : ops[i]? = some o) (hw : Region.wanted o (yielded ops a.tmps) = true) (x y : Operand) (hop : o.op = .store T x y) (hi : (P.info? T).map (·.size) = some cs.size) (hx : a.eval x = .pointer (some ⟨g, 0, none⟩)) (hy : a.eval y = .agg cs) (hb : Blk w g T cs0) (h0 : cs0.size = cs.size) (h1 : cs.all (·.oneCell') = true)
    (h : ∀ w', Blk w' g T cs → Fr (fun k => k = g) w w' → S w' ∧ R (a.put o.dst undef) w') : ActOk P ops S Q i R a w := by
  refine ⟨o, ho, ?_⟩
  obtain ⟨r1, r2⟩ := setRow_blk (cs' := cs) hb
  rw [if_pos hw]
  unfold Oper.wp execOp
  simp only [hop, hx, hy, Instr.storeAt, Instr.sureAddr, Sem.run_bind, Sem.run_pure, Result.andThen_ok, run_storeVar_row w g T T cs0 cs hb (by rw [hi]) (by omega) h1]
  exact h _ r1 r2
theorem tree_take_row {i : Nat} {o : Oper} {t : Tr} {a : Act} {w : World} {T : TypeId} {d : TypeDesc} {b off : Nat} {cs : List Value} (ho : ops[i]? = some o) (hw : Region.wanted o (yielded ops a.tmps) = true) (x : Operand) (hop : o.op = .load T x) (hx : a.eval x = .pointer (some ⟨b, off, none⟩))
    (hc : ∀ w', S w' → w'.rangeAt b off cs) (hu : P.underlying T = some d) (hd : d.isRow = true) (hi : (P.info? T).map (·.size) = some cs.length)
    (h : wpTree P ops S Q t (a.put o.dst (.agg cs.toArray)) w) : wpTree P ops S Q (.take i t) a w :=
  ⟨o, ho, by
    rw [if_pos hw]
    refine ⟨_, fun p => ?_, h⟩
    unfold execOp
    simp only [hop, hx, Instr.loadAt, Instr.sureAddr, Sem.run_bind, Sem.run_pure, Result.andThen_ok, run_loadVar_mid p.w b off T cs d (hc _ p.h) hu hd hi]⟩
end
end Go.Proofs.YtdojmjglnlkmoaaDoor
