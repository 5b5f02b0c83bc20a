/- Texts of one proof, one behind the other: DrA, DrB, DrC, DrD. No condition but each one's own. -/
import Derived.Test.YteeclfejgpgooaaDoorLogPlaysM17
import Derived.Test.YteeclfejgpgooaaDoorLogPlaysM3
/- The reference's disk: made, read. No condition but that it can be read. -/
namespace Go.Proofs.YteeclfejgpgooaaDoor
set_option linter.unusedVariables false
set_option linter.unusedSimpArgs false
set_option linter.constructorNameAsVariable false
open Go.RowKit Go.Maps

/-- A put sector of a list. -/
theorem rd_put {q : Nat → Prop} {w : World} {A : Option Addr} {n : Nat} {L : List PU} (h : Rd q w 65 A n (flatP L)) (hL : L.length = n) (hg : ∀ a ∈ L, SecOk a.s) {i : Nat} (hi : i < n) :
    ∃ (g o : Nat) (hl : i < L.length), A = some ⟨g, o, none⟩ ∧ g < w.heap.size ∧ w.cell? ⟨g, o + i * 65, none⟩ = some (.int .i64 L[i].pos) ∧ w.rangeAt g (o + i * 65 + 1) (u8s L[i].s) := by
  obtain ⟨g, o, hA, hp, hgs, hc⟩ := h.out (by omega) (by omega)
  have hl : i < L.length := by omega
  have key : ∀ j, j < 65 → ∀ v, (L[i].cells)[j]? = some v → w.cell? ⟨g, o + i * 65 + j, none⟩ = some v := fun j hj v hv => by
    have := fm_get PU.cells 65 L i j hl (fun x hx => PU.len (hg x hx)) hj
    rw [Nat.add_assoc]
    exact hc (i * 65 + j) v (by rw [flatP, this, hv])
  refine ⟨g, o, hl, hA, hgs, key 0 (by omega) _ rfl, fun j v hv => ?_⟩
  have hj : j < 64 := by
    have := (List.getElem?_eq_some_iff.1 hv).1
    rwa [u8s_len, (hg _ (List.getElem_mem _)).1] at this
  rw [Nat.add_assoc]
  have := key (1 + j) (by omega) v (by simp only [PU.cells]; rw [Nat.add_comm, List.getElem?_cons_succ]; exact hv)
  exact this
/-- What get answers. -/
def getS (L : List PU) (x : Int) : List Int := (lastP L x).getD sec0

set_option maxHeartbeats 2000000 in
set_option maxRecDepth 100000 in
theorem get_any {q : Nat → Prop} (A : Option Addr) (n c : Nat) (L : List PU) (x : Int) (w : World) (hR : Rd q w 65 A n (flatP L)) (hL : L.length = n) (hg : ∀ a ∈ L, SecOk a.s) (hn : n ≤ 1000000) :
    Calls Tryd.prog 45 #[.slice A n c, .int .i64 x] w fun e w' => e = .returned (.tuple #[.agg (secA (getS L x)), .bool (lastP L x).isSome]) ∧ New w w' := by
  have HR := Lib.hid hR
  have HL := Lib.hid hL
  have HG := Lib.hid hg
  clear hR hL hg
  go_enter Tryd.func45, Tryd.ntmps45
  go_wp2_with ((with_reducible refine atOp ⟨some 4, .alloc _, _, _, _, _⟩ ?_); refine wpList_alloc_sec rfl rfl secInfo ?_)
  obtain ⟨w0, hw0⟩ : ∃ w0 : World, w0 = w.alloc (.cells (secA sec0) 35) := ⟨_, rfl⟩
  have HN0 : Hid (New w w0) := Lib.hid (by rw [hw0]; exact New.al (New.refl _) _)
  have HB0 : Hid (Blk w0 w.heap.size 35 (secA sec0)) := Lib.hid (by rw [hw0]; exact Blk.new _ _ _)
  rw [← hw0]
  clear hw0
  go_loopw [6] (fun i wr => ∃ (j : Nat), j ≤ n ∧ i = .int .i64 ((j : Int) - 1) ∧ wr = w0 ∧ Hid (lastP L x = lastP (L.take j) x)) (fun i _ => (intOf i + 1).toNat)
  case atStart => exact ⟨n, by omega, by go_num, rfl, Lib.hid (by rw [List.take_of_length_le (by rw [HL.out]; omega)])⟩
  case round =>
    obtain ⟨j, hj, rfl, rfl, HI⟩ := hrel
    rcases j with _ | j
    · have HI0 : Hid (lastP L x = none) := Lib.hid (by rw [HI.out]; rfl)
      have HGS : Hid (getS L x = sec0) := Lib.hid (by unfold getS; rw [HI0.out]; rfl)
      have hbuild : ∀ w, (Instr.build 35 #[]).run Tryd.prog w = .ok (.agg (secA sec0)) w := fun _ => by kernel_rfl
      clear HI
      go_wp2_with ((with_reducible refine atOp ⟨none, .store 35 (.tmp 4) _, _, _, _, _⟩ ?_); refine wpList_store_blk (s := sec0) (s0 := sec0) rfl (.tmp 4) (.tmp 26) rfl rfl rfl rfl HB0.out rfl sec0_ok.1 ?_; intro w2 hb2 hf2; have HB2 := Lib.hid hb2; have HF2 := Lib.hid hf2; clear hb2 hf2)
      refine bodyPost_ret (results_sec2 rfl _ _ rfl HB2.out Tryd.underlying35 rfl sec0_ok.1) rfl ?_
      exact ⟨by rw [HGS.out, HI0.out]; rfl, HN0.out.fr HF2.out (fun k hk => by omega)⟩
    · obtain ⟨gA, oA, hl, rfl, -, cp, hra⟩ := rd_put (HN0.out.rd HR.out) HL.out HG.out (show j < n by omega)
      have hsn : lastP (L.take (j + 1)) x = if L[j].pos = x then some L[j].s else lastP (L.take j) x := by rw [List.take_succ_eq_append_getElem hl, lastP_snoc]
      have hok := HG.out L[j] (List.getElem_mem _)
      generalize L[j] = pu at cp hra hsn hok
      have HSN := Lib.hid hsn
      have HRA := Lib.hid hra
      have HOK := Lib.hid hok
      have hj0 : (0 : Int) ≤ ((j + 1 : Nat) : Int) - 1 := by omega
      have hj1 : (((j + 1 : Nat) : Int) - 1).toNat = j := by omega
      have hj2 : ((j + 1 : Nat) : Int) - 1 = (j : Int) := by omega
      have hlt : j < n := by omega
      rw [hj2]
      clear hsn hra hok hj0 hj1 hj2
      by_cases hp : pu.pos = x
      · have HLX : Hid (lastP L x = some pu.s) := Lib.hid (by rw [HI.out, HSN.out, if_pos hp])
        have HGS : Hid (getS L x = pu.s) := Lib.hid (by unfold getS; rw [HLX.out]; rfl)
        have hpb : (pu.pos == x) = true := by simp [hp]
        clear hp HI
        go_wp2_with (first
          | ((with_reducible refine atOp ⟨some 25, .load _ _, _, _, _, _⟩ ?_); refine wpList_load_range rfl _ rfl rfl HRA.out Tryd.underlying35 rfl (by rw [u8s_len, HOK.out.1]; rfl) ?_)
          | ((with_reducible refine atOp ⟨none, .store 35 (.tmp 4) _, _, _, _, _⟩ ?_); refine wpList_store_blk (s := pu.s) (s0 := sec0) rfl (.tmp 4) (.tmp 25) rfl rfl rfl rfl HB0.out rfl HOK.out.1 ?_; intro w2 hb2 hf2; have HB2 := Lib.hid hb2; have HF2 := Lib.hid hf2; clear hb2 hf2))
        refine bodyPost_ret (results_sec2 rfl _ _ rfl HB2.out Tryd.underlying35 rfl HOK.out.1) rfl ?_
        exact ⟨by rw [HGS.out, HLX.out]; rfl, HN0.out.fr HF2.out (fun k hk => by omega)⟩
      · have HI2 : Hid (lastP L x = lastP (L.take j) x) := Lib.hid (by rw [HI.out, HSN.out, if_neg hp])
        have hpb : (pu.pos == x) = false := by simp [hp]
        clear hp HI
        go_wp2_with fail
        go_roundw
        case rel => exact ⟨j, by omega, by go_num, trivial, HI2⟩
        case measure => simp [intOf]
theorem results_row1 {fn : Func} {p : Tmp} {ty : TypeId} {P : Program} (h : fn.results = #[.cell p ty]) (tmps : Array Value) (w : World) (g : Nat) (cs : Array Value) (d : TypeDesc)
    (hp : tmps.getD p undef = .pointer (some ⟨g, 0, none⟩)) (hg : Blk w g ty cs) (hu : P.underlying ty = some d) (hd : d.isRow = true) (hi : (P.info? ty).map (·.size) = some cs.size) :
    (results fn tmps).run P w = .ok (.agg cs) w := results_cell_row h tmps w g ty cs (0, 0) d hp hg hu (by cases d <;> first | rfl | (simp [TypeDesc.isRow] at hd)) hi
theorem results_row2 {fn : Func} {p q : Tmp} {ty : TypeId} {P : Program} (h : fn.results = #[.cell p ty, .tmp q]) (tmps : Array Value) (w : World) (g : Nat) (cs : Array Value) (d : TypeDesc)
    (hp : tmps.getD p undef = .pointer (some ⟨g, 0, none⟩)) (hg : Blk w g ty cs) (hu : P.underlying ty = some d) (hd : d.isRow = true) (hi : (P.info? ty).map (·.size) = some cs.size) :
    (results fn tmps).run P w = .ok (.tuple #[.agg cs, tmps.getD q undef]) w := by
  have hp' : tmps[p]?.getD undef = .pointer (some ⟨g, 0, none⟩) := by simpa using hp
  simp [results, h, hp', asAddr, run_loadVar_row w g ty ty cs (0, 0) _ hg hu (by cases d <;> first | rfl | (simp [TypeDesc.isRow] at hd)) hi]

set_option maxRecDepth 100000 in
theorem rnew_any (n : Int) (w : World) : Calls Tryd.prog 9 #[.int .i64 n] w fun e w' => e = .returned (.agg (RfV (RP.new n) none 0 none 0)) ∧ New w w' := by
  go_enter Tryd.func9, Tryd.ntmps9
  go_wp2_with fail
  refine bodyPost_ret (v := .agg (RfV (RP.new n) none 0 none 0)) (results_row1 rfl _ _ w.heap.size _ _ rfl (Blk.new _ _ _) Tryd.underlying32 rfl rfl) rfl ?_
  exact ⟨rfl, (New.refl w).al _⟩

set_option maxHeartbeats 4000000 in
set_option maxRecDepth 100000 in
theorem rread_any (r : RP) (A1 : Option Addr) (c1 : Nat) (A2 : Option Addr) (c2 : Nat) (x : Int) (w : World) (h : RfIn w r A1 A2) (hn : r.tot ≤ 1000000) (hx : (Lit.int .i64 x).wf = true) (hz : -9223372036854775808 ≤ r.size ∧ r.size ≤ 9223372036854775807) :
    Calls Tryd.prog 20 #[.agg (RfV r A1 c1 A2 c2), .int .i64 x] w fun e w' => e = .returned (.tuple #[.agg (secA (r.rget x)), .int .i64 (r.rcode x)]) ∧ New w w' := by
  have H := Lib.hid h
  have HT1 : Hid (r.sure.length ≤ 1000000) := Lib.hid (by unfold RP.tot at hn; omega)
  have HT2 : Hid (r.fresh.length ≤ 1000000) := Lib.hid (by unfold RP.tot at hn; omega)
  have hxb := bounds_i64 hx
  unfold RfV
  clear h hn hx
  by_cases hw : 0 ≤ x ∧ x < r.size
  · have t0 : decide (x < 0) = false := decide_eq_false (by omega)
    have t1 : decide (r.size ≤ x) = false := decide_eq_false (by omega)
    have HC : Hid (r.rcode x = 0 ∧ r.rget x = (match lastP r.fresh x with | some s => s | none => (lastP r.sure x).getD sec0)) := Lib.hid (by
      unfold RP.rcode RP.rget RP.within
      rw [decide_eq_true hw]; exact ⟨rfl, rfl⟩)
    clear hw
    go_enter Tryd.func20, Tryd.ntmps20
    go_wp2_with ((with_reducible refine atOp ⟨some 4, .alloc _, _, _, _, _⟩ ?_); refine wpList_alloc_sec rfl rfl secInfo ?_)
    obtain ⟨w0, hw0⟩ : ∃ w0 : World, w0 = (w.alloc (.cells #[.int .i64 r.size, .slice A1 r.sure.length c1, .slice A2 r.fresh.length c2, .int .i64 r.fuse, .bool r.down] 32)).alloc (.cells (secA sec0) 35) := ⟨_, rfl⟩
    have HN0 : Hid (New w w0) := Lib.hid (by rw [hw0]; exact ((New.refl w).al _).al _)
    have HB0 : Hid (Blk w0 (w.heap.size + 1) 35 (secA sec0)) := Lib.hid (by rw [hw0]; exact Blk.new' _ _ _ (by simp))
    have HR0 : Hid (Blk w0 w.heap.size 32 #[.int .i64 r.size, .slice A1 r.sure.length c1, .slice A2 r.fresh.length c2, .int .i64 r.fuse, .bool r.down]) := Lib.hid (by rw [hw0]; exact (Blk.new _ _ _).alloc _)
    rw [← hw0]
    clear hw0
    refine (get_any A2 r.fresh.length c2 r.fresh x w0 ((H.out.new HN0.out).fresh) rfl H.out.ok.2 HT2.out).mono ?_
    rintro e w1 ⟨rfl, hN1⟩
    have HN1 : Hid (New w w1) := Lib.hid (HN0.out.tr hN1)
    have HB1 := Lib.hid (New.blk hN1 HB0.out)
    have HR1 := Lib.hid (New.blk hN1 HR0.out)
    have hok := lastP_ok H.out.ok.2 x
    clear hN1
    cases hf : lastP r.fresh x with
    | some s =>
      have HF := Lib.hid hf
      have HG : Hid (getS r.fresh x = s) := Lib.hid (by unfold getS; rw [hf]; rfl)
      have HOK : Hid (SecOk s) := Lib.hid (by rw [hf] at hok; exact hok)
      clear hok hf
      rw [HG.out]
      simp only [Option.isSome_some]
      go_wp2_with (first
        | ((with_reducible refine atOp ⟨some 6, .alloc _, _, _, _, _⟩ ?_); refine wpList_newvar (s := s) rfl rfl rfl _ _ rfl secInfo rfl rfl rfl HOK.out.1 ?_)
        | ((with_reducible refine atOp ⟨some 27, .load _ _, _, _, _, _⟩ ?_); refine wpList_load_blk (s := s) rfl _ rfl Tryd.underlying35 rfl rfl (Blk.new _ _ _) HOK.out.1 ?_)
        | ((with_reducible refine atOp ⟨none, .store 35 (.tmp 4) _, _, _, _, _⟩ ?_); refine wpList_store_blk (s := s) (s0 := sec0) rfl (.tmp 4) (.tmp 27) rfl rfl rfl rfl (HB1.out.alloc _) rfl HOK.out.1 ?_; intro w2 hb2 hf2; have HB2 := Lib.hid hb2; have HF2 := Lib.hid hf2; clear hb2 hf2))
      refine bodyPost_ret (results_sec2 rfl _ _ rfl HB2.out Tryd.underlying35 rfl HOK.out.1) rfl ?_
      exact ⟨by rw [HC.out.1, HC.out.2, HF.out]; rfl, (HN1.out.al _).fr HF2.out (fun k hk => by omega)⟩
    | none =>
      have HF := Lib.hid hf
      have HG : Hid (getS r.fresh x = sec0) := Lib.hid (by unfold getS; rw [hf]; rfl)
      have HOK : Hid (SecOk (getS r.sure x)) := Lib.hid (lastP_ok H.out.ok.1 x)
      have HR2 := HR1.out.cell 1
      have e1 : ∀ o : Obj, (w1.alloc o).cell? ⟨w.heap.size, 1, none⟩ = some (.slice A1 r.sure.length c1) := fun o => (New.al (New.refl w1) o).cell_ (HR1.out.cell 1)
      clear hok hf HR2
      rw [HG.out]
      simp only [Option.isSome_none]
      go_wp2_with ((with_reducible refine atOp ⟨some 6, .alloc _, _, _, _, _⟩ ?_); refine wpList_newvar (s := sec0) rfl rfl rfl _ _ rfl secInfo rfl rfl rfl sec0_ok.1 ?_)
      obtain ⟨w2, hw2⟩ : ∃ w2 : World, w2 = w1.alloc (.cells (secA sec0) 35) := ⟨_, rfl⟩
      have HN2 : Hid (New w w2) := Lib.hid (by rw [hw2]; exact HN1.out.al _)
      have HB2 : Hid (Blk w2 (w.heap.size + 1) 35 (secA sec0)) := Lib.hid (by rw [hw2]; exact HB1.out.alloc _)
      rw [← hw2]
      clear hw2 e1
      refine (get_any A1 r.sure.length c1 r.sure x w2 ((H.out.new HN2.out).sure) rfl H.out.ok.1 HT1.out).mono ?_
      rintro e w3 ⟨rfl, hN3⟩
      have HN3 : Hid (New w w3) := Lib.hid (HN2.out.tr hN3)
      have HB3 := Lib.hid (New.blk hN3 HB2.out)
      have HE : Hid (r.rget x = getS r.sure x) := Lib.hid (by rw [HC.out.2, HF.out]; rfl)
      clear hN3
      generalize getS r.sure x = s at *
      go_wp2_with (first
        | ((with_reducible refine atOp ⟨some 8, .alloc _, _, _, _, _⟩ ?_); refine wpList_newvar (s := s) rfl rfl rfl _ _ rfl secInfo rfl rfl rfl HOK.out.1 ?_)
        | ((with_reducible refine atOp ⟨some 35, .load _ _, _, _, _, _⟩ ?_); refine wpList_load_blk (s := s) rfl _ rfl Tryd.underlying35 rfl rfl (Blk.new _ _ _) HOK.out.1 ?_)
        | ((with_reducible refine atOp ⟨none, .store 35 (.tmp 4) _, _, _, _, _⟩ ?_); refine wpList_store_blk (s := s) (s0 := sec0) rfl (.tmp 4) (.tmp 35) rfl rfl rfl rfl (HB3.out.alloc _) rfl HOK.out.1 ?_; intro w4 hb4 hf4; have HB4 := Lib.hid hb4; have HF4 := Lib.hid hf4; clear hb4 hf4))
      refine bodyPost_ret (results_sec2 rfl _ _ rfl HB4.out Tryd.underlying35 rfl HOK.out.1) rfl ?_
      exact ⟨by rw [HC.out.1, HE.out]; rfl, (HN3.out.al _).fr HF4.out (fun k hk => by omega)⟩
  · have HC : Hid (r.rcode x = 1 ∧ r.rget x = sec0) := Lib.hid (by
      unfold RP.rcode RP.rget RP.within
      rw [decide_eq_false hw]; exact ⟨rfl, rfl⟩)
    have hbuild : ∀ w, (Instr.build 35 #[]).run Tryd.prog w = .ok (.agg (secA sec0)) w := fun _ => by kernel_rfl
    by_cases hx0 : x < 0
    · have t0 : decide (x < 0) = true := decide_eq_true hx0
      clear hw
      go_enter Tryd.func20, Tryd.ntmps20
      go_wp2_with (first
        | ((with_reducible refine atOp ⟨some 4, .alloc _, _, _, _, _⟩ ?_); refine wpList_alloc_sec rfl rfl secInfo ?_)
        | ((with_reducible refine atOp ⟨none, .store 35 (.tmp 4) _, _, _, _, _⟩ ?_); refine wpList_store_blk (s := sec0) (s0 := sec0) rfl (.tmp 4) (.tmp 18) rfl rfl rfl rfl (Blk.new' _ _ _ (by simp)) rfl sec0_ok.1 ?_; intro w4 hb4 hf4; have HB4 := Lib.hid hb4; have HF4 := Lib.hid hf4; clear hb4 hf4))
      refine bodyPost_ret (results_sec2 rfl _ _ rfl HB4.out Tryd.underlying35 rfl sec0_ok.1) rfl ?_
      exact ⟨by rw [HC.out.1, HC.out.2]; rfl, (((New.refl w).al _).al _).fr HF4.out (fun k hk => by omega)⟩
    · have t0 : decide (x < 0) = false := decide_eq_false hx0
      have t1 : decide (r.size ≤ x) = true := decide_eq_true (by omega)
      clear hw
      go_enter Tryd.func20, Tryd.ntmps20
      go_wp2_with (first
        | ((with_reducible refine atOp ⟨some 4, .alloc _, _, _, _, _⟩ ?_); refine wpList_alloc_sec rfl rfl secInfo ?_)
        | ((with_reducible refine atOp ⟨none, .store 35 (.tmp 4) _, _, _, _, _⟩ ?_); refine wpList_store_blk (s := sec0) (s0 := sec0) rfl (.tmp 4) (.tmp 18) rfl rfl rfl rfl (Blk.new' _ _ _ (by simp)) rfl sec0_ok.1 ?_; intro w4 hb4 hf4; have HB4 := Lib.hid hb4; have HF4 := Lib.hid hf4; clear hb4 hf4))
      refine bodyPost_ret (results_sec2 rfl _ _ rfl HB4.out Tryd.underlying35 rfl sec0_ok.1) rfl ?_
      exact ⟨by rw [HC.out.1, HC.out.2]; rfl, (((New.refl w).al _).al _).fr HF4.out (fun k hk => by omega)⟩
/-- A part laid into a struct's cells. -/
theorem fold_set (k : Nat) : ∀ (L : List Value) (m : Nat) (C : Array Value) (i : Nat), k + m + L.length ≤ C.size →
    (List.foldl (fun cs x => cs.setIfInBounds (k + x.snd) x.fst) C (L.zipIdx m))[i]? = if k + m ≤ i ∧ i < k + m + L.length then L[i - (k + m)]? else C[i]?
  | [], m, C, i, _ => by simp; intro h1 h2; omega
  | v :: L, m, C, i, h => by
    simp only [List.length_cons] at h
    rw [List.zipIdx_cons, List.foldl_cons, fold_set k L (m + 1) _ i (by simp; omega)]
    simp only [List.length_cons]
    by_cases h1 : k + (m + 1) ≤ i ∧ i < k + (m + 1) + L.length
    · rw [if_pos h1, if_pos (by omega)]
      rw [show i - (k + m) = (i - (k + (m + 1))) + 1 by omega, List.getElem?_cons_succ]
    · rw [if_neg h1, Array.getElem?_setIfInBounds]
      by_cases h2 : k + m = i
      · subst h2
        rw [if_pos rfl, if_pos (by omega), if_pos (by omega), Nat.sub_self]
        rfl
      · rw [if_neg h2, if_neg (by omega)]
def putA (x : Int) (s : List Int) : Array Value := (PU.cells ⟨x, s⟩).toArray
def putZ : Array Value := putA 0 sec0
theorem putZ_size : putZ.size = 65 := by simp [putZ, putA, PU.len (x := ⟨0, sec0⟩) sec0_ok]
theorem putZ_ne : putZ ≠ #[] := fun e => by have := congrArg Array.size e; rw [putZ_size] at this; simp at this
theorem putZ_zero (w : World) : (zeroValue 92).run Tryd.prog w = .ok (.agg putZ) w := (zero_of_info (n := 65) (by kernel_rfl)).1 w
theorem put_fold {x : Int} {s : List Int} (hs : SecOk s) : List.foldl (fun cs x => cs.setIfInBounds (1 + x.snd) x.fst) (putZ.setIfInBounds 0 (.int .i64 x)) (u8s s).zipIdx = putA x s := by
  apply Array.ext_getElem?
  intro i
  have hl : (u8s s).length = 64 := by rw [u8s_len, hs.1]
  rw [fold_set 1 (u8s s) 0 _ i (by simp [putZ_size, hl])]
  rw [hl]
  unfold putA PU.cells
  by_cases h : 1 + 0 ≤ i ∧ i < 1 + 0 + 64
  · rw [if_pos h]
    obtain ⟨j, rfl⟩ : ∃ j, i = j + 1 := ⟨i - 1, by omega⟩
    simp
  · rw [if_neg h]
    by_cases h0 : i = 0
    · subst h0
      rw [Array.getElem?_setIfInBounds, if_pos rfl, if_pos (by rw [putZ_size]; omega)]
      rfl
    · rw [Array.getElem?_setIfInBounds, if_neg (by omega), Array.getElem?_eq_none (by rw [putZ_size]; omega)]
      simp [hl]
      omega

theorem putA_size {x : Int} {s : List Int} (hs : SecOk s) : (putA x s).size = 65 := by simp [putA, PU.len (x := ⟨x, s⟩) hs]
theorem put_fold2 {x : Int} {s : List Int} (hs : SecOk s) (C : Array Value) (hC : C.size = 65) : Array.foldl (fun cs x => cs.setIfInBounds x.snd x.fst) C ((putA x s).zipIdx) 0 65 = putA x s := by
  have h65 : ((putA x s).zipIdx).size = 65 := by simp [putA_size hs]
  have e : Array.foldl (fun cs x => cs.setIfInBounds x.snd x.fst) C ((putA x s).zipIdx) 0 65 = List.foldl (fun cs x => cs.setIfInBounds (0 + x.snd) x.fst) C ((putA x s).toList.zipIdx 0) := by
    have := Array.foldl_toList (fun (cs : Array Value) (x : Value × Nat) => cs.setIfInBounds x.snd x.fst) (init := C) (xs := (putA x s).zipIdx)
    rw [h65] at this
    rw [← this, Array.toList_zipIdx]
    simp only [Nat.zero_add]
  rw [e]
  apply Array.ext_getElem?
  intro i
  have hl : (putA x s).toList.length = 65 := by simp [putA_size hs]
  rw [fold_set 0 _ 0 C i (by omega), hl]
  by_cases h : 0 + 0 ≤ i ∧ i < 0 + 0 + 65
  · rw [if_pos h]; simp
  · rw [if_neg h, Array.getElem?_eq_none (by omega), Array.getElem?_eq_none (by rw [putA_size hs]; omega)]

end Go.Proofs.YteeclfejgpgooaaDoor
/- The reference's disk: written. No condition but that it can be read. -/
namespace Go.Proofs.YteeclfejgpgooaaDoor
set_option linter.unusedVariables false
set_option linter.unusedSimpArgs false
set_option linter.constructorNameAsVariable false
open Go.RowKit Go.Maps

theorem rf_one (a : Int) (A : Option Addr) (n c : Nat) (B : Option Addr) (m d : Nat) (e : Int) (f : Bool) : (#[Value.int .i64 a, .slice A n c, .slice B m d, .int .i64 e, .bool f]).all (·.oneCell') = true := by simp [Value.oneCell']
set_option maxHeartbeats 4000000 in
set_option maxRecDepth 100000 in
theorem rwrite_in (r : RP) (A1 : Option Addr) (c1 : Nat) (A2 : Option Addr) (c2 : Nat) (x : Int) (s : List Int) (w : World) (h : RfIn w r A1 A2) (hs : SecOk s) (hn : r.tot ≤ 100000) (hx : (Lit.int .i64 x).wf = true) (hf : (Lit.int .i64 r.fuse).wf = true) (hw : 0 ≤ x ∧ x < r.size) (hd : ¬ (r.fuse = 0 ∨ r.down = true)) :
    Calls Tryd.prog 11 #[.agg (RfV r A1 c1 A2 c2), .int .i64 x, .agg (secA s)] w fun e w' => RfEnd w' (r.write x s) 0 e ∧ New w w' := by
  have H := Lib.hid h
  have HS := Lib.hid hs
  have HT2 : Hid (r.fresh.length ≤ 100000) := Lib.hid (by unfold RP.tot at hn; omega)
  have hfb := bounds_i64 hf
  have t0 : decide (x < 0) = false := decide_eq_false (by omega)
  have t1 : decide (r.size ≤ x) = false := decide_eq_false (by omega)
  have hz' : (r.fuse == 0) = false := by simp; exact fun e => hd (.inl e)
  have hdn : r.down = false := by
    cases hq : r.down with
    | true => exact absurd (.inr hq) hd
    | false => rfl
  have HW : Hid (r.write x s = { r.burn with fresh := r.fresh ++ [⟨x, s⟩] }) := Lib.hid (by unfold RP.write RP.within; rw [decide_eq_true hw, if_pos rfl, if_neg hd])
  unfold RfV
  rw [hdn]
  have HDN := Lib.hid hdn
  clear h hs hn hx hf hw hd hdn
  go_enter Tryd.func11, Tryd.ntmps11
  go_upto_region 6 with fail
  obtain ⟨w3, hw3⟩ : ∃ w3 : World, w3 = ((w.alloc (.cells #[.int .i64 r.size, .slice A1 r.sure.length c1, .slice A2 r.fresh.length c2, .int .i64 r.fuse, .bool false] 32)).alloc (.cells (secA s) 35)).alloc (.cells #[.int .i64 0, .slice none 0 0, .slice none 0 0, .int .i64 0, .bool false] 32) := ⟨_, rfl⟩
  obtain ⟨G, hG⟩ : ∃ G, G = w.heap.size := ⟨_, rfl⟩
  rw [← hG]
  have HN3 : Hid (New w w3) := Lib.hid (by rw [hw3]; exact (((New.refl w).al _).al _).al _)
  have hB3 : Blk w3 G 32 #[.int .i64 r.size, .slice A1 r.sure.length c1, .slice A2 r.fresh.length c2, .int .i64 r.fuse, .bool false] := by rw [hw3, hG]; exact ((Blk.new _ _ _).alloc _).alloc _
  have HB3 := Lib.hid hB3
  have hS3 : Blk w3 (G + 1) 35 (secA s) := by rw [hw3, hG]; exact (Blk.new' _ _ _ (by simp)).alloc _
  have hR3 : Blk w3 (G + 1 + 1) 32 #[.int .i64 0, .slice none 0 0, .slice none 0 0, .int .i64 0, .bool false] := by rw [hw3, hG]; exact Blk.new' _ _ _ (by simp)
  have HR3 := Lib.hid hR3
  rw [← hw3]
  have HGW : Hid (G = w.heap.size) := Lib.hid hG
  clear hw3 hG
  have i3 := hB3.cell 3
  have q3 := hB3.frozen 3
  obtain ⟨w4, hw4⟩ : ∃ w4, w4 = (if 0 < r.fuse then w3.setCell ⟨G, 3, none⟩ (.int .i64 (r.fuse - 1)) else w3) := ⟨_, rfl⟩
  have HF34 : Hid (Fr (fun k => k = G) w3 w4) := Lib.hid (by
    rw [hw4]; split
    · exact (Fr.refl _ w3).setCell (S := fun k => k = G) (p := ⟨G, 3, none⟩) (fun _ => rfl) _
    · exact Fr.refl _ _)
  have HB4 : Hid (Blk w4 G 32 #[.int .i64 r.size, .slice A1 r.sure.length c1, .slice A2 r.fresh.length c2, .int .i64 r.burn.fuse, .bool false]) := Lib.hid (by
    rw [hw4]
    unfold RP.burn
    split
    · exact hB3.set 3 _
    · exact hB3)
  have HS4 := Lib.hid (hS3.fr HF34.out (by omega))
  have HR4 := Lib.hid (hR3.fr HF34.out (by omega))
  have HW4 := Lib.hid hw4
  clear hS3 hR3 hB3 hw4
  go_upto_region 8 with fail
  all_goals
    first
      | rw [show w3.setCell ⟨G, 3, none⟩ (.int .i64 (r.fuse - 1)) = w4 from by rw [HW4.out, if_pos (by assumption)]]
      | rw [show w3 = w4 from by rw [HW4.out, if_neg (by omega)]]
    clear i3 q3 hfb hz' t0 t1
    have d2 : w4.cell? ⟨G, 2, none⟩ = some (.slice A2 r.fresh.length c2) := HB4.out.cell 2
    have d2a := fun o : Obj => (New.al (New.refl w4) o).cell_ d2
    have d2b := fun o o' : Obj => (New.al (New.al (New.refl w4) o) o').cell_ d2
    have hSN : ∀ w', New w4 w' → w'.rangeAt (G + 1) 0 (u8s s) ∧ w'.cell? ⟨G, 2, none⟩ = some (.slice A2 r.fresh.length c2) := fun w' hN => ⟨(New.blk hN HS4.out).range, hN.cell_ d2⟩
    have HR4' : Hid (RdT 92 w4 65 A2 r.fresh.length (flatP r.fresh)) := Lib.hid (((H.out.new HN3.out).fresh).fr HF34.out (fun k hk => by subst hk; exact IsT.not_blk HB3.out (by decide)))
    have hu := Tryd.underlying35
    have hi : (Tryd.prog.info? 35).map (·.size) = some (u8s s).length := by rw [u8s_len, HS.out.1]; rfl
    have hn := HT2.out
    have z1 := putZ_zero
    have z2 := putZ_size
    have z3 := putZ_ne
    have z4 := put_fold (x := x) HS.out
    have z5 := putA_size (x := x) HS.out
    have z6 := put_fold2 (x := x) HS.out #[putZ[0]'(by rw [putZ_size]; omega), putZ[1]'(by rw [putZ_size]; omega), putZ[2]'(by rw [putZ_size]; omega), putZ[3]'(by rw [putZ_size]; omega), putZ[4]'(by rw [putZ_size]; omega), putZ[5]'(by rw [putZ_size]; omega), putZ[6]'(by rw [putZ_size]; omega), putZ[7]'(by rw [putZ_size]; omega), putZ[8]'(by rw [putZ_size]; omega), putZ[9]'(by rw [putZ_size]; omega), putZ[10]'(by rw [putZ_size]; omega), putZ[11]'(by rw [putZ_size]; omega), putZ[12]'(by rw [putZ_size]; omega), putZ[13]'(by rw [putZ_size]; omega), putZ[14]'(by rw [putZ_size]; omega), putZ[15]'(by rw [putZ_size]; omega), putZ[16]'(by rw [putZ_size]; omega), putZ[17]'(by rw [putZ_size]; omega), putZ[18]'(by rw [putZ_size]; omega), putZ[19]'(by rw [putZ_size]; omega), putZ[20]'(by rw [putZ_size]; omega), putZ[21]'(by rw [putZ_size]; omega), putZ[22]'(by rw [putZ_size]; omega), putZ[23]'(by rw [putZ_size]; omega), putZ[24]'(by rw [putZ_size]; omega), putZ[25]'(by rw [putZ_size]; omega), putZ[26]'(by rw [putZ_size]; omega), putZ[27]'(by rw [putZ_size]; omega), putZ[28]'(by rw [putZ_size]; omega), putZ[29]'(by rw [putZ_size]; omega), putZ[30]'(by rw [putZ_size]; omega), putZ[31]'(by rw [putZ_size]; omega), putZ[32]'(by rw [putZ_size]; omega), putZ[33]'(by rw [putZ_size]; omega), putZ[34]'(by rw [putZ_size]; omega), putZ[35]'(by rw [putZ_size]; omega), putZ[36]'(by rw [putZ_size]; omega), putZ[37]'(by rw [putZ_size]; omega), putZ[38]'(by rw [putZ_size]; omega), putZ[39]'(by rw [putZ_size]; omega), putZ[40]'(by rw [putZ_size]; omega), putZ[41]'(by rw [putZ_size]; omega), putZ[42]'(by rw [putZ_size]; omega), putZ[43]'(by rw [putZ_size]; omega), putZ[44]'(by rw [putZ_size]; omega), putZ[45]'(by rw [putZ_size]; omega), putZ[46]'(by rw [putZ_size]; omega), putZ[47]'(by rw [putZ_size]; omega), putZ[48]'(by rw [putZ_size]; omega), putZ[49]'(by rw [putZ_size]; omega), putZ[50]'(by rw [putZ_size]; omega), putZ[51]'(by rw [putZ_size]; omega), putZ[52]'(by rw [putZ_size]; omega), putZ[53]'(by rw [putZ_size]; omega), putZ[54]'(by rw [putZ_size]; omega), putZ[55]'(by rw [putZ_size]; omega), putZ[56]'(by rw [putZ_size]; omega), putZ[57]'(by rw [putZ_size]; omega), putZ[58]'(by rw [putZ_size]; omega), putZ[59]'(by rw [putZ_size]; omega), putZ[60]'(by rw [putZ_size]; omega), putZ[61]'(by rw [putZ_size]; omega), putZ[62]'(by rw [putZ_size]; omega), putZ[63]'(by rw [putZ_size]; omega), putZ[64]'(by rw [putZ_size]; omega)] rfl
    have zl : (u8s s).length = 64 := by rw [u8s_len, HS.out.1]
    have hP1 := fun u hu => flatP_cell r.fresh u hu
    have HP1 := Lib.hid hP1
    clear hP1
    refine wp_region_T (fun w' => w'.rangeAt (G + 1) 0 (u8s s) ∧ w'.cell? ⟨G, 2, none⟩ = some (.slice A2 r.fresh.length c2)) 10 (by kernel_rfl) ?_
    refine wpAnyT_take (i := 1) (v := .pointer (some ⟨G, 2, none⟩)) rfl (by kernel_rfl) (by kernel_rfl) (by kernel_rfl) (by kernel_rfl) (fun _ _ _ h => h) (Or.inl ⟨by rfl, fun w hSw => by have h1 := hSw.1; have h2 := hSw.2; clear hSw; go_simp⟩) (hSN _ (by repeat (first | with_reducible exact New.refl _ | with_reducible assumption | with_reducible refine New.dr ?_ | with_reducible refine New.al ?_ _) : New w4 _)) ?_
    try simp only [Act.put, List.setIfInBounds_toArray, List.set_cons_zero, List.set_cons_succ]
    refine wpAnyT_take (i := 2) (v := .slice A2 r.fresh.length c2) rfl (by kernel_rfl) (by kernel_rfl) (by kernel_rfl) (by kernel_rfl) (fun _ _ _ h => h) (Or.inl ⟨by rfl, fun w hSw => by have h1 := hSw.1; have h2 := hSw.2; clear hSw; go_simp⟩) (hSN _ (by repeat (first | with_reducible exact New.refl _ | with_reducible assumption | with_reducible refine New.dr ?_ | with_reducible refine New.al ?_ _) : New w4 _)) ?_
    try simp only [Act.put, List.setIfInBounds_toArray, List.set_cons_zero, List.set_cons_succ]
    refine wpAnyT_take (i := 4) (v := .int .i64 x) rfl (by kernel_rfl) (by kernel_rfl) (by kernel_rfl) (by kernel_rfl) (fun _ _ _ h => h) (Or.inl ⟨by rfl, fun w hSw => by have h1 := hSw.1; have h2 := hSw.2; clear hSw; go_simp⟩) (hSN _ (by repeat (first | with_reducible exact New.refl _ | with_reducible assumption | with_reducible refine New.dr ?_ | with_reducible refine New.al ?_ _) : New w4 _)) ?_
    try simp only [Act.put, List.setIfInBounds_toArray, List.set_cons_zero, List.set_cons_succ]
    refine wpAnyT_take (i := 5) (v := .agg (u8s s).toArray) rfl (by kernel_rfl) (by kernel_rfl) (by kernel_rfl) (by kernel_rfl) (fun _ _ _ h => h) (yieldsIf_load_mid (by rfl) _ _ rfl _ _ rfl _ _ (fun w hSw => hSw.1) hu rfl hi) (hSN _ (by repeat (first | with_reducible exact New.refl _ | with_reducible assumption | with_reducible refine New.dr ?_ | with_reducible refine New.al ?_ _) : New w4 _)) ?_
    try simp only [Act.put, List.setIfInBounds_toArray, List.set_cons_zero, List.set_cons_succ]
    refine wpAnyT_take (i := 6) (v := .agg (putA x s)) rfl (by kernel_rfl) (by kernel_rfl) (by kernel_rfl) (by kernel_rfl) (fun _ _ _ h => h) (Or.inl ⟨by rfl, fun w hSw => by have h1 := hSw.1; have h2 := hSw.2; clear hSw; go_simp⟩) (hSN _ (by repeat (first | with_reducible exact New.refl _ | with_reducible assumption | with_reducible refine New.dr ?_ | with_reducible refine New.al ?_ _) : New w4 _)) ?_
    try simp only [Act.put, List.setIfInBounds_toArray, List.set_cons_zero, List.set_cons_succ]
    refine wpAnyT_ready (rs := [0, 7]) (by kernel_rfl) (by simp) (AllT.cons (i := 0) rfl (fun K hK => ?_) (AllT.cons (i := 7) rfl (fun K hK => ?_) AllT.nil))
    · skip
      go_simp
      try simp only [Act.put, List.setIfInBounds_toArray, List.set_cons_zero, List.set_cons_succ]
      refine hK.out _ _ (fun _ => hSN _ (by repeat (first | with_reducible exact New.refl _ | with_reducible assumption | with_reducible refine New.dr ?_ | with_reducible refine New.al ?_ _) : New w4 _)) ?_
      refine wpAnyT_ready (rs := [3, 7]) (by kernel_rfl) (by simp) (AllT.cons (i := 3) rfl (fun K hK => ?_) (AllT.cons (i := 7) rfl (fun K hK => ?_) AllT.nil))
      · skip
        refine step_app elP _ (by rfl) (.tmp 33) (.tmp 35) (by rfl) w4.heap.size (.slice (some ⟨_, 0, none⟩) 0 0) 0 [] (by rfl) (own_lit (by repeat (first | with_reducible exact Blk.new' _ _ _ (by first | rfl | (simp; done)) | with_reducible refine Blk.drew ?_ | with_reducible refine Blk.alloc ?_ _ | with_reducible refine Blk.fr ?_ hF1 (by simp [Value.ownBlock]))) (by first | (simp; done) | (simp; omega))) A2 r.fresh.length c2 (flatP r.fresh) (by rfl) ((by repeat (first | with_reducible exact New.refl _ | with_reducible assumption | with_reducible refine New.dr ?_ | with_reducible refine New.al ?_ _) : New w4 _).rd HR4'.out) HP1.out (by unfold maxLen; omega) (by omega) (by first | (simp; done) | (simp; omega)) ?_
        intro A1' d1 w5 hO1 hF1 hA1
        have hN1 : New w4 w5 := (by repeat (first | with_reducible exact New.refl _ | with_reducible assumption | with_reducible refine New.dr ?_ | with_reducible refine New.al ?_ _) : New w4 _).fr hF1 (by intro k hk; simp [Value.ownBlock] at hk; omega)
        rw [Nat.zero_add, List.nil_append] at hO1
        rw [Nat.zero_add] at hA1
        rw [Nat.zero_add]
        try simp only [Act.put, List.setIfInBounds_toArray, List.set_cons_zero, List.set_cons_succ]
        refine hK.out _ _ (fun _ => hSN _ (by repeat (first | with_reducible exact New.refl _ | with_reducible assumption | with_reducible refine New.dr ?_ | with_reducible refine New.al ?_ _) : New w4 _)) ?_
        refine wpAnyT_ready (rs := [7]) (by kernel_rfl) (by simp) (AllT.cons (i := 7) rfl (fun K hK => ?_) AllT.nil)
        go_simp
        try simp only [Act.put, List.setIfInBounds_toArray, List.set_cons_zero, List.set_cons_succ]
        refine hK.out _ _ (fun _ => hSN _ (by repeat (first | with_reducible exact New.refl _ | with_reducible assumption | with_reducible refine New.dr ?_ | with_reducible refine New.al ?_ _) : New w4 _)) ?_
        refine wpAnyT_ready (rs := [8]) (by kernel_rfl) (by simp) (AllT.cons (i := 8) rfl (fun K hK => ?_) AllT.nil)
        refine step_app elP _ (by rfl) (.tmp 36) (.tmp 40) (by rfl) w4.heap.size (.slice A1' r.fresh.length d1) r.fresh.length (flatP r.fresh) (by rfl) (own_fr (S := NoB) hO1 (by repeat (first | with_reducible exact Fr.refl _ _ | with_reducible refine Fr.drew ?_ | with_reducible refine Fr.alloc ?_ _)) (fun _ _ h => h)) (some ⟨_, 0, none⟩) 1 1 (putA x s).toList (by rfl) (Rd.ofBlk (p := fun _ => True) (t := 92) (cs := putA x s) (by repeat (first | with_reducible exact Blk.new' _ _ _ (by first | rfl | (simp; done)) | with_reducible refine Blk.drew ?_ | with_reducible refine Blk.alloc ?_ _ | with_reducible refine Blk.fr ?_ hF1 (by simp [Value.ownBlock]))) 65 1 (by rw [z5]) trivial) (by intro u hu; exact PU.one ⟨x, s⟩ u (by simpa [putA] using hu)) (by unfold maxLen; omega) (by omega) ((by repeat (first | with_reducible exact New.refl _ | with_reducible assumption | with_reducible refine New.dr ?_ | with_reducible refine New.al ?_ _) : New w4 _).size) ?_
        intro A2' d2' w6 hO2 hF2 hA2
        have hN2 : New w4 w6 := (by repeat (first | with_reducible exact New.refl _ | with_reducible assumption | with_reducible refine New.dr ?_ | with_reducible refine New.al ?_ _) : New w4 _).fr hF2 (by intro k hk; exact (own_lt hO1 k hk).1)
        have HO2 := Lib.hid hO2
        have hK6 := hN2.blk HB4.out
        have h60 := hK6.cell 2
        have h6f := hK6.frozen 2
        clear hO2 hA2 hF2 hA1 hO1 hF1
        try simp only [Act.put, List.setIfInBounds_toArray, List.set_cons_zero, List.set_cons_succ]
        refine hK.out _ _ (fun _ => hSN _ (by repeat (first | with_reducible exact New.refl _ | with_reducible assumption | with_reducible refine New.dr ?_ | with_reducible refine New.al ?_ _) : New w4 _)) ?_
        refine wpAnyT_take (i := 9) (v := .pointer (some ⟨G, 2, none⟩)) rfl (by kernel_rfl) (by kernel_rfl) (by kernel_rfl) (by kernel_rfl) (fun _ _ _ h => h) (Or.inl ⟨by rfl, fun w hSw => by have h1 := hSw.1; have h2 := hSw.2; clear hSw; go_simp⟩) (hSN _ (by repeat (first | with_reducible exact New.refl _ | with_reducible assumption | with_reducible refine New.dr ?_ | with_reducible refine New.al ?_ _) : New w4 _)) ?_
        try simp only [Act.put, List.setIfInBounds_toArray, List.set_cons_zero, List.set_cons_succ]
        refine wpAnyT_ready (rs := [10]) (by kernel_rfl) (by simp) (AllT.cons (i := 10) rfl (fun K hK => ?_) AllT.nil)
        go_simp
        try simp only [Act.put, List.setIfInBounds_toArray, List.set_cons_zero, List.set_cons_succ]
        refine hK.out _ _ (fun h => absurd rfl h) ?_
        refine wpAnyT_done (by kernel_rfl) ?_ _
        obtain ⟨w7, hw7⟩ : ∃ w7 : World, w7 = w6.setCell ⟨G, 2, none⟩ (.slice A2' (r.fresh.length + 1) d2') := ⟨_, rfl⟩
        have HB7 : Hid (Blk w7 G 32 #[.int .i64 r.size, .slice A1 r.sure.length c1, .slice A2' (r.fresh.length + 1) d2', .int .i64 r.burn.fuse, .bool false]) := Lib.hid (by rw [hw7]; exact hK6.set 2 _)
        have HF7 : Hid (Fr (fun k => k = G) w6 w7) := Lib.hid (by rw [hw7]; exact (Fr.refl (fun k => k = G) w6).setCell (p := ⟨G, 2, none⟩) (fun _ => rfl) _)
        have HR7 := Lib.hid ((New.blk hN2 HR4.out).fr HF7.out (by omega))
        have HN2 := Lib.hid hN2
        have HK6 := Lib.hid hK6
        try rw [← hw7]
        clear hw7 hK6 h60 h6f hN2 hN1 hSN z1 z2 z3 z4 z5 z6 zl hi hu d2 d2a d2b
        go_wp2_with (first
          | ((with_reducible refine atOp ⟨some 43, .load _ _, _, _, _, _⟩ ?_); refine wpList_load_any rfl _ rfl Tryd.underlying32 rfl rfl rfl HB7.out ?_)
          | ((with_reducible refine atOp ⟨none, .store 32 (.tmp 6) _, _, _, _, _⟩ ?_); refine wpList_store_any rfl (.tmp 6) (.tmp 43) rfl rfl rfl rfl HR7.out rfl (rf_one _ _ _ _ _ _ _ _ _) ?_; intro w8 hb8 hf8; have HB8 := Lib.hid hb8; have HF8 := Lib.hid hf8; clear hb8 hf8))
        refine bodyPost_ret (results_row2 rfl _ _ (G + 1 + 1) _ _ rfl HB8.out Tryd.underlying32 rfl rfl) rfl ?_
        have hF48 : Fr (fun k => k = G ∨ k = G + 1 + 1) w4 w8 := ((HN2.out.toFr _).trans (HF7.out.mono fun b _ h => .inl h)).trans (HF8.out.mono fun b _ h => .inr h)
        have hN8 : New w w8 := ((HN3.out.fr HF34.out (fun k hk => by have := HGW.out; omega)).fr hF48 (fun k hk => by have := HGW.out; omega))
        refine ⟨⟨A1, c1, A2', d2', ?_, ?_⟩, hN8⟩
        · rw [HW.out]
          unfold RfV
          simp only [List.length_append, List.length_singleton]
          have : r.burn.down = false := HDN.out
          rw [this]
          rfl
        · rw [HW.out]
          refine ⟨?_, ?_, ?_⟩
          · have hF38 : Fr (fun k => k = G ∨ k = G + 1 + 1) w3 w8 := (HF34.out.mono fun b _ h => .inl h).trans hF48
            exact (H.out.new HN3.out).sure.fr hF38 (fun k hk => by rcases hk with rfl | rfl <;> first | exact IsT.not_blk HB3.out (by decide) | exact IsT.not_blk HR3.out (by decide))
          · have h6 : RdT 92 w6 65 A2' (r.fresh.length + 1) (flatP (r.fresh ++ [⟨x, s⟩])) := by
              have := RdT.own HO2.out rfl
              rw [flatP_app, flatP_one]
              simpa [putA] using this
            have hF68 : Fr (fun k => k = G ∨ k = G + 1 + 1) w6 w8 := (HF7.out.mono fun b _ h => .inl h).trans (HF8.out.mono fun b _ h => .inr h)
            have := h6.fr hF68 (fun k hk => by rcases hk with rfl | rfl <;> first | exact IsT.not_blk HK6.out (by decide) | exact IsT.not_blk (New.blk HN2.out HR4.out) (by decide))
            simpa using this
          · rw [← HW.out]; exact H.out.ok.write x HS.out
      · skip
        go_simp
        try simp only [Act.put, List.setIfInBounds_toArray, List.set_cons_zero, List.set_cons_succ]
        refine hK.out _ _ (fun _ => hSN _ (by repeat (first | with_reducible exact New.refl _ | with_reducible assumption | with_reducible refine New.dr ?_ | with_reducible refine New.al ?_ _) : New w4 _)) ?_
        refine wpAnyT_ready (rs := [3]) (by kernel_rfl) (by simp) (AllT.cons (i := 3) rfl (fun K hK => ?_) AllT.nil)
        refine step_app elP _ (by rfl) (.tmp 33) (.tmp 35) (by rfl) w4.heap.size (.slice (some ⟨_, 0, none⟩) 0 0) 0 [] (by rfl) (own_lit (by repeat (first | with_reducible exact Blk.new' _ _ _ (by first | rfl | (simp; done)) | with_reducible refine Blk.drew ?_ | with_reducible refine Blk.alloc ?_ _ | with_reducible refine Blk.fr ?_ hF1 (by simp [Value.ownBlock]))) (by first | (simp; done) | (simp; omega))) A2 r.fresh.length c2 (flatP r.fresh) (by rfl) ((by repeat (first | with_reducible exact New.refl _ | with_reducible assumption | with_reducible refine New.dr ?_ | with_reducible refine New.al ?_ _) : New w4 _).rd HR4'.out) HP1.out (by unfold maxLen; omega) (by omega) (by first | (simp; done) | (simp; omega)) ?_
        intro A1' d1 w5 hO1 hF1 hA1
        have hN1 : New w4 w5 := (by repeat (first | with_reducible exact New.refl _ | with_reducible assumption | with_reducible refine New.dr ?_ | with_reducible refine New.al ?_ _) : New w4 _).fr hF1 (by intro k hk; simp [Value.ownBlock] at hk; omega)
        rw [Nat.zero_add, List.nil_append] at hO1
        rw [Nat.zero_add] at hA1
        rw [Nat.zero_add]
        try simp only [Act.put, List.setIfInBounds_toArray, List.set_cons_zero, List.set_cons_succ]
        refine hK.out _ _ (fun _ => hSN _ (by repeat (first | with_reducible exact New.refl _ | with_reducible assumption | with_reducible refine New.dr ?_ | with_reducible refine New.al ?_ _) : New w4 _)) ?_
        refine wpAnyT_ready (rs := [8]) (by kernel_rfl) (by simp) (AllT.cons (i := 8) rfl (fun K hK => ?_) AllT.nil)
        refine step_app elP _ (by rfl) (.tmp 36) (.tmp 40) (by rfl) w4.heap.size (.slice A1' r.fresh.length d1) r.fresh.length (flatP r.fresh) (by rfl) (own_fr (S := NoB) hO1 (by repeat (first | with_reducible exact Fr.refl _ _ | with_reducible refine Fr.drew ?_ | with_reducible refine Fr.alloc ?_ _)) (fun _ _ h => h)) (some ⟨_, 0, none⟩) 1 1 (putA x s).toList (by rfl) (Rd.ofBlk (p := fun _ => True) (t := 92) (cs := putA x s) (by repeat (first | with_reducible exact Blk.new' _ _ _ (by first | rfl | (simp; done)) | with_reducible refine Blk.drew ?_ | with_reducible refine Blk.alloc ?_ _ | with_reducible refine Blk.fr ?_ hF1 (by simp [Value.ownBlock]))) 65 1 (by rw [z5]) trivial) (by intro u hu; exact PU.one ⟨x, s⟩ u (by simpa [putA] using hu)) (by unfold maxLen; omega) (by omega) ((by repeat (first | with_reducible exact New.refl _ | with_reducible assumption | with_reducible refine New.dr ?_ | with_reducible refine New.al ?_ _) : New w4 _).size) ?_
        intro A2' d2' w6 hO2 hF2 hA2
        have hN2 : New w4 w6 := (by repeat (first | with_reducible exact New.refl _ | with_reducible assumption | with_reducible refine New.dr ?_ | with_reducible refine New.al ?_ _) : New w4 _).fr hF2 (by intro k hk; exact (own_lt hO1 k hk).1)
        have HO2 := Lib.hid hO2
        have hK6 := hN2.blk HB4.out
        have h60 := hK6.cell 2
        have h6f := hK6.frozen 2
        clear hO2 hA2 hF2 hA1 hO1 hF1
        try simp only [Act.put, List.setIfInBounds_toArray, List.set_cons_zero, List.set_cons_succ]
        refine hK.out _ _ (fun _ => hSN _ (by repeat (first | with_reducible exact New.refl _ | with_reducible assumption | with_reducible refine New.dr ?_ | with_reducible refine New.al ?_ _) : New w4 _)) ?_
        refine wpAnyT_take (i := 9) (v := .pointer (some ⟨G, 2, none⟩)) rfl (by kernel_rfl) (by kernel_rfl) (by kernel_rfl) (by kernel_rfl) (fun _ _ _ h => h) (Or.inl ⟨by rfl, fun w hSw => by have h1 := hSw.1; have h2 := hSw.2; clear hSw; go_simp⟩) (hSN _ (by repeat (first | with_reducible exact New.refl _ | with_reducible assumption | with_reducible refine New.dr ?_ | with_reducible refine New.al ?_ _) : New w4 _)) ?_
        try simp only [Act.put, List.setIfInBounds_toArray, List.set_cons_zero, List.set_cons_succ]
        refine wpAnyT_ready (rs := [10]) (by kernel_rfl) (by simp) (AllT.cons (i := 10) rfl (fun K hK => ?_) AllT.nil)
        go_simp
        try simp only [Act.put, List.setIfInBounds_toArray, List.set_cons_zero, List.set_cons_succ]
        refine hK.out _ _ (fun h => absurd rfl h) ?_
        refine wpAnyT_done (by kernel_rfl) ?_ _
        obtain ⟨w7, hw7⟩ : ∃ w7 : World, w7 = w6.setCell ⟨G, 2, none⟩ (.slice A2' (r.fresh.length + 1) d2') := ⟨_, rfl⟩
        have HB7 : Hid (Blk w7 G 32 #[.int .i64 r.size, .slice A1 r.sure.length c1, .slice A2' (r.fresh.length + 1) d2', .int .i64 r.burn.fuse, .bool false]) := Lib.hid (by rw [hw7]; exact hK6.set 2 _)
        have HF7 : Hid (Fr (fun k => k = G) w6 w7) := Lib.hid (by rw [hw7]; exact (Fr.refl (fun k => k = G) w6).setCell (p := ⟨G, 2, none⟩) (fun _ => rfl) _)
        have HR7 := Lib.hid ((New.blk hN2 HR4.out).fr HF7.out (by omega))
        have HN2 := Lib.hid hN2
        have HK6 := Lib.hid hK6
        try rw [← hw7]
        clear hw7 hK6 h60 h6f hN2 hN1 hSN z1 z2 z3 z4 z5 z6 zl hi hu d2 d2a d2b
        go_wp2_with (first
          | ((with_reducible refine atOp ⟨some 43, .load _ _, _, _, _, _⟩ ?_); refine wpList_load_any rfl _ rfl Tryd.underlying32 rfl rfl rfl HB7.out ?_)
          | ((with_reducible refine atOp ⟨none, .store 32 (.tmp 6) _, _, _, _, _⟩ ?_); refine wpList_store_any rfl (.tmp 6) (.tmp 43) rfl rfl rfl rfl HR7.out rfl (rf_one _ _ _ _ _ _ _ _ _) ?_; intro w8 hb8 hf8; have HB8 := Lib.hid hb8; have HF8 := Lib.hid hf8; clear hb8 hf8))
        refine bodyPost_ret (results_row2 rfl _ _ (G + 1 + 1) _ _ rfl HB8.out Tryd.underlying32 rfl rfl) rfl ?_
        have hF48 : Fr (fun k => k = G ∨ k = G + 1 + 1) w4 w8 := ((HN2.out.toFr _).trans (HF7.out.mono fun b _ h => .inl h)).trans (HF8.out.mono fun b _ h => .inr h)
        have hN8 : New w w8 := ((HN3.out.fr HF34.out (fun k hk => by have := HGW.out; omega)).fr hF48 (fun k hk => by have := HGW.out; omega))
        refine ⟨⟨A1, c1, A2', d2', ?_, ?_⟩, hN8⟩
        · rw [HW.out]
          unfold RfV
          simp only [List.length_append, List.length_singleton]
          have : r.burn.down = false := HDN.out
          rw [this]
          rfl
        · rw [HW.out]
          refine ⟨?_, ?_, ?_⟩
          · have hF38 : Fr (fun k => k = G ∨ k = G + 1 + 1) w3 w8 := (HF34.out.mono fun b _ h => .inl h).trans hF48
            exact (H.out.new HN3.out).sure.fr hF38 (fun k hk => by rcases hk with rfl | rfl <;> first | exact IsT.not_blk HB3.out (by decide) | exact IsT.not_blk HR3.out (by decide))
          · have h6 : RdT 92 w6 65 A2' (r.fresh.length + 1) (flatP (r.fresh ++ [⟨x, s⟩])) := by
              have := RdT.own HO2.out rfl
              rw [flatP_app, flatP_one]
              simpa [putA] using this
            have hF68 : Fr (fun k => k = G ∨ k = G + 1 + 1) w6 w8 := (HF7.out.mono fun b _ h => .inl h).trans (HF8.out.mono fun b _ h => .inr h)
            have := h6.fr hF68 (fun k hk => by rcases hk with rfl | rfl <;> first | exact IsT.not_blk HK6.out (by decide) | exact IsT.not_blk (New.blk HN2.out HR4.out) (by decide))
            simpa using this
          · rw [← HW.out]; exact H.out.ok.write x HS.out
    · skip
      go_simp
      try simp only [Act.put, List.setIfInBounds_toArray, List.set_cons_zero, List.set_cons_succ]
      refine hK.out _ _ (fun _ => hSN _ (by repeat (first | with_reducible exact New.refl _ | with_reducible assumption | with_reducible refine New.dr ?_ | with_reducible refine New.al ?_ _) : New w4 _)) ?_
      refine wpAnyT_ready (rs := [0]) (by kernel_rfl) (by simp) (AllT.cons (i := 0) rfl (fun K hK => ?_) AllT.nil)
      go_simp
      try simp only [Act.put, List.setIfInBounds_toArray, List.set_cons_zero, List.set_cons_succ]
      refine hK.out _ _ (fun _ => hSN _ (by repeat (first | with_reducible exact New.refl _ | with_reducible assumption | with_reducible refine New.dr ?_ | with_reducible refine New.al ?_ _) : New w4 _)) ?_
      refine wpAnyT_ready (rs := [3]) (by kernel_rfl) (by simp) (AllT.cons (i := 3) rfl (fun K hK => ?_) AllT.nil)
      refine step_app elP _ (by rfl) (.tmp 33) (.tmp 35) (by rfl) w4.heap.size (.slice (some ⟨_, 0, none⟩) 0 0) 0 [] (by rfl) (own_lit (by repeat (first | with_reducible exact Blk.new' _ _ _ (by first | rfl | (simp; done)) | with_reducible refine Blk.drew ?_ | with_reducible refine Blk.alloc ?_ _ | with_reducible refine Blk.fr ?_ hF1 (by simp [Value.ownBlock]))) (by first | (simp; done) | (simp; omega))) A2 r.fresh.length c2 (flatP r.fresh) (by rfl) ((by repeat (first | with_reducible exact New.refl _ | with_reducible assumption | with_reducible refine New.dr ?_ | with_reducible refine New.al ?_ _) : New w4 _).rd HR4'.out) HP1.out (by unfold maxLen; omega) (by omega) (by first | (simp; done) | (simp; omega)) ?_
      intro A1' d1 w5 hO1 hF1 hA1
      have hN1 : New w4 w5 := (by repeat (first | with_reducible exact New.refl _ | with_reducible assumption | with_reducible refine New.dr ?_ | with_reducible refine New.al ?_ _) : New w4 _).fr hF1 (by intro k hk; simp [Value.ownBlock] at hk; omega)
      rw [Nat.zero_add, List.nil_append] at hO1
      rw [Nat.zero_add] at hA1
      rw [Nat.zero_add]
      try simp only [Act.put, List.setIfInBounds_toArray, List.set_cons_zero, List.set_cons_succ]
      refine hK.out _ _ (fun _ => hSN _ (by repeat (first | with_reducible exact New.refl _ | with_reducible assumption | with_reducible refine New.dr ?_ | with_reducible refine New.al ?_ _) : New w4 _)) ?_
      refine wpAnyT_ready (rs := [8]) (by kernel_rfl) (by simp) (AllT.cons (i := 8) rfl (fun K hK => ?_) AllT.nil)
      refine step_app elP _ (by rfl) (.tmp 36) (.tmp 40) (by rfl) w4.heap.size (.slice A1' r.fresh.length d1) r.fresh.length (flatP r.fresh) (by rfl) (own_fr (S := NoB) hO1 (by repeat (first | with_reducible exact Fr.refl _ _ | with_reducible refine Fr.drew ?_ | with_reducible refine Fr.alloc ?_ _)) (fun _ _ h => h)) (some ⟨_, 0, none⟩) 1 1 (putA x s).toList (by rfl) (Rd.ofBlk (p := fun _ => True) (t := 92) (cs := putA x s) (by repeat (first | with_reducible exact Blk.new' _ _ _ (by first | rfl | (simp; done)) | with_reducible refine Blk.drew ?_ | with_reducible refine Blk.alloc ?_ _ | with_reducible refine Blk.fr ?_ hF1 (by simp [Value.ownBlock]))) 65 1 (by rw [z5]) trivial) (by intro u hu; exact PU.one ⟨x, s⟩ u (by simpa [putA] using hu)) (by unfold maxLen; omega) (by omega) ((by repeat (first | with_reducible exact New.refl _ | with_reducible assumption | with_reducible refine New.dr ?_ | with_reducible refine New.al ?_ _) : New w4 _).size) ?_
      intro A2' d2' w6 hO2 hF2 hA2
      have hN2 : New w4 w6 := (by repeat (first | with_reducible exact New.refl _ | with_reducible assumption | with_reducible refine New.dr ?_ | with_reducible refine New.al ?_ _) : New w4 _).fr hF2 (by intro k hk; exact (own_lt hO1 k hk).1)
      have HO2 := Lib.hid hO2
      have hK6 := hN2.blk HB4.out
      have h60 := hK6.cell 2
      have h6f := hK6.frozen 2
      clear hO2 hA2 hF2 hA1 hO1 hF1
      try simp only [Act.put, List.setIfInBounds_toArray, List.set_cons_zero, List.set_cons_succ]
      refine hK.out _ _ (fun _ => hSN _ (by repeat (first | with_reducible exact New.refl _ | with_reducible assumption | with_reducible refine New.dr ?_ | with_reducible refine New.al ?_ _) : New w4 _)) ?_
      refine wpAnyT_take (i := 9) (v := .pointer (some ⟨G, 2, none⟩)) rfl (by kernel_rfl) (by kernel_rfl) (by kernel_rfl) (by kernel_rfl) (fun _ _ _ h => h) (Or.inl ⟨by rfl, fun w hSw => by have h1 := hSw.1; have h2 := hSw.2; clear hSw; go_simp⟩) (hSN _ (by repeat (first | with_reducible exact New.refl _ | with_reducible assumption | with_reducible refine New.dr ?_ | with_reducible refine New.al ?_ _) : New w4 _)) ?_
      try simp only [Act.put, List.setIfInBounds_toArray, List.set_cons_zero, List.set_cons_succ]
      refine wpAnyT_ready (rs := [10]) (by kernel_rfl) (by simp) (AllT.cons (i := 10) rfl (fun K hK => ?_) AllT.nil)
      go_simp
      try simp only [Act.put, List.setIfInBounds_toArray, List.set_cons_zero, List.set_cons_succ]
      refine hK.out _ _ (fun h => absurd rfl h) ?_
      refine wpAnyT_done (by kernel_rfl) ?_ _
      obtain ⟨w7, hw7⟩ : ∃ w7 : World, w7 = w6.setCell ⟨G, 2, none⟩ (.slice A2' (r.fresh.length + 1) d2') := ⟨_, rfl⟩
      have HB7 : Hid (Blk w7 G 32 #[.int .i64 r.size, .slice A1 r.sure.length c1, .slice A2' (r.fresh.length + 1) d2', .int .i64 r.burn.fuse, .bool false]) := Lib.hid (by rw [hw7]; exact hK6.set 2 _)
      have HF7 : Hid (Fr (fun k => k = G) w6 w7) := Lib.hid (by rw [hw7]; exact (Fr.refl (fun k => k = G) w6).setCell (p := ⟨G, 2, none⟩) (fun _ => rfl) _)
      have HR7 := Lib.hid ((New.blk hN2 HR4.out).fr HF7.out (by omega))
      have HN2 := Lib.hid hN2
      have HK6 := Lib.hid hK6
      try rw [← hw7]
      clear hw7 hK6 h60 h6f hN2 hN1 hSN z1 z2 z3 z4 z5 z6 zl hi hu d2 d2a d2b
      go_wp2_with (first
        | ((with_reducible refine atOp ⟨some 43, .load _ _, _, _, _, _⟩ ?_); refine wpList_load_any rfl _ rfl Tryd.underlying32 rfl rfl rfl HB7.out ?_)
        | ((with_reducible refine atOp ⟨none, .store 32 (.tmp 6) _, _, _, _, _⟩ ?_); refine wpList_store_any rfl (.tmp 6) (.tmp 43) rfl rfl rfl rfl HR7.out rfl (rf_one _ _ _ _ _ _ _ _ _) ?_; intro w8 hb8 hf8; have HB8 := Lib.hid hb8; have HF8 := Lib.hid hf8; clear hb8 hf8))
      refine bodyPost_ret (results_row2 rfl _ _ (G + 1 + 1) _ _ rfl HB8.out Tryd.underlying32 rfl rfl) rfl ?_
      have hF48 : Fr (fun k => k = G ∨ k = G + 1 + 1) w4 w8 := ((HN2.out.toFr _).trans (HF7.out.mono fun b _ h => .inl h)).trans (HF8.out.mono fun b _ h => .inr h)
      have hN8 : New w w8 := ((HN3.out.fr HF34.out (fun k hk => by have := HGW.out; omega)).fr hF48 (fun k hk => by have := HGW.out; omega))
      refine ⟨⟨A1, c1, A2', d2', ?_, ?_⟩, hN8⟩
      · rw [HW.out]
        unfold RfV
        simp only [List.length_append, List.length_singleton]
        have : r.burn.down = false := HDN.out
        rw [this]
        rfl
      · rw [HW.out]
        refine ⟨?_, ?_, ?_⟩
        · have hF38 : Fr (fun k => k = G ∨ k = G + 1 + 1) w3 w8 := (HF34.out.mono fun b _ h => .inl h).trans hF48
          exact (H.out.new HN3.out).sure.fr hF38 (fun k hk => by rcases hk with rfl | rfl <;> first | exact IsT.not_blk HB3.out (by decide) | exact IsT.not_blk HR3.out (by decide))
        · have h6 : RdT 92 w6 65 A2' (r.fresh.length + 1) (flatP (r.fresh ++ [⟨x, s⟩])) := by
            have := RdT.own HO2.out rfl
            rw [flatP_app, flatP_one]
            simpa [putA] using this
          have hF68 : Fr (fun k => k = G ∨ k = G + 1 + 1) w6 w8 := (HF7.out.mono fun b _ h => .inl h).trans (HF8.out.mono fun b _ h => .inr h)
          have := h6.fr hF68 (fun k hk => by rcases hk with rfl | rfl <;> first | exact IsT.not_blk HK6.out (by decide) | exact IsT.not_blk (New.blk HN2.out HR4.out) (by decide))
          simpa using this
        · rw [← HW.out]; exact H.out.ok.write x HS.out
    -- behind the region
end Go.Proofs.YteeclfejgpgooaaDoor
/- The reference's disk: written in whatever state. No condition but that it can be read. -/
namespace Go.Proofs.YteeclfejgpgooaaDoor
set_option linter.unusedVariables false
set_option linter.unusedSimpArgs false
set_option linter.constructorNameAsVariable false
open Go.RowKit Go.Maps

set_option maxHeartbeats 4000000 in
set_option maxRecDepth 100000 in
theorem rwrite_no (r : RP) (A1 : Option Addr) (c1 : Nat) (A2 : Option Addr) (c2 : Nat) (x : Int) (s : List Int) (w : World) (h : RfIn w r A1 A2) (hs : SecOk s) (hx : (Lit.int .i64 x).wf = true) (hz : -9223372036854775808 ≤ r.size ∧ r.size ≤ 9223372036854775807) (hw : ¬ (0 ≤ x ∧ x < r.size)) :
    Calls Tryd.prog 11 #[.agg (RfV r A1 c1 A2 c2), .int .i64 x, .agg (secA s)] w fun e w' => RfEnd w' r 1 e ∧ New w w' := by
  have H := Lib.hid h
  have hxb := bounds_i64 hx
  have ht : decide (x < 0) = true ∨ (decide (x < 0) = false ∧ decide (r.size ≤ x) = true) := by
    by_cases h0 : x < 0
    · exact .inl (decide_eq_true h0)
    · exact .inr ⟨decide_eq_false h0, decide_eq_true (by omega)⟩
  unfold RfV
  clear h hx hw hs
  rcases ht with t0 | ⟨t0, t1⟩
  all_goals
    go_enter Tryd.func11, Tryd.ntmps11
    go_upto_region 2 with fail
    obtain ⟨w3, hw3⟩ : ∃ w3 : World, w3 = ((w.alloc (.cells #[.int .i64 r.size, .slice A1 r.sure.length c1, .slice A2 r.fresh.length c2, .int .i64 r.fuse, .bool r.down] 32)).alloc (.cells (secA s) 35)).alloc (.cells #[.int .i64 0, .slice none 0 0, .slice none 0 0, .int .i64 0, .bool false] 32) := ⟨_, rfl⟩
    obtain ⟨G, hG⟩ : ∃ G, G = w.heap.size := ⟨_, rfl⟩
    rw [← hG]
    have HN3 : Hid (New w w3) := Lib.hid (by rw [hw3]; exact (((New.refl w).al _).al _).al _)
    have HB3 : Hid (Blk w3 G 32 #[.int .i64 r.size, .slice A1 r.sure.length c1, .slice A2 r.fresh.length c2, .int .i64 r.fuse, .bool r.down]) := Lib.hid (by rw [hw3, hG]; exact ((Blk.new _ _ _).alloc _).alloc _)
    have HR3 : Hid (Blk w3 (G + 1 + 1) 32 #[.int .i64 0, .slice none 0 0, .slice none 0 0, .int .i64 0, .bool false]) := Lib.hid (by rw [hw3, hG]; exact Blk.new' _ _ _ (by simp))
    rw [← hw3]
    have HGW : Hid (G = w.heap.size) := Lib.hid hG
    clear hw3 hG
    go_wp2_with (first
      | ((with_reducible refine atOp ⟨some 16, .load _ _, _, _, _, _⟩ ?_); refine wpList_load_any rfl _ rfl Tryd.underlying32 rfl rfl rfl HB3.out ?_)
      | ((with_reducible refine atOp ⟨none, .store 32 (.tmp 6) _, _, _, _, _⟩ ?_); refine wpList_store_any rfl (.tmp 6) (.tmp 16) rfl rfl rfl rfl HR3.out rfl (rf_one _ _ _ _ _ _ _ _ _) ?_; intro w8 hb8 hf8; have HB8 := Lib.hid hb8; have HF8 := Lib.hid hf8; clear hb8 hf8))
    refine bodyPost_ret (results_row2 rfl _ _ (G + 1 + 1) _ _ rfl HB8.out Tryd.underlying32 rfl rfl) rfl ?_
    refine ⟨⟨A1, c1, A2, c2, rfl, (H.out.new HN3.out).fr HF8.out (fun k hk => by subst hk; exact IsT.not_blk HR3.out (by decide))⟩, HN3.out.fr HF8.out (fun k hk => by have := HGW.out; omega)⟩
set_option maxHeartbeats 4000000 in
set_option maxRecDepth 100000 in
theorem rwrite_down (r : RP) (A1 : Option Addr) (c1 : Nat) (A2 : Option Addr) (c2 : Nat) (x : Int) (s : List Int) (w : World) (h : RfIn w r A1 A2) (hs : SecOk s) (hx : (Lit.int .i64 x).wf = true) (hw : 0 ≤ x ∧ x < r.size) (hd : r.fuse = 0 ∨ r.down = true) :
    Calls Tryd.prog 11 #[.agg (RfV r A1 c1 A2 c2), .int .i64 x, .agg (secA s)] w fun e w' => RfEnd w' { r with down := true } 14 e ∧ New w w' := by
  have H := Lib.hid h
  have hxb := bounds_i64 hx
  have t0 : decide (x < 0) = false := decide_eq_false (by omega)
  have t1 : decide (r.size ≤ x) = false := decide_eq_false (by omega)
  obtain ⟨dn, hdn⟩ : ∃ dn, dn = r.down := ⟨_, rfl⟩
  have ht : (r.fuse == 0) = true ∨ ((r.fuse == 0) = false ∧ dn = true) := by
    by_cases h0 : r.fuse = 0
    · exact .inl (by simp [h0])
    · exact .inr ⟨by simp [h0], by rw [hdn]; exact hd.resolve_left h0⟩
  unfold RfV
  rw [← hdn]
  clear h hx hw hs hd hdn
  have ht2 : (dn = false ∧ (r.fuse == 0) = true) ∨ (dn = true ∧ (r.fuse == 0) = true) ∨ (dn = true ∧ (r.fuse == 0) = false) := by
    rcases ht with h | ⟨h1, h2⟩
    · cases dn
      · exact .inl ⟨rfl, h⟩
      · exact .inr (.inl ⟨rfl, h⟩)
    · exact .inr (.inr ⟨h2, h1⟩)
  clear ht
  rcases ht2 with ⟨rfl, t2⟩ | ⟨rfl, t2⟩ | ⟨rfl, t2⟩
  all_goals
    go_enter Tryd.func11, Tryd.ntmps11
    go_upto_region 4 with fail
    obtain ⟨G, hG⟩ : ∃ G, G = w.heap.size := ⟨_, rfl⟩
    rw [← hG]
    first
      | (obtain ⟨dd, hdd⟩ : ∃ dd, dd = true := ⟨_, rfl⟩; obtain ⟨w3, hw3⟩ : ∃ w3 : World, w3 = ((w.alloc (.cells #[.int .i64 r.size, .slice A1 r.sure.length c1, .slice A2 r.fresh.length c2, .int .i64 r.fuse, .bool true] 32)).alloc (.cells (secA s) 35)).alloc (.cells #[.int .i64 0, .slice none 0 0, .slice none 0 0, .int .i64 0, .bool false] 32) := ⟨_, rfl⟩; rw [← hw3]; have hw4 : w3 = ((w.alloc (.cells #[.int .i64 r.size, .slice A1 r.sure.length c1, .slice A2 r.fresh.length c2, .int .i64 r.fuse, .bool dd] 32)).alloc (.cells (secA s) 35)).alloc (.cells #[.int .i64 0, .slice none 0 0, .slice none 0 0, .int .i64 0, .bool false] 32) := by rw [hw3, hdd]
         clear hw3; have hw3 := hw4; clear hw4; have HDD := Lib.hid hdd; clear hdd)
      | (obtain ⟨dd, hdd⟩ : ∃ dd, dd = false := ⟨_, rfl⟩; obtain ⟨w3, hw3⟩ : ∃ w3 : World, w3 = ((w.alloc (.cells #[.int .i64 r.size, .slice A1 r.sure.length c1, .slice A2 r.fresh.length c2, .int .i64 r.fuse, .bool false] 32)).alloc (.cells (secA s) 35)).alloc (.cells #[.int .i64 0, .slice none 0 0, .slice none 0 0, .int .i64 0, .bool false] 32) := ⟨_, rfl⟩; rw [← hw3]; have hw4 : w3 = ((w.alloc (.cells #[.int .i64 r.size, .slice A1 r.sure.length c1, .slice A2 r.fresh.length c2, .int .i64 r.fuse, .bool dd] 32)).alloc (.cells (secA s) 35)).alloc (.cells #[.int .i64 0, .slice none 0 0, .slice none 0 0, .int .i64 0, .bool false] 32) := by rw [hw3, hdd]
         clear hw3; have hw3 := hw4; clear hw4; have HDD := Lib.hid hdd; clear hdd)
    have HN3 : Hid (New w w3) := Lib.hid (by rw [hw3]; exact (((New.refl w).al _).al _).al _)
    have HB3 : Hid (Blk w3 G 32 #[.int .i64 r.size, .slice A1 r.sure.length c1, .slice A2 r.fresh.length c2, .int .i64 r.fuse, .bool dd]) := Lib.hid (by rw [hw3, hG]; exact ((Blk.new _ _ _).alloc _).alloc _)
    have HR3 : Hid (Blk w3 (G + 1 + 1) 32 #[.int .i64 0, .slice none 0 0, .slice none 0 0, .int .i64 0, .bool false]) := Lib.hid (by rw [hw3, hG]; exact Blk.new' _ _ _ (by simp))
    have HGW : Hid (G = w.heap.size) := Lib.hid hG
    have i4 := HB3.out.cell 4
    have q4 := HB3.out.frozen 4
    clear hw3 hG
    go_upto_region 5 with fail
    obtain ⟨w4, hw4⟩ : ∃ w4 : World, w4 = w3.setCell ⟨G, 4, none⟩ (.bool true) := ⟨_, rfl⟩
    have HB4 : Hid (Blk w4 G 32 #[.int .i64 r.size, .slice A1 r.sure.length c1, .slice A2 r.fresh.length c2, .int .i64 r.fuse, .bool true]) := Lib.hid (by rw [hw4]; exact HB3.out.set 4 _)
    have HF4 : Hid (Fr (fun k => k = G) w3 w4) := Lib.hid (by rw [hw4]; exact (Fr.refl (fun k => k = G) w3).setCell (p := ⟨G, 4, none⟩) (fun _ => rfl) _)
    have HR4 := Lib.hid (HR3.out.fr HF4.out (by omega))
    rw [← hw4]
    clear hw4 i4 q4
    go_wp2_with (first
      | ((with_reducible refine atOp ⟨some 25, .load _ _, _, _, _, _⟩ ?_); refine wpList_load_any rfl _ rfl Tryd.underlying32 rfl rfl rfl HB4.out ?_)
      | ((with_reducible refine atOp ⟨none, .store 32 (.tmp 6) _, _, _, _, _⟩ ?_); refine wpList_store_any rfl (.tmp 6) (.tmp 25) rfl rfl rfl rfl HR4.out rfl (rf_one _ _ _ _ _ _ _ _ _) ?_; intro w8 hb8 hf8; have HB8 := Lib.hid hb8; have HF8 := Lib.hid hf8; clear hb8 hf8))
    refine bodyPost_ret (results_row2 rfl _ _ (G + 1 + 1) _ _ rfl HB8.out Tryd.underlying32 rfl rfl) rfl ?_
    have hF38 : Fr (fun k => k = G ∨ k = G + 1 + 1) w3 w8 := (HF4.out.mono fun b _ h => .inl h).trans (HF8.out.mono fun b _ h => .inr h)
    have hI := (H.out.new HN3.out).fr hF38 (fun k hk => by rcases hk with rfl | rfl <;> first | exact IsT.not_blk HB3.out (by decide) | exact IsT.not_blk HR3.out (by decide))
    exact ⟨⟨A1, c1, A2, c2, rfl, ⟨hI.sure, hI.fresh, hI.ok⟩⟩, HN3.out.fr hF38 (fun k hk => by have := HGW.out; omega)⟩
/-- Write, whole. -/
theorem rwrite_any (r : RP) (A1 : Option Addr) (c1 : Nat) (A2 : Option Addr) (c2 : Nat) (x : Int) (s : List Int) (w : World) (h : RfIn w r A1 A2) (hs : SecOk s) (hn : r.tot ≤ 100000) (hx : (Lit.int .i64 x).wf = true) (hf : (Lit.int .i64 r.fuse).wf = true) (hz : -9223372036854775808 ≤ r.size ∧ r.size ≤ 9223372036854775807) :
    Calls Tryd.prog 11 #[.agg (RfV r A1 c1 A2 c2), .int .i64 x, .agg (secA s)] w fun e w' => RfEnd w' (r.write x s) (r.wcode x) e ∧ New w w' := by
  by_cases hw : 0 ≤ x ∧ x < r.size
  · have e1 : r.within x = true := decide_eq_true hw
    by_cases hd : r.fuse = 0 ∨ r.down = true
    · have : r.write x s = { r with down := true } := by unfold RP.write; rw [e1, if_pos rfl, if_pos hd]
      rw [this, show r.wcode x = 14 from by unfold RP.wcode; rw [e1, if_pos rfl, if_pos hd]]
      exact rwrite_down r A1 c1 A2 c2 x s w h hs hx hw hd
    · rw [show r.wcode x = 0 from by unfold RP.wcode; rw [e1, if_pos rfl, if_neg hd]]
      exact rwrite_in r A1 c1 A2 c2 x s w h hs hn hx hf hw hd
  · have e1 : r.within x = false := decide_eq_false hw
    rw [show r.write x s = r from by unfold RP.write; rw [e1, if_neg (by simp)], show r.wcode x = 1 from by unfold RP.wcode; rw [e1, if_neg (by simp)]]
    exact rwrite_no r A1 c1 A2 c2 x s w h hs hx hz hw
end Go.Proofs.YteeclfejgpgooaaDoor
/- The reference's disk: synced. No condition but that it can be read. -/
namespace Go.Proofs.YteeclfejgpgooaaDoor
set_option linter.unusedVariables false
set_option linter.unusedSimpArgs false
set_option linter.constructorNameAsVariable false
open Go.RowKit Go.Maps

set_option maxHeartbeats 4000000 in
set_option maxRecDepth 100000 in
theorem rsync_down (r : RP) (A1 : Option Addr) (c1 : Nat) (A2 : Option Addr) (c2 : Nat) (w : World) (h : RfIn w r A1 A2) (hd : r.down = true) :
    Calls Tryd.prog 33 #[.agg (RfV r A1 c1 A2 c2)] w fun e w' => RfEnd w' r 14 e ∧ New w w' := by
  have H := Lib.hid h
  have HDN := Lib.hid hd
  unfold RfV
  rw [hd]
  clear h hd
  go_enter Tryd.func33, Tryd.ntmps33
  go_upto_region 2 with fail
  obtain ⟨w3, hw3⟩ : ∃ w3 : World, w3 = (w.alloc (.cells #[.int .i64 r.size, .slice A1 r.sure.length c1, .slice A2 r.fresh.length c2, .int .i64 r.fuse, .bool true] 32)).alloc (.cells #[.int .i64 0, .slice none 0 0, .slice none 0 0, .int .i64 0, .bool false] 32) := ⟨_, rfl⟩
  obtain ⟨G, hG⟩ : ∃ G, G = w.heap.size := ⟨_, rfl⟩
  rw [← hG]
  have HN3 : Hid (New w w3) := Lib.hid (by rw [hw3]; exact ((New.refl w).al _).al _)
  have HB3 : Hid (Blk w3 G 32 #[.int .i64 r.size, .slice A1 r.sure.length c1, .slice A2 r.fresh.length c2, .int .i64 r.fuse, .bool true]) := Lib.hid (by rw [hw3, hG]; exact (Blk.new _ _ _).alloc _)
  have HR3 : Hid (Blk w3 (G + 1) 32 #[.int .i64 0, .slice none 0 0, .slice none 0 0, .int .i64 0, .bool false]) := Lib.hid (by rw [hw3, hG]; exact Blk.new' _ _ _ (by simp))
  rw [← hw3]
  have HGW : Hid (G = w.heap.size) := Lib.hid hG
  clear hw3 hG
  go_wp2_with (first
    | ((with_reducible refine atOp ⟨some 6, .load _ _, _, _, _, _⟩ ?_); refine wpList_load_any rfl _ rfl Tryd.underlying32 rfl rfl rfl HB3.out ?_)
    | ((with_reducible refine atOp ⟨none, .store 32 (.tmp 2) _, _, _, _, _⟩ ?_); refine wpList_store_any rfl (.tmp 2) (.tmp 6) rfl rfl rfl rfl HR3.out rfl (rf_one _ _ _ _ _ _ _ _ _) ?_; intro w8 hb8 hf8; have HB8 := Lib.hid hb8; have HF8 := Lib.hid hf8; clear hb8 hf8))
  refine bodyPost_ret (results_row2 rfl _ _ (G + 1) _ _ rfl HB8.out Tryd.underlying32 rfl rfl) rfl ?_
  refine ⟨⟨A1, c1, A2, c2, ?_, (H.out.new HN3.out).fr HF8.out (fun k hk => by subst hk; exact IsT.not_blk HR3.out (by decide))⟩, HN3.out.fr HF8.out (fun k hk => by have := HGW.out; omega)⟩
  unfold RfV
  rw [HDN.out]
  rfl
set_option maxHeartbeats 4000000 in
set_option maxRecDepth 100000 in
theorem rsync_in (r : RP) (A1 : Option Addr) (c1 : Nat) (A2 : Option Addr) (c2 : Nat) (w : World) (h : RfIn w r A1 A2) (hd : r.down = false) (hn : r.tot ≤ 100000) :
    Calls Tryd.prog 33 #[.agg (RfV r A1 c1 A2 c2)] w fun e w' => RfEnd w' r.sync 0 e ∧ New w w' := by
  have H := Lib.hid h
  have HDN := Lib.hid hd
  have hn1 : r.sure.length + r.fresh.length ≤ 100000 := hn
  have HW : Hid (r.sync = { r with sure := r.sure ++ r.fresh, fresh := [] }) := Lib.hid (by unfold RP.sync; rw [hd, if_neg (by simp)])
  have HP1 : Hid (∀ u ∈ flatP r.sure, u.oneCell' = true) := Lib.hid (flatP_cell _)
  have HP2 : Hid (∀ u ∈ flatP r.fresh, u.oneCell' = true) := Lib.hid (flatP_cell _)
  unfold RfV
  rw [hd]
  clear h hd hn
  go_enter Tryd.func33, Tryd.ntmps33
  go_upto_region 3 with fail
  obtain ⟨w3, hw3⟩ : ∃ w3 : World, w3 = (w.alloc (.cells #[.int .i64 r.size, .slice A1 r.sure.length c1, .slice A2 r.fresh.length c2, .int .i64 r.fuse, .bool false] 32)).alloc (.cells #[.int .i64 0, .slice none 0 0, .slice none 0 0, .int .i64 0, .bool false] 32) := ⟨_, rfl⟩
  obtain ⟨G, hG⟩ : ∃ G, G = w.heap.size := ⟨_, rfl⟩
  rw [← hG]
  have HN3 : Hid (New w w3) := Lib.hid (by rw [hw3]; exact ((New.refl w).al _).al _)
  have HB3 : Hid (Blk w3 G 32 #[.int .i64 r.size, .slice A1 r.sure.length c1, .slice A2 r.fresh.length c2, .int .i64 r.fuse, .bool false]) := Lib.hid (by rw [hw3, hG]; exact (Blk.new _ _ _).alloc _)
  have HR3 : Hid (Blk w3 (G + 1) 32 #[.int .i64 0, .slice none 0 0, .slice none 0 0, .int .i64 0, .bool false]) := Lib.hid (by rw [hw3, hG]; exact Blk.new' _ _ _ (by simp))
  rw [← hw3]
  have HGW : Hid (G = w.heap.size) := Lib.hid hG
  clear hw3 hG
  have hSN : ∀ w', New w3 w' → w'.cell? ⟨G, 1, none⟩ = some (.slice A1 r.sure.length c1) ∧ w'.cell? ⟨G, 2, none⟩ = some (.slice A2 r.fresh.length c2) := fun w' hN => ⟨hN.cell_ (HB3.out.cell 1), hN.cell_ (HB3.out.cell 2)⟩
  refine wp_region_T (fun w' => w'.cell? ⟨G, 1, none⟩ = some (.slice A1 r.sure.length c1) ∧ w'.cell? ⟨G, 2, none⟩ = some (.slice A2 r.fresh.length c2)) 8 (by kernel_rfl) ?_
  refine wpAnyT_take (i := 1) (v := .pointer (some ⟨G, 1, none⟩)) rfl (by kernel_rfl) (by kernel_rfl) (by kernel_rfl) (by kernel_rfl) (fun _ _ _ h => h) (Or.inl ⟨by rfl, fun w hSw => by have h1 := hSw.1; have h2 := hSw.2; clear hSw; go_simp⟩) (hSN _ (by repeat (first | with_reducible exact New.refl _ | with_reducible assumption | with_reducible refine New.dr ?_ | with_reducible refine New.al ?_ _) : New w3 _)) ?_
  try simp only [Act.put, List.setIfInBounds_toArray, List.set_cons_zero, List.set_cons_succ]
  refine wpAnyT_take (i := 2) (v := .slice A1 r.sure.length c1) rfl (by kernel_rfl) (by kernel_rfl) (by kernel_rfl) (by kernel_rfl) (fun _ _ _ h => h) (Or.inl ⟨by rfl, fun w hSw => by have h1 := hSw.1; have h2 := hSw.2; clear hSw; go_simp⟩) (hSN _ (by repeat (first | with_reducible exact New.refl _ | with_reducible assumption | with_reducible refine New.dr ?_ | with_reducible refine New.al ?_ _) : New w3 _)) ?_
  try simp only [Act.put, List.setIfInBounds_toArray, List.set_cons_zero, List.set_cons_succ]
  refine wpAnyT_take (i := 4) (v := .pointer (some ⟨G, 2, none⟩)) rfl (by kernel_rfl) (by kernel_rfl) (by kernel_rfl) (by kernel_rfl) (fun _ _ _ h => h) (Or.inl ⟨by rfl, fun w hSw => by have h1 := hSw.1; have h2 := hSw.2; clear hSw; go_simp⟩) (hSN _ (by repeat (first | with_reducible exact New.refl _ | with_reducible assumption | with_reducible refine New.dr ?_ | with_reducible refine New.al ?_ _) : New w3 _)) ?_
  try simp only [Act.put, List.setIfInBounds_toArray, List.set_cons_zero, List.set_cons_succ]
  refine wpAnyT_take (i := 5) (v := .slice A2 r.fresh.length c2) rfl (by kernel_rfl) (by kernel_rfl) (by kernel_rfl) (by kernel_rfl) (fun _ _ _ h => h) (Or.inl ⟨by rfl, fun w hSw => by have h1 := hSw.1; have h2 := hSw.2; clear hSw; go_simp⟩) (hSN _ (by repeat (first | with_reducible exact New.refl _ | with_reducible assumption | with_reducible refine New.dr ?_ | with_reducible refine New.al ?_ _) : New w3 _)) ?_
  try simp only [Act.put, List.setIfInBounds_toArray, List.set_cons_zero, List.set_cons_succ]
  refine wpAnyT_ready (rs := [0]) (by kernel_rfl) (by simp) (AllT.cons (i := 0) rfl (fun K hK => ?_) AllT.nil)
  go_simp
  try simp only [Act.put, List.setIfInBounds_toArray, List.set_cons_zero, List.set_cons_succ]
  refine hK.out _ _ (fun _ => hSN _ (by repeat (first | with_reducible exact New.refl _ | with_reducible assumption | with_reducible refine New.dr ?_ | with_reducible refine New.al ?_ _) : New w3 _)) ?_
  refine wpAnyT_ready (rs := [3]) (by kernel_rfl) (by simp) (AllT.cons (i := 3) rfl (fun K hK => ?_) AllT.nil)
  refine step_app elP _ (by rfl) (.tmp 7) (.tmp 9) (by rfl) w3.heap.size (.slice (some ⟨_, 0, none⟩) 0 0) 0 [] (by rfl) (own_lit (by repeat (first | with_reducible exact Blk.new' _ _ _ (by first | rfl | (simp; done)) | with_reducible refine Blk.drew ?_ | with_reducible refine Blk.alloc ?_ _ | with_reducible refine Blk.fr ?_ hF1 (by simp [Value.ownBlock]))) (by first | (simp; done) | (simp; omega))) A1 r.sure.length c1 (flatP r.sure) (by rfl) ((by repeat (first | with_reducible exact New.refl _ | with_reducible assumption | with_reducible refine New.dr ?_ | with_reducible refine New.al ?_ _) : New w3 _).rd (H.out.new HN3.out).sure) HP1.out (by unfold maxLen; omega) (by omega) (by first | (simp; done) | (simp; omega)) ?_
  intro A1' d1 w5 hO1 hF1 hA1
  have hN1 : New w3 w5 := (by repeat (first | with_reducible exact New.refl _ | with_reducible assumption | with_reducible refine New.dr ?_ | with_reducible refine New.al ?_ _) : New w3 _).fr hF1 (by intro k hk; simp [Value.ownBlock] at hk; omega)
  rw [Nat.zero_add, List.nil_append] at hO1
  rw [Nat.zero_add] at hA1
  rw [Nat.zero_add]
  try simp only [Act.put, List.setIfInBounds_toArray, List.set_cons_zero, List.set_cons_succ]
  refine hK.out _ _ (fun _ => hSN _ (by repeat (first | with_reducible exact New.refl _ | with_reducible assumption | with_reducible refine New.dr ?_ | with_reducible refine New.al ?_ _) : New w3 _)) ?_
  refine wpAnyT_ready (rs := [6]) (by kernel_rfl) (by simp) (AllT.cons (i := 6) rfl (fun K hK => ?_) AllT.nil)
  refine step_app elP _ (by rfl) (.tmp 10) (.tmp 12) (by rfl) w3.heap.size (.slice A1' r.sure.length d1) r.sure.length (flatP r.sure) (by rfl) (own_fr (S := NoB) hO1 (by repeat (first | with_reducible exact Fr.refl _ _ | with_reducible refine Fr.drew ?_ | with_reducible refine Fr.alloc ?_ _)) (fun _ _ h => h)) A2 r.fresh.length c2 (flatP r.fresh) (by rfl) ((by repeat (first | with_reducible exact New.refl _ | with_reducible assumption | with_reducible refine New.dr ?_ | with_reducible refine New.al ?_ _) : New w3 _).rd (H.out.new HN3.out).fresh) HP2.out (by unfold maxLen; omega) (by omega) ((by repeat (first | with_reducible exact New.refl _ | with_reducible assumption | with_reducible refine New.dr ?_ | with_reducible refine New.al ?_ _) : New w3 _).size) ?_
  intro A2' d2' w6 hO2 hF2 hA2
  have hN2 : New w3 w6 := (by repeat (first | with_reducible exact New.refl _ | with_reducible assumption | with_reducible refine New.dr ?_ | with_reducible refine New.al ?_ _) : New w3 _).fr hF2 (by intro k hk; exact (own_lt hO1 k hk).1)
  have HO2 := Lib.hid hO2
  have hK6 := hN2.blk HB3.out
  have h60 := hK6.cell 1
  have h6f := hK6.frozen 1
  clear hO2 hA2 hF2 hA1 hO1 hF1
  try simp only [Act.put, List.setIfInBounds_toArray, List.set_cons_zero, List.set_cons_succ]
  refine hK.out _ _ (fun _ => hSN _ (by repeat (first | with_reducible exact New.refl _ | with_reducible assumption | with_reducible refine New.dr ?_ | with_reducible refine New.al ?_ _) : New w3 _)) ?_
  refine wpAnyT_take (i := 7) (v := .pointer (some ⟨G, 1, none⟩)) rfl (by kernel_rfl) (by kernel_rfl) (by kernel_rfl) (by kernel_rfl) (fun _ _ _ h => h) (Or.inl ⟨by rfl, fun w hSw => by have h1 := hSw.1; have h2 := hSw.2; clear hSw; go_simp⟩) (hSN _ (by repeat (first | with_reducible exact New.refl _ | with_reducible assumption | with_reducible refine New.dr ?_ | with_reducible refine New.al ?_ _) : New w3 _)) ?_
  try simp only [Act.put, List.setIfInBounds_toArray, List.set_cons_zero, List.set_cons_succ]
  refine wpAnyT_ready (rs := [8]) (by kernel_rfl) (by simp) (AllT.cons (i := 8) rfl (fun K hK => ?_) AllT.nil)
  go_simp
  try simp only [Act.put, List.setIfInBounds_toArray, List.set_cons_zero, List.set_cons_succ]
  refine hK.out _ _ (fun h => absurd rfl h) ?_
  refine wpAnyT_done (by kernel_rfl) ?_ _
  obtain ⟨w7, hw7⟩ : ∃ w7 : World, w7 = w6.setCell ⟨G, 1, none⟩ (.slice A2' (r.sure.length + r.fresh.length) d2') := ⟨_, rfl⟩
  have HB7 : Hid (Blk w7 G 32 #[.int .i64 r.size, .slice A2' (r.sure.length + r.fresh.length) d2', .slice A2 r.fresh.length c2, .int .i64 r.fuse, .bool false]) := Lib.hid (by rw [hw7]; exact hK6.set 1 _)
  have HF7 : Hid (Fr (fun k => k = G) w6 w7) := Lib.hid (by rw [hw7]; exact (Fr.refl (fun k => k = G) w6).setCell (p := ⟨G, 1, none⟩) (fun _ => rfl) _)
  have HN2 := Lib.hid hN2
  have HK6 := Lib.hid hK6
  have i72 := HB7.out.cell 2
  have q72 := HB7.out.frozen 2
  try rw [← hw7]
  clear hw7 hK6 h60 h6f hN2 hN1 hSN
  go_upto_region 5 with fail
  obtain ⟨w9, hw9⟩ : ∃ w9 : World, w9 = w7.setCell ⟨G, 2, none⟩ (.slice none 0 0) := ⟨_, rfl⟩
  have HB9 : Hid (Blk w9 G 32 #[.int .i64 r.size, .slice A2' (r.sure.length + r.fresh.length) d2', .slice none 0 0, .int .i64 r.fuse, .bool false]) := Lib.hid (by rw [hw9]; exact HB7.out.set 2 _)
  have HF9 : Hid (Fr (fun k => k = G) w6 w9) := Lib.hid (by rw [hw9]; exact HF7.out.setCell (p := ⟨G, 2, none⟩) (fun _ => rfl) _)
  have HR9 := Lib.hid ((New.blk HN2.out HR3.out).fr HF9.out (by omega))
  try rw [← hw9]
  clear hw9 i72 q72
  go_wp2_with (first
    | ((with_reducible refine atOp ⟨some 16, .load _ _, _, _, _, _⟩ ?_); refine wpList_load_any rfl _ rfl Tryd.underlying32 rfl rfl rfl HB9.out ?_)
    | ((with_reducible refine atOp ⟨none, .store 32 (.tmp 2) _, _, _, _, _⟩ ?_); refine wpList_store_any rfl (.tmp 2) (.tmp 16) rfl rfl rfl rfl HR9.out rfl (rf_one _ _ _ _ _ _ _ _ _) ?_; intro w8 hb8 hf8; have HB8 := Lib.hid hb8; have HF8 := Lib.hid hf8; clear hb8 hf8))
  refine bodyPost_ret (results_row2 rfl _ _ (G + 1) _ _ rfl HB8.out Tryd.underlying32 rfl rfl) rfl ?_
  have hF68 : Fr (fun k => k = G ∨ k = G + 1) w6 w8 := (HF9.out.mono fun b _ h => .inl h).trans (HF8.out.mono fun b _ h => .inr h)
  have hN8 : New w w8 := (HN3.out.tr HN2.out).fr hF68 (fun k hk => by have := HGW.out; omega)
  refine ⟨⟨A2', d2', none, 0, ?_, ?_⟩, hN8⟩
  · rw [HW.out]
    unfold RfV
    simp only [List.length_append, List.length_nil]
    rw [HDN.out]
    rfl
  · rw [HW.out]
    refine ⟨?_, RdT.nil, ?_⟩
    · have h6 : RdT 92 w6 65 A2' (r.sure.length + r.fresh.length) (flatP (r.sure ++ r.fresh)) := by
        have := RdT.own HO2.out rfl
        rw [flatP_app]
        exact this
      have := h6.fr hF68 (fun k hk => by rcases hk with rfl | rfl <;> first | exact IsT.not_blk HK6.out (by decide) | exact IsT.not_blk (New.blk HN2.out HR3.out) (by decide))
      simpa using this
    · rw [← HW.out]; exact H.out.ok.sync
theorem rsync_any (r : RP) (A1 : Option Addr) (c1 : Nat) (A2 : Option Addr) (c2 : Nat) (w : World) (h : RfIn w r A1 A2) (hn : r.tot ≤ 100000) :
    Calls Tryd.prog 33 #[.agg (RfV r A1 c1 A2 c2)] w fun e w' => RfEnd w' r.sync r.scode e ∧ New w w' := by
  cases hd : r.down with
  | true =>
    rw [show r.sync = r from by unfold RP.sync; rw [hd, if_pos rfl], show r.scode = 14 from by unfold RP.scode; rw [hd, if_pos rfl]]
    exact rsync_down r A1 c1 A2 c2 w h hd
  | false =>
    rw [show r.scode = 0 from by unfold RP.scode; rw [hd, if_neg (by simp)]]
    exact rsync_in r A1 c1 A2 c2 w h hd hn
end Go.Proofs.YteeclfejgpgooaaDoor
