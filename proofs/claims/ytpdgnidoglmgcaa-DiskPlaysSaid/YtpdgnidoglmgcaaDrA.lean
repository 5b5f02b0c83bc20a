/- The reference's disk: made, read. No condition but that it can be read. -/
import Derived.Test.YtpdgnidoglmgcaaDrP
namespace Go.Proofs.Ytpdgnidoglmgcaa
open Go.RowKit Go.Maps

/-- A put sector of a list. -/
theorem rd_put {q : Nat → Prop} {w : World} {A : Option Addr} {n : Nat} {L : List PU} (h : Rd q w 65 A n (flatP L)) (hL : L.length = n) (hg : ∀ a ∈ L, SecOk a.s) {i : Nat} (hi : i < n) :
    ∃ (g o : Nat) (hl : i < L.length), A = some ⟨g, o, none⟩ ∧ g < w.heap.size ∧ w.cell? ⟨g, o + i * 65, none⟩ = some (.int .i64 L[i].pos) ∧ w.rangeAt g (o + i * 65 + 1) (u8s L[i].s) := by
  obtain ⟨g, o, hA, hp, hgs, hc⟩ := h.out (by omega) (by omega)
  have hl : i < L.length := by omega
  have key : ∀ j, j < 65 → ∀ v, (L[i].cells)[j]? = some v → w.cell? ⟨g, o + i * 65 + j, none⟩ = some v := fun j hj v hv => by
    have := fm_get PU.cells 65 L i j hl (fun x hx => PU.len (hg x hx)) hj
    rw [Nat.add_assoc]
    exact hc (i * 65 + j) v (by rw [flatP, this, hv])
  refine ⟨g, o, hl, hA, hgs, key 0 (by omega) _ rfl, fun j v hv => ?_⟩
  have hj : j < 64 := by
    have := (List.getElem?_eq_some_iff.1 hv).1
    rwa [u8s_len, (hg _ (List.getElem_mem _)).1] at this
  rw [Nat.add_assoc]
  have := key (1 + j) (by omega) v (by simp only [PU.cells]; rw [Nat.add_comm, List.getElem?_cons_succ]; exact hv)
  exact this
/-- What get answers. -/
def getS (L : List PU) (x : Int) : List Int := (lastP L x).getD sec0

set_option maxHeartbeats 2000000 in
set_option maxRecDepth 100000 in
theorem get_any {q : Nat → Prop} (A : Option Addr) (n c : Nat) (L : List PU) (x : Int) (w : World) (hR : Rd q w 65 A n (flatP L)) (hL : L.length = n) (hg : ∀ a ∈ L, SecOk a.s) (hn : n ≤ 1000000) :
    Calls Try.prog 33 #[.slice A n c, .int .i64 x] w fun e w' => e = .returned (.tuple #[.agg (secA (getS L x)), .bool (lastP L x).isSome]) ∧ New w w' := by
  have HR := Lib.hid hR
  have HL := Lib.hid hL
  have HG := Lib.hid hg
  clear hR hL hg
  go_enter Try.func33, Try.ntmps33
  go_wp2_with ((with_reducible refine atOp ⟨some 4, .alloc _, _, _, _, _⟩ ?_); refine wpList_alloc_sec rfl rfl secInfo ?_)
  obtain ⟨w0, hw0⟩ : ∃ w0 : World, w0 = w.alloc (.cells (secA sec0) 31) := ⟨_, rfl⟩
  have HN0 : Hid (New w w0) := Lib.hid (by rw [hw0]; exact New.al (New.refl _) _)
  have HB0 : Hid (Blk w0 w.heap.size 31 (secA sec0)) := Lib.hid (by rw [hw0]; exact Blk.new _ _ _)
  rw [← hw0]
  clear hw0
  go_loopw [6] (fun i wr => ∃ (j : Nat), j ≤ n ∧ i = .int .i64 ((j : Int) - 1) ∧ wr = w0 ∧ Hid (lastP L x = lastP (L.take j) x)) (fun i _ => (intOf i + 1).toNat)
  case atStart => exact ⟨n, by omega, by go_num, rfl, Lib.hid (by rw [List.take_of_length_le (by rw [HL.out]; omega)])⟩
  case round =>
    obtain ⟨j, hj, rfl, rfl, HI⟩ := hrel
    rcases j with _ | j
    · have HI0 : Hid (lastP L x = none) := Lib.hid (by rw [HI.out]; rfl)
      have HGS : Hid (getS L x = sec0) := Lib.hid (by unfold getS; rw [HI0.out]; rfl)
      have hbuild : ∀ w, (Instr.build 31 #[]).run Try.prog w = .ok (.agg (secA sec0)) w := fun _ => by kernel_rfl
      clear HI
      go_wp2_with ((with_reducible refine atOp ⟨none, .store 31 (.tmp 4) _, _, _, _, _⟩ ?_); refine wpList_store_blk (s := sec0) (s0 := sec0) rfl (.tmp 4) (.tmp 26) rfl rfl rfl rfl HB0.out rfl sec0_ok.1 ?_; intro w2 hb2 hf2; have HB2 := Lib.hid hb2; have HF2 := Lib.hid hf2; clear hb2 hf2)
      refine bodyPost_ret (results_sec2 rfl _ _ rfl HB2.out Try.underlying31 rfl sec0_ok.1) rfl ?_
      exact ⟨by rw [HGS.out, HI0.out]; rfl, HN0.out.fr HF2.out (fun k hk => by omega)⟩
    · obtain ⟨gA, oA, hl, rfl, -, cp, hra⟩ := rd_put (HN0.out.rd HR.out) HL.out HG.out (show j < n by omega)
      have hsn : lastP (L.take (j + 1)) x = if L[j].pos = x then some L[j].s else lastP (L.take j) x := by rw [List.take_succ_eq_append_getElem hl, lastP_snoc]
      have hok := HG.out L[j] (List.getElem_mem _)
      generalize L[j] = pu at cp hra hsn hok
      have HSN := Lib.hid hsn
      have HRA := Lib.hid hra
      have HOK := Lib.hid hok
      have hj0 : (0 : Int) ≤ ((j + 1 : Nat) : Int) - 1 := by omega
      have hj1 : (((j + 1 : Nat) : Int) - 1).toNat = j := by omega
      have hj2 : ((j + 1 : Nat) : Int) - 1 = (j : Int) := by omega
      have hlt : j < n := by omega
      rw [hj2]
      clear hsn hra hok hj0 hj1 hj2
      by_cases hp : pu.pos = x
      · have HLX : Hid (lastP L x = some pu.s) := Lib.hid (by rw [HI.out, HSN.out, if_pos hp])
        have HGS : Hid (getS L x = pu.s) := Lib.hid (by unfold getS; rw [HLX.out]; rfl)
        have hpb : (pu.pos == x) = true := by simp [hp]
        clear hp HI
        go_wp2_with (first
          | ((with_reducible refine atOp ⟨some 25, .load _ _, _, _, _, _⟩ ?_); refine wpList_load_range rfl _ rfl rfl HRA.out Try.underlying31 rfl (by rw [u8s_len, HOK.out.1]; rfl) ?_)
          | ((with_reducible refine atOp ⟨none, .store 31 (.tmp 4) _, _, _, _, _⟩ ?_); refine wpList_store_blk (s := pu.s) (s0 := sec0) rfl (.tmp 4) (.tmp 25) rfl rfl rfl rfl HB0.out rfl HOK.out.1 ?_; intro w2 hb2 hf2; have HB2 := Lib.hid hb2; have HF2 := Lib.hid hf2; clear hb2 hf2))
        refine bodyPost_ret (results_sec2 rfl _ _ rfl HB2.out Try.underlying31 rfl HOK.out.1) rfl ?_
        exact ⟨by rw [HGS.out, HLX.out]; rfl, HN0.out.fr HF2.out (fun k hk => by omega)⟩
      · have HI2 : Hid (lastP L x = lastP (L.take j) x) := Lib.hid (by rw [HI.out, HSN.out, if_neg hp])
        have hpb : (pu.pos == x) = false := by simp [hp]
        clear hp HI
        go_wp2_with fail
        go_roundw
        case rel => exact ⟨j, by omega, by go_num, trivial, HI2⟩
        case measure => simp [intOf]
theorem results_row1 {fn : Func} {p : Tmp} {ty : TypeId} {P : Program} (h : fn.results = #[.cell p ty]) (tmps : Array Value) (w : World) (g : Nat) (cs : Array Value) (d : TypeDesc)
    (hp : tmps.getD p undef = .pointer (some ⟨g, 0, none⟩)) (hg : Blk w g ty cs) (hu : P.underlying ty = some d) (hd : d.isRow = true) (hi : (P.info? ty).map (·.size) = some cs.size) :
    (results fn tmps).run P w = .ok (.agg cs) w := results_cell_row h tmps w g ty cs (0, 0) d hp hg hu (by cases d <;> first | rfl | (simp [TypeDesc.isRow] at hd)) hi
theorem results_row2 {fn : Func} {p q : Tmp} {ty : TypeId} {P : Program} (h : fn.results = #[.cell p ty, .tmp q]) (tmps : Array Value) (w : World) (g : Nat) (cs : Array Value) (d : TypeDesc)
    (hp : tmps.getD p undef = .pointer (some ⟨g, 0, none⟩)) (hg : Blk w g ty cs) (hu : P.underlying ty = some d) (hd : d.isRow = true) (hi : (P.info? ty).map (·.size) = some cs.size) :
    (results fn tmps).run P w = .ok (.tuple #[.agg cs, tmps.getD q undef]) w := by
  have hp' : tmps[p]?.getD undef = .pointer (some ⟨g, 0, none⟩) := by simpa using hp
  simp [results, h, hp', asAddr, run_loadVar_row w g ty ty cs (0, 0) _ hg hu (by cases d <;> first | rfl | (simp [TypeDesc.isRow] at hd)) hi]

theorem rnew_any (n : Int) (w : World) : Calls Try.prog 17 #[.int .i64 n] w fun e w' => e = .returned (.agg (RfV (RP.new n) none 0 none 0)) ∧ New w w' := by
  go_enter Try.func17, Try.ntmps17
  go_wp2_with fail
  refine bodyPost_ret (v := .agg (RfV (RP.new n) none 0 none 0)) (results_row1 rfl _ _ w.heap.size _ _ rfl (Blk.new _ _ _) Try.underlying48 rfl rfl) rfl ?_
  exact ⟨rfl, (New.refl w).al _⟩

set_option maxHeartbeats 4000000 in
set_option maxRecDepth 100000 in
theorem rread_any (r : RP) (A1 : Option Addr) (c1 : Nat) (A2 : Option Addr) (c2 : Nat) (x : Int) (w : World) (h : RfIn w r A1 A2) (hn : r.tot ≤ 1000000) (hx : (Lit.int .i64 x).wf = true) (hz : -9223372036854775808 ≤ r.size ∧ r.size ≤ 9223372036854775807) :
    Calls Try.prog 30 #[.agg (RfV r A1 c1 A2 c2), .int .i64 x] w fun e w' => e = .returned (.tuple #[.agg (secA (r.rget x)), .int .i64 (r.rcode x)]) ∧ New w w' := by
  have H := Lib.hid h
  have HT1 : Hid (r.sure.length ≤ 1000000) := Lib.hid (by unfold RP.tot at hn; omega)
  have HT2 : Hid (r.fresh.length ≤ 1000000) := Lib.hid (by unfold RP.tot at hn; omega)
  have hxb := bounds_i64 hx
  unfold RfV
  clear h hn hx
  by_cases hw : 0 ≤ x ∧ x < r.size
  · have t0 : decide (x < 0) = false := decide_eq_false (by omega)
    have t1 : decide (r.size ≤ x) = false := decide_eq_false (by omega)
    have HC : Hid (r.rcode x = 0 ∧ r.rget x = (match lastP r.fresh x with | some s => s | none => (lastP r.sure x).getD sec0)) := Lib.hid (by
      unfold RP.rcode RP.rget RP.within
      rw [decide_eq_true hw]; exact ⟨rfl, rfl⟩)
    clear hw
    go_enter Try.func30, Try.ntmps30
    go_wp2_with ((with_reducible refine atOp ⟨some 4, .alloc _, _, _, _, _⟩ ?_); refine wpList_alloc_sec rfl rfl secInfo ?_)
    obtain ⟨w0, hw0⟩ : ∃ w0 : World, w0 = (w.alloc (.cells #[.int .i64 r.size, .slice A1 r.sure.length c1, .slice A2 r.fresh.length c2, .int .i64 r.fuse, .bool r.down] 48)).alloc (.cells (secA sec0) 31) := ⟨_, rfl⟩
    have HN0 : Hid (New w w0) := Lib.hid (by rw [hw0]; exact ((New.refl w).al _).al _)
    have HB0 : Hid (Blk w0 (w.heap.size + 1) 31 (secA sec0)) := Lib.hid (by rw [hw0]; exact Blk.new' _ _ _ (by simp))
    have HR0 : Hid (Blk w0 w.heap.size 48 #[.int .i64 r.size, .slice A1 r.sure.length c1, .slice A2 r.fresh.length c2, .int .i64 r.fuse, .bool r.down]) := Lib.hid (by rw [hw0]; exact (Blk.new _ _ _).alloc _)
    rw [← hw0]
    clear hw0
    refine (get_any A2 r.fresh.length c2 r.fresh x w0 ((H.out.new HN0.out).fresh) rfl H.out.ok.2 HT2.out).mono ?_
    rintro e w1 ⟨rfl, hN1⟩
    have HN1 : Hid (New w w1) := Lib.hid (HN0.out.tr hN1)
    have HB1 := Lib.hid (New.blk hN1 HB0.out)
    have HR1 := Lib.hid (New.blk hN1 HR0.out)
    have hok := lastP_ok H.out.ok.2 x
    clear hN1
    cases hf : lastP r.fresh x with
    | some s =>
      have HF := Lib.hid hf
      have HG : Hid (getS r.fresh x = s) := Lib.hid (by unfold getS; rw [hf]; rfl)
      have HOK : Hid (SecOk s) := Lib.hid (by rw [hf] at hok; exact hok)
      clear hok hf
      rw [HG.out]
      simp only [Option.isSome_some]
      go_wp2_with (first
        | ((with_reducible refine atOp ⟨some 6, .alloc _, _, _, _, _⟩ ?_); refine wpList_newvar (s := s) rfl rfl rfl _ _ rfl secInfo rfl rfl rfl HOK.out.1 ?_)
        | ((with_reducible refine atOp ⟨some 27, .load _ _, _, _, _, _⟩ ?_); refine wpList_load_blk (s := s) rfl _ rfl Try.underlying31 rfl rfl (Blk.new _ _ _) HOK.out.1 ?_)
        | ((with_reducible refine atOp ⟨none, .store 31 (.tmp 4) _, _, _, _, _⟩ ?_); refine wpList_store_blk (s := s) (s0 := sec0) rfl (.tmp 4) (.tmp 27) rfl rfl rfl rfl (HB1.out.alloc _) rfl HOK.out.1 ?_; intro w2 hb2 hf2; have HB2 := Lib.hid hb2; have HF2 := Lib.hid hf2; clear hb2 hf2))
      refine bodyPost_ret (results_sec2 rfl _ _ rfl HB2.out Try.underlying31 rfl HOK.out.1) rfl ?_
      exact ⟨by rw [HC.out.1, HC.out.2, HF.out]; rfl, (HN1.out.al _).fr HF2.out (fun k hk => by omega)⟩
    | none =>
      have HF := Lib.hid hf
      have HG : Hid (getS r.fresh x = sec0) := Lib.hid (by unfold getS; rw [hf]; rfl)
      have HOK : Hid (SecOk (getS r.sure x)) := Lib.hid (lastP_ok H.out.ok.1 x)
      have HR2 := HR1.out.cell 1
      have e1 : ∀ o : Obj, (w1.alloc o).cell? ⟨w.heap.size, 1, none⟩ = some (.slice A1 r.sure.length c1) := fun o => (New.al (New.refl w1) o).cell_ (HR1.out.cell 1)
      clear hok hf HR2
      rw [HG.out]
      simp only [Option.isSome_none]
      go_wp2_with ((with_reducible refine atOp ⟨some 6, .alloc _, _, _, _, _⟩ ?_); refine wpList_newvar (s := sec0) rfl rfl rfl _ _ rfl secInfo rfl rfl rfl sec0_ok.1 ?_)
      obtain ⟨w2, hw2⟩ : ∃ w2 : World, w2 = w1.alloc (.cells (secA sec0) 31) := ⟨_, rfl⟩
      have HN2 : Hid (New w w2) := Lib.hid (by rw [hw2]; exact HN1.out.al _)
      have HB2 : Hid (Blk w2 (w.heap.size + 1) 31 (secA sec0)) := Lib.hid (by rw [hw2]; exact HB1.out.alloc _)
      rw [← hw2]
      clear hw2 e1
      refine (get_any A1 r.sure.length c1 r.sure x w2 ((H.out.new HN2.out).sure) rfl H.out.ok.1 HT1.out).mono ?_
      rintro e w3 ⟨rfl, hN3⟩
      have HN3 : Hid (New w w3) := Lib.hid (HN2.out.tr hN3)
      have HB3 := Lib.hid (New.blk hN3 HB2.out)
      have HE : Hid (r.rget x = getS r.sure x) := Lib.hid (by rw [HC.out.2, HF.out]; rfl)
      clear hN3
      generalize getS r.sure x = s at *
      go_wp2_with (first
        | ((with_reducible refine atOp ⟨some 8, .alloc _, _, _, _, _⟩ ?_); refine wpList_newvar (s := s) rfl rfl rfl _ _ rfl secInfo rfl rfl rfl HOK.out.1 ?_)
        | ((with_reducible refine atOp ⟨some 35, .load _ _, _, _, _, _⟩ ?_); refine wpList_load_blk (s := s) rfl _ rfl Try.underlying31 rfl rfl (Blk.new _ _ _) HOK.out.1 ?_)
        | ((with_reducible refine atOp ⟨none, .store 31 (.tmp 4) _, _, _, _, _⟩ ?_); refine wpList_store_blk (s := s) (s0 := sec0) rfl (.tmp 4) (.tmp 35) rfl rfl rfl rfl (HB3.out.alloc _) rfl HOK.out.1 ?_; intro w4 hb4 hf4; have HB4 := Lib.hid hb4; have HF4 := Lib.hid hf4; clear hb4 hf4))
      refine bodyPost_ret (results_sec2 rfl _ _ rfl HB4.out Try.underlying31 rfl HOK.out.1) rfl ?_
      exact ⟨by rw [HC.out.1, HE.out]; rfl, (HN3.out.al _).fr HF4.out (fun k hk => by omega)⟩
  · have HC : Hid (r.rcode x = 1 ∧ r.rget x = sec0) := Lib.hid (by
      unfold RP.rcode RP.rget RP.within
      rw [decide_eq_false hw]; exact ⟨rfl, rfl⟩)
    have hbuild : ∀ w, (Instr.build 31 #[]).run Try.prog w = .ok (.agg (secA sec0)) w := fun _ => by kernel_rfl
    by_cases hx0 : x < 0
    · have t0 : decide (x < 0) = true := decide_eq_true hx0
      clear hw
      go_enter Try.func30, Try.ntmps30
      go_wp2_with (first
        | ((with_reducible refine atOp ⟨some 4, .alloc _, _, _, _, _⟩ ?_); refine wpList_alloc_sec rfl rfl secInfo ?_)
        | ((with_reducible refine atOp ⟨none, .store 31 (.tmp 4) _, _, _, _, _⟩ ?_); refine wpList_store_blk (s := sec0) (s0 := sec0) rfl (.tmp 4) (.tmp 18) rfl rfl rfl rfl (Blk.new' _ _ _ (by simp)) rfl sec0_ok.1 ?_; intro w4 hb4 hf4; have HB4 := Lib.hid hb4; have HF4 := Lib.hid hf4; clear hb4 hf4))
      refine bodyPost_ret (results_sec2 rfl _ _ rfl HB4.out Try.underlying31 rfl sec0_ok.1) rfl ?_
      exact ⟨by rw [HC.out.1, HC.out.2]; rfl, (((New.refl w).al _).al _).fr HF4.out (fun k hk => by omega)⟩
    · have t0 : decide (x < 0) = false := decide_eq_false hx0
      have t1 : decide (r.size ≤ x) = true := decide_eq_true (by omega)
      clear hw
      go_enter Try.func30, Try.ntmps30
      go_wp2_with (first
        | ((with_reducible refine atOp ⟨some 4, .alloc _, _, _, _, _⟩ ?_); refine wpList_alloc_sec rfl rfl secInfo ?_)
        | ((with_reducible refine atOp ⟨none, .store 31 (.tmp 4) _, _, _, _, _⟩ ?_); refine wpList_store_blk (s := sec0) (s0 := sec0) rfl (.tmp 4) (.tmp 18) rfl rfl rfl rfl (Blk.new' _ _ _ (by simp)) rfl sec0_ok.1 ?_; intro w4 hb4 hf4; have HB4 := Lib.hid hb4; have HF4 := Lib.hid hf4; clear hb4 hf4))
      refine bodyPost_ret (results_sec2 rfl _ _ rfl HB4.out Try.underlying31 rfl sec0_ok.1) rfl ?_
      exact ⟨by rw [HC.out.1, HC.out.2]; rfl, (((New.refl w).al _).al _).fr HF4.out (fun k hk => by omega)⟩
/-- A part laid into a struct's cells. -/
theorem fold_set (k : Nat) : ∀ (L : List Value) (m : Nat) (C : Array Value) (i : Nat), k + m + L.length ≤ C.size →
    (List.foldl (fun cs x => cs.setIfInBounds (k + x.snd) x.fst) C (L.zipIdx m))[i]? = if k + m ≤ i ∧ i < k + m + L.length then L[i - (k + m)]? else C[i]?
  | [], m, C, i, _ => by simp; intro h1 h2; omega
  | v :: L, m, C, i, h => by
    simp only [List.length_cons] at h
    rw [List.zipIdx_cons, List.foldl_cons, fold_set k L (m + 1) _ i (by simp; omega)]
    simp only [List.length_cons]
    by_cases h1 : k + (m + 1) ≤ i ∧ i < k + (m + 1) + L.length
    · rw [if_pos h1, if_pos (by omega)]
      rw [show i - (k + m) = (i - (k + (m + 1))) + 1 by omega, List.getElem?_cons_succ]
    · rw [if_neg h1, Array.getElem?_setIfInBounds]
      by_cases h2 : k + m = i
      · subst h2
        rw [if_pos rfl, if_pos (by omega), if_pos (by omega), Nat.sub_self]
        rfl
      · rw [if_neg h2, if_neg (by omega)]
def putA (x : Int) (s : List Int) : Array Value := (PU.cells ⟨x, s⟩).toArray
def putZ : Array Value := putA 0 sec0
theorem putZ_size : putZ.size = 65 := by simp [putZ, putA, PU.len (x := ⟨0, sec0⟩) sec0_ok]
theorem putZ_ne : putZ ≠ #[] := fun e => by have := congrArg Array.size e; rw [putZ_size] at this; simp at this
theorem putZ_zero (w : World) : (zeroValue 75).run Try.prog w = .ok (.agg putZ) w := (zero_of_info (n := 65) (by kernel_rfl)).1 w
theorem put_fold {x : Int} {s : List Int} (hs : SecOk s) : List.foldl (fun cs x => cs.setIfInBounds (1 + x.snd) x.fst) (putZ.setIfInBounds 0 (.int .i64 x)) (u8s s).zipIdx = putA x s := by
  apply Array.ext_getElem?
  intro i
  have hl : (u8s s).length = 64 := by rw [u8s_len, hs.1]
  rw [fold_set 1 (u8s s) 0 _ i (by simp [putZ_size, hl])]
  rw [hl]
  unfold putA PU.cells
  by_cases h : 1 + 0 ≤ i ∧ i < 1 + 0 + 64
  · rw [if_pos h]
    obtain ⟨j, rfl⟩ : ∃ j, i = j + 1 := ⟨i - 1, by omega⟩
    simp
  · rw [if_neg h]
    by_cases h0 : i = 0
    · subst h0
      rw [Array.getElem?_setIfInBounds, if_pos rfl, if_pos (by rw [putZ_size]; omega)]
      rfl
    · rw [Array.getElem?_setIfInBounds, if_neg (by omega), Array.getElem?_eq_none (by rw [putZ_size]; omega)]
      simp [hl]
      omega

theorem putA_size {x : Int} {s : List Int} (hs : SecOk s) : (putA x s).size = 65 := by simp [putA, PU.len (x := ⟨x, s⟩) hs]
theorem put_fold2 {x : Int} {s : List Int} (hs : SecOk s) (C : Array Value) (hC : C.size = 65) : Array.foldl (fun cs x => cs.setIfInBounds x.snd x.fst) C ((putA x s).zipIdx) 0 65 = putA x s := by
  have h65 : ((putA x s).zipIdx).size = 65 := by simp [putA_size hs]
  have e : Array.foldl (fun cs x => cs.setIfInBounds x.snd x.fst) C ((putA x s).zipIdx) 0 65 = List.foldl (fun cs x => cs.setIfInBounds (0 + x.snd) x.fst) C ((putA x s).toList.zipIdx 0) := by
    have := Array.foldl_toList (fun (cs : Array Value) (x : Value × Nat) => cs.setIfInBounds x.snd x.fst) (init := C) (xs := (putA x s).zipIdx)
    rw [h65] at this
    rw [← this, Array.toList_zipIdx]
    simp only [Nat.zero_add]
  rw [e]
  apply Array.ext_getElem?
  intro i
  have hl : (putA x s).toList.length = 65 := by simp [putA_size hs]
  rw [fold_set 0 _ 0 C i (by omega), hl]
  by_cases h : 0 + 0 ≤ i ∧ i < 0 + 0 + 65
  · rw [if_pos h]; simp
  · rw [if_neg h, Array.getElem?_eq_none (by omega), Array.getElem?_eq_none (by rw [putA_size hs]; omega)]

end Go.Proofs.Ytpdgnidoglmgcaa
