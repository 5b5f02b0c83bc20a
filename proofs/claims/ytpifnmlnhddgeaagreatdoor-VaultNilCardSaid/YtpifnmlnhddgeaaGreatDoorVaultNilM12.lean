/- Texts of one proof, one behind the other: MxV, Held, Row, KvP, Keys, KvA, KvB. No condition but each one's own. -/
import Derived.Test.YtpifnmlnhddgeaaGreatDoorVaultNilM2
import Derived.Test.YtpifnmlnhddgeaaGreatDoorVaultNilM1
import Derived.Test.YtpifnmlnhddgeaaGreatDoorVaultNilM10
import Derived.OrdersHeld
import Derived.Test.YtpifnmlnhddgeaaGreatDoorVaultNilM4
import Derived.Deep.WholeRow
import Derived.Deep.MidRow
import Derived.StringKeys
import Derived.Shelf.SlIter.Nil
import Derived.Shelf.SortM.Plain
import Derived.Shelf.SortM.SortNone
import Derived.Test.YtpifnmlnhddgeaaGreatDoorProg
import Derived.Deep.RegionHeld3
import Derived.TacticsInMore
import Derived.Deep.CutBlock
namespace Go.Proofs.YtpifnmlnhddgeaaGreatDoor
set_option linter.unusedVariables false
set_option linter.unusedSimpArgs false
set_option linter.constructorNameAsVariable false
open Go.RowKit Go.Maps
section
variable {P : Program} {ops : Array Oper} {Q : Exit → Act → World → Prop} {S : World → Prop} {last : Nat}
theorem mix_take_v {i : Nat} {o : Oper} {sc : List (Bool × Nat)} {a : Act} {w : World} (ho : ops[i]? = some o) (hw : Region.wanted o (yielded ops a.tmps) = true) (v : Value) (hr : ∀ p : HW S, (execOp a.eval o).run P p.w = .ok (.value v) p.w)
    (h : wpMix P ops S last Q sc (a.put o.dst v) w) : wpMix P ops S last Q ((true, i) :: sc) a w :=
 ⟨o, ho, by rw [if_pos hw]; exact ⟨v, hr, h⟩⟩
theorem mix_take_look {i : Nat} {o : Oper} {sc : List (Bool × Nat)} {a : Act} {w : World} (ho : ops[i]? = some o) (hw : Region.wanted o (yielded ops a.tmps) = true) {k e t : TypeId} {b n : Nat} {f : Lit → Option Value} (hM : ∀ w, S w → MapAt w P k b n f) (K : Keyed P k) (ht : P.underlying t = some (.map k e)) {z : Value} (hz : ∀ w, (zeroValue e).run P w = .ok z w)
    (m x : Operand) (hop : o.op = .lookup t m x true) (hm : a.eval m = .map (some b)) (key : Value) (kl : Lit) (hx : a.eval x = key) (hkey : keyOf P k key = some kl)
    (h : wpMix P ops S last Q sc (a.put o.dst (.tuple #[(f kl).getD z, .bool (f kl).isSome])) w) : wpMix P ops S last Q ((true, i) :: sc) a w :=
 mix_take_v ho hw _ (fun p => by
  have hl := ((hM p.w p.h).look K ht (hz p.w) hkey).1
  unfold execOp
  simp [hop, hm, hx, hl, Result.andThen]) h
theorem mix_alloc {i : Nat} {o : Oper} {sc : List (Bool × Nat)} {a : Act} {w : World} {T : TypeId} {n : Nat} {Z : Value} (ho : ops[i]? = some o) (hw : Region.wanted o (yielded ops a.tmps) = true) (hop : o.op = .alloc T) (hZ : (P.info? T).map (fun i => (i.zero, i.size)) = some (some Z, n))
    (h : ∀ g w', Blk w' g T Z.cells → New w w' → w.heap.size ≤ g → (i ≠ last → S w') ∧ wpMix P ops S last Q sc (a.put o.dst (.pointer (some ⟨g, 0, none⟩))) w') : wpMix P ops S last Q ((false, i) :: sc) a w := by
 refine mix_act ho (fun K hK => ?_) (.inl hw)
 refine step_allocn hw hop hZ fun g w' h1 h2 h3 => ?_
 obtain ⟨h4, h5⟩ := h g w' h1 h2 h3
 exact hK.out _ _ h4 h5
theorem mix_store_part {i : Nat} {o : Oper} {sc : List (Bool × Nat)} {a : Act} {w : World} {T ty : TypeId} {g off : Nat} {cur cells : List Value} (hop : ops[i]? = some o) (hw : Region.wanted o (yielded ops a.tmps) = true) (x y : Operand) (ho : o.op = .store ty x y) (hx : a.eval x = .pointer (some ⟨g, off, none⟩)) (hy : a.eval y = .agg cells.toArray)
    (hg : Blk w g T cur.toArray) (hl : off + cells.length ≤ cur.length) (hi : (P.info? ty).map (·.size) = some cells.length) (h1 : ∀ v ∈ cells, v.oneCell' = true)
    (h : ∀ w', Blk w' g T (splice cur off cells).toArray → Fr (fun k => k = g) w w' → (i ≠ last → S w') ∧ wpMix P ops S last Q sc (a.put o.dst undef) w') : wpMix P ops S last Q ((false, i) :: sc) a w := by
 refine ⟨o, hop, ?_⟩
 rw [if_pos hw]
 obtain ⟨w', hrun, r1, r2⟩ := run_store_part (P := P) hg hl hi h1
 unfold Oper.wp execOp
 simp only [ho, hx, hy, Sem.run_bind, hrun, Result.andThen_ok, Sem.run_pure]
 exact h w' r1 r2
end
end Go.Proofs.YtpifnmlnhddgeaaGreatDoor
namespace Go.Proofs.YtpifnmlnhddgeaaGreatDoor
set_option linter.unusedVariables false
set_option linter.unusedSimpArgs false
set_option linter.constructorNameAsVariable false
open Go.RowKit
section
variable {P : Program} {ops : Array Oper} {o : Oper} {a : Act} {w : World} {Q : Exit → Act → World → Prop} {K : Act → World → Prop} {F : Prop}
theorem step_bs1 {t e : TypeId} {size bytes : Nat} (E : ElemOf P t e size bytes) (hs : size ≤ 16777216) (hw : Region.wanted o (yielded ops a.tmps) = true) (x : Operand)
    (ho : o.op = .buildSlice t 1 #[(0, x)]) (cs : Array Value) (hx : a.eval x = .agg cs) (hc : cs.size = size)
    (h : ∀ g w', Blk w' g e cs → New w w' → w.heap.size ≤ g → K (a.put o.dst (.slice (some ⟨g, 0, none⟩) 1 1)) w') : if Region.wanted o (yielded ops a.tmps) = true then Oper.wp P o a w K Q else F := by
 rw [if_pos hw]
 unfold Oper.wp execOp
 simp only [ho, Sem.run_bind, List.map_toArray, List.map_cons, List.map_nil, hx, run_bs1 E hs (.agg cs) hc w, Result.andThen_ok]
 exact h _ _ (Blk.new _ _ _) (New.al (New.refl _) _) (Nat.le_refl _)
end
end Go.Proofs.YtpifnmlnhddgeaaGreatDoor
namespace Go.Proofs.YtpifnmlnhddgeaaGreatDoor
set_option linter.unusedVariables false
set_option linter.unusedSimpArgs false
set_option linter.constructorNameAsVariable false
open Go.RowKit
theorem rd_row {α : Type} {p : Nat → Prop} {w : World} {A : Option Addr} {n size : Nat} {f : α → List Value} {L : List α} (hf : ∀ x, (f x).length = size) (hs : 0 < size) (h : Rd p w size A n (L.flatMap f)) {i : Nat} (hi : i < n) :
    ∃ (g o : Nat) (hl : i < L.length), A = some ⟨g, o, none⟩ ∧ p g ∧ g < w.heap.size ∧ w.rangeAt g (o + i * size) (f L[i]) := by
 obtain ⟨g, o, hA, hp, hg, hc⟩ := h.out (by omega) hs
 have hlen : (L.flatMap f).length = L.length * size := by
  clear hc h
  induction L with
  | nil => simp
  | cons x L ih => simp [hf x, ih]; rw [Nat.succ_mul, Nat.add_comm]
 have hl : i < L.length := by
  have h1 := h.1
  rw [hlen] at h1
  have := Nat.eq_of_mul_eq_mul_right hs h1
  omega
 refine ⟨g, o, hl, hA, hp, hg, fun j v hv => ?_⟩
 have hj : j < size := by rw [← hf L[i]]; exact (List.getElem?_eq_some_iff.1 hv).1
 rw [Nat.add_assoc]
 exact hc (i * size + j) v (by rw [fm_get f size L i j hl (fun x _ => hf x) hj]; exact hv)
end Go.Proofs.YtpifnmlnhddgeaaGreatDoor
namespace Go.Proofs.YtpifnmlnhddgeaaGreatDoor
set_option linter.unusedVariables false
set_option linter.unusedSimpArgs false
set_option linter.constructorNameAsVariable false
open Go.RowKit Go.Maps
structure Fm where
 A : Option Addr
 n : Nat
 c : Nat
 xs : List Int
def Fm.val (x : Fm) : Value := .slice x.A x.n x.c
structure Fm.In (P : Nat → Prop) (w : World) (x : Fm) : Prop where
 rd : Rd P w 1 x.A x.n (u8s x.xs)
 byt : Byt x.xs
theorem Fm.In.len {P : Nat → Prop} {w : World} {x : Fm} (h : x.In P w) : x.xs.length = x.n := by have := h.rd.1; rw [u8s_len] at this; omega
structure Ch where
 k : Fm
 v : Fm
 d : Bool
def Ch.cells (c : Ch) : List Value := [.slice c.k.A c.k.n c.k.c, .slice c.v.A c.v.n c.v.c, .bool c.d]
structure Ch.In (P : Nat → Prop) (w : World) (c : Ch) : Prop where
 k : c.k.In P w
 v : c.v.In P w
theorem Ch.In.new {P : Nat → Prop} {w w' : World} {c : Ch} (h : c.In P w) (hN : New w w') : c.In P w' := ⟨⟨hN.rd h.k.rd, h.k.byt⟩, ⟨hN.rd h.v.rd, h.v.byt⟩⟩
def chOk (c : Ch) : Bool := decide (1 ≤ c.k.n) && decide (c.k.n ≤ 16) && decide (c.v.n ≤ 16384) && !(c.d && decide (0 < c.v.n))
def chsOk (L : List Ch) : Bool := decide (1 ≤ L.length) && decide (L.length ≤ 600) && L.all chOk
theorem rb {a b : Bool} (h : a = b) : Ending.returned (.bool a) = Ending.returned (.bool b) := by rw [h]
theorem right_any (c : Ch) (w : World) (hk : c.k.n ≤ maxLen) (hv : c.v.n ≤ maxLen) : Calls Tryz.prog 275 #[.agg c.cells.toArray] w fun e w' => e = .returned (.bool (chOk c)) ∧ New w w' := by
 obtain ⟨⟨kA, kn, kc, ks⟩, ⟨vA, vn, vc, vs⟩, d⟩ := c
 unfold maxLen at hk hv
 dsimp only at hk hv
 unfold Ch.cells
 dsimp only
 go_enter Tryz.func275, Tryz.ntmps275
 go_wp2_with fail
 all_goals
  go_ret
  refine ⟨rb ?_, New.al (New.refl _) _⟩
  try subst d
  unfold chOk
  dsimp only
  first
   | (rw [decide_eq_true (by omega : 1 ≤ kn), decide_eq_true (by omega : kn ≤ 16), decide_eq_true (by omega : vn ≤ 16384)]; simp; done)
   | (rw [decide_eq_true (by omega : 1 ≤ kn), decide_eq_true (by omega : kn ≤ 16), decide_eq_false (by omega : ¬ vn ≤ 16384)]; simp; done)
   | (rw [decide_eq_true (by omega : 1 ≤ kn), decide_eq_false (by omega : ¬ kn ≤ 16)]; simp; done)
   | (rw [decide_eq_false (by omega : ¬ 1 ≤ kn)]; simp; done)
theorem odd_any (c : Ch) (w : World) (hk : c.k.n ≤ maxLen) (hv : c.v.n ≤ maxLen) : Calls Tryz.prog 274 #[.agg c.cells.toArray] w fun e w' => e = .returned (.bool (!chOk c)) ∧ New w w' := by
 have hr := fun w => right_any c w hk hv
 obtain ⟨b, hb⟩ : ∃ b, b = chOk c := ⟨_, rfl⟩
 rw [← hb] at hr ⊢
 have HR := Lib.hid hr
 clear hb hr
 obtain ⟨⟨kA, kn, kc, ks⟩, ⟨vA, vn, vc, vs⟩, d⟩ := c
 clear hk hv
 unfold Ch.cells at HR ⊢
 dsimp only at HR ⊢
 go_enter Tryz.func274, Tryz.ntmps274
 go_wp2_with fail
 refine (HR.out _).mono ?_
 rintro e w1 ⟨rfl, hN1⟩
 have HN1 := Lib.hid hN1
 clear hN1
 go_wp2_with fail
 go_ret
 exact ⟨rfl, (New.al (New.refl _) _).tr HN1.out⟩
def IdxSays (L : List Ch) (e : Ending) : Prop := ∃ r : Int, e = .returned (.int .i64 r) ∧ (L.all chOk = true → r = -1) ∧ (L.all chOk = false → 0 ≤ r)
theorem all_take {L : List Ch} {k : Nat} (h : k < L.length) : (L.take (k + 1)).all chOk = ((L.take k).all chOk && chOk L[k]) := by
 rw [List.take_succ_eq_append_getElem h, List.all_append]
 simp
set_option maxRecDepth 100000 in
set_option maxHeartbeats 2000000 in
theorem ifunc_any {P : Nat → Prop} (A : Option Addr) (n c : Nat) (L : List Ch) (w : World) (h : Rd P w 3 A n (L.flatMap Ch.cells)) (hL : L.length = n) (hn : n ≤ 100000000) (hb : ∀ c ∈ L, c.k.n ≤ maxLen ∧ c.v.n ≤ maxLen) :
    Calls Tryz.prog 317 #[.slice A n c, .func (.func 274) #[] #[]] w fun e w' => IdxSays L e ∧ New w w' := by
 have HR := Lib.hid h
 have HL := Lib.hid hL
 have HB := Lib.hid hb
 clear h hL hb
 go_enter Tryz.func317, Tryz.ntmps317
 go_wp2_with fail
 go_loopw [8] (fun i wr => ∃ j : Nat, j ≤ n ∧ i = .int .i64 j ∧ Hid ((L.take j).all chOk = true) ∧ Hid (New w wr)) (fun i _ => n - (intOf i).toNat)
 case atStart => exact ⟨0, Nat.zero_le _, rfl, Lib.hid (by simp), Lib.hid (New.refl w)⟩
 case round =>
  obtain ⟨j, hj, rfl, HS, HN⟩ := hrel
  by_cases hlt : j < n
  · as_aux_lemma =>
    obtain ⟨g, o, hl, rfl, -, -, hrg⟩ := rd_row (f := Ch.cells) (L := L) (fun _ => rfl) (by omega) (HN.out.rd HR.out) hlt
    have c0 : wr.cell? ⟨g, o + j * 3, none⟩ = some (.slice L[j].k.A L[j].k.n L[j].k.c) := hrg 0 _ rfl
    have c1 : wr.cell? ⟨g, o + j * 3 + 1, none⟩ = some (.slice L[j].v.A L[j].v.n L[j].v.c) := hrg 1 _ rfl
    have c2 : wr.cell? ⟨g, o + j * 3 + 2, none⟩ = some (.bool L[j].d) := hrg 2 _ rfl
    have hbd := HB.out L[j] (List.getElem_mem _)
    have HO := Lib.hid (fun w => odd_any L[j] w hbd.1 hbd.2)
    have hst := all_take hl
    have hmem : L[j] ∈ L := List.getElem_mem _
    generalize L[j] = x at c0 c1 c2 HO hst hmem
    obtain ⟨⟨kA, kn, kc, ks⟩, ⟨vA, vn, vc, vs⟩, d⟩ := x
    unfold Ch.cells at HO
    dsimp only at c0 c1 c2 HO
    have HST := Lib.hid hst
    have HM := Lib.hid hmem
    have hj0 : (0 : Int) ≤ (j : Int) := by omega
    have hjn : (j : Int) < (n : Int) := by omega
    clear hrg hl hst hbd hmem
    go_wp2_with fail
    refine (HO.out _).mono ?_
    rintro e w1 ⟨rfl, hN1⟩
    have HN1 := Lib.hid (HN.out.tr hN1)
    clear hN1 HO c0 c1 c2
    cases hok : chOk ⟨⟨kA, kn, kc, ks⟩, ⟨vA, vn, vc, vs⟩, d⟩
    · have HOK := Lib.hid hok
      clear hok
      go_wp2_with fail
      go_ret
      refine ⟨⟨j, rfl, fun h => ?_, fun _ => by omega⟩, HN1.out⟩
      have := List.all_eq_true.1 h _ HM.out
      rw [HOK.out] at this
      cases this
    · have HOK := Lib.hid hok
      clear hok
      go_wp2_with fail
      go_roundw
      case rel => exact ⟨j + 1, by omega, by go_num, Lib.hid (by rw [HST.out, HS.out, HOK.out]; rfl), HN1⟩
      case measure => simp [intOf]; omega
  · as_aux_lemma =>
    obtain rfl : j = n := by omega
    go_wp2_with fail
    go_ret
    have hs := HS.out
    rw [List.take_of_length_le (by rw [HL.out]; exact Nat.le_refl _)] at hs
    exact ⟨⟨-1, rfl, fun _ => rfl, fun h => by rw [hs] at h; cases h⟩, HN.out⟩
theorem cfunc_any {P : Nat → Prop} (A : Option Addr) (n c : Nat) (L : List Ch) (w : World) (h : Rd P w 3 A n (L.flatMap Ch.cells)) (hL : L.length = n) (hn : n ≤ 100000000) (hb : ∀ c ∈ L, c.k.n ≤ maxLen ∧ c.v.n ≤ maxLen) :
    Calls Tryz.prog 276 #[.slice A n c, .func (.func 274) #[] #[]] w fun e w' => e = .returned (.bool (!L.all chOk)) ∧ New w w' := by
 have HI := Lib.hid (ifunc_any A n c L w h hL hn hb)
 clear h hL hb hn
 go_enter Tryz.func276, Tryz.ntmps276
 go_wp2_with fail
 refine HI.out.mono ?_
 rintro e w1 ⟨⟨r, rfl, h1, h2⟩, hN1⟩
 have HN1 := Lib.hid hN1
 have H1 := Lib.hid h1
 have H2 := Lib.hid h2
 clear hN1 h1 h2 HI
 go_wp2_with fail
 go_ret
 refine ⟨rb ?_, HN1.out⟩
 cases ha : L.all chOk
 · have := H2.out ha
   simp; omega
 · have := H1.out ha
   simp; omega
theorem rights_any {P : Nat → Prop} (A : Option Addr) (n c : Nat) (L : List Ch) (w : World) (h : Rd P w 3 A n (L.flatMap Ch.cells)) (hL : L.length = n) (hn : n ≤ 100000000) (hb : ∀ c ∈ L, c.k.n ≤ maxLen ∧ c.v.n ≤ maxLen) :
    Calls Tryz.prog 211 #[.slice A n c] w fun e w' => e = .returned (.bool (chsOk L)) ∧ New w w' := by
 have HC := Lib.hid (fun (w' : World) (hN : New w w') => cfunc_any A n c L w' (hN.rd h) hL hn hb)
 clear h hb
 have HL := Lib.hid hL
 clear hL
 go_enter Tryz.func211, Tryz.ntmps211
 go_wp2_with fail
 · refine (HC.out _ (New.refl _)).mono ?_
   rintro e w1 ⟨rfl, hN1⟩
   have HN1 := Lib.hid hN1
   clear hN1 HC
   obtain ⟨b, hb⟩ : ∃ b, b = L.all chOk := ⟨_, rfl⟩
   rw [← hb]
   have HBB := Lib.hid hb
   clear hb
   go_wp2_with fail
   go_ret
   refine ⟨rb ?_, HN1.out⟩
   unfold chsOk
   rw [HL.out, ← HBB.out, decide_eq_true (by omega : 1 ≤ n), decide_eq_true (by omega : n ≤ 600)]
   simp
 all_goals
  go_ret
  refine ⟨rb ?_, New.refl _⟩
  unfold chsOk
  rw [HL.out]
  first
   | (rw [decide_eq_true (by omega : 1 ≤ n), decide_eq_false (by omega : ¬ n ≤ 600)]; simp; done)
   | (rw [decide_eq_false (by omega : ¬ 1 ≤ n)]; simp; done)
end Go.Proofs.YtpifnmlnhddgeaaGreatDoor
namespace Go.Proofs.YtpifnmlnhddgeaaGreatDoor
set_option linter.unusedVariables false
set_option linter.unusedSimpArgs false
open Go.RowKit Go.Maps Go.Sort Go.Shelf
def keysL_ren : Go.Shelf.Ren := ⟨fun | 7 => 220 | 10 => 282 | n => n, fun | 23 => 269 | 26 => 9 | 3 => 122 | 28 => 368 | 0 => 0 | 27 => 367 | 33 => 433 | 4 => 4 | n => n, fun | n => n⟩
theorem keysL : Go.Proofs.SlLaysZ.n7 Tryz.prog keysL_ren := {
 mixed := by kernel_rfl
 f7 := ⟨Tryz.f220.name, by decide, Tryz.func220.trans (congrArg some (by kernel_rfl))⟩
 f10 := ⟨Tryz.f282.name, by decide, Tryz.func282.trans (congrArg some (by kernel_rfl))⟩
 t0 := Tryz.underlying0
 a0 := Tryz.isAgg0
 z0 := Tryz.sizeOf0
 v0 := Tryz.zeroValue0
 t4 := Tryz.underlying4
 a4 := Tryz.isAgg4
 z4 := Tryz.sizeOf4
 v4 := Tryz.zeroValue4
 t23 := Tryz.underlying269
 a23 := Tryz.isAgg269
 z23 := Tryz.sizeOf269
 v23 := Tryz.zeroValue269
 t26 := Tryz.underlying9
 a26 := Tryz.isAgg9
 z26 := Tryz.sizeOf9
 v26 := Tryz.zeroValue9
 t27 := Tryz.underlying367
 a27 := Tryz.isAgg367
 z27 := Tryz.sizeOf367
 v27 := Tryz.zeroValue367
 t28 := Tryz.underlying368
 a28 := Tryz.isAgg368
 z28 := Tryz.sizeOf368
 v28 := Tryz.zeroValue368
 t33 := Tryz.underlying433
 a33 := Tryz.isAgg433
 z33 := Tryz.sizeOf433
 v33 := Tryz.zeroValue433 }
def sortedL_ren : Go.Shelf.Ren := ⟨fun | 6 => 219 | 8 => 280 | 9 => 281 | 11 => 319 | 13 => 248 | 12 => 320 | 23 => 305 | 24 => 103 | 14 => 334 | 15 => 335 | 16 => 336 | 17 => 337 | 18 => 338 | 19 => 339 | 20 => 340 | 21 => 341 | 22 => 342 | 25 => 344 | 26 => 325 | 27 => 326 | 28 => 345 | 29 => 346 | 30 => 347 | 31 => 348 | n => n, fun | 26 => 9 | 28 => 368 | 24 => 267 | 0 => 0 | 3 => 3 | 37 => 28 | 48 => 234 | 50 => 27 | 4 => 4 | 40 => 445 | 39 => 444 | 45 => 295 | 5 => 5 | 9 => 9 | 51 => 477 | 55 => 480 | 57 => 491 | 58 => 232 | 33 => 433 | n => n, fun | n => n⟩
theorem sortedL : Go.Proofs.SlLaysZ.n6 Tryz.prog sortedL_ren := {
 mixed := by kernel_rfl
 f6 := ⟨Tryz.f219.name, by decide, Tryz.func219.trans (congrArg some (by kernel_rfl))⟩
 f8 := ⟨Tryz.f280.name, by decide, Tryz.func280.trans (congrArg some (by kernel_rfl))⟩
 f11 := ⟨Tryz.f319.name, by decide, Tryz.func319.trans (congrArg some (by kernel_rfl))⟩
 t0 := Tryz.underlying0
 a0 := Tryz.isAgg0
 z0 := Tryz.sizeOf0
 v0 := Tryz.zeroValue0
 t24 := Tryz.underlying267
 a24 := Tryz.isAgg267
 z24 := Tryz.sizeOf267
 v24 := Tryz.zeroValue267
 t26 := Tryz.underlying9
 a26 := Tryz.isAgg9
 z26 := Tryz.sizeOf9
 v26 := Tryz.zeroValue9
 t28 := Tryz.underlying368
 a28 := Tryz.isAgg368
 z28 := Tryz.sizeOf368
 v28 := Tryz.zeroValue368
 i26 := by kernel_rfl }
def sortL_ren : Go.Shelf.Ren := ⟨fun | 6 => 281 | 8 => 248 | 9 => 320 | 19 => 305 | 20 => 103 | 21 => 334 | 22 => 335 | 23 => 336 | 24 => 337 | 25 => 338 | 26 => 339 | 27 => 340 | 28 => 341 | 29 => 342 | 36 => 344 | 31 => 325 | 32 => 326 | 37 => 345 | 38 => 346 | 39 => 347 | 41 => 348 | n => n, fun | 27 => 267 | 29 => 9 | 3 => 3 | 32 => 28 | 26 => 267 | 0 => 0 | 44 => 234 | 46 => 27 | 4 => 4 | 36 => 445 | 35 => 444 | 41 => 295 | 5 => 5 | 9 => 9 | 53 => 477 | 57 => 480 | 63 => 491 | 64 => 232 | n => n, fun | n => n⟩
theorem sortL : Go.Proofs.SlLaysM.n6 Tryz.prog sortL_ren := {
 mixed := by kernel_rfl
 f6 := ⟨Tryz.f281.name, by decide, Tryz.func281.trans (congrArg some (by kernel_rfl))⟩
 f8 := Tryz.func248.trans (congrArg some (by kernel_rfl))
 f9 := ⟨Tryz.f320.name, by decide, Tryz.func320.trans (congrArg some (by kernel_rfl))⟩
 f19 := Tryz.func305.trans (congrArg some (by kernel_rfl))
 f20 := Tryz.func103.trans (congrArg some (by kernel_rfl))
 f21 := ⟨Tryz.f334.name, by decide, Tryz.func334.trans (congrArg some (by kernel_rfl))⟩
 f22 := ⟨Tryz.f335.name, by decide, Tryz.func335.trans (congrArg some (by kernel_rfl))⟩
 f23 := ⟨Tryz.f336.name, by decide, Tryz.func336.trans (congrArg some (by kernel_rfl))⟩
 f24 := ⟨Tryz.f337.name, by decide, Tryz.func337.trans (congrArg some (by kernel_rfl))⟩
 f25 := ⟨Tryz.f338.name, by decide, Tryz.func338.trans (congrArg some (by kernel_rfl))⟩
 f26 := ⟨Tryz.f339.name, by decide, Tryz.func339.trans (congrArg some (by kernel_rfl))⟩
 f27 := ⟨Tryz.f340.name, by decide, Tryz.func340.trans (congrArg some (by kernel_rfl))⟩
 f28 := ⟨Tryz.f341.name, by decide, Tryz.func341.trans (congrArg some (by kernel_rfl))⟩
 f29 := ⟨Tryz.f342.name, by decide, Tryz.func342.trans (congrArg some (by kernel_rfl))⟩
 f31 := Tryz.func325.trans (congrArg some (by kernel_rfl))
 f32 := Tryz.func326.trans (congrArg some (by kernel_rfl))
 f36 := ⟨Tryz.f344.name, by decide, Tryz.func344.trans (congrArg some (by kernel_rfl))⟩
 f37 := ⟨Tryz.f345.name, by decide, Tryz.func345.trans (congrArg some (by kernel_rfl))⟩
 f38 := ⟨Tryz.f346.name, by decide, Tryz.func346.trans (congrArg some (by kernel_rfl))⟩
 f39 := ⟨Tryz.f347.name, by decide, Tryz.func347.trans (congrArg some (by kernel_rfl))⟩
 f41 := ⟨Tryz.f348.name, by decide, Tryz.func348.trans (congrArg some (by kernel_rfl))⟩
 t0 := Tryz.underlying0
 a0 := Tryz.isAgg0
 z0 := Tryz.sizeOf0
 v0 := Tryz.zeroValue0
 t3 := Tryz.underlying3
 a3 := Tryz.isAgg3
 z3 := Tryz.sizeOf3
 v3 := Tryz.zeroValue3
 t4 := Tryz.underlying4
 a4 := Tryz.isAgg4
 z4 := Tryz.sizeOf4
 v4 := Tryz.zeroValue4
 t5 := Tryz.underlying5
 a5 := Tryz.isAgg5
 z5 := Tryz.sizeOf5
 v5 := Tryz.zeroValue5
 t9 := Tryz.underlying9
 a9 := Tryz.isAgg9
 z9 := Tryz.sizeOf9
 v9 := Tryz.zeroValue9
 t26 := Tryz.underlying267
 a26 := Tryz.isAgg267
 z26 := Tryz.sizeOf267
 v26 := Tryz.zeroValue267
 t27 := Tryz.underlying267
 a27 := Tryz.isAgg267
 z27 := Tryz.sizeOf267
 v27 := Tryz.zeroValue267
 t29 := Tryz.underlying9
 a29 := Tryz.isAgg9
 z29 := Tryz.sizeOf9
 v29 := Tryz.zeroValue9
 t32 := Tryz.underlying28
 a32 := Tryz.isAgg28
 z32 := Tryz.sizeOf28
 v32 := Tryz.zeroValue28
 t35 := Tryz.underlying444
 a35 := Tryz.isAgg444
 z35 := Tryz.sizeOf444
 v35 := Tryz.zeroValue444
 t36 := Tryz.underlying445
 a36 := Tryz.isAgg445
 z36 := Tryz.sizeOf445
 v36 := Tryz.zeroValue445
 t41 := Tryz.underlying295
 a41 := Tryz.isAgg295
 z41 := Tryz.sizeOf295
 v41 := Tryz.zeroValue295
 t44 := Tryz.underlying234
 a44 := Tryz.isAgg234
 z44 := Tryz.sizeOf234
 v44 := Tryz.zeroValue234
 t46 := Tryz.underlying27
 a46 := Tryz.isAgg27
 z46 := Tryz.sizeOf27
 v46 := Tryz.zeroValue27
 t53 := Tryz.underlying477
 a53 := Tryz.isAgg477
 z53 := Tryz.sizeOf477
 v53 := Tryz.zeroValue477
 t57 := Tryz.underlying480
 a57 := Tryz.isAgg480
 z57 := Tryz.sizeOf480
 v57 := Tryz.zeroValue480
 t63 := Tryz.underlying491
 a63 := Tryz.isAgg491
 z63 := Tryz.sizeOf491
 v63 := Tryz.zeroValue491
 t64 := Tryz.underlying232
 a64 := Tryz.isAgg232
 z64 := Tryz.sizeOf232
 v64 := Tryz.zeroValue232 }
theorem sortsL (m : Nat) : AnyZ.SortsIn Tryz.prog sortedL_ren Fence.wide m :=
 ⟨fun blk off cap ss W hH hblk hsz => callsIn_wide.2 (AnyM.slices_Sort_string sortL blk off cap ss W hH hblk hsz),
  fun p cap W => callsIn_wide.2 (AnyM.slices_Sort_string_none sortL p cap W)⟩
theorem maps_keys (mb : Option Nat) (W : World) : CallsIn Fence.wide 5 Tryz.prog 220 #[.map mb] W fun e w' => e = .returned (.func (.func 282) #[] #[.pointer (some ⟨W.heap.size, 0, none⟩)]) ∧ w' = W.alloc (.cells #[.map mb] 269) :=
 AnyZ.keys_in keysL Fence.wide 5 trivial rfl mb W
set_option maxHeartbeats 1000000 in
theorem sorted_keys {H : Type} (b nn : Nat) (D0 : DataW H) (R : Value → Option (DataW H × List MemPlace)) (w : World) (hown : w.ownsMap Tryz.prog 9 R b nn D0) (hmax : Maps.size D0 ≤ maxLen) (hbytes : Maps.size D0 * 16 ≤ 140737488355328) :
    CallsIn Fence.wide 5 Tryz.prog 219 #[.func (.func 282) #[] #[.pointer (some ⟨w.heap.size, 0, none⟩)]] (w.alloc (.cells #[.map (some b)] 269)) fun e w' => ∃ (v : Value) (ss : List (List UInt8)), e = .returned v ∧ ss.Perm (strKeys D0) ∧
     w'.ownsRow (w.alloc (.cells #[.map (some b)] 269)).heap.size 9 1 v ss.length ((ss.mergeSort (fun x y => decide (x ≤ y))).map encStr) ∧ (v = .slice none 0 0 ↔ ss = []) ∧ Below (w.alloc (.cells #[.map (some b)] 269)).heap.size (w.alloc (.cells #[.map (some b)] 269)) w' := by
 have hbl := hown.lt
 have hseq : SeqGives Fence.wide 2 Tryz.prog 282 #[.pointer (some ⟨w.heap.size, 0, none⟩)] encStr (fun ss => ss.Perm (strKeys D0)) (Maps.size D0) (w.alloc (.cells #[.map (some b)] 269)) :=
  AnyZ.keys_gives (ρ := keysL_ren) { keysL with } Fence.wide _ trivial rfl (by omega) w.heap.size b nn D0 _ (by simp) (by simp) (by
   obtain ⟨es, clock, hb, Ft, hs, hD⟩ := hown
   exact ⟨es, clock, (Below.heap_alloc _ _ b hbl).trans hb, Ft, hs, hD⟩)
 exact AnyZ.sorted_in sortedL Fence.wide 5 trivial trivial trivial trivial rfl (by omega) (sortsL _) (enters_of Tryz.func281 (by kernel_rfl) rfl) 282 #[.pointer (some ⟨w.heap.size, 0, none⟩)] trivial (enters_of Tryz.func282 (by kernel_rfl) rfl) _ _ hmax hbytes _ hseq
end Go.Proofs.YtpifnmlnhddgeaaGreatDoor
namespace Go.Proofs.YtpifnmlnhddgeaaGreatDoor
set_option linter.unusedVariables false
set_option linter.unusedSimpArgs false
set_option linter.constructorNameAsVariable false
open Go.RowKit Go.Maps Go.Sort
def key_l19 (xs : List Int) : Lit := .string (strOfNums xs).data.toList
theorem key_inj {xs ys : List Int} (hx : Byt xs) (hy : Byt ys) (h : key_l19 xs = key_l19 ys) : xs = ys := by
 have := str_inj hx hy
 unfold key_l19 at h
 injection h with h
 have e : (strOfNums xs).toList = (strOfNums ys).toList := by
  have : strOfNums xs = strOfNums ys := by
   have : (strOfNums xs).data = (strOfNums ys).data := Array.toList_inj.1 h
   exact ByteArray.ext this
  rw [this]
 simpa [e] using this
theorem keyS : Keyed Tryz.prog 9 := string_keyed Tryz.underlying9
theorem key_of {xs : List Int} (h : xs.length ≤ 1000000) : keyOf Tryz.prog 9 (.string (strOfNums xs)) = some (key_l19 xs) :=
 Go.WideMaps.keyOf_string_mk Tryz.underlying9 (by rw [strOfNums_size]; unfold maxLen; omega)
abbrev Tab := List (List Int × Fm)
def tdel (E : Tab) (k : List Int) : Tab := E.filter fun e => decide (e.1 ≠ k)
def tput (E : Tab) (k : List Int) (v : Fm) : Tab := tdel E k ++ [(k, v)]
theorem lookup_del (E : Tab) (k ys : List Int) : (tdel E k).lookup ys = if ys = k then none else E.lookup ys := by
 unfold tdel
 induction E with
 | nil => simp
 | cons e E ih =>
  obtain ⟨x, v⟩ := e
  by_cases hx : x = k
  · rw [List.filter_cons_of_neg (by simp [hx]), ih]
    by_cases hy : ys = k
    · rw [if_pos hy, if_pos hy]
    · rw [if_neg hy, if_neg hy, List.lookup_cons]
      have : (ys == x) = false := by simp; intro h; exact hy (h.trans hx)
      rw [this]
  · rw [List.filter_cons_of_pos (by simp [hx]), List.lookup_cons, List.lookup_cons, ih]
    by_cases hy : ys = x
    · have : ¬ ys = k := fun h => hx (hy.symm.trans h)
      simp [hy, hx]
    · have : (ys == x) = false := by simpa using hy
      rw [this]
theorem lookup_put (E : Tab) (k ys : List Int) (v : Fm) : (tput E k v).lookup ys = if ys = k then some v else E.lookup ys := by
 unfold tput
 rw [List.lookup_append, lookup_del]
 by_cases hy : ys = k
 · subst hy; simp
 · rw [if_neg hy, if_neg hy]
   have : (ys == k) = false := by simpa using hy
   show (E.lookup ys).or (match ys == k with | true => some v | false => none) = _
   rw [this]
   cases E.lookup ys <;> rfl
theorem nd_del {E : Tab} (h : (E.map Prod.fst).Nodup) (k : List Int) : ((tdel E k).map Prod.fst).Nodup := (List.Sublist.map _ List.filter_sublist).nodup h
theorem nd_put {E : Tab} (h : (E.map Prod.fst).Nodup) (k : List Int) (v : Fm) : ((tput E k v).map Prod.fst).Nodup := by
 unfold tput
 rw [List.map_append, List.nodup_append]
 refine ⟨nd_del h k, by simp, fun x hx y hy e => ?_⟩
 simp at hy
 subst hy e
 simp [tdel] at hx
theorem mem_del {E : Tab} {k : List Int} {e : List Int × Fm} (h : e ∈ tdel E k) : e ∈ E := (List.mem_filter.1 h).1
theorem mem_put {E : Tab} {k : List Int} {v : Fm} {e : List Int × Fm} (h : e ∈ tput E k v) : e ∈ E ∨ e = (k, v) := by
 rcases List.mem_append.1 h with h | h
 · exact .inl (mem_del h)
 · exact .inr (List.mem_singleton.1 h)
structure TbIn (X : Nat → Prop) (w : World) (base g b m : Nat) (E : Tab) : Prop where
 blk : Blk w g 271 #[.map (some b)]
 map : ∃ f, MapAt w Tryz.prog 9 b m f ∧ (∀ xs, Byt xs → f (key_l19 xs) = (E.lookup xs).map Fm.val) ∧ ∀ kl, (f kl).isSome = true → ∃ xs, Byt xs ∧ kl = key_l19 xs
 nd : (E.map Prod.fst).Nodup
 el : ∀ e ∈ E, Byt e.1 ∧ e.1.length ≤ 16 ∧ e.2.In X w ∧ e.2.n ≤ 16384
 gb : base ≤ g
 lb : base ≤ b
 xs : ∀ k, X k → base ≤ k ∧ IsT 5 w k
section
variable {X : Nat → Prop} {w w' : World} {base g b m : Nat} {E : Tab} {S : Nat → Prop}
theorem Fm.In.fr {P : Nat → Prop} {x : Fm} (h : x.In P w) (hF : Fr S w w') (hS : ∀ k, P k → ¬ S k) : x.In P w' := ⟨h.rd.fr hF hS, h.byt⟩
theorem TbIn.fr (h : TbIn X w base g b m E) (hF : Fr S w w') (h1 : ¬ S g) (h2 : ¬ S b) (h3 : ∀ k, S k → ¬ X k) : TbIn X w' base g b m E := by
 obtain ⟨f, hm, r⟩ := h.map
 exact ⟨h.blk.fr hF h1, ⟨f, hm.fr hF h2, r⟩, h.nd, fun e he => ⟨(h.el e he).1, (h.el e he).2.1, (h.el e he).2.2.1.fr hF (fun k hk hs => h3 k hs hk), (h.el e he).2.2.2⟩, h.gb, h.lb, fun k hk => ⟨(h.xs k hk).1, (h.xs k hk).2.fr hF (fun hs => h3 k hs hk)⟩⟩
theorem TbIn.new (h : TbIn X w base g b m E) (hN : New w w') : TbIn X w' base g b m E := h.fr (hN.toFr NoB) (fun x => x) (fun x => x) (fun _ x => x.elim)
theorem TbIn.blt (h : TbIn X w base g b m E) : b < w.heap.size := by obtain ⟨f, hm, _⟩ := h.map; exact hm.lt
theorem TbIn.gne (h : TbIn X w base g b m E) : g ≠ b := by
 rintro rfl
 obtain ⟨f, ⟨D, ⟨es, clock, hx, _⟩, _⟩, _⟩ := h.map
 have hb := h.blk
 unfold Blk at hb
 rw [hx] at hb
 cases hb
theorem TbIn.bX (h : TbIn X w base g b m E) : ¬ X b := fun hx => by
 obtain ⟨f, hm, _⟩ := h.map
 exact IsT.not_map hm (h.xs b hx).2
end
theorem new_any (base : Nat) (w : World) (hb : base ≤ w.heap.size) : Calls Tryz.prog 121 #[] w fun e w' => ∃ g b, e = .returned (.pointer (some ⟨g, 0, none⟩)) ∧ TbIn (fun _ => False) w' base g b 0 [] ∧ New w w' ∧ w.heap.size ≤ g ∧ w.heap.size ≤ b := by
 have hmk := @run_makeMap Tryz.prog
 go_enter Tryz.func121, Tryz.ntmps121
 go_wp2_with fail
 go_ret
 refine ⟨w.heap.size + 1, w.heap.size, rfl, ⟨Blk.new' _ _ _ (by simp), ⟨fun _ => none, (MapAt.made w Tryz.prog 9).alloc _, fun xs _ => by simp, fun kl h => by simp at h⟩, by simp, (fun e he => by cases he), (by omega), hb, fun k hk => hk.elim⟩, New.al (New.al (New.refl _) _) _, by omega, Nat.le_refl _⟩
theorem strs_of {xs : List Int} : (strOfNums xs).data.toList = xs.map (fun x => UInt8.ofNat x.toNat) := by
 rw [strOfNums_data]
def kbytes (E : Tab) : List (List UInt8) := E.map fun e => (strOfNums e.1).data.toList
theorem kb_len (E : Tab) : (kbytes E).length = E.length := by simp [kbytes]
theorem lookup_mem {E : Tab} {xs : List Int} {v : Fm} (h : E.lookup xs = some v) : (xs, v) ∈ E := by
 induction E with
 | nil => simp at h
 | cons e E ih =>
  obtain ⟨x, u⟩ := e
  rw [List.lookup_cons] at h
  by_cases hx : xs = x
  · subst hx
    simp at h
    simp [h]
  · have : (xs == x) = false := by simpa using hx
    rw [this] at h
    exact List.mem_cons_of_mem _ (ih h)
theorem mem_lookup {E : Tab} (hn : (E.map Prod.fst).Nodup) {e : List Int × Fm} (h : e ∈ E) : E.lookup e.1 = some e.2 := by
 induction E with
 | nil => cases h
 | cons d E ih =>
  obtain ⟨x, u⟩ := d
  rw [List.map_cons, List.nodup_cons] at hn
  rcases List.mem_cons.1 h with rfl | h
  · simp
  · rw [List.lookup_cons]
    have : (e.1 == x) = false := by
     simp
     intro hx
     exact hn.1 (hx ▸ List.mem_map.2 ⟨e, h, rfl⟩)
    rw [this]
    exact ih hn.2 h
theorem kb_nodup {E : Tab} (hn : (E.map Prod.fst).Nodup) (hb : ∀ e ∈ E, Byt e.1) : (kbytes E).Nodup := by
 unfold kbytes
 refine List.pairwise_map.2 ((List.pairwise_map.1 hn).imp_of_mem fun {a b} ha hb' hne e => hne ?_)
 exact key_inj (hb a ha) (hb b hb') (by unfold key_l19; rw [e])
theorem tb_perm {X : Nat → Prop} {w : World} {base g b m : Nat} {E : Tab} (h : TbIn X w base g b m E) : ∃ D : DataW Value, w.ownsMap Tryz.prog 9 Rv b m D ∧ (kbytes E).Perm (strKeys D) := by
 obtain ⟨f, ⟨D, hD, hf⟩, h1, h2⟩ := h.map
 refine ⟨D, hD, ?_⟩
 refine Collected.perm (left := fun _ => false) (ss := kbytes E) ⟨kb_nodup h.nd (fun e he => (h.el e he).1), fun x => ?_⟩ hD keyS Tryz.underlying9 (fun _ => rfl)
 have hiff : has D (.string x) = true ↔ (f (.string x)).isSome = true := by
  rw [hf]
  cases has D (.string x) <;> simp
 rw [hiff]
 simp only [and_true]
 constructor
 · intro hx
   obtain ⟨e, he, rfl⟩ := List.mem_map.1 hx
   have := h1 e.1 (h.el e he).1
   rw [mem_lookup h.nd he] at this
   show (f (key_l19 e.1)).isSome = true
   rw [this]
   rfl
 · intro hx
   obtain ⟨xs, hb, hk⟩ := h2 _ hx
   rw [hk, h1 xs hb] at hx
   cases hl : E.lookup xs with
   | none => rw [hl] at hx; cases hx
   | some v =>
    have := lookup_mem hl
    unfold key_l19 at hk
    injection hk with hk
    exact List.mem_map.2 ⟨(xs, v), this, hk.symm⟩
set_option maxHeartbeats 2000000 in
theorem keys_any {X : Nat → Prop} {w : World} {base g b m : Nat} {E : Tab} (h : TbIn X w base g b m E) (hm : m ≤ 1000000) :
    Calls Tryz.prog 137 #[.pointer (some ⟨g, 0, none⟩)] w fun e w' => (∃ v, e = .returned v ∧ w'.ownsRow w.heap.size 9 1 v E.length (((kbytes E).mergeSort leB).map encStr)) ∧ New w w' := by
 obtain ⟨D, hD, hP⟩ := tb_perm h
 have hsz := hD.size_le
 have c0 : w.cell? ⟨g, 0, none⟩ = some (.map (some b)) := h.blk.cell 0
 have HS := Lib.hid (sorted_keys b m D Rv w hD (by unfold maxLen; omega) (by omega))
 have HP := Lib.hid hP
 clear h hD hP hsz hm
 refine (callsIn_wide (n := 6)).1 ?_
 have hfK : Fence.wide.fn 220 := trivial
 have hfS : Fence.wide.fn 219 := trivial
 refine callsIn_of_wp Tryz.func137 rfl trivial ?_ rfl
 simp only [Tryz.ntmps137, List.size_toArray, List.length_cons, List.length_nil, Nat.reduceAdd, Nat.reduceSub, Array.replicate_succ, Array.replicate_zero, List.push_toArray, List.append_toArray, List.nil_append, List.cons_append]
 gi_wp2_with (first
  | (gi_at_call 220; refine (maps_keys _ _).mono ?_; rintro e w' ⟨rfl, rfl⟩)
  | (gi_at_call 219; refine HS.out.mono ?_; rintro e w' ⟨v, ss, rfl, hS, hrow, hnil, hb⟩))
 go_ret
 have hpp := hS.trans HP.out.symm
 have hl : ss.length = E.length := by rw [hpp.length_eq, kb_len]
 have hr : w'.ownsRow w.heap.size 9 1 v ss.length ((ss.mergeSort (fun x y => decide (x ≤ y))).map encStr) := ownsRow_base_a hrow (by simp)
 have hq : ss.mergeSort (fun x y => decide (x ≤ y)) = (kbytes E).mergeSort leB := mergeSort_of_perm hpp
 rw [hl, hq] at hr
 exact ⟨⟨v, rfl, hr⟩, ((Below.refl _ w).alloc (Nat.le_refl _) _).trans (hb.mono (by simp))⟩
end Go.Proofs.YtpifnmlnhddgeaaGreatDoor
namespace Go.Proofs.YtpifnmlnhddgeaaGreatDoor
set_option linter.unusedVariables false
set_option linter.unusedSimpArgs false
set_option linter.constructorNameAsVariable false
open Go.RowKit Go.Maps Go.Sort
abbrev CT := List (List Int × List Int)
def cont (E : Tab) : CT := E.map fun e => (e.1, e.2.xs)
def cdel (T : CT) (k : List Int) : CT := T.filter fun e => decide (e.1 ≠ k)
def cput (T : CT) (k v : List Int) : CT := cdel T k ++ [(k, v)]
def doC (T : CT) (c : Ch) : CT := if c.d then cdel T c.k.xs else cput T c.k.xs c.v.xs
def doCs (T : CT) (L : List Ch) : CT := L.foldl doC T
theorem cont_del (E : Tab) (k : List Int) : cont (tdel E k) = cdel (cont E) k := by
 unfold cont tdel cdel
 rw [List.filter_map]
 rfl
theorem cont_put (E : Tab) (k : List Int) (v : Fm) : cont (tput E k v) = cput (cont E) k v.xs := by
 unfold cput tput
 rw [← cont_del]
 simp [cont]
theorem cont_len (E : Tab) : (cont E).length = E.length := by simp [cont]
theorem do_snoc (T : CT) (L : List Ch) (c : Ch) : doCs T (L ++ [c]) = doC (doCs T L) c := by simp [doCs]
theorem cdel_le (T : CT) (k : List Int) : (cdel T k).length ≤ T.length := List.length_filter_le _ _
theorem doC_le (T : CT) (c : Ch) : (doC T c).length ≤ T.length + 1 := by
 unfold doC cput
 have := cdel_le T c.k.xs
 split
 · omega
 · simp; omega
theorem chsOk_spec {L : List Ch} (h : chsOk L = true) : 1 ≤ L.length ∧ L.length ≤ 600 ∧ ∀ c ∈ L, 1 ≤ c.k.n ∧ c.k.n ≤ 16 ∧ c.v.n ≤ 16384 ∧ (c.d = true → c.v.n = 0) := by
 unfold chsOk at h
 simp only [Bool.and_eq_true, decide_eq_true_eq, List.all_eq_true] at h
 obtain ⟨⟨h1, h2⟩, h3⟩ := h
 refine ⟨h1, h2, fun c hc => ?_⟩
 have := h3 c hc
 unfold chOk at this
 simp only [Bool.and_eq_true, decide_eq_true_eq, Bool.not_eq_true', Bool.and_eq_false_iff] at this
 obtain ⟨⟨⟨a1, a2⟩, a3⟩, a4⟩ := this
 refine ⟨a1, a2, a3, fun hd => ?_⟩
 rcases a4 with a4 | a4
 · rw [hd] at a4; cases a4
 · simp at a4; omega
section
variable {X : Nat → Prop} {w w' : World} {base g b m : Nat} {E : Tab}
theorem TbIn.del (h : TbIn X w base g b m E) {k : List Int} {f : Lit → Option Value} (hk : Byt k) (h1 : ∀ xs, Byt xs → f (key_l19 xs) = (E.lookup xs).map Fm.val) (h2 : ∀ kl, (f kl).isSome = true → ∃ xs, Byt xs ∧ kl = key_l19 xs)
    (hM : MapAt w' Tryz.prog 9 b m (putF f (key_l19 k) none)) (hF : Fr (fun j => j = b) w w') : TbIn X w' base g b m (tdel E k) := by
 refine ⟨h.blk.fr hF h.gne, ⟨_, hM, fun xs hx => ?_, fun kl hs => ?_⟩, nd_del h.nd k, fun e he => ?_, h.gb, h.lb, fun j hj => ⟨(h.xs j hj).1, (h.xs j hj).2.fr hF (fun e => h.bX (e ▸ hj))⟩⟩
 · rw [lookup_del]
   by_cases e : xs = k
   · rw [if_pos e, e, putF_same (kl := key_l19 k) trivial]
     rfl
   · rw [if_neg e, putF_other (fun hh => e (key_inj hx hk hh)), h1 xs hx]
 · by_cases e : kl = key_l19 k
   · rw [e, putF_same (kl := key_l19 k) trivial] at hs
     cases hs
   · rw [putF_other e] at hs
     exact h2 kl hs
 · have := h.el e (mem_del he)
   exact ⟨this.1, this.2.1, this.2.2.1.fr hF (fun j hj hs => h.bX (hs ▸ hj)), this.2.2.2⟩
theorem TbIn.put {Y : Nat → Prop} (h : TbIn X w base g b m E) {k : List Int} {v : Fm} {f : Lit → Option Value} (hk : Byt k) (hkl : k.length ≤ 16) (h1 : ∀ xs, Byt xs → f (key_l19 xs) = (E.lookup xs).map Fm.val) (h2 : ∀ kl, (f kl).isSome = true → ∃ xs, Byt xs ∧ kl = key_l19 xs)
    (hM : MapAt w' Tryz.prog 9 b (m + 1) (putF f (key_l19 k) (some v.val))) (hF : Fr (fun j => j = b) w w') (hv : v.In Y w') (hvn : v.n ≤ 16384) (hY : ∀ j, Y j → base ≤ j ∧ IsT 5 w' j) : TbIn (fun j => X j ∨ Y j) w' base g b (m + 1) (tput E k v) := by
 refine ⟨h.blk.fr hF h.gne, ⟨_, hM, fun xs hx => ?_, fun kl hs => ?_⟩, nd_put h.nd k v, fun e he => ?_, h.gb, h.lb, fun j hj => ?_⟩
 · rw [lookup_put]
   by_cases e : xs = k
   · rw [if_pos e, e, putF_same (kl := key_l19 k) trivial]
     rfl
   · rw [if_neg e, putF_other (fun hh => e (key_inj hx hk hh)), h1 xs hx]
 · by_cases e : kl = key_l19 k
   · exact ⟨k, hk, e⟩
   · rw [putF_other e] at hs
     exact h2 kl hs
 · rcases mem_put he with he | rfl
   · have := h.el e he
     exact ⟨this.1, this.2.1, ⟨(this.2.2.1.rd.fr hF (fun j hj hs => h.bX (hs ▸ hj))).imp fun _ => .inl, this.2.2.1.byt⟩, this.2.2.2⟩
   · exact ⟨hk, hkl, ⟨hv.rd.imp fun _ => .inr, hv.byt⟩, hvn⟩
 · rcases hj with hj | hj
   · exact ⟨(h.xs j hj).1, (h.xs j hj).2.fr hF (fun e => h.bX (e ▸ hj))⟩
   · exact hY j hj
end
theorem step_mdel {P : Program} {w : World} {ops : Array Oper} {o : Oper} {a : Act} {Q : Exit → Act → World → Prop} {b n : Nat} {f : Lit → Option Value} {k e t : TypeId} {K : Act → World → Prop} {F : Prop} (hM : MapAt w P k b n f) (KK : Keyed P k) (ht : P.underlying t = some (.map k e)) (hg : o.guard = none) (m x : Operand)
    (hop : o.op = Op.call { callee := Callee.builtin Builtin.delete, args := #[m, x], argTypes := #[t, k] })
    (hm : a.eval m = .map (some b)) (key_l19 : Value) (kl : Lit) (hx : a.eval x = key_l19) (hkey : keyOf P k key_l19 = some kl)
    (hK : ∀ w', MapAt w' P k b n (putF f kl none) → Fr (fun j => j = b) w w' → K (a.put o.dst (.tuple #[])) w') :
    if Region.wanted o (yielded ops a.tmps) = true then Oper.wp P o a w K Q else F := by
 have hw : Region.wanted o (yielded ops a.tmps) = true := by simp [Region.wanted, hg]
 rw [if_pos hw]
 obtain ⟨w', hrun, r1, r2⟩ := hM.drop KK ht hkey o.type
 unfold Oper.wp
 simp [execOp, hop, resolve, invoke, builtin, hm, hx, hrun, Result.andThen]
 exact hK w' r1 r2
theorem own_isT {w : World} {base e s n k : Nat} {v : Value} {xs : List Value} (h : w.ownsRow base e s v n xs) (hk : v.ownBlock = some k) : IsT e w k := by
 rcases h.2 with ⟨rfl, _⟩ | ⟨g', cap, cur, rfl, _, hh, _⟩
 · simp [Value.ownBlock] at hk
 · have : g' = k := by simpa [Value.ownBlock] using hk
   subst this
   exact ⟨_, _, hh⟩
set_option maxRecDepth 100000 in
set_option maxHeartbeats 8000000 in
theorem apply_any {X P : Nat → Prop} {w : World} {base g b m : Nat} {E : Tab} (h : TbIn X w base g b m E) (A : Option Addr) (n c : Nat) (L : List Ch) (hR : Rd P w 3 A n (L.flatMap Ch.cells)) (hL : L.length = n) (hin : ∀ c ∈ L, c.In P w) (hP : ∀ k, P k → k ≠ b) (hok : chsOk L = true) (hm : m ≤ 1000000) :
    Calls Tryz.prog 123 #[.pointer (some ⟨g, 0, none⟩), .slice A n c] w fun e w' => e = .returned .nilIface ∧ ∃ (X' : Nat → Prop) (E' : Tab), TbIn X' w' base g b (m + n) E' ∧ cont E' = doCs (cont E) L ∧ Fr (fun k => k = b) w w' ∧ ∀ k, X' k → X k ∨ w.heap.size ≤ k := by
 obtain ⟨hl1, hl2, hch⟩ := chsOk_spec hok
 have HC := Lib.hid (rights_any A n c L w hR hL (by omega) (fun c hc => by have := hch c hc; unfold maxLen; omega))
 rw [hok] at HC
 have H := Lib.hid h
 have HR := Lib.hid hR
 have HL := Lib.hid hL
 have HI := Lib.hid hin
 have HP := Lib.hid hP
 have HCH := Lib.hid hch
 have hn6 : n ≤ 600 := by omega
 clear h hR hL hin hP hok hl1 hl2 hch
 go_enter Tryz.func123, Tryz.ntmps123
 go_wp2_with fail
 refine HC.out.mono ?_
 rintro e w1 ⟨rfl, hN1⟩
 have HN1 := Lib.hid hN1
 have H1 := Lib.hid (H.out.new hN1)
 have HR1 := Lib.hid (hN1.rd HR.out)
 have HI1 : Hid (∀ c ∈ L, c.In P w1) := Lib.hid (fun c hc => (HI.out c hc).new HN1.out)
 clear hN1 HC
 go_wp2_with fail
 go_loopw [18] (fun ix wr => ∃ (j : Nat) (X' : Nat → Prop) (E' : Tab), j ≤ n ∧ ix = .int .i64 j ∧ Hid (TbIn X' wr base g b (m + j) E' ∧ cont E' = doCs (cont E) (L.take j) ∧ Fr (fun k => k = b) w1 wr ∧ ∀ k, X' k → X k ∨ w1.heap.size ≤ k)) (fun ix _ => n - (intOf ix).toNat)
 case atStart => exact ⟨0, X, E, Nat.zero_le _, rfl, Lib.hid ⟨H1.out, rfl, Fr.refl _ _, fun _ => .inl⟩⟩
 case round =>
  obtain ⟨j, X', E', hj, rfl, HS⟩ := hrel
  by_cases hlt : j < n
  · as_aux_lemma =>
    obtain ⟨ga, o, hl, rfl, -, -, hrg⟩ := rd_row (f := Ch.cells) (L := L) (fun _ => rfl) (by omega) (HR1.out.fr HS.out.2.2.1 (fun k hk hs => HP.out k hk hs)) hlt
    have c0 : wr.cell? ⟨ga, o + j * 3, none⟩ = some (.slice L[j].k.A L[j].k.n L[j].k.c) := hrg 0 _ rfl
    have c1 : wr.cell? ⟨ga, o + j * 3 + 1, none⟩ = some (.slice L[j].v.A L[j].v.n L[j].v.c) := hrg 1 _ rfl
    have c2 : wr.cell? ⟨ga, o + j * 3 + 2, none⟩ = some (.bool L[j].d) := hrg 2 _ rfl
    have hbd := HCH.out L[j] (List.getElem_mem _)
    have hcin := HI1.out L[j] (List.getElem_mem _)
    have hts : L.take (j + 1) = L.take j ++ [L[j]] := List.take_succ_eq_append_getElem hl
    generalize L[j] = x at c0 c1 c2 hbd hcin hts
    obtain ⟨⟨kA, kn, kc, ks⟩, ⟨vA, vn, vc, vs⟩, d⟩ := x
    dsimp only at c0 c1 c2 hbd
    have hj0 : (0 : Int) ≤ (j : Int) := by omega
    have hjn : (j : Int) < (n : Int) := by omega
    have hkr : Fm.In P wr ⟨kA, kn, kc, ks⟩ := hcin.k.fr HS.out.2.2.1 (fun k hk hs => HP.out k hk hs)
    have hvr : Fm.In P wr ⟨vA, vn, vc, vs⟩ := hcin.v.fr HS.out.2.2.1 (fun k hk hs => HP.out k hk hs)
    have HKR := Lib.hid hkr
    have HVR := Lib.hid hvr
    have HTS := Lib.hid hts
    have hkl : ks.length = kn := hkr.len
    have HBD := Lib.hid hbd
    have HKL := Lib.hid hkl
    clear hrg hl hbd hcin hts hkr hvr hkl
    go_upto_region 8 with fail
    obtain ⟨wa, hwa⟩ : ∃ wa : World, wa = wr.alloc (.cells #[.slice kA kn kc, .slice vA vn vc, .bool d] 124) := ⟨_, rfl⟩
    obtain ⟨b6, hb6⟩ : ∃ b6, b6 = wr.heap.size := ⟨_, rfl⟩
    have HNa : Hid (New wr wa) := Lib.hid (by rw [hwa]; exact New.al (New.refl _) _)
    have HB6 : Hid (Blk wa b6 124 #[.slice kA kn kc, .slice vA vn vc, .bool d]) := Lib.hid (by rw [hwa, hb6]; exact Blk.new _ _ _)
    rw [← hwa, ← hb6]
    clear hwa hb6 c0 c1 c2
    have HT := Lib.hid (HS.out.1.new HNa.out)
    have a0 : wa.cell? ⟨b6, 0, none⟩ = some (.slice kA kn kc) := HB6.out.cell 0
    have a1 : wa.cell? ⟨b6, 1, none⟩ = some (.slice vA vn vc) := HB6.out.cell 1
    have a2 : wa.cell? ⟨b6, 2, none⟩ = some (.bool d) := HB6.out.cell 2
    have g0 : wa.cell? ⟨g, 0, none⟩ = some (.map (some b)) := HT.out.blk.cell 0
    have hcv := run_conv (c := kc) (w := wa.drew) (show Rd P wa.drew 1 kA kn (u8s ks) from (New.dr HNa.out).rd HKR.out.rd)
    obtain ⟨f, hM, hf1, hf2⟩ := HT.out.map
    have hko := key_of (xs := ks) (by have := HBD.out.2.1; have := HKL.out; omega)
    obtain ⟨st, hst⟩ : ∃ st, st = strOfNums ks := ⟨_, rfl⟩
    rw [← hst] at hcv hko
    have HM : Hid (MapAt wa.drew Tryz.prog 9 b (m + j) f) := Lib.hid hM
    have HKO := Lib.hid hko
    have HF1 := Lib.hid hf1
    have HF2 := Lib.hid hf2
    have HSTE := Lib.hid hst
    clear hst hM hko hf1 hf2
    cases d
    · have hvl : vn ≤ 16384 := HBD.out.2.2.1
      go_wp2_with fail
      have hSN : ∀ w', New wa w' → (fun w' => w'.cell? ⟨g, 0, none⟩ = some (.map (some b)) ∧ w'.cell? ⟨b6, 0, none⟩ = some (.slice kA kn kc) ∧ w'.cell? ⟨b6, 1, none⟩ = some (.slice vA vn vc) ∧ Rd P w' 1 kA kn (u8s ks)) w' := fun w' hN => ⟨hN.cell_ g0, hN.cell_ a0, hN.cell_ a1, (HNa.out.tr hN).rd HKR.out.rd⟩
      clear hcv
      refine wp_region_T (fun w' => w'.cell? ⟨g, 0, none⟩ = some (.map (some b)) ∧ w'.cell? ⟨b6, 0, none⟩ = some (.slice kA kn kc) ∧ w'.cell? ⟨b6, 1, none⟩ = some (.slice vA vn vc) ∧ Rd P w' 1 kA kn (u8s ks)) 11 (by kernel_rfl) ?_
      refine wpAnyT_take (i := 0) (oi := ⟨_, _, _, _, _, _⟩) (v := .pointer (some ⟨g, 0, none⟩)) rfl (by kernel_rfl) (by kernel_rfl) (by kernel_rfl) (by kernel_rfl) (fun _ _ _ h => h) (Or.inl ⟨by rfl, fun w hSw => by obtain ⟨s1, s2, s3, s4⟩ := hSw; clear s4; go_simp⟩) (hSN _ (New.dr (New.refl _))) ?_
      try simp only [Act.put, List.setIfInBounds_toArray, List.set_cons_zero, List.set_cons_succ]
      refine wpAnyT_take (i := 1) (oi := ⟨_, _, _, _, _, _⟩) (v := .pointer (some ⟨g, 0, none⟩)) rfl (by kernel_rfl) (by kernel_rfl) (by kernel_rfl) (by kernel_rfl) (fun _ _ _ h => h) (Or.inl ⟨by rfl, fun w hSw => by obtain ⟨s1, s2, s3, s4⟩ := hSw; clear s4; go_simp⟩) (hSN _ (New.dr (New.refl _))) ?_
      try simp only [Act.put, List.setIfInBounds_toArray, List.set_cons_zero, List.set_cons_succ]
      refine wpAnyT_take (i := 2) (oi := ⟨_, _, _, _, _, _⟩) (v := .pointer (some ⟨g, 0, none⟩)) rfl (by kernel_rfl) (by kernel_rfl) (by kernel_rfl) (by kernel_rfl) (fun _ _ _ h => h) (Or.inl ⟨by rfl, fun w hSw => by obtain ⟨s1, s2, s3, s4⟩ := hSw; clear s4; go_simp⟩) (hSN _ (New.dr (New.refl _))) ?_
      try simp only [Act.put, List.setIfInBounds_toArray, List.set_cons_zero, List.set_cons_succ]
      refine wpAnyT_take (i := 3) (oi := ⟨_, _, _, _, _, _⟩) (v := .map (some b)) rfl (by kernel_rfl) (by kernel_rfl) (by kernel_rfl) (by kernel_rfl) (fun _ _ _ h => h) (Or.inl ⟨by rfl, fun w hSw => by obtain ⟨s1, s2, s3, s4⟩ := hSw; clear s4; go_simp⟩) (hSN _ (New.dr (New.refl _))) ?_
      try simp only [Act.put, List.setIfInBounds_toArray, List.set_cons_zero, List.set_cons_succ]
      refine wpAnyT_take (i := 4) (oi := ⟨_, _, _, _, _, _⟩) (v := .pointer (some ⟨b6, 0, none⟩)) rfl (by kernel_rfl) (by kernel_rfl) (by kernel_rfl) (by kernel_rfl) (fun _ _ _ h => h) (Or.inl ⟨by rfl, fun w hSw => by obtain ⟨s1, s2, s3, s4⟩ := hSw; clear s4; go_simp⟩) (hSN _ (New.dr (New.refl _))) ?_
      try simp only [Act.put, List.setIfInBounds_toArray, List.set_cons_zero, List.set_cons_succ]
      refine wpAnyT_take (i := 5) (oi := ⟨_, _, _, _, _, _⟩) (v := .slice kA kn kc) rfl (by kernel_rfl) (by kernel_rfl) (by kernel_rfl) (by kernel_rfl) (fun _ _ _ h => h) (Or.inl ⟨by rfl, fun w hSw => by obtain ⟨s1, s2, s3, s4⟩ := hSw; clear s4; go_simp⟩) (hSN _ (New.dr (New.refl _))) ?_
      try simp only [Act.put, List.setIfInBounds_toArray, List.set_cons_zero, List.set_cons_succ]
      refine wpAnyT_take (i := 6) (oi := ⟨_, _, _, _, _, _⟩) (v := .string st) rfl (by kernel_rfl) (by kernel_rfl) (by kernel_rfl) (by kernel_rfl) (fun _ _ _ h => h) (Or.inl ⟨by rfl, fun w hSw => by have s4 := run_conv (c := kc) hSw.2.2.2; rw [← HSTE.out] at s4; go_simp⟩) (hSN _ (New.dr (New.refl _))) ?_
      try simp only [Act.put, List.setIfInBounds_toArray, List.set_cons_zero, List.set_cons_succ]
      refine wpAnyT_take (i := 8) (oi := ⟨_, _, _, _, _, _⟩) (v := .pointer (some ⟨b6, 1, none⟩)) rfl (by kernel_rfl) (by kernel_rfl) (by kernel_rfl) (by kernel_rfl) (fun _ _ _ h => h) (Or.inl ⟨by rfl, fun w hSw => by obtain ⟨s1, s2, s3, s4⟩ := hSw; clear s4; go_simp⟩) (hSN _ (New.dr (New.refl _))) ?_
      try simp only [Act.put, List.setIfInBounds_toArray, List.set_cons_zero, List.set_cons_succ]
      refine wpAnyT_take (i := 9) (oi := ⟨_, _, _, _, _, _⟩) (v := .slice vA vn vc) rfl (by kernel_rfl) (by kernel_rfl) (by kernel_rfl) (by kernel_rfl) (fun _ _ _ h => h) (Or.inl ⟨by rfl, fun w hSw => by obtain ⟨s1, s2, s3, s4⟩ := hSw; clear s4; go_simp⟩) (hSN _ (New.dr (New.refl _))) ?_
      try simp only [Act.put, List.setIfInBounds_toArray, List.set_cons_zero, List.set_cons_succ]
      refine wpAnyT_ready (rs := [7]) (by kernel_rfl) (by simp) (AllT.cons (i := 7) (o := ⟨_, _, _, _, _, _⟩) rfl (fun K hK => ?_) AllT.nil)
      go_simp
      try simp only [Act.put, List.setIfInBounds_toArray, List.set_cons_zero, List.set_cons_succ]
      refine hK.out _ _ (fun _ => hSN _ (by repeat (first | exact New.refl _ | refine New.dr ?_ | refine New.al ?_ _))) ?_
      refine wpAnyT_ready (rs := [10]) (by kernel_rfl) (by simp) (AllT.cons (i := 10) (o := ⟨_, _, _, _, _, _⟩) rfl (fun K hK => ?_) AllT.nil)
      refine step_app elB _ (by rfl) (.tmp 38) (.tmp 40) (by rfl) wa.heap.size (.slice (some ⟨wa.heap.size, 0, none⟩) 0 0) 0 [] (by rfl) (own_lit (Blk.new wa.drew 5 #[]) (Nat.le_refl _)) vA vn vc (u8s vs) (by rfl) ((New.al (New.dr HNa.out) _).rd HVR.out.rd) (u8s_one vs) (by unfold maxLen; omega) (by omega) (by simp) ?_
      intro A5 d5 w5 hO5 hF5 hA5
      have hN5 : New wa w5 := (New.al (New.dr (New.refl wa)) _).fr hF5 (by intro k hk; simp [Value.ownBlock] at hk; omega)
      rw [Nat.zero_add, List.nil_append] at hO5
      rw [Nat.zero_add]
      have HN5 := Lib.hid hN5
      have HO5 := Lib.hid hO5
      clear hN5 hO5 hF5 hA5
      try simp only [Act.put, List.setIfInBounds_toArray, List.set_cons_zero, List.set_cons_succ]
      refine hK.out _ _ (fun _ => hSN _ (New.tr (New.refl _) HN5.out)) ?_
      refine wpAnyT_ready (rs := [11]) (by kernel_rfl) (by simp) (AllT.cons (i := 11) (o := ⟨_, _, _, _, _, _⟩) rfl (fun K hK => ?_) AllT.nil)
      obtain ⟨w6, hrun, hM6, hF6⟩ := MapAt.store (t := 269) ((show MapAt w5 Tryz.prog 9 b (m + j) f from MapAt.fr (w := wa) HM.out (HN5.out.toFr NoB) (fun x => x))) keyS Tryz.underlying269 (by unfold maxLen; omega) HKO.out (.slice A5 vn d5)
      have HM6 := Lib.hid hM6
      have HF6 := Lib.hid hF6
      clear hM6 hF6
      go_simp
      try simp only [Act.put, List.setIfInBounds_toArray, List.set_cons_zero, List.set_cons_succ]
      refine hK.out _ _ (fun h => absurd rfl h) ?_
      refine wpAnyT_done (by kernel_rfl) ?_ _
      go_wp2_with fail
      go_roundw
      case rel =>
       have hT5 := HT.out.new HN5.out
       have hle : ∀ k, (Value.slice A5 vn d5).ownBlock = some k → wa.heap.size ≤ k ∧ k < w5.heap.size := fun k hk => own_lt HO5.out k hk
       have hbk : ∀ k, (Value.slice A5 vn d5).ownBlock = some k → k ≠ b := fun k hk => by
        have h1 := (hle k hk).1
        have h2 := HT.out.blt
        omega
       have hv : Fm.In (fun k => (Value.slice A5 vn d5).ownBlock = some k) w6 ⟨A5, vn, d5, vs⟩ := ⟨(Rd.own HO5.out rfl).fr HF6.out (fun k hk e => hbk k hk e), HVR.out.byt⟩
       have hbase : base ≤ wa.heap.size := Nat.le_trans HT.out.lb (Nat.le_of_lt HT.out.blt)
       have ht := hT5.put HKR.out.byt (by show ks.length ≤ 16; have h16 : kn ≤ 16 := HBD.out.2.1; have := HKL.out; omega) HF1.out HF2.out HM6.out HF6.out hv (by exact hvl) (fun k hk => ⟨Nat.le_trans hbase (hle k hk).1, (own_isT HO5.out hk).fr HF6.out (fun e => hbk k hk e)⟩)
       refine ⟨j + 1, _, tput E' ks ⟨A5, vn, d5, vs⟩, by omega, by go_num, Lib.hid ⟨ht, ?_, HS.out.2.2.1.trans ((HNa.out.toFr _).trans ((HN5.out.toFr _).trans HF6.out)), ?_⟩⟩
       · rw [cont_put, HS.out.2.1, HTS.out, do_snoc]
         rfl
       · rintro k (hk | hk)
         · exact HS.out.2.2.2 k hk
         · have h1 := (hle k hk).1
           have h2 := HNa.out.size
           have h3 := HS.out.2.2.1.size
           exact .inr (by omega)
      case measure => simp [intOf]; omega
    · go_wp2_with fail
      go_region_law (refine step_mdel HM.out keyS Tryz.underlying269 rfl (.tmp 27) (.tmp 30) rfl (by simp [Act.eval, Act.put]) (.string st) (key_l19 ks) (by simp [Act.eval, Act.put]) HKO.out ?_; intro w3 hM3 hF3)
      all_goals
       have HM3 := Lib.hid hM3
       have HF3 : Hid (Fr (fun k => k = b) wa w3) := Lib.hid (Fr.ofDrew hF3)
       clear hM3 hF3
       go_wp2_with fail
       go_roundw
       case rel =>
        refine ⟨j + 1, X', tdel E' ks, by omega, by go_num, Lib.hid ⟨?_, ?_, HS.out.2.2.1.trans ((HNa.out.toFr _).trans HF3.out), HS.out.2.2.2⟩⟩
        · have ht := HT.out.del HKR.out.byt HF1.out HF2.out HM3.out HF3.out
          obtain ⟨f', hm', r'⟩ := ht.map
          exact ⟨ht.blk, ⟨f', hm'.mono (by omega), r'⟩, ht.nd, ht.el, ht.gb, ht.lb, ht.xs⟩
        · rw [cont_del, HS.out.2.1, HTS.out, do_snoc]
          rfl
       case measure => simp [intOf]; omega
  · as_aux_lemma =>
    obtain rfl : j = n := by omega
    go_wp2_with fail
    go_ret
    obtain ⟨h1, h2, h3, h4⟩ := HS.out
    rw [List.take_of_length_le (by rw [HL.out]; exact Nat.le_refl _)] at h2
    exact ⟨rfl, X', E', h1, h2, (HN1.out.toFr _).trans h3, fun k hk => (h4 k hk).imp id (fun e => Nat.le_trans HN1.out.size e)⟩
end Go.Proofs.YtpifnmlnhddgeaaGreatDoor
