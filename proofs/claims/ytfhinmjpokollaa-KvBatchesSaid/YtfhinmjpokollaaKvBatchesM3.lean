/- Texts of one proof, one behind the other: Qb, KvP, Keys, Num, Typ. No condition but each one's own. -/
import Derived.Test.YtfhinmjpokollaaKvBatchesM1
import Derived.Lib.QuietBelowIn
import Derived.Sort.QuietTacIn
import Derived.RangeFuncCalls
import Derived.Test.YtfhinmjpokollaaKvBatchesM2
import Derived.StringKeys
import Derived.Shelf.SlIter.Nil
import Derived.Shelf.SortM.Plain
import Derived.Shelf.SortM.SortNone
import Derived.Test.YtfhinmjpokollaaProg
import Derived.Test.YtfhinmjpokollaaRows
/- A region that draws its order, whose operations only read and whose callees may make memory: walked once, in a round of a range over a function too. After the kit's laws (Derived/Lib/QuietBelow.lean, QuietBelowIn.lean). No condition. -/
namespace Go.Proofs.Ytfhinmjpokollaa
set_option linter.unusedVariables false
set_option linter.unusedSimpArgs false
set_option linter.constructorNameAsVariable false
open Go.RowKit Go.Sort

def noDefer (o : Oper) : Bool := match o.op with | .defer _ => false | _ => true
theorem noDefer_spec {o : Oper} (h : noDefer o = true) : ∀ c, o.op ≠ .defer c := by
  intro c e
  unfold noDefer at h
  rw [e] at h
  cases h
section
variable {F : Fence} {n : Nat} {P : Program} {ops : Array Oper} {md : Region.Mode} {Q : Exit → Act → World → Prop}
theorem wpIn_in_round (r : Nat) (hro : F.round = none) {o : Oper} {a : Act} {w : World} {K : Act → World → Prop} (hd : noDefer o = true) (h : o.wpIn F n P a w K Q) : o.wpIn (F.inRound r) n P a w K Q := by
  unfold Oper.wpIn at *
  refine ⟨h.1, ?_⟩
  have h2 := h.2
  rw [hro, Oper.semAt_none] at h2
  rw [Oper.semAt_eq _ _ _ (noDefer_spec hd)]
  exact h2
theorem wpAnyIn_in_round (r : Nat) (hro : F.round = none) (hd : ∀ (i : Nat) (o : Oper), ops[i]? = some o → noDefer o = true) : ∀ (fuel : Nat) (listed : Array Bool) (a : Act) (w : World), wpAnyIn F n P md ops Q fuel listed a w → wpAnyIn (F.inRound r) n P md ops Q fuel listed a w
  | 0, _, _, _, h => h
  | fuel + 1, listed, a, w, h => by
    refine ⟨h.1, fun i hi => ?_⟩
    have h1 := wpOpIn_mono (fun a w => wpAnyIn_in_round r hro hd fuel _ a w) (h.2 i hi)
    unfold wpOpIn at h1 ⊢
    cases ho : ops[i]? with
    | none => simpa [ho] using h1
    | some o =>
      simp only [ho] at h1 ⊢
      by_cases hw : Region.wanted o (yielded ops a.tmps) = true
      · rw [if_pos hw] at h1 ⊢
        exact wpIn_in_round r hro (hd i o ho) h1
      · rw [if_neg hw] at h1 ⊢
        exact h1
theorem wpIn_region_below_round {id : Nat} {a : Act} {w : World} {l : List Oper} (r : Nat) (hro : F.round = none) (hm : P.follows .mixedOrders = true) (hB : Region.lexB .any l.toArray = true) (hd : l.all noDefer = true)
    (h : wpQuietIn F n P l.toArray (fun w' => ∃ p : Regrown, w' = grow (redrawn w p.d) p.os) (fun a' => ∀ w', (∃ p : Regrown, w' = grow (redrawn w p.d) p.os) → Q .normal a' w') l a) : (Code.region id l.toArray true).wpIn (F.inRound r) n P Q a w := by
  have hB' := hB
  simp only [Region.lexB, Bool.and_eq_true] at hB'
  refine wpIn_region_any hm (wpAnyIn_in_round r hro ?_ _ _ _ _ (wpAnyIn_of_quiet (C := fun w' => ∃ p : Regrown, w' = grow (redrawn w p.d) p.os) (Q := fun a' => ∀ w', (∃ p : Regrown, w' = grow (redrawn w p.d) p.os) → Q .normal a' w') hro (fun _ w' hw' h => h w' hw') _ _ _ _ ⟨⟨w.drawn + 1, #[]⟩, by rw [grow_empty]; rfl⟩ ?_))
  · intro i o ho
    have ho' : l[i]? = some o := by simpa using ho
    exact List.all_eq_true.1 hd o (List.mem_of_getElem? ho')
  · have := wpAnyQIn_lex (F := F) (n := n) (C := fun w' => ∃ p : Regrown, w' = grow (redrawn w p.d) p.os) (md := .any) hB'.1 l 0 (Array.replicate l.toArray.size false) a (by simp) (by simpa using hB'.2) h
    simpa using this
end
/-- What a callee's contract (its end: 'New') gives in each world of the class. -/
theorem calls_regrown {P : Program} {f : FuncId} {args : Array Value} {w : World} {v : Value} (h : ∀ W, New w W → Calls P f args W fun e w' => e = .returned v ∧ New W w') :
    ∀ d os, Calls P f args (grow (redrawn w d) os) fun e w'' => e = .returned v ∧ ∃ p : Regrown, w'' = grow (redrawn w p.d) p.os :=
  fun d os => Calls.regrown_of (h _ (below_regrown w d os))
theorem callsIn_regrown {P : Program} {f : FuncId} {args : Array Value} {w : World} {v : Value} {n : Nat} (h : ∀ W, New w W → Calls P f args W fun e w' => e = .returned v ∧ New W w') :
    ∀ d os, CallsIn Fence.wide n P f args (grow (redrawn w d) os) fun e w'' => e = .returned v ∧ ∃ p : Regrown, w'' = grow (redrawn w p.d) p.os :=
  fun d os => callsIn_wide.2 (calls_regrown h d os)
end Go.Proofs.Ytfhinmjpokollaa
/- Changes: in memory, in plain words; which are right. No condition but that they can be read. -/
namespace Go.Proofs.Ytfhinmjpokollaa
set_option linter.unusedVariables false
set_option linter.unusedSimpArgs false
set_option linter.constructorNameAsVariable false
open Go.RowKit Go.Maps

/-- Bytes: where they lie, and what they are. -/
structure Fm where
  A : Option Addr
  n : Nat
  c : Nat
  xs : List Int
def Fm.val (x : Fm) : Value := .slice x.A x.n x.c
structure Fm.In (P : Nat → Prop) (w : World) (x : Fm) : Prop where
  rd : Rd P w 1 x.A x.n (u8s x.xs)
  byt : Byt x.xs
theorem Fm.In.len {P : Nat → Prop} {w : World} {x : Fm} (h : x.In P w) : x.xs.length = x.n := by have := h.rd.1; rw [u8s_len] at this; omega
/-- A change. -/
structure Ch where
  k : Fm
  v : Fm
  d : Bool
def Ch.cells (c : Ch) : List Value := [.slice c.k.A c.k.n c.k.c, .slice c.v.A c.v.n c.v.c, .bool c.d]
structure Ch.In (P : Nat → Prop) (w : World) (c : Ch) : Prop where
  k : c.k.In P w
  v : c.v.In P w
theorem Ch.In.new {P : Nat → Prop} {w w' : World} {c : Ch} (h : c.In P w) (hN : New w w') : c.In P w' := ⟨⟨hN.rd h.k.rd, h.k.byt⟩, ⟨hN.rd h.v.rd, h.v.byt⟩⟩
def chOk (c : Ch) : Bool := decide (1 ≤ c.k.n) && decide (c.k.n ≤ 16) && decide (c.v.n ≤ 16384) && !(c.d && decide (0 < c.v.n))
def chsOk (L : List Ch) : Bool := decide (1 ≤ L.length) && decide (L.length ≤ 600) && L.all chOk

theorem rb {a b : Bool} (h : a = b) : Ending.returned (.bool a) = Ending.returned (.bool b) := by rw [h]
theorem right_any (c : Ch) (w : World) (hk : c.k.n ≤ maxLen) (hv : c.v.n ≤ maxLen) : Calls Try.prog 37 #[.agg c.cells.toArray] w fun e w' => e = .returned (.bool (chOk c)) ∧ New w w' := by
  obtain ⟨⟨kA, kn, kc, ks⟩, ⟨vA, vn, vc, vs⟩, d⟩ := c
  unfold maxLen at hk hv
  dsimp only at hk hv
  unfold Ch.cells
  dsimp only
  go_enter Try.func37, Try.ntmps37
  go_wp2_with fail
  all_goals
    go_ret
    refine ⟨rb ?_, New.al (New.refl _) _⟩
    try subst d
    unfold chOk
    dsimp only
    first
      | (rw [decide_eq_true (by omega : 1 ≤ kn), decide_eq_true (by omega : kn ≤ 16), decide_eq_true (by omega : vn ≤ 16384)]; simp; done)
      | (rw [decide_eq_true (by omega : 1 ≤ kn), decide_eq_true (by omega : kn ≤ 16), decide_eq_false (by omega : ¬ vn ≤ 16384)]; simp; done)
      | (rw [decide_eq_true (by omega : 1 ≤ kn), decide_eq_false (by omega : ¬ kn ≤ 16)]; simp; done)
      | (rw [decide_eq_false (by omega : ¬ 1 ≤ kn)]; simp; done)
theorem odd_any (c : Ch) (w : World) (hk : c.k.n ≤ maxLen) (hv : c.v.n ≤ maxLen) : Calls Try.prog 36 #[.agg c.cells.toArray] w fun e w' => e = .returned (.bool (!chOk c)) ∧ New w w' := by
  have hr := fun w => right_any c w hk hv
  obtain ⟨b, hb⟩ : ∃ b, b = chOk c := ⟨_, rfl⟩
  rw [← hb] at hr ⊢
  have HR := Lib.hid hr
  clear hb hr
  obtain ⟨⟨kA, kn, kc, ks⟩, ⟨vA, vn, vc, vs⟩, d⟩ := c
  clear hk hv
  unfold Ch.cells at HR ⊢
  dsimp only at HR ⊢
  go_enter Try.func36, Try.ntmps36
  go_wp2_with fail
  refine (HR.out _).mono ?_
  rintro e w1 ⟨rfl, hN1⟩
  have HN1 := Lib.hid hN1
  clear hN1
  go_wp2_with fail
  go_ret
  exact ⟨rfl, (New.al (New.refl _) _).tr HN1.out⟩
/-- What IndexFunc answers: below 0 just where all are right. -/
def IdxSays (L : List Ch) (e : Ending) : Prop := ∃ r : Int, e = .returned (.int .i64 r) ∧ (L.all chOk = true → r = -1) ∧ (L.all chOk = false → 0 ≤ r)
theorem all_take {L : List Ch} {k : Nat} (h : k < L.length) : (L.take (k + 1)).all chOk = ((L.take k).all chOk && chOk L[k]) := by
  rw [List.take_succ_eq_append_getElem h, List.all_append]
  simp
set_option maxRecDepth 100000 in
set_option maxHeartbeats 2000000 in
theorem ifunc_any {P : Nat → Prop} (A : Option Addr) (n c : Nat) (L : List Ch) (w : World) (h : Rd P w 3 A n (L.flatMap Ch.cells)) (hL : L.length = n) (hn : n ≤ 100000000) (hb : ∀ c ∈ L, c.k.n ≤ maxLen ∧ c.v.n ≤ maxLen) :
    Calls Try.prog 61 #[.slice A n c, .func (.func 36) #[] #[]] w fun e w' => IdxSays L e ∧ New w w' := by
  have HR := Lib.hid h
  have HL := Lib.hid hL
  have HB := Lib.hid hb
  clear h hL hb
  go_enter Try.func61, Try.ntmps61
  go_wp2_with fail
  go_loopw [8] (fun i wr => ∃ j : Nat, j ≤ n ∧ i = .int .i64 j ∧ Hid ((L.take j).all chOk = true) ∧ Hid (New w wr)) (fun i _ => n - (intOf i).toNat)
  case atStart => exact ⟨0, Nat.zero_le _, rfl, Lib.hid (by simp), Lib.hid (New.refl w)⟩
  case round =>
    obtain ⟨j, hj, rfl, HS, HN⟩ := hrel
    by_cases hlt : j < n
    · as_aux_lemma =>
      obtain ⟨g, o, hl, rfl, -, -, hrg⟩ := rd_row (f := Ch.cells) (L := L) (fun _ => rfl) (by omega) (HN.out.rd HR.out) hlt
      have c0 : wr.cell? ⟨g, o + j * 3, none⟩ = some (.slice L[j].k.A L[j].k.n L[j].k.c) := hrg 0 _ rfl
      have c1 : wr.cell? ⟨g, o + j * 3 + 1, none⟩ = some (.slice L[j].v.A L[j].v.n L[j].v.c) := hrg 1 _ rfl
      have c2 : wr.cell? ⟨g, o + j * 3 + 2, none⟩ = some (.bool L[j].d) := hrg 2 _ rfl
      have hbd := HB.out L[j] (List.getElem_mem _)
      have HO := Lib.hid (fun w => odd_any L[j] w hbd.1 hbd.2)
      have hst := all_take hl
      have hmem : L[j] ∈ L := List.getElem_mem _
      generalize L[j] = x at c0 c1 c2 HO hst hmem
      obtain ⟨⟨kA, kn, kc, ks⟩, ⟨vA, vn, vc, vs⟩, d⟩ := x
      unfold Ch.cells at HO
      dsimp only at c0 c1 c2 HO
      have HST := Lib.hid hst
      have HM := Lib.hid hmem
      have hj0 : (0 : Int) ≤ (j : Int) := by omega
      have hjn : (j : Int) < (n : Int) := by omega
      clear hrg hl hst hbd hmem
      go_wp2_with fail
      refine (HO.out _).mono ?_
      rintro e w1 ⟨rfl, hN1⟩
      have HN1 := Lib.hid (HN.out.tr hN1)
      clear hN1 HO c0 c1 c2
      cases hok : chOk ⟨⟨kA, kn, kc, ks⟩, ⟨vA, vn, vc, vs⟩, d⟩
      · have HOK := Lib.hid hok
        clear hok
        go_wp2_with fail
        go_ret
        refine ⟨⟨j, rfl, fun h => ?_, fun _ => by omega⟩, HN1.out⟩
        have := List.all_eq_true.1 h _ HM.out
        rw [HOK.out] at this
        cases this
      · have HOK := Lib.hid hok
        clear hok
        go_wp2_with fail
        go_roundw
        case rel => exact ⟨j + 1, by omega, by go_num, Lib.hid (by rw [HST.out, HS.out, HOK.out]; rfl), HN1⟩
        case measure => simp [intOf]; omega
    · as_aux_lemma =>
      obtain rfl : j = n := by omega
      go_wp2_with fail
      go_ret
      have hs := HS.out
      rw [List.take_of_length_le (by rw [HL.out]; exact Nat.le_refl _)] at hs
      exact ⟨⟨-1, rfl, fun _ => rfl, fun h => by rw [hs] at h; cases h⟩, HN.out⟩
theorem cfunc_any {P : Nat → Prop} (A : Option Addr) (n c : Nat) (L : List Ch) (w : World) (h : Rd P w 3 A n (L.flatMap Ch.cells)) (hL : L.length = n) (hn : n ≤ 100000000) (hb : ∀ c ∈ L, c.k.n ≤ maxLen ∧ c.v.n ≤ maxLen) :
    Calls Try.prog 38 #[.slice A n c, .func (.func 36) #[] #[]] w fun e w' => e = .returned (.bool (!L.all chOk)) ∧ New w w' := by
  have HI := Lib.hid (ifunc_any A n c L w h hL hn hb)
  clear h hL hb hn
  go_enter Try.func38, Try.ntmps38
  go_wp2_with fail
  refine HI.out.mono ?_
  rintro e w1 ⟨⟨r, rfl, h1, h2⟩, hN1⟩
  have HN1 := Lib.hid hN1
  have H1 := Lib.hid h1
  have H2 := Lib.hid h2
  clear hN1 h1 h2 HI
  go_wp2_with fail
  go_ret
  refine ⟨rb ?_, HN1.out⟩
  cases ha : L.all chOk
  · have := H2.out ha
    simp; omega
  · have := H1.out ha
    simp; omega
theorem rights_any {P : Nat → Prop} (A : Option Addr) (n c : Nat) (L : List Ch) (w : World) (h : Rd P w 3 A n (L.flatMap Ch.cells)) (hL : L.length = n) (hn : n ≤ 100000000) (hb : ∀ c ∈ L, c.k.n ≤ maxLen ∧ c.v.n ≤ maxLen) :
    Calls Try.prog 17 #[.slice A n c] w fun e w' => e = .returned (.bool (chsOk L)) ∧ New w w' := by
  have HC := Lib.hid (fun (w' : World) (hN : New w w') => cfunc_any A n c L w' (hN.rd h) hL hn hb)
  clear h hb
  have HL := Lib.hid hL
  clear hL
  go_enter Try.func17, Try.ntmps17
  go_wp2_with fail
  · refine (HC.out _ (New.refl _)).mono ?_
    rintro e w1 ⟨rfl, hN1⟩
    have HN1 := Lib.hid hN1
    clear hN1 HC
    obtain ⟨b, hb⟩ : ∃ b, b = L.all chOk := ⟨_, rfl⟩
    rw [← hb]
    have HBB := Lib.hid hb
    clear hb
    go_wp2_with fail
    go_ret
    refine ⟨rb ?_, HN1.out⟩
    unfold chsOk
    rw [HL.out, ← HBB.out, decide_eq_true (by omega : 1 ≤ n), decide_eq_true (by omega : n ≤ 600)]
    simp
  all_goals
    go_ret
    refine ⟨rb ?_, New.refl _⟩
    unfold chsOk
    rw [HL.out]
    first
      | (rw [decide_eq_true (by omega : 1 ≤ n), decide_eq_false (by omega : ¬ n ≤ 600)]; simp; done)
      | (rw [decide_eq_false (by omega : ¬ 1 ≤ n)]; simp; done)
end Go.Proofs.Ytfhinmjpokollaa
/- slices.Sorted(maps.Keys(m)) at a map of strings to slices of bytes: the kit's contracts at this program (its own tool wrote the numbers). No condition but the map's own. -/
namespace Go.Proofs.Ytfhinmjpokollaa
set_option linter.unusedVariables false
set_option linter.unusedSimpArgs false
set_option linter.constructorNameAsVariable false
open Go.RowKit Go.Maps Go.Sort Go.Shelf

def keysL_ren : Go.Shelf.Ren := ⟨fun | 7 => 63 | 10 => 74 | n => n, fun | 23 => 67 | 26 => 9 | 3 => 39 | 28 => 111 | 0 => 0 | 27 => 110 | 33 => 119 | 4 => 4 | n => n, fun | n => n⟩
theorem keysL : Go.Proofs.SlLaysZ.n7 Try.prog keysL_ren := {
  mixed := by kernel_rfl
  f7 := ⟨Try.f63.name, by decide, Try.func63.trans (congrArg some (by kernel_rfl))⟩
  f10 := ⟨Try.f74.name, by decide, Try.func74.trans (congrArg some (by kernel_rfl))⟩
  t0 := Try.underlying0
  a0 := Try.isAgg0
  z0 := Try.sizeOf0
  v0 := Try.zeroValue0
  t4 := Try.underlying4
  a4 := Try.isAgg4
  z4 := Try.sizeOf4
  v4 := Try.zeroValue4
  t23 := Try.underlying67
  a23 := Try.isAgg67
  z23 := Try.sizeOf67
  v23 := Try.zeroValue67
  t26 := Try.underlying9
  a26 := Try.isAgg9
  z26 := Try.sizeOf9
  v26 := Try.zeroValue9
  t27 := Try.underlying110
  a27 := Try.isAgg110
  z27 := Try.sizeOf110
  v27 := Try.zeroValue110
  t28 := Try.underlying111
  a28 := Try.isAgg111
  z28 := Try.sizeOf111
  v28 := Try.zeroValue111
  t33 := Try.underlying119
  a33 := Try.isAgg119
  z33 := Try.sizeOf119
  v33 := Try.zeroValue119 }
def sortedL_ren : Go.Shelf.Ren := ⟨fun | 6 => 62 | 8 => 72 | 9 => 73 | 11 => 75 | 13 => 77 | 12 => 76 | 23 => 87 | 24 => 88 | 14 => 78 | 15 => 79 | 16 => 80 | 17 => 81 | 18 => 82 | 19 => 83 | 20 => 84 | 21 => 85 | 22 => 86 | 25 => 89 | 26 => 90 | 27 => 91 | 28 => 92 | 29 => 93 | 30 => 94 | 31 => 95 | n => n, fun | 26 => 9 | 28 => 111 | 24 => 80 | 0 => 0 | 3 => 3 | 37 => 116 | 48 => 134 | 50 => 77 | 4 => 4 | 40 => 126 | 39 => 125 | 45 => 131 | 5 => 5 | 9 => 9 | 51 => 136 | 55 => 140 | 57 => 142 | 58 => 143 | 33 => 119 | n => n, fun | n => n⟩
theorem sortedL : Go.Proofs.SlLaysZ.n6 Try.prog sortedL_ren := {
  mixed := by kernel_rfl
  f6 := ⟨Try.f62.name, by decide, Try.func62.trans (congrArg some (by kernel_rfl))⟩
  f8 := ⟨Try.f72.name, by decide, Try.func72.trans (congrArg some (by kernel_rfl))⟩
  f11 := ⟨Try.f75.name, by decide, Try.func75.trans (congrArg some (by kernel_rfl))⟩
  t0 := Try.underlying0
  a0 := Try.isAgg0
  z0 := Try.sizeOf0
  v0 := Try.zeroValue0
  t24 := Try.underlying80
  a24 := Try.isAgg80
  z24 := Try.sizeOf80
  v24 := Try.zeroValue80
  t26 := Try.underlying9
  a26 := Try.isAgg9
  z26 := Try.sizeOf9
  v26 := Try.zeroValue9
  t28 := Try.underlying111
  a28 := Try.isAgg111
  z28 := Try.sizeOf111
  v28 := Try.zeroValue111
  i26 := by kernel_rfl }
def sortL_ren : Go.Shelf.Ren := ⟨fun | 6 => 73 | 8 => 77 | 9 => 76 | 19 => 87 | 20 => 88 | 21 => 78 | 22 => 79 | 23 => 80 | 24 => 81 | 25 => 82 | 26 => 83 | 27 => 84 | 28 => 85 | 29 => 86 | 36 => 89 | 31 => 90 | 32 => 91 | 37 => 92 | 38 => 93 | 39 => 94 | 41 => 95 | n => n, fun | 27 => 80 | 29 => 9 | 3 => 3 | 32 => 116 | 26 => 80 | 0 => 0 | 44 => 134 | 46 => 77 | 4 => 4 | 36 => 126 | 35 => 125 | 41 => 131 | 5 => 5 | 9 => 9 | 53 => 136 | 57 => 140 | 63 => 142 | 64 => 143 | n => n, fun | n => n⟩
theorem sortL : Go.Proofs.SlLaysM.n6 Try.prog sortL_ren := {
  mixed := by kernel_rfl
  f6 := ⟨Try.f73.name, by decide, Try.func73.trans (congrArg some (by kernel_rfl))⟩
  f8 := Try.func77.trans (congrArg some (by kernel_rfl))
  f9 := ⟨Try.f76.name, by decide, Try.func76.trans (congrArg some (by kernel_rfl))⟩
  f19 := Try.func87.trans (congrArg some (by kernel_rfl))
  f20 := Try.func88.trans (congrArg some (by kernel_rfl))
  f21 := ⟨Try.f78.name, by decide, Try.func78.trans (congrArg some (by kernel_rfl))⟩
  f22 := ⟨Try.f79.name, by decide, Try.func79.trans (congrArg some (by kernel_rfl))⟩
  f23 := ⟨Try.f80.name, by decide, Try.func80.trans (congrArg some (by kernel_rfl))⟩
  f24 := ⟨Try.f81.name, by decide, Try.func81.trans (congrArg some (by kernel_rfl))⟩
  f25 := ⟨Try.f82.name, by decide, Try.func82.trans (congrArg some (by kernel_rfl))⟩
  f26 := ⟨Try.f83.name, by decide, Try.func83.trans (congrArg some (by kernel_rfl))⟩
  f27 := ⟨Try.f84.name, by decide, Try.func84.trans (congrArg some (by kernel_rfl))⟩
  f28 := ⟨Try.f85.name, by decide, Try.func85.trans (congrArg some (by kernel_rfl))⟩
  f29 := ⟨Try.f86.name, by decide, Try.func86.trans (congrArg some (by kernel_rfl))⟩
  f31 := Try.func90.trans (congrArg some (by kernel_rfl))
  f32 := Try.func91.trans (congrArg some (by kernel_rfl))
  f36 := ⟨Try.f89.name, by decide, Try.func89.trans (congrArg some (by kernel_rfl))⟩
  f37 := ⟨Try.f92.name, by decide, Try.func92.trans (congrArg some (by kernel_rfl))⟩
  f38 := ⟨Try.f93.name, by decide, Try.func93.trans (congrArg some (by kernel_rfl))⟩
  f39 := ⟨Try.f94.name, by decide, Try.func94.trans (congrArg some (by kernel_rfl))⟩
  f41 := ⟨Try.f95.name, by decide, Try.func95.trans (congrArg some (by kernel_rfl))⟩
  t0 := Try.underlying0
  a0 := Try.isAgg0
  z0 := Try.sizeOf0
  v0 := Try.zeroValue0
  t3 := Try.underlying3
  a3 := Try.isAgg3
  z3 := Try.sizeOf3
  v3 := Try.zeroValue3
  t4 := Try.underlying4
  a4 := Try.isAgg4
  z4 := Try.sizeOf4
  v4 := Try.zeroValue4
  t5 := Try.underlying5
  a5 := Try.isAgg5
  z5 := Try.sizeOf5
  v5 := Try.zeroValue5
  t9 := Try.underlying9
  a9 := Try.isAgg9
  z9 := Try.sizeOf9
  v9 := Try.zeroValue9
  t26 := Try.underlying80
  a26 := Try.isAgg80
  z26 := Try.sizeOf80
  v26 := Try.zeroValue80
  t27 := Try.underlying80
  a27 := Try.isAgg80
  z27 := Try.sizeOf80
  v27 := Try.zeroValue80
  t29 := Try.underlying9
  a29 := Try.isAgg9
  z29 := Try.sizeOf9
  v29 := Try.zeroValue9
  t32 := Try.underlying116
  a32 := Try.isAgg116
  z32 := Try.sizeOf116
  v32 := Try.zeroValue116
  t35 := Try.underlying125
  a35 := Try.isAgg125
  z35 := Try.sizeOf125
  v35 := Try.zeroValue125
  t36 := Try.underlying126
  a36 := Try.isAgg126
  z36 := Try.sizeOf126
  v36 := Try.zeroValue126
  t41 := Try.underlying131
  a41 := Try.isAgg131
  z41 := Try.sizeOf131
  v41 := Try.zeroValue131
  t44 := Try.underlying134
  a44 := Try.isAgg134
  z44 := Try.sizeOf134
  v44 := Try.zeroValue134
  t46 := Try.underlying77
  a46 := Try.isAgg77
  z46 := Try.sizeOf77
  v46 := Try.zeroValue77
  t53 := Try.underlying136
  a53 := Try.isAgg136
  z53 := Try.sizeOf136
  v53 := Try.zeroValue136
  t57 := Try.underlying140
  a57 := Try.isAgg140
  z57 := Try.sizeOf140
  v57 := Try.zeroValue140
  t63 := Try.underlying142
  a63 := Try.isAgg142
  z63 := Try.sizeOf142
  v63 := Try.zeroValue142
  t64 := Try.underlying143
  a64 := Try.isAgg143
  z64 := Try.sizeOf143
  v64 := Try.zeroValue143 }
/-- slices.Sort's two contracts at this dump, at the fence that asks nothing. -/
theorem sortsL (m : Nat) : AnyZ.SortsIn Try.prog sortedL_ren Fence.wide m :=
  ⟨fun blk off cap ss W hH hblk hsz => callsIn_wide.2 (AnyM.slices_Sort_string sortL blk off cap ss W hH hblk hsz),
   fun p cap W => callsIn_wide.2 (AnyM.slices_Sort_string_none sortL p cap W)⟩

/-- **maps.Keys[map[string][]byte,string,[]byte], at whatever map, the nil one too:** a function value over ONE NEW BLOCK, which holds the map. -/
theorem maps_keys (mb : Option Nat) (W : World) : CallsIn Fence.wide 5 Try.prog 63 #[.map mb] W fun e w' => e = .returned (.func (.func 74) #[] #[.pointer (some ⟨W.heap.size, 0, none⟩)]) ∧ w' = W.alloc (.cells #[.map mb] 67) :=
  AnyZ.keys_in keysL Fence.wide 5 trivial rfl mb W

set_option maxHeartbeats 1000000 in
/-- **slices.Sorted[string] AT WHAT maps.Keys[map[string][]byte,string,[]byte] HANDED BACK FOR A MAP THAT IS NOT nil** ('w': the world AHEAD of maps.Keys' call): A NEW SLICE THAT HOLDS THE MAP's KEYS, SORTED; nil just where it has none; nothing that lay before has turned. -/
theorem sorted_keys {H : Type} (b nn : Nat) (D0 : DataW H) (R : Value → Option (DataW H × List MemPlace)) (w : World) (hown : w.ownsMap Try.prog 9 R b nn D0) (hmax : Maps.size D0 ≤ maxLen) (hbytes : Maps.size D0 * 16 ≤ 140737488355328) :
    CallsIn Fence.wide 5 Try.prog 62 #[.func (.func 74) #[] #[.pointer (some ⟨w.heap.size, 0, none⟩)]] (w.alloc (.cells #[.map (some b)] 67)) fun e w' => ∃ (v : Value) (ss : List (List UInt8)), e = .returned v ∧ ss.Perm (strKeys D0) ∧
      w'.ownsRow (w.alloc (.cells #[.map (some b)] 67)).heap.size 9 1 v ss.length ((ss.mergeSort (fun x y => decide (x ≤ y))).map encStr) ∧ (v = .slice none 0 0 ↔ ss = []) ∧ Below (w.alloc (.cells #[.map (some b)] 67)).heap.size (w.alloc (.cells #[.map (some b)] 67)) w' := by
  have hbl := hown.lt
  have hseq : SeqGives Fence.wide 2 Try.prog 74 #[.pointer (some ⟨w.heap.size, 0, none⟩)] encStr (fun ss => ss.Perm (strKeys D0)) (Maps.size D0) (w.alloc (.cells #[.map (some b)] 67)) :=
    AnyZ.keys_gives (ρ := keysL_ren) { keysL with } Fence.wide _ trivial rfl (by omega) w.heap.size b nn D0 _ (by simp) (by simp) (by
      obtain ⟨es, clock, hb, Ft, hs, hD⟩ := hown
      exact ⟨es, clock, (Below.heap_alloc _ _ b hbl).trans hb, Ft, hs, hD⟩)
  exact AnyZ.sorted_in sortedL Fence.wide 5 trivial trivial trivial trivial rfl (by omega) (sortsL _) (enters_of Try.func73 (by kernel_rfl) rfl) 74 #[.pointer (some ⟨w.heap.size, 0, none⟩)] trivial (enters_of Try.func74 (by kernel_rfl) rfl) _ _ hmax hbytes _ hseq

set_option maxHeartbeats 1000000 in
/-- **.. AND FOR THE nil MAP: nil.** -/
theorem sorted_keys_nil (w : World) :
    CallsIn Fence.wide 5 Try.prog 62 #[.func (.func 74) #[] #[.pointer (some ⟨w.heap.size, 0, none⟩)]] (w.alloc (.cells #[.map none] 67)) fun e w' => ∃ (v : Value) (ss : List (List UInt8)), e = .returned v ∧ ss = [] ∧
      w'.ownsRow (w.alloc (.cells #[.map none] 67)).heap.size 9 1 v ss.length ((ss.mergeSort (fun x y => decide (x ≤ y))).map encStr) ∧ (v = .slice none 0 0 ↔ ss = []) ∧ Below (w.alloc (.cells #[.map none] 67)).heap.size (w.alloc (.cells #[.map none] 67)) w' := by
  have hseq : SeqGives Fence.wide 2 Try.prog 74 #[.pointer (some ⟨w.heap.size, 0, none⟩)] encStr (fun ss : List (List UInt8) => ss = []) 0 (w.alloc (.cells #[.map none] 67)) :=
    AnyZ.keys_gives_nil (ρ := keysL_ren) { keysL with } Fence.wide _ trivial rfl w.heap.size _ (by simp) (by simp)
  exact AnyZ.sorted_in sortedL Fence.wide 5 trivial trivial trivial trivial rfl (by omega) (sortsL _) (enters_of Try.func73 (by kernel_rfl) rfl) 74 #[.pointer (some ⟨w.heap.size, 0, none⟩)] trivial (enters_of Try.func74 (by kernel_rfl) rfl) _ 0 (Nat.zero_le _) (by omega) _ hseq



end Go.Proofs.Ytfhinmjpokollaa
/- entrustnum.Num and entrustnum.Is, of errors that are api.Errno's or nil. No condition. -/
namespace Go.Proofs.Ytfhinmjpokollaa
set_option linter.unusedVariables false
set_option linter.unusedSimpArgs false
set_option linter.constructorNameAsVariable false
open Go.RowKit

theorem ta_errno (n : Int) (w : World) : (Instr.typeAssert (.iface 36 (.int .i64 n)) 31 36 true).run Try.prog w = .ok (.tuple #[.int .i64 n, .bool true]) w := by
  simp [Instr.typeAssert, run_underlying Try.underlying36]

theorem num_some (n : Int) (w : World) (h1 : 1 ≤ n) : Calls Try.prog 34 #[.iface 36 (.int .i64 n)] w fun e w' => e = .returned (.int .i64 n) ∧ w = w' := by
  have ta := ta_errno n w
  have hz : (n != 0) = true := by simp; omega
  go_enter Try.func34, Try.ntmps34
  go_wp2_with fail
  go_ret
  exact ⟨rfl, rfl⟩
theorem num_none (w : World) : Calls Try.prog 34 #[.nilIface] w fun e w' => e = .returned (.int .i64 0) ∧ w = w' := by
  go_enter Try.func34, Try.ntmps34
  go_wp2_with fail
  go_ret
  exact ⟨rfl, rfl⟩
theorem is_some (n m : Int) (w : World) (h1 : 1 ≤ n) : Calls Try.prog 15 #[.iface 36 (.int .i64 n), .int .i64 m] w fun e w' => e = .returned (.bool (n == m)) ∧ w = w' := by
  go_enter Try.func15, Try.ntmps15
  go_wp2_with fail
  refine (num_some n _ h1).mono ?_
  rintro e w1 ⟨rfl, rfl⟩
  go_wp2_with fail
  go_ret
  exact ⟨rfl, rfl⟩
theorem is_none (m : Int) (w : World) (h1 : 1 ≤ m) : Calls Try.prog 15 #[.nilIface, .int .i64 m] w fun e w' => e = .returned (.bool false) ∧ w = w' := by
  have hz : ((0 : Int) == m) = false := by simp; omega
  go_enter Try.func15, Try.ntmps15
  go_wp2_with fail
  refine (num_none _).mono ?_
  rintro e w1 ⟨rfl, rfl⟩
  go_wp2_with fail
  go_ret
  exact ⟨rfl, rfl⟩
end Go.Proofs.Ytfhinmjpokollaa
/- Slices that lie in blocks of one type. No condition. -/
namespace Go.Proofs.Ytfhinmjpokollaa
set_option linter.unusedVariables false
set_option linter.unusedSimpArgs false
set_option linter.constructorNameAsVariable false
open Go.RowKit Go.Maps

/-- Block b has cells of type t. -/
def IsT (t : TypeId) (w : World) (b : Nat) : Prop := ∃ (cs : Array Value) (fz : Nat × Nat), w.heap[b]? = some (.cells cs t fz)
theorem IsT.fr {t : TypeId} {w w' : World} {S : Nat → Prop} {b : Nat} (h : IsT t w b) (hf : Fr S w w') (hs : ¬ S b) : IsT t w' b := by
  obtain ⟨cs, fz, hb⟩ := h
  exact ⟨cs, fz, (hf.block b (Array.getElem?_eq_some_iff.1 hb).1 hs).trans hb⟩
theorem IsT.not_blk {t t' : TypeId} {w : World} {cs : Array Value} {k : Nat} (h : Blk w k t' cs) (ht : t' ≠ t) : ¬ IsT t w k := by
  rintro ⟨cs', fz, hb⟩
  unfold Blk at h
  rw [h] at hb
  injection hb with hb
  injection hb with _ hb
  exact ht hb
theorem IsT.not_own {t : TypeId} {w : World} {base e s n k : Nat} {v : Value} {xs : List Value} (h : w.ownsRow base e s v n xs) (he : e ≠ t) (hk : v.ownBlock = some k) : ¬ IsT t w k := by
  rcases h.2 with ⟨rfl, _⟩ | ⟨g', cap, cur, rfl, _, hh, _⟩
  · cases hk
  · have : g' = k := by simpa [Value.ownBlock] using hk
    subst this
    exact IsT.not_blk hh he
theorem IsT.not_map {t : TypeId} {w : World} {P : Program} {kt : TypeId} {b n : Nat} {f : Lit → Option Value} (h : MapAt w P kt b n f) : ¬ IsT t w b := by
  rintro ⟨cs, fz, hb⟩
  obtain ⟨D, ⟨es, clock, hx, _⟩, _⟩ := h
  rw [hx] at hb
  cases hb
/-- A slice that lies in blocks of type t. -/
def RdT (t : TypeId) (w : World) (size : Nat) (A : Option Addr) (n : Nat) (xs : List Value) : Prop := Rd (IsT t w) w size A n xs
section
variable {t : TypeId} {w w' : World} {S : Nat → Prop} {size n : Nat} {A : Option Addr} {xs : List Value}
theorem RdT.fr (h : RdT t w size A n xs) (hf : Fr S w w') (hs : ∀ k, S k → ¬ IsT t w k) : RdT t w' size A n xs := by
  refine ⟨h.1, fun hn => ?_⟩
  obtain ⟨ad, e, hb, hlt, hc⟩ := h.2 hn
  have hns : ¬ S ad.block := fun hk => hs _ hk hb
  exact ⟨ad, e, hb.fr hf hns, Nat.lt_of_lt_of_le hlt hf.size, fun j u hu => by
    have := hc j u hu
    rwa [← hf.cell (p := ad.add j) (by rw [add_block]; exact hlt) (by rw [add_block]; exact hns)] at this⟩
theorem RdT.new (h : RdT t w size A n xs) (hN : New w w') : RdT t w' size A n xs := h.fr (hN.toFr NoB) (fun _ x => x.elim)
theorem RdT.own {base : Nat} {v : Value} {c : Nat} (h : w.ownsRow base t size v n xs) (hv : v = .slice A n c) : RdT t w size A n xs := by
  refine ⟨h.1, fun hn => ?_⟩
  obtain ⟨ad, e, hp, hlt, hc⟩ := (Rd.own h hv).2 hn
  refine ⟨ad, e, ?_, hlt, hc⟩
  subst hv
  rcases h.2 with ⟨h', _⟩ | ⟨g', cap', cur, h', _, hh, _⟩
  · injection h' with h'; rw [h'] at e; cases e
  · injection h' with h'
    rw [h'] at e
    injection e with e
    subst e
    exact ⟨_, _, hh⟩
theorem RdT.nil : RdT t w size A 0 [] := Rd.nil
end
end Go.Proofs.Ytfhinmjpokollaa
