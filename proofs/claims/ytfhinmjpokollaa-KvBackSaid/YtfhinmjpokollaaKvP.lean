/- Changes: in memory, in plain words; which are right. No condition but that they can be read. -/
import Derived.Test.YtfhinmjpokollaaBytes
import Derived.Test.YtfhinmjpokollaaMap
import Derived.Test.YtfhinmjpokollaaNew
import Derived.Test.YtfhinmjpokollaaWhole
import Derived.Test.YtfhinmjpokollaaRow
import Derived.Test.YtfhinmjpokollaaQb
import Derived.StringKeys
namespace Go.Proofs.Ytfhinmjpokollaa
set_option linter.unusedVariables false
set_option linter.unusedSimpArgs false
set_option linter.constructorNameAsVariable false
open Go.RowKit Go.Maps

/-- Bytes: where they lie, and what they are. -/
structure Fm where
  A : Option Addr
  n : Nat
  c : Nat
  xs : List Int
def Fm.val (x : Fm) : Value := .slice x.A x.n x.c
structure Fm.In (P : Nat → Prop) (w : World) (x : Fm) : Prop where
  rd : Rd P w 1 x.A x.n (u8s x.xs)
  byt : Byt x.xs
theorem Fm.In.len {P : Nat → Prop} {w : World} {x : Fm} (h : x.In P w) : x.xs.length = x.n := by have := h.rd.1; rw [u8s_len] at this; omega
/-- A change. -/
structure Ch where
  k : Fm
  v : Fm
  d : Bool
def Ch.cells (c : Ch) : List Value := [.slice c.k.A c.k.n c.k.c, .slice c.v.A c.v.n c.v.c, .bool c.d]
structure Ch.In (P : Nat → Prop) (w : World) (c : Ch) : Prop where
  k : c.k.In P w
  v : c.v.In P w
theorem Ch.In.new {P : Nat → Prop} {w w' : World} {c : Ch} (h : c.In P w) (hN : New w w') : c.In P w' := ⟨⟨hN.rd h.k.rd, h.k.byt⟩, ⟨hN.rd h.v.rd, h.v.byt⟩⟩
def chOk (c : Ch) : Bool := decide (1 ≤ c.k.n) && decide (c.k.n ≤ 16) && decide (c.v.n ≤ 16384) && !(c.d && decide (0 < c.v.n))
def chsOk (L : List Ch) : Bool := decide (1 ≤ L.length) && decide (L.length ≤ 600) && L.all chOk

theorem rb {a b : Bool} (h : a = b) : Ending.returned (.bool a) = Ending.returned (.bool b) := by rw [h]
theorem right_any (c : Ch) (w : World) (hk : c.k.n ≤ maxLen) (hv : c.v.n ≤ maxLen) : Calls Try.prog 37 #[.agg c.cells.toArray] w fun e w' => e = .returned (.bool (chOk c)) ∧ New w w' := by
  obtain ⟨⟨kA, kn, kc, ks⟩, ⟨vA, vn, vc, vs⟩, d⟩ := c
  unfold maxLen at hk hv
  dsimp only at hk hv
  unfold Ch.cells
  dsimp only
  go_enter Try.func37, Try.ntmps37
  go_wp2_with fail
  all_goals
    go_ret
    refine ⟨rb ?_, New.al (New.refl _) _⟩
    try subst d
    unfold chOk
    dsimp only
    first
      | (rw [decide_eq_true (by omega : 1 ≤ kn), decide_eq_true (by omega : kn ≤ 16), decide_eq_true (by omega : vn ≤ 16384)]; simp; done)
      | (rw [decide_eq_true (by omega : 1 ≤ kn), decide_eq_true (by omega : kn ≤ 16), decide_eq_false (by omega : ¬ vn ≤ 16384)]; simp; done)
      | (rw [decide_eq_true (by omega : 1 ≤ kn), decide_eq_false (by omega : ¬ kn ≤ 16)]; simp; done)
      | (rw [decide_eq_false (by omega : ¬ 1 ≤ kn)]; simp; done)
theorem odd_any (c : Ch) (w : World) (hk : c.k.n ≤ maxLen) (hv : c.v.n ≤ maxLen) : Calls Try.prog 36 #[.agg c.cells.toArray] w fun e w' => e = .returned (.bool (!chOk c)) ∧ New w w' := by
  have hr := fun w => right_any c w hk hv
  obtain ⟨b, hb⟩ : ∃ b, b = chOk c := ⟨_, rfl⟩
  rw [← hb] at hr ⊢
  have HR := Lib.hid hr
  clear hb hr
  obtain ⟨⟨kA, kn, kc, ks⟩, ⟨vA, vn, vc, vs⟩, d⟩ := c
  clear hk hv
  unfold Ch.cells at HR ⊢
  dsimp only at HR ⊢
  go_enter Try.func36, Try.ntmps36
  go_wp2_with fail
  refine (HR.out _).mono ?_
  rintro e w1 ⟨rfl, hN1⟩
  have HN1 := Lib.hid hN1
  clear hN1
  go_wp2_with fail
  go_ret
  exact ⟨rfl, (New.al (New.refl _) _).tr HN1.out⟩
/-- What IndexFunc answers: below 0 just where all are right. -/
def IdxSays (L : List Ch) (e : Ending) : Prop := ∃ r : Int, e = .returned (.int .i64 r) ∧ (L.all chOk = true → r = -1) ∧ (L.all chOk = false → 0 ≤ r)
theorem all_take {L : List Ch} {k : Nat} (h : k < L.length) : (L.take (k + 1)).all chOk = ((L.take k).all chOk && chOk L[k]) := by
  rw [List.take_succ_eq_append_getElem h, List.all_append]
  simp
set_option maxRecDepth 100000 in
set_option maxHeartbeats 2000000 in
theorem ifunc_any {P : Nat → Prop} (A : Option Addr) (n c : Nat) (L : List Ch) (w : World) (h : Rd P w 3 A n (L.flatMap Ch.cells)) (hL : L.length = n) (hn : n ≤ 100000000) (hb : ∀ c ∈ L, c.k.n ≤ maxLen ∧ c.v.n ≤ maxLen) :
    Calls Try.prog 61 #[.slice A n c, .func (.func 36) #[] #[]] w fun e w' => IdxSays L e ∧ New w w' := by
  have HR := Lib.hid h
  have HL := Lib.hid hL
  have HB := Lib.hid hb
  clear h hL hb
  go_enter Try.func61, Try.ntmps61
  go_wp2_with fail
  go_loopw [8] (fun i wr => ∃ j : Nat, j ≤ n ∧ i = .int .i64 j ∧ Hid ((L.take j).all chOk = true) ∧ Hid (New w wr)) (fun i _ => n - (intOf i).toNat)
  case atStart => exact ⟨0, Nat.zero_le _, rfl, Lib.hid (by simp), Lib.hid (New.refl w)⟩
  case round =>
    obtain ⟨j, hj, rfl, HS, HN⟩ := hrel
    by_cases hlt : j < n
    · as_aux_lemma =>
      obtain ⟨g, o, hl, rfl, -, -, hrg⟩ := rd_row (f := Ch.cells) (L := L) (fun _ => rfl) (by omega) (HN.out.rd HR.out) hlt
      have c0 : wr.cell? ⟨g, o + j * 3, none⟩ = some (.slice L[j].k.A L[j].k.n L[j].k.c) := hrg 0 _ rfl
      have c1 : wr.cell? ⟨g, o + j * 3 + 1, none⟩ = some (.slice L[j].v.A L[j].v.n L[j].v.c) := hrg 1 _ rfl
      have c2 : wr.cell? ⟨g, o + j * 3 + 2, none⟩ = some (.bool L[j].d) := hrg 2 _ rfl
      have hbd := HB.out L[j] (List.getElem_mem _)
      have HO := Lib.hid (fun w => odd_any L[j] w hbd.1 hbd.2)
      have hst := all_take hl
      have hmem : L[j] ∈ L := List.getElem_mem _
      generalize L[j] = x at c0 c1 c2 HO hst hmem
      obtain ⟨⟨kA, kn, kc, ks⟩, ⟨vA, vn, vc, vs⟩, d⟩ := x
      unfold Ch.cells at HO
      dsimp only at c0 c1 c2 HO
      have HST := Lib.hid hst
      have HM := Lib.hid hmem
      have hj0 : (0 : Int) ≤ (j : Int) := by omega
      have hjn : (j : Int) < (n : Int) := by omega
      clear hrg hl hst hbd hmem
      go_wp2_with fail
      refine (HO.out _).mono ?_
      rintro e w1 ⟨rfl, hN1⟩
      have HN1 := Lib.hid (HN.out.tr hN1)
      clear hN1 HO c0 c1 c2
      cases hok : chOk ⟨⟨kA, kn, kc, ks⟩, ⟨vA, vn, vc, vs⟩, d⟩
      · have HOK := Lib.hid hok
        clear hok
        go_wp2_with fail
        go_ret
        refine ⟨⟨j, rfl, fun h => ?_, fun _ => by omega⟩, HN1.out⟩
        have := List.all_eq_true.1 h _ HM.out
        rw [HOK.out] at this
        cases this
      · have HOK := Lib.hid hok
        clear hok
        go_wp2_with fail
        go_roundw
        case rel => exact ⟨j + 1, by omega, by go_num, Lib.hid (by rw [HST.out, HS.out, HOK.out]; rfl), HN1⟩
        case measure => simp [intOf]; omega
    · as_aux_lemma =>
      obtain rfl : j = n := by omega
      go_wp2_with fail
      go_ret
      have hs := HS.out
      rw [List.take_of_length_le (by rw [HL.out]; exact Nat.le_refl _)] at hs
      exact ⟨⟨-1, rfl, fun _ => rfl, fun h => by rw [hs] at h; cases h⟩, HN.out⟩
theorem cfunc_any {P : Nat → Prop} (A : Option Addr) (n c : Nat) (L : List Ch) (w : World) (h : Rd P w 3 A n (L.flatMap Ch.cells)) (hL : L.length = n) (hn : n ≤ 100000000) (hb : ∀ c ∈ L, c.k.n ≤ maxLen ∧ c.v.n ≤ maxLen) :
    Calls Try.prog 38 #[.slice A n c, .func (.func 36) #[] #[]] w fun e w' => e = .returned (.bool (!L.all chOk)) ∧ New w w' := by
  have HI := Lib.hid (ifunc_any A n c L w h hL hn hb)
  clear h hL hb hn
  go_enter Try.func38, Try.ntmps38
  go_wp2_with fail
  refine HI.out.mono ?_
  rintro e w1 ⟨⟨r, rfl, h1, h2⟩, hN1⟩
  have HN1 := Lib.hid hN1
  have H1 := Lib.hid h1
  have H2 := Lib.hid h2
  clear hN1 h1 h2 HI
  go_wp2_with fail
  go_ret
  refine ⟨rb ?_, HN1.out⟩
  cases ha : L.all chOk
  · have := H2.out ha
    simp; omega
  · have := H1.out ha
    simp; omega
theorem rights_any {P : Nat → Prop} (A : Option Addr) (n c : Nat) (L : List Ch) (w : World) (h : Rd P w 3 A n (L.flatMap Ch.cells)) (hL : L.length = n) (hn : n ≤ 100000000) (hb : ∀ c ∈ L, c.k.n ≤ maxLen ∧ c.v.n ≤ maxLen) :
    Calls Try.prog 17 #[.slice A n c] w fun e w' => e = .returned (.bool (chsOk L)) ∧ New w w' := by
  have HC := Lib.hid (fun (w' : World) (hN : New w w') => cfunc_any A n c L w' (hN.rd h) hL hn hb)
  clear h hb
  have HL := Lib.hid hL
  clear hL
  go_enter Try.func17, Try.ntmps17
  go_wp2_with fail
  · refine (HC.out _ (New.refl _)).mono ?_
    rintro e w1 ⟨rfl, hN1⟩
    have HN1 := Lib.hid hN1
    clear hN1 HC
    obtain ⟨b, hb⟩ : ∃ b, b = L.all chOk := ⟨_, rfl⟩
    rw [← hb]
    have HBB := Lib.hid hb
    clear hb
    go_wp2_with fail
    go_ret
    refine ⟨rb ?_, HN1.out⟩
    unfold chsOk
    rw [HL.out, ← HBB.out, decide_eq_true (by omega : 1 ≤ n), decide_eq_true (by omega : n ≤ 600)]
    simp
  all_goals
    go_ret
    refine ⟨rb ?_, New.refl _⟩
    unfold chsOk
    rw [HL.out]
    first
      | (rw [decide_eq_true (by omega : 1 ≤ n), decide_eq_false (by omega : ¬ n ≤ 600)]; simp; done)
      | (rw [decide_eq_false (by omega : ¬ 1 ≤ n)]; simp; done)
end Go.Proofs.Ytfhinmjpokollaa
