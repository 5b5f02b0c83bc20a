/- Timers: what nil ones answer, and the chapter's example. No condition. -/
import Derived.Test.YtbgjoohnognagaaTmC
namespace Go.Proofs.Ytbgjoohnognagaa
open Go.RowKit

theorem drop_nil (a : Int) (w : World) : Calls Try.prog 15 #[.pointer none, .int .u64 a] w fun e w' => e = .returned (.bool false) ∧ New w w' := by
  go_enter Try.func15, Try.ntmps15
  go_wp2_with fail
  refine (place_nil a w).mono ?_
  rintro e w1 ⟨rfl, hb1⟩
  go_wp2_with fail
  go_ret
  exact ⟨rfl, hb1⟩
theorem stop_nil (a now : Int) (w : World) : Calls Try.prog 14 #[.pointer none, .int .u64 a, .int .i64 now] w fun e w' => e = .returned (.bool false) ∧ New w w' := by
  go_enter Try.func14, Try.ntmps14
  go_wp2_with fail
  refine (place_nil a w).mono ?_
  rintro e w1 ⟨rfl, hb1⟩
  go_wp2_with fail
  go_ret
  exact ⟨rfl, hb1⟩
theorem next_nil (w : World) : Calls Try.prog 12 #[.pointer none] w fun e w' => e = .returned (.tuple #[.int .i64 0, .bool false]) ∧ w = w' := by
  go_enter Try.func12, Try.ntmps12
  go_wp2_with fail
  go_ret2
  exact ⟨rfl, rfl⟩

theorem tickR_nan (least most : Int) (h1 : 1 ≤ least) (h2 : least ≤ most) (h3 : most ≤ 65536) : TickR 9221120237041090561 least most least := by
  refine ⟨fun x hx => ?_, Int.le_refl _, h2⟩
  have hf : floatBits .mul .f64 4611686018427387904 9221120237041090561 = none := by decide +kernel
  have hn : nanB x = true := by have := hx.2; rw [hf] at this; exact this
  exact ticks_nan x least most hx.1 hn (by omega) (by omega)

/-- Due, its answer known. -/
theorem due_at (base g : Nat) (v : Value) (L L' : List Rn) (ag la : List Int) (n m : Nat) (least most limit : Int) (mean : Nat) (now : Int) (w : World) (hT : Tm w base g v L least most limit mean) (hF : ∀ r ∈ L, r.Fair) (h3 : most ≤ 65536) (h0 : 1 ≤ most)
    (hd : dues (tickZ now) most limit L = ⟨L', ag, la⟩) (hn : ag.length = n) (hm : la.length = m) :
    Calls Try.prog 9 #[.pointer (some ⟨g, 0, none⟩), .int .i64 now] w fun e w' => ∃ Aa ca At ct vl, e = .returned (.tuple #[.slice Aa n ca, .slice At m ct]) ∧ Tm w' base g vl L' least most limit mean ∧
      w'.ownsRow w.heap.size 31 1 (.slice Aa n ca) n (u64s ag) ∧ w'.ownsRow w.heap.size 31 1 (.slice At m ct) m (u64s la) ∧ Fr (fun k => k = g) w w' ∧ (∀ k, vl.ownBlock = some k → w.heap.size ≤ k) := by
  subst hn hm
  refine (due_any base g v L least most limit mean now w hT hF h3 h0).mono ?_
  rw [hd]
  rintro e w' ⟨va, vt, vl, rfl, h1, h2, h4, h5, h6⟩
  obtain ⟨Aa, ca, rfl, -, -, -, -⟩ := own_shape h2
  obtain ⟨At, ct, rfl, -, -, -, -⟩ := own_shape h4
  exact ⟨Aa, ca, At, ct, vl, rfl, h1, h2, h4, h5, h6⟩

def run0 : List Rn := [⟨5, 0, 2, 2, 1⟩]
def run1 : List Rn := [⟨5, 0, 6, 4, 2⟩]
def run2 : List Rn := [⟨5, 0, 14, 8, 3⟩]
theorem run0_fair : ∀ r ∈ run0, r.Fair := by intro r hr; obtain rfl : r = _ := (by simpa [run0] using hr); exact ⟨by decide, by decide, by decide, by decide, by decide, by decide, by decide, by decide⟩
theorem run1_fair : ∀ r ∈ run1, r.Fair := by intro r hr; obtain rfl : r = _ := (by simpa [run1] using hr); exact ⟨by decide, by decide, by decide, by decide, by decide, by decide, by decide, by decide⟩
theorem run2_fair : ∀ r ∈ run2, r.Fair := by intro r hr; obtain rfl : r = _ := (by simpa [run2] using hr); exact ⟨by decide, by decide, by decide, by decide, by decide, by decide, by decide, by decide⟩
theorem due_2 : dues (tickZ 2) 8 3 run0 = ⟨run1, [5], []⟩ := by rfl
theorem due_6 : dues (tickZ 6) 8 3 run1 = ⟨run2, [5], []⟩ := by rfl
theorem due_13 : dues (tickZ 13) 8 3 run2 = ⟨run2, [], []⟩ := by rfl
theorem due_14 : dues (tickZ 14) 8 3 run2 = ⟨[], [], [5]⟩ := by rfl
theorem own_one {w : World} {base e c : Nat} {A : Option Addr} {x : Value} (h : w.ownsRow base e 1 (.slice A 1 c) 1 [x]) : ∃ g, A = some ⟨g, 0, none⟩ ∧ g < w.heap.size ∧ w.cell? ⟨g, 0, none⟩ = some x := by
  obtain ⟨g, cap, he, _, _⟩ := own_form h (by omega)
  injection he with he
  subst he
  exact ⟨g, rfl, (own_lt h g rfl).2, h.cellAt 0 (by omega)⟩
theorem tm_new {w w' : World} {base g : Nat} {v : Value} {L : List Rn} {least most limit : Int} {mean : Nat} (h : Tm w base g v L least most limit mean) {W : World} (hn : New W w) (hg : W.heap.size ≤ g) (hf : Fr (fun k => k = g) w w') : New W w' :=
  hn.fr hf (fun k hk => by omega)

def runs (k : Nat) : List Rn := match k with | 0 => run0 | 1 => run1 | _ => run2

set_option maxHeartbeats 2000000 in
theorem alive_any (w : World) : Calls Try.prog 6 #[] w fun e w' => e = .returned (.bool true) ∧ New w w' := by
  go_enter Try.func6, Try.ntmps6
  go_wp2_with fail
  refine (new_any 2 8 3 w.heap.size w (by omega) (by omega) (by omega) (by omega) (by omega) (Nat.le_refl _)).mono ?_
  rintro e w1 ⟨rfl, hT1, hN1⟩
  have HT1 := Lib.hid hT1
  have HN1 : Hid (New w w1) := Lib.hid hN1
  clear hT1 hN1
  go_wp2_with fail
  refine (start_yes w.heap.size w.heap.size (.slice none 0 0) [] 2 8 3 9221120237041090561 5 0 2 w1 HT1.out rfl (tickR_nan 2 8 (by omega) (by omega) (by omega)) (by omega) (by omega) (by simp)).mono ?_
  rintro e w2 ⟨rfl, v2, hT2, hF2, hA2⟩
  have HN2 : Hid (New w w2) := Lib.hid (HN1.out.fr hF2 (fun k hk => by
    rcases hk with rfl | hk
    · exact Nat.le_refl _
    · cases hk))
  have HT2 : Hid (Tm w2 w.heap.size w.heap.size v2 run0 2 8 3 9221120237041090561) := Lib.hid hT2
  clear hT2 hF2 hA2
  go_wp2_with fail
  obtain ⟨w3, hw3⟩ : ∃ w3 : World, w3 = w2.alloc (.cells #[.int .i64 2, .int .i64 6] 3) := ⟨_, rfl⟩
  have hBs : Blk w3 w2.heap.size 3 #[.int .i64 2, .int .i64 6] := by rw [hw3]; exact Blk.new _ _ _
  have HN3 : Hid (New w2 w3) := Lib.hid (by rw [hw3]; exact New.al (New.refl _) _)
  rw [← hw3]
  clear hw3
  have HBs := Lib.hid hBs
  clear hBs
  have HT3 := Lib.hid (HT2.out.new HN3.out)
  have hg2 := HT2.out.2.1.lt
  go_loopw [24] (fun i wr => ∃ (k : Nat) (v : Value), k ≤ 2 ∧ i = .int .i64 k ∧ Hid (Tm wr w.heap.size w.heap.size v (runs k) 2 8 3 9221120237041090561) ∧ Hid (Blk wr w2.heap.size 3 #[.int .i64 2, .int .i64 6]) ∧ Hid (New w wr)) (fun i _ => 2 - (intOf i).toNat)
  case atStart => exact ⟨0, v2, by omega, rfl, HT3, HBs, Lib.hid (HN2.out.tr HN3.out)⟩
  case round =>
    obtain ⟨k, v, hk, rfl, HT, HB, HN⟩ := hrel
    rcases (show k = 0 ∨ k = 1 ∨ k = 2 by omega) with rfl | rfl | rfl
    · have i0 : wr.cell? ⟨w2.heap.size, 0, none⟩ = some (.int .i64 2) := HB.out.cell 0
      go_wp2_with (go_at_call 9; refine (due_at w.heap.size w.heap.size v run0 run1 [5] [] 1 0 2 8 3 9221120237041090561 2 wr HT.out run0_fair (by omega) (by omega) due_2 rfl rfl).mono ?_; rintro e w4 ⟨Aa, ca, At, ct, vl, rfl, hT4, hOa, hOt, hF4, hvl⟩; obtain ⟨ga, rfl, -, hca⟩ := own_one hOa; have HT4 := Lib.hid hT4; have HF4 := Lib.hid hF4; have HB4 := Lib.hid (HB.out.fr hF4 (by omega)); clear hT4 hOa hOt hF4 hvl)
      go_roundw
      case rel => exact ⟨1, vl, by omega, by go_num, HT4, HB4, Lib.hid (tm_new HT.out HN.out (Nat.le_refl _) HF4.out)⟩
      case measure => simp [intOf]
    · have i1 : wr.cell? ⟨w2.heap.size, 1, none⟩ = some (.int .i64 6) := HB.out.cell 1
      go_wp2_with (go_at_call 9; refine (due_at w.heap.size w.heap.size v run1 run2 [5] [] 1 0 2 8 3 9221120237041090561 6 wr HT.out run1_fair (by omega) (by omega) due_6 rfl rfl).mono ?_; rintro e w4 ⟨Aa, ca, At, ct, vl, rfl, hT4, hOa, hOt, hF4, hvl⟩; obtain ⟨ga, rfl, -, hca⟩ := own_one hOa; have HT4 := Lib.hid hT4; have HF4 := Lib.hid hF4; have HB4 := Lib.hid (HB.out.fr hF4 (by omega)); clear hT4 hOa hOt hF4 hvl)
      go_roundw
      case rel => exact ⟨2, vl, by omega, by go_num, HT4, HB4, Lib.hid (tm_new HT.out HN.out (Nat.le_refl _) HF4.out)⟩
      case measure => simp [intOf]
    · go_wp2_with fail
      refine (due_at w.heap.size w.heap.size v run2 run2 [] [] 0 0 2 8 3 9221120237041090561 13 wr HT.out run2_fair (by omega) (by omega) due_13 rfl rfl).mono ?_
      rintro e w4 ⟨Aa, ca, At, ct, vl, rfl, hT4, hOa, hOt, hF4, hvl⟩
      have HT4 := Lib.hid hT4
      have HN4 : Hid (New w w4) := Lib.hid (tm_new HT.out HN.out (Nat.le_refl _) hF4)
      clear hT4 hOa hOt hF4 hvl
      go_wp2_with fail
      refine (due_at w.heap.size w.heap.size vl run2 [] [] [5] 0 1 2 8 3 9221120237041090561 14 w4 HT4.out run2_fair (by omega) (by omega) due_14 rfl rfl).mono ?_
      rintro e w5 ⟨Ab, cb, Au, cu, vm, rfl, hT5, hOb, hOu, hF5, hvm⟩
      obtain ⟨gu, rfl, -, hcu⟩ := own_one hOu
      have HT5 := Lib.hid hT5
      have HN5 : Hid (New w w5) := Lib.hid (tm_new HT4.out HN4.out (Nat.le_refl _) hF5)
      clear hT5 hOb hOu hF5 hvm
      go_wp2_with (go_at_call 10; refine (len_any w.heap.size w.heap.size vm [] 2 8 3 9221120237041090561 w5 HT5.out).mono ?_; rintro e w6 ⟨rfl, rfl⟩)
      go_ret
      exact ⟨rfl, HN5.out⟩

set_option maxHeartbeats 2000000 in
theorem nil_law (a : Int) (ha : (Lit.int .u64 a).wf = true) (now : Int) (hn : (Lit.int .i64 now).wf = true) (w : World) :
    Calls Try.prog 4 #[.int .u64 a, .int .i64 now] w fun e w' => e = .returned (.bool true) ∧ Below w.heap.size w w' := by
  clear ha hn
  go_enter Try.func4, Try.ntmps4
  go_wp2_with fail
  refine (alive_any w).mono ?_
  rintro e w1 ⟨rfl, hN1⟩
  have HN1 : Hid (New w w1) := Lib.hid hN1
  clear hN1
  have ho : FloatKind.f64.format.order 9221120237041090561 9221120237041090561 = none := by decide +kernel
  go_wp2_with (first
    | (go_at_call 9; refine (due_nil now _).mono ?_; rintro e w2 ⟨rfl, hN2⟩; have HN2 : Hid (New w1 w2) := Lib.hid hN2; clear hN2)
    | (go_at_call 12; refine (next_nil _).mono ?_; rintro e w3 ⟨rfl, rfl⟩)
    | (go_at_call 13; refine (mean_nil _).mono ?_; rintro e w3 ⟨rfl, rfl⟩)
    | (go_at_call 8; refine (start_nil a now _).mono ?_; rintro e w3 ⟨rfl, hN3⟩; have HN3 : Hid (New w2 w3) := Lib.hid hN3; clear hN3)
    | (go_at_call 14; refine (stop_nil a now _).mono ?_; rintro e w4 ⟨rfl, hN4⟩; have HN4 : Hid (New w3 w4) := Lib.hid hN4; clear hN4)
    | (go_at_call 15; refine (drop_nil a _).mono ?_; rintro e w5 ⟨rfl, hN5⟩; have HN5 : Hid (New w4 w5) := Lib.hid hN5; clear hN5)
    | (go_at_call 16; refine (interval_nil _).mono ?_; rintro e w6 ⟨rfl, hN6⟩; have HN6 : Hid (New w5 w6) := Lib.hid hN6; clear hN6)
    | (go_at_call 10; refine (len_nil _).mono ?_; rintro e w7 ⟨rfl, rfl⟩)
    | (go_at_call 11; refine (sent_nil a _).mono ?_; rintro e w7 ⟨rfl, hN7⟩; have HN7 : Hid (New w6 w7) := Lib.hid hN7; clear hN7))
  go_ret
  exact ⟨rfl, ((((((HN1.out.tr HN2.out).tr HN3.out).tr HN4.out).tr HN5.out).tr HN6.out).tr HN7.out)⟩
end Go.Proofs.Ytbgjoohnognagaa
