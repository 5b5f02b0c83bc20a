/- The reference: which changes are right, a table's size. No condition but that they can be read. -/
import Derived.Test.YtfhinmjpokollaaKvJ
namespace Go.Proofs.Ytfhinmjpokollaa
set_option linter.unusedVariables false
set_option linter.unusedSimpArgs false
set_option linter.constructorNameAsVariable false
open Go.RowKit Go.Maps Go.Sort

theorem chs_bad {L : List Ch} {x : Ch} (h : x ∈ L) (hx : chOk x = false) : chsOk L = false := by
  unfold chsOk
  have : L.all chOk = false := by
    cases ha : L.all chOk with
    | false => rfl
    | true => have := List.all_eq_true.1 ha _ h; rw [hx] at this; cases this
  rw [this]
  simp
set_option maxRecDepth 100000 in
set_option maxHeartbeats 2000000 in
theorem rright_any {P : Nat → Prop} (A : Option Addr) (n c : Nat) (L : List Ch) (w : World) (h : Rd P w 3 A n (L.flatMap Ch.cells)) (hL : L.length = n) (hn : n ≤ 100000000) (hb : ∀ c ∈ L, c.k.n ≤ maxLen ∧ c.v.n ≤ maxLen) :
    Calls Try.prog 14 #[.slice A n c] w fun e w' => e = .returned (.bool (chsOk L)) ∧ w = w' := by
  have HR := Lib.hid h
  have HL := Lib.hid hL
  have HB := Lib.hid hb
  clear h hL hb
  go_enter Try.func14, Try.ntmps14
  go_wp2_with fail
  go_loopw [3] (fun i wr => ∃ j : Nat, j ≤ n ∧ i = .int .i64 j ∧ Hid ((L.take j).all chOk = true) ∧ wr = w) (fun i _ => n - (intOf i).toNat)
  case atStart => exact ⟨0, Nat.zero_le _, rfl, Lib.hid (by simp), rfl⟩
  case round =>
    obtain ⟨j, hj, rfl, HS, rfl⟩ := hrel
    by_cases hlt : j < n
    · as_aux_lemma =>
      obtain ⟨g, o, hl, rfl, -, -, hrg⟩ := rd_row (f := Ch.cells) (L := L) (fun _ => rfl) (by omega) HR.out hlt
      have c0 : wr.cell? ⟨g, o + j * 3, none⟩ = some (.slice L[j].k.A L[j].k.n L[j].k.c) := hrg 0 _ rfl
      have c1 : wr.cell? ⟨g, o + j * 3 + 1, none⟩ = some (.slice L[j].v.A L[j].v.n L[j].v.c) := hrg 1 _ rfl
      have c2 : wr.cell? ⟨g, o + j * 3 + 2, none⟩ = some (.bool L[j].d) := hrg 2 _ rfl
      have hbd := HB.out L[j] (List.getElem_mem _)
      have hst := all_take hl
      have hmem : L[j] ∈ L := List.getElem_mem _
      generalize L[j] = x at c0 c1 c2 hst hmem hbd
      obtain ⟨⟨kA, kn, kc, ks⟩, ⟨vA, vn, vc, vs⟩, d⟩ := x
      dsimp only at c0 c1 c2 hbd
      have HST := Lib.hid hst
      have HM := Lib.hid hmem
      have hj0 : (0 : Int) ≤ (j : Int) := by omega
      have hjn : (j : Int) < (n : Int) := by omega
      obtain ⟨hb1, hb2⟩ := hbd
      unfold maxLen at hb1 hb2
      clear hrg hl hst hmem
      go_wp2_with fail
      all_goals first
        | (go_roundw
           case rel =>
             refine ⟨j + 1, by omega, by go_num, Lib.hid ?_, trivial⟩
             rw [HST.out, HS.out]
             try subst d
             simp [chOk]
             omega
           case measure => simp [intOf]; omega)
        | (go_ret
           refine ⟨rb ?_, rfl⟩
           refine (chs_bad HM.out ?_).symm
           try subst d
           simp [chOk]
           omega)
    · as_aux_lemma =>
      obtain rfl : j = n := by omega
      have hn0 : (0 : Int) ≤ (j : Int) := by omega
      go_wp2_with fail
      all_goals
        go_ret
        refine ⟨rb ?_, rfl⟩
        have hL := HL.out
        have hs := HS.out
        rw [← hL, List.take_length] at hs
        unfold chsOk
        rw [hs, hL, Bool.and_true]
        by_cases h1 : 1 ≤ j <;> by_cases h2 : j ≤ 600
        all_goals
          first
            | (exfalso; omega)
            | (simp [h1, h2]; done)
            | (simp [h1, h2]; omega)
            | (simp; omega)
end Go.Proofs.Ytfhinmjpokollaa
