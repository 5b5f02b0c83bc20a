/- Windows: Add and Answer: what the Go functions answer and what they leave. No condition. -/
import Derived.Test.YthhgepnneaehhaaWsA
import Derived.Test.YthhgepnneaehhaaApp
namespace Go.Proofs.Ythhgepnneaehhaa.Ws
open Go.Proofs.Ythhgepnneaehhaa
open Go.RowKit

theorem elS : ElemOf Try.prog 65 70 4 40 := ElemOf.mk' (z := .agg #[.int .u64 0, .string ⟨#[]⟩, .int .i64 0, .bool false]) Try.underlying65 (by kernel_rfl) rfl (by decide)

theorem add_nil (x : Value) (w : World) : Calls Try.prog 8 #[.pointer none, x] w fun e w' => e = .returned (.tuple #[.int .u64 0, .iface 46 (.int .i64 11)]) ∧ Below w.heap.size w w' := by
  go_enter Try.func8, Try.ntmps8
  go_wp2_with fail
  go_ret2
  exact ⟨rfl, Below.refl _ _⟩

theorem add_full (x : Value) (base g : Nat) (v : Value) (L : List Wt) (most next : Int) (w : World) (hW : Win w base g v L most next) (hf : most ≤ L.length) :
    Calls Try.prog 8 #[.pointer (some ⟨g, 0, none⟩), x] w fun e w' => e = .returned (.tuple #[.int .u64 0, .iface 46 (.int .i64 12)]) ∧ Below w.heap.size w w' := by
  have hd : decide (most ≤ (L.length : Int)) = true := by simpa using hf
  go_enter Try.func8, Try.ntmps8
  go_wp2_with fail
  refine (full_any base g v L most next w hW).mono ?_
  rintro e w1 ⟨rfl, hb1⟩
  go_wp2_with fail
  go_ret2
  exact ⟨rfl, hb1⟩

theorem add_any (x : ByteArray) (base g : Nat) (v : Value) (L : List Wt) (most next : Int) (w : World) (hW : Win w base g v L most next) (hf : (L.length : Int) < most) (hm : most ≤ 1024) (hn : 0 ≤ next ∧ next < 18446744073709551615) :
    Calls Try.prog 8 #[.pointer (some ⟨g, 0, none⟩), .string x] w fun e w' => e = .returned (.tuple #[.int .u64 next, .nilIface]) ∧
      ∃ v', Win w' base g v' (L ++ [⟨next, .string x, 0, false⟩]) most (next + 1) ∧ Fr (fun k => k = g ∨ v.ownBlock = some k) w w' ∧ (∀ k, v'.ownBlock = some k → v.ownBlock = some k ∨ w.heap.size ≤ k) := by
  have hd : decide (most ≤ (L.length : Int)) = false := by simpa using hf
  go_enter Try.func8, Try.ntmps8
  go_wp2_with fail
  refine (full_any base g v L most next w hW).mono ?_
  rintro e w1 ⟨rfl, hb1⟩
  have hW1 := hW.below hb1
  go_wp2_with fail
  refine (number_any base g v L most next w1 hW1 hn).mono ?_
  rintro e w2 ⟨rfl, hw2⟩
  have hB2 : Blk w2 g 67 #[v, .int .i64 most, .int .u64 (next + 1)] := by rw [hw2]; exact hW1.2.1.set 2 _
  have hF2 : Fr (fun k => k = g ∨ v.ownBlock = some k) w1 w2 := by rw [hw2]; exact (Fr.refl _ _).setCell (fun _ => Or.inl rfl) _
  have hng : ∀ k, v.ownBlock = some k → ¬ k = g := fun k hk e => own_ne hW1.2.2.1 hW1.2.1 (by decide) (by rw [hk, e])
  have hO2 : w2.ownsRow base 70 4 v L.length (flat L) := by
    refine own_fr (S := fun k => k = g) hW1.2.2.1 ?_ hng
    rw [hw2]; exact (Fr.refl (fun k => k = g) _).setCell (p := ⟨g, 2, none⟩) (fun _ => rfl) _
  clear hw2
  obtain ⟨A, c, rfl, hnc, hcm, -, -⟩ := own_shape hO2
  have h0 : w2.cell? ⟨g, 0, none⟩ = some (.slice A L.length c) := hB2.cell 0
  have hbase : base ≤ w2.heap.size := by have := hB2.lt; have := hW.1; omega
  have hlen := hW.2.2.2
  go_wp2_with (at_builtin; refine wpList_app elS _ rfl (.tmp 21) (.tmp 25) rfl base (.slice A L.length c) L.length (flat L) rfl (hO2.alloc _) (some ⟨w2.heap.size, 0, none⟩) 1 1 _ rfl (Rd.new (p := fun _ => True) w2 _ _ 4 1 rfl trivial) (by simp [Value.oneCell']) (by unfold maxLen; omega) (by omega) (by simp; omega) ?_; intro A' c' w3 hO3 hF3 hA3; have hB3 := (hB2.alloc _).fr hF3 (fun e => hng _ e rfl); have h30 := hB3.cell 0; have h31 := hB3.frozen 0)
  go_ret2
  have hnew : ∀ k, (Value.slice A' (L.length + 1) c').ownBlock = some k → ¬ k = g := fun k hk e => by
    rcases hA3 k hk with h | h
    · exact hng k h e
    · have := hB2.lt; simp at h; omega
  refine ⟨rfl, .slice A' (L.length + 1) c', ⟨hW.1, hB3.set 0 _, ?_, by simp; omega⟩, ?_, fun k hk => ?_⟩
  · rw [flat_app, flat_one, List.length_append]
    exact own_fr hO3 ((Fr.refl (fun k => k = g) _).setCell (p := ⟨g, 0, none⟩) (fun _ => rfl) _) hnew
  · refine (((Fr.ofNew hb1).trans hF2).trans' (((Fr.refl (fun k => k = g ∨ (Value.slice A L.length c).ownBlock = some k) _).alloc _).trans (hF3.mono fun b _ h => Or.inr h)) (fun _ _ h => h)).setCell (fun _ => Or.inl rfl) _
  · rcases hA3 k hk with h | h
    · exact .inl h
    · have := hF2.size; have := hb1.size; simp at h; exact .inr (by omega)

theorem answer_nil (a x : Int) (w : World) : Calls Try.prog 9 #[.pointer none, .int .u64 a, .int .i64 x] w fun e w' => e = .returned (.bool false) ∧ Below w.heap.size w w' := by
  go_enter Try.func9, Try.ntmps9
  go_wp2_with fail
  refine (place_nil a w).mono ?_
  rintro e w1 ⟨rfl, hb1⟩
  go_wp2_with fail
  go_ret
  exact ⟨rfl, hb1⟩

theorem Win.store2 {w : World} {base g b c : Nat} {L : List Wt} {most next : Int} (hW : Win w base g (.slice (some ⟨b, 0, none⟩) L.length c) L most next) {i : Nat} (hi : i < L.length) (x : Wt) (hn : x.num = L[i].num) (ht : x.thing = L[i].thing) :
    Win ((w.setCell ⟨b, i * 4 + 2, none⟩ (.int .i64 x.ans)).setCell ⟨b, i * 4 + 3, none⟩ (.bool x.done)) base g (.slice (some ⟨b, 0, none⟩) L.length c) (L.set i x) most next ∧
    Fr (fun k => (Value.slice (some ⟨b, 0, none⟩) L.length c).ownBlock = some k) w ((w.setCell ⟨b, i * 4 + 2, none⟩ (.int .i64 x.ans)).setCell ⟨b, i * 4 + 3, none⟩ (.bool x.done)) := by
  have hbg : ¬ b = g := fun e => own_ne hW.2.2.1 hW.2.1 (by decide) (by simp [Value.ownBlock, e])
  have h1 := (hW.2.2.1.stored (i * 4 + 2) (.int .i64 x.ans)).1
  have h2 := (h1.stored (i * 4 + 3) (.bool x.done)).1
  rw [flat_set L i hi x hn ht] at h2
  refine ⟨⟨hW.1, (hW.2.1.far (p := ⟨b, _, none⟩) (fun e => hbg e.symm) _).far (p := ⟨b, _, none⟩) (fun e => hbg e.symm) _, by simpa using h2, by simpa using hW.2.2.2⟩,
    ((Fr.refl (fun k => (Value.slice (some ⟨b, 0, none⟩) L.length c).ownBlock = some k) w).setCell (p := ⟨b, i * 4 + 2, none⟩) (fun _ => rfl) _).setCell (p := ⟨b, i * 4 + 3, none⟩) (fun _ => rfl) _⟩

theorem answer_any (a x : Int) (base g : Nat) (v : Value) (L : List Wt) (most next : Int) (w : World) (hW : Win w base g v L most next) :
    Calls Try.prog 9 #[.pointer (some ⟨g, 0, none⟩), .int .u64 a, .int .i64 x] w fun e w' => e = .returned (.bool (answerL L a x).2) ∧
      Win w' base g v (answerL L a x).1 most next ∧ Fr (fun k => v.ownBlock = some k) w w' := by
  have HWW := Lib.hid hW
  rcases hpl : place L a with _ | i
  · rw [answerL_none hpl]
    have hq : placeI L a = -1 := placeI_none hpl
    go_enter Try.func9, Try.ntmps9
    go_wp2_with fail
    refine (place_any base g v L most next a w hW).mono ?_
    rintro e w1 ⟨rfl, hb1⟩
    rw [hq]
    clear hq hpl
    go_wp2_with fail
    go_ret
    exact ⟨rfl, HWW.out.below hb1, Fr.ofNew hb1⟩
  · obtain ⟨hi, _⟩ := place_lt hpl
    have hq : placeI L a = i := placeI_some hpl
    obtain ⟨b, c, rfl, hnc, hcm⟩ := own_form hW.2.2.1 (by omega)
    rcases hdn : L[i].done with _ | _
    · have hfin := answerL_some (x := x) hpl hi hdn
      have HF := Lib.hid hfin
      have HP := Lib.hid hpl
      clear hfin hpl
      go_enter Try.func9, Try.ntmps9
      go_wp2_with fail
      refine (place_any base g _ L most next a w hW).mono ?_
      rintro e w1 ⟨rfl, hb1⟩
      rw [hq]
      clear hq
      have hW1 := hW.below hb1
      have hO1 := hW1.2.2.1
      have h0 : w1.cell? ⟨g, 0, none⟩ = some (.slice (some ⟨b, 0, none⟩) L.length c) := hW1.2.1.cell 0
      have hd : w1.cell? ⟨b, i * 4 + 3, none⟩ = some (.bool false) := by rw [hO1.cellAt (i * 4 + 3) (by omega), flat_get L i 3 hi (by omega)]; simp [Wt.cells, hdn]
      have ha : w1.cell? ⟨b, i * 4 + 2, none⟩ = some (.int .i64 L[i].ans) := by rw [hO1.cellAt (i * 4 + 2) (by omega), flat_get L i 2 hi (by omega)]; rfl
      have hf2 : w1.frozen? ⟨b, i * 4 + 2, none⟩ = false := hO1.frozenAt _
      have hf3 : w1.frozen? ⟨b, i * 4 + 3, none⟩ = false := hO1.frozenAt _
      have hbg : ¬ b = g := fun e => own_ne hW1.2.2.1 hW1.2.1 (by decide) (by simp [Value.ownBlock, e])
      have hO := Lib.hid hO1
      clear hO1
      have hH := Lib.hid hdn
      clear hdn
      have hW' := Lib.hid hW
      clear hW
      have hW1' := Lib.hid hW1
      clear hW1
      go_wp2_with fail
      go_region
      go_wp2_with fail
      go_ret
      have R := hW1'.out.store2 hi ⟨L[i].num, L[i].thing, x, true⟩ rfl rfl
      rw [HF.out]
      exact ⟨rfl, R.1, ((Fr.ofNew hb1).trans R.2).drew⟩
    · have hfin := answerL_done (x := x) hpl hi hdn
      have HF := Lib.hid hfin
      have HP := Lib.hid hpl
      clear hfin hpl
      go_enter Try.func9, Try.ntmps9
      go_wp2_with fail
      refine (place_any base g _ L most next a w hW).mono ?_
      rintro e w1 ⟨rfl, hb1⟩
      rw [hq]
      clear hq
      have hW1 := hW.below hb1
      have hO1 := hW1.2.2.1
      have h0 : w1.cell? ⟨g, 0, none⟩ = some (.slice (some ⟨b, 0, none⟩) L.length c) := hW1.2.1.cell 0
      have hd : w1.cell? ⟨b, i * 4 + 3, none⟩ = some (.bool true) := by rw [hO1.cellAt (i * 4 + 3) (by omega), flat_get L i 3 hi (by omega)]; simp [Wt.cells, hdn]
      have hO := Lib.hid hO1
      clear hO1
      have hH := Lib.hid hdn
      clear hdn
      have hW1' := Lib.hid hW1
      clear hW1 hW
      go_wp2_with fail
      go_ret
      rw [HF.out]
      exact ⟨rfl, hW1'.out, Fr.ofNew hb1⟩
end Go.Proofs.Ythhgepnneaehhaa.Ws
