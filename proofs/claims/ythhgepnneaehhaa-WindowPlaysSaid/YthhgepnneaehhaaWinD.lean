/- Windows: New, Renew, Get. No condition. -/
import Derived.Test.YthhgepnneaehhaaWinC
namespace Go.Proofs.Ythhgepnneaehhaa.Wi
open Go.Proofs.Ythhgepnneaehhaa
open Go.RowKit

theorem new_bad (m : Int) (w : World) (h : m < 1 ∨ 1024 < m) : Calls Try.prog 12 #[.int .i64 m] w fun e w' => e = .returned (.tuple #[.pointer none, .iface 46 (.int .i64 1)]) ∧ w = w' := by
  by_cases h1 : m < 1
  · go_enter Try.func12, Try.ntmps12
    go_wp2_with fail
    go_ret2
    exact ⟨rfl, rfl⟩
  · have h2 : 1024 < m := by omega
    clear h
    go_enter Try.func12, Try.ntmps12
    go_wp2_with fail
    go_ret2
    exact ⟨rfl, rfl⟩
theorem new_any (m : Int) (base : Nat) (w : World) (h1 : 1 ≤ m) (h2 : m ≤ 1024) (hb : base ≤ w.heap.size) : Calls Try.prog 12 #[.int .i64 m] w fun e w' => e = .returned (.tuple #[.pointer (some ⟨w.heap.size, 0, none⟩), .nilIface]) ∧
    Win w' base w.heap.size (.slice none 0 0) [] m 0 ∧ Below w.heap.size w w' := by
  go_enter Try.func12, Try.ntmps12
  go_wp2_with fail
  go_ret2
  exact ⟨rfl, ⟨hb, Blk.new _ _ _, World.ownsRow_nil _ _ _ _, Nat.zero_le _⟩, (Below.refl _ _).alloc (Nat.le_refl _) _⟩

theorem get_nil (a : Int) (w : World) : Calls Try.prog 23 #[.pointer none, .int .u64 a] w fun e w' => e = .returned (.tuple #[.int .i64 0, .bool false]) ∧ Below w.heap.size w w' := by
  go_enter Try.func23, Try.ntmps23
  go_wp2_with fail
  refine (place_nil a w).mono ?_
  rintro e w1 ⟨rfl, hb1⟩
  go_wp2_with fail
  go_ret2
  exact ⟨rfl, hb1⟩
theorem renew_nil (a : Int) (x : Value) (w : World) : Calls Try.prog 18 #[.pointer none, .int .u64 a, x] w fun e w' => e = .returned (.tuple #[.int .u64 0, .iface 46 (.int .i64 11)]) ∧ Below w.heap.size w w' := by
  go_enter Try.func18, Try.ntmps18
  go_wp2_with fail
  refine (place_nil a w).mono ?_
  rintro e w1 ⟨rfl, hb1⟩
  go_wp2_with fail
  go_ret2
  exact ⟨rfl, hb1⟩
theorem numbers_nil (f : Value) (w : World) : Calls Try.prog 37 #[.pointer none, f] w fun e w' => e = .returned (.slice none 0 0) ∧ w = w' := by
  go_enter Try.func37, Try.ntmps37
  go_wp2_with fail
  go_ret
  exact ⟨rfl, rfl⟩
theorem all_nil (w : World) : Calls Try.prog 25 #[.pointer none] w fun e w' => e = .returned (.slice none 0 0) ∧ w = w' := by
  go_enter Try.func25, Try.ntmps25
  go_wp2_with fail
  refine (numbers_nil _ _).mono ?_
  rintro e w1 ⟨rfl, rfl⟩
  go_wp2_with fail
  go_ret
  exact ⟨rfl, rfl⟩
theorem open_nil (w : World) : Calls Try.prog 26 #[.pointer none] w fun e w' => e = .returned (.slice none 0 0) ∧ w = w' := by
  go_enter Try.func26, Try.ntmps26
  go_wp2_with fail
  refine (numbers_nil _ _).mono ?_
  rintro e w1 ⟨rfl, rfl⟩
  go_wp2_with fail
  go_ret
  exact ⟨rfl, rfl⟩

/-- Renew: nowhere. -/
theorem renew_none (a : Int) (x : Value) (base g : Nat) (v : Value) (L : List Wt) (most next : Int) (w : World) (hW : Win w base g v L most next) (hp : place L a = none) :
    Calls Try.prog 18 #[.pointer (some ⟨g, 0, none⟩), .int .u64 a, x] w fun e w' => e = .returned (.tuple #[.int .u64 0, .iface 46 (.int .i64 11)]) ∧ Below w.heap.size w w' := by
  have hq := placeI_none hp
  have HQ := Lib.hid hq
  clear hq hp
  go_enter Try.func18, Try.ntmps18
  go_wp2_with fail
  refine (place_any base g v L most next a w hW).mono ?_
  rw [HQ.out]
  rintro e w1 ⟨rfl, hb1⟩
  go_wp2_with fail
  go_ret2
  exact ⟨rfl, hb1⟩
theorem Win.number {w : World} {base g : Nat} {v : Value} {L : List Wt} {most next : Int} (hW : Win w base g v L most next) : Win (w.setCell ⟨g, 2, none⟩ (.int .u64 (next + 1))) base g v L most (next + 1) := by
  have hng : ∀ k, v.ownBlock = some k → ¬ k = g := fun k hk e => own_ne hW.2.2.1 hW.2.1 (by decide) (by rw [hk, e])
  exact ⟨hW.1, hW.2.1.set 2 _, own_fr (S := fun k => k = g) hW.2.2.1 ((Fr.refl (fun k => k = g) w).setCell (p := ⟨g, 2, none⟩) (fun _ => rfl) _) hng, hW.2.2.2⟩
theorem Win.store4 {w : World} {base g b c : Nat} {L : List Wt} {most next : Int} (hW : Win w base g (.slice (some ⟨b, 0, none⟩) L.length c) L most next) {i : Nat} (hi : i < L.length) (x : Wt) :
    Win ((((w.setCell ⟨b, i * 4, none⟩ (.int .u64 x.num)).setCell ⟨b, i * 4 + 1, none⟩ x.thing).setCell ⟨b, i * 4 + 2, none⟩ (.int .i64 x.ans)).setCell ⟨b, i * 4 + 3, none⟩ (.bool x.done)) base g (.slice (some ⟨b, 0, none⟩) L.length c) (L.set i x) most next := by
  have hbg : ¬ b = g := fun e => own_ne hW.2.2.1 hW.2.1 (by decide) (by simp [Value.ownBlock, e])
  have h1 := (hW.2.2.1.stored (i * 4) (.int .u64 x.num)).1
  have h2 := (h1.stored (i * 4 + 1) x.thing).1
  have h3 := (h2.stored (i * 4 + 2) (.int .i64 x.ans)).1
  have h4 := (h3.stored (i * 4 + 3) (.bool x.done)).1
  rw [flat_setAll L i hi x] at h4
  have hg : g ≠ b := fun e => hbg e.symm
  exact ⟨hW.1, (((hW.2.1.far (p := ⟨b, _, none⟩) hg _).far (p := ⟨b, _, none⟩) hg _).far (p := ⟨b, _, none⟩) hg _).far (p := ⟨b, _, none⟩) hg _, by simpa using h4, by simpa using hW.2.2.2⟩

theorem Fr.store4 (S : Nat → Prop) {w : World} {b i0 i1 i2 i3 : Nat} {u0 u1 u2 u3 : Value} (h : S b) : Fr S w ((((w.setCell ⟨b, i0, none⟩ u0).setCell ⟨b, i1, none⟩ u1).setCell ⟨b, i2, none⟩ u2).setCell ⟨b, i3, none⟩ u3) :=
  ((((Fr.refl S w).setCell (p := ⟨b, i0, none⟩) (fun _ => h) u0).setCell (p := ⟨b, i1, none⟩) (fun _ => h) u1).setCell (p := ⟨b, i2, none⟩) (fun _ => h) u2).setCell (p := ⟨b, i3, none⟩) (fun _ => h) u3
theorem Win.after {w w2 : World} {base g : Nat} {v : Value} {L : List Wt} {most next : Int} (e : w2 = w.setCell ⟨g, 2, none⟩ (.int .u64 (next + 1))) (hW : Win w base g v L most next) : Win w2 base g v L most (next + 1) ∧ Fr (fun k => k = g) w w2 := by
  subst e
  exact ⟨hW.number, (Fr.refl (fun k => k = g) w).setCell (p := ⟨g, 2, none⟩) (fun _ => rfl) _⟩
theorem Win.row {w : World} {base g b c : Nat} {L : List Wt} {most next : Int} (hW : Win w base g (.slice (some ⟨b, 0, none⟩) L.length c) L most next) {i : Nat} (hi : i < L.length) :
    w.cell? ⟨b, i * 4, none⟩ = some (.int .u64 L[i].num) ∧ w.cell? ⟨b, i * 4 + 1, none⟩ = some L[i].thing ∧ w.cell? ⟨b, i * 4 + 2, none⟩ = some (.int .i64 L[i].ans) ∧ w.cell? ⟨b, i * 4 + 3, none⟩ = some (.bool L[i].done) ∧
      w.frozen? ⟨b, i * 4, none⟩ = false ∧ w.frozen? ⟨b, i * 4 + 1, none⟩ = false ∧ w.frozen? ⟨b, i * 4 + 2, none⟩ = false ∧ w.frozen? ⟨b, i * 4 + 3, none⟩ = false := by
  have hO := hW.2.2.1
  refine ⟨?_, ?_, ?_, ?_, hO.frozenAt _, hO.frozenAt _, hO.frozenAt _, hO.frozenAt _⟩
  · rw [hO.cellAt (i * 4) (by omega)]; exact flat_get L i 0 hi (by omega)
  · rw [hO.cellAt (i * 4 + 1) (by omega), flat_get L i 1 hi (by omega)]; rfl
  · rw [hO.cellAt (i * 4 + 2) (by omega), flat_get L i 2 hi (by omega)]; rfl
  · rw [hO.cellAt (i * 4 + 3) (by omega), flat_get L i 3 hi (by omega)]; rfl

/-- Renew: another thing in its place. -/
theorem renew_some (a x : Int) (i : Nat) (base g : Nat) (v : Value) (L : List Wt) (most next : Int) (w : World) (hW : Win w base g v L most next) (hp : place L a = some i) (hn : 0 ≤ next ∧ next < 18446744073709551615) :
    Calls Try.prog 18 #[.pointer (some ⟨g, 0, none⟩), .int .u64 a, .int .i64 x] w fun e w' => e = .returned (.tuple #[.int .u64 next, .nilIface]) ∧
      Win w' base g v (L.set i ⟨next, .int .i64 x, 0, false⟩) most (next + 1) ∧ Fr (fun k => k = g ∨ v.ownBlock = some k) w w' := by
  obtain ⟨hi, _⟩ := place_lt hp
  have hq := placeI_some hp
  have HQ := Lib.hid hq
  obtain ⟨b, c, rfl, hnc, hcm⟩ := own_form hW.2.2.1 (by omega)
  have hlen := hW.2.2.2
  clear hq hp
  go_enter Try.func18, Try.ntmps18
  go_wp2_with fail
  refine (place_any base g _ L most next a w hW).mono ?_
  rw [HQ.out]
  rintro e w1 ⟨rfl, hb1⟩
  have hW1 := hW.below hb1
  have h0 : w1.cell? ⟨g, 0, none⟩ = some (.slice (some ⟨b, 0, none⟩) L.length c) := hW1.2.1.cell 0
  have hbg : ¬ b = g := fun e => own_ne hW1.2.2.1 hW1.2.1 (by decide) (by simp [Value.ownBlock, e])
  have HW := Lib.hid hW
  have HW1 := Lib.hid hW1
  have HW1d : Hid (Win w1.drew base g (.slice (some ⟨b, 0, none⟩) L.length c) L most next) := HW1
  clear hW hW1
  go_wp2_with fail
  go_region_with (go_at_call 32; refine (number_any base g _ L most next _ HW1d.out hn).mono ?_; rintro e w2 ⟨rfl, hw2⟩; have HW2 := Lib.hid (Win.after hw2 HW1d.out); clear hw2; have h2 := HW2.out.1.2.1.cell 0; obtain ⟨c0, c1, c2, c3, f0, f1, f2, f3⟩ := HW2.out.1.row hi)
  all_goals
    go_wp2_with fail
    go_ret2
    exact ⟨rfl, HW2.out.1.store4 hi ⟨next, .int .i64 x, 0, false⟩, ((Fr.ofNew hb1).trans ((Fr.ofDrew HW2.out.2).mono fun k _ h => Or.inl h)).trans (Fr.store4 (fun k => k = g ∨ (Value.slice (some ⟨b, 0, none⟩) L.length c).ownBlock = some k) (Or.inr rfl))⟩
end Go.Proofs.Ythhgepnneaehhaa.Wi
