/- Nets: New, lane, pick, Len. No condition but the net's own. -/
import Derived.Test.YtajoahhjgloefaaTrA
import Derived.Test.YtajoahhjgloefaaTrP
namespace Go.Proofs.Ytajoahhjgloefaa
open Go.RowKit Go.Maps

theorem new_bad (p : Int) (w : World) (h : p < 1 ∨ 64 < p) : Calls Try.prog 9 #[.int .i64 p] w fun e w' => e = .returned (.tuple #[.pointer none, .iface 45 (.int .i64 1)]) ∧ w = w' := by
  by_cases h0 : p < 1
  · clear h
    go_enter Try.func9, Try.ntmps9
    go_wp2_with fail
    go_ret2
    exact ⟨rfl, rfl⟩
  · have h2 : 64 < p := by omega
    clear h
    go_enter Try.func9, Try.ntmps9
    go_wp2_with fail
    go_ret2
    exact ⟨rfl, rfl⟩

def L0 (b : Nat) : Ln := ⟨.slice none 0 0, [], b, 0, fun _ => none, fun _ => 0⟩
theorem L0.in {X : Nat → Prop} {w : World} {base b : Nat} (hM : MapAt w Try.prog 9 b 0 (fun _ => none)) (hb : base ≤ b) : LnIn X w base (L0 b) :=
  ⟨World.ownsRow_nil _ _ _ _, hM, hb, fun x hx => (by cases hx), (by simp [L0]), fun xs _ => rfl, fun xs => (by simp [L0])⟩
theorem new_ok (p : Int) (base : Nat) (w : World) (h1 : 1 ≤ p) (h2 : p ≤ 64) (hb : base ≤ w.heap.size) :
    Calls Try.prog 9 #[.int .i64 p] w fun e w' => e = .returned (.tuple #[.pointer (some ⟨w.heap.size, 0, none⟩), .nilIface]) ∧
      ∃ b1 b2, Nt (fun _ => False) w' base w.heap.size p (L0 b1) (L0 b2) 0 ∧ New w w' := by
  have hmk := @run_makeMap Try.prog
  go_enter Try.func9, Try.ntmps9
  go_wp2_with fail
  obtain ⟨w0, hw0⟩ : ∃ w0 : World, w0 = w.alloc (.cells #[.int .i64 p, .slice none 0 0, .map none, .slice none 0 0, .map none] 71) := ⟨_, rfl⟩
  obtain ⟨g, hg⟩ : ∃ g, g = w.heap.size := ⟨_, rfl⟩
  have HB0 : Hid (Blk w0 g 71 #[.int .i64 p, .slice none 0 0, .map none, .slice none 0 0, .map none]) := Lib.hid (by rw [hw0, hg]; exact Blk.new _ _ _)
  have HN0 : Hid (New w w0) := Lib.hid (by rw [hw0]; exact New.al (New.refl _) _)
  have hgb : base ≤ g := by omega
  have HG : Hid (g = w.heap.size) := Lib.hid hg
  rw [← hw0, ← hg]
  clear hw0 hg
  go_loopw [16] (fun i wr => Hid (New w wr) ∧ ((i = .int .i64 0 ∧ Hid (Blk wr g 71 #[.int .i64 p, .slice none 0 0, .map none, .slice none 0 0, .map none])) ∨
      (∃ b1, i = .int .i64 1 ∧ Hid (Blk wr g 71 #[.int .i64 p, .slice none 0 0, .map (some b1), .slice none 0 0, .map none]) ∧ Hid (MapAt wr Try.prog 9 b1 0 (fun _ => none) ∧ base ≤ b1)) ∨
      (∃ b1 b2, i = .int .i64 2 ∧ Hid (Nt (fun _ => False) wr base g p (L0 b1) (L0 b2) 0)))) (fun i _ => 2 - (intOf i).toNat)
  case atStart => exact ⟨HN0, .inl ⟨rfl, HB0⟩⟩
  case round =>
    obtain ⟨HN, h | h | h⟩ := hrel
    · obtain ⟨rfl, HB⟩ := h
      have i2 : ∀ o, (wr.alloc o).cell? ⟨g, 2, none⟩ = some (.map none) := fun o => (HB.out.alloc o).cell 2
      have q2 : ∀ o, (wr.alloc o).frozen? ⟨g, 2, none⟩ = false := fun o => (HB.out.alloc o).frozen 2
      clear HB0 HN0
      go_wp2_with fail
      have hlt : g < wr.heap.size := HB.out.lt
      refine ⟨⟨Lib.hid (New.set (New.al HN.out _) (p := ⟨g, 2, none⟩) (by show w.heap.size ≤ g; exact Nat.le_of_eq HG.out.symm) _), .inr (.inl ⟨wr.heap.size, rfl, Lib.hid ?_, Lib.hid ⟨?_, by omega⟩⟩)⟩, by simp [intOf]⟩
      · have := (HB.out.alloc (.map #[] 0)).set 2 (.map (some wr.heap.size))
        simpa using this
      · exact (MapAt.made wr Try.prog 9).fr ((Fr.refl (fun k => k = g) _).setCell (p := ⟨g, 2, none⟩) (fun _ => rfl) _) (fun e => by omega)
    · obtain ⟨b1, rfl, HB, HM⟩ := h
      have i2 : ∀ o, (wr.alloc o).cell? ⟨g, 4, none⟩ = some (.map none) := fun o => (HB.out.alloc o).cell 4
      have q2 : ∀ o, (wr.alloc o).frozen? ⟨g, 4, none⟩ = false := fun o => (HB.out.alloc o).frozen 4
      clear HB0 HN0
      go_wp2_with fail
      have hlt : g < wr.heap.size := HB.out.lt
      have hlt1 : b1 < wr.heap.size := HM.out.1.lt
      have hF : Fr (fun k => k = g) (wr.alloc (.map #[] 0)) ((wr.alloc (.map #[] 0)).setCell ⟨g, 4, none⟩ (.map (some wr.heap.size))) := (Fr.refl (fun k => k = g) _).setCell (p := ⟨g, 4, none⟩) (fun _ => rfl) _
      have hne : ¬ b1 = g := fun e => by
        obtain ⟨D, ⟨es, clock, hx, _⟩, _⟩ := HM.out.1
        have := HB.out
        unfold Blk at this
        rw [← e, hx] at this
        cases this
      refine ⟨⟨Lib.hid (New.set (New.al HN.out _) (p := ⟨g, 4, none⟩) (by show w.heap.size ≤ g; exact Nat.le_of_eq HG.out.symm) _), .inr (.inr ⟨b1, wr.heap.size, rfl, Lib.hid ⟨?_, hgb, h1, h2, ?_, ?_, by simp [L0], by simp [L0], ?_, fun k h => h.elim⟩⟩)⟩, by simp [intOf]⟩
      · have := (HB.out.alloc (.map #[] 0)).set 4 (.map (some wr.heap.size))
        simpa [L0] using this
      · exact L0.in ((HM.out.1.alloc _).fr hF hne) HM.out.2
      · exact L0.in ((MapAt.made wr Try.prog 9).fr hF (fun e => by omega)) (by omega)
      · rintro k (rfl | hk) (h | h)
        · simp [L0] at h; omega
        · simp [L0, Value.ownBlock] at h
        · simp [L0, Value.ownBlock] at hk
        · simp [L0, Value.ownBlock] at hk
    · obtain ⟨b1, b2, rfl, HT⟩ := h
      clear HB0 HN0
      go_wp2_with fail
      go_ret2
      rw [HG.out]
      exact ⟨rfl, b1, b2, HG.out ▸ HT.out, HN.out⟩

/-- A way's lane. -/
theorem lane_in (i : Bool) (g : Nat) (w : World) : Calls Try.prog 28 #[.pointer (some ⟨g, 0, none⟩), .int .i64 (wayI i)] w fun e w' => e = .returned (.tuple #[.pointer (some ⟨g, off i, none⟩), .nilIface]) ∧ w = w' := by
  cases i
  · show Calls Try.prog 28 #[.pointer (some ⟨g, 0, none⟩), .int .i64 1] w fun e w' => e = .returned (.tuple #[.pointer (some ⟨g, 1, none⟩), .nilIface]) ∧ w = w'
    go_enter Try.func28, Try.ntmps28
    go_wp2_with fail
    go_ret2
    exact ⟨rfl, rfl⟩
  · show Calls Try.prog 28 #[.pointer (some ⟨g, 0, none⟩), .int .i64 2] w fun e w' => e = .returned (.tuple #[.pointer (some ⟨g, 3, none⟩), .nilIface]) ∧ w = w'
    go_enter Try.func28, Try.ntmps28
    go_wp2_with fail
    go_ret2
    exact ⟨rfl, rfl⟩
theorem lane_bad (a : Int) (h1 : ¬ a = 1) (h2 : ¬ a = 2) (g : Nat) (w : World) : Calls Try.prog 28 #[.pointer (some ⟨g, 0, none⟩), .int .i64 a] w fun e w' => e = .returned (.tuple #[.pointer none, .iface 45 (.int .i64 2)]) ∧ w = w' := by
  have d1 : (a == 1) = false := by simpa using h1
  have d2 : (a == 2) = false := by simpa using h2
  go_enter Try.func28, Try.ntmps28
  go_wp2_with fail
  go_ret2
  exact ⟨rfl, rfl⟩
/-- What a net's block has at a lane. -/
theorem Nt.at {X : Nat → Prop} {w : World} {base g : Nat} {p : Int} {l1 l2 : Ln} {N : Nat} (h : Nt X w base g p l1 l2 N) (i : Bool) :
    w.cell? ⟨g, off i, none⟩ = some (sel i l1 l2).v ∧ w.cell? ⟨g, off i + 1, none⟩ = some (.map (some (sel i l1 l2).b)) ∧ LnIn X w base (sel i l1 l2) := by
  cases i
  · exact ⟨h.blk.cell 1, h.blk.cell 2, h.one⟩
  · exact ⟨h.blk.cell 3, h.blk.cell 4, h.two⟩
theorem len_bad (a : Int) (h1 : ¬ a = 1) (h2 : ¬ a = 2) (g : Nat) (w : World) : Calls Try.prog 14 #[.pointer (some ⟨g, 0, none⟩), .int .i64 a] w fun e w' => e = .returned (.int .i64 0) ∧ w = w' := by
  have HB := Lib.hid (lane_bad a h1 h2 g w)
  clear h1 h2
  go_enter Try.func14, Try.ntmps14
  go_wp2_with fail
  refine HB.out.mono ?_
  rintro e w' ⟨rfl, rfl⟩
  go_wp2_with fail
  go_ret
  exact ⟨rfl, rfl⟩
theorem len_in {X : Nat → Prop} {w : World} {base g : Nat} {p : Int} {l1 l2 : Ln} {N : Nat} (h : Nt X w base g p l1 l2 N) (i : Bool) :
    Calls Try.prog 14 #[.pointer (some ⟨g, 0, none⟩), .int .i64 (wayI i)] w fun e w' => e = .returned (.int .i64 (sel i l1 l2).L.length) ∧ w = w' := by
  obtain ⟨c0, -, hL⟩ := h.at i
  have hown := hL.own
  obtain ⟨A, c, hv, hnc, hcm, -, -⟩ := own_shape hown
  rw [hv] at c0
  generalize (sel i l1 l2).L.length = n at c0 hnc ⊢
  clear hown hv hL h
  go_enter Try.func14, Try.ntmps14
  go_wp2_with fail
  refine (lane_in i g w).mono ?_
  rintro e w' ⟨rfl, rfl⟩
  go_wp2_with fail
  go_ret
  exact ⟨rfl, rfl⟩
theorem pick_bad (a k : Int) (h1 : ¬ a = 1) (h2 : ¬ a = 2) (g : Nat) (w : World) : Calls Try.prog 31 #[.pointer (some ⟨g, 0, none⟩), .int .i64 a, .int .u64 k] w fun e w' => e = .returned (.tuple #[.pointer none, .int .i64 0, .iface 45 (.int .i64 2)]) ∧ w = w' := by
  have HB := Lib.hid (lane_bad a h1 h2 g w)
  clear h1 h2
  go_enter Try.func31, Try.ntmps31
  go_wp2_with fail
  refine HB.out.mono ?_
  rintro e w' ⟨rfl, rfl⟩
  go_wp2_with fail
  go_ret3
  exact ⟨rfl, rfl⟩
theorem pick_none {X : Nat → Prop} {w : World} {base g : Nat} {p : Int} {l1 l2 : Ln} {N : Nat} (h : Nt X w base g p l1 l2 N) (i : Bool) (k : Int) (h0 : (sel i l1 l2).L = []) :
    Calls Try.prog 31 #[.pointer (some ⟨g, 0, none⟩), .int .i64 (wayI i), .int .u64 k] w fun e w' => e = .returned (.tuple #[.pointer none, .int .i64 0, .iface 45 (.int .i64 11)]) ∧ w = w' := by
  obtain ⟨c0, -, hL⟩ := h.at i
  have hown := hL.own
  obtain ⟨A, c, hv, hnc, hcm, -, -⟩ := own_shape hown
  rw [hv, h0, List.length_nil] at c0
  clear hown hv hL h h0
  go_enter Try.func31, Try.ntmps31
  go_wp2_with fail
  refine (lane_in i g w).mono ?_
  rintro e w' ⟨rfl, rfl⟩
  go_wp2_with fail
  go_ret3
  exact ⟨rfl, rfl⟩
theorem pick_some {X : Nat → Prop} {w : World} {base g : Nat} {p : Int} {l1 l2 : Ln} {N : Nat} (h : Nt X w base g p l1 l2 N) (i : Bool) (k : Int) (hk0 : 0 ≤ k) (hk1 : k < 18446744073709551616) (h0 : 0 < (sel i l1 l2).L.length) :
    Calls Try.prog 31 #[.pointer (some ⟨g, 0, none⟩), .int .i64 (wayI i), .int .u64 k] w fun e w' => e = .returned (.tuple #[.pointer (some ⟨g, off i, none⟩), .int .i64 ((k.toNat % (sel i l1 l2).L.length : Nat) : Int), .nilIface]) ∧ New w w' := by
  obtain ⟨c0, -, hL⟩ := h.at i
  have hown := hL.own
  have hl6 := hL.len
  obtain ⟨A, c, hv, hnc, hcm, -, -⟩ := own_shape hown
  rw [hv] at c0
  generalize (sel i l1 l2).L.length = n at c0 hnc h0 hl6 ⊢
  clear hown hv hL h
  have hn0 : ((n : Int) == 0) = false := by simp; omega
  have hwn : IntKind.u64.wrap (n : Int) = n := IntWalk.u64_in _ (by omega)
  have hmod : k.tmod (n : Int) = ((k.toNat % n : Nat) : Int) := by
    rw [Int.tmod_eq_emod_of_nonneg hk0]
    obtain ⟨q, rfl⟩ := Int.eq_ofNat_of_zero_le hk0
    simp
  have hlt : k.toNat % n < n := Nat.mod_lt _ h0
  have hw2 : IntKind.u64.wrap (((k.toNat % n : Nat) : Int)) = ((k.toNat % n : Nat) : Int) := IntWalk.u64_in _ (by omega)
  have hw3 : IntKind.i64.wrap (((k.toNat % n : Nat) : Int)) = ((k.toNat % n : Nat) : Int) := IntWalk.i64_in _ (by omega)
  generalize k.toNat % n = r at hmod hlt hw2 hw3 ⊢
  go_enter Try.func31, Try.ntmps31
  go_wp2_with fail
  refine (lane_in i g w).mono ?_
  rintro e w' ⟨rfl, rfl⟩
  go_wp2_with fail
  go_quiet (fail)
  go_wp2_with fail
  go_ret3
  exact ⟨rfl, New.dn (New.refl w) _⟩
end Go.Proofs.Ytajoahhjgloefaa
