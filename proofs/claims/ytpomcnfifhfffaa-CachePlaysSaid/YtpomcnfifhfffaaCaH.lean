/- CacheNil's walk: a nil cache answers as said, for every act. No condition. -/
import Derived.Test.YtpomcnfifhfffaaCaG
import Derived.Test.YtpomcnfifhfffaaOpenA
namespace Go.Proofs.Ytpomcnfifhfffaa
open Go.RowKit Go.WideShapes Go.ChangeShapes

structure AV where
  id : Int
  seq : Int
  A : Option Addr
  n : Nat
  c : Nat
  B : Option Addr
  k : Nat
  d : Nat
  dr : Bool
def AV.cells (a : AV) : List Value := [.int .u64 a.id, .int .u64 a.seq, .slice a.A a.n a.c, .slice a.B a.k a.d, .bool a.dr]
theorem rd_av {p : Nat → Prop} {w : World} {A : Option Addr} {n : Nat} {L : List AV} (h : Rd p w 5 A n (L.flatMap AV.cells)) (hL : L.length = n) {i : Nat} (hi : i < n) :
    ∃ (g o : Nat) (hl : i < L.length), A = some ⟨g, o, none⟩ ∧ p g ∧ g < w.heap.size ∧ w.cell? ⟨g, o + i * 5, none⟩ = some (.int .u64 L[i].id) ∧ w.cell? ⟨g, o + i * 5 + 1, none⟩ = some (.int .u64 L[i].seq) ∧
      w.cell? ⟨g, o + i * 5 + 2, none⟩ = some (.slice L[i].A L[i].n L[i].c) ∧ w.cell? ⟨g, o + i * 5 + 3, none⟩ = some (.slice L[i].B L[i].k L[i].d) ∧ w.cell? ⟨g, o + i * 5 + 4, none⟩ = some (.bool L[i].dr) := by
  obtain ⟨g, o, hA, hp, hg, hc⟩ := h.out (by omega) (by omega)
  have hl : i < L.length := by omega
  have key : ∀ j, j < 5 → (L.flatMap AV.cells)[i * 5 + j]? = (L[i].cells)[j]? := fun j hj => fm_get AV.cells 5 L i j hl (fun _ _ => rfl) hj
  refine ⟨g, o, hl, hA, hp, hg, ?_, ?_, ?_, ?_, ?_⟩
  · exact hc (i * 5) _ (by have := key 0 (by omega); rw [Nat.add_zero] at this; rw [this]; rfl)
  · rw [Nat.add_assoc]; exact hc (i * 5 + 1) _ (by rw [key 1 (by omega)]; rfl)
  · rw [Nat.add_assoc]; exact hc (i * 5 + 2) _ (by rw [key 2 (by omega)]; rfl)
  · rw [Nat.add_assoc]; exact hc (i * 5 + 3) _ (by rw [key 3 (by omega)]; rfl)
  · rw [Nat.add_assoc]; exact hc (i * 5 + 4) _ (by rw [key 4 (by omega)]; rfl)

def SaysB (e : Ending) : Prop := ∃ b, e = .returned (.bool b)
set_option maxHeartbeats 2000000 in
theorem long_any {p : Nat → Prop} (A : Option Addr) (n c : Nat) (L : List AV) (w : World) (h : Rd p w 5 A n (L.flatMap AV.cells)) (hL : L.length = n) (hn : n ≤ maxLen) :
    Calls Try.prog 7 #[.slice A n c] w fun e w' => SaysB e ∧ New w w' := by
  have HR := Lib.hid h
  have HL := Lib.hid hL
  unfold maxLen at hn
  clear h hL
  go_enter Try.func7, Try.ntmps7
  go_wp2_with fail
  go_loopw [3, 8] (fun t i wr => ∃ (j : Nat) (z : Int), j ≤ n ∧ i = .int .i64 j ∧ t = .int .i64 z ∧ Hid (New w wr)) (fun _ i _ => n - (intOf i).toNat)
  case atStart => exact ⟨0, 0, by omega, rfl, rfl, Lib.hid (New.refl w)⟩
  case round =>
    obtain ⟨j, z, hj, rfl, rfl, HN⟩ := hrel
    by_cases hlt : j < n
    · obtain ⟨g, o, hl, rfl, -, hg, c0, c1, c2, c3, c4⟩ := rd_av (HN.out.rd HR.out) HL.out hlt
      have HN1 := fun (o : Obj) => Lib.hid (New.al HN.out o)
      go_wp2_with fail
      go_roundw
      case rel => exact ⟨j + 1, _, by omega, by go_num, rfl, HN1 _⟩
      case measure => simp [intOf]; omega
    · obtain rfl : j = n := by omega
      go_wp2_with fail
      all_goals
        go_ret
        exact ⟨⟨_, rfl⟩, HN.out⟩

set_option maxHeartbeats 2000000 in
theorem nil_walk (a : AV) (w : World) : Calls Try.prog 5 #[.agg a.cells.toArray] w fun e w' => e = .returned (.bool true) ∧ New w w' := by
  obtain ⟨i, q, A, n, c, B, k, d, dr⟩ := a
  simp only [AV.cells]
  go_enter Try.func5, Try.ntmps5
  go_wp2_with fail
  obtain ⟨w0, hw0⟩ : ∃ w0 : World, w0 = w.alloc (.cells #[.int .u64 i, .int .u64 q, .slice A n c, .slice B k d, .bool dr] 26) := ⟨_, rfl⟩
  have HN0 : Hid (New w w0) := Lib.hid (by rw [hw0]; exact New.al (New.refl _) _)
  have hb0 : Blk w0 w.heap.size 26 #[.int .u64 i, .int .u64 q, .slice A n c, .slice B k d, .bool dr] := by rw [hw0]; exact Blk.new _ _ _
  rw [← hw0]
  clear hw0
  refine (alive_any w0).mono ?_
  rintro e w1 ⟨rfl, hN1⟩
  have hb1 := New.blk hN1 hb0
  have i0 := hb1.cell 0
  have i1 := hb1.cell 1
  have i2 := hb1.cell 2
  have i3 := hb1.cell 3
  have i4 := hb1.cell 4
  have HB1 := Lib.hid hb1
  have HN1 : Hid (New w w1) := Lib.hid (HN0.out.tr hN1)
  clear hN1 hb0 hb1
  go_wp2_with fail
  obtain ⟨w2, hw2⟩ : ∃ w2 : World, w2 = w1.alloc (.cells #[.int .u64 i, .int .u64 q, .slice A n c, .slice B k d, .bool dr] 26) := ⟨_, rfl⟩
  have HN2 : Hid (New w1 w2) := Lib.hid (by rw [hw2]; exact New.al (New.refl _) _)
  have HR2 : Hid (Rd (fun _ => True) w2 5 (some ⟨w1.heap.size, 0, none⟩) 1 ([(⟨i, q, A, n, c, B, k, d, dr⟩ : AV)].flatMap AV.cells)) := Lib.hid (Rd.ofBlk (by rw [hw2]; exact Blk.new _ _ _) 5 1 rfl trivial)
  try rw [← hw2]
  clear hw2 i0 i1 i2 i3 i4
  refine (long_any (some ⟨w1.heap.size, 0, none⟩) 1 1 [⟨i, q, A, n, c, B, k, d, dr⟩] w2 HR2.out rfl (by unfold maxLen; omega)).mono ?_
  rintro e w3 ⟨⟨b, rfl⟩, hN3⟩
  have HN3 : Hid (New w w3) := Lib.hid ((HN1.out.tr HN2.out).tr hN3)
  have hb3 := New.blk (HN2.out.tr hN3) HB1.out
  have i0 := hb3.cell 0
  have i1 := hb3.cell 1
  have i2 := hb3.cell 2
  have i3 := hb3.cell 3
  have i4 := hb3.cell 4
  clear hN3 hb3 HB1
  rcases b with _ | _
  · go_wp2_with fail
    refine (keep_nil _ _ _ _ w3).mono ?_
    rintro e w4 ⟨rfl, rfl⟩
    go_wp2_with fail
    refine (find_nil _ _ _ w3).mono ?_
    rintro e w4 ⟨rfl, rfl⟩
    go_wp2_with fail
    go_region_held3 (fun w' => w'.cell? ⟨w.heap.size, 0, none⟩ = some (.int .u64 i))
      (go_keep)
      (first
        | (go_at_call 14; refine (drop_nil _ _).mono ?_; rintro e w6 ⟨rfl, rfl⟩)
        | (go_at_call 13; refine (sess_nil _).mono ?_; rintro e w6 ⟨rfl, rfl⟩)
        | (go_at_call 12; refine (len_nil _ _).mono ?_; rintro e w6 ⟨rfl, rfl⟩))
    all_goals
      go_wp2_with fail
      go_ret
      first
        | exact ⟨rfl, HN3.out⟩
        | exact ⟨rfl, HN3.out.dr⟩
        | exact ⟨rfl, HN3.out.dn _⟩
  · go_wp2_with fail
    go_ret
    exact ⟨rfl, HN3.out⟩

section
variable {H : Type} {enc : TypeId × Value → H} {w : World}
theorem one_slice {t e : TypeId} {base : Nat} {sp : Nat → Bool} {held : Bool} {m : Nat} {c0 : Value} {y : DataW H × List MemPlace} (ht : Try.prog.underlying t = some (.slice e)) (h : DataW.trod enc Try.prog w base sp held m t [c0] = some y) : ∃ A n c, c0 = .slice A n c := by
  rcases DataW.trod_slice ht h with ⟨h, _⟩ | ⟨a, len, cap, _, _, _, _, h, _⟩
  · simp at h; exact ⟨_, _, _, h⟩
  · simp at h; exact ⟨_, _, _, h⟩
theorem open_act {r : Reach} {b0 : Nat} {v : Value} {d : DataW H} {p : List MemPlace} (hv : Value.okWide Try.prog w r b0 26 v) (h : DataW.Trod enc Try.prog w 0 (fun _ => true) true 26 v d p) :
    ∃ a : AV, v = .agg a.cells.toArray := by
  unfold Value.okWide at hv
  rw [Try.underlying26] at hv
  obtain ⟨cs, rfl, hsz, -⟩ := hv
  obtain ⟨m, ht⟩ := h
  replace ht : DataW.trod enc Try.prog w 0 (fun _ => true) true m 26 cs.toList = some (d, p) := ht
  obtain ⟨cs⟩ := cs
  have hl : cs.length = 5 := by
    have : Try.prog.cellsOf 26 = 5 := by kernel_rfl
    simpa [this] using hsz
  match cs, hl with
  | [c0, c1, c2, c3, c4], _ =>
    obtain ⟨_, _, t0⟩ := field_at (j := 0) Try.underlying26 ht rfl (by kernel_rfl) (by simp)
    obtain ⟨_, _, t1⟩ := field_at (j := 1) Try.underlying26 ht rfl (by kernel_rfl) (by simp)
    obtain ⟨_, _, t2⟩ := field_at (j := 2) Try.underlying26 ht rfl (by kernel_rfl) (by simp)
    obtain ⟨_, _, t3⟩ := field_at (j := 3) Try.underlying26 ht rfl (by kernel_rfl) (by simp)
    obtain ⟨_, _, t4⟩ := field_at (j := 4) Try.underlying26 ht rfl (by kernel_rfl) (by simp)
    obtain ⟨a0, e0, _, g0⟩ := DataW.trod_int Try.underlying23 t0
    obtain ⟨a1, e1, _, g1⟩ := DataW.trod_int Try.underlying23 t1
    obtain ⟨A, n, c, e2⟩ := one_slice Try.underlying24 t2
    obtain ⟨B, k, d, e3⟩ := one_slice Try.underlying24 t3
    obtain ⟨b, e4, _⟩ := DataW.trod_bool Try.underlying4 t4
    simp at e0 e1 e2 e3 e4
    subst e0 e1 e2 e3 e4
    exact ⟨⟨a0, a1, A, n, c, B, k, d, b⟩, rfl⟩
end
theorem nil_law {v : Value} (o : ∃ a : AV, v = .agg a.cells.toArray) (w : World) : Calls Try.prog 5 #[v] w fun e w' => e = .returned (.bool true) ∧ Below w.heap.size w w' := by
  obtain ⟨a, rfl⟩ := o
  exact nil_walk a w
end Go.Proofs.Ytpomcnfifhfffaa
