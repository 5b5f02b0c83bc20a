/- KvNil, as its statement's row wants it. No condition. -/
import Derived.Test.YtfhinmjpokollaaKvC
import Derived.Test.YtfhinmjpokollaaKvD
import Derived.Test.YtfhinmjpokollaaNum
import Derived.Test.YtfhinmjpokollaaOpen
import Derived.Test.YtfhinmjpokollaaOpenA
import Derived.Lib.SlBytesConst
namespace Go.Proofs.Ytfhinmjpokollaa
open Go.RowKit Go.Maps Go.WideShapes Go.ChangeShapes
attribute [local go_sem] Oper.semAt_some

set_option maxHeartbeats 8000000 in
set_option maxRecDepth 100000 in
theorem nil_walk (A : Option Addr) (n c : Nat) (w : World) : Calls Try.prog 5 #[.slice A n c] w fun e w' => e = .returned (.bool true) ∧ Below w.heap.size w w' := by
  have kc := fun (w : World) (C : Array Value) (n c : Nat) => Lib.run_convert_bytes_const (P := Try.prog) w 39 5 C n c Try.underlying39 Try.underlying5
  refine (callsIn_wide (n := 3)).1 ?_
  refine callsIn_of_wp_marks Try.func5 rfl trivial ?_ rfl
  refine wpIn_wide.2 ?_
  simp only [Try.ntmps5, List.size_toArray, List.length_cons, List.length_nil, Nat.reduceAdd, Nat.reduceSub, Array.replicate_succ, Array.replicate_zero, List.push_toArray, List.append_toArray, List.nil_append, List.cons_append]
  go_wp2_with fail
  obtain ⟨w0, hw0⟩ : ∃ w0 : World, w0 = w.alloc (.cells #[.bool false] 4) := ⟨_, rfl⟩
  obtain ⟨b2, hb2⟩ : ∃ b2, b2 = w.heap.size := ⟨_, rfl⟩
  have HN0 : Hid (New w w0) := Lib.hid (by rw [hw0]; exact New.al (New.refl _) _)
  have HB0 : Hid (Blk w0 b2 4 #[.bool false]) := Lib.hid (by rw [hw0, hb2]; exact Blk.new _ _ _)
  have HZ0 : Hid (w.heap.size ≤ b2) := Lib.hid (by omega)
  rw [← hw0, ← hb2]
  clear hw0 hb2
  refine (alive_any w0).mono ?_
  rintro e w1 ⟨rfl, hN1⟩
  have HN1 : Hid (New w w1) := Lib.hid (HN0.out.tr hN1)
  have HB1 : Hid (Blk w1 b2 4 #[.bool false]) := Lib.hid (hN1.blk HB0.out)
  clear hN1 HN0 HB0
  go_wp2_with fail
  refine (all_any none w1).mono ?_
  rintro e w2 ⟨rfl, hw2⟩
  have HN2 : Hid (New w1 w2) := Lib.hid (by rw [hw2]; exact New.al (New.refl _) _)
  have HS := Lib.hid (all1_nil w1.heap.size w2 (by rw [hw2]; exact (Blk.new w1 _ _).cell 0) (fun _ _ => True) (fun _ _ => True))
  clear hw2
  go_wp2_with fail
  refine wp_rangeR rfl (enters_of Try.func44 (by kernel_rfl) rfl) encKV (fun _ => rfl) HS.out (fun _ _ _ _ _ => trivial) (fun _ _ => trivial) (fun _ _ _ => trivial) (fun _ W => New w2 W) (fun _ _ _ h hN => h.tr hN) (fun _ _ _ h hp => h.puts hp (Nat.le_refl _)) (New.refl _) ?a1 ?assign ?body ?done
  case assign =>
    intro l x W K hK
    gi_wp2
    exact hK
  case body =>
    rintro l pre x W hpl - - hf
    exact hf.elim
  case done =>
    rintro D fs W hD hfs hNW hDm
    have HNW := Lib.hid (HN2.out.tr hNW)
    have HB := Lib.hid (HNW.out.blk HB1.out)
    have HM : Hid (Marks w2.heap.size [D] W) := Lib.hid (Marks.cons (Marks.nil w2.heap.size W) (fun _ h => by cases h) hD hDm)
    clear hNW hDm hD HS
    dsimp only
    go_wp2_with (first
      | (go_at_call 19; refine (get_nil _ _ _ _).mono ?_; rintro e w' ⟨rfl, rfl⟩)
      | (go_at_call 12; refine (apply_nil _ _ _ _).mono ?_; rintro e w' ⟨rfl, rfl⟩)
      | (go_at_call 15; refine (is_some 11 11 _ (by decide)).mono ?_; rintro e w' ⟨rfl, rfl⟩)
      | (go_at_call 28; refine (len_nil _).mono ?_; rintro e w' ⟨rfl, rfl⟩))
    obtain ⟨W1, hW1⟩ : ∃ W1 : World, W1 = (W.alloc (.cells #[.int .u8 97] 5 (1, 2))).alloc (.cells #[.slice (some ⟨W.heap.size, 0, none⟩) 1 1, .slice none 0 0, .bool false] 41) := ⟨_, rfl⟩
    have HX1 : Hid (New W W1) := Lib.hid (by rw [hW1]; exact New.al (New.al (New.refl _) _) _)
    rw [← hW1]
    clear hW1
    refine (size_nil W1).mono ?_
    rintro e W2 ⟨rfl, hX2⟩
    have HX2 : Hid (New W W2) := Lib.hid (HX1.out.tr hX2)
    clear hX2 HX1
    go_wp2_with fail
    refine (batches_nil W2).mono ?_
    rintro e W3 ⟨rfl, hX3⟩
    have HX3 : Hid (New W W3) := Lib.hid (HX2.out.tr hX3)
    clear hX3 HX2
    go_wp2_with (go_at_call 11; refine (copy_nil _).mono ?_; rintro e w' ⟨rfl, rfl⟩)
    refine (new_any W3.heap.size W3 (Nat.le_refl _)).mono ?_
    rintro e W4 ⟨g, b, rfl, hT4, hX4, -, -⟩
    have HX4 : Hid (New W W4) := Lib.hid (HX3.out.tr hX4)
    have HT4 := Lib.hid hT4
    clear hT4 hX4 HX3
    go_wp2_with fail
    refine (same_nil HT4.out (by omega)).mono ?_
    rintro e W5 ⟨rfl, hX5⟩
    have HX5 : Hid (New W W5) := Lib.hid (HX4.out.tr hX5)
    have HB5 : Hid (Blk W5 b2 4 #[.bool false]) := Lib.hid (HX5.out.blk HB.out)
    have HM5 := Lib.hid (HM.out.new HX5.out)
    have HN5 : Hid (New w1 W5) := Lib.hid (HNW.out.tr HX5.out)
    have c2 : W5.cell? ⟨b2, 0, none⟩ = some (.bool false) := HB5.out.cell 0
    have f2 : W5.frozen? ⟨b2, 0, none⟩ = false := HB5.out.frozen 0
    clear hX5 HX4 HT4 HX5 HB HM HNW HB1
    go_wp2_with fail
    have hF : Fr (fun j => j = b2) W5 (W5.setCell ⟨b2, 0, none⟩ (.bool true)) := (Fr.refl (fun j => j = b2) W5).setCell (p := ⟨b2, 0, none⟩) (fun _ => rfl) _
    have hB : Blk (W5.setCell ⟨b2, 0, none⟩ (.bool true)) b2 4 #[.bool true] := HB5.out.set 0 _
    refine leaves_marks [D] _ (HM5.out.fr hF (fun D hD => ?_)) (fun W' hS => ⟨.bool true, ?_, rfl, ?_⟩)
    · subst hD
      exact not_def_blk HB5.out
    · have hc : W'.cell? ⟨b2, 0, none⟩ = some (.bool true) := by
        have h1 : W'.heap[b2]? = _ := hS.cells b2 _ hB rfl
        exact (show Blk W' b2 4 #[.bool true] from h1).cell 0
      simp [results, Try.results5, go_sem, hc]
    · have hz : w.heap.size ≤ w2.heap.size := (HN1.out.tr HN2.out).size
      exact (New.fr (HN1.out.tr HN5.out) hF (fun k hk => by have := HZ0.out; omega)).trans (hS.below.mono hz)
section
variable {H : Type} {enc : TypeId × Value → H} {w : World}
set_option maxRecDepth 100000 in
theorem open_bytes {r : Reach} {b0 : Nat} {v : Value} {d : DataW H} {p : List MemPlace} (hv : Value.okWide Try.prog w r b0 39 v) (h : DataW.Trod enc Try.prog w 0 (fun _ => true) true 39 v d p) :
    ∃ (A : Option Addr) (n c : Nat) (L : List Int), v = .slice A n c ∧ n ≤ c ∧ c ≤ maxLen ∧ L.length = n ∧ Rd (fun b => b < w.heap.size) w 1 A n (u8s L) ∧ Byt L := by
  obtain ⟨A, n, c, L, h1, h2, h3, h4, h5, h6, _⟩ := open_slk (k := 1) Try.underlying39 (fun x : Int => [.int .u8 x]) (by kernel_rfl) (by omega) (fun x => 0 ≤ x ∧ x < 256) (fun cs m y hl ht => by
    match cs, hl with
    | [c0], _ =>
      obtain ⟨a, e, _, g⟩ := DataW.trod_int Try.underlying5 ht
      simp at e
      subst e
      have := bounds_u8 g
      exact ⟨a, rfl, by omega, by omega⟩) hv h
  have e : L.flatMap (fun x : Int => [Value.int .u8 x]) = u8s L := by
    unfold u8s
    rw [List.map_eq_flatMap]
  rw [e] at h5
  exact ⟨A, n, c, L, h1, h2, h3, h4, h5, h6⟩
end
theorem nil_law {v : Value} {w : World}
    (o : ∃ (A : Option Addr) (n c : Nat) (L : List Int), v = .slice A n c ∧ n ≤ c ∧ c ≤ maxLen ∧ L.length = n ∧ Rd (fun b => b < w.heap.size) w 1 A n (u8s L) ∧ Byt L) :
    Calls Try.prog 5 #[v] w fun e w' => e = .returned (.bool true) ∧ Below w.heap.size w w' := by
  obtain ⟨A, n, c, L, rfl, -⟩ := o
  exact nil_walk A n c w
end Go.Proofs.Ytfhinmjpokollaa
