/- The acts of transit's statements: in memory, opened; what long says of them. No condition. -/
import Derived.Test.YtajoahhjgloefaaTrJ
import Derived.Test.YtajoahhjgloefaaTrH
import Derived.Test.YtajoahhjgloefaaOpenS
import Derived.Test.YtajoahhjgloefaaRow
namespace Go.Proofs.Ytajoahhjgloefaa
open Go.RowKit Go.Maps Go.WideShapes Go.ChangeShapes

/-- An act. -/
structure Ac where
  kd : Int
  way : Int
  pk : Int
  x : Fm
def Ac.cells (a : Ac) : List Value := [.int .i64 a.kd, .int .i64 a.way, .int .u64 a.pk, .slice a.x.A a.x.n a.x.c]
structure Ac.Good (w : World) (a : Ac) : Prop where
  wk : (Lit.int .i64 a.kd).wf = true
  ww : (Lit.int .i64 a.way).wf = true
  p0 : 0 ≤ a.pk
  p1 : a.pk < 18446744073709551616
  rd : Rd (fun b => b < w.heap.size) w 1 a.x.A a.x.n (u8s a.x.xs)
  by_ : Byt a.x.xs
  nn : a.x.n ≤ 140737488355328
theorem Ac.Good.new {w w' : World} {a : Ac} (h : a.Good w) (hN : New w w') : a.Good w' :=
  ⟨h.wk, h.ww, h.p0, h.p1, (hN.rd h.rd).imp fun k hk => Nat.lt_of_lt_of_le hk hN.size, h.by_, h.nn⟩

section
variable {H : Type} {enc : TypeId × Value → H} {w : World}
theorem trod_act {m : Nat} {cs : List Value} {y : DataW H × List MemPlace} (hl : cs.length = 4) (ht : DataW.trod enc Try.prog w 0 (fun _ => true) true m 35 cs = some y) (hz : Sz Try.prog 35 y.1) :
    ∃ a : Ac, a.cells = cs ∧ a.Good w := by
  match cs, hl with
  | [c0, c1, c2, c3], _ =>
    obtain ⟨_, _, t0, _⟩ := field_s (j := 0) Try.underlying35 ht hz rfl (by kernel_rfl) (by simp)
    obtain ⟨_, _, t1, _⟩ := field_s (j := 1) Try.underlying35 ht hz rfl (by kernel_rfl) (by simp)
    obtain ⟨_, _, t2, _⟩ := field_s (j := 2) Try.underlying35 ht hz rfl (by kernel_rfl) (by simp)
    obtain ⟨_, _, t3, z3⟩ := field_s (j := 3) Try.underlying35 ht hz rfl (by kernel_rfl) (by simp)
    obtain ⟨a0, e0, _, g0⟩ := DataW.trod_int Try.underlying3 t0
    obtain ⟨a1, e1, _, g1⟩ := DataW.trod_int Try.underlying3 t1
    obtain ⟨a2, e2, _, g2⟩ := DataW.trod_int Try.underlying32 t2
    obtain ⟨A, n, c, xs, e3, h2, h3, h4, h5, h6, h7⟩ := trod_ints (k := .u8) Try.underlying33 Try.underlying5 (by kernel_rfl) t3 z3
    simp at e0 e1 e2 e3
    subst e0 e1 e2 e3
    have q2 := bounds_u64 g2
    refine ⟨⟨a0, a1, a2, ⟨A, n, c, xs⟩⟩, rfl, g0, g1, q2.1, ?_, h6, fun x hx => ?_, ?_⟩
    · show a2 < _
      omega
    · have := bounds_u8 (h7 x hx)
      omega
    · have hb : Try.prog.bytesOf 5 = 1 := by kernel_rfl
      rw [hb] at h4
      unfold reachBytes at h4
      show n ≤ _
      omega
theorem open_acts_s {r : Reach} {b0 : Nat} {v : Value} {d : DataW H} {p : List MemPlace} (hv : Value.okWide Try.prog w r b0 22 v) (h : DataW.Trod enc Try.prog w 0 (fun _ => true) true 22 v d p) (hz : Sz Try.prog 22 d) :
    ∃ (A : Option Addr) (n c : Nat) (L : List Ac), v = .slice A n c ∧ n ≤ maxLen ∧ L.length = n ∧ Rd (fun b => b < w.heap.size) w 4 A n (L.flatMap Ac.cells) ∧ ∀ a ∈ L, a.Good w := by
  obtain ⟨a0, n0, c0, rfl⟩ := okWide_slice Try.underlying22 hv
  obtain ⟨fuel, hf⟩ := h
  obtain ⟨A, n, c, L, h1, h2, h3, h4, h5, h6, h7, -⟩ := trod_slk (k := 4) Try.underlying22 Ac.cells (by kernel_rfl) (by omega) (fun a => a.Good w) (fun cs m y hl ht hz => trod_act hl ht hz) hf hz
  exact ⟨A, n, c, L, h1, by omega, h5, h6, h7⟩
end

set_option maxHeartbeats 2000000 in
theorem long_law {p : Nat → Prop} (A : Option Addr) (n c : Nat) (L : List Ac) (w : World) (h : Rd p w 4 A n (L.flatMap Ac.cells)) (hL : L.length = n) (hn : n ≤ maxLen) (hb : ∀ a ∈ L, a.x.n ≤ 140737488355328) :
    Calls Try.prog 8 #[.slice A n c] w fun e w' => (∃ b, e = .returned (.bool b) ∧ (b = false → n ≤ 600 ∧ ∀ a ∈ L, a.x.n ≤ 200)) ∧ New w w' := by
  have HR := Lib.hid h
  have HL := Lib.hid hL
  have HB := Lib.hid hb
  unfold maxLen at hn
  clear h hL hb
  go_enter Try.func8, Try.ntmps8
  go_wp2_with fail
  go_loopw [7] (fun i wr => ∃ (j : Nat), j ≤ n ∧ i = .int .i64 j ∧ Hid (∀ a ∈ L.take j, a.x.n ≤ 200) ∧ Hid (New w wr)) (fun i _ => n - (intOf i).toNat)
  case atStart => exact ⟨0, Nat.zero_le _, rfl, Lib.hid (by simp), Lib.hid (New.refl w)⟩
  case round =>
    obtain ⟨j, hj, rfl, HS, HN⟩ := hrel
    by_cases hlt : j < n
    · obtain ⟨g, o, hl, rfl, -, -, hrg⟩ := rd_row (f := Ac.cells) (L := L) (fun _ => rfl) (by omega) (HN.out.rd HR.out) hlt
      have c0 : wr.cell? ⟨g, o + j * 4, none⟩ = some (.int .i64 L[j].kd) := hrg 0 _ rfl
      have c1 := hrg 1 _ rfl
      have c2 := hrg 2 _ rfl
      have c3 := hrg 3 _ rfl
      have hbd := HB.out L[j] (List.getElem_mem _)
      have hs : L.take (j + 1) = L.take j ++ [L[j]] := List.take_succ_eq_append_getElem hl
      have HN1 := fun (o : Obj) => Lib.hid (New.al HN.out o)
      have HST := Lib.hid hs
      generalize L[j] = a at c0 c1 c2 c3 hbd HST
      obtain ⟨kd, wy, pk, xA, xn, xc, xs⟩ := a
      dsimp only at c0 c1 c2 c3 hbd
      have hj0 : (0 : Int) ≤ (j : Int) := by omega
      have hjn : (j : Int) < (n : Int) := by omega
      clear hrg hl hs
      by_cases hbig : 200 < xn
      · as_aux_lemma =>
        go_wp2_with fail
        go_ret
        exact ⟨⟨true, rfl, fun h => by cases h⟩, (HN1 _).out⟩
      · have hsm : xn ≤ 200 := by omega
        clear hbig
        go_wp2_with fail
        go_roundw
        case rel =>
          refine ⟨j + 1, by omega, by go_num, Lib.hid fun a ha => ?_, HN1 _⟩
          rw [HST.out] at ha
          rcases List.mem_append.1 ha with ha | ha
          · exact HS.out a ha
          · obtain rfl := List.mem_singleton.1 ha
            exact hsm
        case measure => simp [intOf]; omega
    · as_aux_lemma =>
      obtain rfl : j = n := by omega
      go_wp2_with fail
      go_ret
      refine ⟨⟨_, rfl, fun h => ⟨?_, fun a ha => HS.out a ?_⟩⟩, HN.out⟩
      · have := of_decide_eq_false h
        omega
      · rw [List.take_of_length_le (by rw [HL.out]; omega)]
        exact ha
end Go.Proofs.Ytajoahhjgloefaa
