/- The reference's Do. No condition but that all can be read. -/
import Derived.Test.YtfhinmjpokollaaKvN
namespace Go.Proofs.Ytfhinmjpokollaa
set_option linter.unusedVariables false
set_option linter.unusedSimpArgs false
set_option linter.constructorNameAsVariable false
open Go.RowKit Go.Maps Go.Sort

theorem rfold_len (ge : List Int → List Int → Bool) (c : Ch) (L : List Ch) : (rfold ge c L).1.length ≤ L.length + 1 ∧ ((rfold ge c L).2 = false → (rfold ge c L).1.length ≤ L.length) := by
  suffices h : ∀ j, j ≤ L.length → (rfold ge c (L.take j)).1.length ≤ j + 1 ∧ ((rfold ge c (L.take j)).2 = false → (rfold ge c (L.take j)).1.length ≤ j) by
    have := h L.length (Nat.le_refl _)
    rwa [List.take_length] at this
  intro j
  induction j with
  | zero => intro _; simp [rfold]
  | succ j ih =>
    intro hj
    obtain ⟨h1, h2⟩ := ih (by omega)
    rw [rfold_take (by omega)]
    generalize rfold ge c (L.take j) = f at h1 h2
    obtain ⟨R, db⟩ := f
    generalize L[j] = x
    unfold rstep
    dsimp only at h1 h2 ⊢
    cases db
    · have h2 := h2 rfl
      cases ge x.k.xs c.k.xs
      · by_cases he : x.k.xs = c.k.xs
        · simp [he]; omega
        · simp [he]; omega
      · by_cases he : x.k.xs = c.k.xs
        · simp [he]; omega
        · simp [he]; omega
    · by_cases he : x.k.xs = c.k.xs
      · simp [he]; omega
      · simp [he]; omega
theorem rapp_len (ge : List Int → List Int → Bool) (c : Ch) (L : List Ch) : (rapp ge c L).length ≤ L.length + 1 := by
  obtain ⟨h1, h2⟩ := rfold_len ge c L
  unfold rapp
  cases hd : (rfold ge c L).2
  · have := h2 hd
    simp; omega
  · simpa using h1
theorem rfold_mem (ge : List Int → List Int → Bool) (c : Ch) (L : List Ch) : ∀ x ∈ (rfold ge c L).1, x ∈ L ∨ x = c := by
  suffices h : ∀ j, j ≤ L.length → ∀ x ∈ (rfold ge c (L.take j)).1, x ∈ L ∨ x = c by
    have := h L.length (Nat.le_refl _)
    rwa [List.take_length] at this
  intro j
  induction j with
  | zero => intro _ x hx; simp [rfold] at hx
  | succ j ih =>
    intro hj x hx
    have ih := ih (by omega)
    rw [rfold_take (by omega)] at hx
    have hm : L[j] ∈ L := List.getElem_mem _
    generalize rfold ge c (L.take j) = f at ih hx
    generalize L[j] = y at hm hx
    unfold rstep at hx
    dsimp only at hx
    have h1 : x ∈ (if !f.2 && ge y.k.xs c.k.xs then (f.1 ++ [c], true) else f).1 → x ∈ L ∨ x = c := by
      intro h
      split at h
      · rcases List.mem_append.1 h with h | h
        · exact ih x h
        · exact .inr (List.mem_singleton.1 h)
      · exact ih x h
    split at hx
    · exact h1 hx
    · rcases List.mem_append.1 hx with h | h
      · exact h1 h
      · exact .inl ((List.mem_singleton.1 h) ▸ hm)
theorem rapp_mem (ge : List Int → List Int → Bool) (c : Ch) (L : List Ch) : ∀ x ∈ rapp ge c L, x ∈ L ∨ x = c := by
  intro x hx
  unfold rapp at hx
  split at hx
  · exact rfold_mem ge c L x hx
  · rcases List.mem_append.1 hx with h | h
    · exact rfold_mem ge c L x h
    · exact .inr (List.mem_singleton.1 h)
def rdo (L C : List Ch) : List Ch := C.foldl (fun T c => rapp geS c T) L
theorem rdo_take {L C : List Ch} {k : Nat} (h : k < C.length) : rdo L (C.take (k + 1)) = rapp geS C[k] (rdo L (C.take k)) := by
  unfold rdo
  rw [List.take_succ_eq_append_getElem h, List.foldl_append]
  rfl
theorem szs {P : Nat → Prop} {w : World} {x : Fm} (h : x.In P w) : x.In (fun b => b < w.heap.size) w := ⟨rd_szs h.rd, h.byt⟩
theorem Ch.In.szs {P : Nat → Prop} {w : World} {c : Ch} (h : c.In P w) : c.In (fun b => b < w.heap.size) w := ⟨Go.Proofs.Ytfhinmjpokollaa.szs h.k, Go.Proofs.Ytfhinmjpokollaa.szs h.v⟩
/-- A slice of changes, of a table of the reference. -/
structure RTb (w : World) (A : Option Addr) (n : Nat) (L : List Ch) : Prop where
  rd : Rd (fun b => b < w.heap.size) w 3 A n (L.flatMap Ch.cells)
  len : L.length = n
  el : ∀ c ∈ L, c.In (fun b => b < w.heap.size) w
theorem cells_len (L : List Ch) : (L.flatMap Ch.cells).length = L.length * 3 := by
  induction L with
  | nil => rfl
  | cons c L ih => rw [List.flatMap_cons, List.length_append, ih]; simp [Ch.cells]; omega
theorem RTb.new {w w' : World} {A : Option Addr} {n : Nat} {L : List Ch} (h : RTb w A n L) (hN : New w w') : RTb w' A n L :=
  ⟨rd_szs (hN.rd h.rd), h.len, fun c hc => Ch.In.szs ((h.el c hc).new hN)⟩
theorem RTb.nil (w : World) : RTb w none 0 [] := ⟨Rd.nil, rfl, fun c h => by cases h⟩
theorem rapply_tb (A : Option Addr) (n c : Nat) (L : List Ch) (y : Ch) (w : World) (h : RTb w A n L) (hn : n ≤ 100000000) {q : Nat → Prop} (hy : y.In q w) :
    Calls Try.prog 23 #[.slice A n c, .agg y.cells.toArray] w fun e w' => (∃ A' n' c', e = .returned (.slice A' n' c') ∧ RTb w' A' n' (rapp geS y L)) ∧ New w w' := by
  refine (rapply_any A n c L y w h.rd h.len hn h.el hy).mono ?_
  rintro e w' ⟨⟨A', n', c', rfl, -, hO⟩, hN⟩
  refine ⟨⟨A', n', c', rfl, rd_szs (Rd.own hO rfl), ?_, fun x hx => ?_⟩, hN⟩
  · have := hO.1
    rw [cells_len] at this
    omega
  · rcases rapp_mem geS y L x hx with hx | rfl
    · exact Ch.In.szs ((h.el x hx).new hN)
    · exact Ch.In.szs (hy.new hN)
theorem rdo_len (L C : List Ch) : (rdo L C).length ≤ L.length + C.length := by
  unfold rdo
  induction C generalizing L with
  | nil => simp
  | cons c C ih =>
    rw [List.foldl_cons]
    have := ih (rapp geS c L)
    have := rapp_len geS c L
    rw [List.length_cons]
    omega
set_option maxRecDepth 100000 in
set_option maxHeartbeats 2000000 in
theorem rdo_any (A : Option Addr) (n c : Nat) (L : List Ch) (B : Option Addr) (m d : Nat) (C : List Ch) (w : World) (h : RTb w A n L) (hC : RTb w B m C) (hn : n + m ≤ 1000000) :
    Calls Try.prog 18 #[.slice A n c, .slice B m d] w fun e w' => (∃ A' n' c', e = .returned (.slice A' n' c') ∧ RTb w' A' n' (rdo L C)) ∧ New w w' := by
  have H := Lib.hid h
  have HC := Lib.hid hC
  clear h hC
  go_enter Try.func18, Try.ntmps18
  go_wp2_with fail
  go_loopw [0, 5] (fun s i wr => ∃ (j n' : Nat) (A' : Option Addr) (c' : Nat), j ≤ m ∧ i = .int .i64 j ∧ s = .slice A' n' c' ∧ Hid (RTb wr A' n' (rdo L (C.take j))) ∧ Hid (New w wr)) (fun s i _ => m - (intOf i).toNat)
  case atStart => exact ⟨0, n, A, c, Nat.zero_le _, rfl, rfl, H, Lib.hid (New.refl w)⟩
  case round =>
    obtain ⟨j, n', A', c', hj, rfl, rfl, HT, HN⟩ := hrel
    by_cases hlt : j < m
    · as_aux_lemma =>
      obtain ⟨g, o, hl, rfl, -, -, hrg⟩ := rd_row (f := Ch.cells) (L := C) (fun _ => rfl) (by omega) (HN.out.rd HC.out.rd) hlt
      have c0 : wr.cell? ⟨g, o + j * 3, none⟩ = some (.slice C[j].k.A C[j].k.n C[j].k.c) := hrg 0 _ rfl
      have c1 : wr.cell? ⟨g, o + j * 3 + 1, none⟩ = some (.slice C[j].v.A C[j].v.n C[j].v.c) := hrg 1 _ rfl
      have c2 : wr.cell? ⟨g, o + j * 3 + 2, none⟩ = some (.bool C[j].d) := hrg 2 _ rfl
      have hin := (HC.out.el C[j] (List.getElem_mem _)).new HN.out
      have hst := rdo_take (L := L) hl
      have hnl : n' ≤ 1000000 := by
        have h1 := HT.out.len
        have h2 := rdo_len L (C.take j)
        have h3 := H.out.len
        have h4 := HC.out.len
        rw [List.length_take] at h2
        omega
      generalize C[j] = x at c0 c1 c2 hin hst
      have HIN := Lib.hid hin
      have HST := Lib.hid hst
      have hcv : (.agg x.cells.toArray : Value) = .agg #[.slice x.k.A x.k.n x.k.c, .slice x.v.A x.v.n x.v.c, .bool x.d] := rfl
      have HCV := Lib.hid hcv
      have hj0 : (0 : Int) ≤ (j : Int) := by omega
      have hjn : (j : Int) < (m : Int) := by omega
      clear hrg hl hst hin hcv
      go_wp2_with fail
      rw [← HCV.out]
      refine (rapply_tb A' n' c' _ x wr HT.out (by omega) HIN.out).mono ?_
      rintro e w3 ⟨⟨A3, n3, c3, rfl, hT3⟩, hN3⟩
      rw [← HST.out] at hT3
      have HT3 := Lib.hid hT3
      have HN3 := Lib.hid (HN.out.tr hN3)
      clear hT3 hN3
      go_wp2_with fail
      go_roundw
      case rel => exact ⟨j + 1, n3, A3, c3, by omega, by go_num, rfl, HT3, HN3⟩
      case measure => simp [intOf]; omega
    · as_aux_lemma =>
      obtain rfl : j = m := by omega
      go_wp2_with fail
      go_ret
      have ht : C.take j = C := by rw [← HC.out.len, List.take_length]
      have hT := HT.out
      rw [ht] at hT
      exact ⟨⟨A', n', c', rfl, hT⟩, HN.out⟩
end Go.Proofs.Ytfhinmjpokollaa
