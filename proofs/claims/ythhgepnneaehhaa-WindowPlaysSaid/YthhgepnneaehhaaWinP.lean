/- Windows as plain lists of things that wait: the lists' laws. No condition. -/
import Derived.Test.YthhgepnneaehhaaMem
namespace Go.Proofs.Ythhgepnneaehhaa
open Go.RowKit

/-- A thing that waits: its number, the thing (one cell), its answer, whether it is answered. -/
structure Wt where
  num : Int
  thing : Value
  ans : Int
  done : Bool

def Wt.cells (x : Wt) : List Value := [.int .u64 x.num, x.thing, .int .i64 x.ans, .bool x.done]
def flat (L : List Wt) : List Value := L.flatMap Wt.cells

theorem flat_len (L : List Wt) : (flat L).length = L.length * 4 := by
  induction L with
  | nil => rfl
  | cons x L ih =>
    have : flat (x :: L) = x.cells ++ flat L := rfl
    rw [this, List.length_append, ih]
    simp [Wt.cells]; omega
theorem flat_get (L : List Wt) (i j : Nat) (hi : i < L.length) (hj : j < 4) : (flat L)[i * 4 + j]? = (L[i].cells)[j]? := by
  induction L generalizing i with
  | nil => simp at hi
  | cons x L ih =>
    have e : flat (x :: L) = x.cells ++ flat L := rfl
    have hx : x.cells.length = 4 := rfl
    rw [e]
    cases i with
    | zero => simp only [Nat.zero_mul, Nat.zero_add]; rw [List.getElem?_append_left (by omega)]; rfl
    | succ i =>
      rw [List.getElem?_append_right (by omega), hx]
      have : (i + 1) * 4 + j - 4 = i * 4 + j := by omega
      rw [this, ih i (by simpa using hi)]; rfl
theorem flat_app (L M : List Wt) : flat (L ++ M) = flat L ++ flat M := by simp [flat]
theorem flat_one (x : Wt) : flat [x] = x.cells := by simp [flat]

def place (L : List Wt) (a : Int) : Option Nat := L.findIdx? fun x => x.num == a
def placeI (L : List Wt) (a : Int) : Int := match place L a with | some i => i | none => -1

theorem place_some {L : List Wt} {a : Int} {i : Nat} (hi : i < L.length) (h : L[i].num = a) (hb : ∀ j, (hj : j < i) → (L[j]'(by omega)).num ≠ a) : place L a = some i := by
  unfold place
  rw [List.findIdx?_eq_some_iff_getElem]
  refine ⟨hi, by simpa using h, fun j hj => ?_⟩
  simpa using hb j hj
theorem place_none {L : List Wt} {a : Int} (h : ∀ j, (hj : j < L.length) → L[j].num ≠ a) : place L a = none := by
  unfold place
  rw [List.findIdx?_eq_none_iff]
  intro x hx
  obtain ⟨j, hj, rfl⟩ := List.getElem_of_mem hx
  simpa using h j hj
theorem place_lt {L : List Wt} {a : Int} {i : Nat} (h : place L a = some i) : ∃ hi : i < L.length, L[i].num = a := by
  unfold place at h
  rw [List.findIdx?_eq_some_iff_getElem] at h
  obtain ⟨hi, h1, _⟩ := h
  exact ⟨hi, by simpa using h1⟩
theorem placeI_some {L : List Wt} {a : Int} {i : Nat} (h : place L a = some i) : placeI L a = i := by unfold placeI; rw [h]
theorem placeI_none {L : List Wt} {a : Int} (h : place L a = none) : placeI L a = -1 := by unfold placeI; rw [h]

/-- The cells of thing i, from whatever holds the list. -/
theorem rd_elem {p : Nat → Prop} {w : World} {A : Option Addr} {n : Nat} {L : List Wt} (h : Rd p w 4 A n (flat L)) {i : Nat} (hi : i < n) :
    ∃ (g o : Nat) (hl : i < L.length), A = some ⟨g, o, none⟩ ∧ p g ∧ g < w.heap.size ∧ w.cell? ⟨g, o + i * 4, none⟩ = some (.int .u64 L[i].num) ∧ w.cell? ⟨g, o + i * 4 + 1, none⟩ = some L[i].thing ∧
      w.cell? ⟨g, o + i * 4 + 2, none⟩ = some (.int .i64 L[i].ans) ∧ w.cell? ⟨g, o + i * 4 + 3, none⟩ = some (.bool L[i].done) := by
  obtain ⟨g, o, e, hp, hb, hc⟩ := h.out (by omega) (by omega)
  have hl : i < L.length := by have := h.1; rw [flat_len] at this; omega
  refine ⟨g, o, hl, e, hp, hb, hc (i * 4) _ ?_, hc (i * 4 + 1) _ ?_, hc (i * 4 + 2) _ ?_, hc (i * 4 + 3) _ ?_⟩
  · exact flat_get L i 0 hl (by omega)
  · exact flat_get L i 1 hl (by omega)
  · exact flat_get L i 2 hl (by omega)
  · exact flat_get L i 3 hl (by omega)

theorem flat_set (L : List Wt) (i : Nat) (hi : i < L.length) (x : Wt) (hn : x.num = L[i].num) (ht : x.thing = L[i].thing) :
    ((flat L).set (i * 4 + 2) (.int .i64 x.ans)).set (i * 4 + 3) (.bool x.done) = flat (L.set i x) := by
  induction L generalizing i with
  | nil => simp at hi
  | cons y L ih =>
    have e : ∀ (z : Wt) M, flat (z :: M) = z.cells ++ flat M := fun _ _ => rfl
    have hy : y.cells.length = 4 := rfl
    cases i with
    | zero =>
      simp only [List.getElem_cons_zero] at hn ht
      simp only [List.set_cons_zero, e, Nat.zero_mul, Nat.zero_add]
      rw [List.set_append_left _ _ (by omega), List.set_append_left _ _ (by simp [hy])]
      congr 1
      simp [Wt.cells, hn, ht]
    | succ i =>
      simp only [List.getElem_cons_succ] at hn ht
      simp only [List.set_cons_succ, e]
      rw [List.set_append_right _ _ (by omega), List.set_append_right _ _ (by omega), ← ih i (by simpa using hi) hn ht]
      have h1 : (i + 1) * 4 + 2 - y.cells.length = i * 4 + 2 := by omega
      have h2 : (i + 1) * 4 + 3 - y.cells.length = i * 4 + 3 := by omega
      rw [h1, h2]
theorem flat_setAll (L : List Wt) (i : Nat) (hi : i < L.length) (x : Wt) :
    (((((flat L).set (i * 4) (.int .u64 x.num)).set (i * 4 + 1) x.thing).set (i * 4 + 2) (.int .i64 x.ans)).set (i * 4 + 3) (.bool x.done)) = flat (L.set i x) := by
  induction L generalizing i with
  | nil => simp at hi
  | cons y L ih =>
    have e : ∀ (z : Wt) M, flat (z :: M) = z.cells ++ flat M := fun _ _ => rfl
    have hy : y.cells.length = 4 := rfl
    cases i with
    | zero =>
      simp only [List.set_cons_zero, e, Nat.zero_mul, Nat.zero_add]
      rw [List.set_append_left _ _ (by omega), List.set_append_left _ _ (by simp [hy]), List.set_append_left _ _ (by simp [hy]), List.set_append_left _ _ (by simp [hy])]
      congr 1
    | succ i =>
      simp only [List.set_cons_succ, e]
      rw [List.set_append_right _ _ (by omega), List.set_append_right _ _ (by omega), List.set_append_right _ _ (by omega), List.set_append_right _ _ (by omega), ← ih i (by simpa using hi)]
      have h0 : (i + 1) * 4 - y.cells.length = i * 4 := by omega
      have h3 : (i + 1) * 4 + 1 - y.cells.length = i * 4 + 1 := by omega
      have h1 : (i + 1) * 4 + 2 - y.cells.length = i * 4 + 2 := by omega
      have h2 : (i + 1) * 4 + 3 - y.cells.length = i * 4 + 3 := by omega
      rw [h0, h1, h2, h3]

/-- The list behind an answer, and whether it was taken. -/
def answerL (L : List Wt) (a x : Int) : List Wt × Bool :=
  match place L a with
  | none => (L, false)
  | some i => match L[i]? with
    | none => (L, false)
    | some y => if y.done then (L, false) else (L.set i { y with ans := x, done := true }, true)
theorem answerL_none {L : List Wt} {a x : Int} (h : place L a = none) : answerL L a x = (L, false) := by simp [answerL, h]
theorem answerL_done {L : List Wt} {a x : Int} {i : Nat} (h : place L a = some i) (hi : i < L.length) (hd : L[i].done = true) : answerL L a x = (L, false) := by
  simp [answerL, h, List.getElem?_eq_getElem hi, hd]
theorem answerL_some {L : List Wt} {a x : Int} {i : Nat} (h : place L a = some i) (hi : i < L.length) (hd : L[i].done = false) : answerL L a x = (L.set i { L[i] with ans := x, done := true }, true) := by
  simp [answerL, h, List.getElem?_eq_getElem hi, hd]
theorem answerL_len (L : List Wt) (a x : Int) : (answerL L a x).1.length = L.length := by
  unfold answerL
  split
  · rfl
  · split
    · rfl
    · split <;> simp
def renewL (L : List Wt) (a : Int) (next : Int) (t : Value) : Option (List Wt) :=
  (place L a).map fun i => L.set i ⟨next, t, 0, false⟩
/-- What Next hands back, and the list behind it. -/
def nextL (L : List Wt) : List Wt × Option Wt :=
  match L with
  | [] => ([], none)
  | x :: r => if x.done then (r, some x) else (x :: r, none)

end Go.Proofs.Ythhgepnneaehhaa
