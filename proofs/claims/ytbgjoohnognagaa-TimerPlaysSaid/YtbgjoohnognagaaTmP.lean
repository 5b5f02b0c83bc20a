/- Things that run, in plain words: five cells each; their places; what is due. No condition. -/
import Derived.Test.YtbgjoohnognagaaNew
import Derived.Test.YtbgjoohnognagaaOpen
namespace Go.Proofs.Ytbgjoohnognagaa
open Go.RowKit

/-- A thing that runs: its number; when it began, when it is due, its interval, how often it was sent. -/
structure Rn where
  n : Int
  b : Int
  d : Int
  l : Int
  s : Int
def Rn.cells (x : Rn) : List Value := [.int .u64 x.n, .int .i64 x.b, .int .i64 x.d, .int .i64 x.l, .int .i64 x.s]
def flat (L : List Rn) : List Value := L.flatMap Rn.cells

theorem flat_len (L : List Rn) : (flat L).length = L.length * 5 := by
  induction L with
  | nil => rfl
  | cons x L ih =>
    have : flat (x :: L) = x.cells ++ flat L := rfl
    rw [this, List.length_append, ih]
    simp [Rn.cells]
    omega
theorem flat_get (L : List Rn) (i j : Nat) (hi : i < L.length) (hj : j < 5) : (flat L)[i * 5 + j]? = (L[i].cells)[j]? := fm_get Rn.cells 5 L i j hi (fun _ _ => rfl) hj
theorem flat_app (L M : List Rn) : flat (L ++ M) = flat L ++ flat M := by simp [flat]
theorem flat_one (x : Rn) : flat [x] = x.cells := by simp [flat]
theorem flat_cell (L : List Rn) : ∀ u ∈ flat L, u.oneCell' = true := by
  intro u hu
  simp only [flat, List.mem_flatMap] at hu
  obtain ⟨x, _, hu⟩ := hu
  simp [Rn.cells] at hu
  rcases hu with rfl | rfl | rfl | rfl | rfl <;> rfl
theorem flat_del (L : List Rn) (i : Nat) (hi : i < L.length) : (flat L).take (i * 5) ++ (flat L).drop ((i + 1) * 5) = flat (L.eraseIdx i) := by
  induction L generalizing i with
  | nil => simp at hi
  | cons x L ih =>
    have e : flat (x :: L) = x.cells ++ flat L := rfl
    have hl : x.cells.length = 5 := rfl
    rw [e]
    rcases i with _ | i
    · simp [hl, List.drop_append]
    · have h1 : (i + 1) * 5 = x.cells.length + i * 5 := by rw [hl]; omega
      have h2 : (i + 1 + 1) * 5 = x.cells.length + (i + 1) * 5 := by rw [hl]; omega
      rw [h1, h2, List.take_length_add_append, List.drop_length_add_append, List.append_assoc, ih i (by simpa using hi)]
      rfl

/-- Where a number is. -/
def place (L : List Rn) (a : Int) : Option Nat := L.findIdx? fun x => x.n == a
def placeI (L : List Rn) (a : Int) : Int := match place L a with | some i => i | none => -1
theorem place_some {L : List Rn} {a : Int} {i : Nat} (hi : i < L.length) (h : L[i].n = a) (hb : ∀ j, (hj : j < i) → (L[j]'(by omega)).n ≠ a) : place L a = some i := by
  unfold place
  rw [List.findIdx?_eq_some_iff_getElem]
  refine ⟨hi, by simpa using h, fun j hj => ?_⟩
  simpa using hb j hj
theorem place_none {L : List Rn} {a : Int} (h : ∀ j, (hj : j < L.length) → L[j].n ≠ a) : place L a = none := by
  unfold place
  rw [List.findIdx?_eq_none_iff]
  intro x hx
  obtain ⟨j, hj, rfl⟩ := List.mem_iff_getElem.1 hx
  simpa using h j hj
theorem place_lt {L : List Rn} {a : Int} {i : Nat} (h : place L a = some i) : ∃ hi : i < L.length, L[i].n = a := by
  unfold place at h
  rw [List.findIdx?_eq_some_iff_getElem] at h
  obtain ⟨hi, h1, _⟩ := h
  exact ⟨hi, by simpa using h1⟩
theorem placeI_some {L : List Rn} {a : Int} {i : Nat} (h : place L a = some i) : placeI L a = i := by unfold placeI; rw [h]
theorem placeI_none {L : List Rn} {a : Int} (h : place L a = none) : placeI L a = -1 := by unfold placeI; rw [h]

/-- A thing of a list that reads as these. -/
theorem rd_elem {p : Nat → Prop} {w : World} {A : Option Addr} {n : Nat} {L : List Rn} (h : Rd p w 5 A n (flat L)) {i : Nat} (hi : i < n) :
    ∃ (g o : Nat) (hl : i < L.length), A = some ⟨g, o, none⟩ ∧ p g ∧ g < w.heap.size ∧ w.cell? ⟨g, o + i * 5, none⟩ = some (.int .u64 L[i].n) ∧ w.cell? ⟨g, o + i * 5 + 1, none⟩ = some (.int .i64 L[i].b) ∧
      w.cell? ⟨g, o + i * 5 + 2, none⟩ = some (.int .i64 L[i].d) ∧ w.cell? ⟨g, o + i * 5 + 3, none⟩ = some (.int .i64 L[i].l) ∧ w.cell? ⟨g, o + i * 5 + 4, none⟩ = some (.int .i64 L[i].s) := by
  obtain ⟨g, o, hA, hp, hg, hc⟩ := h.out (by omega) (by omega)
  have hl : i < L.length := by have := h.1; rw [flat_len] at this; omega
  have key : ∀ j, (hj : j < 5) → w.cell? ⟨g, o + (i * 5 + j), none⟩ = (L[i].cells)[j]? := fun j hj => by
    have hj' : j < (L[i].cells).length := hj
    have := flat_get L i j hl hj
    rw [List.getElem?_eq_getElem hj'] at this
    rw [hc _ _ this, List.getElem?_eq_getElem hj']
  refine ⟨g, o, hl, hA, hp, hg, ?_, ?_, ?_, ?_, ?_⟩
  · exact key 0 (by omega)
  · rw [Nat.add_assoc]; exact key 1 (by omega)
  · rw [Nat.add_assoc]; exact key 2 (by omega)
  · rw [Nat.add_assoc]; exact key 3 (by omega)
  · rw [Nat.add_assoc]; exact key 4 (by omega)

/-- A tick that may be. -/
def tickZ (n : Int) : Int := if 1099511627776 < (if n < 0 then 0 else n) then 1099511627776 else (if n < 0 then 0 else n)
theorem tickZ_in (n : Int) : 0 ≤ tickZ n ∧ tickZ n ≤ 1099511627776 := by unfold tickZ; split <;> split <;> omega

/-- What is due: those that are left, that are sent again, that are late. -/
structure Dues where
  left : List Rn
  again : List Int
  late : List Int
def longer (r : Rn) (most : Int) : Int := if most < 2 * r.l then most else 2 * r.l
def nextRun (now most : Int) (r : Rn) : Rn := ⟨r.n, r.b, now + longer r most, longer r most, r.s + 1⟩
def dueStep (now most limit : Int) (a : Dues) (r : Rn) : Dues :=
  if now < r.d then ⟨a.left ++ [r], a.again, a.late⟩
  else if limit ≤ r.s then ⟨a.left, a.again, a.late ++ [r.n]⟩
  else ⟨a.left ++ [nextRun now most r], a.again ++ [r.n], a.late⟩
def dues (now most limit : Int) (L : List Rn) : Dues := L.foldl (dueStep now most limit) ⟨[], [], []⟩
theorem dues_snoc (now most limit : Int) (L : List Rn) (r : Rn) : dues now most limit (L ++ [r]) = dueStep now most limit (dues now most limit L) r := by simp [dues]
theorem dues_wait {now most limit : Int} {a : Dues} {r : Rn} (h : now < r.d) : dueStep now most limit a r = ⟨a.left ++ [r], a.again, a.late⟩ := if_pos h
theorem dues_late {now most limit : Int} {a : Dues} {r : Rn} (h : ¬ now < r.d) (h2 : limit ≤ r.s) : dueStep now most limit a r = ⟨a.left, a.again, a.late ++ [r.n]⟩ := by rw [dueStep, if_neg h, if_pos h2]
theorem dues_again {now most limit : Int} {a : Dues} {r : Rn} (h : ¬ now < r.d) (h2 : ¬ limit ≤ r.s) : dueStep now most limit a r = ⟨a.left ++ [nextRun now most r], a.again ++ [r.n], a.late⟩ := by rw [dueStep, if_neg h, if_neg h2]
theorem dues_len (now most limit : Int) (L : List Rn) : (dues now most limit L).left.length ≤ L.length ∧ (dues now most limit L).again.length ≤ L.length ∧ (dues now most limit L).late.length ≤ L.length := by
  have key : ∀ (L : List Rn) (a : Dues), (L.foldl (dueStep now most limit) a).left.length ≤ a.left.length + L.length ∧ (L.foldl (dueStep now most limit) a).again.length ≤ a.again.length + L.length ∧ (L.foldl (dueStep now most limit) a).late.length ≤ a.late.length + L.length := by
    intro L
    induction L with
    | nil => intro a; simp
    | cons r L ih =>
      intro a
      have h := ih (dueStep now most limit a r)
      have hs : (dueStep now most limit a r).left.length ≤ a.left.length + 1 ∧ (dueStep now most limit a r).again.length ≤ a.again.length + 1 ∧ (dueStep now most limit a r).late.length ≤ a.late.length + 1 := by
        unfold dueStep; split
        · simp
        · split <;> simp
      simp only [List.foldl_cons, List.length_cons]
      omega
  have := key L ⟨[], [], []⟩
  simpa [dues] using this

/-- Bounds of what runs. -/
structure Rn.Fair (r : Rn) : Prop where
  b0 : 0 ≤ r.b
  b1 : r.b ≤ 1099511627776
  l0 : 0 ≤ r.l
  l1 : r.l ≤ 65536
  s0 : 0 ≤ r.s
  s1 : r.s ≤ 1001
  d0 : 0 ≤ r.d
  d1 : r.d ≤ 1099511700000
end Go.Proofs.Ytbgjoohnognagaa
