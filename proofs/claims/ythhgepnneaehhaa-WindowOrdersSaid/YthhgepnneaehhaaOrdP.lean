/- WindowOrders, the plain part: the window's list as a function of what was added, of what was answered, of how many have gone. No condition. -/
import Derived.Test.YthhgepnneaehhaaWinP
import Derived.Test.YthhgepnneaehhaaMap
namespace Go.Proofs.Ythhgepnneaehhaa
open Go.RowKit

/-- What waits: the things r, numbered from g on; m says which numbers are answered, and how. -/
def mkW (m : Int → Option Int) : Nat → List ByteArray → List Wt
  | _, [] => []
  | g, s :: r => ⟨g, .string s, (m g).getD 0, (m g).isSome⟩ :: mkW m (g + 1) r

theorem mkW_len (m : Int → Option Int) : ∀ (r : List ByteArray) (g : Nat), (mkW m g r).length = r.length
  | [], _ => rfl
  | _ :: r, g => by simp [mkW, mkW_len m r (g + 1)]
theorem mkW_get (m : Int → Option Int) : ∀ (r : List ByteArray) (g i : Nat), (mkW m g r)[i]? = (r[i]?).map fun s => ⟨((g + i : Nat) : Int), .string s, (m ((g + i : Nat) : Int)).getD 0, (m ((g + i : Nat) : Int)).isSome⟩
  | [], g, i => by simp [mkW]
  | s :: r, g, 0 => by simp [mkW]
  | s :: r, g, i + 1 => by
    simp only [mkW, List.getElem?_cons_succ]
    rw [mkW_get m r (g + 1) i]
    have : g + 1 + i = g + (i + 1) := by omega
    rw [this]
theorem mkW_one (m : Int → Option Int) (r : List ByteArray) (g : Nat) : ∀ x ∈ mkW m g r, x.thing.oneCell' = true := by
  intro x hx
  obtain ⟨i, hi, rfl⟩ := List.getElem_of_mem hx
  have h := mkW_get m r g i
  rw [List.getElem?_eq_getElem hi] at h
  cases hr : r[i]? with
  | none => rw [hr] at h; simp at h
  | some s => rw [hr] at h; simp only [Option.map_some, Option.some.injEq] at h; rw [h]; rfl
theorem mkW_snoc (m : Int → Option Int) (r : List ByteArray) (s : ByteArray) (g : Nat) : mkW m g (r ++ [s]) = mkW m g r ++ [⟨((g + r.length : Nat) : Int), .string s, (m ((g + r.length : Nat) : Int)).getD 0, (m ((g + r.length : Nat) : Int)).isSome⟩] := by
  induction r generalizing g with
  | nil => rfl
  | cons x r ih =>
    simp only [List.cons_append, mkW, List.length_cons]
    rw [ih (g + 1)]
    have : g + 1 + r.length = g + (r.length + 1) := by omega
    rw [this]
theorem mkW_elem {m : Int → Option Int} {r : List ByteArray} {g i : Nat} (hi : i < r.length) : ∃ (hl : i < (mkW m g r).length), (mkW m g r)[i] = ⟨((g + i : Nat) : Int), .string r[i], (m ((g + i : Nat) : Int)).getD 0, (m ((g + i : Nat) : Int)).isSome⟩ := by
  have hl : i < (mkW m g r).length := by rw [mkW_len]; exact hi
  refine ⟨hl, ?_⟩
  have h := mkW_get m r g i
  rw [List.getElem?_eq_getElem hl, List.getElem?_eq_getElem hi] at h
  simpa using h
theorem place_mkW {m : Int → Option Int} {r : List ByteArray} {g : Nat} {a : Int} : place (mkW m g r) a = if (g : Int) ≤ a ∧ a < ((g + r.length : Nat) : Int) then some (a - g).toNat else none := by
  by_cases h : (g : Int) ≤ a ∧ a < ((g + r.length : Nat) : Int)
  · rw [if_pos h]
    have hi : (a - g).toNat < r.length := by omega
    obtain ⟨hl, he⟩ := mkW_elem (m := m) (g := g) hi
    refine place_some hl (by rw [he]; show ((g + (a - g).toNat : Nat) : Int) = a; omega) fun j hj => ?_
    obtain ⟨hl', he'⟩ := mkW_elem (m := m) (g := g) (show j < r.length by omega)
    rw [he']; show ((g + j : Nat) : Int) ≠ a; omega
  · rw [if_neg h]
    refine place_none fun j hj => ?_
    rw [mkW_len] at hj
    obtain ⟨hl', he'⟩ := mkW_elem (m := m) (g := g) hj
    rw [he']; show ((g + j : Nat) : Int) ≠ a; omega

def updM (m : Int → Option Int) (a x : Int) : Int → Option Int := fun b => if b = a then some x else m b

theorem answer_yes {m : Int → Option Int} {r : List ByteArray} {g : Nat} {a x : Int} (h : (g : Int) ≤ a ∧ a < ((g + r.length : Nat) : Int)) (hm : m a = none) : answerL (mkW m g r) a x = (mkW (updM m a x) g r, true) := by
  have hi : (a - g).toNat < r.length := by omega
  have ha : ((g + (a - g).toNat : Nat) : Int) = a := by omega
  obtain ⟨hl, he⟩ := mkW_elem (m := m) (g := g) hi
  have hp : place (mkW m g r) a = some (a - g).toNat := by rw [place_mkW, if_pos h]
  rw [answerL_some hp hl (by rw [he, ha, hm]; rfl), he, ha]
  refine Prod.ext ?_ rfl
  refine List.ext_getElem? fun j => ?_
  simp only
  rw [mkW_get, List.getElem?_set]
  by_cases hj : (a - g).toNat = j
  · subst hj
    rw [if_pos rfl, if_pos hl, List.getElem?_eq_getElem hi, Option.map_some, ha]
    simp [updM]
  · rw [if_neg hj, mkW_get]
    cases r[j]? with
    | none => rfl
    | some s =>
      have hne : ((g + j : Nat) : Int) ≠ a := by omega
      simp [updM]
      constructor <;> rw [if_neg (by omega)]
theorem answer_no {m : Int → Option Int} {r : List ByteArray} {g : Nat} {a x : Int} (h : ¬ ((g : Int) ≤ a ∧ a < ((g + r.length : Nat) : Int)) ∨ (m a).isSome = true) : answerL (mkW m g r) a x = (mkW m g r, false) := by
  by_cases hr : (g : Int) ≤ a ∧ a < ((g + r.length : Nat) : Int)
  · have hm : (m a).isSome = true := by rcases h with h | h; exact absurd hr h; exact h
    have hi : (a - g).toNat < r.length := by omega
    have ha : ((g + (a - g).toNat : Nat) : Int) = a := by omega
    obtain ⟨hl, he⟩ := mkW_elem (m := m) (g := g) hi
    have hp : place (mkW m g r) a = some (a - g).toNat := by rw [place_mkW, if_pos hr]
    exact answerL_done hp hl (by rw [he, ha]; exact hm)
  · exact answerL_none (by rw [place_mkW, if_neg hr])

theorem mkW_cons {m : Int → Option Int} {th : List ByteArray} {g : Nat} (hg : g < th.length) : mkW m g (th.drop g) = ⟨g, .string th[g], (m g).getD 0, (m g).isSome⟩ :: mkW m (g + 1) (th.drop (g + 1)) := by
  rw [List.drop_eq_getElem_cons hg]; rfl
theorem nextL_mkW {m : Int → Option Int} {th : List ByteArray} {g : Nat} (h : g < th.length → (m g).isSome = false) : (nextL (mkW m g (th.drop g))).2 = none := by
  by_cases hg : g < th.length
  · rw [mkW_cons hg]
    simp [nextL, h hg]
  · rw [List.drop_eq_nil_of_le (by omega)]; rfl
theorem nextL_not {m : Int → Option Int} {th : List ByteArray} {g : Nat} (h : (nextL (mkW m g (th.drop g))).2 = none) (hg : g < th.length) : (m g).isSome = false := by
  rw [mkW_cons hg] at h
  cases hm : (m g).isSome with
  | false => rfl
  | true => simp [nextL, hm] at h
end Go.Proofs.Ythhgepnneaehhaa
