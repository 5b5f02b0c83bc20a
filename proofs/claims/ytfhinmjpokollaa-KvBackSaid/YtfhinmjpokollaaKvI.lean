/- A string's bytes, as memory. No condition. -/
import Derived.Test.YtfhinmjpokollaaKvH
import Derived.Laws.IdiomStrings
namespace Go.Proofs.Ytfhinmjpokollaa
set_option linter.unusedVariables false
set_option linter.unusedSimpArgs false
set_option linter.constructorNameAsVariable false
open Go.RowKit Go.Maps Go.Sort

theorem conv_back (xs : List Int) (hb : Byt xs) (w : World) : ∃ (c : Nat) (w' : World), (convert 9 39 (.string (strOfNums xs))).run Try.prog w = .ok (.slice (some ⟨w.heap.size, 0, none⟩) xs.length c) w' ∧ New w w' ∧ Rd (fun k => k = w.heap.size) w' 1 (some ⟨w.heap.size, 0, none⟩) xs.length (u8s xs) := by
  have h := Go.run_bytes_of_string (P := Try.prog) w 9 39 5 (strOfNums xs) Try.underlying9 Try.underlying39 Try.underlying5
  rw [strOfNums_size] at h
  refine ⟨_, _, h, New.al (New.dr (New.refl w)) _, u8s_len xs ▸ by omega, fun _ => ⟨_, rfl, rfl, by simp, fun j u hu => ?_⟩⟩
  have hj : j < xs.length := by
    have := (List.getElem?_eq_some_iff.1 hu).1
    rwa [u8s_len] at this
  have hx := hb _ (List.getElem_mem hj)
  have hu' : u = .int .u8 xs[j] := by
    unfold u8s at hu
    rw [List.getElem?_map, List.getElem?_eq_getElem hj] at hu
    simpa using hu.symm
  subst hu'
  have hd : (strOfNums xs).data[j]? = some (UInt8.ofNat xs[j].toNat) := by
    have h1 := strs_of (xs := xs)
    have h2 : (strOfNums xs).data.toList[j]? = some (UInt8.ofNat xs[j].toNat) := by
      rw [h1, List.getElem?_map, List.getElem?_eq_getElem hj]
      rfl
    rwa [Array.getElem?_toList] at h2
  have hds : j < (strOfNums xs).data.size := (Array.getElem?_eq_some_iff.1 hd).1
  have hcs : (bytesRow (strOfNums xs) (grownCap w xs.length 0 5))[j]? = some (.int .u8 xs[j]) := by
    unfold bytesRow
    rw [Array.getElem?_append_left (by simpa using hds), Array.getElem?_map, hd]
    have : ((UInt8.ofNat xs[j].toNat).toNat : Int) = xs[j] := by
      rw [UInt8.toNat_ofNat']
      omega
    simp only [Option.map_some, this]
  generalize bytesRow (strOfNums xs) (grownCap w xs.length 0 5) = cs at hcs
  have hW : (w.drew.alloc (.cells cs 5 (cs.size, cs.size + 1))).heap[w.heap.size]? = some (.cells cs 5 (cs.size, cs.size + 1)) := by
    show (w.heap.push _)[w.heap.size]? = _
    simp
  rw [add_own]
  simp only [World.cell?, hW]
  simpa using hcs
end Go.Proofs.Ytfhinmjpokollaa
