/- Slices of bytes: as strings, held against each other, cloned. No condition but that they can be read. -/
import Derived.Test.YtpdgnidoglmgcaaNew
import Derived.Test.YtpdgnidoglmgcaaRows
import Derived.Laws.BytesArg
namespace Go.Proofs.Ytpdgnidoglmgcaa
open Go.RowKit

def u8s (xs : List Int) : List Value := xs.map (Value.int .u8)
theorem u8s_len (xs : List Int) : (u8s xs).length = xs.length := by simp [u8s]
theorem u8s_one (xs : List Int) : ∀ u ∈ u8s xs, u.oneCell' = true := by
  intro u hu
  simp only [u8s, List.mem_map] at hu
  obtain ⟨x, _, rfl⟩ := hu
  rfl
def Byt (xs : List Int) : Prop := ∀ x ∈ xs, 0 ≤ x ∧ x < 256
theorem str_inj {xs ys : List Int} (hx : Byt xs) (hy : Byt ys) : ((strOfNums xs).toList == (strOfNums ys).toList) = decide (xs = ys) := by
  rw [ByteArray.toList_eq, ByteArray.toList_eq, strOfNums_data, strOfNums_data, Bool.eq_iff_iff, decide_eq_true_iff, beq_iff_eq]
  constructor
  · intro h2
    induction xs generalizing ys with
    | nil => cases ys <;> simp at h2 ⊢
    | cons x xs ih =>
      cases ys with
      | nil => simp at h2
      | cons y ys =>
        simp only [List.map_cons, List.cons.injEq] at h2
        obtain ⟨hx0, hx1⟩ := hx x (by simp)
        obtain ⟨hy0, hy1⟩ := hy y (by simp)
        have e : x = y := by
          have := congrArg UInt8.toNat h2.1
          simp [UInt8.toNat_ofNat'] at this
          omega
        rw [e, ih (fun z hz => hx z (by simp [hz])) (fun z hz => hy z (by simp [hz])) h2.2]
  · rintro rfl
    rfl

end Go.Proofs.Ytpdgnidoglmgcaa
