/- RatioShares' walk: for every part and whole it answers true. No condition. -/
import Derived.Test.YtbgjoohnognagaaShare
import Derived.Test.YtbgjoohnognagaaFloatC
namespace Go.Proofs.Ytbgjoohnognagaa
open Go.RowKit Ieee

theorem gives_same {op : BinOp} {x y r s : Nat} (h1 : Gives op x y r) (h2 : Gives op x y s) : ((bitsOf r : Int) == (bitsOf s : Int)) = true := by
  obtain ⟨_, h1⟩ := h1
  obtain ⟨_, h2⟩ := h2
  cases h : floatBits op .f64 x y with
  | some q => rw [h] at h1 h2; simp only at h1 h2; rw [h1, h2]; simp
  | none => rw [h] at h1 h2; simp only at h1 h2; unfold bitsOf; rw [h1, h2]; simp

end Go.Proofs.Ytbgjoohnognagaa
