/- Texts of one proof, one behind the other: DkT. No condition but each one's own. -/
import Derived.Test.YtpifnmlnhddgeaaGreatDoorVaultNilM4
import Derived.Test.YtpifnmlnhddgeaaGreatDoorVaultNilM2
namespace Go.Proofs.YtpifnmlnhddgeaaGreatDoor
set_option linter.unusedVariables false
set_option linter.unusedSimpArgs false
set_option linter.constructorNameAsVariable false
open Go.RowKit
structure DkTo (w : World) (base g bs bf : Nat) (v : Value) (p : DP) (w' : World) (v' : Value) : Prop where
 dk : Dk w' base g bs bf v' p
 fr : Fr (DkOurs g bs bf v) w w'
 own : ∀ k, v'.ownBlock = some k → base ≤ k ∧ (v.ownBlock = some k ∨ w.heap.size ≤ k)
section
variable {w w' w'' : World} {base g bs bf : Nat} {v v' v'' : Value} {p q : DP}
theorem DkTo.same (h : Dk w base g bs bf v p) (hN : New w w') : DkTo w base g bs bf v p w' v := ⟨h.new hN, hN.toFr _, fun k hk => ⟨(h.ours k (.inr (.inr (.inr hk)))).1, .inl hk⟩⟩
theorem DkTo.new (h : DkTo w base g bs bf v p w' v') (hN : New w' w'') : DkTo w base g bs bf v p w'' v' := ⟨h.dk.new hN, h.fr.trans (hN.toFr _), h.own⟩
theorem DkTo.tr (h : DkTo w base g bs bf v p w' v') (k : DkTo w' base g bs bf v' q w'' v'') : DkTo w base g bs bf v q w'' v'' :=
 ⟨k.dk, h.fr.trans' k.fr (fun b hb ho => by
  rcases ho with ho | ho | ho | ho
  · exact .inl ho
  · exact .inr (.inl ho)
  · exact .inr (.inr (.inl ho))
  · rcases (h.own b ho).2 with h1 | h1
    · exact .inr (.inr (.inr h1))
    · omega), fun b hb => ⟨(k.own b hb).1, by
  rcases (k.own b hb).2 with h1 | h1
  · exact (h.own b h1).2
  · exact .inr (by have := h.fr.size; omega)⟩⟩
end
theorem dk_notBlk {w : World} {base g bs bf : Nat} {v : Value} {p : DP} (h : Dk w base g bs bf v p) {k t : Nat} {cs : Array Value} (hk : Blk w k t cs) (h1 : k ≠ g) (h2 : t ≠ 3) : ¬ DkOurs g bs bf v k := by
 rintro (ho | ho | ho | ho)
 · exact h1 ho
 · exact blk_map hk h.ms ho
 · exact blk_map hk h.mw ho
 · exact own_ne h.own hk (Ne.symm h2) ho
theorem dk_notT {w : World} {base g bs bf : Nat} {v : Value} {p : DP} {t : Nat} (h : Dk w base g bs bf v p) (h1 : 116 ≠ t) (h2 : 3 ≠ t) : ∀ k, DkOurs g bs bf v k → ¬ IsT t w k := by
 rintro k (rfl | rfl | rfl | hk)
 · exact IsT.not_blk h.blk h1
 · exact IsT.not_map h.ms
 · exact IsT.not_map h.mw
 · exact IsT.not_own h.own h2 hk
end Go.Proofs.YtpifnmlnhddgeaaGreatDoor
