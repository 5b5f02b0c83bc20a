/- Texts of one proof, one behind the other: Mpl. No condition but each one's own. -/
import Derived.Test.YtpifnmlnhddgeaaGreatDoorVaultNilM4
namespace Go.Proofs.YtpifnmlnhddgeaaGreatDoor
set_option linter.unusedVariables false
set_option linter.unusedSimpArgs false
set_option linter.constructorNameAsVariable false
open Go.RowKit Go.Maps
theorem MapAt.size {P : Program} {k : TypeId} {w : World} {b n : Nat} {f : Lit → Option Value} (h : MapAt w P k b n f) (K : Keyed P k) (ks : List Lit) (hn : ks.Nodup) (hk : ∀ kl, f kl ≠ none ↔ kl ∈ ks) :
    ∃ D : DataW Value, w.ownsMap P k Rv b n D ∧ Maps.size D = ks.length := by
 obtain ⟨D, hD, hf⟩ := h
 refine ⟨D, hD, ?_⟩
 obtain ⟨es, rfl, hp, hl⟩ := hD.entries K
 have hnod : (es.map Prod.fst).Nodup := by
  rw [List.Nodup, List.pairwise_map]
  exact hp
 have hperm : (es.map Prod.fst).Perm ks := (List.perm_ext_iff_of_nodup hnod hn).2 fun kl => by
  rw [← hk kl, hf kl]
  constructor
  · intro hm
    obtain ⟨p, hp', rfl⟩ := List.mem_map.1 hm
    rw [show Maps.has (DataW.map es) p.1 = true from List.any_eq_true.2 ⟨p, hp', WideAt.sameKey_self (hl p hp')⟩]
    simp
  · intro hm
    cases hh : Maps.has (DataW.map es) kl with
    | false => rw [hh] at hm; simp at hm
    | true =>
     obtain ⟨p, hp', hs⟩ := List.any_eq_true.1 hh
     exact List.mem_map.2 ⟨p, hp', WideAt.sameKey_eq hs⟩
 have := hperm.length_eq
 simpa [Maps.size] using this
end Go.Proofs.YtpifnmlnhddgeaaGreatDoor
