/- Texts of one proof, one behind the other: Eqs. No condition but each one's own. -/
import Derived.Test.YtmibndkofoldkaaGreatDoorClientNilM1
import Derived.Laws.StructEq
namespace Go.Proofs.YtmibndkofoldkaaGreatDoor
set_option linter.unusedVariables false
set_option linter.unusedSimpArgs false
set_option linter.constructorNameAsVariable false
open Go.RowKit
theorem eq_step {P : Program} {d : Nat} {xs ys : Array Value} {f : Field} {fs : List Field} {w : World} {a b : Value} {r s : Bool} (hn : f.name ≠ "_") (ha : (part f.type xs f.offset).run P w = .ok a w) (hb : (part f.type ys f.offset).run P w = .ok b w)
    (hr : (Op.equalIn d f.type a b).run P w = .ok r w) (hs : (Op.eqFields d xs ys fs).run P w = .ok s w) : (Op.eqFields d xs ys (f :: fs)).run P w = .ok (r && s) w := by
 simp only [Op.eqFields, if_pos hn, Sem.run_bind, ha, hb, hr, Result.andThen_ok, Sem.run_ite]
 cases r
 · simp
 · simpa using hs
theorem part_cell {t : TypeId} {cs : Array Value} {off : Nat} {v : Value} {w : World} (hk : ∀ w, (isAgg t).run Tryz.prog w = .ok false w) (h : cs[off]? = some v) : (part t cs off).run Tryz.prog w = .ok v w := by
 unfold part
 simp [Sem.run_bind, hk, h]
theorem part_agg {t : TypeId} {cs ys : Array Value} {off n : Nat} {w : World} (hk : (isAgg t).run Tryz.prog w = .ok true w) (hz : (sizeOf t).run Tryz.prog w = .ok n w) (h : cs.extract off (off + n) = ys) : (part t cs off).run Tryz.prog w = .ok (.agg ys) w := by
 unfold part
 simp [Sem.run_bind, hk, hz, h]
end Go.Proofs.YtmibndkofoldkaaGreatDoor
