/- Texts of one proof, one behind the other: VaultNilPj. No condition but each one's own. -/
import Derived.Test.YtpifnmlnhddgeaaGreatDoorRows
import Derived.WalkKit
import Derived.ProofKit
import Derived.OpenShut
import Derived.ShutString
import Derived.ChangeOld
import Derived.Below
import Derived.Test.YtpifnmlnhddgeaaGreatDoorTie
import Derived.Test.YtpifnmlnhddgeaaGreatDoorCards
import Derived.Lay
import Derived.Handy
import Derived.SevenTiedAt
namespace Go.Proofs.YtpifnmlnhddgeaaGreatDoor.vaultNil
open Go.ChangeShapes Go.WideShapes Go.ChangeAt Go.RowKit Go.Proofs.YtpifnmlnhddgeaaGreatDoor
open Go.ChangeMaps (open_string shut_string)
set_option linter.unusedVariables false
theorem bt {a b : Bool} (h : a = true) (k : b = true) : (a && b) = true := by rw [h, k]; rfl
theorem bl {a b : Bool} (h : (a && b) = true) : a = true := (Bool.and_eq_true_iff.1 h).1
theorem br {a b : Bool} (h : (a && b) = true) : b = true := (Bool.and_eq_true_iff.1 h).2
theorem joined_of {P : Program} {f : FuncId} {fn : Func} {s : ChangeSpec} {c : OpenClaim}
    (h1 : (c.wf (OpenSpec.ofChange s) && laidOutB P && mapsRowed P && fn.params.all (P.readableRec ·) && namedTie P c.named s.vars && (c.stops == []) && (P.stops == []) && (c.knobs == []) && (P.stopKnobs == [])) = true)
    (h2 : (c.inPlace == P.inPlace f) = true) (h3 : (c.unfollowed == P.unfollowed f) = true) (h4 : (c.recurses == P.recurses f) = true) (h5 : (c.named == P.varsNamed f) = true)
    (h6 : ((c.maps == (fn.params.toList ++ s.plain.varTypes P).any (P.mapsRec ·)) && (c.ifaces == (fn.params.toList ++ s.plain.varTypes P).any (P.ifacesRec ·)) && (c.mapsOut == P.mapsAmong fn.resultTypes.toList) && (c.loops == (fn.params.toList ++ s.plain.varTypes P).any (P.loopsFrom ·)) && (c.wideKeys == (fn.params.toList ++ s.plain.varTypes P ++ fn.resultTypes.toList).any (P.wideKeysFrom ·)) &&
     s.vars.all (P.varReadable ·) && fn.resultTypes.all (fun t => P.readableRec t && decide (t < P.types.size)) && (c.ifacesOut == fn.resultTypes.toList.any (P.ifacesRec ·)) && (c.loopsOut == fn.resultTypes.toList.any (P.loopsFrom ·))) = true)
    (h7 : ((c.plainKeys == P.plainKeys) && c.shortTexts.isNone) = true) (h8 : P.stopsHeard = true) (h9 : P.mayEnter = true) (h10 : (c.lifted == P.liftsFinal) = true) (h11 : (P.make == some c.make) = true)
    (h12 : ((c.kinds == (if c.domain.isEmpty then [] else fn.params.toList.map fun t => match P.underlying t with | some (.int k) => some k | _ => none)) && (c.pinned == c.pinnedBy)) = true)
    (h13 : ((c.veiled == (fn.params.toList ++ s.plain.varTypes P ++ fn.resultTypes.toList).any (P.veiledRec ·)) && c.veiledFits P fn.params.toList (fn.params.toList ++ s.plain.varTypes P ++ fn.resultTypes.toList)) = true) : joinedFacts P f fn s c = true := by
 unfold joinedFacts
 exact (bt (bt (bt (bt (bt (bt (bt (bt (bt (bt (bt (bt (bt (bt (bt (bt (bt (bt (bt (bt (bt (bt (bt h1 h2) h3) h4) h5) (bl (bl (bl (bl (bl (bl (bl (bl h6))))))))) (br (bl (bl (bl (bl (bl (bl (bl h6))))))))) (br (bl (bl (bl (bl (bl (bl h6)))))))) (br (bl (bl (bl (bl (bl h6))))))) (br (bl (bl (bl (bl h6)))))) (br (bl (bl (bl h6))))) (br (bl (bl h6)))) (br (bl h6))) (br h6)) (bl h7)) (br h7)) h8) h9) h10) h11) (bl h12)) (br h12)) (bl h13)) (br h13))
theorem j1 : (Rows.vaultNilRow.wf (OpenSpec.ofChange Rows.vaultNilSpec) && laidOutB Tryz.prog && mapsRowed Tryz.prog && Tryz.f6.params.all (Tryz.prog.readableRec ·) && namedTie Tryz.prog Rows.vaultNilRow.named Rows.vaultNilSpec.vars && (Rows.vaultNilRow.stops == []) && (Tryz.prog.stops == []) && (Rows.vaultNilRow.knobs == []) && (Tryz.prog.stopKnobs == [])) = true := by kernel_rfl
theorem j2 : (Rows.vaultNilRow.inPlace == Tryz.prog.inPlace 6) = true := by kernel_rfl
theorem j3 : (Rows.vaultNilRow.unfollowed == Tryz.prog.unfollowed 6) = true := by kernel_rfl
theorem j4 : (Rows.vaultNilRow.recurses == Tryz.prog.recurses 6) = true := by kernel_rfl
theorem j5 : (Rows.vaultNilRow.named == Tryz.prog.varsNamed 6) = true := by kernel_rfl
theorem j6 : ((Rows.vaultNilRow.maps == (Tryz.f6.params.toList ++ Rows.vaultNilSpec.plain.varTypes Tryz.prog).any (Tryz.prog.mapsRec ·)) && (Rows.vaultNilRow.ifaces == (Tryz.f6.params.toList ++ Rows.vaultNilSpec.plain.varTypes Tryz.prog).any (Tryz.prog.ifacesRec ·)) && (Rows.vaultNilRow.mapsOut == Tryz.prog.mapsAmong Tryz.f6.resultTypes.toList) && (Rows.vaultNilRow.loops == (Tryz.f6.params.toList ++ Rows.vaultNilSpec.plain.varTypes Tryz.prog).any (Tryz.prog.loopsFrom ·)) && (Rows.vaultNilRow.wideKeys == (Tryz.f6.params.toList ++ Rows.vaultNilSpec.plain.varTypes Tryz.prog ++ Tryz.f6.resultTypes.toList).any (Tryz.prog.wideKeysFrom ·)) && Rows.vaultNilSpec.vars.all (Tryz.prog.varReadable ·) && Tryz.f6.resultTypes.all (fun t => Tryz.prog.readableRec t && decide (t < Tryz.prog.types.size)) && (Rows.vaultNilRow.ifacesOut == Tryz.f6.resultTypes.toList.any (Tryz.prog.ifacesRec ·)) && (Rows.vaultNilRow.loopsOut == Tryz.f6.resultTypes.toList.any (Tryz.prog.loopsFrom ·))) = true := by kernel_rfl
theorem j7 : ((Rows.vaultNilRow.plainKeys == Tryz.prog.plainKeys) && Rows.vaultNilRow.shortTexts.isNone) = true := by kernel_rfl
theorem j8 : Tryz.prog.stopsHeard = true := by kernel_rfl
theorem j9 : Tryz.prog.mayEnter = true := by kernel_rfl
theorem j10 : (Rows.vaultNilRow.lifted == Tryz.prog.liftsFinal) = true := by kernel_rfl
theorem j11 : (Tryz.prog.make == some Rows.vaultNilRow.make) = true := by kernel_rfl
theorem j12 : ((Rows.vaultNilRow.kinds == (if Rows.vaultNilRow.domain.isEmpty then [] else Tryz.f6.params.toList.map fun t => match Tryz.prog.underlying t with | some (.int k) => some k | _ => none)) && (Rows.vaultNilRow.pinned == Rows.vaultNilRow.pinnedBy)) = true := by kernel_rfl
theorem j13 : ((Rows.vaultNilRow.veiled == (Tryz.f6.params.toList ++ Rows.vaultNilSpec.plain.varTypes Tryz.prog ++ Tryz.f6.resultTypes.toList).any (Tryz.prog.veiledRec ·)) && Rows.vaultNilRow.veiledFits Tryz.prog Tryz.f6.params.toList (Tryz.f6.params.toList ++ Rows.vaultNilSpec.plain.varTypes Tryz.prog ++ Tryz.f6.resultTypes.toList)) = true := by kernel_rfl
end Go.Proofs.YtpifnmlnhddgeaaGreatDoor.vaultNil
