/- Texts of one proof. No condition but each one's own. -/
import Derived.Test.YtfchcdbfalgdlaaGreatDoorSweepPlaysM40
set_option maxHeartbeats 4000000
set_option maxRecDepth 100000
set_option linter.unusedVariables false
set_option linter.unusedSimpArgs false
namespace Go.Proofs.YtfchcdbfalgdlaaGreatDoor
open _root_.Go.Proofs.Tryz
open Ieee
theorem sZ:floatOfInt .f64 0=0:=by decide+kernel
end Go.Proofs.YtfchcdbfalgdlaaGreatDoor
namespace Go.Proofs.YtfchcdbfalgdlaaGreatDoor
open _root_.Go.Proofs.Tryz
open Go.RowKit Ieee
theorem wz{op:BinOp}{x y r s:Nat}(h1:kU op x y r)(h2:kU op x y s):((eW r:Int)==(eW s:Int))=true:=by
 obtain⟨_,h1⟩:=h1;obtain⟨_,h2⟩:=h2
 cases h:floatBits op .f64 x y with
 |some q=>rw[h]at h1 h2;simp only at h1 h2;rw[h1,h2];simp
 |none=>rw[h]at h1 h2;simp only at h1 h2;unfold eW;rw[h1,h2];simp
end Go.Proofs.YtfchcdbfalgdlaaGreatDoor
