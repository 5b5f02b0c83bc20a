/- Texts of one proof. No condition but each one's own. -/
import Derived.Test.YtfchcdbfalgdlaaGreatDoorSweepPlaysM5
set_option maxHeartbeats 4000000
set_option maxRecDepth 100000
set_option linter.unusedVariables false
set_option linter.unusedSimpArgs false
namespace Go.Proofs.YtfchcdbfalgdlaaGreatDoor
open _root_.Go.Proofs.Tryz
open Go.RowKit Go.WideShapes Go.ChangeShapes
structure AC where
 kind:Int
 pos:Int
 s:List Int
 A:Option Addr
 n:Nat
 c:Nat
 keep:List Bool
section
variable {H:Type}{enc:TypeId×Value->H}{w:World}
theorem xI{d:Nat}{v:Value}{y:DataW H×List MemPlace}(h:DataW.trod enc prog w 0 (λ_=>true) true d 54 [v]=some y)(i:Sz prog 54 y.1):
    ∃(A:Option Addr) (n c:Nat) (xs:List Bool),v=.slice A n c/\n<=maxLen/\Rd (λb=>b<w.heap.size) w 1 A n (jV xs):=by
 obtain⟨A,n,c,L,h1,h2,j,l,o,g,p,-⟩:=mQ (k:=1) underlying54 (λx:Bool=>[Value.bool x]) (by kernel_rfl) (by omega) (λ_=>True) (λcs m y hl f _=>by
  obtain⟨a,rfl,_⟩:=DataW.trod_bool underlying4 f
  exact⟨a,rfl,trivial⟩) h i
 refine⟨A,n,c,L,h1,by omega,?_⟩
 rwa[show L.flatMap (λx=>[Value.bool x])=jV L from List.map_eq_flatMap.symm]at g
end
end Go.Proofs.YtfchcdbfalgdlaaGreatDoor
