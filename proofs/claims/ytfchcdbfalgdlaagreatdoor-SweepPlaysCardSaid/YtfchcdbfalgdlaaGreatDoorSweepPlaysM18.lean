/- Texts of one proof. No condition but each one's own. -/
import Derived.Test.YtfchcdbfalgdlaaGreatDoorSweepPlaysM5
set_option maxHeartbeats 4000000
set_option maxRecDepth 100000
set_option linter.unusedVariables false
set_option linter.unusedSimpArgs false
namespace Go.Proofs.YtfchcdbfalgdlaaGreatDoor
open _root_.Go.Proofs.Tryz
open Go.RowKit Go.Maps
theorem Dz(p:DP)(a:Int)(s:List Int)(x:Int):(p.put a s).get x=if x=a then s else p.get x:=by
 unfold DP.get DP.put tZ
 by_cases h:x=a
 ·simp[h]
 ·simp[h]
theorem Bp(p:DP)(x:Int):p.burn.get x=p.get x:=rfl
theorem jh(p:DP)(a:Int)(s:List Int)(x:Int):(p.write a s).get x=if x=a then s else p.get x:=by unfold DP.write;rw[Dz,Bp]
theorem fb(p:DP)(x:Int):p.sync.get x=p.get x:=by
 unfold DP.get DP.sync
 cases h:p.fresh x<;>simp[h]
theorem sR{p:DP}(h:p.Ok)(keep:List Bool):∀j,j<=p.order.length->∀x,cutS p keep j x=p.sure x\/(p.fresh x≠none/\cutS p keep j x=p.fresh x)
 | 0,_,x=>.inl rfl
 |j+1,b,x=>by
  simp only[cutS];split
  ·unfold tZ;split
   ·next e=>
    subst e;refine .inr ⟨(h.ord _).1 ?_,rfl⟩;rw[List.getD_eq_getElem?_getD,List.getElem?_eq_getElem (by omega)];exact List.getElem_mem _
   ·exact sR h keep j (by omega) x
  ·exact sR h keep j (by omega) x
end Go.Proofs.YtfchcdbfalgdlaaGreatDoor
