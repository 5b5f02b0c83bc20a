/- Texts of one proof. No condition but each one's own. -/
import Derived.Test.YtfchcdbfalgdlaaGreatDoorSweepOpensM6
set_option maxHeartbeats 4000000
set_option maxRecDepth 100000
set_option linter.unusedVariables false
set_option linter.unusedSimpArgs false
namespace Go.Proofs.YtfchcdbfalgdlaaGreatDoor
open _root_.Go.Proofs.Tryz
open Go.RowKit Go.Maps
theorem By(p:DP)(a:Int)(s:List Int)(x:Int):(p.put a s).get x=if x=a then s else p.get x:=by
 unfold DP.get DP.put sH
 by_cases h:x=a
 ·simp[h]
 ·simp[h]
theorem zu(p:DP)(x:Int):p.burn.get x=p.get x:=rfl
theorem iO(p:DP)(a:Int)(s:List Int)(x:Int):(p.write a s).get x=if x=a then s else p.get x:=by unfold DP.write;rw[By,zu]
theorem eI(p:DP)(x:Int):p.sync.get x=p.get x:=by
 unfold DP.get DP.sync
 cases h:p.fresh x<;>simp[h]
theorem rp{p:DP}(h:p.Ok)(b:List Bool):∀j,j≤p.order.length→∀x,jc p b j x=p.sure x∨(p.fresh x≠none∧jc p b j x=p.fresh x)
 | 0,_,x=>.inl rfl
 |j+1,c,x=>by
  simp only[jc];split
  ·unfold sH;split
   ·next e=>
    subst e;refine .inr ⟨(h.ord _).1 ?_,rfl⟩;rw[List.getD_eq_getElem?_getD,List.getElem?_eq_getElem (by omega)];exact List.getElem_mem _
   ·exact rp h b j (by omega) x
  ·exact rp h b j (by omega) x
end Go.Proofs.YtfchcdbfalgdlaaGreatDoor
