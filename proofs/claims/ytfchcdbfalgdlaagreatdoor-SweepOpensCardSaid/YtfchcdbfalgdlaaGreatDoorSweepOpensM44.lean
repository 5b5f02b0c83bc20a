/- Texts of one proof. No condition but each one's own. -/
import Derived.Test.YtfchcdbfalgdlaaGreatDoorSweepOpensM6
set_option maxHeartbeats 4000000
set_option maxRecDepth 100000
set_option linter.unusedVariables false
set_option linter.unusedSimpArgs false
namespace Go.Proofs.YtfchcdbfalgdlaaGreatDoor
open _root_.Go.Proofs.Tryz
open Go.RowKit Go.WideShapes Go.ChangeShapes
section
variable {H:Type}{enc:TypeId×Value→H}{w:World}
theorem yB{m:Nat}{cs:List Value}{y:DataW H×List MemPlace}(hl:cs.length=64)(ht:DataW.trod enc prog w 0 (fun _=>true) true m 68 cs=some y):∃s,cs=am s∧aJ s:=by
 obtain⟨xs,p,_,_,_,i,l⟩:=DataW.trod_array underlying68 ht;have j:prog.cellsOf 5=1:=by kernel_rfl
 have key:∀k,k≤64→∃s:List Int,cs.take k=am s∧aU s:=by
  intro k
  induction k with
  |zero=>exact fun _=>⟨[],rfl,fun x i=>by cases i⟩
  |succ k n=>
   intro o;obtain⟨s,c,f⟩:=n (by omega);have h1:=l k (by omega);rw[j,Nat.mul_one]at h1;have b:k<cs.length:=by omega
   rw[List.drop_eq_getElem_cons b,List.getElem?_eq_getElem (by omega)]at h1;obtain⟨a,e,_,g⟩:=DataW.trod_int underlying5 h1;rw[List.take_succ_cons,List.take_zero]at e;injection e with e _;have:=bounds_u8 g;refine⟨s++[a],by rw[List.take_succ_eq_append_getElem b,c,e];simp[am],fun z d=>?_⟩;rcases List.mem_append.1 d with d|d
   ·exact f z d
   ·simp at d;omega
 obtain⟨s,c,f⟩:=key 64 (by omega);rw[List.take_of_length_le (by omega)]at c;exact⟨s,c,by rw[←hl,c,ah],f⟩
end
end Go.Proofs.YtfchcdbfalgdlaaGreatDoor
