/- Texts of one proof. No condition but each one's own. -/
import Derived.Test.YtfchcdbfalgdlaaGreatDoorSweepPlaysM15
set_option maxHeartbeats 4000000
set_option maxRecDepth 100000
set_option linter.unusedVariables false
set_option linter.unusedSimpArgs false
namespace Go.Proofs.YtfchcdbfalgdlaaGreatDoor
open _root_.Go.Proofs.Tryz
open Go.RowKit Go.Sort
theorem zu:(prog.info? 211).map (λi=>(i.zero,i.size))=some (some (.agg (ag (List.replicate 32 0))),32):=by kernel_rfl
end Go.Proofs.YtfchcdbfalgdlaaGreatDoor
namespace Go.Proofs.YtfchcdbfalgdlaaGreatDoor
open _root_.Go.Proofs.Tryz
open Go.RowKit
theorem tM{P:Program}{t e:TypeId}{size bytes:Nat}(E:aY P t e size bytes)(w:World)(base:Nat)(ty:TypeId){q p:Nat->Prop}(S:Option Addr)(n:Nat)(xs:List Value)(hS:Rd q w size S n xs)(G:0<n)
    (X:Option Addr) (m c:Nat) (b:List Value) (l:Rd p w size X m b) (hm:0<m) (k:n+m<=maxLen) (d:(n+m)*bytes<=140737488355328) (g:base<=w.heap.size):
    ∃y B w',(Builtin.append_ #[t,t] ty #[.slice S n n,.slice X m c]).run P w=.ok (.slice y (n+m) B) w'/\w'.ownsRow base e size (.slice y (n+m) B) (n+m) (xs++b)/\aa w w':=by
 obtain⟨i,z,hi,hz,j,o,v⟩:=E.info;subst j;subst o;obtain⟨C,rfl,-,-,F⟩:=hS.2 G;obtain⟨D,rfl,-,-,H⟩:=l.2 hm;have u:=run_append_grow (P:=P) w t ty e i z E.ht hi hz C n n xs hS.1 F D m c b l.1 H (by omega) (by simp only[maxLen]at k;omega) (growslice_fits (by omega) d);have s:=grownCap_ge w (n+m) n e;have r:grownCap w (n+m) n e<=maxLen:=grownCap_le_maxLen w (n+m) n e k;have f:(xs++b).length=(n+m)*i.size:=by rw[List.length_append,hS.1,l.1,Nat.add_mul]
 refine⟨_,_,_,u,⟨f,.inr ⟨w.heap.size,_,_,rfl,g,heap_alloc_new w.drew _,s,r,?_,?_⟩⟩,aa.al (aa.dr (aa.refl w)) _⟩
 ·simp only[Array.size_append,List.size_toArray,size_zeroCells,v,hS.1,l.1,<-Nat.add_mul]
  congr 1
  omega
 ·simp only[Array.toList_append,List.append_assoc];rw[<-List.append_assoc,<-f];exact List.take_left
theorem ot{P:Program}{t e:TypeId}{size bytes:Nat}(E:aY P t e size bytes)(w:World){i:Array Oper}{rest:List Oper}{o:Oper}{a:Act}{Q:Exit->Act->World->Prop}(r:o.guard=none)(s x:Operand)
    (z:o.op=.call {callee:=.builtin .append,args:= #[s,x],argTypes:= #[t,t]})
    (base:Nat) {q p:Nat->Prop} (S:Option Addr) (n:Nat) (xs:List Value) (C:a.eval s=.slice S n n) (hS:Rd q w size S n xs) (y:0<n)
    (X:Option Addr) (m c:Nat) (b:List Value) (D:a.eval x=.slice X m c) (B:Rd p w size X m b) (hm:0<m) (l:n+m<=maxLen) (d:(n+m)*bytes<=140737488355328) (f:base<=w.heap.size)
    (h:∀j k w',w'.ownsRow base e size (.slice j (n+m) k) (n+m) (xs++b)->aa w w'->wpList P i Q rest (a.put o.dst (.slice j (n+m) k)) w'):wpList P i Q (o::rest) a w:=
 wpList_plain r λK v=>by
  obtain⟨j,k,w',g,h2,u⟩:=tM E w base o.type S n xs hS y X m c b B hm l d f;unfold Oper.wp execOp;simp only[z,resolve,invoke,builtin,Sem.run_bind,Sem.run_pure,Result.andThen_ok,List.map_toArray,List.map_cons,List.map_nil,C,D,g];exact v _ _ (h j k w' h2 u)
end Go.Proofs.YtfchcdbfalgdlaaGreatDoor
