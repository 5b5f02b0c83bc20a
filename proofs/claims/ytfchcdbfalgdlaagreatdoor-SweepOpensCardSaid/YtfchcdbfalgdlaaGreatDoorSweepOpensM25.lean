/- Texts of one proof. No condition but each one's own. -/
import Derived.Test.YtfchcdbfalgdlaaGreatDoorSweepOpensM8
set_option maxHeartbeats 4000000
set_option maxRecDepth 100000
set_option linter.unusedVariables false
set_option linter.unusedSimpArgs false
namespace Go.Proofs.YtfchcdbfalgdlaaGreatDoor
open _root_.Go.Proofs.Tryz
open Go.RowKit Go.Sort
theorem qs{P:Program}{p:Array Oper}{Q:Exit→Act→World→Prop}{S:World→Prop}{last i:Nat}{w:World}{o:Oper}{O:List (Bool×Nat)}{a:Act}(E:p[i]?=some o)(Y:Region.wanted o (yielded p a.tmps)=true)(d s:Operand)(B G:TypeId)
    (M:o.op=.call {callee:=.builtin .copy,args:= #[d,s],argTypes:= #[B,G]}) (elem:TypeId) (hu:P.underlying B=some (.slice elem)) (y:(P.info? elem).map (·.size)=some 1)
    (g off b l:Nat) (H:Option Addr) (f m:Nat) (hd:a.eval d=.slice (some ⟨g,off,none⟩) b l) (N:a.eval s=.slice H f m)
    (cur:List Value) (t:TypeId) (C:ab w g t cur.toArray) (cs:List Value) (L:cs.length=Nat.min f b) {q:Nat→Prop}
    (u:∃n xs,Rd q w 1 H n xs∧xs.take cs.length=cs) (r:off+cs.length≤cur.length) (h1:∀v∈cs,v.oneCell'=true)
    (h:∀w',ab w' g t (splice cur off cs).toArray→Fr (fun k=>k=g) w w'→(i≠last→S w')∧cL P p S last Q O (a.put o.dst (goInt cs.length)) w'):cL P p S last Q ((false,i)::O) a w:=by
 refine⟨o,E,?_⟩;rw[if_pos Y]
 by_cases h0:cs.length=0
 ·obtain rfl:cs=[]:=List.eq_nil_of_length_eq_zero h0;have c:=run_copy_none (P:=P) w B G o.type elem (some ⟨g,off,none⟩) H b l f m hu y (by simpa using L.symm);unfold Oper.wp;simp[execOp,M,resolve,invoke,builtin,hd,N,c,Result.andThen];exact h w (by simpa[splice]using C) (Fr.refl _ _)
 ·obtain⟨n,xs,I,z⟩:=u
  have D:0<n:=by
   have h2:=I.1;have T:=congrArg List.length z;rw[List.length_take]at T;omega
  obtain⟨R,rfl,-,-,V⟩:=I.2 D
  have c:=run_copy_row (P:=P) w B G o.type elem g off b l R f m cur.toArray t cs hu y C L (fun j v F=>V j v (by
   have X:=(List.getElem?_eq_some_iff.1 F).1;rw[←z,List.getElem?_take_of_lt X]at F
   exact F)) (by simpa using r) h1
  obtain⟨Z,r2⟩:=ej (cs':=(cur.toArray.toList.take off++cs++cur.toArray.toList.drop (off+cs.length)).toArray) C;have J:=h _ (by simpa[splice]using Z) r2;obtain⟨W,U⟩:=nM (w.setRow g (cur.toArray.toList.take off++cs++cur.toArray.toList.drop (off+cs.length)).toArray);rw[←U]at c J;unfold Oper.wp;simp[execOp,M,resolve,invoke,builtin,hd,N,c,Result.andThen];exact J
theorem wH{P:Program}{f:Array Oper}{Q:Exit→Act→World→Prop}{S:World→Prop}{last i:Nat}{o:Oper}{z:List (Bool×Nat)}{a:Act}{t e:TypeId}{size bytes:Nat}(E:aW P t e size bytes)(w:World)(y:f[i]?=some o)(F:Region.wanted o (yielded f a.tmps)=true)(s x:Operand)
    (B:o.op=.call {callee:=.builtin .append,args:= #[s,x],argTypes:= #[t,t]})
    (base:Nat) (v:Value) (n:Nat) (xs:List Value) (D:a.eval s=v) (j:w.ownsRow base e size v n xs)
    {p:Nat→Prop} (X:Option Addr) (m c:Nat) (b:List Value) (G:a.eval x=.slice X m c) (C:Rd p w size X m b) (h1:∀u∈b,u.oneCell'=true)
    (r:n+m≤maxLen) (d:(n+m)*bytes≤140737488355328) (g:base≤w.heap.size)
    (h:∀l q w',w'.ownsRow base e size (.slice l (n+m) q) (n+m) (xs++b)→Fr (fun k=>v.ownBlock=some k) w w'→
     (∀k,(Value.slice l (n+m) q).ownBlock=some k→v.ownBlock=some k∨w.heap.size≤k)→(i≠last→S w')∧cL P f S last Q z (a.put o.dst (.slice l (n+m) q)) w'):cL P f S last Q ((false,i)::z) a w:=by
 refine⟨o,y,?_⟩;rw[if_pos F];exact sE E w s x B base v n xs D j X m c b G C h1 r d g h
end Go.Proofs.YtfchcdbfalgdlaaGreatDoor
namespace Go.Proofs.YtfchcdbfalgdlaaGreatDoor
open _root_.Go.Proofs.Tryz
open Go.RowKit
theorem nm{α:Sort _}(x:α):∃y,y=x:=⟨x,rfl⟩
theorem fX{P:Program}{c:Code}{Q:Exit→Act→World→Prop}{a:Act}{w:World}(h:∀w',Hid (w'=w)→c.wp P Q a w'):c.wp P Q a w:=h w (Ld rfl)
theorem jG{P:Program}{f:FuncId}{b:Array Value}{Q:Ending→World→Prop}{w:World}(h:∀w',Hid (w'=w)→Calls P f b w' Q):Calls P f b w Q:=h w (Ld rfl)
theorem aa.al2{w w':World}(h:aa w w')(o o':Obj):aa w ((w'.alloc o).alloc o'):=(h.al o).al o'
end Go.Proofs.YtfchcdbfalgdlaaGreatDoor
