/- Texts of one proof. No condition but each one's own. -/
import Derived.Test.YtfchcdbfalgdlaaGreatDoorSweepPlaysM28
import Derived.Test.YtfchcdbfalgdlaaGreatDoorSweepPlaysM30
set_option maxHeartbeats 4000000
set_option maxRecDepth 100000
set_option linter.unusedVariables false
set_option linter.unusedSimpArgs false
namespace Go.Proofs.YtfchcdbfalgdlaaGreatDoor
open _root_.Go.Proofs.Tryz
open Go.RowKit Go.Sort
theorem pp{p:DP}(h:p.Ok)(a:Int){s:List Int}(d:aS s):(p.doWrite a s).Ok:=by
 unfold DP.doWrite;split
 ·next c=>
  unfold DP.within at c;split
  ·exact h.fall
  ·exact h.write (of_decide_eq_true c) d
 ·exact h
theorem ro{p:DP}(h:p.Ok):p.doSync.Ok:=by
 unfold DP.doSync;split
 ·exact h
 ·exact h.sync
structure jy(n:Nat)(X:Array Value):Prop where
 sz:X.size=n
 al:X.all (·.oneCell')=true
theorem kH:jy 6 qL:=⟨rfl,by simp[qL,Value.oneCell']⟩
structure bE(w:World)(p:DP)(tot:Nat)(X:Array Value):Prop where
 ok:p.Ok
 ex:∃r A1 c1 A2 c2,X=gI r A1 c1 A2 c2/\fp w r A1 A2/\Mt p r/\r.tot<=tot
structure fZ(w:World)(l:LG)(Y:Array Value):Prop where
 ex:∃A c,Y=od l A c/\jZ w l A
section
variable {w w':World}{p:DP}{tot tot' b:Nat}{X Y:Array Value}{l:LG}{S:Nat->Prop}{T n g:Nat}
theorem bE.fr(h:bE w p tot X)(hF:Fr S w w')(hS:∀k,S k->¬aK 132 w k):bE w' p tot X:=by
 obtain⟨r,c,d,A2,c2,e,f,hm,ht⟩:=h.ex;exact⟨h.ok,r,c,d,A2,c2,e,f.fr hF hS,hm,ht⟩
theorem bE.new(h:bE w p tot X)(c:aa w w'):bE w' p tot X:=h.fr (c.toFr ic) (λ_ x=>x.elim)
theorem bE.st{Z:Array Value}(h:bE w p tot X)(c:ac w b T Z)(hF:Fr (λk=>k=b) w w')(ht:T≠132):bE w' p tot X:=h.fr hF (λk d=>by rw[show k=b from d];exact aK.not_blk c ht)
theorem bE.row(h:bE w p tot X):jy 5 X:=by
 obtain⟨r,c,d,A2,c2,rfl,-⟩:=h.ex;exact⟨rfl,kG _ _ _ _ _⟩
theorem bE.up(h:bE w p tot X)(ht:tot<=tot'):bE w p tot' X:=by
 obtain⟨r,c,d,A2,c2,e,f,hm,h1⟩:=h.ex;exact⟨h.ok,r,c,d,A2,c2,e,f,hm,Nat.le_trans h1 ht⟩
theorem bE.size(h:bE w p tot X):X[0]?=some (.int .i64 p.size):=by
 obtain⟨r,c,d,A2,c2,rfl,-,hm,-⟩:=h.ex;show some (Value.int .i64 r.size)=_;rw[hm.size]
theorem fZ.fr(h:fZ w l Y)(hF:Fr S w w')(hS:∀k,S k->¬aK 5 w k):fZ w' l Y:=by
 obtain⟨A,c,e,hl⟩:=h.ex;exact⟨A,c,e,hl.fr hF hS⟩
theorem fZ.new(h:fZ w l Y)(c:aa w w'):fZ w' l Y:=h.fr (c.toFr ic) (λ_ x=>x.elim)
theorem fZ.st{Z:Array Value}(h:fZ w l Y)(c:ac w b T Z)(hF:Fr (λk=>k=b) w w')(ht:T≠5):fZ w' l Y:=h.fr hF (λk d=>by rw[show k=b from d];exact aK.not_blk c ht)
theorem fZ.row(h:fZ w l Y):jy 6 Y:=by
 obtain⟨A,c,rfl,-⟩:=h.ex;exact⟨rfl,wW _ _ _⟩
theorem CJ(h:p.Ok)(r:RP)(c:Mt p r): -9223372036854775808<=r.size/\r.size<=9223372036854775807:=by
 rw[c.size];have:=h.s2;omega
theorem yO(h:bE w p tot X)(ht:tot<=1000000)(x:Int)(i:(Lit.int .i64 x).wf=true):
    Calls prog 121 #[.agg X,.int .i64 x] w λe w'=>e=.returned (.tuple #[.agg (ag (p.rget x)),.int .i64 (p.rcode x)])/\aa w w':=by
 obtain⟨r,c,d,A2,c2,rfl,f,hm,h1⟩:=h.ex;rw[<-hm.rget,<-hm.rcode];exact nz r c d A2 c2 x w f (by omega) i (CJ h.ok r hm)
theorem qg(h:bE w p tot X)(ht:tot<=100000)(x:Int)(u:(Lit.int .i64 x).wf=true){s:List Int}(f:aS s):
    Calls prog 32 #[.agg X,.int .i64 x,.agg (ag s)] w λe w'=>∃d,e=.returned (.tuple #[.agg d,.int .i64 (p.wcode x)])/\bE w' (p.doWrite x s) (tot+1) d/\aa w w':=by
 obtain⟨r,i,m,A2,c2,rfl,t,hm,h1⟩:=h.ex;rw[<-hm.wcode];refine(qe r i m A2 c2 x s w t f (by omega) u (by rw[hm.fuse];exact yh h.ok) (CJ h.ok r hm)).mono λe w' ⟨⟨j,d1,k,d2,q,c⟩,o⟩=>?_
 exact⟨_,q,⟨pp h.ok x f,_,j,d1,k,d2,rfl,c,hm.write x s,Nat.le_trans (RP.tot_write r x s) (by omega)⟩,o⟩
theorem oH(h:bE w p tot X)(ht:tot<=100000):
    Calls prog 72 #[.agg X] w λe w'=>∃d,e=.returned (.tuple #[.agg d,.int .i64 p.scode])/\bE w' p.doSync tot d/\aa w w':=by
 obtain⟨r,f,k,A2,c2,rfl,q,hm,h1⟩:=h.ex;rw[<-hm.scode];refine(rX r f k A2 c2 w q (by omega)).mono λe w' ⟨⟨i,d1,j,d2,o,c⟩,m⟩=>?_
 exact⟨_,o,⟨ro h.ok,_,i,d1,j,d2,rfl,c,hm.sync,Nat.le_trans (RP.tot_sync r) h1⟩,m⟩
theorem pV(h:bE w p tot X)(h2:2<=p.size)(g:Nat):
    Calls prog 73 #[.agg X,.int .u32 g] w λe w'=>e=.returned (.tuple #[.int .i64 (gj g p.size),.int .i64 (hlf p.size)])/\aa w w':=by
 obtain⟨r,c,d,A2,c2,rfl,f,hm,h1⟩:=h.ex;exact xj r c d A2 c2 hm.size h2 h.ok.s2 g w
theorem iS(h:p.Ok){l:LG}(hl:l.Ok p.size)(d:l.gen≠0):(aB p l).1.Ok/\(aB p l).1.size=p.size:=by
 have H:∀k,(wipeN p l k).1.Ok/\(wipeN p l k).1.size=p.size:=λk=>by
  induction k with
  |zero=>exact⟨h,rfl⟩
  |succ k c=>
   refine⟨?_,fA p l (k+1)⟩;simp only[wipeN];split
   ·exact c.1
   ·split
    ·exact pp c.1 _ bh
    ·exact c.1
 unfold aB;simp only;split
 ·exact H _
 ·split
  ·exact⟨ro (H _).1,(DP.doSync_size _).trans (H _).2⟩
  ·exact H _
theorem Gz(h:bE w p tot X)(ht:tot<=50000)(a b c:Nat)(C:1<=b)(f:a+b<=p.size)(s:c<4294967296)(i:c≠0)(hz:(aB p (bZ a b c)).2=0):
    Calls prog 74 #[.agg X,.int .i64 a,.int .i64 b,.int .u32 c] w λe w'=>∃o q,e=.returned (.tuple #[.agg o,.agg q,.int .i64 0])/\bE w' (aB p (bZ a b c)).1 (tot+b) o/\fZ w' (bZ a b c) q/\aa w w':=by
 obtain⟨r,t,y,A2,c2,rfl,E,hm,h1⟩:=h.ex;refine(vj r t y A2 c2 E hm h.ok (by omega) a b c C f s i hz).mono λe w' ⟨G,u,d1,v,d2,B,d,D,m,k,F,j,z⟩=>?_
 exact⟨_,_,D,⟨(iS h.ok (fv f s) i).1,G,u,d1,v,d2,rfl,m,k,by omega⟩,⟨B,d,rfl,j⟩,z⟩
theorem vY(h:p.Ok)(hl:l.Ok p.size){x:List Int}(c:ba x):(aD p l x).1.Ok/\(aD p l x).1.size=p.size/\(aD p l x).2.1.Ok p.size:=by
 unfold aD;split
 ·exact⟨h,rfl,hl⟩
 ·split
  ·exact⟨h,rfl,hl⟩
  ·split
   ·exact⟨h,rfl,hl⟩
   ·next d=>
    have hu:=hl.used;have h1:=nN h hl c (aA x.length) (by omega);have h2:=fI p l x (aA x.length);simp only;split
    ·exact⟨h1,h2,⟨hl.fit,hl.gen,hl.used,hl.len,hl.byt⟩⟩
    ·exact⟨h1,h2,⟨hl.fit,hl.gen,by show l.used+aA x.length<=l.size;omega,fh _ _ _,iw _ _ _⟩⟩
theorem Ec(h:bE w p tot X)(ht:tot<=50000)(F:cX 3 1 w)(a b c:Nat)(H:1<=b)(f:a+b<=p.size)(t:c<4294967296)(i:c≠0)(hz:(aB p (runL p (bZ a b c)).1).2=0):
    Calls prog 77 #[.agg X,.int .i64 a,.int .i64 b,.int .u32 c] w λe w'=>∃q s C cc,e=.returned (.tuple #[.agg q,.agg s,.slice C (runL p (bZ a b c)).2.length cc,.int .i64 0])/\bE w' (aB p (runL p (bZ a b c)).1).1 (tot+b) q/\fZ w' (runL p (bZ a b c)).1 s/\eB w.heap.size w' (.slice C (runL p (bZ a b c)).2.length cc) (runL p (bZ a b c)).2/\aa w w':=by
 obtain⟨r,v,D,A2,c2,rfl,J,hm,h1⟩:=h.ex;refine(wZ r v D A2 c2 J hm h.ok (by omega) F a b c H f t i).mono λe w' j=>?_
 unfold kX at j;rw[if_pos hz]at j;obtain⟨M,y,d1,z,d2,B,d,C,cc,I,o,m,L,k,E,G⟩:=j;have u:=cu h.ok (l:=bZ a b c) (fv f t) ((bZ a b c).size+1);exact⟨_,_,C,cc,I,⟨(iS h.ok u.1 (by rw[u.2.2.2.1];exact i)).1,M,y,d1,z,d2,rfl,o,m,by omega⟩,⟨B,d,rfl,k⟩,E,G⟩
end
end Go.Proofs.YtfchcdbfalgdlaaGreatDoor
