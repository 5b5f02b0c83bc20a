/- Texts of one proof. No condition but each one's own. -/
import Derived.Test.YtfchcdbfalgdlaaGreatDoorSweepOpensM28
import Derived.Test.YtfchcdbfalgdlaaGreatDoorSweepOpensM30
set_option maxHeartbeats 4000000
set_option maxRecDepth 100000
set_option linter.unusedVariables false
set_option linter.unusedSimpArgs false
namespace Go.Proofs.YtfchcdbfalgdlaaGreatDoor
open _root_.Go.Proofs.Tryz
open Go.RowKit Go.Sort
theorem nZ{p:DP}(h:p.Ok)(a:Int){s:List Int}(d:aJ s):(p.doWrite a s).Ok:=by
 unfold DP.doWrite;split
 ·next c=>
  unfold DP.within at c;split
  ·exact h.fall
  ·exact h.write (of_decide_eq_true c) d
 ·exact h
theorem qe{p:DP}(h:p.Ok):p.doSync.Ok:=by
 unfold DP.doSync;split
 ·exact h
 ·exact h.sync
structure iL(n:Nat)(X:Array Value):Prop where
 sz:X.size=n
 al:X.all (·.oneCell')=true
theorem jR:iL 6 pH:=⟨rfl,by simp[pH,Value.oneCell']⟩
structure bQ(w:World)(p:DP)(tot:Nat)(X:Array Value):Prop where
 ok:p.Ok
 ex:∃r A1 c1 A2 c2,X=ie r A1 c1 A2 c2∧fG w r A1 A2∧Mt p r∧r.tot≤tot
structure iE(w:World)(l:LG)(Y:Array Value):Prop where
 ex:∃A c,Y=mZ l A c∧jv w l A
section
variable {w w':World}{p:DP}{tot tot' b:Nat}{X Y:Array Value}{l:LG}{S:Nat→Prop}{T n g:Nat}
theorem bQ.fr(h:bQ w p tot X)(hF:Fr S w w')(hS:∀k,S k→¬aO 132 w k):bQ w' p tot X:=by
 obtain⟨r,c,d,A2,c2,e,i,f,ht⟩:=h.ex;exact⟨h.ok,r,c,d,A2,c2,e,i.fr hF hS,f,ht⟩
theorem bQ.new(h:bQ w p tot X)(c:aa w w'):bQ w' p tot X:=h.fr (c.toFr ia) (fun _ x=>x.elim)
theorem bQ.st{Z:Array Value}(h:bQ w p tot X)(c:ab w b T Z)(hF:Fr (fun k=>k=b) w w')(ht:T≠132):bQ w' p tot X:=h.fr hF (fun k d=>by rw[show k=b from d];exact aO.not_blk c ht)
theorem bQ.row(h:bQ w p tot X):iL 5 X:=by
 obtain⟨r,c,d,A2,c2,rfl,-⟩:=h.ex;exact⟨rfl,jQ _ _ _ _ _⟩
theorem bQ.up(h:bQ w p tot X)(ht:tot≤tot'):bQ w p tot' X:=by
 obtain⟨r,c,d,A2,c2,e,i,f,h1⟩:=h.ex;exact⟨h.ok,r,c,d,A2,c2,e,i,f,Nat.le_trans h1 ht⟩
theorem bQ.size(h:bQ w p tot X):X[0]?=some (.int .i64 p.size):=by
 obtain⟨r,d,f,A2,c2,rfl,-,c,-⟩:=h.ex;show some (Value.int .i64 r.size)=_;rw[c.size]
theorem iE.fr(h:iE w l Y)(hF:Fr S w w')(hS:∀k,S k→¬aO 5 w k):iE w' l Y:=by
 obtain⟨A,c,e,hl⟩:=h.ex;exact⟨A,c,e,hl.fr hF hS⟩
theorem iE.new(h:iE w l Y)(c:aa w w'):iE w' l Y:=h.fr (c.toFr ia) (fun _ x=>x.elim)
theorem iE.st{Z:Array Value}(h:iE w l Y)(c:ab w b T Z)(hF:Fr (fun k=>k=b) w w')(ht:T≠5):iE w' l Y:=h.fr hF (fun k d=>by rw[show k=b from d];exact aO.not_blk c ht)
theorem iE.row(h:iE w l Y):iL 6 Y:=by
 obtain⟨A,c,rfl,-⟩:=h.ex;exact⟨rfl,uT _ _ _⟩
theorem AK(h:p.Ok)(r:RP)(c:Mt p r): -9223372036854775808≤r.size∧r.size≤9223372036854775807:=by
 rw[c.size];have:=h.s2;omega
theorem wS(h:bQ w p tot X)(ht:tot≤1000000)(x:Int)(j:(Lit.int .i64 x).wf=true):
    Calls prog 121 #[.agg X,.int .i64 x] w fun e w'=>e=.returned (.tuple #[.agg (af (p.rget x)),.int .i64 (p.rcode x)])∧aa w w':=by
 obtain⟨r,d,f,A2,c2,rfl,i,c,h1⟩:=h.ex;rw[←c.rget,←c.rcode];exact mF r d f A2 c2 x w i (by omega) j (AK h.ok r c)
theorem lS(h:bQ w p tot X)(ht:tot≤100000)(x:Int)(v:(Lit.int .i64 x).wf=true){s:List Int}(i:aJ s):
    Calls prog 32 #[.agg X,.int .i64 x,.agg (af s)] w fun e w'=>∃f,e=.returned (.tuple #[.agg f,.int .i64 (p.wcode x)])∧bQ w' (p.doWrite x s) (tot+1) f∧aa w w':=by
 obtain⟨r,j,o,A2,c2,rfl,u,c,h1⟩:=h.ex;rw[←c.wcode];refine(oU r j o A2 c2 x s w u i (by omega) v (by rw[c.fuse];exact we h.ok) (AK h.ok r c)).mono fun e w' ⟨⟨k,d1,m,d2,t,d⟩,q⟩=>?_
 exact⟨_,t,⟨nZ h.ok x i,_,k,d1,m,d2,rfl,d,c.write x s,Nat.le_trans (RP.tot_write r x s) (by omega)⟩,q⟩
theorem rY(h:bQ w p tot X)(ht:tot≤100000):
    Calls prog 72 #[.agg X] w fun e w'=>∃d,e=.returned (.tuple #[.agg d,.int .i64 p.scode])∧bQ w' p.doSync tot d∧aa w w':=by
 obtain⟨r,i,m,A2,c2,rfl,s,f,h1⟩:=h.ex;rw[←f.scode];refine(qF r i m A2 c2 w s (by omega)).mono fun e w' ⟨⟨j,d1,k,d2,q,c⟩,o⟩=>?_
 exact⟨_,q,⟨qe h.ok,_,j,d1,k,d2,rfl,c,f.sync,Nat.le_trans (RP.tot_sync r) h1⟩,o⟩
theorem oP(h:bQ w p tot X)(h2:2≤p.size)(g:Nat):
    Calls prog 73 #[.agg X,.int .u32 g] w fun e w'=>e=.returned (.tuple #[.int .i64 (fH g p.size),.int .i64 (hlf p.size)])∧aa w w':=by
 obtain⟨r,c,d,A2,c2,rfl,i,f,h1⟩:=h.ex;exact uW r c d A2 c2 f.size h2 h.ok.s2 g w
theorem iw(h:p.Ok){l:LG}(hl:l.Ok p.size)(d:l.gen≠0):(az p l).1.Ok∧(az p l).1.size=p.size:=by
 have H:∀k,(wipeN p l k).1.Ok∧(wipeN p l k).1.size=p.size:=fun k=>by
  induction k with
  |zero=>exact⟨h,rfl⟩
  |succ k c=>
   refine⟨?_,eV p l (k+1)⟩;simp only[wipeN];split
   ·exact c.1
   ·split
    ·exact nZ c.1 _ aX
    ·exact c.1
 unfold az;simp only;split
 ·exact H _
 ·split
  ·exact⟨qe (H _).1,(DP.doSync_size _).trans (H _).2⟩
  ·exact H _
theorem EN(h:bQ w p tot X)(ht:tot≤50000)(a b c:Nat)(C:1≤b)(f:a+b≤p.size)(s:c<4294967296)(i:c≠0)(H:(az p (bP a b c)).2=0):
    Calls prog 74 #[.agg X,.int .i64 a,.int .i64 b,.int .u32 c] w fun e w'=>∃o q,e=.returned (.tuple #[.agg o,.agg q,.int .i64 0])∧bQ w' (az p (bP a b c)).1 (tot+b) o∧iE w' (bP a b c) q∧aa w w':=by
 obtain⟨r,t,y,A2,c2,rfl,F,E,h1⟩:=h.ex;refine(tO r t y A2 c2 F E h.ok (by omega) a b c C f s i H).mono fun e w' ⟨I,u,d1,v,d2,B,d,D,m,k,G,j,z⟩=>?_
 exact⟨_,_,D,⟨(iw h.ok (eS f s) i).1,I,u,d1,v,d2,rfl,m,k,by omega⟩,⟨B,d,rfl,j⟩,z⟩
theorem Dh(h:p.Ok)(hl:l.Ok p.size){x:List Int}(c:aU x):(aD p l x).1.Ok∧(aD p l x).1.size=p.size∧(aD p l x).2.1.Ok p.size:=by
 unfold aD;split
 ·exact⟨h,rfl,hl⟩
 ·split
  ·exact⟨h,rfl,hl⟩
  ·split
   ·exact⟨h,rfl,hl⟩
   ·next d=>
    have hu:=hl.used;have h1:=mO h hl c (ay x.length) (by omega);have h2:=fe p l x (ay x.length);simp only;split
    ·exact⟨h1,h2,⟨hl.fit,hl.gen,hl.used,hl.len,hl.byt⟩⟩
    ·exact⟨h1,h2,⟨hl.fit,hl.gen,by show l.used+ay x.length≤l.size;omega,eN _ _ _,gX _ _ _⟩⟩
theorem Cj(h:bQ w p tot X)(ht:tot≤50000)(F:cM 3 1 w)(a b c:Nat)(H:1≤b)(f:a+b≤p.size)(t:c<4294967296)(i:c≠0)(N:(az p (runL p (bP a b c)).1).2=0):
    Calls prog 77 #[.agg X,.int .i64 a,.int .i64 b,.int .u32 c] w fun e w'=>∃q s C cc,e=.returned (.tuple #[.agg q,.agg s,.slice C (runL p (bP a b c)).2.length cc,.int .i64 0])∧bQ w' (az p (runL p (bP a b c)).1).1 (tot+b) q∧iE w' (runL p (bP a b c)).1 s∧dW w.heap.size w' (.slice C (runL p (bP a b c)).2.length cc) (runL p (bP a b c)).2∧aa w w':=by
 obtain⟨r,v,D,A2,c2,rfl,L,J,h1⟩:=h.ex;refine(uU r v D A2 c2 L J h.ok (by omega) F a b c H f t i).mono fun e w' j=>?_
 unfold kh at j;rw[if_pos N]at j;obtain⟨O,y,d1,z,d2,B,d,C,cc,I,o,m,M,k,E,G⟩:=j;have u:=ca h.ok (l:=bP a b c) (eS f t) ((bP a b c).size+1);exact⟨_,_,C,cc,I,⟨(iw h.ok u.1 (by rw[u.2.2.2.1];exact i)).1,O,y,d1,z,d2,rfl,o,m,by omega⟩,⟨B,d,rfl,k⟩,E,G⟩
end
end Go.Proofs.YtfchcdbfalgdlaaGreatDoor
