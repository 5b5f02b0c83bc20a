/- Texts of one proof. No condition but each one's own. -/
import Derived.Test.YtfchcdbfalgdlaaGreatDoorSweepPlaysM45
import Derived.Test.YtfchcdbfalgdlaaGreatDoorSweepPlaysM46
import Derived.SevenTiedAt
import Derived.Stop.Joined
set_option maxHeartbeats 4000000
set_option maxRecDepth 100000
set_option linter.unusedVariables false
set_option linter.unusedSimpArgs false
namespace Go.Proofs.YtfchcdbfalgdlaaGreatDoor
open _root_.Go.Proofs.Tryz
open Go.RowKit Go.Sort Go.Maps
section
variable {s:SW}{K:List (List Int)}
theorem jz.swept(h:jz s K)(f:s.gen+1<4294967296):∃K',jz (aN s).1 K'/\(aN s).1.t=s.t/\(aN s).1.p.size=s.p.size/\(aN s).1.gen<=s.gen+1:=by
 by_cases c:s.broken=true
 ·have e:aN s=(s,10):=by unfold aN;rw [if_pos c]
  rw[e];exact⟨K,h,rfl,rfl,Nat.le_succ _⟩
 ·obtain⟨K',h1,h2,d,b⟩:=h.sweep (by simpa using c) f;exact⟨K',h1,h2,d,by rcases b with b|b<;>have:=b.2.2<;>omega⟩
end
section
variable {W w w':World}{gs gd bs bf bt g8 b8 mm j sz mm' j' g13:Nat}{s s':SW}{K K':List (List Int)}
theorem AW.Good.new{x:AW}(h:x.Good w)(b:aa w w'):x.Good w':=⟨h.kind,h.num,h.b.new b,h.bits,h.n2,(b.rd h.rd2).imp λk c=>by have:=b.size;omega⟩
end
end Go.Proofs.YtfchcdbfalgdlaaGreatDoor
namespace Go.Proofs.YtfchcdbfalgdlaaGreatDoor
open _root_.Go.Proofs.Tryz
open Go.RowKit Go.Sort
section
variable {w:World}{p:DP}{tot D:Nat}{X Z:Array Value}{s:SW}
theorem FH(h:bE w p tot X)(ht:tot<=60000){q:Nat->Prop}(A:Option Addr)(n c:Nat)(keep:List Bool)(o:Rd q w 1 A n (jV keep))(v:∀k,q k->k<w.heap.size)(u:n<=maxLen):
    Calls prog 39 #[.agg X,.slice A n c] w λe w'=>∃d,e=.returned (.agg d)/\bE w' (p.cut keep) tot d/\aa w w':=by
 obtain⟨r,f,l,A2,c2,rfl,y,hm,h1⟩:=h.ex;refine(Ce r f l A2 c2 A n c keep w y o v (by omega) u).mono λe w' ⟨⟨g,d1,i,d2,t,b⟩,m⟩=>?_
 exact⟨_,t,⟨DP.Ok.cut h.ok keep,_,g,d1,i,d2,rfl,b,hm.cut h.ok keep,Nat.le_trans (RP.tot_cut r keep) h1⟩,m⟩
theorem Ct(h:bE w p tot X)(ht:tot<=100000):
    Calls prog 43 #[.agg X] w λe w'=>(∃A c,e=.returned (.slice A p.order.length c))/\aa w w':=by
 obtain⟨r,b,d,A2,c2,rfl,i,hm,h1⟩:=h.ex;rw[hm.order];exact(qd r b d A2 c2 w i (by omega)).mono λe w' ⟨⟨A,c,g,_⟩,f⟩=>⟨⟨A,c,g⟩,f⟩
theorem bE.fused(h:bE w p tot X){a:Int}(g:a<=9223372036854775807):bE w (p.fused a) tot (ju X 3 #[.int .i64 (max a (-1))]):=by
 obtain⟨r,d,f,A2,c2,rfl,c,hm,h1⟩:=h.ex;have b:=h.ok;exact⟨⟨b.s1,b.s2,b.sureR,b.freshR,b.nod,b.ord,by show-1<=max a (-1)/\max a (-1)<=_;omega⟩,r.fused a,d,f,A2,c2,rfl,⟨c.sure,c.fresh,c.ok⟩,hm.fused a,h1⟩
theorem ie.fused(h:ie D w s tot Z){a:Int}(d:a<=9223372036854775807):ie D w {s with p:=s.p.fused a} tot (ju Z 3 #[.int .i64 (max a (-1))]):=by
 obtain⟨X,Y,A,c,T,rfl,h1,h2,b⟩:=h.ex;refine⟨⟨_,Y,A,c,T,?_,h1.fused d,h2,b⟩,h.ok⟩;obtain⟨a1,f,g,i,k,rfl⟩:=h1.row.five;obtain⟨l,b2,m,b4,b5,b6,rfl⟩:=h2.row.six;rfl
theorem ie.dk(h:ie D w s tot Z):jy 5 (Z.extract 0 5)/\FY Z 0 (Z.extract 0 5)/\bE w s.p tot (Z.extract 0 5):=by
 obtain⟨X,Y,A,c,T,rfl,h1,h2,n⟩:=h.ex
 have e:∀v g b:Value,(eE X Y v g b).extract 0 5=X:=λv g b=>by
  obtain⟨a1,d,f,i,k,rfl⟩:=h1.row.five;obtain⟨l,b2,m,b4,b5,b6,rfl⟩:=h2.row.six;rfl
 rw[e];exact⟨h1.row,bi.d ⟨h1.row,h2.row⟩,h1⟩
theorem Fo{W:World}(m:aa W w)(A:Option Addr)(n c:Nat)(L:List Ch)(h:Rd (λb=>b<W.heap.size) W 3 A n (L.flatMap Ch.cells))(l:L.length=n)(t:n<=1000)(o:∀x∈L,x.In (λb=>b<W.heap.size) W):
    Calls prog 41 #[.slice A n c] w λe w'=>(∃f g,e=.returned (.slice f n g)/\jx W.heap.size w' f n L)/\aa w w':=by
 refine(Du A n c L w (m.rd h) l (by omega)).mono λe w' ⟨⟨f,g,q,hO⟩,d⟩=>⟨⟨f,g,q,?_⟩,d⟩
 exact⟨(Rd.own hO rfl).imp λk i=>.inr (cY hO i),l,λx r=>uD ((o x r).new (m.tr d)) λk i=>.inl i⟩
end
theorem zD{W w:World}{gs gd bs bf bt mm:Nat}{s:SW}(h:dO W w gs gd bs bf bt s mm){a:Int}(d:(Lit.int .i64 a).wf=true):
    Calls prog 27 #[.pointer (some ⟨gd,0,none⟩),.int .i64 a] w λe w'=>e=.returned (.tuple #[])/\ml W w gs gd bs bf bt {s with p:=s.p.fused a} mm w':=by
 obtain⟨n,gt,v,X,m,E,b⟩:=h;refine(Dy b.dk d).mono λe w' ⟨f,c,hF⟩=>⟨f,?_⟩
 obtain⟨i,l⟩:=b.disk hF (λk g=>b.dkfr k (.inl g)) c rfl;exact⟨⟨_,_,_,_,_,_,i⟩,l⟩
theorem Bm{x y z:Nat}(h:(eW x:Int)=(eW y:Int))(c:x<18446744073709551616)(b:y<18446744073709551616)(hz:z<18446744073709551616):sX x z=sX y z:=by
 have h:eW x=eW y:=by omega
 have nan:∀a,a<18446744073709551616->iX a=true->sX a z=false:=λa h1 i=>by
  unfold sX;have:FloatKind.f64.format.order a z=none:=rK h1 hz (.inl ((pI a).1 i));rw[this];rfl
 have g:iX 9221120237041090561=true:=by decide+kernel
 have d:=c;have f:=b;clear c b;unfold eW at h
 cases c:iX x with
 |true=>
  cases b:iX y with
  |true=>rw[nan x d c,nan y f b]
  |false=>
   rw[c,b]at h;simp only[if_true,Bool.false_eq_true,if_false]at h;rw[<-h,g]at b
   cases b
 |false=>
  cases b:iX y with
  |true=>
   rw[c,b]at h;simp only[if_true,Bool.false_eq_true,if_false]at h;rw[h,g]at c
   cases c
  |false=>
   rw[c,b]at h;simp only[Bool.false_eq_true,if_false]at h;rw[h]
theorem yb{p:DP}(b:p.Ok):jC p<4294967296:=by rw[<-pj];exact mr b 2
theorem BN{W w:World}{gd bs bf:Nat}{v:Value}{q:DP}{s:SW}{K:List (List Int)}(c:Dk w W.heap.size gd bs bf v q)(g:aa W w)(f:dC 4 2 W)(hu:Up q)(b:4<=q.size)(hz:q.size<=80)(k:opnS q=(s.p,0,some s))(l:jz s K):
    Calls prog 9 #[.pointer (some ⟨gd,0,none⟩)] w λe w'=>∃gs bt,e=.returned (.tuple #[.pointer (some ⟨gs,0,none⟩),.nilIface])/\dO W w' gs gd bs bf bt s (600*hlf q.size)/\dZ (iY bs bf bs) W w w':=
 (wO c g f hu b (by omega) k l).mono λe w' ⟨gs,bt,i,hS,_,_,d⟩=>⟨gs,bt,i,hS.st,d⟩
theorem Co{D:Nat}{w:World}{q:DP}{s:SW}{tot:Nat}{X:Array Value}(h:bE w q tot X)(ht:tot<=48000)(hu:Up q)(hz:q.size<=80)(i:opnS q=(s.p,0,some s))(f:jC q<4294967296)(b:D<=w.heap.size)(c:cX 3 1 w):
    Calls prog 35 #[.agg X] w λe w'=>∃Z,e=.returned (.tuple #[.agg Z,.int .i64 0])/\ie D w' s (tot+hlf q.size) Z/\aa w w':=by
 have h1:=FI (D:=D) h (by unfold hlf;omega) hu (by omega) f b c;rw[i]at h1;exact h1.mono λe w' ⟨Z,g,_,k,d⟩=>⟨Z,g,k s rfl,d⟩
theorem tV{n b:Nat}{x:Array Value}:kh n bT (λw=>ac w b 56 x):=⟨λ_ _ d h=>d.blk h,λw w' g t k ht i f hF h=>h.fr hF (λe=>ac.ne_ f h (λc=>by revert ht;rw[c];decide) e.symm)⟩
theorem nl{P:Program}{c:Array Oper}{rest:List Oper}{o:Oper}{a:Act}{Q:Exit->Act->World->Prop}{w:World}{t T:TypeId}{x:Operand}{b off:Nat}{cs:Array Value}{v:Value}{d:TypeDesc}(H:ac w b T cs)(g:o.op=.load t x)(k:Region.wanted o (yielded c a.tmps)=true)(l:a.eval x=.pointer (some ⟨b,off,none⟩))(hu:P.underlying t=some d)(hd:d.isRow=false)(i:cs[off]?=some v)
    (h:wpList P c Q rest (a.put o.dst v) w):wpList P c Q (o::rest) a w:=by
 refine cH k λK f=>?_
 unfold Oper.wp execOp;simp only[g,l,Sem.run_bind,mL hu hd ((H.cell off).trans i),Result.andThen_ok,Sem.run_pure];exact f _ _ h
structure PN(s:SW)(K:List (List Int))(mm tt j sz:Nat):Prop where
 ok:jz s K
 hz:s.p.size=sz
 gen:s.gen<=1+j
 hm:mm<=24000+600*j
 ht:tt<=200+1760*j
 s4:4<=sz
 s80:sz<=80
section
variable {s s':SW}{K K':List (List Int)}{mm tt mm' tt' j sz:Nat}
theorem PN.hlf(h:PN s K mm tt j sz):hlf s.p.size<=39/\(hlf s.p.size+1)*(hlf s.p.size+1)<=1600:=by
 have h1:Go.Proofs.YtfchcdbfalgdlaaGreatDoor.hlf s.p.size<=39:=by
  have:=h.hz;have:=h.s80;unfold Go.Proofs.YtfchcdbfalgdlaaGreatDoor.hlf;omega
 exact⟨h1,by
  have h2:Go.Proofs.YtfchcdbfalgdlaaGreatDoor.hlf s.p.size+1<=40:=by omega
  exact Nat.le_trans (Nat.mul_le_mul h2 h2) (by decide)⟩
theorem PN.pre(h:PN s K mm tt j sz)(b:j<=24):ki s.t/\4<=s.p.size/\s.gen<4294967296/\s.gen+1<4294967296/\mm<=900000/\tt+(2*s.p.size+(Go.Proofs.YtfchcdbfalgdlaaGreatDoor.hlf s.p.size+1)*(Go.Proofs.YtfchcdbfalgdlaaGreatDoor.hlf s.p.size+1))<=50000:=by
 have h1:=h.hlf.2;have:=h.gen;have:=h.hm;have:=h.ht;have:=h.hz;have:=h.s4;have:=h.s80;exact⟨h.ok.tok,by omega,by omega,by omega,by omega,by omega⟩
theorem PN.step(h:PN s K mm tt j sz)(b:jz s' K')(hz:s'.p.size=s.p.size)(c:s'.gen<=s.gen+1)(hm:mm'<=mm+600)(ht:tt'<=tt+1760):PN s' K' mm' tt' (j+1) sz:=
 ⟨b,hz.trans h.hz,by have:=h.gen;omega,by have:=h.hm;omega,by have:=h.ht;omega,h.s4,h.s80⟩
theorem PN.swept(h:PN s K mm tt j sz)(d:j<=24):∃K',PN (aN s).1 K' mm (tt+(Go.Proofs.YtfchcdbfalgdlaaGreatDoor.hlf s.p.size+1)*(Go.Proofs.YtfchcdbfalgdlaaGreatDoor.hlf s.p.size+1)) (j+1) sz:=by
 obtain⟨K',h1,-,b,c⟩:=h.ok.swept (h.pre d).2.2.2.1;exact⟨K',h.step h1 b c (by omega) (by have:=h.hlf.2;omega)⟩
theorem PN.committed(h:PN s K mm tt j sz)(f:j<=24){L:List PC}(d:∀c∈L,Dc c):∃K',PN (ed s L).1 K' (mm+600) (tt+(2*s.p.size+(Go.Proofs.YtfchcdbfalgdlaaGreatDoor.hlf s.p.size+1)*(Go.Proofs.YtfchcdbfalgdlaaGreatDoor.hlf s.p.size+1))) (j+1) sz:=by
 obtain⟨K',h1,h2,b,-⟩:=h.ok.commit d (h.pre f).2.2.2.1;exact⟨K',h.step h1 h2 b (by omega) (by have:=h.hlf.2;have:=h.hz;have:=h.s80;omega)⟩
theorem PN.cut(h:PN s K mm tt j sz)(keep:List Bool):∃s',opnS (s.p.cut keep)=(s'.p,0,some s')/\PN s' K (600*Go.Proofs.YtfchcdbfalgdlaaGreatDoor.hlf s.p.size) (tt+Go.Proofs.YtfchcdbfalgdlaaGreatDoor.hlf s.p.size) (j+1) sz:=by
 obtain⟨s',b,c,f,g,i,d⟩:=h.ok.open_ keep;refine⟨s',b,c,d.trans h.hz,?_,?_,?_,h.s4,h.s80⟩
 ·have:=h.gen;omega
 ·have:=h.hlf.1;omega
 ·have:=h.hlf.1;have:=h.ht;omega
theorem PN.fused(h:PN s K mm tt j sz){a:Int}(b:a<=9223372036854775807):PN {s with p:=s.p.fused a} K mm tt (j+1) sz:=
 h.step (h.ok.fused a b) rfl (by show s.gen<=_;omega) (by omega) (by omega)
theorem PN.same(h:PN s K mm tt j sz):PN s K mm tt (j+1) sz:=h.step h.ok rfl (by omega) (by omega) (by omega)
end
end Go.Proofs.YtfchcdbfalgdlaaGreatDoor
namespace Go.Proofs.YtfchcdbfalgdlaaGreatDoor
open _root_.Go.Proofs.Tryz
open Go.RowKit Go.Sort Go.ChangeShapes Go.WideShapes Go.ChangeAt
theorem laid_u32{W:World}{n:String}{d:DataW Unit}{r:List (String×DataW Unit)}{J:List MemPlace}{g t N:Nat}(L:List Int)(h:DataW.LaidVars prog W ((n,d)::r) J)(v:prog.globalNamed n=some g)(ht:(prog.globals[g]?).map (·.type)=some t)(hu:prog.underlying t=some (.array N 44))(hd:d=.agg (L.map λx=>.lit (.int .u32 x)))(hl:L.length=N):
    (∀j,j<N->W.cell? ⟨g,j,none⟩=some (.int .u32 (at_ L j)))/\∃l,DataW.LaidVars prog W r l:=by
 obtain⟨g',M,cs,o,p,q,i,k,H,c,G,_⟩:=h;obtain rfl:=Option.some.inj (v.symm.trans i);obtain rfl:=Option.some.inj (ht.symm.trans k);refine⟨λj F=>?_,_,G⟩;obtain⟨xs,m,_,ex,_,I,f⟩:=DataW.trod_array hu c;have y:prog.cellsOf 44=1:=by kernel_rfl
 have u:=f j F;rw[y,Nat.mul_one,List.getElem?_eq_getElem (by omega)]at u;obtain⟨z,B,C,_⟩:=DataW.trod_int underlying44 u
 have E:(xs.map (·.1))=L.map λn=> .lit (.int .u32 n):=by
  have h0:=(Prod.mk.inj ex).1;rw[hd]at h0;exact(DataW.agg.inj h0).symm
 have b:(xs.map (·.1))[j]?=(L.map λn=>(DataW.lit (.int .u32 n):DataW Unit))[j]? :=by rw[E]
 rw[List.getElem?_map,List.getElem?_map,List.getElem?_eq_getElem (by omega:j<xs.length),List.getElem?_eq_getElem (by omega:j<L.length),C]at b
 have hz:z=at_ L j:=by
  simp only[Option.map_some,Option.some.injEq,DataW.lit.injEq,Lit.int.injEq,true_and]at b;unfold at_;rw[b,List.getD,List.getElem?_eq_getElem (by omega:j<L.length)];rfl
 rw[World.var?_cell v H j,<-hz]
 have:cs.toList[j]?=some (.int .u32 z):=by
  have h0:((cs.toList.drop j).take 1)[0]?=some (.int .u32 z):=by rw[B];rfl
  simpa using h0
 simpa using this
theorem uT{W:World}{g:Nat}(h:∀j,j<8->W.cell? ⟨g,j,none⟩=some (.int .u32 (at_ iH.list j))):W.rangeAt g 0 iH.arr.toList:=λj v b=>by
 have c:j<8:=by
  have:=(List.getElem?_eq_some_iff.1 b).1;exact this
 rw[Nat.zero_add,h j c,<-b];rcases (by omega:j=0\/j=1\/j=2\/j=3\/j=4\/j=5\/j=6\/j=7)with rfl|rfl|rfl|rfl|rfl|rfl|rfl|rfl<;>rfl
theorem CA{W:World}(h:laidMetH prog [("entrust/entrustref02.Constants",Rows.laid_entrust_entrustref02_Constants),("entrust/entrustref02.Initials",Rows.laid_entrust_entrustref02_Initials),("entrust/sha.constants",Rows.laid_entrust_sha_constants),("entrust/sha.initials",Rows.laid_entrust_sha_initials)] W):cX 3 1 W/\dC 4 2 W:=by
 rw[MakeChecks.laidMetH_plain _ _ _ (by kernel_rfl)]at h;obtain⟨k,h,-,-⟩:=h;obtain⟨h1,d,h⟩:=laid_u32 kL h (by kernel_rfl) (by kernel_rfl) underlying250 rfl rfl;obtain⟨h2,f,h⟩:=laid_u32 iH.list h (by kernel_rfl) (by kernel_rfl) underlying243 rfl rfl;obtain⟨b,g,h⟩:=laid_u32 kL h (by kernel_rfl) (by kernel_rfl) underlying250 rfl rfl;obtain⟨c,i,h⟩:=laid_u32 iH.list h (by kernel_rfl) (by kernel_rfl) underlying243 rfl rfl;exact⟨⟨h1,uT h2⟩,⟨b,uT c⟩⟩
end Go.Proofs.YtfchcdbfalgdlaaGreatDoor
namespace Go.Proofs.YtfchcdbfalgdlaaGreatDoor
open _root_.Go.Proofs.Tryz
open Go.RowKit Go.Sort
structure PI(W:World)(gd bs bf b7 b10:Nat)(X7:Array Value)(gs bt:Nat)(s:SW)(K:List (List Int))(mm tt j sz:Nat)(Z:Array Value)(w:World):Prop where
 bx:Bx prog bT W w [⟨b7,65,X7⟩,⟨b10,79,Z⟩] (λw=>ie W.heap.size w s tt Z/\dO W w gs gd bs bf bt s mm)
 nm:PN s K mm tt j sz
def RL(W:World)(gs gd bs bf bt b12:Nat)(x:AW)(s s2:SW)(mm tt:Nat)(Z:Array Value)(w:World):Prop:=ie W.heap.size w s tt Z/\(dO W w gs gd bs bf bt s2 mm/\ac w b12 56 x.cells.toArray)
section
variable {W w w':World}{gs gd bs bf bt b12 mm tt mm' tt':Nat}{x:AW}{s s2 s3:SW}{Z Z':Array Value}{L:List nP}
theorem qo(W:World)(gs gd bs bf bt b12:Nat)(x:AW)(s s2:SW)(mm tt:Nat)(Z:Array Value):kh W.heap.size bT (RL W gs gd bs bf bt b12 x s s2 mm tt Z):=(lj _ _ _ _).and ((tW _ _ _ _ _ _ _ _).and tV)
theorem Bx.rf(h:Bx prog bT W w L (RL W gs gd bs bf bt b12 x s s2 mm tt Z))(c:ie W.heap.size w' s3 tt' Z')(b:aa w w'):Bx prog bT W w' L (RL W gs gd bs bf bt b12 x s3 s2 mm tt' Z'):=
 (h.call b c (lj _ _ _ _)).rel (λh=>⟨h.2,h.1.2⟩) (qo _ _ _ _ _ _ _ _ _ _ _ _ _)
theorem Bx.lv(h:Bx prog bT W w L (RL W gs gd bs bf bt b12 x s s2 mm tt Z))(b:ml W w gs gd bs bf bt s3 mm' w'):Bx prog bT W w' L (RL W gs gd bs bf bt b12 x s s3 mm' tt Z):=
 have c:=CF h.r.2.1
 h.kps b.2 c ⟨h.r.1.kps b.2 c,b.1,b.2.blk h.r.2.2 (λhm=>c _ hm _ ⟨_,_,h.r.2.2⟩) (by decide) (by decide) (by decide) (by decide)⟩ (qo _ _ _ _ _ _ _ _ _ _ _ _ _)
def RD(W:World)(gd bs bf b12:Nat)(x:AW)(s:SW)(tt:Nat)(Z:Array Value)(v:Value)(q:DP)(w:World):Prop:=ie W.heap.size w s tt Z/\(Dk w W.heap.size gd bs bf v q/\ac w b12 56 x.cells.toArray)
theorem Bx.ct{v:Value}{q:DP}(h:Bx prog bT W w L (RL W gs gd bs bf bt b12 x s s2 mm tt Z))(d:Dk w' W.heap.size gd bs bf v q)(b:dZ (iY bs bf bs) W w w'):Bx prog bT W w' L (RD W gd bs bf b12 x s tt Z v q):=
 have c:∀k,iY bs bf bs k->∀t,¬aK t w k:=λk f=>CF h.r.2.1 k (by
  rcases f with e|e|e
  ·exact .inl e
  ·exact .inr (.inl e)
  ·exact .inl e)
 h.kps b c ⟨h.r.1.kps b c,d,b.blk h.r.2.2 (λhm=>c _ hm _ ⟨_,_,h.r.2.2⟩) (by decide) (by decide) (by decide) (by decide)⟩ ((lj _ _ _ _).and ((iQ _ _ _ _ _ _).and tV))
theorem Bx.op{v:Value}{q:DP}(h:Bx prog bT W w L (RD W gd bs bf b12 x s tt Z v q))(hS:dO W w' gs gd bs bf bt s2 mm)(b:dZ (iY bs bf bs) W w w'):Bx prog bT W w' L (RL W gs gd bs bf bt b12 x s s2 mm tt Z):=
 have c:=sU h.r.2.1
 h.kps b c ⟨h.r.1.kps b c,hS,b.blk h.r.2.2 (λhm=>c _ hm _ ⟨_,_,h.r.2.2⟩) (by decide) (by decide) (by decide) (by decide)⟩ (qo _ _ _ _ _ _ _ _ _ _ _ _ _)
end
set_option maxHeartbeats 8000000
theorem vB(a:Int)(ha:(Lit.int .i64 a).wf=true)(A:Option Addr)(m c:Nat)(L:List AW)(W:World)(hT:cX 3 1 W/\dC 4 2 W)(hm:m<=maxLen)(hS:Rd (λb=>b<W.heap.size) W 5 A m (L.flatMap AW.cells))(hl:L.length=m)(hg:∀x∈L,x.Good W):
    Calls prog 6 #[.int .i64 a,.slice A m c] W λe w'=>e=.returned (.bool true)/\aa W w':=by
 have HT:=Ld hT;have HS:=Ld hS;have m7:=Ld hl;have HG:=Ld hg;have m9:=Ld hm;have l8:=Ld (xp W hT.2);have ab:=bounds_i64 ha;clear hT hm hS hl hg ha
 go_enter func6,ntmps6
 go_wp2_with fail;refine l8.out.mono ?_;rintro e w1 ⟨rfl,o7⟩;have i7:=Ld o7;clear o7 l8
 go_wp2_with fail;refine(Di A m c L w1 (i7.out.rd HS.out |>.imp λk hk=>by have:=i7.out.size;omega) m7.out m9.out (λx hx=>(HG.out x hx).new i7.out)).mono ?_;rintro e w4 ⟨⟨lb,rfl,q'⟩,o8⟩;have g9:Hid (aa W w4):=Ld (i7.out.tr o8);have m5:=Ld q';clear o8 q' i7 m9;rcases lb with _|_
 rotate_left
 ·go_wp2_with fail;go_ret;exact⟨rfl,g9.out⟩
 have HM:Hid (m<=25/\∀x∈L,x.b.n<=30):=Ld (m5.out rfl);clear m5;have j1:(80<a/\a<=16384)\/(80<a/\16384<a)\/(a<=80/\a<1)\/(a<=80/\1<=a):=by omega
 rcases j1 with⟨h1,h2⟩|⟨h1,h2⟩|⟨h1,h2⟩|⟨h1,h2⟩
 ·go_wp2_with fail;go_ret;exact⟨rfl,g9.out⟩
 ·have k':=Ld (yz a w4 (by omega))
  go_wp2_with fail;refine k'.out.mono ?_;rintro e w5 ⟨rfl,rfl⟩
  go_wp2_with fail;go_ret;exact⟨rfl,g9.out⟩
 ·have k':=Ld (yz a w4 (by omega))
  go_wp2_with fail;refine k'.out.mono ?_;rintro e w5 ⟨rfl,rfl⟩
  go_wp2_with fail;go_ret;exact⟨rfl,g9.out⟩
 obtain⟨sz,rfl⟩:∃sz:Nat,a=(sz:Int):=⟨a.toNat,by omega⟩
 have i2:Hid (1<=sz/\sz<=80):=Ld (by omega);have n':Hid (∀w,aa W w->Calls prog 22 #[.int .i64 sz] w λe w'=>∃gd bs bf,e=.returned (.tuple #[.pointer (some ⟨gd,0,none⟩),.nilIface])/\Dk w' W.heap.size gd bs bf (.slice none 0 0) (DP.new sz)/\aa w w'):=Ld λw n=>Fj sz W w n (by omega) (by omega)
 have l:Hid (Bx prog bT W w4 [] (λ_=>True)):=Ld ((Bx.start trivial kh.triv).new g9.out);clear ab h2 g9
 go_upto_region 8 with (first
  |(go_at_call 22;refine(n'.out _ l.out.nw).mono ?_;rintro e w2 ⟨gd,bs,bf,rfl,hD,n⟩;have i':=Ld hD.ok;replace l:=Ld ((l.out.call n hD (iQ _ _ _ _ _ _)).rel (λh=>h.2) (iQ _ _ _ _ _ _));clear n hD))
 clear n' h1;obtain⟨R,j2⟩:=nm (DP.new sz);have z:R.size=sz/\Up R:=by rw[j2];exact⟨rfl,Up.new sz⟩
 have i0:=Ld j2;rw[<-j2]at i' l
 by_cases h4:sz<4
 ·have T:Hid (∀w,Dk w W.heap.size gd bs bf (.slice none 0 0) R->Calls prog 14 #[.pointer (some ⟨gd,0,none⟩)] w λe w'=>e= .returned (dP 1)/\w=w'):=Ld λw hd=>tc hd (by rw [z.1];exact h4)
  have b9:Hid (∀w,Dk w W.heap.size gd bs bf (.slice none 0 0) R->Calls prog 9 #[.pointer (some ⟨gd,0,none⟩)] w λe w'=>e=.returned (.tuple #[.pointer none,dP 1])/\w=w'):=Ld λw hd=>vv hd (by rw[z.1];exact h4)
  have j3:Hid (∀w,Calls prog 30 #[.int .i64 sz] w λe w'=>∃X,e=.returned (.agg X)/\bE w' R 0 X/\aa w w'):=Ld λw=>by rw[i0.out];exact Cn sz w (i0.out▸i'.out)
  have i6:Hid (∀w X,bE w R 0 X->Calls prog 33 #[.agg X] w (gm R 0 1 w)):=Ld λw X hd=>qK hd (by rw[z.1];exact h4)
  have d':Hid (∀w X,bE w R 0 X->Calls prog 35 #[.agg X] w λe w'=>∃Z,e=.returned (.tuple #[.agg Z,.int .i64 1])/\jy 14 Z/\aa w w'):=Ld λw X hd=>by
   have B:opnS R=(R,1,none):=by unfold opnS;rw[if_pos (by rw[z.1];exact h4)]
   have h1:=lU (D:=0) hd (by rw[z.1];exact h4);rw[B]at h1;exact h1.mono λe w' ⟨Z,he,hz,_,n⟩=>⟨Z,he,hz,n⟩
  obtain⟨ev,H⟩:=nm (dP 1);have i9:Hid (∀W,Calls prog 34 #[ev] W λe w'=>e=.returned (.int .i64 1)/\W=w'):=Ld λW=>by rw[H];exact mC 1 W
  rw[<-H]at T b9;clear H h4 z j2 i0 i' HT HS m7 HG HM i2
  go_wp2_with (first
   |(go_at_call 14;refine(T.out _ l.out.r).mono ?_;rintro e w5 ⟨rfl,rfl⟩)
   |(go_at_call 9;refine(b9.out _ l.out.r.2).mono ?_;rintro e w5 ⟨rfl,rfl⟩)
   |(go_at_call 30;refine(j3.out _).mono ?_;rintro e w3 ⟨X0,rfl,hD,n⟩;replace l:=Ld ((l.out.call n hD (bq _ _ _)).rel (R':=λw=>bE w R 0 X0/\Dk w W.heap.size gd bs bf (.slice none 0 0) R) (λh=>⟨h.2,h.1⟩) ((bq _ _ _).and (iQ _ _ _ _ _ _)));clear n hD)
   |(go_at_call 33;refine(i6.out _ _ l.out.r.1).mono ?_;intro e w8 hs;have hb:=l.out.dks hs (λ_ h=>h.2) (iQ _ _ _ _ _ _);clear l hs;obtain⟨X8,rfl,j5,l⟩:=hb)
   |(go_at_call 34;refine(i9.out _).mono ?_;rintro e w5 ⟨rfl,rfl⟩)
   |(refine bP l.out rfl rfl cI zR (by decide) ?_;clear l;intro Y b7 l)
   |(refine bP l.out rfl rfl ca zS (by decide) ?_;clear l;intro Y c6 l)
   |(refine gc 65 rfl ?_;refine aX 0 l.out rfl rfl rfl rfl rfl rfl j5.out cI ?_;clear l;intro Y l)
   |(refine eP 65 rfl ?_;refine be 0 l.out rfl rfl rfl rfl rfl ?_)
   |(go_at_call 35;refine(d'.out _ _ l.out.r.1).mono ?_;rintro e w3 ⟨Z,rfl,hz,n⟩;have HZ:=Ld hz;replace l:=Ld (l.out.new n);clear n hz)
   |(refine gc 79 rfl ?_;refine aX 1 l.out rfl rfl rfl rfl rfl rfl HZ.out ca ?_;clear l;intro Y l))
  go_ret;exact⟨rfl,l.out.nw⟩
 have r':=Ld z;have k1:Hid (4<=sz):=Ld (by omega);have j6:=Bn i'.out z.2 (by rw[z.1];omega);have j7:=wt z.2 (by rw[z.1];omega);obtain⟨s,o1,o2,o3,o4,o5,o6⟩:=j6.1.open_ [];rw[show(SW.mk (ef R) (aW R.size 1) [] 1 false).p=ef R from rfl,j6.2.2]at o1;have c7:(ef R).size=sz:=j6.2.1.trans z.1;have T:Hid (∀w,Dk w W.heap.size gd bs bf (.slice none 0 0) R->aa W w->Calls prog 14 #[.pointer (some ⟨gd,0,none⟩)] w λe w'=>e=.returned .nilIface/\(∃v',Dk w' W.heap.size gd bs bf v' (ef R))/\dZ (iY bs bf bs) W w w'):=Ld λw hd n=>EM hd n HT.out.2 z.2 (by rw[z.1];omega)
 have j3:Hid (∀w,Calls prog 30 #[.int .i64 sz] w λe w'=>∃X,e=.returned (.agg X)/\bE w' R 0 X/\aa w w'):=Ld λw=>by rw[i0.out];exact Cn sz w (i0.out▸i'.out)
 have i6:Hid (∀w X,bE w R 0 X->aa W w->Calls prog 33 #[.agg X] w (gm (ef R) 50 0 w)):=Ld λw X hd n=>by
  refine(zZ hd (by omega) z.2 (by rw[z.1];omega) (HT.out.1.new n)).mono ?_;rintro e w' ⟨X',he,r5,r3⟩;exact⟨X',he,r5.up (by rw[z.1];have:=i2.out;unfold hlf;omega),r3⟩
 obtain⟨q,hq⟩:=nm (ef R);rw[<-hq]at o1 c7 j7 T i6;obtain⟨mm,q0⟩:=nm (600*hlf sz);obtain⟨tt,j8⟩:=nm (50+hlf sz)
 have b9:Hid (∀w v,Dk w W.heap.size gd bs bf v q->aa W w->Calls prog 9 #[.pointer (some ⟨gd,0,none⟩)] w λe w'=>∃gs bt,e=.returned (.tuple #[.pointer (some ⟨gs,0,none⟩),.nilIface])/\dO W w' gs gd bs bf bt s mm/\dZ (iY bs bf bs) W w w'):=Ld λw v hd n=>by
  rw[q0,<-c7];exact BN hd n HT.out.2 j7.1 (by rw[c7];exact k1.out) (by rw[c7];exact i2.out.2) o1 o2
 have d':Hid (∀w X,bE w q 50 X->aa W w->Calls prog 35 #[.agg X] w λe w'=>∃Z,e=.returned (.tuple #[.agg Z,.int .i64 0])/\ie W.heap.size w' s tt Z/\aa w w'):=Ld λw X hd n=>by
  rw[j8,<-c7];exact Co hd (by omega) j7.1 (by rw[c7];exact i2.out.2) o1 (yb hd.ok) n.size (HT.out.1.new n)
 have t:Hid (PN s [] mm tt 0 sz):=Ld (by
  have r2:=i2.out.2;have hh:hlf sz<=39:=by unfold hlf;omega
  have r9:s.p.size=sz:=o6.trans (hq▸c7)
  exact⟨o2,r9,by rw[o3];exact Nat.le_refl 1,by omega,by omega,k1.out,r2⟩)
 clear j6 j7 o1 o2 o3 o4 o5 o6 c7 hq q0 j8 h4 z r' j2
 go_upto_region 16 with (first
  |(go_at_call 14;refine(T.out _ l.out.r l.out.nw).mono ?_;rintro e w5 ⟨rfl,⟨v7,hD⟩,u⟩;replace l:=Ld (l.out.kps (R':=λw=>Dk w W.heap.size gd bs bf v7 q) u (sU l.out.r) hD (iQ _ _ _ _ _ _));clear u hD)
  |(go_at_call 30;refine(j3.out _).mono ?_;rintro e w3 ⟨X0,rfl,hD,n⟩;replace l:=Ld ((l.out.call n hD (bq _ _ _)).rel (R':=λw=>bE w R 0 X0/\Dk w W.heap.size gd bs bf v7 q) (λh=>⟨h.2,h.1⟩) ((bq _ _ _).and (iQ _ _ _ _ _ _)));clear n hD)
  |(go_at_call 33;refine(i6.out _ _ l.out.r.1 l.out.nw).mono ?_;intro e w8 hs;have hb:=l.out.dks hs (λ_ h=>h.2) (iQ _ _ _ _ _ _);clear l hs;obtain⟨X8,rfl,j5,l⟩:=hb)
  |(go_at_call 34;refine(tx _).mono ?_;rintro e w5 ⟨rfl,rfl⟩)
  |(refine bP l.out rfl rfl cI zR (by decide) ?_;clear l;intro Y b7 l)
  |(refine bP l.out rfl rfl ca zS (by decide) ?_;clear l;intro Y c6 l)
  |(refine gc 65 rfl ?_;refine aX 0 l.out rfl rfl rfl rfl rfl rfl j5.out cI ?_;clear l;intro Y l)
  |(refine eP 65 rfl ?_;refine be 0 l.out rfl rfl rfl rfl rfl ?_)
  |(go_at_call 9;refine(b9.out _ _ l.out.r.2 l.out.nw).mono ?_;rintro e w5 ⟨gs,bt,rfl,q4,u⟩;replace l:=Ld (l.out.kps (R':=λw=>bE w q 50 X8/\dO W w gs gd bs bf bt s mm) u (sU l.out.r.2) ⟨l.out.r.1.kps u (sU l.out.r.2),q4⟩ ((bq _ _ _).and (tW _ _ _ _ _ _ _ _)));clear u q4)
  |(go_at_call 35;refine(d'.out _ _ l.out.r.1 l.out.nw).mono ?_;rintro e w3 ⟨Z,rfl,hz,n⟩;have HZ:=Ld hz.row;replace l:=Ld ((l.out.call n hz (lj _ _ _ _)).rel (R':=λw=>ie W.heap.size w s tt Z/\dO W w gs gd bs bf bt s mm) (λh=>⟨h.2,h.1.2⟩) ((lj _ _ _ _).and (tW _ _ _ _ _ _ _ _)));clear n hz)
  |(refine gc 79 rfl ?_;refine aX 1 l.out rfl rfl rfl rfl rfl rfl HZ.out ca ?_;clear l;intro Y l))
 have HI:Hid (PI W gd bs bf b7 c6 X8 gs bt s [] mm tt 0 sz Z Y):=Ld ⟨l.out,t.out⟩;clear l t T j3 i6 b9 d' i' i0 j5 HZ i2 k1
 go_wp2_with fail;go_loopw [9,77] (λsv i wr=>∃(j gs bt:Nat) (s:SW) (K:List (List Int)) (mm tt:Nat) (Z:Array Value),Hid (j<=m)/\i=.int .i64 (j:Int)/\sv=.pointer (some ⟨gs,0,none⟩)/\Hid (PI W gd bs bf b7 c6 X8 gs bt s K mm tt j sz Z wr)) (λ_ i _=>m-(intOf i).toNat)
 case atStart=>exact⟨0,gs,bt,s,[],mm,tt,Z,Ld (Nat.zero_le _),rfl,rfl,HI⟩
 case round=>
  clear HI;obtain⟨j,gs,bt,s,K,mm,tt,Z,HJ,rfl,rfl,HI⟩:=hrel;have HZ:Hid (jy 14 Z):=Ld HI.out.bx.r.1.row
  by_cases hj:j<m
  ·have s9:(j:Int)<(m:Int):=by omega
   have s7:(0:Int)<=(j:Int):=by omega
   have m4:=Ld hj;have I:Hid (j<=24):=Ld (by have:=HM.out.1;omega);have e1:IntKind.i64.wrap ((j:Int)+1)=(j:Int)+1:=IntWalk.i64_in _ (by have:=HM.out.1;omega);obtain⟨g,o,hl,rfl,-,-,i5⟩:=eZ (f:=AW.cells) (L:=L) (λ_=>rfl) (by omega) (HI.out.bx.nw.rd HS.out) hj;have c0:wr.cell? ⟨g,o+j*5,none⟩=some (.int .i64 L[j].kind):=i5 0 _ rfl;have c1:=i5 1 _ rfl;have c2:=i5 2 _ rfl;have c3:=i5 3 _ rfl;have c4:=i5 4 _ rfl;have b1:Hid (L[j].Good W):=Ld (HG.out _ (List.getElem_mem _));have n9:Hid (L[j].b.n<=30):=Ld (HM.out.2 _ (List.getElem_mem _));generalize L[j]=x at c0 c1 c2 c3 c4 b1 n9;obtain⟨kd,P,⟨xA,xn,xc,xs⟩,bits,yA,yn,yc,ys⟩:=x;obtain⟨bn,rfl⟩:∃bn:Nat,bits=(bn:Int):=⟨bits.toNat,by have h:=(bounds_u64 b1.out.bits).1;dsimp only at h;omega⟩
   dsimp only at c0 c1 c2 c3 c4;clear hj i5 hl
   go_upto_region 19 with fail;obtain⟨w7,j9⟩:=nM (wr.alloc (.cells #[.int .i64 kd,.int .i64 P,.slice xA xn xc,.int .u64 (bn:Int),.slice yA yn yc] 56):World);obtain⟨b12,g5⟩:=nM (wr.heap.size);obtain⟨x,hx⟩:=nm (AW.mk kd P ⟨xA,xn,xc,xs⟩ (bn:Int) yA yn yc ys);have l:Hid (Bx prog bT W w7 [⟨b7,65,X8⟩,⟨c6,79,Z⟩] (RL W gs gd bs bf bt b12 x s s mm tt Z)):=Ld (((HI.out.bx.call (w':=w7) (R':=λw=>ac w b12 56 x.cells.toArray) (by rw[j9];exact aa.al (aa.refl _) _) (by rw[j9,g5,hx];exact ac.new _ _ _) tV).rel (λh=>⟨h.1.1,h.1.2,h.2⟩) (qo _ _ _ _ _ _ _ _ _ _ _ _ _)));have c5:Hid (x.cells.toArray= #[.int .i64 kd,.int .i64 P,.slice xA xn xc,.int .u64 (bn:Int),.slice yA yn yc]):=Ld (by rw[hx];rfl);have q7:x.Good W:=by rw[hx];exact b1.out
   have q6:(x.b=⟨xA,xn,xc,xs⟩/\x.A2=yA/\x.n2=yn)/\x.keep=ys/\x.bits=(bn:Int)/\x.num=P:=by rw[hx];exact⟨⟨rfl,rfl,rfl⟩,rfl,rfl,rfl⟩
   have t:=Ld HI.out.nm;have b1:=Ld q7;have f':=Ld q6;rw[<-j9,<-g5];clear j9 g5 HI c0 c1 c2 c3 c4 hx q7 q6
   go_upto_block 2 with (first
    |(refine eP 3 rfl ?_;refine nl l.out.r.2.2 rfl rfl rfl underlying3 rfl (by rw[c5.out];rfl) ?_))
   obtain⟨qk,hq⟩:∃q,q=(IntKind.u64.wrap kd).tmod 8:=⟨_,rfl⟩
   rw[<-hq];clear hq
   have b':Hid (s.t.length<=900000):=Ld (by
    obtain⟨gl,gt,v,X,m',E,h⟩:=l.out.r.2.1;have h1:=h.mm;have h2:s.t.length<=mm:=by rw[<-h.ct,du];exact h1.2
    have:=t.out.hm;have:=I.out
    omega)
   have b':Hid (s.t.length<=900000):=Ld (by
    obtain⟨gl,gt,v,X,m',E,h⟩:=l.out.r.2.1;have h1:=h.mm;have h2:s.t.length<=mm:=by rw[<-h.ct,du];exact h1.2
    have:=t.out.hm;have:=I.out
    omega)
   have b':Hid (s.t.length<=900000):=Ld (by
    obtain⟨gl,gt,v,X,m',E,h⟩:=l.out.r.2.1;have h1:=h.mm;have h2:s.t.length<=mm:=by rw[<-h.ct,du];exact h1.2
    have:=t.out.hm;have:=I.out
    omega)
   have b':Hid (s.t.length<=900000):=Ld (by
    obtain⟨gl,gt,v,X,m',E,h⟩:=l.out.r.2.1;have h1:=h.mm;have h2:s.t.length<=mm:=by rw[<-h.ct,du];exact h1.2
    have:=t.out.hm;have:=I.out
    omega)
   have b':Hid (s.t.length<=900000):=Ld (by
    obtain⟨gl,gt,v,X,m',E,h⟩:=l.out.r.2.1;have h1:=h.mm;have h2:s.t.length<=mm:=by rw[<-h.ct,du];exact h1.2
    have:=t.out.hm;have:=I.out
    omega)
   have b':Hid (s.t.length<=900000):=Ld (by
    obtain⟨gl,gt,v,X,m',E,h⟩:=l.out.r.2.1;have h1:=h.mm;have h2:s.t.length<=mm:=by rw[<-h.ct,du];exact h1.2
    have:=t.out.hm;have:=I.out
    omega)
   by_cases h4:qk=4
   focus
    subst h4;have l4:=b'.out;obtain⟨K2,G⟩:=t.out.swept I.out;obtain⟨p1,p2,p3,p4,p5,p6⟩:=t.out.pre I.out;obtain⟨M,F⟩:=nm (tt+(hlf s.p.size+1)*(hlf s.p.size+1));obtain⟨c2,J⟩:=nm (aN s).2;obtain⟨s2,C⟩:=nm (aN s).1;obtain⟨ev,H⟩:=nm (dP c2);have i9:Hid (∀W,Calls prog 34 #[ev] W λe w'=>e=.returned (.int .i64 c2)/\W=w'):=Ld λW=>by rw[H];exact mC c2 W
    have i1:Hid (∀w,ie W.heap.size w s tt Z->aa W w->Calls prog 36 #[.agg Z] w λe w'=>∃Z',e=.returned (.tuple #[.agg Z',.int .i64 c2])/\ie W.heap.size w' s2 M Z'/\aa w w'):=Ld λw B n=>by
     rw[J,C,F];exact pX B p1 p2 p3 (by omega) (by omega) (HT.out.1.new n)
    have n5:Hid (∀w,dO W w gs gd bs bf bt s mm->aa W w->Calls prog 16 #[.pointer (some ⟨gs,0,none⟩)] w λe w'=>e=.returned ev/\ml W w gs gd bs bf bt s2 mm w'):=Ld λw h n=>by
     rw[H,J,C];exact nG h n HT.out.2 (by omega) p1
    rw[<-C,<-F]at G;have N:=Ld G;clear G p1 p2 p3 p4 p5 p6 F J C H t l4
    go_upto_region 42 with (first
     |(refine eP 79 rfl ?_;refine be 1 l.out rfl rfl rfl rfl rfl ?_)
     |(go_at_call 36;refine(i1.out _ l.out.r.1 l.out.nw).mono ?_;rintro e w8 ⟨Z2,rfl,B,n⟩;have U:=Ld B.row;replace l:=Ld (l.out.rf B n);clear B n)
     |(refine gc 79 rfl ?_;refine aX 1 l.out rfl rfl rfl rfl rfl rfl U.out ca ?_;clear l;intro Y l)
     |(go_at_call 16;refine(n5.out _ l.out.r.2.1 l.out.nw).mono ?_;rintro e Y ⟨rfl,hS⟩;replace l:=Ld (l.out.lv hS);clear hS))
    clear i1 n5;obtain⟨V,rfl⟩:∃x,x=mm:=⟨_,rfl⟩
    obtain⟨g4,rfl⟩:∃x,x=gs:=⟨_,rfl⟩
    obtain⟨g3,rfl⟩:∃x,x=bt:=⟨_,rfl⟩
   rotate_left;have z4:decide (qk=4)=false:=decide_eq_false h4
   by_cases h5:qk=5
   focus
    subst h5;have l4:=b'.out;obtain⟨K2,G⟩:=t.out.swept I.out;obtain⟨p1,p2,p3,p4,p5,p6⟩:=t.out.pre I.out;obtain⟨M,F⟩:=nm (tt+(hlf s.p.size+1)*(hlf s.p.size+1));obtain⟨c2,J⟩:=nm (aN s).2;obtain⟨s2,C⟩:=nm (aN s).1
    have i1:Hid (∀w,ie W.heap.size w s tt Z->aa W w->Calls prog 36 #[.agg Z] w λe w'=>∃Z',e=.returned (.tuple #[.agg Z',.int .i64 c2])/\ie W.heap.size w' s2 M Z'/\aa w w'):=Ld λw B n=>by
     rw[J,C,F];exact pX B p1 p2 p3 (by omega) (by omega) (HT.out.1.new n)
    have n1:Hid (∀w,ie W.heap.size w s tt Z->Calls prog 38 #[.agg Z] w λe w'=>(∃r,e=.returned (.float .f64 r)/\vQ ((s.l.used-gH s:Nat):Int) (s.l.used:Int) r)/\aa w w'):=Ld λw B=>yM B p1 (by have:=b'.out;omega) (by have h1:=B.ok.used;have h2:=B.ok.fit;have:=t.out.hz;have:=t.out.s80;omega)
    have r0:Hid (s.l.used-gH s<=s.l.used):=Ld (Nat.sub_le _ _)
    have n7:Hid (∀w r,dO W w gs gd bs bf bt s mm->aa W w->vQ ((s.l.used-gH s:Nat):Int) (s.l.used:Int) r->Calls prog 10 #[.pointer (some ⟨gs,0,none⟩),.float .f64 bn] w λe w'=>if sX r bn=true then e=.returned (.tuple #[.bool (decide (c2=0)),dP c2])/\ml W w gs gd bs bf bt s2 mm w' else e=.returned (.tuple #[.bool false,.nilIface])/\ml W w gs gd bs bf bt s mm w'):=Ld λw r h n B=>by
     rw[J,C];refine(CL h n HT.out.2 (by omega) p1 bn).mono ?_;rintro e w' ⟨r1,p8,hx⟩;have hb:=(bounds_u64 b1.out.bits).2;rw[show x.bits=(bn:Int)from f'.out.2.2.1]at hb;rw[Bm (rt p8 B r0.out) p8.1 B.1 (by omega)]at hx;exact hx
    rw[<-C,<-F]at G;have N:=Ld G;have k0:=Ld t.out.same;clear G p1 p2 p3 p4 p5 p6 F J C l4
    go_upto_region 26 with fail;obtain⟨S,hS⟩:∃S:World->Prop,∀w',S w'↔Bx prog bT W w' [⟨b7,65,X8⟩,⟨c6,79,Z⟩] (RL W gs gd bs bf bt b12 x s s mm tt Z):=⟨_,λ_=>Iff.rfl⟩
    have q5:∀p:HW S,p.w.cell? ⟨b12,3,none⟩=some (.int .u64 (bn:Int)):=λp=>by rw[((hS _).1 p.h).r.2.2.cell,c5.out];rfl
    refine bu S (.take 0 (.take 2 (.take 3 (.act 1 (.act 4 (.take 5 (.take 6 .done))))))) (by kernel_rfl) (by kernel_rfl) ((hS _).2 (l.out.new (aa.dr (aa.refl _)))) (λi3=>?_);refine ew (o:=.mk ..) (cs:=Z.toList) rfl rfl (.tmp 10) rfl rfl (λw' h=>(((hS w').1 h).blk 1 rfl).rangeOf) underlying79 rfl (by rw[Array.length_toList,HZ.out.sz];kernel_rfl) ?_;simp only[Act.put,bC,bD,bF,Array.toArray_toList]
    iterate 2 (refine ay (o:=.mk ..) rfl (λK u=>?_);go_simp;refine u _ ?_;clear u K)
    refine aC (o:=.mk ..) rfl (λK u=>?_) (.inl rfl);go_simp;refine(n1.out _ (l.out.new (aa.dr (aa.refl _))).r.1).mono ?_;rintro e w8 ⟨⟨r,rfl,B⟩,n⟩;have HR:=Ld B;have c9:=Ld ((l.out.new (aa.dr (aa.refl _))).new n);clear B n;go_simp;refine u.out _ _ ((hS _).2 c9.out) ?_;clear u K;refine aC (o:=.mk ..) rfl (λK u=>?_) (.inl rfl);go_simp;refine(lO bn _).mono ?_;rintro e Y ⟨rfl,rfl⟩;go_simp;refine u.out _ _ ((hS _).2 c9.out) ?_;clear u K
    iterate 2 (refine ay (o:=.mk ..) rfl (λK u=>?_);go_simp;refine u _ ?_;clear u K)
    refine aO ?_;have B:=HR.out;have m1:=c9;clear l n1 hS q5 i3 c9 HR S;have l:=m1;clear m1;have b0:=Ld (λw h n=>n7.out w r h n B);obtain⟨d,hd⟩:=nm (sX r bn);have p7:(FloatKind.f64.format.order r bn==some .gt||FloatKind.f64.format.order r bn==some .eq)=d:=hd.symm;rw[<-hd]at b0;rw[p7];clear B n7 hd p7;rcases d with _|_
    focus
     replace b0:Hid (∀w,dO W w gs gd bs bf bt s mm->aa W w->Calls prog 10 #[.pointer (some ⟨gs,0,none⟩),.float .f64 bn] w λe w'=>e=.returned (.tuple #[.bool false,.nilIface])/\ml W w gs gd bs bf bt s mm w'):=Ld λw h n=>b0.out w h n
     clear i1 N K2 s2 c2 M
     go_upto_region 42 with (first
      |(refine eP 53 rfl ?_;refine nl l.out.r.2.2 rfl rfl rfl underlying53 rfl (by rw[c5.out];rfl) ?_)
      |(go_at_call 24;refine(lO bn _).mono ?_;rintro e Y ⟨rfl,rfl⟩)
      |(go_at_call 10;refine(b0.out _ l.out.r.2.1 l.out.nw).mono ?_;rintro e Y ⟨rfl,hS⟩;replace l:=Ld (l.out.lv hS);clear hS))
     clear b0;have N:=k0;have U:=HZ;clear k0 t HZ;obtain⟨c2,J⟩:∃c:Int,c=0:=⟨_,rfl⟩
     obtain⟨V,rfl⟩:∃x,x=mm:=⟨_,rfl⟩
     obtain⟨g4,rfl⟩:∃x,x=gs:=⟨_,rfl⟩
     obtain⟨g3,rfl⟩:∃x,x=bt:=⟨_,rfl⟩
     obtain⟨s2,rfl⟩:∃x,x=s:=⟨_,rfl⟩
     obtain⟨K2,rfl⟩:∃x,x=K:=⟨_,rfl⟩
     obtain⟨M,rfl⟩:∃x,x=tt:=⟨_,rfl⟩
     obtain⟨Z2,rfl⟩:∃x,x=Z:=⟨_,rfl⟩
    rotate_left
    focus
     have r4:∃k,(c2==0)=k/\decide (c2=0)=k:=⟨_,rfl,(by by_cases h:c2=0<;>simp[h])⟩
     obtain⟨k,s8,p9⟩:=r4;obtain⟨ev,H⟩:=nm (dP c2);have i9:Hid (∀W,Calls prog 34 #[ev] W λe w'=>e=.returned (.int .i64 c2)/\W=w'):=Ld λW=>by rw[H];exact mC c2 W
     replace b0:Hid (∀w,dO W w gs gd bs bf bt s mm->aa W w->Calls prog 10 #[.pointer (some ⟨gs,0,none⟩),.float .f64 bn] w λe w'=>e=.returned (.tuple #[.bool k,ev])/\ml W w gs gd bs bf bt s2 mm w'):=Ld λw h n=>by
      rw[<-p9,H];exact b0.out w h n
     clear p9 H k0 t
     go_upto_region 42 with (first
      |(refine eP 79 rfl ?_;refine be 1 l.out rfl rfl rfl rfl rfl ?_)
      |(refine eP 53 rfl ?_;refine nl l.out.r.2.2 rfl rfl rfl underlying53 rfl (by rw[c5.out];rfl) ?_)
      |(go_at_call 24;refine(lO bn _).mono ?_;rintro e Y ⟨rfl,rfl⟩)
      |(go_at_call 36;refine(i1.out _ l.out.r.1 l.out.nw).mono ?_;rintro e w8 ⟨Z2,rfl,B,n⟩;have U:=Ld B.row;replace l:=Ld (l.out.rf B n);clear B n)
      |(refine gc 79 rfl ?_;refine aX 1 l.out rfl rfl rfl rfl rfl rfl U.out ca ?_;clear l;intro Y l)
      |(go_at_call 10;refine(b0.out _ l.out.r.2.1 l.out.nw).mono ?_;rintro e Y ⟨rfl,hS⟩;replace l:=Ld (l.out.lv hS);clear hS))
     clear b0 i1;obtain⟨V,rfl⟩:∃x,x=mm:=⟨_,rfl⟩
     obtain⟨g4,rfl⟩:∃x,x=gs:=⟨_,rfl⟩
     obtain⟨g3,rfl⟩:∃x,x=bt:=⟨_,rfl⟩
   rotate_left 2;have z5:decide (qk=5)=false:=decide_eq_false h5
   by_cases h6:qk=6
   focus
    subst h6;obtain⟨s2,ho,G⟩:=t.out.cut ys;obtain⟨q2,i4⟩:=nm (s.p.cut ys);have l':q2.size=sz:=by rw[i4];exact t.out.hz
    have l2:s.p.size=sz:=t.out.hz;have r6:=t.out.s4;have r7:=t.out.s80;have j8:=t.out.ht;rw[<-i4]at ho;have q3:=G.ok;have k5:=I.out;obtain⟨V,k6⟩:=nm (600*hlf s.p.size);obtain⟨M,l3⟩:=nm (tt+hlf s.p.size);have k9:Up q2:=by rw[i4];exact CP _ _
    have l1:Rd (λb=>b<W.heap.size) W 1 yA yn (jV ys):=by
     have h2:=b1.out.rd2;rw[f'.out.1.2.1,f'.out.1.2.2,f'.out.2.1]at h2;exact h2
    have l5:yn<=maxLen:=by have h3:=b1.out.n2;rw[f'.out.1.2.2]at h3;exact h3
    obtain⟨X6,j0⟩:=nm (Z.extract 0 5);have b3:Hid (∀w,ie W.heap.size w s tt Z->jy 5 X6/\FY Z 0 X6/\bE w s.p tt X6):=Ld λw h=>by rw[j0];exact h.dk
    have n0:Hid (∀w,bE w s.p tt X6->aa W w->Calls prog 39 #[.agg X6,.slice yA yn yc] w λe w'=>∃X',e=.returned (.agg X')/\bE w' q2 tt X'/\aa w w'):=Ld λw hd n=>by
     rw[i4];exact FH hd (by omega) yA yn yc ys (n.rd l1) (λk hk=>by have:=n.size;omega) l5
    have m6:Hid (∀w,dO W w gs gd bs bf bt s mm->aa W w->Calls prog 25 #[.pointer (some ⟨gd,0,none⟩),.slice yA yn yc] w λe w'=>e=.returned (.tuple #[])/\(∃v',Dk w' W.heap.size gd bs bf v' q2)/\dZ (iY bs bf bs) W w w'):=Ld λw h n=>by
     rw[i4];exact EK ⟨h,t.out.ok,n⟩ yA yn yc ys (n.rd l1) l5 (λk hk=>hk)
    have b9:Hid (∀w v,Dk w W.heap.size gd bs bf v q2->aa W w->Calls prog 9 #[.pointer (some ⟨gd,0,none⟩)] w λe w'=>∃gs bt,e=.returned (.tuple #[.pointer (some ⟨gs,0,none⟩),.nilIface])/\dO W w' gs gd bs bf bt s2 V/\dZ (iY bs bf bs) W w w'):=Ld λw v hd n=>by
     rw[k6,l2,<-l'];exact BN hd n HT.out.2 k9 (by omega) (by omega) ho q3
    have d':Hid (∀w X,bE w q2 tt X->aa W w->Calls prog 35 #[.agg X] w λe w'=>∃Z,e=.returned (.tuple #[.agg Z,.int .i64 0])/\ie W.heap.size w' s2 M Z/\aa w w'):=Ld λw X hd n=>by
     rw[l3,l2,<-l'];exact Co hd (by omega) k9 (by omega) ho (yb hd.ok) n.size (HT.out.1.new n)
    rw[<-k6,<-l3]at G;have N:=Ld G;clear G i4 l' l2 r6 r7 j8 ho q3 k5 k6 l3 k9 l1 l5 j0 t
    go_upto_region 42 with (first
     |(refine eP 54 rfl ?_;first|(refine nl l.out.r.2.2 rfl rfl rfl underlying54 rfl (by rw[c5.out];rfl) ?_))
     |(refine eP 65 rfl ?_;refine pE 1 l.out rfl rfl rfl rfl (b3.out _ l.out.r.1).1 cI (b3.out _ l.out.r.1).2.1 ?_)
     |(go_at_call 25;refine(m6.out _ l.out.r.2.1 l.out.nw).mono ?_;rintro e w8 ⟨rfl,⟨v8,hD⟩,u⟩;replace l:=Ld (l.out.ct hD u);clear hD u)
     |(go_at_call 9;refine(b9.out _ _ l.out.r.2.1 l.out.nw).mono ?_;rintro e w8 ⟨g4,g3,rfl,hS,u⟩;replace l:=Ld (l.out.op hS u);clear hS u)
     |(go_at_call 39;refine(n0.out _ (b3.out _ l.out.r.1).2.2 l.out.nw).mono ?_;rintro e w8 ⟨X9,rfl,hD,n⟩;have m2:=Ld hD;replace l:=Ld (l.out.new n);clear hD n)
     |(go_at_call 35;refine(d'.out _ _ m2.out l.out.nw).mono ?_;rintro e w8 ⟨Z2,rfl,B,n⟩;have U:=Ld B.row;replace l:=Ld (l.out.rf B n);clear B n m2)
     |(refine gc 79 rfl ?_;refine aX 1 l.out rfl rfl rfl rfl rfl rfl U.out ca ?_;clear l;intro Y l))
    clear n0 m6 b9 d' b3;obtain⟨K2,rfl⟩:∃x,x=K:=⟨_,rfl⟩
   rotate_left;have z6:decide (qk=6)=false:=decide_eq_false h6
   by_cases h7:qk=7
   focus
    subst h7;have k8:(Lit.int .i64 P).wf=true:=by have h3:=b1.out.num;rw[f'.out.2.2.2]at h3;exact h3
    have k7:=(bounds_i64 k8).2;have T:Hid (∀w,dO W w gs gd bs bf bt s mm->Calls prog 27 #[.pointer (some ⟨gd,0,none⟩),.int .i64 P] w λe w'=>e=.returned (.tuple #[])/\ml W w gs gd bs bf bt {s with p:=s.p.fused P} mm w'):=Ld λw h=>zD h k8
    have N:=Ld (t.out.fused k7);have j4:Hid (∀w,ie W.heap.size w s tt Z->ie W.heap.size w {s with p:=s.p.fused P} tt (ju Z 3 #[.int .i64 (max P (-1))])):=Ld λw h=>h.fused k7
    obtain⟨s2,C⟩:=nm ({s with p:=s.p.fused P}:SW);obtain⟨Z2,k3⟩:=nm (ju Z 3 #[.int .i64 (max P (-1))]);rw[<-C]at T N j4;rw[<-k3]at j4;have o0:=Ld k3.symm;clear k8 k7 C k3 t
    go_upto_region 42 with (first
     |(refine eP 3 rfl ?_;refine nl l.out.r.2.2 rfl rfl rfl underlying3 rfl (by rw[c5.out];rfl) ?_)
     |(go_at_call 27;refine(T.out _ l.out.r.2.1).mono ?_;rintro e Y ⟨rfl,hS⟩;replace l:=Ld (l.out.lv hS);clear hS)
     |(refine gc 3 rfl ?_;refine og 1 l.out rfl rfl rfl rfl rfl rfl rfl (by kernel_rfl) (by rw[HZ.out.sz];decide) o0.out ?_;clear l;intro w1 l))
    have hB:=l.out.rel (R':=RL W gs gd bs bf bt b12 x s2 s2 mm tt Z2) (λh=>⟨j4.out _ h.1,h.2⟩) (qo _ _ _ _ _ _ _ _ _ _ _ _ _);clear l T j4 o0 HZ;have l:=Ld hB;have U:=Ld hB.r.1.row;clear hB;obtain⟨V,rfl⟩:∃x,x=mm:=⟨_,rfl⟩
    obtain⟨g4,rfl⟩:∃x,x=gs:=⟨_,rfl⟩
    obtain⟨g3,rfl⟩:∃x,x=bt:=⟨_,rfl⟩
    obtain⟨K2,rfl⟩:∃x,x=K:=⟨_,rfl⟩
    obtain⟨M,rfl⟩:∃x,x=tt:=⟨_,rfl⟩
   rotate_left;have z7:decide (qk=7)=false:=decide_eq_false h7
   focus
    have O:(Sl.mk xA xn xc xs).Good W:=by have h3:=b1.out.b;rw[f'.out.1.1]at h3;exact h3
    obtain⟨K2,G⟩:=t.out.committed I.out (L:=xs.map cK) (λc hc=>by
     obtain⟨y,hy,rfl⟩:=List.mem_map.1 hc
     exact⟨(O.tb.el y hy).k.byt,(O.tb.el y hy).v.byt⟩)
    obtain⟨p1,p2,p3,p4,p5,p6⟩:=t.out.pre I.out;obtain⟨M,F⟩:=nm (tt+(2*s.p.size+(hlf s.p.size+1)*(hlf s.p.size+1)));obtain⟨V,g6⟩:=nm (mm+600);obtain⟨c2,J⟩:=nm (ed s (xs.map cK)).2;obtain⟨s2,C⟩:=nm (ed s (xs.map cK)).1;obtain⟨ev,H⟩:=nm (dP c2);have i9:Hid (∀W,Calls prog 34 #[ev] W λe w'=>e=.returned (.int .i64 c2)/\W=w'):=Ld λW=>by rw[H];exact mC c2 W
    have l7:∀y∈xs,y.k.n<=maxLen/\y.v.n<=maxLen:=λy hy=>by have:=(O.gd y hy).kn;have:=(O.gd y hy).vn;unfold maxLen;omega
    have r8:xn<=30:=n9.out;have m3:Hid (∀w,aa W w->Calls prog 41 #[.slice xA xn xc] w λe w'=>(∃A' c',e=.returned (.slice A' xn c')/\jx W.heap.size w' A' xn xs)/\aa w w'):=Ld λw n=>Fo n xA xn xc xs O.tb.rd O.tb.len (by omega) (λy hy=>(O.gd y hy).inn)
    have n3:Hid (∀w A' c',ie W.heap.size w s tt Z->jx W.heap.size w A' xn xs->aa W w->Calls prog 40 #[.agg Z,.slice A' xn c'] w λe w'=>∃Z',e=.returned (.tuple #[.agg Z',.int .i64 c2])/\ie W.heap.size w' s2 M Z'/\aa w w'):=Ld λw A' c' B ht n=>by
     rw[J,C,F];exact zW B n.size p1 p2 p3 b'.out p6 (HT.out.1.new n) A' xn c' xs ht (by omega) l7
    have m8:Hid (∀w,dO W w gs gd bs bf bt s mm->aa W w->Calls prog 15 #[.pointer (some ⟨gs,0,none⟩),.slice xA xn xc] w λe w'=>e=.returned ev/\ml W w gs gd bs bf bt s2 V w'):=Ld λw h n=>by
     rw[H,J,C,g6];exact pk h n HT.out.2 (by omega) p1 xA xn xc xs (n.rd O.tb.rd) O.tb.len (λy hy=>(O.tb.el y hy).new n) (λk hk=>.inl hk) (by omega) l7
    rw[<-C,<-F,<-g6]at G;have N:=Ld G;clear G p1 p2 p3 p4 p5 p6 F g6 J C H t O l7 r8
    go_upto_region 20 with fail;obtain⟨S,hS⟩:∃S:World->Prop,∀w',S w'↔Bx prog bT W w' [⟨b7,65,X8⟩,⟨c6,79,Z⟩] (RL W gs gd bs bf bt b12 x s s mm tt Z):=⟨_,λ_=>Iff.rfl⟩
    have i3:Nonempty (HW S):=⟨⟨_,(hS _).2 (l.out.new (aa.dr (aa.refl _)))⟩⟩
    have q5:∀p:HW S,p.w.cell? ⟨b12,2,none⟩=some (.slice xA xn xc):=λp=>by rw[((hS _).1 p.h).r.2.2.cell,c5.out];rfl
    refine iB S [.take 0,.pur 1,.take 2,.act 3,.act 4,.pur 5,.pur 6,.pur 7] 8 [(true,9)] (by kernel_rfl) (by kernel_rfl) ((hS _).2 (l.out.new (aa.dr (aa.refl _)))) ?_;refine mB 1 (λw' h=>(hS w').1 h) rfl rfl rfl rfl rfl rfl (by rw[HZ.out.sz];exact ca) ?_;simp only[Act.put,bC,bD,bF];refine jk (o:=.mk ..) rfl (λK u=>?_);go_simp;refine u _ ?_;clear u K;refine rG (o:=.mk ..) rfl (λK u=>?_);go_simp;refine u _ ?_;clear u K q5 i3;refine jj (o:=.mk ..) rfl rfl (λK u=>?_);go_simp;refine(m3.out _ (l.out.new (aa.dr (aa.refl _))).nw).mono ?_;rintro e w6 ⟨⟨A2,d2,rfl,p'⟩,o9⟩;have g7:=Ld ((l.out.new (aa.dr (aa.refl _))).new o9);have n6:=Ld p';clear p' o9 m3;go_simp;refine u.out _ _ ((hS _).2 g7.out) ?_;clear u K;refine jj (o:=.mk ..) rfl rfl (λK u=>?_);go_simp;refine(n3.out _ _ _ g7.out.r.1 n6.out g7.out.nw).mono ?_;rintro e w7 ⟨Z2,rfl,B,n⟩;have U:=Ld B.row;have l9:=Ld (g7.out.rf B n);have m0:=Ld (g7.out.new n);clear B n n6 g7 n3 l;go_simp;refine u.out _ _ ((hS _).2 m0.out) ?_;clear u K m0
    iterate 3 (refine jk (o:=.mk ..) rfl (λK u=>?_);go_simp;refine u _ ?_;clear u K)
    refine np (o:=.mk ..) rfl (λK u=>?_);refine eK 1 l9.out rfl rfl rfl rfl rfl rfl U.out ca ?_;intro w8 l F8;simp only[Act.put,bC,bD,bF];refine u.out _ _ ?_;clear u K l9 F8;have i3:Nonempty (HW λ_:World=>True):=⟨⟨w8,trivial⟩⟩
    refine af (o:=.mk ..) rfl (λK u=>?_);go_simp;refine u _ ?_;clear u K;refine au ?_;clear i3 hS S
    go_upto_region 42 with (first
     |(refine eP 22 rfl ?_;refine nl l.out.r.2.2 rfl rfl rfl underlying22 rfl (by rw[c5.out];rfl) ?_)
     |(go_at_call 15;refine(m8.out _ l.out.r.2.1 l.out.nw).mono ?_;rintro e Y ⟨rfl,hS⟩;replace l:=Ld (l.out.lv hS);clear hS))
    clear m8;obtain⟨g4,rfl⟩:∃x,x=gs:=⟨_,rfl⟩
    obtain⟨g3,rfl⟩:∃x,x=bt:=⟨_,rfl⟩
   all_goals
    have q9:Hid (V<=1000000):=Ld (by have:=N.out.hm;have:=I.out;omega)
    go_wp2_with (first
     |(go_at_call 34;(first|(with_reducible refine(tx _).mono ?_)|(refine(i9.out _).mono ?_));rintro e w7 ⟨rfl,rfl⟩)
     |(refine eP 79 rfl ?_;refine be 1 l.out rfl rfl rfl rfl rfl ?_)
     |(go_at_call 37;refine(FM l.out.r.2.1 l.out.nw l.out.r.1 N.out.ok.tok q9.out).mono ?_;rintro e s5 ⟨rfl,n⟩;replace l:=Ld (l.out.new n);clear n))
    have q8:Hid (PI W gd bs bf b7 c6 X8 g4 g3 s2 K2 V M (j+1) sz Z2 s5):=Ld ⟨l.out.rel (λh=>⟨h.1,h.2.1⟩) ((lj _ _ _ _).and (tW _ _ _ _ _ _ _ _)),N.out⟩;clear l N U;go_roundw
    case rel=>exact⟨j+1,g4,g3,s2,K2,V,M,Z2,Ld (by have:=m4.out;omega),by go_num,rfl,q8⟩
    case measure=>simp[intOf];have:=m4.out;omega
  ·have s6:¬(j:Int)<(m:Int):=by omega
   have k2:Hid (∀w,ie W.heap.size w s tt Z->Calls prog 43 #[.agg (Z.extract 0 5)] w λe w'=>(∃A c,e=.returned (.slice A s.p.order.length c))/\aa w w'):=Ld λw h=>Ct h.dk.2.2 (by have:=HI.out.nm.ht;have:=HM.out.1;have:=HJ.out;omega)
   have n8:Hid (∀w,dO W w gs gd bs bf bt s mm->Calls prog 42 #[.pointer (some ⟨gd,0,none⟩)] w λe w'=>e=.returned (.int .i64 s.p.order.length)/\w=w'):=Ld λw ⟨gl,gt,v,X,m,E,hX⟩=>EB hX.dk
   have k4:=HI.out.bx.r.1.dk;have b3:=Ld (And.intro k4.1 k4.2.1);obtain⟨X6,j0⟩:=nm (Z.extract 0 5);rw[<-j0]at k2 b3;obtain⟨ol,q1⟩:=nm s.p.order.length;rw[<-q1]at k2 n8;have l:=Ld HI.out.bx;clear k4 j0 q1 HI hj
   go_upto_region 45 with fail;obtain⟨S,hS⟩:∃S:World->Prop,∀w',S w'↔Bx prog bT W w' [⟨b7,65,X8⟩,⟨c6,79,Z⟩] (λw=>ie W.heap.size w s tt Z/\dO W w gs gd bs bf bt s mm):=⟨_,λ_=>Iff.rfl⟩
   refine bu S (.take 0 (.take 2 (.take 3 (.act 1 (.act 4 (.take 5 (.take 6 (.take 7 .done)))))))) (by kernel_rfl) (by kernel_rfl) ((hS _).2 (l.out.new (aa.dr (aa.refl _)))) (λi3=>?_)
   iterate 2 (refine ay (o:=.mk ..) rfl (λK u=>?_);go_simp;refine u _ ?_;clear u K)
   refine ew (o:=.mk ..) (cs:=X6.toList) rfl rfl (.tmp 180) rfl rfl (λw' h k v hv=>by rw[(((hS w').1 h).blk 1 rfl).cell];exact b3.out.2 k v (by simpa using hv)) underlying65 rfl (by rw[Array.length_toList,b3.out.1.sz];kernel_rfl) ?_;simp only[Act.put,bC,bD,bF,Array.toArray_toList];refine aC (o:=.mk ..) rfl (λK u=>?_) (.inl rfl);go_simp;refine(n8.out _ (l.out.new (aa.dr (aa.refl _))).r.2).mono ?_;rintro e Y ⟨rfl,rfl⟩;go_simp;refine u.out _ _ ((hS _).2 (l.out.new (aa.dr (aa.refl _)))) ?_;clear u K;refine aC (o:=.mk ..) rfl (λK u=>?_) (.inl rfl);go_simp;refine(k2.out _ (l.out.new (aa.dr (aa.refl _))).r.1).mono ?_;rintro e w8 ⟨⟨A8,c8,rfl⟩,n⟩;have c9:=Ld ((l.out.new (aa.dr (aa.refl _))).new n);clear n;go_simp;refine u.out _ _ ((hS _).2 c9.out) ?_;clear u K
   iterate 3 (refine ay (o:=.mk ..) rfl (λK u=>?_);go_simp;refine u _ ?_;clear u K)
   refine aO ?_
   go_wp2_with fail;go_ret;exact⟨rfl,c9.out.nw⟩
theorem xC{v1:Value}{W:World}(a:Int)(i:(Lit.int .i64 a).wf=true)(k:∃(A:Option Addr) (n c:Nat) (L:List AW),v1=.slice A n c/\n<=maxLen/\L.length=n/\Rd (λb=>b<W.heap.size) W 5 A n (L.flatMap AW.cells)/\∀a∈L,a.Good W)
    (g:laidMetH prog [("entrust/entrustref02.Constants",Rows.laid_entrust_entrustref02_Constants),("entrust/entrustref02.Initials",Rows.laid_entrust_entrustref02_Initials),("entrust/sha.constants",Rows.laid_entrust_sha_constants),("entrust/sha.initials",Rows.laid_entrust_sha_initials)] W):
    Calls prog 6 #[.int .i64 a,v1] W λe w'=>e=.returned (.bool true)/\Below W.heap.size W w':=by
 obtain⟨A,n,c,L,rfl,h1,h2,d,f⟩:=k;exact vB a i A n c L W (CA g) h1 d h2 f
end Go.Proofs.YtfchcdbfalgdlaaGreatDoor
