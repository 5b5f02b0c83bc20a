/- Texts of one proof. No condition but each one's own. -/
import Derived.Test.YtfchcdbfalgdlaaGreatDoorSweepPlaysM21
set_option maxHeartbeats 4000000
set_option maxRecDepth 100000
set_option linter.unusedVariables false
set_option linter.unusedSimpArgs false
namespace Go.Proofs.YtfchcdbfalgdlaaGreatDoor
open _root_.Go.Proofs.Tryz
open Go.RowKit Go.Maps Go.Sort
attribute [local go_sem] Oper.semAt_some
theorem GZ:aY prog 106 22 1 24:=aY.mk' (z:=.slice none 0 0) underlying106 (by kernel_rfl) rfl (by decide)
theorem oZ (c:Ch) (w:World) (b:c.k.n<=1000000) (f:c.v.n<=1000000) (hd:c.d=false):Calls prog 103 #[.agg c.cells.toArray] w λe w'=>e= .returned (.int .i64 (5+c.k.n+c.v.n:Nat))/\aa w w':=by
 obtain⟨⟨i,kn,j,k⟩,⟨m,vn,o,r⟩,d⟩:=c;dsimp only at b f hd;subst hd;unfold Ch.cells;dsimp only
 go_enter func103,ntmps103
 go_wp2_with fail;go_ret;refine⟨?_,aa.al (aa.refl _) _⟩;have:(3+(kn:Int)+2+vn)=((5+kn+vn:Nat):Int):=by omega
 simp[this]
def qE(B:Nat)(W:World)(v:Value):Prop:=∀k,v.ownBlock=some k->B<=k/\∃cs t fz,W.heap[k]?=some (.cells cs t fz)/\t≠9/\t≠5
theorem qE.own{B b s n:Nat}{e:TypeId}{W:World}{v:Value}{xs:List Value}(h:W.ownsRow b e s v n xs)(f:B<=b)(i:e≠9/\e≠5):qE B W v:=λk d=>by
 obtain⟨cs,fz,j⟩:=lf h d;exact⟨Nat.le_trans f (am h k d).1,cs,e,fz,j,i⟩
theorem qE.nil{B:Nat}{W:World}:qE B W (.slice none 0 0):=λk b=>by cases b
def BS(b b4:Nat)(v l:Value)(j:Nat):Prop:=(j=b\/j=b4)\/v.ownBlock=some j\/l.ownBlock=some j
theorem Dn{B i b4:Nat}{W m:World}{v l:Value}(y:qE B W v)(hl:qE B W l)(F:i<B)(G:b4<B)(hF:Fr (BS i b4 v l) W m):iE B W m/\Kk B (λj=>j=i\/j=b4) W m:=by
 have key_l19:∀k o,B<=k->BS i b4 v l k->W.heap[k]?=some o->o.isCells=true/\¬aK 9 W k:=λk o u b d=>by
  have h:∃cs t fz,W.heap[k]?=some (.cells cs t fz)/\t≠9/\t≠5:=by
   rcases b with(b|b)|b|b
   ·omega
   ·omega
   ·exact(y k b).2
   ·exact(hl k b).2
  obtain⟨cs,t,fz,z,ht⟩:=h;rw[z]at d;injection d with d;refine⟨by rw[<-d];rfl,λ⟨cs',D,f⟩=>?_⟩;rw[z]at f;injection f with f;injection f with _ f;exact ht.1 f
 refine⟨iE.fr hF (λk o u b d=>(key_l19 k o u b d).1),hF.mono λj E b=>?_⟩;rcases b with b|b
 ·exact .inl b
 ·have d:W.heap[j]?=some W.heap[j]:=Array.getElem?_eq_getElem E
  have r:B<=j:=by
   rcases b with b|b
   ·exact(y j b).1
   ·exact(hl j b).1
  exact .inr ⟨r,(key_l19 j _ r (.inr b) d).2⟩
def Hj(A:Option Addr)(c:Nat)(x:List Int×Fm):Ch:=⟨⟨A,x.1.length,c,x.1⟩,x.2,false⟩
def oR(y:Ch):Prop:=y.d=false/\y.k.n<=16/\y.v.n<=16384
def Gc(s:List (List Int×Fm)):CT:=s.map λx=>(x.1,x.2.xs)
def GF(b b4 B:Nat)(s:List (List Int×Fm))(v:Value)(r:Int)(W:World):Prop:=
 (s=[]/\v=.slice none 0 0/\r=0)\/∃(g n c:Nat) (C:List Sl) (l:Sl) (lo:Nat) (P:List Ch),v=.slice (some ⟨g,0,none⟩) n c/\iV 22 92 (λj=>b4<j) B lo W (some ⟨g,0,none⟩) n c C l/\
  cl P=Gc s/\mP iD P=some (C.map Sl.L,l.L)/\r=8190-((l.L.map iD).sum:Nat)/\(∀y∈P,oR y)/\l.L.length<=600/\(l.L.map iD).sum<=l.L.length*20000/\n<=s.length
def EE(b b4:Nat)(d:World)(s:List (List Int×Fm))(W:World):Prop:=Fr (λj=>b<=j) d W/\∃(v:Value) (r:Int),ac W b 106 #[v]/\ac W b4 3 #[.int .i64 r]/\GF b b4 d.heap.size s v r W
theorem GF.new{d b4 B:Nat}{s:List (List Int×Fm)}{v:Value}{r:Int}{W b:World}(h:GF d b4 B s v r W)(i:aa W b):GF d b4 B s v r b:=by
 rcases h with h|⟨g,n,c,C,l,lo,P,h1,h2,f⟩
 ·exact .inl h
 ·exact .inr ⟨g,n,c,C,l,lo,P,h1,h2.new i,f⟩
theorem EE.new{f b4:Nat}{i:World}{s:List (List Int×Fm)}{W d:World}(h:EE f b4 i s W)(b:aa W d):EE f b4 i s d:=by
 obtain⟨h1,v,r,h2,j,k⟩:=h;exact⟨h1.trans (b.toFr _),v,r,b.blk h2,b.blk j,k.new b⟩
theorem EE.puts{d b4 B:Nat}{k:World}{s:List (List Int×Fm)}{W i:World}(h:EE d b4 k s W)(hz:d<=B)(b:eN B W i):EE d b4 k s i:=by
 obtain⟨h1,v,r,h2,f,m⟩:=h;refine⟨h1.trans (b.fr (λj o=>Nat.le_trans hz o)),v,r,b.blk h2,b.blk f,?_⟩;rcases m with h|⟨g,n,c,C,l,lo,P,h1,h2,f⟩
 ·exact .inl h
 ·exact .inr ⟨g,n,c,C,l,lo,P,h1,h2.puts b,f⟩
theorem xN{F:Fence}{n k:Nat}{P:Program}{A B C D:Code}{Q:Exit->Act->World->Prop}{a:Act}{w:World}(h:∀c,Hid (c=C)->(Code.block k (A.seq (B.seq (c.seq D)))).wpIn F n P Q a w):(Code.block k (A.seq (B.seq (C.seq D)))).wpIn F n P Q a w:=h C (Ld rfl)
theorem ED{F:Fence}{n:Nat}{P:Program}{c:Code}{Q:Exit->Act->World->Prop}{a:Act}{w:World}(R:Act->World->Prop)(h1:∀b w',R b w'->Q .normal b w')
    (h2:∀d:Act->World->Prop,(∀b w',R b w'->d b w')->c.wpIn F n P (Exit.then d λ_ _ _=>False) a w):c.wpIn F n P Q a w:=
 wpIn_mono (h2 (λa w=>Q .normal a w) h1) λe b w' f=>by
  cases e<;>first|exact f|exact f.elim
section
variable {tr te:TypeId}{q:Nat->Prop}{base lo g n c:Nat}{W:World}{C:List Sl}{l:Sl}
theorem yT(C:List Sl):(C.flatMap Sl.cells).length=C.length:=by
 induction C with
 |nil=>rfl
 |cons x C b=>simp[Sl.cells,b]
theorem iV.lastCell(h:iV tr te q base lo W (some ⟨g,0,none⟩) n c C l){k:Nat}(b:n=k+1):W.cell? ⟨g,k,none⟩=some (.slice l.A l.n l.c):=by
 have d:=h.nn;have e:k=C.length:=by omega
 have:=h.out.cells (g:=g) rfl k (.slice l.A l.n l.c) (by
  rw[List.flatMap_append,List.getElem?_append_right (by rw[yT];omega),yT,e]
  simp[Sl.cells])
 rwa[gM]at this
theorem iV.lastFrozen(h:iV tr te q base lo W (some ⟨g,0,none⟩) n c C l)(k:Nat):W.frozen? ⟨g,k,none⟩=false:=by
 rcases h.out.2 with⟨h0,-⟩|⟨g',cap,cur,f,m,d,h1,h2,i,j⟩
 ·injection h0 with h0;cases h0
 ·injection f with b r o;injection b with b;injection b with b;subst b;exact ac.frozen d k
end
theorem qE.lt{B:Nat}{W:World}{v:Value}(h:qE B W v){k:Nat}(b:v.ownBlock=some k):k<W.heap.size:=by
 obtain⟨-,cs,t,fz,d,-⟩:=h k b;exact(Array.getElem?_eq_some_iff.1 d).1
theorem qE.notB{B:Nat}{W:World}{v:Value}(h:qE B W v){k:Nat}(f:v.ownBlock=some k):¬aK 5 W k:=by
 obtain⟨-,cs,t,fz,i,-,ht⟩:=h k f;rintro⟨cs',d,b⟩;rw[i]at b;injection b with b;injection b with _ b;exact ht b
structure GN(b3 b4 bc B:Nat)(v0 l0:Value)(W2 W5:World)(gO nO cO:Nat)(C:List Sl)(l:Sl)(lo:Nat)(r:Int)(x y z:Value):Prop where
 fr:Fr (BS b3 b4 v0 l0) W2 W5
 nst:iV 22 92 (λj=>b4<j) B lo W5 (some ⟨gO,0,none⟩) nO cO C l
 hO:∀k,(Value.slice (some ⟨gO,0,none⟩) nO cO).ownBlock=some k->v0.ownBlock=some k\/bc<k
 hl:∀k,(Value.slice l.A l.n l.c).ownBlock=some k->l0.ownBlock=some k\/bc<k
 B3:ac W5 b3 106 #[.slice (some ⟨gO,0,none⟩) nO cO]
 B4:ac W5 b4 3 #[.int .i64 r]
 Bc:ac W5 bc 92 #[x,y,z]
structure EU(b3 b4 bc B:Nat)(W W2 W5:World)(pre:List (List Int×Fm))(Y:Ch)(gO nO cO:Nat)(C:List Sl)(l:Sl)(lo:Nat)(r:Int)(x y z:Value):Prop where
 bef:∃v0 l0,qE B W v0/\qE B W l0/\GN b3 b4 bc B v0 l0 W2 W5 gO nO cO C l lo r x y z
 pl:∃P:List Ch,cl P=Gc pre/\(∀y∈P,oR y)/\mP iD (P++[Y])=some (C.map Sl.L,l.L++[Y])
 rr:r=8190-((l.L.map iD).sum:Nat)
 l6:l.L.length<600
 ls:(l.L.map iD).sum<=l.L.length*20000
 nn:nO<=pre.length+1
theorem sH{b b4 r B lo i o f:Nat}{v0 l0:Value}{F d:World}{C:List Sl}{x y z M N:Value}(hF:Fr (BS b b4 v0 l0) F d)
    (L:iV 22 92 (λj=>b4<j) B lo d (some ⟨i,0,none⟩) o f C ⟨none,0,0,[]⟩)
    (hO:∀k,(Value.slice (some ⟨i,0,none⟩) o f).ownBlock=some k->v0.ownBlock=some k\/r<k) (u:ac d b 106 #[M]) (v:ac d b4 3 #[N]) (D:ac d r 92 #[x,y,z]) (J:b<=b4):
    GN b b4 r B v0 l0 F ((d.setCell ⟨b,0,none⟩ (.slice (some ⟨i,0,none⟩) o f)).setCell ⟨b4,0,none⟩ (.int .i64 8190)) i o f C ⟨none,0,0,[]⟩ lo 8190 x y z:=by
 have t:b≠b4:=ac.ne_ u v (by decide);have G:r≠b:=(ac.ne_ u D (by decide)).symm;have H:r≠b4:=(ac.ne_ v D (by decide)).symm
 have m:Fr (λj=>j=b\/j=b4) d ((d.setCell ⟨b,0,none⟩ (.slice (some ⟨i,0,none⟩) o f)).setCell ⟨b4,0,none⟩ (.int .i64 8190)):=
  ((Fr.refl (λj=>j=b\/j=b4) d).setCell (p:=⟨b,0,none⟩) (λ_=>.inl rfl) _).setCell (p:=⟨b4,0,none⟩) (λ_=>.inr rfl) _
 refine⟨hF.trans (m.mono λj _ E=>.inl E),L.fr m (λj E O=>by rcases E with rfl|rfl<;>omega),hO,λk I=>(by cases I),?_,?_,D.fr m (by rintro(e|e)<;>omega)⟩
 ·exact ac.far (by simpa using u.set 0 (.slice (some ⟨i,0,none⟩) o f)) (p:=⟨b4,0,none⟩) t _
 ·have:=(ac.far v (p:=⟨b,0,none⟩) t.symm (.slice (some ⟨i,0,none⟩) o f)).set 0 (.int .i64 8190)
  simpa using this
theorem Bw(s:List (List Int×Fm))(x:List Int×Fm):Gc (s++[x])=Gc s++[(x.1,x.2.xs)]:=by simp[Gc]
theorem Gk{u b4 D:Nat}{f W m B:World}{pre:List (List Int×Fm)}{x:List Int×Fm}{cc y M E:Nat}{C:List Sl}{l:Sl}{lo:Nat}{r:Int}{Y:Ch}{N O P:Value}
    (R:u<f.heap.size) (S:b4<f.heap.size) (G:f.heap.size<=W.heap.size) (z:aa W m) (H:m.heap.size<=D) (L:W.heap.size<m.heap.size)
    (F:EU u b4 D f.heap.size W m B pre Y y M E C l lo r N O P) (i:ug f.heap.size x W) (b:Rd (λk=>k=W.heap.size) m 1 (some ⟨W.heap.size,0,none⟩) x.1.length (an x.1)):
    (Hj (some ⟨W.heap.size,0,none⟩) cc x).In (λj=>b4<j/\y≠j/\(Value.slice l.A l.n l.c).ownBlock≠some j) B:=by
 obtain⟨v0,l0,o,hl,t⟩:=F.bef
 have key_l19:∀k,(k=W.heap.size\/(x.2.val.ownBlock=some k))->¬BS u b4 v0 l0 k/\(b4<k/\y≠k/\(Value.slice l.A l.n l.c).ownBlock≠some k):=by
  intro k b
  have J:k<=W.heap.size:=by
   rcases b with rfl|b
   ·exact Nat.le_refl _
   ·exact Nat.le_of_lt (am i.1 k b).2
  have I:f.heap.size<=k:=by
   rcases b with rfl|b
   ·exact G
   ·exact(am i.1 k b).1
  have d:∀v,qE f.heap.size W v->v.ownBlock≠some k:=λv o e=>by
   rcases b with rfl|b
   ·have:=o.lt e;omega
   ·exact o.notB e (lf i.1 b)
  refine⟨?_,by omega,λe=>?_,λe=>?_⟩
  ·rintro((e|e)|e|e)
   ·omega
   ·omega
   ·exact d _ o e
   ·exact d _ hl e
  ·rcases t.hO k (by rw [<-e];rfl) with h | h
   ·exact d _ o h
   ·omega
  ·rcases t.hl k e with h | h
   ·exact d _ hl h
   ·omega
 refine⟨⟨((b.imp (q:=λk=>k=W.heap.size\/(x.2.val.ownBlock=some k)) (λk h=>.inl h)).fr t.fr (λk h=>(key_l19 k h).1)).imp (λk h=>(key_l19 k h).2),i.2.2.2.1⟩,
  ⟨(((z.rd (Rd.own i.1 rfl)).imp (q:=λk=>k=W.heap.size\/(x.2.val.ownBlock=some k)) (λk h=>.inr h)).fr t.fr (λk h=>(key_l19 k h).1)).imp (λk h=>(key_l19 k h).2),i.2.1⟩⟩
theorem Fc{f b4 bc:Nat}{B W R F E o:World}{pre:List (List Int×Fm)}{x:List Int×Fm}{Y:Ch}{d O S:Nat}{C:List Sl}{l:Sl}{lo:Nat}{r m:Int}{vx vy vz:Value}{L:Option Addr}{M kn:Nat}
    (hF:Fr (λj=>f<=j) B W) (c1:f<=b4) (h3:f<B.heap.size) (h4:b4<B.heap.size) (u:aa W R) (c8:R.heap.size<=bc) (D:EU f b4 bc B.heap.size W R F pre Y d O S C l lo r vx vy vz) (hn:O=kn+1)
    (hA:E.ownsRow lo 92 3 (.slice L (l.n+1) M) (l.n+1) (l.L.flatMap Ch.cells++Y.cells)) (t:Fr (λk=>(Value.slice l.A l.n l.c).ownBlock=some k) F E)
    (c5:∀k,(Value.slice L (l.n+1) M).ownBlock=some k->(Value.slice l.A l.n l.c).ownBlock=some k\/F.heap.size<=k)
    (hY:Y.In (λj=>b4<j/\d≠j/\(Value.slice l.A l.n l.c).ownBlock≠some j) F) (b8:Y.k.xs=x.1) (b9:Y.v.xs=x.2.xs) (c0:oR Y) (hz:iD Y<=20000)
    (N:aa (E.setCell ⟨d,kn,none⟩ (.slice L (l.n+1) M)) o) (hr:m=r-(iD Y:Nat)):
    iE B.heap.size W (o.setCell ⟨b4,0,none⟩ (.int .i64 m))/\Kk B.heap.size (λj=>j=f\/j=b4) W (o.setCell ⟨b4,0,none⟩ (.int .i64 m))/\EE f b4 B (pre++[x]) (o.setCell ⟨b4,0,none⟩ (.int .i64 m)):=by
 obtain⟨v0,l0,hv,hl,b⟩:=D.bef;obtain⟨P,b0,b1,b7⟩:=D.pl;have I:=b.nst.push hA t c5 hY (i:=kn) (by omega);have z:Fr (λk=>k=d) E (E.setCell ⟨d,kn,none⟩ (.slice L (l.n+1) M)):=(Fr.refl (λk=>k=d) E).setCell (p:=⟨d,kn,none⟩) (λ_=>rfl) _;have G:Fr (λk=>k=b4) o (o.setCell ⟨b4,0,none⟩ (.int .i64 m)):=(Fr.refl (λk=>k=b4) o).setCell (p:=⟨b4,0,none⟩) (λ_=>rfl) _;have c6:¬(Value.slice l.A l.n l.c).ownBlock=some f:=bm b.nst.last b.B3 (by decide);have c7:¬(Value.slice l.A l.n l.c).ownBlock=some b4:=bm b.nst.last b.B4 (by decide);have c3:f≠d:=λe=>bm b.nst.out b.B3 (by decide) (by rw[e];rfl)
 have c4:b4≠d:=λe=>bm b.nst.out b.B4 (by decide) (by rw[e];rfl)
 have U:f≠b4:=ac.ne_ b.B3 b.B4 (by decide);have V:ac (o.setCell ⟨b4,0,none⟩ (.int .i64 m)) f 106 #[.slice (some ⟨d,0,none⟩) O S]:=(N.blk ((b.B3.fr t c6).fr z c3)).far (p:=⟨b4,0,none⟩) U _
 have X:ac (o.setCell ⟨b4,0,none⟩ (.int .i64 m)) b4 3 #[.int .i64 m]:=by
  have:=(N.blk ((b.B4.fr t c7).fr z c4)).set 0 (.int .i64 m)
  simpa using this
 have c9:W.heap.size<=F.heap.size:=Nat.le_trans u.size b.fr.size
 have H:Fr (BS f b4 v0 l0) W (o.setCell ⟨b4,0,none⟩ (.int .i64 m)):=by
  refine((u.toFr _).trans b.fr).trans' (T:=λk=>(Value.slice l.A l.n l.c).ownBlock=some k\/k=d\/k=b4) ?_ ?_
  ·exact(((t.mono λ_ _ h=>.inl h).trans (z.mono λ_ _ h=>.inr (.inl h))).trans (N.toFr _)).trans (G.mono λ_ _ h=>.inr (.inr h))
  ·rintro k hk (h|h|h)
   ·rcases b.hl k h with h | h
    ·exact .inr (.inr h)
    ·have:=u.size;omega
   ·rcases b.hO k (by rw [h];rfl) with h | h
    ·exact .inr (.inl h)
    ·have:=u.size;omega
   ·exact .inl (.inr h)
 obtain⟨Z,b'⟩:=Dn hv hl h3 h4 H;refine⟨Z,b',hF.trans (H.mono λj _ v=>?_),_,_,V,X,.inr ⟨d,O,S,C,_,lo,P++[Y],rfl,(I.new N).fr G (λj v hq=>by omega),?_,b7,?_,?_,?_,?_,?_⟩⟩
 ·have hz:=hF.size;rcases v with (v | v) | v | v
  ·omega
  ·omega
  ·have:=(hv j v).1;omega
  ·have:=(hl j v).1;omega
 ·rw[Bw,<-b0,<-b8,<-b9];simp[cl]
 ·have:=D.rr;simp;omega
 ·intro y J;rcases List.mem_append.1 J with J | J
  ·exact b1 y J
  ·rw[List.mem_singleton.1 J];exact c0
 ·have:=D.l6;simp;omega
 ·have:=D.ls;simp;omega
 ·have:=D.nn;simp;omega
def oo(d b f kn:Nat)(v row x y z:Value)(w:World):Prop:=w.cell? ⟨d,0,none⟩=some v/\w.cell? ⟨f,kn,none⟩=some row/\w.cell? ⟨b,0,none⟩=some x/\w.cell? ⟨b,1,none⟩=some y/\w.cell? ⟨b,2,none⟩=some z
def yX(b4 b:Nat)(r x y z:Value)(w:World):Prop:=w.cell? ⟨b4,0,none⟩=some r/\w.cell? ⟨b,0,none⟩=some x/\w.cell? ⟨b,1,none⟩=some y/\w.cell? ⟨b,2,none⟩=some z
theorem Rd.keep{p:Nat->Prop}{W f:World}{size n:Nat}{A:Option Addr}{xs:List Value}(m:Rd p W size A n xs)(hz:W.heap.size<=f.heap.size)(v:∀(k:Nat) (o:Obj),W.heap[k]?=some o->o.isCells=true->f.heap[k]?=some o):Rd p f size A n xs:=
 ⟨m.1,λy=>by
  obtain⟨b,e,z,r,t⟩:=m.2 y;refine⟨b,e,z,Nat.lt_of_lt_of_le r hz,λj u hu=>?_⟩;have h:=t j u hu;have i:=World.block_lt_of_cell? W _ h;refine(World.cell?_of_block (w:=W) ?_).trans h;have d:W.heap[(b.add j).block]?=some W.heap[(b.add j).block]:=Array.getElem?_eq_getElem i;refine(v _ _ d ?_).trans d.symm;generalize W.heap[(b.add j).block]=o at d;unfold World.cell? at h;rw[d]at h
  cases o<;>first|rfl|simp at h⟩
theorem AA.shut{B:Nat}{W f:World}{A:Option Addr}{n:Nat}{R:List Sl}(h:AA W A n R)(hS:sD B W f):AA f A n R:=
 ⟨dS (h.rd.keep hS.below.size hS.cells),h.len,λx b=>⟨dS ((h.el x b).rd.keep hS.below.size hS.cells),(h.el x b).len,λc d=>Ch.In.szs ⟨⟨((h.el x b).el c d).k.rd.keep hS.below.size hS.cells,((h.el x b).el c d).k.byt⟩,⟨((h.el x b).el c d).v.rd.keep hS.below.size hS.cells,((h.el x b).el c d).v.byt⟩⟩⟩⟩
theorem ja.shut{B D f:Nat}{W i:World}{A:Option Addr}{n:Nat}{R:List Sl}(h:ja D f W A n R)(hS:sD B W i):ja D f i A n R:=
 ⟨h.rd.keep hS.below.size hS.cells,h.len,λx b=>⟨(h.el x b).1,(h.el x b).2.1.keep hS.below.size hS.cells,λc d=>⟨⟨((h.el x b).2.2 c d).k.rd.keep hS.below.size hS.cells,((h.el x b).2.2 c d).k.byt⟩,⟨((h.el x b).2.2 c d).v.rd.keep hS.below.size hS.cells,((h.el x b).2.2 c d).v.byt⟩⟩⟩⟩
theorem wj(xs:List Int)(d:ba xs)(w:World):∃(c:Nat) (w':World),(convert 9 33 (.string (strOfNums xs))).run prog w=.ok (.slice (some ⟨w.heap.size,0,none⟩) xs.length c) w'/\aa w w'/\Rd (λk=>k=w.heap.size) w' 1 (some ⟨w.heap.size,0,none⟩) xs.length (an xs)/\w.heap.size<w'.heap.size:=by
 have h:=Go.run_bytes_of_string (P:=prog) w 9 33 5 (strOfNums xs) underlying9 underlying33 underlying5;rw[strOfNums_size]at h;obtain⟨c,w',h1,h2,b⟩:=zj xs d w;refine⟨c,w',h1,h2,b,?_⟩;rw[h]at h1;injection h1 with _ e;rw[<-e,World.size_alloc];exact Nat.lt_succ_self _
theorem nS{X:Nat->Prop}{w:World}{base g b m:Nat}{E:gh}(h:dI X w base g b m E)(hm:m<=1000000)(hE:E.length<=1000000):
    Calls prog 52 #[.pointer (some ⟨g,0,none⟩)] w λe w'=>(∃(A:Option Addr) (n c:Nat) (R:List Sl) (P:List Ch),e=.returned (.slice A n c)/\(AA w' A n R/\∃D,ja w.heap.size D w' A n R/\D<=w'.heap.size)/\cl P=aI (dy E)/\R.map Sl.L=jt (mP iD P)/\(∀y∈P,oR y))/\aa w w':=by
 have H:=Ld h
 have hX:∀j,X j->j<w.heap.size:=λj hj=>by
  obtain⟨_,cs,fz,hx⟩:=h.xs j hj;exact(Array.getElem?_eq_some_iff.1 hx).1
 have HX:=Ld hX;clear h hX;refine(callsIn_wide (n:=3)).1 ?_;refine callsIn_of_wp_marks func52 rfl trivial ?_ rfl;refine wpIn_wide.2 ?_;simp only[ntmps52,List.size_toArray,List.length_cons,List.length_nil,Nat.reduceAdd,Nat.reduceSub,Array.replicate_succ,Array.replicate_zero,List.push_toArray,List.append_toArray,List.nil_append,List.cons_append]
 go_wp2_with fail;obtain⟨w1,l2⟩:=nM (((w.alloc (.cells #[.slice none 0 0] 106)).alloc (.cells #[.int .i64 0] 3)):World);obtain⟨z,l8⟩:=nM (w.heap.size);obtain⟨b4,l9⟩:=nM (w.heap.size+1);have m8:Hid (aa w w1):=Ld (by rw[l2];exact aa.al (aa.al (aa.refl _) _) _);have u7:Hid (ac w1 z 106 #[.slice none 0 0]):=Ld (by rw[l2,l8];exact(ac.new _ _ _).alloc _);have o7:Hid (ac w1 b4 3 #[.int .i64 0]):=Ld (by rw[l2,l9];exact ac.new' _ _ _ (by simp));have HZ:Hid (z=w.heap.size/\b4=w.heap.size+1):=Ld ⟨l8,l9⟩;rw[<-l2,<-l9,<-l8];clear l2 l8 l9;refine(sF (some ⟨g,0,none⟩) w1).mono ?_;rintro e w2 ⟨rfl,o5⟩;have b9:Hid (aa w1 w2):=Ld (by rw[o5];exact aa.al (aa.refl _) _);have hg:=H.out.blk.lt;have hb:=H.out.blt;have y':=o7.out.lt;have z4:=HZ.out
 have HS:=Ld (mZ (H.out.new (m8.out.tr b9.out)) hm hE (λj=>j=z\/j=b4) w1.heap.size (by rw[o5];exact ac.new w1 _ _) (λj hj=>by
  have:=b9.out.size;rcases hj with rfl|rfl
  ·exact⟨by omega,by omega,by omega,λhx=>by have:=HX.out _ hx;omega,by omega⟩
  ·exact⟨by omega,by omega,by omega,λhx=>by have:=HX.out _ hx;omega,by omega⟩))
 have j4:Hid (ac w2 z 106 #[.slice none 0 0]):=Ld (b9.out.blk u7.out);have j5:Hid (ac w2 b4 3 #[.int .i64 0]):=Ld (b9.out.blk o7.out);have j3:Hid (z<w2.heap.size/\b4<w2.heap.size):=Ld ⟨j4.out.lt,j5.out.lt⟩;have z5:Hid (w2.heap.size<=w2.heap.size):=Ld (Nat.le_refl _);clear o5 hg hb y' z4
 go_wp2_with fail
 refine lu rfl (enters_of func114 (by kernel_rfl) rfl) (λx:List Int×Fm=> #[.string (strOfNums x.1),x.2.val]) (λ_=>rfl) HS.out (λx W W' hg hp=>hg.puts hp) (λh k=>h.tr k) (λW W' hp=>Kk.puts hp)
  (EE z b4 w2) (λs A B h hN=>h.new hN) (λs A B h hp=>h.puts (Nat.le_of_lt j3.out.1) hp) ⟨Fr.refl _ _,_,_,j4.out,j5.out,.inl ⟨rfl,rfl,rfl⟩⟩ ?a1 ?assign ?body ?done
 case assign=>
  intro l x W K G
  gi_wp2
  exact G
 case body=>
  rintro lp pre x W B0 ⟨hF,v,r,L,T,hS⟩ hG hx;obtain⟨cc,W2,m0,p6,q',n8⟩:=wj x.1 hG.2.2.2.1 W;have b9:=Ld p6;have n0:=Ld q';have n9:W.heap.size<W2.heap.size:=n8;have m7:=Ld n9;have HG:=Ld hG;have HF:=Ld hF;have m3:=Ld L;have m4:=Ld T;have k9:x.1.length<=16:=hG.2.2.2.2;have o4:x.2.n<=16384:=hG.2.2.1;have o6:x.2.xs.length=x.2.n:=by have:=hG.1.1;rw[ak]at this;omega
  obtain⟨xk,M,F,N,xs⟩:=x;simp only[Fm.val];dsimp only at m0 k9 o4 o6 n0 HG;have HH:=Ld hS;generalize q7:xk.length=kl at m0 n0 k9;have p':=Ld o6
  obtain⟨aV,nV,cV,q1,B'⟩:∃(a:Option Addr) (n c:Nat),v=.slice a n c/\n<=pre.length:=by
   rcases hS with⟨-,h,-⟩|⟨d,nO,cO,C,l,lo,P,h,-,-,-,-,-,-,-,hn⟩
   ·exact⟨_,_,_,h,Nat.zero_le _⟩
   ·exact⟨_,_,_,h,hn⟩
  have HH:=Ld hS;have z6:=Ld q1;have l5:Hid (xk.length=kl):=Ld q7;subst q1;have d3:∀o,(W2.alloc o).cell? ⟨z,0,none⟩=some (.slice aV nV cV):=λo=>(aa.al (aa.refl W2) o).cell_ ((b9.out.blk L).cell 0)
  clear p6 q' hG hF L T hS o6;generalize z3:strOfNums xk=st at m0⊢;clear q7 z3;refine xN (λcC hC=>?_)
  gi_wp2
  obtain⟨k8,n6⟩:=nM ((nV:Int)-1:Int);obtain⟨O,m'⟩:=nM (W2.heap.size);obtain⟨W3,k6⟩:=nM (W2.alloc (.cells #[.slice (some ⟨W.heap.size,0,none⟩) kl cc,.slice M F N,.bool false] 92));rw[<-n6,<-m',<-k6];have c8:Hid (aa W W3):=Ld (b9.out.tr (by rw[k6];exact aa.al (aa.refl _) _));have f':Hid (aa W2 W3):=Ld (by rw[k6];exact aa.al (aa.refl _) _);have i3:Hid (ac W3 O 92 #[.slice (some ⟨W.heap.size,0,none⟩) kl cc,.slice M F N,.bool false]):=Ld (by rw[k6,m'];exact ac.new _ _ _);have i4:Hid (W2.heap.size<=O):=Ld (Nat.le_of_eq m'.symm);have j7:Hid (ac W3 z 106 #[.slice aV nV cV]):=Ld (c8.out.blk m3.out);have j8:Hid (ac W3 b4 3 #[.int .i64 r]):=Ld (c8.out.blk m4.out);have m6:=Ld n6;have j1:Hid (b4≠z):=Ld (by have:=HZ.out;omega);clear k6 m' d3 m0 n6
  refine ED (λa W5=>∃(kn:Nat) (r3 r4 r6 r7 r8 r9 s' s5 s6 s7 s8 s9 u32 t' u' u0 u1 u2 u3 u4 u5:Value) (d nO cO:Nat) (C:List Sl) (l:Sl) (lo:Nat) (r:Int),a={tmps:= #[.pointer (some ⟨g,0,none⟩),undef,.slice none 0 0,.pointer (some ⟨z,0,none⟩),.pointer (some ⟨b4,0,none⟩),.string st,.slice M F N,.pointer (some ⟨O,0,none⟩),.int .i64 (kn:Nat),.pointer (some ⟨g,0,none⟩),.func (Fn.func 114) #[] #[.pointer (some ⟨w1.heap.size,0,none⟩)],.string st,.slice M F N,.string st,.slice (some ⟨W.heap.size,0,none⟩) kl cc,.slice M F N,.agg #[.slice (some ⟨W.heap.size,0,none⟩) kl cc,.slice M F N,.bool false],.slice aV nV cV,.int .i64 (nV:Nat),.int .i64 k8,r3,r4,r6,r7,r8,r9,s',s5,s6,s7,s8,s9,u32,t',u',u0,u1,u2,u3,u4,u5,undef,undef,undef,undef,undef,undef,undef,undef,undef,undef,undef,undef,undef,undef,undef],defers:= []}/\nO=kn+1/\
   Hid (EU z b4 O w2.heap.size W W2 W5 pre ⟨⟨some ⟨W.heap.size,0,none⟩,kl,cc,xk⟩,⟨M,F,N,xs⟩,false⟩ d nO cO C l lo r (.slice (some ⟨W.heap.size,0,none⟩) kl cc) (.slice M F N) (.bool false))) ?tail ?head
  case head=>
   intro K' p5;have l4:=Ld p5;clear p5;have y1:=hC.out;subst y1;clear hC;rcases HH.out with⟨z0,o3,z1⟩|⟨d,nO,cO,C,l,lo,P,o3,l7,hP,r1,hr,p2,j',m1,r0⟩
   ·injection o3 with e1 e2 e3;subst e1 e2 e3 z1;have i9:k8= -1:=by rw [m6.out];rfl
    subst i9
    gi_wp2
    refine de lp rfl (by kernel_rfl) (by kernel_rfl) rfl ?_
    repeat(refine wpQuietIn_step (λ_ _ _ _=>trivial) (λK G=>?_);go_simp;first|(refine G _ ?_;clear G K)|(apply Exists.intro;refine⟨λ_=>?_,G _ ?_⟩;(first|exact cA _ _);clear G K))
    refine wpQuietIn_nil ?_;intro _ j0;obtain⟨⟨dq,c4⟩,U⟩:=j0;obtain⟨J,Y⟩:=nM (grow (redrawn W3 dq) c4);have i:Hid (aa W3 J):=Ld (by rw[Y];exact below_regrown W3 dq c4);rw[U,<-Y];clear U Y;have V:=Ld (i.out.blk j7.out);have b8:=Ld (i.out.blk j8.out);have Z:=Ld (i.out.blk i3.out);have i7:Hid (w2.heap.size<=J.heap.size):=Ld (Nat.le_trans HF.out.size (Nat.le_trans c8.out.size i.out.size));have g7:Hid (O<J.heap.size):=Ld Z.out.lt;have b0:Hid (aa W2 J):=Ld (f'.out.tr i.out);obtain⟨vN,r2⟩:∃v:Value,v=.slice none 0 0:=⟨_,rfl⟩
    have i6:=Ld r2;clear r2;have d3:J.cell? ⟨z,0,none⟩=some vN:=by rw[i6.out];exact V.out.cell 0
    have f3:J.frozen? ⟨z,0,none⟩=false:=V.out.frozen 0;have d4:J.cell? ⟨b4,0,none⟩=some (.int .i64 0):=b8.out.cell 0
    gi_wp2_with (gi_at_builtin;refine jR GZ _ rfl (.tmp 36) (.tmp 37) rfl w2.heap.size vN 0 [] rfl (aa.own (aa.al (aa.refl _) _) (by rw[i6.out];exact World.ownsRow_nil _ _ _ _)) (some ⟨J.heap.size,0,none⟩) 1 1 [.slice none 0 0] rfl (Rd.new (p:=λ_=>True) J #[.slice none 0 0] 22 1 1 rfl trivial) (by intro u hu;obtain rfl:=List.mem_singleton.1 hu;rfl) (by unfold maxLen;omega) (by omega) (by have:=i7.out;simp;omega) ?_;intro A5 c5 w5 i' I g8;have I:Fr (λk=>vN.ownBlock=some k) J w5:=((aa.al (aa.refl J) _).toFr _).trans I;have L:=(V.out).fr I (λe=>by rw[i6.out]at e;cases e);have T:=(b8.out).fr I (λe=>by rw[i6.out]at e;cases e);have g9:=(Z.out).fr I (λe=>by rw[i6.out]at e;cases e);have c6:=Ld I;have g6:=Ld i';have i1:=Ld g8;have j9:=Ld L;have k':=Ld T;have k0:=Ld g9;have g3:w5.frozen? ⟨z,0,none⟩=false:=L.frozen 0;have e3:w5.cell? ⟨z,0,none⟩=some (.slice none 0 0):=L.cell 0;have g4:∀u,(w5.setCell ⟨z,0,none⟩ u).frozen? ⟨b4,0,none⟩=false:=λu=>(ac.far T (p:=⟨z,0,none⟩) j1.out u).frozen 0;have e4:∀u,(w5.setCell ⟨z,0,none⟩ u).cell? ⟨b4,0,none⟩=some (.int .i64 0):=λu=>(ac.far T (p:=⟨z,0,none⟩) j1.out u).cell 0;clear i' I g8 L T g9 d3 f3 d4)
    obtain⟨g5,d5,l1,-,-⟩:=dv g6.out (by omega);have k5:A5=some ⟨g5,0,none⟩:=by injection l1
    subst k5;refine l4.out _ _ ⟨0,_,_,_,_,_,_,_,_,_,_,_,_,_,_,_,_,_,_,_,_,_,g5,1,c5,[],⟨none,0,0,[]⟩,w5.heap.size,8190,rfl,rfl,Ld ?_⟩;have c0:iV 22 92 (λj=>b4<j) w2.heap.size w5.heap.size w5 (some ⟨g5,0,none⟩) 1 c5 [] ⟨none,0,0,[]⟩:=iV.first (by decide) (λj hj=>by have:=j3.out;omega) (by simpa[Sl.cells]using g6.out) (World.ownsRow_nil _ _ _ _) (Nat.le_trans i7.out c6.out.size) (Nat.le_refl _) (aa.refl w5) rfl (λy hy=>by cases hy);refine⟨⟨.slice none 0 0,.slice none 0 0,qE.nil,qE.nil,sH ((b0.out.toFr _).trans (c6.out.mono λk _ e=>by rw[i6.out]at e;cases e)) c0 (λk hk=>(i1.out k hk).elim (λe=>by rw[i6.out]at e;cases e) (λe=>.inr (by have:=g7.out;simp at e;omega))) j9.out k'.out k0.out (by have:=HZ.out;omega)⟩,⟨[],by rw[z0];rfl,(λy hy=>by cases hy),by simp[mP,oL]⟩,by simp,by simp,by simp,by simp⟩
   ·injection o3 with e1 e2 e3;have r':=l7.nn;obtain ⟨kn,y8⟩:∃kn,nO=kn+1:=⟨C.length,r'⟩
    subst e1 e2 e3 y8;have i9:k8=(kn:Int):=by rw[m6.out];omega
    subst i9;have b1:=Ld l7;have HP:=Ld hP;have m5:=Ld p2;have n1:=Ld r1;have v8:=Ld m1;have HR:=Ld hr;have n':Hid (kn+1<=pre.length):=Ld r0;have n7:l.L.length=l.n:=l7.ll;have b':iD (⟨⟨some ⟨W.heap.size,0,none⟩,kl,cc,xk⟩,⟨M,F,N,xs⟩,false⟩:Ch)=5+kl+F:=by unfold iD;dsimp only;rw[l5.out,p'.out]
    have B2:=cell_regrown (show W3.cell? ⟨O,0,none⟩=some _ from i3.out.cell 0);have B5:=cell_regrown (show W3.cell? ⟨O,1,none⟩=some _ from i3.out.cell 1);have B6:=cell_regrown (show W3.cell? ⟨O,2,none⟩=some _ from i3.out.cell 2);have k3:=cell_regrown (show W3.cell? ⟨z,0,none⟩=some (.slice (some ⟨d,0,none⟩) (kn+1) cV)from j7.out.cell 0);have k4:=cell_regrown (show W3.cell? ⟨b4,0,none⟩=some (.int .i64 r)from j8.out.cell 0);have kR:=cell_regrown (show W3.cell? ⟨d,kn,none⟩=some (.slice l.A l.n l.c)from(b1.out.new c8.out).lastCell rfl);have cA:=oq (n:=2-1) (w:=W3) (v:=.int .i64 (5+kl+F:Nat)) (f:=103) (args:= #[.agg #[.slice (some ⟨W.heap.size,0,none⟩) kl cc,.slice M F N,.bool false]]) (λW' z7=>oZ (⟨⟨some ⟨W.heap.size,0,none⟩,kl,cc,xk⟩,⟨M,F,N,xs⟩,false⟩:Ch) W' (by dsimp only;omega) (by dsimp only;omega) rfl);have y6:(0:Int)<=(kn:Int):=by omega
    have y7:(kn:Int)<((kn:Int)+1):=by omega
    have z8:decide ((kn:Int)<0)=false:=decide_eq_false (by omega);clear l7 hP r1 p2 r0 r'
    by_cases c1:r<((5+kl+F:Nat):Int)
    ·have y4:decide (r<5+(kl:Int)+(F:Int))=true:=decide_eq_true (by omega);have j2:Hid (¬(l.L.length<600/\(l.L.map iD).sum+iD (⟨⟨some ⟨W.heap.size,0,none⟩,kl,cc,xk⟩,⟨M,F,N,xs⟩,false⟩:Ch)<=8190)):=Ld (by rw[b'];omega);clear hr m1 j' c1 n7 b'
     as_aux_lemma=>
      gi_wp2
      refine de lp rfl (by kernel_rfl) (by kernel_rfl) rfl ?_
      repeat(refine wpQuietIn_step (λ_ _ _ _=>trivial) (λK G=>?_);go_simp;first|(refine G _ ?_;clear G K)|(apply Exists.intro;refine⟨λ_=>?_,G _ ?_⟩;(first|exact cA _ _);clear G K))
      refine wpQuietIn_nil ?_;intro _ j0;obtain⟨⟨dq,c4⟩,U⟩:=j0;obtain⟨J,Y⟩:=nM (grow (redrawn W3 dq) c4);have i:Hid (aa W3 J):=Ld (by rw[Y];exact below_regrown W3 dq c4);rw[U,<-Y];clear U Y;have V:=Ld (i.out.blk j7.out);have b8:=Ld (i.out.blk j8.out);have Z:=Ld (i.out.blk i3.out);have i7:Hid (w2.heap.size<=J.heap.size):=Ld (Nat.le_trans HF.out.size (Nat.le_trans c8.out.size i.out.size));have g7:Hid (O<J.heap.size):=Ld Z.out.lt;have b0:Hid (aa W2 J):=Ld (f'.out.tr i.out);have b7:Hid (iV 22 92 (λj=>b4<j) w2.heap.size lo J (some ⟨d,0,none⟩) (kn+1) cV C l):=Ld (b1.out.new (c8.out.tr i.out));have d3:J.cell? ⟨z,0,none⟩=some (Value.slice (some ⟨d,0,none⟩) (kn+1) cV):=V.out.cell 0;have f3:J.frozen? ⟨z,0,none⟩=false:=V.out.frozen 0;have d4:J.cell? ⟨b4,0,none⟩=some (.int .i64 r):=b8.out.cell 0
      gi_wp2_with (gi_at_builtin;refine jR GZ _ rfl (.tmp 36) (.tmp 37) rfl w2.heap.size (Value.slice (some ⟨d,0,none⟩) (kn+1) cV) (kn+1) ((C++[l]).flatMap Sl.cells) rfl (aa.own (aa.al (aa.refl _) _) b7.out.out) (some ⟨J.heap.size,0,none⟩) 1 1 [.slice none 0 0] rfl (Rd.new (p:=λ_=>True) J #[.slice none 0 0] 22 1 1 rfl trivial) (by intro u hu;obtain rfl:=List.mem_singleton.1 hu;rfl) (by unfold maxLen;omega) (by omega) (by have:=i7.out;simp;omega) ?_;intro A5 c5 w5 i' I g8;have I:Fr (λk=>(Value.slice (some ⟨d,0,none⟩) (kn+1) cV).ownBlock=some k) J w5:=((aa.al (aa.refl J) _).toFr _).trans I;have L:=(V.out).fr I (λe=>bm b7.out.out V.out (by decide) e);have T:=(b8.out).fr I (λe=>bm b7.out.out b8.out (by decide) e);have g9:=(Z.out).fr I (λe=>bm b7.out.out Z.out (by decide) e);have c6:=Ld I;have g6:=Ld i';have i1:=Ld g8;have j9:=Ld L;have k':=Ld T;have k0:=Ld g9;have g3:w5.frozen? ⟨z,0,none⟩=false:=L.frozen 0;have e3:w5.cell? ⟨z,0,none⟩=some (Value.slice (some ⟨d,0,none⟩) (kn+1) cV):=L.cell 0;have g4:∀u,(w5.setCell ⟨z,0,none⟩ u).frozen? ⟨b4,0,none⟩=false:=λu=>(ac.far T (p:=⟨z,0,none⟩) j1.out u).frozen 0;have e4:∀u,(w5.setCell ⟨z,0,none⟩ u).cell? ⟨b4,0,none⟩=some (.int .i64 r):=λu=>(ac.far T (p:=⟨z,0,none⟩) j1.out u).cell 0;clear i' I g8 L T g9 d3 f3 d4)
      obtain⟨g5,d5,l1,-,-⟩:=dv g6.out (by omega);have k5:A5=some ⟨g5,0,none⟩:=by injection l1
      subst k5;refine l4.out _ _ ⟨kn+1,_,_,_,_,_,_,_,_,_,_,_,_,_,_,_,_,_,_,_,_,_,g5,kn+1+1,c5,C++[l],⟨none,0,0,[]⟩,w5.heap.size,8190,rfl,rfl,Ld ?_⟩;have c0:iV 22 92 (λj=>b4<j) w2.heap.size w5.heap.size w5 (some ⟨g5,0,none⟩) (kn+1+1) c5 (C++[l]) ⟨none,0,0,[]⟩:=b7.out.open_ c6.out.size (Nat.le_refl _) (by simpa[Sl.cells]using g6.out) c6.out (λk hk=>(i1.out k hk).imp id (λh=>by simp at h;omega)) (World.ownsRow_nil _ _ _ _) rfl (λy hy=>by cases hy);refine⟨⟨(Value.slice (some ⟨d,0,none⟩) (kn+1) cV),.slice l.A l.n l.c,qE.own b1.out.out (Nat.le_refl _) (by decide),qE.own b1.out.last b1.out.blo (by decide),sH ((b0.out.toFr _).trans (c6.out.mono λk _ e=>.inr (.inl e))) c0 (λk hk=>(i1.out k hk).imp id (λe=>by have:=g7.out;simp at e;omega)) j9.out k'.out k0.out (by have:=HZ.out;omega)⟩,⟨P,HP.out,m5.out,?_⟩,by simp,by simp,by simp,by have:=n'.out;omega⟩;rw[kN,n1.out];unfold oL;dsimp only;rw[if_neg (λh=>by have:=j2.out;omega)];simp
    ·have y4:decide (r<5+(kl:Int)+(F:Int))=false:=decide_eq_false (by omega)
     by_cases l':600<=l.n
     ·have y5:decide ((600:Int)<=(l.n:Int))=true:=decide_eq_true (by omega);have j2:Hid (¬(l.L.length<600/\(l.L.map iD).sum+iD (⟨⟨some ⟨W.heap.size,0,none⟩,kl,cc,xk⟩,⟨M,F,N,xs⟩,false⟩:Ch)<=8190)):=Ld (by omega);clear hr m1 j' c1 n7 b' l'
      as_aux_lemma=>
       gi_wp2
       refine de lp rfl (by kernel_rfl) (by kernel_rfl) rfl ?_
       repeat(refine wpQuietIn_step (λ_ _ _ _=>trivial) (λK G=>?_);go_simp;first|(refine G _ ?_;clear G K)|(apply Exists.intro;refine⟨λ_=>?_,G _ ?_⟩;(first|exact cA _ _);clear G K))
       refine wpQuietIn_nil ?_;intro _ j0;obtain⟨⟨dq,c4⟩,U⟩:=j0;obtain⟨J,Y⟩:=nM (grow (redrawn W3 dq) c4);have i:Hid (aa W3 J):=Ld (by rw[Y];exact below_regrown W3 dq c4);rw[U,<-Y];clear U Y;have V:=Ld (i.out.blk j7.out);have b8:=Ld (i.out.blk j8.out);have Z:=Ld (i.out.blk i3.out);have i7:Hid (w2.heap.size<=J.heap.size):=Ld (Nat.le_trans HF.out.size (Nat.le_trans c8.out.size i.out.size));have g7:Hid (O<J.heap.size):=Ld Z.out.lt;have b0:Hid (aa W2 J):=Ld (f'.out.tr i.out);have b7:Hid (iV 22 92 (λj=>b4<j) w2.heap.size lo J (some ⟨d,0,none⟩) (kn+1) cV C l):=Ld (b1.out.new (c8.out.tr i.out));have d3:J.cell? ⟨z,0,none⟩=some (Value.slice (some ⟨d,0,none⟩) (kn+1) cV):=V.out.cell 0;have f3:J.frozen? ⟨z,0,none⟩=false:=V.out.frozen 0;have d4:J.cell? ⟨b4,0,none⟩=some (.int .i64 r):=b8.out.cell 0
       gi_wp2_with (gi_at_builtin;refine jR GZ _ rfl (.tmp 36) (.tmp 37) rfl w2.heap.size (Value.slice (some ⟨d,0,none⟩) (kn+1) cV) (kn+1) ((C++[l]).flatMap Sl.cells) rfl (aa.own (aa.al (aa.refl _) _) b7.out.out) (some ⟨J.heap.size,0,none⟩) 1 1 [.slice none 0 0] rfl (Rd.new (p:=λ_=>True) J #[.slice none 0 0] 22 1 1 rfl trivial) (by intro u hu;obtain rfl:=List.mem_singleton.1 hu;rfl) (by unfold maxLen;omega) (by omega) (by have:=i7.out;simp;omega) ?_;intro A5 c5 w5 i' I g8;have I:Fr (λk=>(Value.slice (some ⟨d,0,none⟩) (kn+1) cV).ownBlock=some k) J w5:=((aa.al (aa.refl J) _).toFr _).trans I;have L:=(V.out).fr I (λe=>bm b7.out.out V.out (by decide) e);have T:=(b8.out).fr I (λe=>bm b7.out.out b8.out (by decide) e);have g9:=(Z.out).fr I (λe=>bm b7.out.out Z.out (by decide) e);have c6:=Ld I;have g6:=Ld i';have i1:=Ld g8;have j9:=Ld L;have k':=Ld T;have k0:=Ld g9;have g3:w5.frozen? ⟨z,0,none⟩=false:=L.frozen 0;have e3:w5.cell? ⟨z,0,none⟩=some (Value.slice (some ⟨d,0,none⟩) (kn+1) cV):=L.cell 0;have g4:∀u,(w5.setCell ⟨z,0,none⟩ u).frozen? ⟨b4,0,none⟩=false:=λu=>(ac.far T (p:=⟨z,0,none⟩) j1.out u).frozen 0;have e4:∀u,(w5.setCell ⟨z,0,none⟩ u).cell? ⟨b4,0,none⟩=some (.int .i64 r):=λu=>(ac.far T (p:=⟨z,0,none⟩) j1.out u).cell 0;clear i' I g8 L T g9 d3 f3 d4)
       obtain⟨g5,d5,l1,-,-⟩:=dv g6.out (by omega);have k5:A5=some ⟨g5,0,none⟩:=by injection l1
       subst k5;refine l4.out _ _ ⟨kn+1,_,_,_,_,_,_,_,_,_,_,_,_,_,_,_,_,_,_,_,_,_,g5,kn+1+1,c5,C++[l],⟨none,0,0,[]⟩,w5.heap.size,8190,rfl,rfl,Ld ?_⟩;have c0:iV 22 92 (λj=>b4<j) w2.heap.size w5.heap.size w5 (some ⟨g5,0,none⟩) (kn+1+1) c5 (C++[l]) ⟨none,0,0,[]⟩:=b7.out.open_ c6.out.size (Nat.le_refl _) (by simpa[Sl.cells]using g6.out) c6.out (λk hk=>(i1.out k hk).imp id (λh=>by simp at h;omega)) (World.ownsRow_nil _ _ _ _) rfl (λy hy=>by cases hy);refine⟨⟨(Value.slice (some ⟨d,0,none⟩) (kn+1) cV),.slice l.A l.n l.c,qE.own b1.out.out (Nat.le_refl _) (by decide),qE.own b1.out.last b1.out.blo (by decide),sH ((b0.out.toFr _).trans (c6.out.mono λk _ e=>.inr (.inl e))) c0 (λk hk=>(i1.out k hk).imp id (λe=>by have:=g7.out;simp at e;omega)) j9.out k'.out k0.out (by have:=HZ.out;omega)⟩,⟨P,HP.out,m5.out,?_⟩,by simp,by simp,by simp,by have:=n'.out;omega⟩;rw[kN,n1.out];unfold oL;dsimp only;rw[if_neg (λh=>by have:=j2.out;omega)];simp
     ·have y5:decide ((600:Int)<=(l.n:Int))=false:=decide_eq_false (by omega);have j2:Hid (l.L.length<600/\(l.L.map iD).sum+iD (⟨⟨some ⟨W.heap.size,0,none⟩,kl,cc,xk⟩,⟨M,F,N,xs⟩,false⟩:Ch)<=8190):=Ld (by rw[b'];omega);clear hr m1 j' c1 n7 b' l'
      as_aux_lemma=>
       gi_wp2
       refine de lp rfl (by kernel_rfl) (by kernel_rfl) rfl ?_
       repeat(refine wpQuietIn_step (λ_ _ _ _=>trivial) (λK G=>?_);go_simp;first|(refine G _ ?_;clear G K)|(apply Exists.intro;refine⟨λ_=>?_,G _ ?_⟩;(first|exact cA _ _);clear G K))
       refine wpQuietIn_nil ?_;intro _ j0;obtain⟨⟨dq,c4⟩,U⟩:=j0;obtain⟨J,Y⟩:=nM (grow (redrawn W3 dq) c4);have i:Hid (aa W3 J):=Ld (by rw[Y];exact below_regrown W3 dq c4);rw[U,<-Y];clear U Y;have V:=Ld (i.out.blk j7.out);have b8:=Ld (i.out.blk j8.out);have Z:=Ld (i.out.blk i3.out);have i7:Hid (w2.heap.size<=J.heap.size):=Ld (Nat.le_trans HF.out.size (Nat.le_trans c8.out.size i.out.size));have g7:Hid (O<J.heap.size):=Ld Z.out.lt;have b0:Hid (aa W2 J):=Ld (f'.out.tr i.out);have b7:Hid (iV 22 92 (λj=>b4<j) w2.heap.size lo J (some ⟨d,0,none⟩) (kn+1) cV C l):=Ld (b1.out.new (c8.out.tr i.out))
       gi_wp2
       refine l4.out _ _ ⟨kn,_,_,_,_,_,_,_,_,_,_,_,_,_,_,_,_,_,_,_,_,_,d,kn+1,cV,C,l,lo,r,rfl,rfl,Ld ?_⟩;refine⟨⟨(Value.slice (some ⟨d,0,none⟩) (kn+1) cV),.slice l.A l.n l.c,qE.own b1.out.out (Nat.le_refl _) (by decide),qE.own b1.out.last b1.out.blo (by decide),⟨b0.out.toFr _,b7.out,λk h=>.inl h,λk h=>.inl h,V.out,b8.out,Z.out⟩⟩,⟨P,HP.out,m5.out,?_⟩,HR.out,j2.out.1,v8.out,by have:=n'.out;omega⟩;rw[kN,n1.out];unfold oL;dsimp only;rw[if_pos j2.out]
  case tail=>
   rintro a W5 ⟨kn,r3,r4,r6,r7,r8,r9,s',s5,s6,s7,s8,s9,u32,t',u',u0,u1,u2,u3,u4,u5,d,nO,cO,C,l,lo,r5,rfl,rfl,HR⟩;clear m6 HH hC;have i0:=Gk (cc:=cc) (x:=(xk,⟨M,F,N,xs⟩)) j3.out.1 j3.out.2 HF.out.size b9.out i4.out m7.out HR.out HG.out (by rw[l5.out];exact n0.out);unfold Hj at i0;dsimp only at i0;rw[l5.out]at i0;have l3:=Ld i0;have z':=HR.out.ls;have j':=HR.out.l6;have z2:=HR.out.rr
   have y0:∃v0 l0,GN z b4 O w2.heap.size v0 l0 W2 W5 d (kn+1) cO C l lo r5 (.slice (some ⟨W.heap.size,0,none⟩) kl cc) (.slice M F N) (.bool false):=by
    obtain⟨v0,l0,-,-,hb⟩:=HR.out.bef;exact⟨v0,l0,hb⟩
   obtain⟨v0,l0,hb⟩:=y0;have HB:=Ld hb;have z9:l.L.length=l.n:=hb.nst.ll;have q0:(oo z O d kn (.slice (some ⟨d,0,none⟩) (kn+1) cO) (.slice l.A l.n l.c) (.slice (some ⟨W.heap.size,0,none⟩) kl cc) (.slice M F N) (.bool false)) W5.drew:=⟨hb.B3.cell 0,hb.nst.lastCell rfl,hb.Bc.cell 0,hb.Bc.cell 1,hb.Bc.cell 2⟩
   have o8:Hid ((oo z O d kn (.slice (some ⟨d,0,none⟩) (kn+1) cO) (.slice l.A l.n l.c) (.slice (some ⟨W.heap.size,0,none⟩) kl cc) (.slice M F N) (.bool false)) W5):=Ld q0;have g7:Hid (lo<=W5.heap.size):=Ld hb.nst.los;have y6:(0:Int)<=(kn:Int):=by omega
   have y7:(kn:Int)<((kn:Int)+1):=by omega
   have y9:l.n<600:=by omega
   clear i0 hb z' z2 j'
   gi_wp2
   refine gL lp (oo z O d kn (.slice (some ⟨d,0,none⟩) (kn+1) cO) (.slice l.A l.n l.c) (.slice (some ⟨W.heap.size,0,none⟩) kl cc) (.slice M F N) (.bool false)) 10 [(true,0),(true,1),(true,2),(true,3),(true,4),(true,5),(true,6),(false,7),(false,8),(true,9),(false,10)] (by kernel_rfl) (by kernel_rfl) q0 (λo1=>?_);have q3:∀p:HW (oo z O d kn (.slice (some ⟨d,0,none⟩) (kn+1) cO) (.slice l.A l.n l.c) (.slice (some ⟨W.heap.size,0,none⟩) kl cc) (.slice M F N) (.bool false)),p.w.cell? ⟨z,0,none⟩=some (.slice (some ⟨d,0,none⟩) (kn+1) cO):=λp=>p.h.1
   have qr:∀p:HW (oo z O d kn (.slice (some ⟨d,0,none⟩) (kn+1) cO) (.slice l.A l.n l.c) (.slice (some ⟨W.heap.size,0,none⟩) kl cc) (.slice M F N) (.bool false)),p.w.cell? ⟨d,kn,none⟩=some (.slice l.A l.n l.c):=λp=>p.h.2.1
   have qa:∀p:HW (oo z O d kn (.slice (some ⟨d,0,none⟩) (kn+1) cO) (.slice l.A l.n l.c) (.slice (some ⟨W.heap.size,0,none⟩) kl cc) (.slice M F N) (.bool false)),p.w.cell? ⟨O,0,none⟩=some _:=λp=>p.h.2.2.1
   have qb:∀p:HW (oo z O d kn (.slice (some ⟨d,0,none⟩) (kn+1) cO) (.slice l.A l.n l.c) (.slice (some ⟨W.heap.size,0,none⟩) kl cc) (.slice M F N) (.bool false)),p.w.cell? ⟨O,1,none⟩=some _:=λp=>p.h.2.2.2.1
   have qc:∀p:HW (oo z O d kn (.slice (some ⟨d,0,none⟩) (kn+1) cO) (.slice l.A l.n l.c) (.slice (some ⟨W.heap.size,0,none⟩) kl cc) (.slice M F N) (.bool false)),p.w.cell? ⟨O,2,none⟩=some _:=λp=>p.h.2.2.2.2
   iterate 7 (refine af (o:=.mk ..) rfl (λK G=>?_);go_simp;refine G _ ?_;clear G K)
   refine aj (o:=.mk ..) rfl (λK G=>?_) (.inl rfl);refine kO Ga (by decide) (by rfl) (.tmp 47) rfl #[.slice (some ⟨W.heap.size,0,none⟩) kl cc,.slice M F N,.bool false] (by rfl) rfl ?_;intro gb w6 p1 p7 j';simp only[Act.put,bC,bD,bF];have k2:Hid (aa W5 w6):=Ld (aa.tr (aa.dr (aa.refl _)) p7);have u9:=Ld p1;have k7:∀{S:Nat->Prop} {wa wb:World},(oo z O d kn (.slice (some ⟨d,0,none⟩) (kn+1) cO) (.slice l.A l.n l.c) (.slice (some ⟨W.heap.size,0,none⟩) kl cc) (.slice M F N) (.bool false)) wa->Fr S wa wb->¬S z->¬S d->¬S O->(oo z O d kn (.slice (some ⟨d,0,none⟩) (kn+1) cO) (.slice l.A l.n l.c) (.slice (some ⟨W.heap.size,0,none⟩) kl cc) (.slice M F N) (.bool false)) wb:=λh hF h1 h2 h3=>⟨hF.cell_some h.1 h1,hF.cell_some h.2.1 h2,hF.cell_some h.2.2.1 h3,hF.cell_some h.2.2.2.1 h3,hF.cell_some h.2.2.2.2 h3⟩
   have v7:Hid ((oo z O d kn (.slice (some ⟨d,0,none⟩) (kn+1) cO) (.slice l.A l.n l.c) (.slice (some ⟨W.heap.size,0,none⟩) kl cc) (.slice M F N) (.bool false)) w6):=Ld (k7 o8.out (k2.out.toFr ic) (λx=>x) (λx=>x) (λx=>x));refine G.out _ _ (λ_=>v7.out) ?_;clear G K p1 p7 j';refine aj (o:=.mk ..) rfl (λK G=>?_) (.inl rfl);refine ce Ga _ (by rfl) (.tmp 46) (.tmp 48) (by rfl) lo (.slice l.A l.n l.c) l.n (l.L.flatMap Ch.cells) (by rfl) (k2.out.own HB.out.nst.last) (some ⟨gb,0,none⟩) 1 1 (⟨⟨some ⟨W.heap.size,0,none⟩,kl,cc,xk⟩,⟨M,F,N,xs⟩,false⟩:Ch).cells (by rfl) (Rd.ofBlk (p:=λ_=>True) (t:=92) (cs:= #[.slice (some ⟨W.heap.size,0,none⟩) kl cc,.slice M F N,.bool false]) u9.out 3 1 rfl trivial) (cF (⟨⟨some ⟨W.heap.size,0,none⟩,kl,cc,xk⟩,⟨M,F,N,xs⟩,false⟩:Ch)) (by unfold maxLen;omega) (by omega) (Nat.le_trans g7.out k2.out.size) ?_;intro A' c' w7 p9 p4 p0;simp only[Act.put,bC,bD,bF];have v5:=Ld p9;have k1:Hid (Fr (λk=>(Value.slice l.A l.n l.c).ownBlock=some k) W5 w7):=Ld ((k2.out.toFr _).trans p4);have u6:Hid (∀k,(Value.slice A' (l.n+1) c').ownBlock=some k->(Value.slice l.A l.n l.c).ownBlock=some k\/W5.heap.size<=k):=Ld (λk hk=>(p0 k hk).imp id (λh=>Nat.le_trans k2.out.size h));have q8:¬(Value.slice l.A l.n l.c).ownBlock=some z:=bm HB.out.nst.last HB.out.B3 (by decide);have q9:¬(Value.slice l.A l.n l.c).ownBlock=some b4:=bm HB.out.nst.last HB.out.B4 (by decide);have o2:¬(Value.slice l.A l.n l.c).ownBlock=some d:=io HB.out.nst.out HB.out.nst.last HB.out.nst.ne rfl
   have o0:¬(Value.slice l.A l.n l.c).ownBlock=some O:=λe=>by
    obtain⟨B8,B7,hv,hl,y3⟩:=HR.out.bef;rcases y3.hl O e with h'|h'
    ·have:=hl.lt h';have:=i4.out;have:=b9.out.size;omega
    ·omega
   have o9:Hid ((oo z O d kn (.slice (some ⟨d,0,none⟩) (kn+1) cO) (.slice l.A l.n l.c) (.slice (some ⟨W.heap.size,0,none⟩) kl cc) (.slice M F N) (.bool false)) w7):=Ld (k7 o8.out k1.out q8 o2 o0);refine G.out _ _ (λ_=>o9.out) ?_;clear G K p9 p4 p0;refine af (o:=.mk ..) rfl (λK G=>?_);go_simp;refine G _ ?_;clear G K;refine aj (o:=.mk ..) rfl (λK G=>?_) (.inl rfl);have c7:w7.cell? ⟨d,kn,none⟩=some (.slice l.A l.n l.c):=o9.out.2.1
   have f7:w7.frozen? ⟨d,kn,none⟩=false:=by
    rw[k1.out.frozen (p:=⟨d,kn,none⟩) ((am HB.out.nst.out d rfl).2) o2];exact HB.out.nst.lastFrozen kn
   clear q3 qr qa qb qc;go_simp;refine G.out _ _ (λh=>absurd rfl h) ?_;clear G K o1;refine jF ?_;obtain⟨w8,m2⟩:=nM (w7.setCell ⟨d,kn,none⟩ (.slice A' (l.n+1) c'));rw[<-m2];have v9:=Ld m2;have n3:Fr (λk=>k=d) w7 w8:=by rw[m2];exact(Fr.refl (λk=>k=d) w7).setCell (p:=⟨d,kn,none⟩) (λ_=>rfl) _
   have q5:b4≠d:=λe=>bm HB.out.nst.out HB.out.B4 (by decide) (by rw[e];rfl)
   have q6:O≠d:=λe=>bm HB.out.nst.out HB.out.Bc (by decide) (by rw[e];rfl)
   have j6:Hid (ac w8 b4 3 #[.int .i64 r5]):=Ld ((HB.out.B4.fr k1.out q9).fr n3 q5);have d':Hid (ac w8 O 92 #[.slice (some ⟨W.heap.size,0,none⟩) kl cc,.slice M F N,.bool false]):=Ld ((HB.out.Bc.fr k1.out o0).fr n3 q6);have y2:(yX b4 O (.int .i64 r5) (.slice (some ⟨W.heap.size,0,none⟩) kl cc) (.slice M F N) (.bool false)) w8.drew:=⟨j6.out.cell 0,d'.out.cell 0,d'.out.cell 1,d'.out.cell 2⟩
   clear m2 n3 c7 f7 q8 q9 o2 o0 q5 q6
   gi_wp2
   refine gL lp (yX b4 O (.int .i64 r5) (.slice (some ⟨W.heap.size,0,none⟩) kl cc) (.slice M F N) (.bool false)) 4 [(true,0),(true,1),(false,2),(true,3),(false,4)] (by kernel_rfl) (by kernel_rfl) y2 (λo1=>?_);have q4:∀p:HW (yX b4 O (.int .i64 r5) (.slice (some ⟨W.heap.size,0,none⟩) kl cc) (.slice M F N) (.bool false)),p.w.cell? ⟨b4,0,none⟩=some (.int .i64 r5):=λp=>p.h.1
   have qa:∀p:HW (yX b4 O (.int .i64 r5) (.slice (some ⟨W.heap.size,0,none⟩) kl cc) (.slice M F N) (.bool false)),p.w.cell? ⟨O,0,none⟩=some _:=λp=>p.h.2.1
   have qb:∀p:HW (yX b4 O (.int .i64 r5) (.slice (some ⟨W.heap.size,0,none⟩) kl cc) (.slice M F N) (.bool false)),p.w.cell? ⟨O,1,none⟩=some _:=λp=>p.h.2.2.1
   have qc:∀p:HW (yX b4 O (.int .i64 r5) (.slice (some ⟨W.heap.size,0,none⟩) kl cc) (.slice M F N) (.bool false)),p.w.cell? ⟨O,2,none⟩=some _:=λp=>p.h.2.2.2
   iterate 2 (refine af (o:=.mk ..) rfl (λK G=>?_);go_simp;refine G _ ?_;clear G K)
   refine aj (o:=.mk ..) rfl (λK G=>?_) (.inl rfl);go_simp;refine(oZ (⟨⟨some ⟨W.heap.size,0,none⟩,kl,cc,xk⟩,⟨M,F,N,xs⟩,false⟩:Ch) _ (by dsimp only;omega) (by dsimp only;omega) rfl).mono ?_;rintro e w9 ⟨rfl,p8⟩;dsimp only;have m9:Hid (aa w8 w9):=Ld (aa.tr (aa.dr (aa.refl _)) p8);have i2:=Ld (m9.out.blk j6.out);have i5:=Ld (m9.out.blk d'.out);refine G.out _ _ (λ_=>⟨i2.out.cell 0,i5.out.cell 0,i5.out.cell 1,i5.out.cell 2⟩) ?_;clear G K p8;have B1:IntKind.i64.wrap (r5-(5+(kl:Int)+(F:Int)))=r5-(5+(kl:Int)+(F:Int)):=IntWalk.i64_in _ (by have:=HR.out.rr;have:=HR.out.ls;have:=HR.out.l6;omega);refine af (o:=.mk ..) rfl (λK G=>?_);go_simp;refine G _ ?_;clear G K;refine aj (o:=.mk ..) rfl (λK G=>?_) (.inl rfl);have c9:w9.cell? ⟨b4,0,none⟩=some (.int .i64 r5):=i2.out.cell 0;have f9:w9.frozen? ⟨b4,0,none⟩=false:=i2.out.frozen 0;clear q4 qa qb qc;go_simp;refine G.out _ _ (λh=>absurd rfl h) ?_;clear G K o1;refine jF ?_;have b':iD (⟨⟨some ⟨W.heap.size,0,none⟩,kl,cc,xk⟩,⟨M,F,N,xs⟩,false⟩:Ch)=5+kl+F:=by unfold iD;dsimp only;rw[l5.out,p'.out]
   refine⟨rfl,Fc (x:=(xk,⟨M,F,N,xs⟩)) HF.out (by have:=HZ.out;omega) j3.out.1 j3.out.2 b9.out i4.out HR.out rfl v5.out k1.out u6.out l3.out rfl rfl ⟨rfl,by dsimp only;omega,by dsimp only;omega⟩ (by rw[b'];omega) (by rw[<-v9.out];exact m9.out) (by rw[b'];omega)⟩
 case done=>
  rintro D fs W hD q2 ⟨hF,v,r,L,T,hS⟩ p3;have v2:Hid (aa w W):=Ld ((m8.out.tr b9.out).fr hF (λk hk=>by have:=HZ.out;omega));have v':=Ld p3
  have n5:∃(A:Option Addr) (n c:Nat) (R:List Sl) (P:List Ch),v=.slice A n c/\(AA W A n R/\ja w.heap.size W.heap.size W A n R)/\cl P=aI (dy E)/\R.map Sl.L=jt (mP iD P)/\(∀y∈P,oR y):=by
   have he:Gc fs=aI (dy E):=q2.trans (ye E);rcases hS with⟨h1,h2,-⟩|⟨d,nO,cO,C,l,lo,P,h1,h2,h3,h4,-,h6,-⟩
   ·refine⟨none,0,0,[],[],h2,⟨AA.nil W,ja.nil _ _ W⟩,?_,rfl,λy hy=>by cases hy⟩;rw[<-he,h1];rfl
   ·refine⟨_,_,_,_,P,h1,⟨h2.bts,h2.btsN (λj hj=>by have:=HZ.out;omega)⟩,h3.trans he,?_,h6⟩;rw[h4];simp[jt]
  obtain⟨A,n,c,R,P,hv,i0,hP,hR,hY⟩:=n5;subst hv;have c3:W.cell? ⟨z,0,none⟩=some (.slice A n c):=L.cell 0;have l3:=Ld i0;have HP:=Ld hP;have HR:=Ld hR;have HY:=Ld hY;clear hF L T hS q2 p3 i0 hP hR hY;dsimp only
  go_wp2_with fail;refine eS [D] W (dm.cons (dm.nil w2.heap.size W) (λ_ h=>by cases h) hD v'.out) (λW' hS=>⟨.slice A n c,by simp[results,results52,go_sem],⟨A,n,c,R,P,rfl,⟨l3.out.1.shut hS,_,l3.out.2.shut hS,hS.below.size⟩,HP.out,HR.out,HY.out⟩,?_⟩);exact v2.out.trans (hS.below.mono (m8.out.tr b9.out).size)
end Go.Proofs.YtfchcdbfalgdlaaGreatDoor
namespace Go.Proofs.YtfchcdbfalgdlaaGreatDoor
open _root_.Go.Proofs.Tryz
open Go.RowKit Go.Maps
structure mY(p:Nat->Prop)(w:World)(A:Option Addr)(n c:Nat)(s:Rs):Prop where
 rd:Rd p w 1 A n (an s.xs)
 byt:ba s.xs
 nc:n<=c
 cm:c<=9223372036854775807
def rV(A:Option Addr)(n c:Nat)(e:Nat):Value:=.agg #[.slice A n c,.int .i64 e]
section
variable {p:Nat->Prop}{w w':World}{A:Option Addr}{n c:Nat}{s:Rs}
theorem mY.new(h:mY p w A n c s)(b:aa w w'):mY p w' A n c s:=⟨b.rd h.rd,h.byt,h.nc,h.cm⟩
theorem mY.len(h:mY p w A n c s):s.xs.length=n:=by have:=h.rd.1;rw[ak]at this;omega
end
def aZ(b:Nat)(x y:Value)(w:World):Prop:=w.cell? ⟨b,0,none⟩=some x/\w.cell? ⟨b,1,none⟩=some y
theorem aZ.of{W:World}{b T:Nat}{x y:Value}(h:ac W b T #[x,y]):aZ b x y W:=⟨h.cell 0,h.cell 1⟩
def uj(p:Nat->Prop)(r:List Int×Rs)(e:Ending)(w':World):Prop:=
 ∃(b:Option Addr) (d:Nat) (A2:Option Addr) (n2 c2:Nat),e=.returned (.tuple #[.slice b r.1.length d,rV A2 n2 c2 r.2.e])/\Rd p w' 1 b r.1.length (an r.1)/\r.1.length<=d/\mY p w' A2 n2 c2 r.2
theorem GM{s:Rs}(h:s.e≠0)(k:Nat):s.raw k=([],s)\/(s.raw k).1=[]/\(s.raw k).2=⟨s.xs.drop k,s.e⟩:=by
 have hl:s.left=0:=by unfold Rs.left;rw[if_neg h]
 unfold Rs.raw;rw[hl]
 by_cases b:0<k
 ·rw[if_pos b]
  left
  unfold Rs.bad;rw[if_neg h]
 ·rw[if_neg b]
  left
  have:k=0:=by omega
  subst this;simp
theorem uW{s:Rs}(h:s.e≠0)(k:Nat):s.raw k=([],s):=by
 have hl:s.left=0:=by unfold Rs.left;rw[if_neg h]
 unfold Rs.raw;rw[hl]
 by_cases b:0<k
 ·rw[if_pos b];unfold Rs.bad;rw[if_neg h]
 ·rw [if_neg b];have:k=0:=by omega
  subst this;simp
theorem jJ{p:Nat->Prop}(w:World):Rd p w 1 none 0 (an []):=Rd.nil
theorem mH{p:Nat->Prop}{w:World}{A:Option Addr}{n c:Nat}{s:Rs}(h:mY p w A n c s){k:Nat}(d:k<=n)(e:Nat):mY p w (if c=k then A else A.map (·.add k)) (n-k) (c-k) ⟨s.xs.drop k,e⟩:=by
 have hd:=Rd.drop (cap:=c) h.rd d h.nc;rw[Nat.mul_one]at hd;have b:(an s.xs).drop k=an (s.xs.drop k):=by simp[an]
 rw[b]at hd;refine⟨hd,λx f=>h.byt x (List.mem_of_mem_drop f),?_,?_⟩
 ·have:=h.nc;omega
 ·have:=h.cm;omega
theorem CK{p:Nat->Prop}{w:World}{A:Option Addr}{n c:Nat}{s:Rs}(h:mY p w A n c s)(k:Nat)(hk:k<=1000000):
    Calls prog 156 #[rV A n c s.e,.int .i64 k] w λe w'=>uj p (s.raw k) e w'/\aa w w':=by
 have H:=Ld h;have hn:=h.len;have U:=Ld hn;have c1:=h.cm;have c4:=h.nc;unfold rV;obtain⟨r,hr⟩:=nM (s.raw k);rw[<-hr];have HR:=Ld hr;obtain⟨B,b'⟩:=nM (s.e);rw[<-b'];have HE:=Ld b';clear h hr b' hn
 go_enter func156,ntmps156
 go_upto_region 1 with fail;obtain⟨t,O⟩:=nM ((w.alloc (.cells #[.slice A n c,.int .i64 B] 194)).alloc (.cells #[.slice none 0 0,.int .i64 0] 194):World);obtain⟨b2,Y⟩:=nM (w.heap.size);obtain⟨b5,Z⟩:=nM (w.heap.size+1);have V:Hid (aa w t):=Ld (by rw[O];exact aa.al (aa.al (aa.refl _) _) _);have G:Hid (ac t b2 194 #[.slice A n c,.int .i64 B]):=Ld (by rw[O,Y];exact(ac.new _ _ _).alloc _);have I:Hid (ac t b5 194 #[.slice none 0 0,.int .i64 0]):=Ld (by rw[O,Z];exact ac.new' _ _ _ (by simp));have HZ:Hid (w.heap.size<=b2/\w.heap.size<=b5):=Ld ⟨by omega,by omega⟩;have y:b2≠b5:=by omega
 rw[<-O,<-Z,<-Y];clear O Y Z;have b3:t.cell? ⟨b2,0,none⟩=some (.slice A n c):=G.out.cell 0;have b7:t.cell? ⟨b2,1,none⟩=some (.int .i64 B):=G.out.cell 1;have P:t.cell? ⟨b5,0,none⟩=some (.slice none 0 0):=I.out.cell 0;have R:t.cell? ⟨b5,1,none⟩=some (.int .i64 0):=I.out.cell 1;have f50:t.frozen? ⟨b5,0,none⟩=false:=I.out.frozen 0;have f51:t.frozen? ⟨b5,1,none⟩=false:=I.out.frozen 1;have f20:t.frozen? ⟨b2,0,none⟩=false:=G.out.frozen 0;have f21:t.frozen? ⟨b2,1,none⟩=false:=G.out.frozen 1;have N:¬b5=b2:=λe=>y e.symm
 by_cases h0:B=0
 ·subst h0
  by_cases S:n<k
  ·have c':decide (n<k)=true:=decide_eq_true S
   have M:Hid (r=([],⟨s.xs,2⟩)):=Ld (by
    rw[HR.out];unfold Rs.raw Rs.left Rs.bad
    rw[if_pos HE.out.symm,if_pos HE.out.symm,U.out,if_pos S])
   go_upto_region 5 with fail;obtain⟨m,z⟩:=nM (t.setCell ⟨b2,1,none⟩ (.int .i64 2):World);have J:Fr (λk=>k=b2) t m:=by rw[z];exact(Fr.refl (λk=>k=b2) t).setCell (p:=⟨b2,1,none⟩) (λ_=>rfl) _
   have f:Hid (ac m b2 194 #[.slice A n c,.int .i64 2]):=Ld (by
    have:=G.out.set 1 (.int .i64 2);rw[z]
    simpa using this)
   have b:Hid (ac m b5 194 #[.slice none 0 0,.int .i64 0]):=Ld (I.out.fr J N);have T:=Ld J;rw[<-z];clear z J b3 b7 P R f50 f51 f20 f21;have P:m.cell? ⟨b5,0,none⟩=some (.slice none 0 0):=b.out.cell 0;have R:m.cell? ⟨b5,1,none⟩=some (.int .i64 0):=b.out.cell 1;have f50:m.frozen? ⟨b5,0,none⟩=false:=b.out.frozen 0;have f51:m.frozen? ⟨b5,1,none⟩=false:=b.out.frozen 1;have E:aZ b2 (.slice A n c) (.int .i64 2) m.drew:=aZ.of f.out;refine ah (aZ b2 (.slice A n c) (.int .i64 2)) [(true,0),(true,1),(false,2)] (by kernel_rfl) (by kernel_rfl) E (λb8=>?_);have q0:∀p:HW (aZ b2 (.slice A n c) (.int .i64 2)),p.w.cell? ⟨b2,0,none⟩=some (.slice A n c):=λp=>p.h.1
   have q1:∀p:HW (aZ b2 (.slice A n c) (.int .i64 2)),p.w.cell? ⟨b2,1,none⟩=some (.int .i64 2):=λp=>p.h.2
   iterate 2 (refine af (o:=.mk ..) rfl (λK D=>?_);go_simp;refine D _ ?_;clear D K)
   refine aj (o:=.mk ..) rfl (λK D=>?_) (.inl rfl);go_simp;obtain⟨F,d⟩:=nM (((m.setCell ⟨b5,0,none⟩ (.slice A n c)).setCell ⟨b5,1,none⟩ (.int .i64 2)).drew:World);have j:Fr (λk=>k=b5) m F:=by rw[d];exact(((Fr.refl (λk=>k=b5) m).setCell (p:=⟨b5,0,none⟩) (λ_=>rfl) _).setCell (p:=⟨b5,1,none⟩) (λ_=>rfl) _).drew
   have i:ac F b5 194 #[(.slice A n c),(.int .i64 2)]:=by rw[d];exact bQ b.out (.slice A n c) (.int .i64 2)
   rw[<-d];refine D.out _ _ (λ_=>aZ.of (f.out.fr j y)) ?_;clear D K q0 q1;refine au ?_;have r0:F.cell? ⟨b5,0,none⟩=some (.slice A n c):=i.cell 0;have r1:F.cell? ⟨b5,1,none⟩=some (.int .i64 2):=i.cell 1;have L:=Ld j;clear d j i E
   go_wp2_with fail;have u:Hid (aa w F):=Ld ((V.out.fr T.out (λk hk=>by have:=HZ.out;omega)).fr L.out (λk hk=>by have:=HZ.out;omega));refine bodyPost_ret (v:=.tuple #[.slice none 0 0,.agg #[.slice A n c,.int .i64 2]]) (by simp[results,results156,go_sem,r0,r1]) rfl ⟨?_,u.out⟩;rw[M.out];exact⟨none,0,A,n,c,rfl,jJ _,Nat.le_refl _,⟨u.out.rd H.out.rd,H.out.byt,H.out.nc,H.out.cm⟩⟩
  ·have c':decide (n<k)=false:=decide_eq_false S;have b1:Hid (k<=n):=Ld (by omega);have c0:k<=c:=by omega
   go_upto_region 8 with fail;have b0:=mH H.out b1.out 0;generalize (if c=k then A else Option.map (λx=>x.add k) A)=A2 at b0⊢;have b9:=Ld b0
   have M:Hid (r=(s.xs.take k,⟨s.xs.drop k,0⟩)):=Ld (by
    rw[HR.out];unfold Rs.raw Rs.left
    rw[if_pos HE.out.symm,U.out,if_neg S,<-HE.out])
   have X:Hid ((s.xs.take k).length=k):=Ld (by rw[List.length_take,U.out];omega);obtain⟨m,z⟩:=nM (t.setCell ⟨b2,0,none⟩ (.slice A2 (n-k) (c-k)):World);have J:Fr (λk=>k=b2) t m:=by rw[z];exact(Fr.refl (λk=>k=b2) t).setCell (p:=⟨b2,0,none⟩) (λ_=>rfl) _
   have f:Hid (ac m b2 194 #[.slice A2 (n-k) (c-k),.int .i64 0]):=Ld (by
    have:=G.out.set 0 (.slice A2 (n-k) (c-k));rw[z]
    simpa using this)
   have b:Hid (ac m b5 194 #[.slice none 0 0,.int .i64 0]):=Ld (I.out.fr J N);have T:=Ld J;rw[<-z];clear z J b3 b7 P R f50 f51 f20 f21 b0;have P:m.cell? ⟨b5,0,none⟩=some (.slice none 0 0):=b.out.cell 0;have R:m.cell? ⟨b5,1,none⟩=some (.int .i64 0):=b.out.cell 1;have f50:m.frozen? ⟨b5,0,none⟩=false:=b.out.frozen 0;have f51:m.frozen? ⟨b5,1,none⟩=false:=b.out.frozen 1;have E:aZ b2 (.slice A2 (n-k) (c-k)) (.int .i64 0) m.drew:=aZ.of f.out;refine ah (aZ b2 (.slice A2 (n-k) (c-k)) (.int .i64 0)) [(true,0),(true,1),(true,2),(false,3)] (by kernel_rfl) (by kernel_rfl) E (λb8=>?_);have q0:∀p:HW (aZ b2 (.slice A2 (n-k) (c-k)) (.int .i64 0)),p.w.cell? ⟨b2,0,none⟩=some (.slice A2 (n-k) (c-k)):=λp=>p.h.1
   have q1:∀p:HW (aZ b2 (.slice A2 (n-k) (c-k)) (.int .i64 0)),p.w.cell? ⟨b2,1,none⟩=some (.int .i64 0):=λp=>p.h.2
   iterate 3 (refine af (o:=.mk ..) rfl (λK D=>?_);go_simp;refine D _ ?_;clear D K)
   refine aj (o:=.mk ..) rfl (λK D=>?_) (.inl rfl);go_simp;obtain⟨F,d⟩:=nM (((m.setCell ⟨b5,0,none⟩ (.slice A2 (n-k) (c-k))).setCell ⟨b5,1,none⟩ (.int .i64 0)).drew:World);have j:Fr (λk=>k=b5) m F:=by rw[d];exact(((Fr.refl (λk=>k=b5) m).setCell (p:=⟨b5,0,none⟩) (λ_=>rfl) _).setCell (p:=⟨b5,1,none⟩) (λ_=>rfl) _).drew
   have i:ac F b5 194 #[(.slice A2 (n-k) (c-k)),(.int .i64 0)]:=by rw[d];exact bQ b.out (.slice A2 (n-k) (c-k)) (.int .i64 0)
   rw[<-d];refine D.out _ _ (λ_=>aZ.of (f.out.fr j y)) ?_;clear D K q0 q1;refine au ?_;have r0:F.cell? ⟨b5,0,none⟩=some (.slice A2 (n-k) (c-k)):=i.cell 0;have r1:F.cell? ⟨b5,1,none⟩=some (.int .i64 0):=i.cell 1;have L:=Ld j;clear d j i E
   go_wp2_with fail;have u:Hid (aa w F):=Ld ((V.out.fr T.out (λk hk=>by have:=HZ.out;omega)).fr L.out (λk hk=>by have:=HZ.out;omega));refine bodyPost_ret (v:=.tuple #[.slice A k c,.agg #[.slice A2 (n-k) (c-k),.int .i64 0]]) (by simp[results,results156,go_sem,r0,r1]) rfl ⟨?_,u.out⟩;rw[M.out];exact⟨A,c,A2,n-k,c-k,by dsimp only;rw[X.out];rfl,by dsimp only;rw[X.out];exact u.out.rd (Rd.take H.out.rd b1.out),by dsimp only;rw[X.out];exact c0,b9.out.new u.out⟩
 ·have hz:((B:Int) != 0)=true:=by simp;omega
  have c5:((B:Int)==0)=false:=by simp;omega
  have c3:decide ((B:Int)=0)=false:=decide_eq_false (by omega);have f:=G;have b:=I;have M:Hid (r=([],s)):=Ld (by rw[HR.out];exact uW (by rw[<-HE.out];exact h0) k)
  go_wp2_with fail;have E:aZ b2 (.slice A n c) (.int .i64 B) t.drew:=aZ.of f.out;refine ah (aZ b2 (.slice A n c) (.int .i64 B)) [(true,0),(true,1),(false,2)] (by kernel_rfl) (by kernel_rfl) E (λb8=>?_);have q0:∀p:HW (aZ b2 (.slice A n c) (.int .i64 B)),p.w.cell? ⟨b2,0,none⟩=some (.slice A n c):=λp=>p.h.1
  have q1:∀p:HW (aZ b2 (.slice A n c) (.int .i64 B)),p.w.cell? ⟨b2,1,none⟩=some (.int .i64 B):=λp=>p.h.2
  iterate 2 (refine af (o:=.mk ..) rfl (λK D=>?_);go_simp;refine D _ ?_;clear D K)
  refine aj (o:=.mk ..) rfl (λK D=>?_) (.inl rfl);go_simp;obtain⟨F,d⟩:=nM (((t.setCell ⟨b5,0,none⟩ (.slice A n c)).setCell ⟨b5,1,none⟩ (.int .i64 B)).drew:World);have j:Fr (λk=>k=b5) t F:=by rw[d];exact(((Fr.refl (λk=>k=b5) t).setCell (p:=⟨b5,0,none⟩) (λ_=>rfl) _).setCell (p:=⟨b5,1,none⟩) (λ_=>rfl) _).drew
  have i:ac F b5 194 #[(.slice A n c),(.int .i64 B)]:=by rw[d];exact bQ b.out (.slice A n c) (.int .i64 B)
  rw[<-d];refine D.out _ _ (λ_=>aZ.of (f.out.fr j y)) ?_;clear D K q0 q1;refine au ?_;have r0:F.cell? ⟨b5,0,none⟩=some (.slice A n c):=i.cell 0;have r1:F.cell? ⟨b5,1,none⟩=some (.int .i64 B):=i.cell 1;have L:=Ld j;clear d j i E
  go_wp2_with fail;have u:Hid (aa w F):=Ld (V.out.fr L.out (λk hk=>by have:=HZ.out;omega));refine bodyPost_ret (v:=.tuple #[.slice none 0 0,.agg #[.slice A n c,.int .i64 B]]) (by simp[results,results156,go_sem,r0,r1]) rfl ⟨?_,u.out⟩;rw[M.out];exact⟨none,0,A,n,c,by rw[HE.out];rfl,jJ _,Nat.le_refl _,H.out.new u.out⟩
def AL(p:Nat->Prop)(r:Nat×Rs)(e:Ending)(w':World):Prop:=
 ∃(A2:Option Addr) (n2 c2:Nat),e=.returned (.tuple #[.int .u64 r.1,rV A2 n2 c2 r.2.e])/\mY p w' A2 n2 c2 r.2
theorem DO{s:Rs}(h:s.e≠0)(k:Nat):s.num k=(0,s):=by
 unfold Rs.num;rw[uW h];rfl
theorem Cj{p:Nat->Prop}{w:World}{A:Option Addr}{n c:Nat}{s:Rs}(h:mY p w A n c s)(size:Nat)(hs:size=1\/size=2\/size=4\/size=8)(hp:∀k,p k->k<w.heap.size):
    Calls prog 125 #[rV A n c s.e,.int .i64 size] w λe w'=>AL p (s.num size) e w'/\aa w w':=by
 have H:=Ld h;have hn:=h.len;have g9:=Ld hn;have i':=h.cm;have i1:=h.nc;unfold rV;obtain⟨r,hr⟩:=nM (s.num size);rw[<-hr];have HR:=Ld hr;obtain⟨j,b9⟩:=nM (s.e);rw[<-b9];have HE:=Ld b9;have HP:=Ld hp;clear hp;clear h hr b9 hn
 go_enter func125,ntmps125
 go_upto_region 1 with fail;obtain⟨D,O⟩:=nM ((w.alloc (.cells #[.slice A n c,.int .i64 j] 194)).alloc (.cells #[.slice none 0 0,.int .i64 0] 194):World);obtain⟨b2,b7⟩:=nM (w.heap.size);obtain⟨b5,b8⟩:=nM (w.heap.size+1);have Y:Hid (aa w D):=Ld (by rw[O];exact aa.al (aa.al (aa.refl _) _) _);have u:Hid (ac D b2 194 #[.slice A n c,.int .i64 j]):=Ld (by rw[O,b7];exact(ac.new _ _ _).alloc _);have y:Hid (ac D b5 194 #[.slice none 0 0,.int .i64 0]):=Ld (by rw[O,b8];exact ac.new' _ _ _ (by simp));have HZ:Hid (w.heap.size<=b2/\w.heap.size<=b5):=Ld ⟨by omega,by omega⟩;have B:b2≠b5:=by omega
 rw[<-O,<-b8,<-b7];clear O b7 b8;have b1:D.cell? ⟨b2,0,none⟩=some (.slice A n c):=u.out.cell 0;have b3:D.cell? ⟨b2,1,none⟩=some (.int .i64 j):=u.out.cell 1;have c4:D.cell? ⟨b5,0,none⟩=some (.slice none 0 0):=y.out.cell 0;have c5:D.cell? ⟨b5,1,none⟩=some (.int .i64 0):=y.out.cell 1;have f50:D.frozen? ⟨b5,0,none⟩=false:=y.out.frozen 0;have f51:D.frozen? ⟨b5,1,none⟩=false:=y.out.frozen 1;have f20:D.frozen? ⟨b2,0,none⟩=false:=u.out.frozen 0;have f21:D.frozen? ⟨b2,1,none⟩=false:=u.out.frozen 1;have b':¬b5=b2:=λe=>B e.symm
 by_cases h0:j=0
 ·have HT:=Ld (CK (H.out.new Y.out) size (by omega));obtain ⟨q,hq⟩:=nM (s.raw size);rw [<-HE.out] at HT;rw [<-hq] at HT;unfold rV at HT;have R:Hid (r=(aU q.1,q.2)):=Ld (by rw [HR.out];unfold Rs.num;rw [<-hq]);have c0:q.1.length<=8:=by rw [hq];have:=pO s size;omega
  have c3:Hid (ba q.1):=Ld (by rw[hq];exact raw_byt H.out.byt size);have i2:(size==1||size==2||size==4||size==8)=true:=by rcases hs with rfl|rfl|rfl|rfl<;>rfl
  clear hq;subst h0;rcases hs with rfl|rfl|rfl|rfl
  all_goals
   go_wp2_with fail;refine HT.out.mono ?_;rintro e w2 ⟨⟨A1,c1,A2,n2,c2,rfl,c7,X,c8⟩,S⟩;have Z:=Ld c7;have I:=Ld c8;have f':=Ld S;have i:=Ld (S.blk u.out);have b0:=Ld (S.blk y.out);obtain⟨q1,T⟩:=nM (q.1);obtain⟨q2,U⟩:=nM (q.2);rw[<-T,<-U]at R;rw[<-T]at Z c3 c0 X;rw[<-U]at I;rw[<-T,<-U];obtain⟨m1,c6⟩:=nM (q1.length);obtain⟨J,c'⟩:=nM (q2.e);rw[<-c6]at c0 X Z⊢;rw[<-c'];have c9:=Ld c';clear c7 c8 S T U c6 c' b1 b3 c4 c5 f50 f51 f20 f21 HT u y;unfold rV;have b1:w2.cell? ⟨b2,0,none⟩=some (.slice A n c):=i.out.cell 0;have b3:w2.cell? ⟨b2,1,none⟩=some (.int .i64 0):=i.out.cell 1;have f20:w2.frozen? ⟨b2,0,none⟩=false:=i.out.frozen 0;have f21:w2.frozen? ⟨b2,1,none⟩=false:=i.out.frozen 1
   go_upto_region 7 with fail;obtain⟨E,V⟩:=nM ((w2.setCell ⟨b2,0,none⟩ (.slice A2 n2 c2)).setCell ⟨b2,1,none⟩ (.int .i64 J):World);have L:Fr (λk=>k=b2) w2 E:=by rw[V];exact((Fr.refl (λk=>k=b2) w2).setCell (p:=⟨b2,0,none⟩) (λ_=>rfl) _).setCell (p:=⟨b2,1,none⟩) (λ_=>rfl) _
   have d:Hid (ac E b2 194 #[.slice A2 n2 c2,.int .i64 J]):=Ld (by rw[V];exact bQ i.out _ _);have b:Hid (ac E b5 194 #[.slice none 0 0,.int .i64 0]):=Ld (b0.out.fr L b');have g3:Hid (aa w E):=Ld ((Y.out.tr f'.out).fr L (λk hk=>by have:=HZ.out;omega));rw[<-V];clear V b1 b3 f20 f21;have N:∀k,p k->¬k=b2:=λk hk e=>by have:=HP.out k hk;have:=HZ.out;omega
   have g4:Hid (Rd p E 1 A1 m1 (an q1)):=Ld (Z.out.fr L N);have F:Hid (mY p E A2 n2 c2 q2):=Ld ⟨I.out.rd.fr L N,I.out.byt,I.out.nc,I.out.cm⟩;have g6:=Ld (ib A1 m1 c1 q1 E.drew g4.out c3.out c0);have c4:E.cell? ⟨b5,0,none⟩=some (.slice none 0 0):=b.out.cell 0;have c5:E.cell? ⟨b5,1,none⟩=some (.int .i64 0):=b.out.cell 1;have f50:E.frozen? ⟨b5,0,none⟩=false:=b.out.frozen 0;have f51:E.frozen? ⟨b5,1,none⟩=false:=b.out.frozen 1;clear L N;have M:aZ b2 (.slice A2 n2 c2) (.int .i64 J) E.drew:=aZ.of d.out;refine ah (aZ b2 (.slice A2 n2 c2) (.int .i64 J)) [(true,0),(true,2),(false,1),(true,3),(false,4)] (by kernel_rfl) (by kernel_rfl) M (λg7=>?_);have q0:∀p:HW (aZ b2 (.slice A2 n2 c2) (.int .i64 J)),p.w.cell? ⟨b2,0,none⟩=some (.slice A2 n2 c2):=λp=>p.h.1
   have g8:∀p:HW (aZ b2 (.slice A2 n2 c2) (.int .i64 J)),p.w.cell? ⟨b2,1,none⟩=some (.int .i64 J):=λp=>p.h.2
   iterate 2 (refine af (o:=.mk ..) rfl (λK t=>?_);go_simp;refine t _ ?_;clear t K)
   refine aj (o:=.mk ..) rfl (λK t=>?_) (.inl rfl);go_simp;refine g6.out.mono ?_;rintro e w5 ⟨rfl,rfl⟩;refine t.out _ _ (λ_=>aZ.of d.out) ?_;clear t K;refine af (o:=.mk ..) rfl (λK t=>?_);go_simp;refine t _ ?_;clear t K;refine aj (o:=.mk ..) rfl (λK t=>?_) (.inl rfl);go_simp;obtain⟨G,f⟩:=nM (((E.setCell ⟨b5,0,none⟩ (.slice A2 n2 c2)).setCell ⟨b5,1,none⟩ (.int .i64 J)).drew:World);have m:Fr (λk=>k=b5) E G:=by rw[f];exact(((Fr.refl (λk=>k=b5) E).setCell (p:=⟨b5,0,none⟩) (λ_=>rfl) _).setCell (p:=⟨b5,1,none⟩) (λ_=>rfl) _).drew
   have z:ac G b5 194 #[.slice A2 n2 c2,.int .i64 J]:=by rw[f];exact bQ b.out _ _
   rw[<-f];refine t.out _ _ (λ_=>aZ.of (d.out.fr m B)) ?_;clear t K q0 g8;refine au ?_;have r0:G.cell? ⟨b5,0,none⟩=some (.slice A2 n2 c2):=z.cell 0;have r1:G.cell? ⟨b5,1,none⟩=some (.int .i64 J):=z.cell 1;have P:Hid (aa w G):=Ld (g3.out.fr m (λk hk=>by have:=HZ.out;omega))
   have g5:Hid (mY p G A2 n2 c2 q2):=Ld (by
    have N:∀k,p k->¬k=b5:=λk hk e=>by have:=HP.out k hk;have:=HZ.out;omega
    exact⟨F.out.rd.fr m N,F.out.byt,F.out.nc,F.out.cm⟩)
   clear f m z M
   go_wp2_with fail;refine bodyPost_ret (v:=.tuple #[.int .u64 (aU q1),.agg #[.slice A2 n2 c2,.int .i64 J]]) (by simp[results,results125,go_sem,r0,r1]) rfl ⟨?_,P.out⟩;rw[R.out];exact⟨A2,n2,c2,by rw[c9.out];rfl,g5.out⟩
 ·have hz:((j:Int) != 0)=true:=by simp;omega
  have i3:((j:Int)==0)=false:=by simp;omega
  have i0:decide ((j:Int)=0)=false:=decide_eq_false (by omega);have d:=u;have b:=y;have R:Hid (r=(0,s)):=Ld (by rw[HR.out];exact DO (by rw[<-HE.out];exact h0) size);clear hs
  go_wp2_with fail;have M:aZ b2 (.slice A n c) (.int .i64 j) D.drew:=aZ.of d.out;refine ah (aZ b2 (.slice A n c) (.int .i64 j)) [(true,0),(true,1),(false,2)] (by kernel_rfl) (by kernel_rfl) M (λg7=>?_);have q0:∀p:HW (aZ b2 (.slice A n c) (.int .i64 j)),p.w.cell? ⟨b2,0,none⟩=some (.slice A n c):=λp=>p.h.1
  have q1:∀p:HW (aZ b2 (.slice A n c) (.int .i64 j)),p.w.cell? ⟨b2,1,none⟩=some (.int .i64 j):=λp=>p.h.2
  iterate 2 (refine af (o:=.mk ..) rfl (λK t=>?_);go_simp;refine t _ ?_;clear t K)
  refine aj (o:=.mk ..) rfl (λK t=>?_) (.inl rfl);go_simp;obtain⟨G,f⟩:=nM (((D.setCell ⟨b5,0,none⟩ (.slice A n c)).setCell ⟨b5,1,none⟩ (.int .i64 j)).drew:World);have m:Fr (λk=>k=b5) D G:=by rw[f];exact(((Fr.refl (λk=>k=b5) D).setCell (p:=⟨b5,0,none⟩) (λ_=>rfl) _).setCell (p:=⟨b5,1,none⟩) (λ_=>rfl) _).drew
  have z:ac G b5 194 #[(.slice A n c),(.int .i64 j)]:=by rw[f];exact bQ b.out (.slice A n c) (.int .i64 j)
  rw[<-f];refine t.out _ _ (λ_=>aZ.of (d.out.fr m B)) ?_;clear t K q0 q1;refine au ?_;have r0:G.cell? ⟨b5,0,none⟩=some (.slice A n c):=z.cell 0;have r1:G.cell? ⟨b5,1,none⟩=some (.int .i64 j):=z.cell 1;have d':=Ld m;clear f m z M
  go_wp2_with fail;have P:Hid (aa w G):=Ld (Y.out.fr d'.out (λk hk=>by have:=HZ.out;omega));refine bodyPost_ret (v:=.tuple #[.int .u64 0,.agg #[.slice A n c,.int .i64 j]]) (by simp[results,results125,go_sem,r0,r1]) rfl ⟨?_,P.out⟩;rw[R.out];exact⟨A,n,c,by rw[HE.out];rfl,H.out.new P.out⟩
def AG(p:Nat->Prop)(r:Bool×Rs)(e:Ending)(w':World):Prop:=
 ∃(A2:Option Addr) (n2 c2:Nat),e=.returned (.tuple #[.bool r.1,rV A2 n2 c2 r.2.e])/\mY p w' A2 n2 c2 r.2
theorem uy{s:Rs}(h:s.e≠0):s.flag=(false,s):=by
 have hl:s.left=0:=by unfold Rs.left;rw[if_neg h]
 unfold Rs.flag;rw[hl,if_pos (.inl (by omega))];unfold Rs.bad;rw[if_neg h]
def xR(b:Nat)(x y:Value)(g o:Nat)(z:Value)(w:World):Prop:=w.cell? ⟨b,0,none⟩=some x/\w.cell? ⟨b,1,none⟩=some y/\w.cell? ⟨g,o,none⟩=some z
theorem Ba{p:Nat->Prop}{w:World}{A:Option Addr}{n c:Nat}{s:Rs}(h:mY p w A n c s)(hp:∀k,p k->k<w.heap.size):
    Calls prog 126 #[rV A n c s.e] w λe w'=>AG p s.flag e w'/\aa w w':=by
 have H:=Ld h;have hn:=h.len;have Z:=Ld hn;have g6:=h.cm;have g9:=h.nc;unfold rV;obtain⟨r,hr⟩:=nM (s.flag);rw[<-hr];have HR:=Ld hr;obtain⟨J,b9⟩:=nM (s.e);rw[<-b9];have X:=Ld b9;have HP:=Ld hp;clear hp;clear h hr b9 hn
 go_enter func126,ntmps126
 go_upto_region 1 with fail;obtain⟨u,R⟩:=nM ((w.alloc (.cells #[.slice A n c,.int .i64 J] 194)).alloc (.cells #[.slice none 0 0,.int .i64 0] 194):World);obtain⟨b2,b1⟩:=nM (w.heap.size);obtain⟨b5,b3⟩:=nM (w.heap.size+1);have O:Hid (aa w u):=Ld (by rw[R];exact aa.al (aa.al (aa.refl _) _) _);have F:Hid (ac u b2 194 #[.slice A n c,.int .i64 J]):=Ld (by rw[R,b1];exact(ac.new _ _ _).alloc _);have I:Hid (ac u b5 194 #[.slice none 0 0,.int .i64 0]):=Ld (by rw[R,b3];exact ac.new' _ _ _ (by simp));have HZ:Hid (w.heap.size<=b2/\w.heap.size<=b5):=Ld ⟨by omega,by omega⟩;have m:b2≠b5:=by omega
 rw[<-R,<-b3,<-b1];clear R b1 b3;have b':u.cell? ⟨b2,0,none⟩=some (.slice A n c):=F.out.cell 0;have b0:u.cell? ⟨b2,1,none⟩=some (.int .i64 J):=F.out.cell 1;have S:u.cell? ⟨b5,0,none⟩=some (.slice none 0 0):=I.out.cell 0;have T:u.cell? ⟨b5,1,none⟩=some (.int .i64 0):=I.out.cell 1;have f50:u.frozen? ⟨b5,0,none⟩=false:=I.out.frozen 0;have f51:u.frozen? ⟨b5,1,none⟩=false:=I.out.frozen 1;have f20:u.frozen? ⟨b2,0,none⟩=false:=F.out.frozen 0;have f21:u.frozen? ⟨b2,1,none⟩=false:=F.out.frozen 1;have P:¬b5=b2:=λe=>m e.symm
 by_cases h0:J=0
 ·subst h0
  by_cases c4:n=0
  ·subst c4
   have L:Hid (r=(false,⟨s.xs,2⟩)):=Ld (by
    rw[HR.out];unfold Rs.flag Rs.left Rs.bad
    rw[if_pos X.out.symm,Z.out,if_pos (.inl (by omega)),if_pos X.out.symm])
   go_upto_region 5 with fail;obtain⟨D,G⟩:=nM (u.setCell ⟨b2,1,none⟩ (.int .i64 2):World);have M:Fr (λk=>k=b2) u D:=by rw[G];exact(Fr.refl (λk=>k=b2) u).setCell (p:=⟨b2,1,none⟩) (λ_=>rfl) _
   have t:Hid (ac D b2 194 #[.slice A 0 c,.int .i64 2]):=Ld (by
    have:=F.out.set 1 (.int .i64 2);rw[G]
    simpa using this)
   have b:Hid (ac D b5 194 #[.slice none 0 0,.int .i64 0]):=Ld (I.out.fr M P);have Y:=Ld M;rw[<-G];clear G M b' b0 S T f50 f51 f20 f21;have S:D.cell? ⟨b5,0,none⟩=some (.slice none 0 0):=b.out.cell 0;have T:D.cell? ⟨b5,1,none⟩=some (.int .i64 0):=b.out.cell 1;have f50:D.frozen? ⟨b5,0,none⟩=false:=b.out.frozen 0;have f51:D.frozen? ⟨b5,1,none⟩=false:=b.out.frozen 1;have B:aZ b2 (.slice A 0 c) (.int .i64 2) D.drew:=aZ.of t.out;refine ah (aZ b2 (.slice A 0 c) (.int .i64 2)) [(true,0),(true,1),(false,2)] (by kernel_rfl) (by kernel_rfl) B (λc'=>?_);have q0:∀p:HW (aZ b2 (.slice A 0 c) (.int .i64 2)),p.w.cell? ⟨b2,0,none⟩=some (.slice A 0 c):=λp=>p.h.1
   have q1:∀p:HW (aZ b2 (.slice A 0 c) (.int .i64 2)),p.w.cell? ⟨b2,1,none⟩=some (.int .i64 2):=λp=>p.h.2
   iterate 2 (refine af (o:=.mk ..) rfl (λK z=>?_);go_simp;refine z _ ?_;clear z K)
   refine aj (o:=.mk ..) rfl (λK z=>?_) (.inl rfl);go_simp;obtain⟨E,d⟩:=nM (((D.setCell ⟨b5,0,none⟩ (.slice A 0 c)).setCell ⟨b5,1,none⟩ (.int .i64 2)).drew:World);have f:Fr (λk=>k=b5) D E:=by rw[d];exact(((Fr.refl (λk=>k=b5) D).setCell (p:=⟨b5,0,none⟩) (λ_=>rfl) _).setCell (p:=⟨b5,1,none⟩) (λ_=>rfl) _).drew
   have i:ac E b5 194 #[(.slice A 0 c),(.int .i64 2)]:=by rw[d];exact bQ b.out (.slice A 0 c) (.int .i64 2)
   rw[<-d];refine z.out _ _ (λ_=>aZ.of (t.out.fr f m)) ?_;clear z K q0 q1;refine au ?_;have r0:E.cell? ⟨b5,0,none⟩=some (.slice A 0 c):=i.cell 0;have r1:E.cell? ⟨b5,1,none⟩=some (.int .i64 2):=i.cell 1;have N:=Ld f;clear d f i B
   go_wp2_with fail;have y:Hid (aa w E):=Ld ((O.out.fr Y.out (λk hk=>by have:=HZ.out;omega)).fr N.out (λk hk=>by have:=HZ.out;omega));refine bodyPost_ret (v:=.tuple #[.bool false,.agg #[.slice A 0 c,.int .i64 2]]) (by simp[results,results126,go_sem,r0,r1]) rfl ⟨?_,y.out⟩;rw[L.out];exact⟨A,0,c,rfl,⟨y.out.rd H.out.rd,H.out.byt,H.out.nc,H.out.cm⟩⟩
  ·obtain ⟨j,o,rfl,f',-,hq⟩:=H.out.rd.out (by omega) (by omega);have c0:0<s.xs.length:=by rw [Z.out];omega
   have c8:=H.out.byt s.xs[0] (List.getElem_mem _);have b8:u.cell? ⟨j,o,none⟩=some (.int .u8 s.xs[0]):=O.out.cell_ (hq 0 _ (by simp[an,c0]))
   have c1:s.xs.headD 0=s.xs[0]:=by
    obtain⟨xs,e⟩:=s
    match xs,c0 with
    |a::r,_=>rfl
   have hlf:s.left=n:=by unfold Rs.left;rw[if_pos X.out.symm,Z.out]
   have hf:s.flag=if(1:Int)<s.xs[0]then(false,s.bad 2)else(decide ((s.num 1).1=1),(s.num 1).2):=by
    unfold Rs.flag;rw[c1,hlf]
    by_cases h1:(1:Int)<s.xs[0]
    ·rw[if_pos (.inr h1),if_pos h1]
    ·rw[if_neg (by rintro(h|h)<;>omega),if_neg h1]
   have V:s.num 1=(s.xs[0].toNat,⟨s.xs.drop 1,0⟩):=by
    unfold Rs.num Rs.raw;rw[hlf,if_neg (by omega),<-X.out];obtain⟨xs,e⟩:=s
    match xs,c0 with
    |a::r,_=>simp[aU]
   rw[V]at hf;have d':j≠b5/\j≠b2:=by have:=HP.out j f';have:=HZ.out;omega
   obtain⟨x,hx⟩:=nM (s.xs[0]);rw[<-hx]at hf b8 c8;have HF:=Ld hf;clear hf V c1 hq hx hlf;have g8:decide (n=0)=false:=decide_eq_false c4;have i':((n:Int)==0)=false:=by simp;omega
   have i0:(0:Int)<(n:Int):=by omega
   have g3:0<n:=by omega
   by_cases h1:(1:Int)<x
   ·have c9:decide (1<x)=true:=decide_eq_true h1
    have L:Hid (r=(false,⟨s.xs,2⟩)):=Ld (by
     rw[HR.out,HF.out,if_pos h1];unfold Rs.bad
     rw[if_pos X.out.symm])
    go_upto_region 5 with fail;obtain⟨D,G⟩:=nM (u.setCell ⟨b2,1,none⟩ (.int .i64 2):World);have M:Fr (λk=>k=b2) u D:=by rw[G];exact(Fr.refl (λk=>k=b2) u).setCell (p:=⟨b2,1,none⟩) (λ_=>rfl) _
    have t:Hid (ac D b2 194 #[.slice (some ⟨j,o,none⟩) n c,.int .i64 2]):=Ld (by
     have:=F.out.set 1 (.int .i64 2);rw[G]
     simpa using this)
    have b:Hid (ac D b5 194 #[.slice none 0 0,.int .i64 0]):=Ld (I.out.fr M P);have Y:=Ld M;rw[<-G];clear G M b' b0 S T f50 f51 f20 f21;have S:D.cell? ⟨b5,0,none⟩=some (.slice none 0 0):=b.out.cell 0;have T:D.cell? ⟨b5,1,none⟩=some (.int .i64 0):=b.out.cell 1;have f50:D.frozen? ⟨b5,0,none⟩=false:=b.out.frozen 0;have f51:D.frozen? ⟨b5,1,none⟩=false:=b.out.frozen 1;have B:aZ b2 (.slice (some ⟨j,o,none⟩) n c) (.int .i64 2) D.drew:=aZ.of t.out;refine ah (aZ b2 (.slice (some ⟨j,o,none⟩) n c) (.int .i64 2)) [(true,0),(true,1),(false,2)] (by kernel_rfl) (by kernel_rfl) B (λc'=>?_);have q0:∀p:HW (aZ b2 (.slice (some ⟨j,o,none⟩) n c) (.int .i64 2)),p.w.cell? ⟨b2,0,none⟩=some (.slice (some ⟨j,o,none⟩) n c):=λp=>p.h.1
    have q1:∀p:HW (aZ b2 (.slice (some ⟨j,o,none⟩) n c) (.int .i64 2)),p.w.cell? ⟨b2,1,none⟩=some (.int .i64 2):=λp=>p.h.2
    iterate 2 (refine af (o:=.mk ..) rfl (λK z=>?_);go_simp;refine z _ ?_;clear z K)
    refine aj (o:=.mk ..) rfl (λK z=>?_) (.inl rfl);go_simp;obtain⟨E,d⟩:=nM (((D.setCell ⟨b5,0,none⟩ (.slice (some ⟨j,o,none⟩) n c)).setCell ⟨b5,1,none⟩ (.int .i64 2)).drew:World);have f:Fr (λk=>k=b5) D E:=by rw[d];exact(((Fr.refl (λk=>k=b5) D).setCell (p:=⟨b5,0,none⟩) (λ_=>rfl) _).setCell (p:=⟨b5,1,none⟩) (λ_=>rfl) _).drew
    have i:ac E b5 194 #[(.slice (some ⟨j,o,none⟩) n c),(.int .i64 2)]:=by rw[d];exact bQ b.out (.slice (some ⟨j,o,none⟩) n c) (.int .i64 2)
    rw[<-d];refine z.out _ _ (λ_=>aZ.of (t.out.fr f m)) ?_;clear z K q0 q1;refine au ?_;have r0:E.cell? ⟨b5,0,none⟩=some (.slice (some ⟨j,o,none⟩) n c):=i.cell 0;have r1:E.cell? ⟨b5,1,none⟩=some (.int .i64 2):=i.cell 1;have N:=Ld f;clear d f i B
    go_wp2_with fail;have y:Hid (aa w E):=Ld ((O.out.fr Y.out (λk hk=>by have:=HZ.out;omega)).fr N.out (λk hk=>by have:=HZ.out;omega));refine bodyPost_ret (v:=.tuple #[.bool false,.agg #[.slice (some ⟨j,o,none⟩) n c,.int .i64 2]]) (by simp[results,results126,go_sem,r0,r1]) rfl ⟨?_,y.out⟩;rw[L.out];exact⟨some ⟨j,o,none⟩,n,c,rfl,⟨y.out.rd H.out.rd,H.out.byt,H.out.nc,H.out.cm⟩⟩
   ·have c9:decide (1<x)=false:=decide_eq_false h1;have L:Hid (r=(decide (x.toNat=1),⟨s.xs.drop 1,0⟩)):=Ld (by rw [HR.out,HF.out,if_neg h1]);have U:=mH (k:=1) H.out (by omega) 0;have g4:1<=c:=by omega
    have g5:(1:Int)<=(n:Int):=by omega
    have c3:Option.map (λx:Addr=>x.add 1) (some ⟨j,o,none⟩)=some ⟨j,o+1,none⟩:=by simp[Addr.add]
    rw[c3]at U;clear c3
    go_wp2_with fail;have B:xR b2 (.slice (some ⟨j,o,none⟩) n c) (.int .i64 0) j o (.int .u8 x) u.drew:=⟨b',b0,b8⟩
    refine ah (xR b2 (.slice (some ⟨j,o,none⟩) n c) (.int .i64 0) j o (.int .u8 x)) [(true,0),(true,1),(true,2),(true,3),(true,4),(true,5),(true,6),(true,7),(true,8),(true,9),(false,10)] (by kernel_rfl) (by kernel_rfl) B (λc'=>?_);have q0:∀p:HW (xR b2 (.slice (some ⟨j,o,none⟩) n c) (.int .i64 0) j o (.int .u8 x)),p.w.cell? ⟨b2,0,none⟩=some (.slice (some ⟨j,o,none⟩) n c):=λp=>p.h.1
    have q1:∀p:HW (xR b2 (.slice (some ⟨j,o,none⟩) n c) (.int .i64 0) j o (.int .u8 x)),p.w.cell? ⟨j,o,none⟩=some (.int .u8 x):=λp=>p.h.2.2
    iterate 10 (refine af (o:=.mk ..) rfl (λK z=>?_);go_simp;refine z _ ?_;clear z K)
    refine aj (o:=.mk ..) rfl (λK z=>?_) (.inl rfl);go_simp;generalize (if c=1 then some (⟨j,o,none⟩:Addr)else some ⟨j,o+1,none⟩)=A2 at U⊢;have c7:=Ld U;obtain⟨E,d⟩:=nM (((u.setCell ⟨b5,0,none⟩ (.slice A2 (n-1) (c-1))).setCell ⟨b5,1,none⟩ (.int .i64 0)).drew:World);have f:Fr (λk=>k=b5) u E:=by rw[d];exact(((Fr.refl (λk=>k=b5) u).setCell (p:=⟨b5,0,none⟩) (λ_=>rfl) _).setCell (p:=⟨b5,1,none⟩) (λ_=>rfl) _).drew
    have i:ac E b5 194 #[.slice A2 (n-1) (c-1),.int .i64 0]:=by rw[d];exact bQ I.out _ _
    rw[<-d];refine z.out _ _ (λ_=>⟨(F.out.fr f m).cell 0,(F.out.fr f m).cell 1,f.cell_some b8 d'.1⟩) ?_;clear z K q0 q1;refine au ?_;have r0:E.cell? ⟨b5,0,none⟩=some (.slice A2 (n-1) (c-1)):=i.cell 0;have r1:E.cell? ⟨b5,1,none⟩=some (.int .i64 0):=i.cell 1;have y:Hid (aa w E):=Ld (O.out.fr f (λk hk=>by have:=HZ.out;omega));obtain⟨bb,b7⟩:=nM ((x==1))
    have c6:Hid (bb=decide (x.toNat=1)):=Ld (by
     rw[b7]
     by_cases c5:x=1
     ·subst c5;rfl
     ·have h2:¬x.toNat=1:=by omega
      rw[decide_eq_false h2]
      simpa using c5)
    rw[<-b7];clear d f i B U b7
    go_wp2_with fail;refine bodyPost_ret (v:=.tuple #[.bool bb,.agg #[.slice A2 (n-1) (c-1),.int .i64 0]]) (by simp[results,results126,go_sem,r0,r1]) rfl ⟨?_,y.out⟩;rw[L.out];exact⟨A2,n-1,c-1,by rw[c6.out];rfl,c7.out.new y.out⟩
 ·skip
  have hz:((J:Int) != 0)=true:=by simp;omega
  have i1:((J:Int)==0)=false:=by simp;omega
  have g7:decide ((J:Int)=0)=false:=decide_eq_false (by omega);have t:=F;have b:=I;have L:Hid (r=(false,s)):=Ld (by rw[HR.out];exact uy (by rw[<-X.out];exact h0))
  go_wp2_with fail;have B:aZ b2 (.slice A n c) (.int .i64 J) u.drew:=aZ.of t.out;refine ah (aZ b2 (.slice A n c) (.int .i64 J)) [(true,0),(true,1),(false,2)] (by kernel_rfl) (by kernel_rfl) B (λc'=>?_);have q0:∀p:HW (aZ b2 (.slice A n c) (.int .i64 J)),p.w.cell? ⟨b2,0,none⟩=some (.slice A n c):=λp=>p.h.1
  have q1:∀p:HW (aZ b2 (.slice A n c) (.int .i64 J)),p.w.cell? ⟨b2,1,none⟩=some (.int .i64 J):=λp=>p.h.2
  iterate 2 (refine af (o:=.mk ..) rfl (λK z=>?_);go_simp;refine z _ ?_;clear z K)
  refine aj (o:=.mk ..) rfl (λK z=>?_) (.inl rfl);go_simp;obtain⟨E,d⟩:=nM (((u.setCell ⟨b5,0,none⟩ (.slice A n c)).setCell ⟨b5,1,none⟩ (.int .i64 J)).drew:World);have f:Fr (λk=>k=b5) u E:=by rw[d];exact(((Fr.refl (λk=>k=b5) u).setCell (p:=⟨b5,0,none⟩) (λ_=>rfl) _).setCell (p:=⟨b5,1,none⟩) (λ_=>rfl) _).drew
  have i:ac E b5 194 #[(.slice A n c),(.int .i64 J)]:=by rw[d];exact bQ b.out (.slice A n c) (.int .i64 J)
  rw[<-d];refine z.out _ _ (λ_=>aZ.of (t.out.fr f m)) ?_;clear z K q0 q1;refine au ?_;have r0:E.cell? ⟨b5,0,none⟩=some (.slice A n c):=i.cell 0;have r1:E.cell? ⟨b5,1,none⟩=some (.int .i64 J):=i.cell 1;have N:=Ld f;clear d f i B
  go_wp2_with fail;have y:Hid (aa w E):=Ld (O.out.fr N.out (λk hk=>by have:=HZ.out;omega));refine bodyPost_ret (v:=.tuple #[.bool false,.agg #[.slice A n c,.int .i64 J]]) (by simp[results,results126,go_sem,r0,r1]) rfl ⟨?_,y.out⟩;rw[L.out];exact⟨A,n,c,by rw[X.out];rfl,H.out.new y.out⟩
end Go.Proofs.YtfchcdbfalgdlaaGreatDoor
