/- Texts of one proof. No condition but each one's own. -/
import Derived.Test.YtfchcdbfalgdlaaGreatDoorSweepPlaysM35
import Derived.Test.YtfchcdbfalgdlaaGreatDoorSweepPlaysM36
set_option maxHeartbeats 4000000
set_option maxRecDepth 100000
set_option linter.unusedVariables false
set_option linter.unusedSimpArgs false
namespace Go.Proofs.YtfchcdbfalgdlaaGreatDoor
open _root_.Go.Proofs.Tryz
open Go.RowKit Go.Sort
structure ie(B:Nat)(w:World)(s:SW)(tot:Nat)(Z:Array Value):Prop where
 ex:∃X Y A c T,Z=eE X Y (.slice A T.length c) (.int .u32 s.gen) (.bool s.broken)/\bE w s.p tot X/\fZ w s.l Y/\jx B w A T.length T/\cl T=aI s.t/\∀y∈T,oR y
 ok:s.l.Ok s.p.size
theorem ie.new{B:Nat}{w w':World}{s:SW}{b:Nat}{Z:Array Value}(h:ie B w s b Z)(d:aa w w'):ie B w' s b Z:=by
 obtain⟨X,Y,A,c,T,e,h1,h2,f,g,i⟩:=h.ex;exact⟨⟨X,Y,A,c,T,e,h1.new d,h2.new d,f.new d,g,i⟩,h.ok⟩
theorem ie.row{B:Nat}{w:World}{s:SW}{b:Nat}{Z:Array Value}(h:ie B w s b Z):jy 14 Z:=by
 obtain⟨X,Y,A,c,T,rfl,h1,h2,-⟩:=h.ex;exact bi.row ⟨h1.row,h2.row⟩ rfl rfl rfl
def lG(B:Nat)(r:SW×Int)(b:Nat)(w:World)(e:Ending)(w':World):Prop:=∃c,e=.returned (.tuple #[.agg c,.int .i64 r.2])/\ie B w' r.1 b c/\aa w w'
def EG(c:Int)(l:LG)(Y:Array Value)(w:World):Prop:=c=0->fZ w l Y
theorem nD(c:Int)(l:LG)(Y:Array Value){n:Nat}:kh n bT (EG c l Y):=⟨λ_ _ f h d=>(h d).new f,λw w' b t x ht i g hF h d=>(dL l Y).st w w' b t x ht i g hF (h d)⟩
theorem iZ.row{B n:Nat}{W:World}{A:Option Addr}{R:List Sl}(h:iZ B W A n R){x:Sl}(c:x∈R)(d:∀y∈x.L,y.In (λb=>b<W.heap.size) W):ou W x.A x.n x.L:=⟨dS (h.el x c).2,(h.el x c).1,d⟩
theorem iZ.at{B n i:Nat}{w:World}{A:Option Addr}{R:List Sl}(h:iZ B w A n R)(hi:i<n):∃g o,∃hl:i<R.length,A=some ⟨g,o,none⟩/\w.cell? ⟨g,o+i,none⟩=some (.slice R[i].A R[i].n R[i].c):=by
 have hl:i<R.length:=by rw[h.len];exact hi
 obtain⟨g,o,b,-,-,d⟩:=h.rd.out (by omega) (by omega);refine⟨g,o,hl,b,d i _ ?_⟩;rw[yU,List.getElem?_map,List.getElem?_eq_getElem hl];rfl
theorem vX(q:DP)(l:LG)(b:List Int):(aD q l b).2.1.size=l.size:=by
 unfold aD;split
 ·rfl
 ·split
  ·rfl
  ·split
   ·rfl
   ·simp only;split<;>rfl
def oV(s:SW):DP×LG×Int:=
 if(aB s.p (aW s.p.size (s.gen+1))).2≠0 then((aB s.p (aW s.p.size (s.gen+1))).1,aW s.p.size (s.gen+1),(aB s.p (aW s.p.size (s.gen+1))).2)else eb (aB s.p (aW s.p.size (s.gen+1))).1 (aW s.p.size (s.gen+1)) ((jB s.t).map bw)
theorem xU(s:SW){q:DP}{l:LG}{c:Int}(h:oV s=(q,l,c)):dD s=if c≠0 then(q,l,c)else if q.scode≠0 then(q.doSync,l,q.scode)else((bU q.doSync (s.gen+1)).1,l,(bU q.doSync (s.gen+1)).2):=by
 unfold dD;unfold oV at h
 by_cases hz:(aB s.p (aW s.p.size (s.gen+1))).2≠0
 ·rw[if_pos hz]at h;injection h with h1 h2;injection h2 with h2 b;simp only[if_pos hz];rw[<-h1,<-h2,<-b,if_pos hz]
 ·rw[if_neg hz]at h;simp only[if_neg hz];rw[h]
structure GW(w:World)(Z Y:Array Value)(ls:LG)(b1 b2 b6 b7:Nat)(A0:DP×LG×Int)(bs:List (List Int))(hl tot0 N D:Nat)(A:Option Addr)(n:Nat)(R:List Sl)(k:Nat)(c:Int)(wr:World):Prop where
 ex:∃q l X1 Y1 tt,Bx prog bT w wr [⟨b1,79,Z⟩,⟨b2,79,GB⟩,⟨b6,65,X1⟩,⟨b7,75,Y1⟩] (λw=>bE w q tt X1/\(fZ w ls Y/\EG c l Y1 w))/\jy 6 Y1/\l.Ok N/\q.size=N/\l.size=hl/\(c=0->A0=eb q l (bs.drop k)/\tt<=tot0+l.used*hl)/\(c≠0->A0=(q,l,c))/\tt<=tot0+(hl+1)*hl
 bt:iZ D wr A n R
theorem ze{q:DP}{l:LG}{bs:List (List Int)}{k:Nat}{b:List Int}(h:bs[k]?=some b):eb q l (bs.drop k)=if(aD q l b).2.2≠0 then aD q l b else eb (aD q l b).1 (aD q l b).2.1 (bs.drop (k+1)):=by
 obtain⟨c,e⟩:=List.getElem?_eq_some_iff.1 h;rw[List.drop_eq_getElem_cons c,e];rfl
structure AK(T:List Ch)(bs:List (List Int))(n:Nat)(R:List Sl):Prop where
 n:n<=1000000
 bs:bs=R.map λx=>bI x.L
 el:∀x∈R,(∀y∈x.L,y∈T)/\x.L.length<=600/\ig (bI x.L)/\(bI x.L).length<=65536
theorem DZ{T:List Ch}{R:List Sl}{C:CT}{n:Nat}(k:ki C)(f:cl T=aI C)(hS:∀y∈T,oR y)(i:R.map Sl.L=jt (mP iD T))(hl:ko T)(m:R.length=n)(hm:C.length<=1000000):AK T ((jB C).map bw) n R:=by
 have d:∀x∈R,∀y∈x.L,y∈T:=λx c y g=>by
  rw[<-rp i];exact List.mem_flatMap.2 ⟨x,c,g⟩
 have b:=tI k f i hS (λx c y g=>hl y (d x c y g));refine⟨?_,b.bs,λx c=>⟨d x c,(dt (b.ok x c)).2.1,tH ?_ (b.len x c) (b.byt x c),b.len x c⟩⟩
 ·have h1:=oG (R.map Sl.L) (λl hl=>by
   obtain⟨x,c,rfl⟩:=List.mem_map.1 hl;have:=(dt (b.ok x c)).1
   exact this)
  have j:(R.map Sl.L).flatten=T:=by rw[i];exact jv iD T
  have h2:=congrArg List.length f;rw[(dU C).length_eq]at h2;have o:(cl T).length=T.length:=by simp[cl]
  rw[j,List.length_map,m]at h1;omega
 ·rw[gE (λy g=>hl y (d x c y g))];have:=mF (x.L.map cK);omega
theorem Cd{w:World}{A:Option Addr}{j:Nat}{T:List Ch}{C:CT}(b:ou w A T.length T)(c:cl T=aI C)(hS:∀y∈T,oR y)(n:ki C)(hm:C.length<=1000000)(W:World)(l:aa w W):
    Calls prog 80 #[.slice A T.length j] W λe w'=>∃f d g R,e=.returned (.slice f d g)/\iZ W.heap.size w' f d R/\AK T ((jB C).map bw) d R/\aa W w':=by
 have o:T.length=C.length:=by
  have h2:=congrArg List.length c;rw[(dU C).length_eq]at h2
  simpa[cl]using h2
 refine(tF A T.length j T W (b.new l) (by omega) hS).mono ?_;rintro e w' ⟨⟨f,d,g,R,p,⟨-,k⟩,m⟩,i⟩;exact⟨f,d,g,R,p,k,DZ n c hS m b.lens k.len hm,i⟩
theorem vk{wr:World}{k:Option Addr}{D j:Nat}{T:List Ch}{bs:List (List Int)}{R:List Sl}(hS:∀y∈T,oR y)(i:iZ D wr k j R)(n:AK T bs j R)(o:∀y∈T,y.In (λb=>b<wr.heap.size) wr){x:Sl}(f:x∈R)(W:World)(l:aa wr W):
    Calls prog 82 #[.slice x.A x.n x.c] W λe w'=>∃A2 c2,e=.returned (.slice A2 (bI x.L).length c2)/\Rd (λ_=>True) w' 1 A2 (bI x.L).length (an (bI x.L))/\aa W w':=by
 obtain⟨h1,h2,-⟩:=n.el x f;have d:=(i.row f (λy g=>o y (h1 y g))).new l;refine(jq x.A x.n x.c x.L W d (by rw[<-(i.el x f).1];omega) (λy g=>(hS y (h1 y g)).2)).mono ?_;rintro e w' ⟨⟨A2,c2,m,hO⟩,c⟩;exact⟨A2,c2,m,Rd.imp (Rd.own hO rfl) (λ_ _=>trivial),c⟩
theorem AT{q:DP}{l:LG}{b:List Int}(h:(aD q l b).2.2=0):(aD q l b).2.1=l.step b:=by
 rcases kr q l b with h1|h1|h1
 ·exact h1.2.1
 ·rw[h1]at h;cases h
 ·rw[h]at h1;cases h1
theorem tJ{D:Nat}{w:World}{s:SW}{j:Nat}{Z:Array Value}(h:ie D w s j Z)(m:s.broken=true\/s.gen=4294967295):
    Calls prog 36 #[.agg Z] w (lG D (aN s) j w):=by
 have f:=Ld h.row;have o:=Ld h;obtain⟨X,Y,A,c,T,e,h1,h2,-⟩:=h.ex;have l:Hid (bi X Y):=Ld ⟨h1.row,h2.row⟩;have b:Hid (Bx prog bT w w [] (λ_=>True)):=Ld (Bx.start trivial kh.triv);have q:=Ld e;clear h h1 h2
 by_cases d:s.broken=true
 ·have i:aN s=(s,10):=by unfold aN;rw [if_pos d]
  rw[i];rw[d]at e;clear i m;subst e
  go_enter func36,ntmps36
  go_wp2_with (first
   |(refine dK b.out rfl rfl rfl ca f.out (by decide) ?_;clear b;intro k p b)
   |(refine bP b.out rfl rfl ca zS (by decide) ?_;clear b;intro k b2 b)
   |(refine eP 4 rfl ?_;refine aM 0 b.out rfl rfl rfl rfl underlying4 rfl l.out.c.2.2 ?_)
   |(refine be 0 b.out rfl rfl rfl rfl rfl ?_)
   |(refine gc 79 rfl ?_;refine aX 1 b.out rfl rfl rfl rfl rfl rfl f.out ca ?_;clear b;intro k b))
  exact bodyPost_ret (aE rfl _ _ _ _ _ rfl (b.out.blk 1 rfl) underlying79 rfl (by rw[f.out.sz];kernel_rfl)) rfl ⟨_,rfl,o.out.new b.out.nw,b.out.nw⟩
 ·have g:s.broken=false:=by simpa using d
  have n:s.gen=4294967295:=m.resolve_left d;have i:aN s=(s,9):=by unfold aN;rw[if_neg d,if_pos n]
  rw[i];rw[g,n]at e;clear i m d g n;subst e
  go_enter func36,ntmps36
  go_wp2_with (first
   |(refine dK b.out rfl rfl rfl ca f.out (by decide) ?_;clear b;intro k p b)
   |(refine bP b.out rfl rfl ca zS (by decide) ?_;clear b;intro k b2 b)
   |(refine eP 4 rfl ?_;refine aM 0 b.out rfl rfl rfl rfl underlying4 rfl l.out.c.2.2 ?_)
   |(refine eP 44 rfl ?_;refine aM 0 b.out rfl rfl rfl rfl underlying44 rfl l.out.c.2.1 ?_)
   |(refine be 0 b.out rfl rfl rfl rfl rfl ?_)
   |(refine gc 79 rfl ?_;refine aX 1 b.out rfl rfl rfl rfl rfl rfl f.out ca ?_;clear b;intro k b))
  exact bodyPost_ret (aE rfl _ _ _ _ _ rfl (b.out.blk 1 rfl) underlying79 rfl (by rw[f.out.sz];kernel_rfl)) rfl ⟨_,rfl,o.out.new b.out.nw,b.out.nw⟩
theorem pX{D0:Nat}{w:World}{s:SW}{m:Nat}{Z:Array Value}(h:ie D0 w s m Z)(hT:ki s.t)(h4:4<=s.p.size)(hg:s.gen<4294967296)(hm:s.t.length<=1000000)(ht:m+(hlf s.p.size+1)*(hlf s.p.size+1)<=50000)(hL:cX 3 1 w):
    Calls prog 36 #[.agg Z] w (lG D0 (aN s) (m+(hlf s.p.size+1)*(hlf s.p.size+1)) w):=by
 by_cases i9:s.broken=true\/s.gen=4294967295
 ·refine(tJ h i9).mono ?_;rintro e w' ⟨Z',he,⟨⟨X,Y,A,c,T,e',h1,h2⟩,h3⟩,C⟩;exact⟨Z',he,⟨⟨X,Y,A,c,T,e',h1.up (by omega),h2⟩,h3⟩,C⟩
 have k9:s.broken=false:=by
  cases hb:s.broken with
  |false=>rfl
  |true=>exact absurd (.inl hb) i9
 have o3:s.gen≠4294967295:=λe=>i9 (.inr e)
 obtain⟨X,Y,A,c0,T,e,hD,k4,k8,l5,hS⟩:=h.ex;have k7:=k8.tb;have n7:=Ld k8;have t:Hid (bi X Y):=Ld ⟨hD.row,k4.row⟩;have HZ:=Ld h.row;have o7:=hD.ok.s2;obtain⟨g1,j1⟩:=nm (s.gen+1);have P:g1<4294967296:=by omega
 have e1:IntKind.u32.wrap ((s.gen:Int)+1)=(g1:Int):=by rw[IntKind.wrap_u32];omega
 have H:=fk (g:=g1) h4;obtain⟨fs,j0⟩:=nm (gj g1 s.p.size);obtain⟨hl,g4⟩:=nm (hlf s.p.size);rw[<-j0,<-g4]at H;rw[<-g4]at ht⊢;have o8:m<=50000:=Nat.le_trans (Nat.le_add_right _ _) ht
 have n0:Hid (∀W,bE W s.p m X->Calls prog 73 #[.agg X,.int .u32 g1] W λe w'=>e=.returned (.tuple #[.int .i64 fs,.int .i64 hl])/\aa W w'):=Ld λW hd=>by
  have h1:=pV hd (by omega) g1;rw[<-j0,<-g4]at h1;exact h1
 obtain⟨p1,j4⟩:=nm (aB s.p (bZ fs hl g1)).1;obtain⟨c1,l2⟩:=nm (aB s.p (bZ fs hl g1)).2
 have U:Hid (∀W,bE W s.p m X->Calls prog 74 #[.agg X,.int .i64 fs,.int .i64 hl,.int .u32 g1] W λe w'=>∃X' Y',e=.returned (.tuple #[.agg X',.agg Y',.int .i64 c1])/\bE w' p1 (m+hl) X'/\jy 6 Y'/\EG c1 (bZ fs hl g1) Y' w'/\aa W w'):=Ld λW hd=>by
  rw[j4,l2];exact vi hd o8 fs hl g1 H.1 H.2.1 P (by omega)
 have g9:p1.size=s.p.size:=by rw[j4];exact(iS hD.ok (fv H.2.1 P) (show(bZ fs hl g1).gen≠0 from(by show g1≠0;omega))).2
 obtain⟨bs,l1⟩:=nm ((jB s.t).map bw);obtain⟨A0,k'⟩:=nm (oV s);have o5:aW s.p.size (s.gen+1)=bZ fs hl g1:=by rw[j0,g4,j1];rfl
 have j5:Hid ((c1≠0->A0=(p1,bZ fs hl g1,c1))/\(c1=0->A0=eb p1 (bZ fs hl g1) bs)):=Ld (by
  rw[k'];unfold oV;rw[o5,<-j4,<-l2,<-l1]
  exact⟨λh=>if_pos h,λh=>if_neg (by simpa using h)⟩)
 have j6:Hid (∀W,aa w W->Calls prog 80 #[.slice A T.length c0] W λe w'=>∃A' v c' R,e=.returned (.slice A' v c')/\iZ W.heap.size w' A' v R/\AK T bs v R/\aa W w'):=Ld λW C=>by rw[l1];exact Cd k7 l5 hS hT hm W C
 have c9:=Ld (And.intro k7 hS);have m7:=Ld l5;have HL:=Ld hL;obtain⟨F,hF⟩:=nm (aN s);obtain⟨T0,k6⟩:=nm (m+(hl+1)*(hl+1));rw[<-hF,<-k6];have p5:=Ld k6
 have n6:Hid (F=if(dD s).2.2≠0 then({s with p:=(dD s).1,broken:=fK (dD s).2.2},(dD s).2.2)else({s with p:=(dD s).1,l:=(dD s).2.1,gen:=s.gen+1},0)):=Ld (by
  rw[hF];unfold aN
  rw[if_neg (by rw[k9];simp),if_neg o3])
 have m2:Hid (∀q l c,A0=(q,l,c)->dD s=if c≠0 then(q,l,c)else if q.scode≠0 then(q.doSync,l,q.scode)else((bU q.doSync g1).1,l,(bU q.doSync g1).2)):=Ld λq l c h=>by
  rw[j1];exact xU s (k'▸h)
 have d:Hid (Bx prog bT w w [] (λw=>bE w s.p m X/\fZ w s.l Y)):=Ld (Bx.start ⟨hD,k4⟩ ((bq _ _ _).and (dL _ _)));have G:Hid (m+hl<=50000/\p1.size=s.p.size/\(bZ fs hl g1).Ok s.p.size/\m+(hl+1)*(hl+1)<=50000/\s.l.Ok s.p.size/\s.p.size<=16384/\g1=s.gen+1/\g1<4294967296):=Ld ⟨by have:hl<=(hl+1)*(hl+1):=Nat.le_trans (Nat.le_succ _) (Nat.le_mul_of_pos_right _ (by omega));omega,g9,fv H.2.1 P,ht,h.ok,o7,j1,P⟩;have g3:¬(s.gen:Int)=4294967295:=by omega
 have l7:((s.gen:Int)==4294967295)=false:=by simpa using g3
 have p':=Ld k9;rw[k9]at e;clear h hT h4 hg hm ht hL i9 o3 hD k4 k7 k8 l5 hS o7 j1 P H j0 g4 o8 j4 l2 g9 l1 k' o5 hF k6;obtain⟨gen,b8⟩:=nm s.gen;rw[<-b8]at e e1 g3 l7;obtain⟨n,hn⟩:=nm T.length;rw[<-hn]at e j6;have j7:=Ld (And.intro b8 hn);clear b8 hn;subst e
 go_enter func36,ntmps36
 go_upto_region 8 with (first
  |(refine dK d.out rfl rfl rfl ca HZ.out (by decide) ?_;clear d;intro w1 b1 d)
  |(refine bP d.out rfl rfl ca zS (by decide) ?_;clear d;intro w1 b2 d)
  |(refine eP 4 rfl ?_;refine aM 0 d.out rfl rfl rfl rfl underlying4 rfl t.out.c.2.2 ?_)
  |(refine eP 44 rfl ?_;refine aM 0 d.out rfl rfl rfl rfl underlying44 rfl t.out.c.2.1 ?_)
  |(refine eP 77 rfl ?_;refine aM 0 d.out rfl rfl rfl rfl underlying77 rfl t.out.c.1 ?_)
  |(refine eP 65 rfl ?_;refine pE 0 d.out rfl rfl rfl rfl t.out.x cI t.out.d ?_)
  |(go_at_call 73;refine(n0.out _ d.out.r.1).mono ?_;rintro e w3 ⟨rfl,C⟩;replace d:=Ld (d.out.new C);clear C)
  |(go_at_call 74;refine(U.out _ d.out.r.1).mono ?_;rintro e w4 ⟨X1,Y1,rfl,k1,f',n9,C⟩;have f:=Ld k1.row;have u:=Ld f';replace d:=Ld ((d.out.call (R':=λw=>bE w p1 (m+hl) X1/\EG c1 (bZ fs hl g1) Y1 w) C ⟨k1,n9⟩ ((bq _ _ _).and (nD _ _ _))).rel (R':=λw=>bE w p1 (m+hl) X1/\(fZ w s.l Y/\EG c1 (bZ fs hl g1) Y1 w)) (λh=>⟨h.2.1,h.1.2,h.2.2⟩) ((bq _ _ _).and ((dL _ _).and (nD _ _ _))));clear C k1 f' n9)
  |(refine bP d.out rfl rfl cI zR (by decide) ?_;clear d;intro w1 b6 d)
  |(refine bP d.out rfl rfl fR zL (by decide) ?_;clear d;intro w1 b7 d)
  |(refine gc 65 rfl ?_;refine aX 2 d.out rfl rfl rfl rfl rfl rfl f.out cI ?_;clear d;intro w1 d)
  |(refine gc 75 rfl ?_;refine aX 3 d.out rfl rfl rfl rfl rfl rfl u.out fR ?_;clear d;intro w1 d)
  |(go_at_call 80;refine(j6.out _ d.out.nw).mono ?_;rintro e w5 ⟨A',v,c',R,rfl,j',o6,C⟩;obtain⟨D,j',g7⟩:∃D,iZ D w5 A' v R/\∀B∈_,nP.b B<D:=⟨_,j',d.out.bx.lt⟩;have I:=Ld j';have c4:=Ld o6;have j8:=Ld g7;replace d:=Ld (d.out.new C);clear C j' o6 g7))
 have m8:Hid (GW w (eE X Y (.slice A n c0) (.int .u32 gen) (.bool false)) Y s.l b1 b2 b6 b7 A0 bs hl (m+hl) s.p.size D A' v R 0 c1 w5):=Ld ⟨⟨p1,bZ fs hl g1,X1,Y1,m+hl,d.out,u.out,G.out.2.2.1,G.out.2.1,rfl,λh=>⟨j5.out.2 h,by omega⟩,j5.out.1,by omega⟩,I.out⟩;have b3:Hid (b6<D/\b7<D):=Ld ⟨j8.out ⟨b6,65,X1⟩ (by simp),j8.out ⟨b7,75,Y1⟩ (by simp)⟩;clear d I f u j5 j8 n0 U j6
 go_wp2_with fail;go_loopw [8,10] (λcv i wr=>∃(k:Nat) (c:Int),k<=v/\i=.int .i64 k/\cv=.int .i64 c/\Hid (GW w (eE X Y (.slice A n c0) (.int .u32 gen) (.bool false)) Y s.l b1 b2 b6 b7 A0 bs hl (m+hl) s.p.size D A' v R k c wr)) (λ_ i _=>v-(intOf i).toNat)
 case atStart=>exact⟨0,c1,Nat.zero_le _,rfl,rfl,m8⟩
 case round=>
  clear m8;obtain⟨k,c,hk,rfl,rfl,HI⟩:=hrel;obtain⟨q,l,X1,Y1,tt,hB,f',c8,M,g6,V,k0,o9⟩:=HI.out.ex;have I:=Ld HI.out.bt;have d:=Ld hB;have f:Hid (jy 5 X1):=Ld hB.r.1.row;have u:=Ld f';clear HI
  by_cases j2:k<v/\c=0
  ·obtain ⟨g7,rfl⟩:=j2;have m9:=Ld g7;have q9:=c4.out.n;have p9:(k:Int)<(v:Int):=by omega
   have q8:(0:Int)<=(k:Int):=by omega
   obtain⟨ga,o,o4,rfl,b'⟩:=I.out.at g7;obtain⟨x,hx⟩:=nm R[k];rw[<-hx]at b';have m1:x∈R:=by rw[hx];exact List.getElem_mem _
   obtain⟨q7,q6,i6,i5⟩:=c4.out.el x m1;obtain⟨b,hb⟩:=nm (bI x.L);have o2:bs[k]?=some b:=by rw[c4.out.bs,List.getElem?_map,List.getElem?_eq_getElem o4,<-hx,hb];rfl
   rw[<-hb]at i6 i5;have c5:=ze o2 (q:=q) (l:=l);rw[<-(V rfl).1]at c5;have d':=G.out;have l9:l.used*hl<=hl*hl:=Nat.mul_le_mul_right _ (by rw[<-g6];exact c8.used);have q4:(hl+1)*hl=hl*hl+hl:=Nat.succ_mul _ _;have q1:(hl+1)*(hl+1)=(hl+1)*hl+(hl+1):=Nat.mul_succ _ _;have i4:tt<=50000:=by have:=(V rfl).2;omega
   have n1:Hid (∀W,aa wr W->Calls prog 82 #[.slice x.A x.n x.c] W λe w'=>∃A2 c2,e=.returned (.slice A2 b.length c2)/\Rd (λ_=>True) w' 1 A2 b.length (an b)/\aa W w'):=Ld λW C=>by rw[hb];exact vk c9.out.2 I.out c4.out (λy hy=>Ch.In.szs ((c9.out.1.el y hy).new d.out.nw)) m1 W C
   have g8:=vY d.out.r.1.ok (by rw[M];exact c8) i6.2 (x:=b);have b9:=vX q l b;have b0:=AT (q:=q) (l:=l) (b:=b);obtain⟨q',i'⟩:=nm (aD q l b).1;obtain⟨l',g5⟩:=nm (aD q l b).2.1;obtain⟨c',c6⟩:=nm (aD q l b).2.2
   have m3:Hid (∀W A2 c2,bE W q tt X1->fZ W l Y1->aa w W->Rd (λ_=>True) W 1 A2 b.length (an b)->Calls prog 81 #[.agg X1,.agg Y1,.slice A2 b.length c2] W λe w'=>∃X' Y',e=.returned (.tuple #[.agg X',.agg Y',.int .i64 c'])/\bE w' q' (tt+hl) X'/\fZ w' l' Y'/\aa W w'):=Ld λW A2 c2 hd p8 C hR=>by
    have h0:=wR hd i4 p8 (by rw[M];exact c8) (HL.out.new C) A2 b.length c2 b hR i6.2 (by unfold maxLen;omega);unfold sB at h0;rw[<-i',<-g5,<-c6,g6]at h0;exact h0
   rw[<-i']at g8;rw[<-g5]at g8 b9 b0;rw[<-c6]at b0
   have n5 : Hid (l'.Ok s.p.size /\ q'.size = s.p.size /\ l'.size = hl /\ (c' = 0 -> A0 = eb q' l' (bs.drop (k + 1)) /\ tt + hl <= m + hl + l'.used * hl) /\ (c' ≠ 0 -> A0 = (q', l', c')) /\ tt + hl <= m + hl + (hl + 1) * hl) := Ld ⟨by rw [<- M]; exact g8.2.2, by rw [g8.2.1, M], by rw [b9, g6], λh0 => ⟨by
       rw[<-c6,if_neg (by simpa using h0),<-i',<-g5]at c5;exact c5,by
       have h1:=b0 h0;have h2:l'.used=l.used+aA b.length:=by rw[h1];rfl
       have h3:(l.used+1)*hl<=l'.used*hl:=Nat.mul_le_mul_right _ (by have:=i6.1;omega);have h4:(l.used+1)*hl=l.used*hl+hl:=Nat.succ_mul _ _;have:=(V rfl).2
       omega⟩,λh0=>by
       rw[<-c6,if_pos h0]at c5
       rw[c5,i',g5,c6],by have:=(V rfl).2;omega⟩
   clear g8 b9 b0 i' g5 c6 c5 o2 l9 q4 q1 i4 q7 q6 i6 i5 m1 hb hx o4 d' o9 V k0 g6 M c8 f'
   go_upto_region 11 with fail;obtain⟨S,hS⟩:∃S:World->Prop,∀w',S w'↔(Bx prog bT w w' [⟨b1,79,eE X Y (.slice A n c0) (.int .u32 gen) (.bool false)⟩,⟨b2,79,GB⟩,⟨b6,65,X1⟩,⟨b7,75,Y1⟩] (λw=>bE w q tt X1/\(fZ w s.l Y/\EG 0 l Y1 w))/\aa wr w'):=⟨_,λ_=>Iff.rfl⟩
   have q5:∀p:HW S,p.w.cell? ⟨ga,o+k,none⟩=some (.slice x.A x.n x.c):=λp=>((hS _).1 p.h).2.cell_ b'
   have m':Nonempty (HW S):=⟨⟨wr.drew,(hS _).2 ⟨d.out.new (aa.dr (aa.refl _)),aa.dr (aa.refl _)⟩⟩⟩
   refine iB S [.take 0,.take 1,.pur 2,.pur 3,.pur 4,.take 5,.act 6,.act 7,.pur 8,.pur 9,.pur 10,.pur 11] 12 [(false,13),(true,14)] (by kernel_rfl) (by kernel_rfl) ((hS _).2 ⟨d.out.new (aa.dr (aa.refl _)),aa.dr (aa.refl _)⟩) ?_;refine mB 2 (λw' h=>((hS w').1 h).1) rfl rfl rfl rfl rfl rfl (by rw[f.out.sz];exact cI) ?_;refine mB 3 (λw' h=>((hS w').1 h).1) rfl rfl rfl rfl rfl rfl (by rw[u.out.sz];exact fR) ?_;simp only[Act.put,bC,bD,bF]
   iterate 3 (refine jk (o:=.mk ..) rfl (λK z=>?_);go_simp;refine z _ ?_;clear z K)
   refine rG (o:=.mk ..) rfl (λK z=>?_);go_simp;refine z _ ?_;clear z K q5 m';refine jj (o:=.mk ..) rfl rfl (λK z=>?_);go_simp;refine(n1.out _ (aa.dr (aa.refl _))).mono ?_;rintro e w6 ⟨A2,d2,rfl,o1,o0⟩;have O:Hid (aa wr w6):=Ld ((aa.dr (aa.refl _)).tr o0);have n3:=Ld o1;go_simp;refine z.out _ _ ((hS _).2 ⟨d.out.new O.out,O.out⟩) ?_;clear z K o0 o1 n1;refine jj (o:=.mk ..) rfl rfl (λK z=>?_);go_simp;refine(m3.out _ _ _ (d.out.new O.out).r.1 ((d.out.new O.out).r.2.2 rfl) (d.out.new O.out).nw n3.out).mono ?_;rintro e w7 ⟨X2,Y2,rfl,k2,k3,k5⟩;have n8:=Ld k2.row;have j9:=Ld k3.row;have i7:Hid (aa wr w7):=Ld (O.out.tr k5);have m4:=Ld (((d.out.new O.out).call (R':=λw=>bE w q' (tt+hl) X2/\EG c' l' Y2 w) k5 ⟨k2,λ_=>k3⟩ ((bq _ _ _).and (nD _ _ _))).rel (R':=λw=>bE w q' (tt+hl) X2/\(fZ w s.l Y/\EG c' l' Y2 w)) (λh=>⟨h.2.1,h.1.2.1,h.2.2⟩) ((bq _ _ _).and ((dL _ _).and (nD _ _ _))));go_simp;refine z.out _ _ ((hS _).2 ⟨d.out.new i7.out,i7.out⟩) ?_;clear z K k5 k2 k3 m3 d n3 O
   iterate 4 (refine jk (o:=.mk ..) rfl (λK z=>?_);go_simp;refine z _ ?_;clear z K)
   refine np (o:=.mk ..) rfl (λK z=>?_);refine eK 2 m4.out rfl rfl rfl rfl rfl rfl n8.out cI ?_;intro w8 m5 F8;simp only[Act.put,bC,bD,bF];refine z.out _ _ ?_;clear z K m4;have m':Nonempty (HW λ_:World=>True):=⟨⟨w8,trivial⟩⟩
   refine aj (o:=.mk ..) rfl (λK z=>?_) (.inl rfl);refine eK 3 m5.out rfl rfl rfl rfl rfl rfl j9.out fR ?_;intro w9 m6 F9;simp only[Act.put,bC,bD,bF];refine z.out _ _ (λ_=>trivial) ?_;clear z K m5;refine af (o:=.mk ..) rfl (λK z=>?_);go_simp;refine z _ ?_;clear z K;refine au ?_;clear m';have p2:Hid (GW w (eE X Y (.slice A n c0) (.int .u32 gen) (.bool false)) Y s.l b1 b2 b6 b7 A0 bs hl (m+hl) s.p.size D (some ⟨ga,o,none⟩) v R (k+1) c' w9):=Ld ⟨⟨q',l',X2,Y2,tt+hl,m6.out,j9.out,n5.out⟩,((I.out.fr (i7.out.toFr ic) (λ_ x=>x.elim)).fr F8.out (λj hj=>by rw[show j=b6 from hj];exact b3.out.1)).fr F9.out (λj hj=>by rw[show j=b7 from hj];exact b3.out.2)⟩;clear m6 n5 F8 F9 I n8 j9 i7 hS b' f u
   go_wp2_with fail;go_roundw
   case rel=>exact⟨k+1,c',m9.out,by go_num,rfl,p2⟩
   case measure=>simp[intOf];have:=m9.out;omega
  ·have HA:Hid (A0=(q,l,c)):=Ld (by
    by_cases h0:c=0
    ·have p7:k=v:=by
      have:¬k<v:=λh=>j2 ⟨h,h0⟩
      omega
     rw[(V h0).1,p7,h0,List.drop_of_length_le (by rw[c4.out.bs,List.length_map,I.out.len];exact Nat.le_refl _)];rfl
    ·exact k0 h0)
   have d':=G.out
   have i3:tt<=49999/\tt+1<=T0:=by
    rw[p5.out];have e:(hl+1)*(hl+1)=(hl+1)*hl+(hl+1):=Nat.mul_succ _ _;omega
   obtain⟨c2,l3⟩:=nm q.scode;obtain⟨q2,i0⟩:=nm q.doSync;obtain⟨c3,l4⟩:=nm (bU q2 g1).2;obtain⟨q3,i2⟩:=nm (bU q2 g1).1;have E:=m2.out q l c HA.out;rw[<-l3,<-i0,<-l4,<-i2]at E;have L:=n6.out;have p4:Hid (∀W,bE W q tt X1->Calls prog 72 #[.agg X1] W (gm q2 tt c2 W)):=Ld λW hd=>by rw[l3,i0];exact oH hd (by omega)
   have p3:Hid (∀W X,bE W q2 tt X->cX 3 1 W->Calls prog 75 #[.agg X,.int .u32 g1] W (gm q3 (tt+1) c3 W)):=Ld λW X hd hL=>by rw[l4,i2];exact yN hd (by omega) g1 d'.2.2.2.2.2.2.2 hL
   have m0:(bU q2 g1).1.size=s.p.size:=by
    have e:(bU q2 g1).1.size=q2.size:=by
     unfold bU;split
     ·exact DP.doWrite_size _ _ _
     ·show((q2.doWrite _ _).doSync).size=_;rw[DP.doSync_size,DP.doWrite_size]
    rw[e,i0,DP.doSync_size,M]
   have i1:q2.size=s.p.size:=by rw[i0,DP.doSync_size,M]
   have N:Hid ((c≠0->F=({s with p:=q,broken:=fK c},c))/\(c=0->c2≠0->F=({s with p:=q2,broken:=fK c2},c2))/\(c=0->c2=0->c3≠0->F=({s with p:=q3,broken:=fK c3},c3))/\(c=0->c2=0->c3=0->F=({s with p:=q3,l:=l,gen:=s.gen+1},0))):=Ld (by
    refine⟨λh0=>?_,λh0 h1=>?_,λh0 h1 h2=>?_,λh0 h1 h2=>?_⟩
    ·rw[if_pos h0]at E;rw[E,if_pos h0]at L;exact L
    ·rw[if_neg (by simpa using h0),if_pos h1]at E;rw[E,if_pos h1]at L;exact L
    ·rw[if_neg (by simpa using h0),if_neg (by simpa using h1)]at E;rw[E,if_pos h2]at L;exact L
    ·rw[if_neg (by simpa using h0),if_neg (by simpa using h1)]at E;rw[E,if_neg (by simpa using h2)]at L
     exact L)
   have U:Hid (∀(w':World) (qf:DP) (cf:Int) (Xf:Array Value) (tf:Nat),cf≠0->F=({s with p:=qf,broken:=fK cf},cf)->bE w' qf tf Xf->tf<=T0->qf.size=s.p.size->fZ w' s.l Y->aa w w'->lG D0 F T0 w (.returned (.tuple #[.agg (eE Xf Y (.slice A n c0) (.int .u32 gen) (.bool (fK cf))),.int .i64 cf])) w'):=Ld λw' qf cf Xf tf h0 hf hd ht q0 hl C=>by
    rw[hf];exact⟨_,rfl,⟨⟨Xf,Y,A,c0,T,by rw[j7.out.1,j7.out.2],hd.up ht,hl,n7.out.new C,m7.out,c9.out.2⟩,by show s.l.Ok qf.size;rw[q0];exact G.out.2.2.2.2.1⟩,C⟩
   have p0:Hid (∀(w':World) (Xf:Array Value) (tf:Nat),F=({s with p:=q3,l:=l,gen:=s.gen+1},0)->bE w' q3 tf Xf->tf<=T0->fZ w' l Y1->aa w w'->lG D0 F T0 w (.returned (.tuple #[.agg (eE Xf Y1 (.slice A n c0) (.int .u32 g1) (.bool false)),.int .i64 0])) w'):=Ld λw' Xf tf hf hd ht hl C=>by
    rw[hf];exact⟨_,rfl,⟨⟨Xf,Y1,A,c0,T,by rw[j7.out.2,d'.2.2.2.2.2.2.1,p'.out],hd.up ht,hl,n7.out.new C,m7.out,c9.out.2⟩,by show l.Ok q3.size;rw[i2,m0];exact c8⟩,C⟩
   have p6:(k<v/\c≠0)\/(¬k<v/\c≠0)\/(¬k<v/\c=0/\c2≠0)\/(¬k<v/\c=0/\c2=0/\c3≠0)\/(¬k<v/\c=0/\c2=0/\c3=0):=by
    by_cases c7:k<v
    ·exact .inl ⟨c7,λh=>j2 ⟨c7,h⟩⟩
    ·by_cases h0:c=0
     ·by_cases h1:c2=0
      ·by_cases h2:c3=0
       ·exact .inr (.inr (.inr (.inr ⟨c7,h0,h1,h2⟩)))
       ·exact .inr (.inr (.inr (.inl ⟨c7,h0,h1,h2⟩)))
      ·exact .inr (.inr (.inl ⟨c7,h0,h1⟩))
     ·exact .inr (.inl ⟨c7,h0⟩)
   have J:Hid (q.size=s.p.size/\q2.size=s.p.size/\q3.size=s.p.size/\tt<=T0/\tt+1<=T0):=Ld ⟨M,i1,by rw[i2];exact m0,by omega,i3.2⟩;clear j2 V k0 o9 g6 M c8 d' i3 l3 i0 l4 i2 E L m0 i1 HA I m2 n6 G c9 c4 b3;rcases p6 with⟨h,h0⟩|⟨h,h0⟩|⟨h,rfl,h0⟩|⟨h,rfl,rfl,h0⟩|⟨h,rfl,rfl,rfl⟩
   focus
    have j3:(k:Int)<(v:Int):=by omega
    have l8:(c==0)=false:=by simpa using h0
   rotate_left
   focus
    have j3:¬(k:Int)<(v:Int):=by omega
    have l8:(c==0)=false:=by simpa using h0
   rotate_left
   focus
    have j3:¬(k:Int)<(v:Int):=by omega
    have l8:(c2==0)=false:=by simpa using h0
   rotate_left
   focus
    have j3:¬(k:Int)<(v:Int):=by omega
    have l8:(c3==0)=false:=by simpa using h0
   rotate_left
   focus
    have j3:¬(k:Int)<(v:Int):=by omega
   rotate_left
   all_goals
    go_wp2_with (first
    |(refine be 2 d.out rfl rfl rfl rfl rfl ?_)
    |(refine be 3 d.out rfl rfl rfl rfl rfl ?_)
    |(refine be 0 d.out rfl rfl rfl rfl rfl ?_)
    |(refine eP 44 rfl ?_;refine aM 0 d.out rfl rfl rfl rfl underlying44 rfl t.out.c.2.1 ?_)
    |(refine eP 44 rfl ?_;refine aM 0 d.out rfl rfl rfl rfl underlying44 rfl (bi.c ⟨f.out,u.out⟩).2.1 ?_)
    |(go_at_call 72;refine(p4.out _ d.out.r.1).mono ?_;intro e w6 hs;have hb:=d.out.dks hs (λ_ h=>h.2) ((dL _ _).and (nD _ _ _));clear d hs f;obtain⟨X1,rfl,f,d⟩:=hb)
    |(go_at_call 75;refine(p3.out _ _ d.out.r.1 (HL.out.new d.out.nw)).mono ?_;intro e w6 hs;have hb:=d.out.dks hs (λ_ h=>h.2) ((dL _ _).and (nD _ _ _));clear d hs f;obtain⟨X1,rfl,f,d⟩:=hb)
    |(go_at_call 83;refine(oc _ _).mono ?_;rintro e w6 ⟨rfl,rfl⟩)
    |(refine gc 65 rfl ?_;refine aX 2 d.out rfl rfl rfl rfl rfl rfl f.out cI ?_;clear d;intro w1 d)
    |(refine gc 65 rfl ?_;refine qn 0 d.out rfl rfl rfl rfl rfl f.out cI (by rw[t.out.size];decide) (t.out.setD f.out) ?_;clear d;intro w1 d)
    |(refine gc 75 rfl ?_;refine qn 0 d.out rfl rfl rfl rfl rfl u.out fR (by rw[bi.size ⟨f.out,t.out.y⟩];decide) (bi.setL ⟨f.out,t.out.y⟩ u.out) ?_;clear d;intro w1 d)
    |(refine gc 4 rfl ?_;refine og 0 d.out rfl rfl rfl rfl rfl rfl rfl (by kernel_rfl) (by rw[bi.size ⟨f.out,t.out.y⟩];decide) (bi.set ⟨f.out,t.out.y⟩ _).2.2 ?_;clear d;intro w1 d)
    |(refine gc 44 rfl ?_;refine og 0 d.out rfl rfl rfl rfl rfl rfl rfl (by kernel_rfl) (by rw[bi.size ⟨f.out,u.out⟩];decide) (bi.set ⟨f.out,u.out⟩ _).2.1 ?_;clear d;intro w1 d)
    |(refine gc 79 rfl ?_;refine aX 1 d.out rfl rfl rfl rfl rfl rfl (bi.row ⟨f.out,t.out.y⟩ rfl rfl rfl) ca ?_;clear d;intro w1 d)
    |(refine gc 79 rfl ?_;refine aX 1 d.out rfl rfl rfl rfl rfl rfl (bi.row ⟨f.out,u.out⟩ rfl rfl rfl) ca ?_;clear d;intro w1 d))
    first
     |refine bodyPost_ret (aE rfl _ _ _ _ _ rfl (d.out.blk 1 rfl) underlying79 rfl (by rw[bi.size ⟨f.out,t.out.y⟩];kernel_rfl)) rfl ?_
     |refine bodyPost_ret (aE rfl _ _ _ _ _ rfl (d.out.blk 1 rfl) underlying79 rfl (by rw[bi.size ⟨f.out,u.out⟩];kernel_rfl)) rfl ?_
   ·exact U.out _ q c _ tt h0 (N.out.1 h0) d.out.r.1 J.out.2.2.2.1 J.out.1 d.out.r.2.1 d.out.nw
   ·exact U.out _ q c _ tt h0 (N.out.1 h0) d.out.r.1 J.out.2.2.2.1 J.out.1 d.out.r.2.1 d.out.nw
   ·exact U.out _ q2 c2 _ tt h0 (N.out.2.1 (by simp) h0) d.out.r.1 J.out.2.2.2.1 J.out.2.1 d.out.r.2.1 d.out.nw
   ·exact U.out _ q3 c3 _ (tt+1) h0 (N.out.2.2.1 (by simp) (by simp) h0) d.out.r.1 J.out.2.2.2.2 J.out.2.2.1 d.out.r.2.1 d.out.nw
   ·exact p0.out _ _ (tt+1) (N.out.2.2.2 (by simp) (by simp) (by simp)) d.out.r.1 J.out.2.2.2.2 (d.out.r.2.2 rfl) d.out.nw
end Go.Proofs.YtfchcdbfalgdlaaGreatDoor
