/- Texts of one proof. No condition but each one's own. -/
import Derived.Test.YtfchcdbfalgdlaaGreatDoorSweepOpensM35
import Derived.Test.YtfchcdbfalgdlaaGreatDoorSweepOpensM36
set_option maxHeartbeats 4000000
set_option maxRecDepth 100000
set_option linter.unusedVariables false
set_option linter.unusedSimpArgs false
namespace Go.Proofs.YtfchcdbfalgdlaaGreatDoor
open _root_.Go.Proofs.Tryz
open Go.RowKit Go.Sort
structure pA(B:Nat)(w:World)(s:SW)(tot:Nat)(Z:Array Value):Prop where
 ex:∃X Y A c T,Z=eM X Y (.slice A T.length c) (.int .u32 s.gen) (.bool s.broken)∧bQ w s.p tot X∧iE w s.l Y∧pB B w A T.length T∧cl T=aZ s.t∧∀y∈T,vO y
 ok:s.l.Ok s.p.size
theorem pA.new{B:Nat}{w w':World}{s:SW}{b:Nat}{Z:Array Value}(h:pA B w s b Z)(d:aa w w'):pA B w' s b Z:=by
 obtain⟨X,Y,A,c,T,e,h1,h2,f,g,i⟩:=h.ex;exact⟨⟨X,Y,A,c,T,e,h1.new d,h2.new d,f.new d,g,i⟩,h.ok⟩
theorem pA.row{B:Nat}{w:World}{s:SW}{b:Nat}{Z:Array Value}(h:pA B w s b Z):iL 14 Z:=by
 obtain⟨X,Y,A,c,T,rfl,h1,h2,-⟩:=h.ex;exact cG.row ⟨h1.row,h2.row⟩ rfl rfl rfl
def nJ(B:Nat)(r:SW×Int)(b:Nat)(w:World)(e:Ending)(w':World):Prop:=∃c,e=.returned (.tuple #[.agg c,.int .i64 r.2])∧pA B w' r.1 b c∧aa w w'
def CK(c:Int)(l:LG)(Y:Array Value)(w:World):Prop:=c=0→iE w l Y
theorem mI(c:Int)(l:LG)(Y:Array Value){n:Nat}:kQ n bT (CK c l Y):=⟨fun _ _ f h d=>(h d).new f,fun w w' b t x ht i g hF h d=>(gW l Y).st w w' b t x ht i g hF (h d)⟩
theorem iG.row{B n:Nat}{W:World}{A:Option Addr}{R:List Sl}(h:iG B W A n R){x:Sl}(c:x∈R)(d:∀y∈x.L,y.In (fun b=>b<W.heap.size) W):px W x.A x.n x.L:=⟨dw (h.el x c).2,(h.el x c).1,d⟩
theorem iG.at{B n i:Nat}{w:World}{A:Option Addr}{R:List Sl}(h:iG B w A n R)(hi:i<n):∃g o,∃hl:i<R.length,A=some ⟨g,o,none⟩∧w.cell? ⟨g,o+i,none⟩=some (.slice R[i].A R[i].n R[i].c):=by
 have hl:i<R.length:=by rw[h.len];exact hi
 obtain⟨g,o,b,-,-,d⟩:=h.rd.out (by omega) (by omega);refine⟨g,o,hl,b,d i _ ?_⟩;rw[wY,List.getElem?_map,List.getElem?_eq_getElem hl];rfl
theorem uu(q:DP)(l:LG)(b:List Int):(aD q l b).2.1.size=l.size:=by
 unfold aD;split
 ·rfl
 ·split
  ·rfl
  ·split
   ·rfl
   ·simp only;split<;>rfl
def vP(s:SW):DP×LG×Int:=
 if(az s.p (aS s.p.size (s.gen+1))).2≠0 then((az s.p (aS s.p.size (s.gen+1))).1,aS s.p.size (s.gen+1),(az s.p (aS s.p.size (s.gen+1))).2)else dY (az s.p (aS s.p.size (s.gen+1))).1 (aS s.p.size (s.gen+1)) ((jb s.t).map ba)
theorem Bh(s:SW){q:DP}{l:LG}{c:Int}(h:vP s=(q,l,c)):dt s=if c≠0 then(q,l,c)else if q.scode≠0 then(q.doSync,l,q.scode)else((bS q.doSync (s.gen+1)).1,l,(bS q.doSync (s.gen+1)).2):=by
 unfold dt;unfold vP at h
 by_cases b:(az s.p (aS s.p.size (s.gen+1))).2≠0
 ·rw[if_pos b]at h;injection h with h1 h2;injection h2 with h2 d;simp only[if_pos b];rw[←h1,←h2,←d,if_pos b]
 ·rw[if_neg b]at h;simp only[if_neg b];rw[h]
structure Fo(w:World)(Z Y:Array Value)(ls:LG)(b1 b2 b6 b7:Nat)(A0:DP×LG×Int)(bs:List (List Int))(hl tot0 N D:Nat)(A:Option Addr)(n:Nat)(R:List Sl)(k:Nat)(c:Int)(wr:World):Prop where
 ex:∃q l X1 Y1 tt,Bx prog bT w wr [⟨b1,79,Z⟩,⟨b2,79,EP⟩,⟨b6,65,X1⟩,⟨b7,75,Y1⟩] (fun w=>bQ w q tt X1∧(iE w ls Y∧CK c l Y1 w))∧iL 6 Y1∧l.Ok N∧q.size=N∧l.size=hl∧(c=0→A0=dY q l (bs.drop k)∧tt≤tot0+l.used*hl)∧(c≠0→A0=(q,l,c))∧tt≤tot0+(hl+1)*hl
 bt:iG D wr A n R
theorem xq{q:DP}{l:LG}{bs:List (List Int)}{k:Nat}{b:List Int}(h:bs[k]?=some b):dY q l (bs.drop k)=if(aD q l b).2.2≠0 then aD q l b else dY (aD q l b).1 (aD q l b).2.1 (bs.drop (k+1)):=by
 obtain⟨c,e⟩:=List.getElem?_eq_some_iff.1 h;rw[List.drop_eq_getElem_cons c,e];rfl
structure yU(T:List Ch)(bs:List (List Int))(n:Nat)(R:List Sl):Prop where
 n:n≤1000000
 bs:bs=R.map fun x=>bR x.L
 el:∀x∈R,(∀y∈x.L,y∈T)∧x.L.length≤600∧gH (bR x.L)∧(bR x.L).length≤65536
theorem Cd{T:List Ch}{R:List Sl}{C:CT}{n:Nat}(k:jw C)(f:cl T=aZ C)(hS:∀y∈T,vO y)(i:R.map Sl.L=iV (lX ib T))(hl:jB T)(m:R.length=n)(p:C.length≤1000000):yU T ((jb C).map ba) n R:=by
 have d:∀x∈R,∀y∈x.L,y∈T:=fun x c y g=>by
  rw[←qg i];exact List.mem_flatMap.2 ⟨x,c,g⟩
 have b:=rW k f i hS (fun x c y g=>hl y (d x c y g));refine⟨?_,b.bs,fun x c=>⟨d x c,(dK (b.ok x c)).2.1,rU ?_ (b.len x c) (b.byt x c),b.len x c⟩⟩
 ·have h1:=nB (R.map Sl.L) (fun l hl=>by
   obtain⟨x,c,rfl⟩:=List.mem_map.1 hl;have:=(dK (b.ok x c)).1
   exact this)
  have j:(R.map Sl.L).flatten=T:=by rw[i];exact iW ib T
  have h2:=congrArg List.length f;rw[(ei C).length_eq]at h2;have o:(cl T).length=T.length:=by simp[cl]
  rw[j,List.length_map,m]at h1;omega
 ·rw[jg (fun y g=>hl y (d x c y g))];have:=lK (x.L.map cZ);omega
theorem Aj{w:World}{A:Option Addr}{j:Nat}{T:List Ch}{C:CT}(b:px w A T.length T)(c:cl T=aZ C)(hS:∀y∈T,vO y)(n:jw C)(q:C.length≤1000000)(W:World)(l:aa w W):
    Calls prog 80 #[.slice A T.length j] W fun e w'=>∃f d g R,e=.returned (.slice f d g)∧iG W.heap.size w' f d R∧yU T ((jb C).map ba) d R∧aa W w':=by
 have o:T.length=C.length:=by
  have h2:=congrArg List.length c;rw[(ei C).length_eq]at h2
  simpa[cl]using h2
 refine(rT A T.length j T W (b.new l) (by omega) hS).mono ?_;rintro e w' ⟨⟨f,d,g,R,p,⟨-,k⟩,m⟩,i⟩;exact⟨f,d,g,R,p,k,Cd n c hS m b.lens k.len q,i⟩
theorem tP{wr:World}{k:Option Addr}{D j:Nat}{T:List Ch}{bs:List (List Int)}{R:List Sl}(hS:∀y∈T,vO y)(i:iG D wr k j R)(n:yU T bs j R)(o:∀y∈T,y.In (fun b=>b<wr.heap.size) wr){x:Sl}(f:x∈R)(W:World)(l:aa wr W):
    Calls prog 82 #[.slice x.A x.n x.c] W fun e w'=>∃A2 c2,e=.returned (.slice A2 (bR x.L).length c2)∧Rd (fun _=>True) w' 1 A2 (bR x.L).length (am (bR x.L))∧aa W w':=by
 obtain⟨h1,h2,-⟩:=n.el x f;have d:=(i.row f (fun y g=>o y (h1 y g))).new l;refine(lQ x.A x.n x.c x.L W d (by rw[←(i.el x f).1];omega) (fun y g=>(hS y (h1 y g)).2)).mono ?_;rintro e w' ⟨⟨A2,c2,m,hO⟩,c⟩;exact⟨A2,c2,m,Rd.imp (Rd.own hO rfl) (fun _ _=>trivial),c⟩
theorem yZ{q:DP}{l:LG}{b:List Int}(h:(aD q l b).2.2=0):(aD q l b).2.1=l.step b:=by
 rcases jD q l b with h1|h1|h1
 ·exact h1.2.1
 ·rw[h1]at h;cases h
 ·rw[h]at h1;cases h1
theorem rX{D:Nat}{w:World}{s:SW}{j:Nat}{Z:Array Value}(h:pA D w s j Z)(m:s.broken=true∨s.gen=4294967295):
    Calls prog 36 #[.agg Z] w (nJ D (bm s) j w):=by
 have f:=Ld h.row;have o:=Ld h;obtain⟨X,Y,A,c,T,e,h1,h2,-⟩:=h.ex;have l:Hid (cG X Y):=Ld ⟨h1.row,h2.row⟩;have b:Hid (Bx prog bT w w [] (fun _=>True)):=Ld (Bx.start trivial kQ.triv);have q:=Ld e;clear h h1 h2
 by_cases d:s.broken=true
 ·have i:bm s=(s,10):=by unfold bm;rw [if_pos d]
  rw[i];rw[d]at e;clear i m;subst e
  go_enter func36,ntmps36
  go_wp2_with (first
   |(refine dJ b.out rfl rfl rfl dx f.out (by decide) ?_;clear b;intro k p b)
   |(refine bW b.out rfl rfl dx zS (by decide) ?_;clear b;intro k b2 b)
   |((with_reducible refine aA ⟨_,.load 4 _,_,_,_,_⟩ ?_);refine aR 0 b.out rfl rfl rfl rfl underlying4 rfl l.out.c.2.2 ?_)
   |(refine bh 0 b.out rfl rfl rfl rfl rfl ?_)
   |((with_reducible refine aA ⟨_,.store 79 _ _,_,_,_,_⟩ ?_);refine bj 1 b.out rfl rfl rfl rfl rfl rfl f.out dx ?_;clear b;intro k b))
  exact bodyPost_ret (aI rfl _ _ _ _ _ rfl (b.out.blk 1 rfl) underlying79 rfl (by rw[f.out.sz];kernel_rfl)) rfl ⟨_,rfl,o.out.new b.out.nw,b.out.nw⟩
 ·have g:s.broken=false:=by simpa using d
  have n:s.gen=4294967295:=m.resolve_left d;have i:bm s=(s,9):=by unfold bm;rw[if_neg d,if_pos n]
  rw[i];rw[g,n]at e;clear i m d g n;subst e
  go_enter func36,ntmps36
  go_wp2_with (first
   |(refine dJ b.out rfl rfl rfl dx f.out (by decide) ?_;clear b;intro k p b)
   |(refine bW b.out rfl rfl dx zS (by decide) ?_;clear b;intro k b2 b)
   |((with_reducible refine aA ⟨_,.load 4 _,_,_,_,_⟩ ?_);refine aR 0 b.out rfl rfl rfl rfl underlying4 rfl l.out.c.2.2 ?_)
   |((with_reducible refine aA ⟨_,.load 44 _,_,_,_,_⟩ ?_);refine aR 0 b.out rfl rfl rfl rfl underlying44 rfl l.out.c.2.1 ?_)
   |(refine bh 0 b.out rfl rfl rfl rfl rfl ?_)
   |((with_reducible refine aA ⟨_,.store 79 _ _,_,_,_,_⟩ ?_);refine bj 1 b.out rfl rfl rfl rfl rfl rfl f.out dx ?_;clear b;intro k b))
  exact bodyPost_ret (aI rfl _ _ _ _ _ rfl (b.out.blk 1 rfl) underlying79 rfl (by rw[f.out.sz];kernel_rfl)) rfl ⟨_,rfl,o.out.new b.out.nw,b.out.nw⟩
theorem At{D0:Nat}{w:World}{s:SW}{m:Nat}{Z:Array Value}(h:pA D0 w s m Z)(hT:jw s.t)(h4:4≤s.p.size)(hg:s.gen<4294967296)(hm:s.t.length≤1000000)(ht:m+(hlf s.p.size+1)*(hlf s.p.size+1)≤50000)(hL:cM 3 1 w):
    Calls prog 36 #[.agg Z] w (nJ D0 (bm s) (m+(hlf s.p.size+1)*(hlf s.p.size+1)) w):=by
 by_cases j':s.broken=true∨s.gen=4294967295
 ·refine(rX h j').mono ?_;rintro e w' ⟨Z',he,⟨⟨X,Y,A,c,T,e',h1,h2⟩,h3⟩,C⟩;exact⟨Z',he,⟨⟨X,Y,A,c,T,e',h1.up (by omega),h2⟩,h3⟩,C⟩
 have l1:s.broken=false:=by
  cases hb:s.broken with
  |false=>rfl
  |true=>exact absurd (.inl hb) j'
 have o3:s.gen≠4294967295:=fun e=>j' (.inr e)
 obtain⟨X,Y,A,c0,T,e,hD,k5,k9,l7,hS⟩:=h.ex;have k8:=k9.tb;have n7:=Ld k9;have t:Hid (cG X Y):=Ld ⟨hD.row,k5.row⟩;have HZ:=Ld h.row;have o7:=hD.ok.s2;obtain⟨g1,j2⟩:=nm (s.gen+1);have U:g1<4294967296:=by omega
 have e1:IntKind.u32.wrap ((s.gen:Int)+1)=(g1:Int):=by rw[IntKind.wrap_u32];omega
 have I:=eO (g:=g1) h4;obtain⟨fs,j1⟩:=nm (fH g1 s.p.size);obtain⟨hl,g5⟩:=nm (hlf s.p.size);rw[←j1,←g5]at I;rw[←g5]at ht⊢;have o8:m≤50000:=Nat.le_trans (Nat.le_add_right _ _) ht
 have n1:Hid (∀W,bQ W s.p m X→Calls prog 73 #[.agg X,.int .u32 g1] W fun e w'=>e=.returned (.tuple #[.int .i64 fs,.int .i64 hl])∧aa W w'):=Ld fun W hd=>by
  have h1:=oP hd (by omega) g1;rw[←j1,←g5]at h1;exact h1
 obtain⟨p1,j5⟩:=nm (az s.p (bP fs hl g1)).1;obtain⟨c1,l3⟩:=nm (az s.p (bP fs hl g1)).2
 have V:Hid (∀W,bQ W s.p m X→Calls prog 74 #[.agg X,.int .i64 fs,.int .i64 hl,.int .u32 g1] W fun e w'=>∃X' Y',e=.returned (.tuple #[.agg X',.agg Y',.int .i64 c1])∧bQ w' p1 (m+hl) X'∧iL 6 Y'∧CK c1 (bP fs hl g1) Y' w'∧aa W w'):=Ld fun W hd=>by
  rw[j5,l3];exact tN hd o8 fs hl g1 I.1 I.2.1 U (by omega)
 have i':p1.size=s.p.size:=by rw[j5];exact(iw hD.ok (eS I.2.1 U) (show(bP fs hl g1).gen≠0 from(by show g1≠0;omega))).2
 obtain⟨bs,l2⟩:=nm ((jb s.t).map ba);obtain⟨A0,k0⟩:=nm (vP s);have o5:aS s.p.size (s.gen+1)=bP fs hl g1:=by rw[j1,g5,j2];rfl
 have j6:Hid ((c1≠0→A0=(p1,bP fs hl g1,c1))∧(c1=0→A0=dY p1 (bP fs hl g1) bs)):=Ld (by
  rw[k0];unfold vP;rw[o5,←j5,←l3,←l2]
  exact⟨fun h=>if_pos h,fun h=>if_neg (by simpa using h)⟩)
 have j7:Hid (∀W,aa w W→Calls prog 80 #[.slice A T.length c0] W fun e w'=>∃A' v c' R,e=.returned (.slice A' v c')∧iG W.heap.size w' A' v R∧yU T bs v R∧aa W w'):=Ld fun W C=>by rw[l2];exact Aj k8 l7 hS hT hm W C
 have d':=Ld (And.intro k8 hS);have m8:=Ld l7;have HL:=Ld hL;obtain⟨F,hF⟩:=nm (bm s);obtain⟨T0,k7⟩:=nm (m+(hl+1)*(hl+1));rw[←hF,←k7];have p5:=Ld k7
 have n6:Hid (F=if(dt s).2.2≠0 then({s with p:=(dt s).1,broken:=gh (dt s).2.2},(dt s).2.2)else({s with p:=(dt s).1,l:=(dt s).2.1,gen:=s.gen+1},0)):=Ld (by
  rw[hF];unfold bm
  rw[if_neg (by rw[l1];simp),if_neg o3])
 have m3:Hid (∀q l c,A0=(q,l,c)→dt s=if c≠0 then(q,l,c)else if q.scode≠0 then(q.doSync,l,q.scode)else((bS q.doSync g1).1,l,(bS q.doSync g1).2)):=Ld fun q l c h=>by
  rw[j2];exact Bh s (k0▸h)
 have d:Hid (Bx prog bT w w [] (fun w=>bQ w s.p m X∧iE w s.l Y)):=Ld (Bx.start ⟨hD,k5⟩ ((bN _ _ _).and (gW _ _)));have H:Hid (m+hl≤50000∧p1.size=s.p.size∧(bP fs hl g1).Ok s.p.size∧m+(hl+1)*(hl+1)≤50000∧s.l.Ok s.p.size∧s.p.size≤16384∧g1=s.gen+1∧g1<4294967296):=Ld ⟨by have:hl≤(hl+1)*(hl+1):=Nat.le_trans (Nat.le_succ _) (Nat.le_mul_of_pos_right _ (by omega));omega,i',eS I.2.1 U,ht,h.ok,o7,j2,U⟩;have g4:¬(s.gen:Int)=4294967295:=by omega
 have l8:((s.gen:Int)==4294967295)=false:=by simpa using g4
 have p':=Ld l1;rw[l1]at e;clear h hT h4 hg hm ht hL j' o3 hD k5 k8 k9 l7 hS o7 j2 U I j1 g5 o8 j5 l3 i' l2 k0 o5 hF k7;obtain⟨gen,b9⟩:=nm s.gen;rw[←b9]at e e1 g4 l8;obtain⟨n,hn⟩:=nm T.length;rw[←hn]at e j7;have j8:=Ld (And.intro b9 hn);clear b9 hn;subst e
 go_enter func36,ntmps36
 go_upto_region 8 with (first
  |(refine dJ d.out rfl rfl rfl dx HZ.out (by decide) ?_;clear d;intro w1 b1 d)
  |(refine bW d.out rfl rfl dx zS (by decide) ?_;clear d;intro w1 b2 d)
  |((with_reducible refine aA ⟨_,.load 4 _,_,_,_,_⟩ ?_);refine aR 0 d.out rfl rfl rfl rfl underlying4 rfl t.out.c.2.2 ?_)
  |((with_reducible refine aA ⟨_,.load 44 _,_,_,_,_⟩ ?_);refine aR 0 d.out rfl rfl rfl rfl underlying44 rfl t.out.c.2.1 ?_)
  |((with_reducible refine aA ⟨_,.load 77 _,_,_,_,_⟩ ?_);refine aR 0 d.out rfl rfl rfl rfl underlying77 rfl t.out.c.1 ?_)
  |((with_reducible refine aA ⟨_,.load 65 _,_,_,_,_⟩ ?_);refine EI 0 d.out rfl rfl rfl rfl t.out.x cH t.out.d ?_)
  |(go_at_call 73;refine(n1.out _ d.out.r.1).mono ?_;rintro e w3 ⟨rfl,C⟩;have hB:=d.out.new C;clear d C;have d:=Ld hB;clear hB)
  |(go_at_call 74;refine(V.out _ d.out.r.1).mono ?_;rintro e w4 ⟨X1,Y1,rfl,k2,g3,n9,C⟩;have f:=Ld k2.row;have u:=Ld g3;have hB:=(d.out.call (R':=fun w=>bQ w p1 (m+hl) X1∧CK c1 (bP fs hl g1) Y1 w) C ⟨k2,n9⟩ ((bN _ _ _).and (mI _ _ _))).rel (R':=fun w=>bQ w p1 (m+hl) X1∧(iE w s.l Y∧CK c1 (bP fs hl g1) Y1 w)) (fun h=>⟨h.2.1,h.1.2,h.2.2⟩) ((bN _ _ _).and ((gW _ _).and (mI _ _ _)));clear d C k2 g3 n9;have d:=Ld hB;clear hB)
  |(refine bW d.out rfl rfl cH zR (by decide) ?_;clear d;intro w1 b6 d)
  |(refine bW d.out rfl rfl ig zL (by decide) ?_;clear d;intro w1 b7 d)
  |((with_reducible refine aA ⟨_,.store 65 _ _,_,_,_,_⟩ ?_);refine bj 2 d.out rfl rfl rfl rfl rfl rfl f.out cH ?_;clear d;intro w1 d)
  |((with_reducible refine aA ⟨_,.store 75 _ _,_,_,_,_⟩ ?_);refine bj 3 d.out rfl rfl rfl rfl rfl rfl u.out ig ?_;clear d;intro w1 d)
  |(go_at_call 80;refine(j7.out _ d.out.nw).mono ?_;rintro e w5 ⟨A',v,c',R,rfl,j0,o6,C⟩;obtain⟨D,j0,g8⟩:∃D,iG D w5 A' v R∧∀B∈_,mP.b B<D:=⟨_,j0,d.out.bx.lt⟩;have J:=Ld j0;have c5:=Ld o6;have j9:=Ld g8;have hB:=d.out.new C;clear d C j0 o6 g8;have d:=Ld hB;clear hB))
 have m9:Hid (Fo w (eM X Y (.slice A n c0) (.int .u32 gen) (.bool false)) Y s.l b1 b2 b6 b7 A0 bs hl (m+hl) s.p.size D A' v R 0 c1 w5):=Ld ⟨⟨p1,bP fs hl g1,X1,Y1,m+hl,d.out,u.out,H.out.2.2.1,H.out.2.1,rfl,fun h=>⟨j6.out.2 h,by omega⟩,j6.out.1,by omega⟩,J.out⟩;have b3:Hid (b6<D∧b7<D):=Ld ⟨j9.out ⟨b6,65,X1⟩ (by simp),j9.out ⟨b7,75,Y1⟩ (by simp)⟩;clear d J f u j6 j9 n1 V j7
 go_wp2_with fail
 go_loopw [8,10] (fun cv i wr=>∃(k:Nat) (c:Int),k≤v∧i=.int .i64 k∧cv=.int .i64 c∧Hid (Fo w (eM X Y (.slice A n c0) (.int .u32 gen) (.bool false)) Y s.l b1 b2 b6 b7 A0 bs hl (m+hl) s.p.size D A' v R k c wr)) (fun _ i _=>v-(intOf i).toNat)
 case atStart=>exact⟨0,c1,Nat.zero_le _,rfl,rfl,m9⟩
 case round=>
  clear m9;obtain⟨k,c,hk,rfl,rfl,HI⟩:=hrel;obtain⟨q,l,X1,Y1,E,hB,g3,c9,N,g7,b8,k1,o9⟩:=HI.out.ex;have J:=Ld HI.out.bt;have d:=Ld hB;have f:Hid (iL 5 X1):=Ld hB.r.1.row;have u:=Ld g3;clear HI
  by_cases j3:k<v∧c=0
  ·obtain ⟨g8,rfl⟩:=j3;have n0:=Ld g8;have q9:=c5.out.n;have p9:(k:Int)<(v:Int):=by omega
   have q8:(0:Int)≤(k:Int):=by omega
   obtain⟨ga,o,o4,rfl,b'⟩:=J.out.at g8;obtain⟨x,hx⟩:=nm R[k];rw[←hx]at b';have m2:x∈R:=by rw[hx];exact List.getElem_mem _
   obtain⟨q7,q6,i7,i6⟩:=c5.out.el x m2;obtain⟨b,hb⟩:=nm (bR x.L);have o2:bs[k]?=some b:=by rw[c5.out.bs,List.getElem?_map,List.getElem?_eq_getElem o4,←hx,hb];rfl
   rw[←hb]at i7 i6;have c6:=xq o2 (q:=q) (l:=l);rw[←(b8 rfl).1]at c6;have f':=H.out;have m':l.used*hl≤hl*hl:=Nat.mul_le_mul_right _ (by rw[←g7];exact c9.used);have q4:(hl+1)*hl=hl*hl+hl:=Nat.succ_mul _ _;have q1:(hl+1)*(hl+1)=(hl+1)*hl+(hl+1):=Nat.mul_succ _ _;have i5:E≤50000:=by have:=(b8 rfl).2;omega
   have n2:Hid (∀W,aa wr W→Calls prog 82 #[.slice x.A x.n x.c] W fun e w'=>∃A2 c2,e=.returned (.slice A2 b.length c2)∧Rd (fun _=>True) w' 1 A2 b.length (am b)∧aa W w'):=Ld fun W C=>by rw[hb];exact tP d'.out.2 J.out c5.out (fun y hy=>Ch.In.szs ((d'.out.1.el y hy).new d.out.nw)) m2 W C
   have g9:=Dh d.out.r.1.ok (by rw[N];exact c9) i7.2 (x:=b);have c4:=uu q l b;have b0:=yZ (q:=q) (l:=l) (b:=b);obtain⟨q',i0⟩:=nm (aD q l b).1;obtain⟨l',g6⟩:=nm (aD q l b).2.1;obtain⟨c',c7⟩:=nm (aD q l b).2.2
   have m4:Hid (∀W A2 c2,bQ W q E X1→iE W l Y1→aa w W→Rd (fun _=>True) W 1 A2 b.length (am b)→Calls prog 81 #[.agg X1,.agg Y1,.slice A2 b.length c2] W fun e w'=>∃X' Y',e=.returned (.tuple #[.agg X',.agg Y',.int .i64 c'])∧bQ w' q' (E+hl) X'∧iE w' l' Y'∧aa W w'):=Ld fun W A2 c2 hd p8 C hR=>by
    have h0:=DO hd i5 p8 (by rw[N];exact c9) (HL.out.new C) A2 b.length c2 b hR i7.2 (by unfold maxLen;omega);unfold qW at h0;rw[←i0,←g6,←c7,g7]at h0;exact h0
   rw[←i0]at g9;rw[←g6]at g9 c4 b0;rw[←c7]at b0
   have n5 : Hid (l'.Ok s.p.size ∧ q'.size = s.p.size ∧ l'.size = hl ∧ (c' = 0 → A0 = dY q' l' (bs.drop (k + 1)) ∧ E + hl ≤ m + hl + l'.used * hl) ∧ (c' ≠ 0 → A0 = (q', l', c')) ∧ E + hl ≤ m + hl + (hl + 1) * hl) := Ld ⟨by rw [← N]; exact g9.2.2, by rw [g9.2.1, N], by rw [c4, g7], fun h0 => ⟨by
       rw[←c7,if_neg (by simpa using h0),←i0,←g6]at c6;exact c6,by
       have h1:=b0 h0;have h2:l'.used=l.used+ay b.length:=by rw[h1];rfl
       have h3:(l.used+1)*hl≤l'.used*hl:=Nat.mul_le_mul_right _ (by have:=i7.1;omega);have h4:(l.used+1)*hl=l.used*hl+hl:=Nat.succ_mul _ _;have:=(b8 rfl).2
       omega⟩,fun h0=>by
       rw[←c7,if_pos h0]at c6
       rw[c6,i0,g6,c7],by have:=(b8 rfl).2;omega⟩
   clear g9 c4 b0 i0 g6 c7 c6 o2 m' q4 q1 i5 q7 q6 i7 i6 m2 hb hx o4 f' o9 b8 k1 g7 N c9 g3
   go_upto_region 11 with fail
   obtain⟨S,hS⟩:∃S:World→Prop,∀w',S w'↔(Bx prog bT w w' [⟨b1,79,eM X Y (.slice A n c0) (.int .u32 gen) (.bool false)⟩,⟨b2,79,EP⟩,⟨b6,65,X1⟩,⟨b7,75,Y1⟩] (fun w=>bQ w q E X1∧(iE w s.l Y∧CK 0 l Y1 w))∧aa wr w'):=⟨_,fun _=>Iff.rfl⟩
   have q5:∀p:HW S,p.w.cell? ⟨ga,o+k,none⟩=some (.slice x.A x.n x.c):=fun p=>((hS _).1 p.h).2.cell_ b'
   have m0:Nonempty (HW S):=⟨⟨wr.drew,(hS _).2 ⟨d.out.new (aa.dr (aa.refl _)),aa.dr (aa.refl _)⟩⟩⟩
   refine jZ S [.take 0,.take 1,.pur 2,.pur 3,.pur 4,.take 5,.act 6,.act 7,.pur 8,.pur 9,.pur 10,.pur 11] 12 [(false,13),(true,14)] (by kernel_rfl) (by kernel_rfl) ((hS _).2 ⟨d.out.new (aa.dr (aa.refl _)),aa.dr (aa.refl _)⟩) ?_;refine ov 2 (fun w' h=>((hS w').1 h).1) rfl rfl rfl rfl rfl rfl (by rw[f.out.sz];exact cH) ?_;refine ov 3 (fun w' h=>((hS w').1 h).1) rfl rfl rfl rfl rfl rfl (by rw[u.out.sz];exact ig) ?_;simp only[Act.put,bK,bM,bO]
   iterate 3 (refine lI (o:=.mk ..) rfl (fun K z=>?_);go_simp;refine z _ ?_;clear z K)
   refine xP (o:=.mk ..) rfl (fun K z=>?_);go_simp;refine z _ ?_;clear z K q5 m0;refine lH (o:=.mk ..) rfl rfl (fun K z=>?_);go_simp;refine(n2.out _ (aa.dr (aa.refl _))).mono ?_;rintro e w6 ⟨A2,d2,rfl,o1,o0⟩;have P:Hid (aa wr w6):=Ld ((aa.dr (aa.refl _)).tr o0);have n3:=Ld o1;go_simp;refine z.out _ _ ((hS _).2 ⟨d.out.new P.out,P.out⟩) ?_;clear z K o0 o1 n2;refine lH (o:=.mk ..) rfl rfl (fun K z=>?_);go_simp;refine(m4.out _ _ _ (d.out.new P.out).r.1 ((d.out.new P.out).r.2.2 rfl) (d.out.new P.out).nw n3.out).mono ?_;rintro e w7 ⟨X2,Y2,rfl,k3,k4,k6⟩;have n8:=Ld k3.row;have k':=Ld k4.row;have i9:Hid (aa wr w7):=Ld (P.out.tr k6);have m5:=Ld (((d.out.new P.out).call (R':=fun w=>bQ w q' (E+hl) X2∧CK c' l' Y2 w) k6 ⟨k3,fun _=>k4⟩ ((bN _ _ _).and (mI _ _ _))).rel (R':=fun w=>bQ w q' (E+hl) X2∧(iE w s.l Y∧CK c' l' Y2 w)) (fun h=>⟨h.2.1,h.1.2.1,h.2.2⟩) ((bN _ _ _).and ((gW _ _).and (mI _ _ _))));go_simp;refine z.out _ _ ((hS _).2 ⟨d.out.new i9.out,i9.out⟩) ?_;clear z K k6 k3 k4 m4 d n3 P
   iterate 4 (refine lI (o:=.mk ..) rfl (fun K z=>?_);go_simp;refine z _ ?_;clear z K)
   refine qq (o:=.mk ..) rfl (fun K z=>?_);refine fb 2 m5.out rfl rfl rfl rfl rfl rfl n8.out cH ?_;intro w8 m6 F8;simp only[Act.put,bK,bM,bO];refine z.out _ _ ?_;clear z K m5;have m0:Nonempty (HW fun _:World=>True):=⟨⟨w8,trivial⟩⟩
   refine aj (o:=.mk ..) rfl (fun K z=>?_) (.inl rfl);refine fb 3 m6.out rfl rfl rfl rfl rfl rfl k'.out ig ?_;intro w9 m7 F9;simp only[Act.put,bK,bM,bO];refine z.out _ _ (fun _=>trivial) ?_;clear z K m6;refine ae (o:=.mk ..) rfl (fun K z=>?_);go_simp;refine z _ ?_;clear z K;refine ao ?_;clear m0;have p2:Hid (Fo w (eM X Y (.slice A n c0) (.int .u32 gen) (.bool false)) Y s.l b1 b2 b6 b7 A0 bs hl (m+hl) s.p.size D (some ⟨ga,o,none⟩) v R (k+1) c' w9):=Ld ⟨⟨q',l',X2,Y2,E+hl,m7.out,k'.out,n5.out⟩,((J.out.fr (i9.out.toFr ia) (fun _ x=>x.elim)).fr F8.out (fun j hj=>by rw[show j=b6 from hj];exact b3.out.1)).fr F9.out (fun j hj=>by rw[show j=b7 from hj];exact b3.out.2)⟩;clear m7 n5 F8 F9 J n8 k' i9 hS b' f u
   go_wp2_with fail
   go_roundw
   case rel=>exact⟨k+1,c',n0.out,by go_num,rfl,p2⟩
   case measure=>simp[intOf];have:=n0.out;omega
  ·have HA:Hid (A0=(q,l,c)):=Ld (by
    by_cases h0:c=0
    ·have p7:k=v:=by
      have:¬k<v:=fun h=>j3 ⟨h,h0⟩
      omega
     rw[(b8 h0).1,p7,h0,List.drop_of_length_le (by rw[c5.out.bs,List.length_map,J.out.len];exact Nat.le_refl _)];rfl
    ·exact k1 h0)
   have f':=H.out
   have i4:E≤49999∧E+1≤T0:=by
    rw[p5.out];have e:(hl+1)*(hl+1)=(hl+1)*hl+(hl+1):=Nat.mul_succ _ _;omega
   obtain⟨c2,l4⟩:=nm q.scode;obtain⟨q2,i1⟩:=nm q.doSync;obtain⟨c3,l5⟩:=nm (bS q2 g1).2;obtain⟨q3,i3⟩:=nm (bS q2 g1).1;have G:=m3.out q l c HA.out;rw[←l4,←i1,←l5,←i3]at G;have M:=n6.out;have p4:Hid (∀W,bQ W q E X1→Calls prog 72 #[.agg X1] W (fI q2 E c2 W)):=Ld fun W hd=>by rw[l4,i1];exact rY hd (by omega)
   have p3:Hid (∀W X,bQ W q2 E X→cM 3 1 W→Calls prog 75 #[.agg X,.int .u32 g1] W (fI q3 (E+1) c3 W)):=Ld fun W X hd hL=>by rw[l5,i3];exact wR hd (by omega) g1 f'.2.2.2.2.2.2.2 hL
   have m1:(bS q2 g1).1.size=s.p.size:=by
    have e:(bS q2 g1).1.size=q2.size:=by
     unfold bS;split
     ·exact DP.doWrite_size _ _ _
     ·show((q2.doWrite _ _).doSync).size=_;rw[DP.doSync_size,DP.doWrite_size]
    rw[e,i1,DP.doSync_size,N]
   have i2:q2.size=s.p.size:=by rw[i1,DP.doSync_size,N]
   have O:Hid ((c≠0→F=({s with p:=q,broken:=gh c},c))∧(c=0→c2≠0→F=({s with p:=q2,broken:=gh c2},c2))∧(c=0→c2=0→c3≠0→F=({s with p:=q3,broken:=gh c3},c3))∧(c=0→c2=0→c3=0→F=({s with p:=q3,l:=l,gen:=s.gen+1},0))):=Ld (by
    refine⟨fun h0=>?_,fun h0 h1=>?_,fun h0 h1 h2=>?_,fun h0 h1 h2=>?_⟩
    ·rw[if_pos h0]at G;rw[G,if_pos h0]at M;exact M
    ·rw[if_neg (by simpa using h0),if_pos h1]at G;rw[G,if_pos h1]at M;exact M
    ·rw[if_neg (by simpa using h0),if_neg (by simpa using h1)]at G;rw[G,if_pos h2]at M;exact M
    ·rw[if_neg (by simpa using h0),if_neg (by simpa using h1)]at G;rw[G,if_neg (by simpa using h2)]at M
     exact M)
   have V:Hid (∀(w':World) (qf:DP) (cf:Int) (Xf:Array Value) (tf:Nat),cf≠0→F=({s with p:=qf,broken:=gh cf},cf)→bQ w' qf tf Xf→tf≤T0→qf.size=s.p.size→iE w' s.l Y→aa w w'→nJ D0 F T0 w (.returned (.tuple #[.agg (eM Xf Y (.slice A n c0) (.int .u32 gen) (.bool (gh cf))),.int .i64 cf])) w'):=Ld fun w' qf cf Xf tf h0 hf hd ht q0 hl C=>by
    rw[hf];exact⟨_,rfl,⟨⟨Xf,Y,A,c0,T,by rw[j8.out.1,j8.out.2],hd.up ht,hl,n7.out.new C,m8.out,d'.out.2⟩,by show s.l.Ok qf.size;rw[q0];exact H.out.2.2.2.2.1⟩,C⟩
   have p0:Hid (∀(w':World) (Xf:Array Value) (tf:Nat),F=({s with p:=q3,l:=l,gen:=s.gen+1},0)→bQ w' q3 tf Xf→tf≤T0→iE w' l Y1→aa w w'→nJ D0 F T0 w (.returned (.tuple #[.agg (eM Xf Y1 (.slice A n c0) (.int .u32 g1) (.bool false)),.int .i64 0])) w'):=Ld fun w' Xf tf hf hd ht hl C=>by
    rw[hf];exact⟨_,rfl,⟨⟨Xf,Y1,A,c0,T,by rw[j8.out.2,f'.2.2.2.2.2.2.1,p'.out],hd.up ht,hl,n7.out.new C,m8.out,d'.out.2⟩,by show l.Ok q3.size;rw[i3,m1];exact c9⟩,C⟩
   have p6:(k<v∧c≠0)∨(¬k<v∧c≠0)∨(¬k<v∧c=0∧c2≠0)∨(¬k<v∧c=0∧c2=0∧c3≠0)∨(¬k<v∧c=0∧c2=0∧c3=0):=by
    by_cases c8:k<v
    ·exact .inl ⟨c8,fun h=>j3 ⟨c8,h⟩⟩
    ·by_cases h0:c=0
     ·by_cases h1:c2=0
      ·by_cases h2:c3=0
       ·exact .inr (.inr (.inr (.inr ⟨c8,h0,h1,h2⟩)))
       ·exact .inr (.inr (.inr (.inl ⟨c8,h0,h1,h2⟩)))
      ·exact .inr (.inr (.inl ⟨c8,h0,h1⟩))
     ·exact .inr (.inl ⟨c8,h0⟩)
   have L:Hid (q.size=s.p.size∧q2.size=s.p.size∧q3.size=s.p.size∧E≤T0∧E+1≤T0):=Ld ⟨N,i2,by rw[i3];exact m1,by omega,i4.2⟩;clear j3 b8 k1 o9 g7 N c9 f' i4 l4 i1 l5 i3 G M m1 i2 HA J m3 n6 H d' c5 b3;rcases p6 with⟨h,h0⟩|⟨h,h0⟩|⟨h,rfl,h0⟩|⟨h,rfl,rfl,h0⟩|⟨h,rfl,rfl,rfl⟩
   focus
    have j4:(k:Int)<(v:Int):=by omega
    have l9:(c==0)=false:=by simpa using h0
   rotate_left
   focus
    have j4:¬(k:Int)<(v:Int):=by omega
    have l9:(c==0)=false:=by simpa using h0
   rotate_left
   focus
    have j4:¬(k:Int)<(v:Int):=by omega
    have l9:(c2==0)=false:=by simpa using h0
   rotate_left
   focus
    have j4:¬(k:Int)<(v:Int):=by omega
    have l9:(c3==0)=false:=by simpa using h0
   rotate_left
   focus
    have j4:¬(k:Int)<(v:Int):=by omega
   rotate_left
   all_goals
    go_wp2_with (first
    |(refine bh 2 d.out rfl rfl rfl rfl rfl ?_)
    |(refine bh 3 d.out rfl rfl rfl rfl rfl ?_)
    |(refine bh 0 d.out rfl rfl rfl rfl rfl ?_)
    |((with_reducible refine aA ⟨_,.load 44 _,_,_,_,_⟩ ?_);refine aR 0 d.out rfl rfl rfl rfl underlying44 rfl t.out.c.2.1 ?_)
    |((with_reducible refine aA ⟨_,.load 44 _,_,_,_,_⟩ ?_);refine aR 0 d.out rfl rfl rfl rfl underlying44 rfl (cG.c ⟨f.out,u.out⟩).2.1 ?_)
    |(go_at_call 72;refine(p4.out _ d.out.r.1).mono ?_;intro e w6 hs;have hb:=d.out.dks hs (fun _ h=>h.2) ((gW _ _).and (mI _ _ _));clear d hs f;obtain⟨X1,rfl,f,d⟩:=hb)
    |(go_at_call 75;refine(p3.out _ _ d.out.r.1 (HL.out.new d.out.nw)).mono ?_;intro e w6 hs;have hb:=d.out.dks hs (fun _ h=>h.2) ((gW _ _).and (mI _ _ _));clear d hs f;obtain⟨X1,rfl,f,d⟩:=hb)
    |(go_at_call 83;refine(tJ _ _).mono ?_;rintro e w6 ⟨rfl,rfl⟩)
    |((with_reducible refine aA ⟨_,.store 65 _ _,_,_,_,_⟩ ?_);refine bj 2 d.out rfl rfl rfl rfl rfl rfl f.out cH ?_;clear d;intro w1 d)
    |((with_reducible refine aA ⟨_,.store 65 _ _,_,_,_,_⟩ ?_);refine CV 0 d.out rfl rfl rfl rfl rfl f.out cH (by rw[t.out.size];decide) (t.out.setD f.out) ?_;clear d;intro w1 d)
    |((with_reducible refine aA ⟨_,.store 75 _ _,_,_,_,_⟩ ?_);refine CV 0 d.out rfl rfl rfl rfl rfl u.out ig (by rw[cG.size ⟨f.out,t.out.y⟩];decide) (cG.setL ⟨f.out,t.out.y⟩ u.out) ?_;clear d;intro w1 d)
    |((with_reducible refine aA ⟨_,.store 4 _ _,_,_,_,_⟩ ?_);refine tZ 0 d.out rfl rfl rfl rfl rfl rfl rfl (by kernel_rfl) (by rw[cG.size ⟨f.out,t.out.y⟩];decide) (cG.set ⟨f.out,t.out.y⟩ _).2.2 ?_;clear d;intro w1 d)
    |((with_reducible refine aA ⟨_,.store 44 _ _,_,_,_,_⟩ ?_);refine tZ 0 d.out rfl rfl rfl rfl rfl rfl rfl (by kernel_rfl) (by rw[cG.size ⟨f.out,u.out⟩];decide) (cG.set ⟨f.out,u.out⟩ _).2.1 ?_;clear d;intro w1 d)
    |((with_reducible refine aA ⟨_,.store 79 _ _,_,_,_,_⟩ ?_);refine bj 1 d.out rfl rfl rfl rfl rfl rfl (cG.row ⟨f.out,t.out.y⟩ rfl rfl rfl) dx ?_;clear d;intro w1 d)
    |((with_reducible refine aA ⟨_,.store 79 _ _,_,_,_,_⟩ ?_);refine bj 1 d.out rfl rfl rfl rfl rfl rfl (cG.row ⟨f.out,u.out⟩ rfl rfl rfl) dx ?_;clear d;intro w1 d))
    first
     |refine bodyPost_ret (aI rfl _ _ _ _ _ rfl (d.out.blk 1 rfl) underlying79 rfl (by rw[cG.size ⟨f.out,t.out.y⟩];kernel_rfl)) rfl ?_
     |refine bodyPost_ret (aI rfl _ _ _ _ _ rfl (d.out.blk 1 rfl) underlying79 rfl (by rw[cG.size ⟨f.out,u.out⟩];kernel_rfl)) rfl ?_
   ·exact V.out _ q c _ E h0 (O.out.1 h0) d.out.r.1 L.out.2.2.2.1 L.out.1 d.out.r.2.1 d.out.nw
   ·exact V.out _ q c _ E h0 (O.out.1 h0) d.out.r.1 L.out.2.2.2.1 L.out.1 d.out.r.2.1 d.out.nw
   ·exact V.out _ q2 c2 _ E h0 (O.out.2.1 (by simp) h0) d.out.r.1 L.out.2.2.2.1 L.out.2.1 d.out.r.2.1 d.out.nw
   ·exact V.out _ q3 c3 _ (E+1) h0 (O.out.2.2.1 (by simp) (by simp) h0) d.out.r.1 L.out.2.2.2.2 L.out.2.2.1 d.out.r.2.1 d.out.nw
   ·exact p0.out _ _ (E+1) (O.out.2.2.2 (by simp) (by simp) (by simp)) d.out.r.1 L.out.2.2.2.2 (d.out.r.2.2 rfl) d.out.nw
end Go.Proofs.YtfchcdbfalgdlaaGreatDoor
