/- Texts of one proof. No condition but each one's own. -/
import Derived.Test.YtfchcdbfalgdlaaGreatDoorSweepPlaysM37
import Derived.Test.YtfchcdbfalgdlaaGreatDoorSweepPlaysM38
set_option maxHeartbeats 4000000
set_option maxRecDepth 100000
set_option linter.unusedVariables false
set_option linter.unusedSimpArgs false
namespace Go.Proofs.YtfchcdbfalgdlaaGreatDoor
open _root_.Go.Proofs.Tryz
open Go.RowKit Go.Sort
theorem Gj{X:Array Value}(h:jy 5 X):prog.built 79 [(0,.agg X)]=some (eE X qL (.slice none 0 0) (.int .u32 0) (.bool false)):=by
 obtain⟨a,b,c,d,e,rfl⟩:=h.five
 kernel_rfl
theorem GY{X Y:Array Value}(h:bi X Y)(g:Nat):prog.built 79 [(0,.agg X),(1,.agg Y),(3,.int .u32 g)]=some (eE X Y (.slice none 0 0) (.int .u32 g) (.bool false)):=by
 obtain⟨a,b,c,d,e,rfl⟩:=h.x.five;obtain⟨f,i,j,k,l,n,rfl⟩:=h.y.six
 kernel_rfl
section
variable {P:Program}{ops:Array Oper}{rest:List Oper}{o:Oper}{a:Act}{w:World}{Q:Exit->Act->World->Prop}{t:TypeId}{cells:Array Value}
theorem AY{k:Nat}{x:Operand}{v:Value}(c:o.op=.build t #[(k,x)])(d:Region.wanted o (yielded ops a.tmps)=true)(f:a.eval x=v)(b:P.built t [(k,v)]=some cells)(h:wpList P ops Q rest (a.put o.dst (.agg cells)) w):wpList P ops Q (o::rest) a w:=by
 subst f;exact jS d t [(k,x)] c _ rfl cells b h
theorem AZ{k d f:Nat}{x g i:Operand}{v j v3:Value}(n:o.op=.build t #[(k,x),(d,g),(f,i)])(p:Region.wanted o (yielded ops a.tmps)=true)(q:a.eval x=v)(b:a.eval g=j)(c:a.eval i=v3)(l:P.built t [(k,v),(d,j),(f,v3)]=some cells)(h:wpList P ops Q rest (a.put o.dst (.agg cells)) w):wpList P ops Q (o::rest) a w:=by
 subst q b c;exact jS p t [(k,x),(d,g),(f,i)] n _ rfl cells l h
end
section
variable {P:Program}{T:List TypeId}{w0 w:World}{L:List nP}{R:World->Prop}{B:nP}{ops:Array Oper}{rest:List Oper}{o:Oper}{a:Act}{Q:Exit->Act->World->Prop}{t:TypeId}{x y:Operand}{X Z:Array Value}{off:Nat}
theorem FQ(i:Nat){v:Value}(H:Bx P T w0 w L R)(f:o.op=.store t x y)(l:Region.wanted o (yielded ops a.tmps)=true)(hi:L[i]?=some B)(n:a.eval x=.pointer (some ⟨B.b,off,none⟩))(p:a.eval y=v)(j:v.cells= #[v])(h1:v.oneCell'=true)(g:(P.info? t).map (·.size)=some 1)(hl:off<B.x.size)(hz:ju B.x off #[v]=Z)
    (h:∀w',Hid (Bx P T w0 w' (L.set i ⟨B.b,B.t,Z⟩) R)->Hid (Fr (λk=>k=B.b) w w')->wpList P ops Q rest (a.put o.dst undef) w'):wpList P ops Q (o::rest) a w:=by
 subst hz;refine cH l λK d=>?_
 obtain⟨w',b,q,c⟩:=lE (P:=P) j h1 (H.blk i hi) hl g;unfold Oper.wp execOp;simp only[f,n,p,Sem.run_bind,b,Result.andThen_ok,Sem.run_pure];exact d _ _ (h w' (Ld (H.set hi q (by simp[ju,splice];omega) c)) (Ld c))
theorem Er(i:Nat){n:Nat}(H:Bx P T w0 w L R)(j:o.op=.store t x y)(p:Region.wanted o (yielded ops a.tmps)=true)(hi:L[i]?=some B)(q:a.eval x=.pointer (some ⟨B.b,0,none⟩))(ht:B.t=t)(r:a.eval y=.agg X)(c:jy n X)(l:gg P t n)
    (h:∀w',Hid (Bx P T w0 w' (L.set i ⟨B.b,B.t,X⟩) R)->Hid (Fr (λk=>k=B.b) w w')->wpList P ops Q rest (a.put o.dst undef) w'):wpList P ops Q (o::rest) a w:=by
 have hz:=EQ i H hi ht c l;subst ht;obtain⟨b,⟨d,h2,u⟩,f⟩:=H.bx.at hi;exact ao p x y j (by rw[hz];exact f) q r b hz.symm c.al λw' g hF=>h w' (Ld (H.set hi g hz hF)) (Ld hF)
end
def kY(D:Nat)(r:DP×Int×Option SW)(b:Nat)(w:World)(e:Ending)(w':World):Prop:=
 ∃Z,e=.returned (.tuple #[.agg Z,.int .i64 r.2.1])/\jy 14 Z/\(∀s,r.2.2=some s->ie D w' s b Z)/\aa w w'
theorem vC (B:Nat) (v:Value) (K:List (List Int)) {n:Nat}:kh n bT (λw=>eB B w v K):=⟨λ_ _ d h=>h.new d,λw w' b t x ht _ c hF h=>h.fr hF (λk f _=>by
 rw[show k=b from f]
 exact⟨aK.not_blk c (by rintro rfl;revert ht;decide),aK.not_blk c (by rintro rfl;revert ht;decide)⟩)⟩
theorem tG{Q:Ch->Prop}:∀(C L:List Ch),(∀x∈L,Q x)->(∀c∈C,c.d=false->Q c)->∀x∈vO L C,Q x
 | [],_,h,_=>h
 |c::C,L,h,b=>tG C (jI gv c L) (BY h (b c (List.mem_cons_self ..))) (λd hd=>b d (List.mem_cons_of_mem _ hd))
structure GV(D:Nat)(w:World)(b1 b2 b7 b10 B:Nat)(X Y:Array Value)(q:DP)(tt:Nat)(l:LG)(gen:Nat)(v:Value)(K:List (List Int))(k:Nat)(wr:World):Prop where
 ex:∃A c T t,bR [] (K.take k)=some t/\Bx prog bT w wr [⟨b1,65,X⟩,⟨b2,79,GB⟩,⟨b7,75,Y⟩,⟨b10,79,eE X Y (.slice A T.length c) (.int .u32 gen) (.bool false)⟩] (λw=>bE w q tt X/\(fZ w l Y/\eB B w v K))/\jx D wr A T.length T/\cl T=aI t/\Kn t/\(∀y∈T,oR y)/\T.length<=600*k
theorem lU{D:Nat}{w:World}{p:DP}{c:Nat}{X:Array Value}(h:bE w p c X)(f:p.size<4):
    Calls prog 35 #[.agg X] w (kY D (opnS p) c w):=by
 have g:opnS p=(p,1,none):=by unfold opnS;rw[if_pos f]
 rw[g];have d:=Ld h.row;have j:=Ld h.size;have k:(p.size:Int)<4:=by omega
 have b:Hid (Bx prog bT w w [] (λw=>bE w p c X)):=Ld (Bx.start h (bq _ _ _));clear h f g
 go_enter func35,ntmps35
 go_wp2_with (first
  |(refine dK b.out rfl rfl rfl cI d.out (by decide) ?_;clear b;intro i n b)
  |(refine bP b.out rfl rfl ca zS (by decide) ?_;clear b;intro i b2 b)
  |(refine eP 3 rfl ?_;refine aM 0 b.out rfl rfl rfl rfl underlying3 rfl j.out ?_)
  |(refine be 0 b.out rfl rfl rfl rfl rfl ?_)
  |(refine AY rfl rfl rfl (Gj d.out) ?_)
  |(refine gc 79 rfl ?_;refine aX 1 b.out rfl rfl rfl rfl rfl rfl (bi.row ⟨d.out,kH⟩ rfl rfl rfl) ca ?_;clear b;intro i b))
 exact bodyPost_ret (aE rfl _ _ _ _ _ rfl (b.out.blk 1 rfl) underlying79 rfl (by rw[bi.size ⟨d.out,kH⟩];kernel_rfl)) rfl ⟨_,rfl,bi.row ⟨d.out,kH⟩ rfl rfl rfl,λs l=>(by cases l),b.out.nw⟩
theorem Ad{D:Nat}{w:World}{p:DP}{c:Nat}{X:Array Value}(h:bE w p c X)(ht:c<=50000)(n:4<=p.size)(h0:jC p=0)(g:cX 3 1 w):
    Calls prog 35 #[.agg X] w (kY D (opnS p) c w):=by
 have i:opnS p=(p,2,none):=by unfold opnS;rw[if_neg (by omega),if_pos h0]
 rw[i];have d:=Ld h.row;have l:=Ld h.size;have q:¬(p.size:Int)<4:=by omega
 have k:Hid (∀W,bE W p c X->aa w W->Calls prog 76 #[.agg X] W λe w'=>e=.returned (.int .u32 0)/\aa W w'):=Ld λW hd f=>by
  have h1:=rS hd ht (by omega) (g.new f);rw[h0]at h1;exact h1
 have b:Hid (Bx prog bT w w [] (λw=>bE w p c X)):=Ld (Bx.start h (bq _ _ _));clear h n i ht h0 g
 go_enter func35,ntmps35
 go_wp2_with (first
  |(refine dK b.out rfl rfl rfl cI d.out (by decide) ?_;clear b;intro j u b)
  |(refine bP b.out rfl rfl ca zS (by decide) ?_;clear b;intro j b2 b)
  |(refine eP 3 rfl ?_;refine aM 0 b.out rfl rfl rfl rfl underlying3 rfl l.out ?_)
  |(refine be 0 b.out rfl rfl rfl rfl rfl ?_)
  |(go_at_call 76;refine(k.out _ b.out.r b.out.nw).mono ?_;rintro e z ⟨rfl,f⟩;replace b:=Ld (b.out.new f);clear f)
  |(refine AY rfl rfl rfl (Gj d.out) ?_)
  |(refine gc 79 rfl ?_;refine aX 1 b.out rfl rfl rfl rfl rfl rfl (bi.row ⟨d.out,kH⟩ rfl rfl rfl) ca ?_;clear b;intro j b))
 exact bodyPost_ret (aE rfl _ _ _ _ _ rfl (b.out.blk 1 rfl) underlying79 rfl (by rw[bi.size ⟨d.out,kH⟩];kernel_rfl)) rfl ⟨_,rfl,bi.row ⟨d.out,kH⟩ rfl rfl rfl,λs r=>(by cases r),b.out.nw⟩
theorem FJ{D:Nat}{w:World}{p:DP}{f:Nat}{X:Array Value}(h:bE w p f X)(ht:f+hlf p.size<=49000)(hu:Up p)(hr:(runL p (aW p.size (jC p))).2.length<=1600)(i5:D<=w.heap.size)(hL:cX 3 1 w):
    Calls prog 35 #[.agg X] w (kY D (opnS p) (f+hlf p.size) w):=by
 have up:∀e w',kY D (opnS p) f w e w'->kY D (opnS p) (f+hlf p.size) w e w':=by
  rintro e w' ⟨Z,he,hr,O,r⟩;refine⟨Z,he,hr,λs h=>?_,r⟩;obtain⟨⟨X,Y,A,c,T,e',h1,h2⟩,h3⟩:=O s h;exact⟨⟨X,Y,A,c,T,e',h1.up (by omega),h2⟩,h3⟩
 by_cases h4:p.size<4
 ·exact(lU h h4).mono up
 by_cases h0:jC p=0
 ·exact(Ad h (by omega) (by omega) h0 hL).mono up
 clear up;obtain⟨T0,g4⟩:=nm (f+hlf p.size);rw[<-g4]
 have hc:jC p<4294967296:=by
  have lt:∀a,iW p a<4294967296:=λa=>by
   unfold iW;split
   ·have O:=h.ok.rget (a:Int);have h1:=fm (xs:=(p.rget (a:Int)).take 4) (λx hx=>O.2 x (List.mem_of_mem_take hx));rw[List.length_take,O.1]at h1;exact h1
   ·decide
  have h1:=lt 0;have h2:=lt 1;unfold jC;omega
 have k9:=h.ok.s2;have HX:=Ld h.row;have HS:=Ld h.size;have c5:¬(p.size:Int)<4:=by omega
 obtain⟨gen,N⟩:=nm (jC p);have u:=fk (n:=p.size) (g:=gen) (by omega)
 have HC:Hid (∀W,bE W p f X->aa w W->Calls prog 76 #[.agg X] W λe w'=>e=.returned (.int .u32 gen)/\aa W w'):=Ld λW hd r=>by
  rw[N];exact rS hd (by omega) (by omega) (hL.new r)
 have c4:aW p.size (jC p)=bZ (gj gen p.size) (hlf p.size) gen:=by rw[<-N];rfl
 obtain⟨S,g6⟩:=nm (gj gen p.size);obtain⟨hl,c3⟩:=nm (hlf p.size);rw[<-g6,<-c3]at u c4;rw[c4]at hr
 have i2:Hid (∀W,bE W p f X->Calls prog 73 #[.agg X,.int .u32 gen] W λe w'=>e=.returned (.tuple #[.int .i64 S,.int .i64 hl])/\aa W w'):=Ld λW hd=>by
  have h1:=pV hd (by omega) gen;rw[<-g6,<-c3]at h1;exact h1
 have hk:=cu h.ok (l:=bZ S hl gen) (fv u.2.1 (by omega)) ((bZ S hl gen).size+1)
 have hW:=hu.wipe (l:=(runL p (bZ S hl gen)).1) (by
  show(runs p (bZ S hl gen) ((bZ S hl gen).size+1)).1.first+(runs p (bZ S hl gen) ((bZ S hl gen).size+1)).1.size<=_
  rw[hk.2.1,hk.2.2.1];exact u.2.1) hk.1.used
 obtain⟨l,V⟩:=nm (runL p (bZ S hl gen)).1;obtain⟨K,hK⟩:=nm (runL p (bZ S hl gen)).2;obtain⟨q,hq⟩:=nm (aB p l).1
 have i1:Hid (∀W,bE W p f X->aa w W->Calls prog 77 #[.agg X,.int .i64 S,.int .i64 hl,.int .u32 gen] W λe w'=>∃X' Y' C cc,e=.returned (.tuple #[.agg X',.agg Y',.slice C K.length cc,.int .i64 0])/\bE w' q (f+hl) X'/\fZ w' l Y'/\eB W.heap.size w' (.slice C K.length cc) K/\aa W w'):=Ld λW hd r=>by
  have h1:=Ec hd (by omega) (hL.new r) S hl gen u.1 u.2.1 (by omega) (by omega) hW.1;rw[<-V,<-hK,<-hq]at h1;exact h1
 rw[<-V]at hW;rw[<-hK]at hr
 have M:Hid (opnS p=match bR [] K with|some t=>(q,0,some ⟨q,l,t,gen,false⟩)|none=>(q,2,none)):=Ld (by
  unfold opnS;rw[if_neg h4,if_neg h0,c4];dsimp only;rw[<-N,<-hK,<-V,<-hq]
  cases bR [] K<;>rfl)
 have k0:Hid (l.Ok q.size):=Ld (by
  rw[hq,hW.2.2,V]
  exact hk.1)
 obtain⟨F,hF⟩:=nm (opnS p);rw[<-hF];rw[<-hF]at M;have k5:¬(gen:Int)=0:=by omega
 have l2:((gen:Int)==0)=false:=by simpa using k5
 have i':=Ld hr;have k2:Hid (T0=f+hl):=Ld (by rw[g4,c3]);have g7:=Ld i5;have d:Hid (Bx prog bT w w [] (λw=>bE w p f X)):=Ld (Bx.start h (bq _ _ _));clear h ht hu hr hL h4 h0 hc k9 g4 i5 N u c4 g6 c3 hk hW V hK hq hF
 go_enter func35,ntmps35
 go_upto_region 1 with (first
  |(refine dK d.out rfl rfl rfl cI HX.out (by decide) ?_;clear d;intro w1 b1 d)
  |(refine bP d.out rfl rfl ca zS (by decide) ?_;clear d;intro w1 b2 d))
 go_upto_region 11 with (first
  |(refine bP d.out rfl rfl ca zS (by decide) ?_;clear d;intro w1 I d)
  |(refine eP 3 rfl ?_;refine aM 0 d.out rfl rfl rfl rfl underlying3 rfl HS.out ?_)
  |(refine be 0 d.out rfl rfl rfl rfl rfl ?_)
  |(refine be 2 d.out rfl rfl rfl rfl rfl ?_)
  |(go_at_call 76;refine(HC.out _ d.out.r d.out.nw).mono ?_;rintro e w3 ⟨rfl,r⟩;replace d:=Ld (d.out.new r);clear r)
  |(go_at_call 73;refine(i2.out _ d.out.r).mono ?_;rintro e w3 ⟨rfl,r⟩;replace d:=Ld (d.out.new r);clear r)
  |(go_at_call 77;refine(i1.out _ d.out.r d.out.nw).mono ?_;rintro e w4 ⟨X1,Y1,C,cc,rfl,hD,f',c1,r⟩;have b9:=Ld hD.row;have c0:=Ld f'.row;obtain⟨B,c1⟩:∃B,eB B w4 (.slice C K.length cc) K:=⟨_,c1⟩;replace d:=Ld ((d.out.call (R':=λw=>bE w q (f+hl) X1/\(fZ w l Y1/\eB B w (.slice C K.length cc) K)) r ⟨hD,f',c1⟩ ((bq _ _ _).and ((dL _ _).and (vC _ _ _)))).rel (R':=λw=>bE w q (f+hl) X1/\(fZ w l Y1/\eB B w (.slice C K.length cc) K)) (λh=>h.2) ((bq _ _ _).and ((dL _ _).and (vC _ _ _))));clear r hD f' c1)
  |(refine bP d.out rfl rfl fR zL (by decide) ?_;clear d;intro w1 b7 d)
  |(refine gc 65 rfl ?_;refine aX 0 d.out rfl rfl rfl rfl rfl rfl b9.out cI ?_;clear d;intro w1 d)
  |(refine gc 75 rfl ?_;refine aX 2 d.out rfl rfl rfl rfl rfl rfl c0.out fR ?_;clear d;intro w1 d)
  |(refine AZ rfl rfl rfl rfl rfl (GY ⟨b9.out,c0.out⟩ gen) ?_)
  |(refine gc 79 rfl ?_;refine aX 3 d.out rfl rfl rfl rfl rfl rfl (bi.row ⟨b9.out,c0.out⟩ rfl rfl rfl) ca ?_;clear d;intro w1 d))
 have d':Hid (GV D w b1 b2 b7 I B X1 Y1 q (f+hl) l gen (.slice C K.length cc) K 0 w1):=Ld ⟨⟨none,0,[],[],rfl,d.out,jx.nil _ _,by rw[show aI []=[]from List.Perm.eq_nil (dU [])];rfl,⟨List.nodup_nil,λe h=>(nomatch h)⟩,λy hy=>(nomatch hy),Nat.zero_le _⟩⟩;clear d HC i2 i1 HX HS;obtain⟨n,hn⟩:=nm K.length;have g9:=Ld hn;rw[<-hn]at d' i'⊢;clear hn;have k8:=i'.out
 go_wp2_with fail;go_loopw [11,12,13] (λi _ _ wr=>∃(k:Nat),k<=n/\i=.int .i64 k/\Hid (GV D w b1 b2 b7 I B X1 Y1 q (f+hl) l gen (.slice C n cc) K k wr)) (λi _ _ _=>n-(intOf i).toNat)
 case atStart=>exact⟨0,Nat.zero_le _,rfl,d'⟩
 case round=>
  clear d';obtain⟨k,hk,rfl,HI⟩:=hrel;obtain⟨A,c,T,t,j5,hB,hT,j2,i7,hS,b0⟩:=HI.out.ex;have d:=Ld hB;have HT:=Ld hT;have H:=Ld (And.intro j2 (And.intro i7 (And.intro hS b0)));have b8:=Ld j5;have z:Hid (bi X1 Y1):=Ld ⟨b9.out,c0.out⟩;clear HI j5 hB hT j2 i7 hS b0
  by_cases c5:k<n
  ·have i0:=Ld c5;have k7:(k:Int)<(n:Int):=by omega
   have l4:(0:Int)<=(k:Int):=by omega
   obtain⟨ga,o,A',c',b,i6,hA,j1,j',g3,j3,j0⟩:=d.out.r.2.2.out g9.out c5;subst hA;have g8:=Ld i6
   have b':Rd (λj=>j<wr.heap.size/\aK 5 wr j) wr 1 A' b.length (an b):=⟨g3.1,λhn=>by
    obtain⟨ad,e,h2,h3,h4⟩:=g3.2 hn
    exact⟨ad,e,⟨h3,h2.2⟩,h3,h4⟩⟩
   have U:=Ld (xi A' b.length c' b wr b' (λj hj=>hj.1) j' j0 (by unfold maxLen at j3;omega));rw[Ae]at U;clear i6 j' g3 j3 j0 b'
   cases hp:eG b with
   |none=>
    have b3:=Ld hp;rw[hp]at U
    have c9:Hid (F=(q,2,none)):=Ld (by
     have h1:=M.out;rw[pN b8.out g8.out b3.out]at h1
     exact h1)
    clear hp
    go_wp2_with (first
     |(go_at_call 78;refine U.out.mono ?_;rintro e w6 ⟨O,r⟩;rcases O with⟨-,rfl⟩|⟨A6,n6,c6,L,h0,-⟩;rotate_left;(cases h0);replace d:=Ld (d.out.new r);clear r)
     |(refine eP 79 rfl ?_;refine be 3 d.out rfl rfl rfl rfl rfl ?_)
     |(refine gc 79 rfl ?_;refine aX 1 d.out rfl rfl rfl rfl rfl rfl (bi.row z.out rfl rfl rfl) ca ?_;clear d;intro w1 d))
    refine bodyPost_ret (aE rfl _ _ _ _ _ rfl (d.out.blk 1 rfl) underlying79 rfl (by rw[bi.size z.out];kernel_rfl)) rfl ?_;rw[c9.out];exact⟨_,rfl,bi.row z.out rfl rfl rfl,λs O=>(by cases O),d.out.nw⟩
   |some L0=>
    have b3:=Ld hp;rw[hp]at U;clear hp
    go_upto_region 17 with(go_at_call 78;refine U.out.mono ?_;rintro e w6 ⟨O,r⟩;rcases O with⟨h0,-⟩|⟨A6,n6,c6,L,h0,rfl,-,hL⟩;(cases h0);have G:Hid (L0=L.map cK/\jx D w6 A6 n6 L):=Ld ⟨by injection h0,hL.ty (λj hj=>.inr (hj.2.fr (r.toFr ic) (λx=>x.elim)))⟩;have k3:=Ld (HT.out.new r);have l1:=Ld r;replace d:=Ld (d.out.new r);clear r h0 hL HT)
    have J:Hid (dN (L.map cK)=true):=Ld (by rw[<-G.out.1];exact uM b3.out)
    have l5:n6<=600:=by
     have h1:=(jH J.out).2.1;rw[List.length_map,G.out.2.len]at h1;exact h1
    have l':=H.out.2.2.2;have j8:=Ld (Ci A T.length c T A6 n6 c6 L w6 k3.out G.out.2 (by omega));clear l';have c8:Hid (∀w7,aa w6 w7->D<=I/\¬aK 153 w7 I/\¬aK 5 w7 I):=Ld λw7 r=>⟨Nat.le_trans g7.out (d.out.ty ⟨I,_,_⟩ (by first|exact List.mem_cons_of_mem _ (List.mem_cons_of_mem _ (List.mem_cons_of_mem _ (List.mem_cons_self ..))))).2,aK.not_blk ((d.out.new r).blk 3 rfl) (show 79≠153 by decide),aK.not_blk ((d.out.new r).blk 3 rfl) (show 79≠5 by decide)⟩
    go_wp2_with (first
     |(refine eP 77 rfl ?_;refine aM 3 d.out rfl rfl rfl rfl underlying77 rfl z.out.c.1 ?_)
     |(go_at_call 79;refine j8.out.mono ?_;rintro e w7 ⟨⟨A7,n7,c7,rfl,i9⟩,r⟩;have i3:=Ld i9;have k':=Ld r;replace d:=Ld (d.out.new r);clear r i9)
     |(refine gc 77 rfl ?_;refine FQ 3 d.out rfl rfl rfl rfl rfl rfl rfl (by kernel_rfl) (by rw[bi.size z.out];decide) (bi.set z.out _).1 ?_;clear d;intro w8 d F8))
    clear M
    have j9:Hid (GV D w b1 b2 b7 I B X1 Y1 q (f+hl) l gen (.slice (some ⟨ga,o,none⟩) n cc) K (k+1) w8):=Ld (by
     have g5:=i3.out.fr F8.out (λj hj=>by rw[show j=I from hj];exact c8.out _ k'.out);have k4:∀y∈L,ba y.k.xs:=λy hy=>(G.out.2.el y hy).k.byt
     have j6:=yL L H.out.1 H.out.2.1 k4;have j4:=g5.len;have i4:=d.out;rw[<-j4]at g5;rw[<-j4]at i4;refine⟨A7,c7,vO T L,po t L,?_,i4,g5,j6.1,j6.2,?_,?_⟩
     ·rw[ox,<-G.out.1];exact rP b8.out g8.out b3.out
     ·refine tG L T H.out.2.2.1 (λy hy hd=>⟨hd,?_⟩);have h1:=(jH J.out).2.2 _ (List.mem_map.2 ⟨y,hy,rfl⟩);obtain⟨-,h2,h3,-⟩:=rO h1;have h4:=(G.out.2.el y hy).k.len;have h5:=(G.out.2.el y hy).v.len;exact⟨by rw[<-h4];exact h2,by rw[<-h5];exact h3⟩
     ·have h1:=yK T L;have h2:=H.out.2.2.2;have h3:=(jH J.out).2.1;rw[List.length_map]at h3
      omega)
    clear d F8 i3 G b8 H J
    go_wp2_with fail;go_roundw
    case rel=>exact⟨k+1,i0.out,by go_num,j9⟩
    case measure=>simp[intOf];have:=i0.out;omega
  ·have l3:¬(k:Int)<(n:Int):=by omega
   have k6:k=n:=by omega
   have k1:Hid (bR [] K=some t):=Ld (by
    have h1:=b8.out;rw[k6,g9.out,List.take_length]at h1
    exact h1)
   have c9:Hid (F=(q,0,some ⟨q,l,t,gen,false⟩)):=Ld (by
    have h1:=M.out;rw[k1.out]at h1
    exact h1)
   have j7:Hid (D<=b2/\¬aK 153 wr b2/\¬aK 5 wr b2):=Ld ⟨Nat.le_trans g7.out (d.out.ty ⟨b2,_,_⟩ (List.mem_cons_of_mem _ (List.mem_cons_self ..))).2,aK.not_blk (d.out.blk 1 rfl) (show 79≠153 by decide),aK.not_blk (d.out.blk 1 rfl) (show 79≠5 by decide)⟩;clear c5
   go_wp2_with (first
    |(refine eP 79 rfl ?_;refine be 3 d.out rfl rfl rfl rfl rfl ?_)
    |(refine gc 79 rfl ?_;refine Er 1 d.out rfl rfl rfl rfl rfl rfl (bi.row z.out rfl rfl rfl) ca ?_;clear d;intro w9 d F9))
   refine bodyPost_ret (aE rfl _ _ _ _ _ rfl (d.out.blk 1 rfl) underlying79 rfl (by rw[bi.size z.out];kernel_rfl)) rfl ?_;rw[c9.out];refine⟨_,rfl,bi.row z.out rfl rfl rfl,λs O=>?_,d.out.nw⟩;injection O with O;subst O;exact⟨⟨X1,Y1,A,c,T,rfl,by rw[k2.out];exact d.out.r.1,d.out.r.2.1,HT.out.fr F9.out (λj hj=>by rw[show j=b2 from hj];exact j7.out),H.out.1,H.out.2.2.1⟩,k0.out⟩
end Go.Proofs.YtfchcdbfalgdlaaGreatDoor
namespace Go.Proofs.YtfchcdbfalgdlaaGreatDoor
open _root_.Go.Proofs.Tryz
open Go.RowKit Go.Sort Go.Maps
def ml(W w:World)(gs gd bs bf bt:Nat)(s:SW)(mm:Nat)(w':World):Prop:=dO W w' gs gd bs bf bt s mm/\dZ (iY bs bf bt) W w w'
def sE(W w:World)(gs gd bs bf bt mm:Nat)(r:SW×Int)(e:Ending)(w':World):Prop:=e=.returned (dP r.2)/\ml W w gs gd bs bf bt r.1 mm w'
section
variable {W w w':World}{gs gd bs bf bt mm:Nat}{s:SW}
theorem jA.to{gl gt m:Nat}{v:Value}{X:Nat->Prop}{E:gh}(h:jA W w' gs gd bs bf bt s mm gl gt v X m E)(b:dZ (iY bs bf bt) W w w'):ml W w gs gd bs bf bt s mm w':=⟨⟨gl,gt,v,X,m,E,h⟩,b⟩
theorem dO.keep(h:dO W w gs gd bs bf bt s mm):ml W w gs gd bs bf bt s mm w:=⟨h,dZ.new (aa.refl _)⟩
theorem nG(h:dO W w gs gd bs bf bt s mm)(hN:aa W w)(hL:dC 4 2 W)(hm:mm<=1000000)(hT:ki s.t):
    Calls prog 16 #[.pointer (some ⟨gs,0,none⟩)] w (sE W w gs gd bs bf bt mm (aN s)):=by
 have HI:=Ld h;obtain⟨gl,gt,v,X,m,E,h⟩:=h;have HX:=Ld h;have S:=h.c3;have c4:=h.c4;obtain⟨g,G⟩:=nm s.gen;obtain⟨br,d⟩:=nm s.broken;obtain⟨R,V⟩:=nm (aN s);have N:Hid (R=if br=true then(s,(10:Int))else if g=4294967295 then(s,(9:Int))else if(dD s).2.2≠0 then({s with p:=(dD s).1,broken:=fK (dD s).2.2},(dD s).2.2)else({s with p:=(dD s).1,l:=(dD s).2.1,gen:=s.gen+1},0)):=Ld (by rw[V,d,G];rfl);rw[<-V];rw[<-G]at S;rw[<-d]at c4
 cases br with
 |true=>
  have c:=Ld (N.out.trans (if_pos rfl));clear h hN hL hm hT G d V S N
  go_enter func16,ntmps16
  go_wp2_with fail;go_ret;rw[c.out];exact⟨by rw[bK (show(10:Int)≠0 by decide)];rfl,HI.out.keep⟩
 |false=>
  have c:=Ld (N.out.trans (if_neg (by decide)))
  by_cases n:g=4294967295
  ·have b:=Ld (c.out.trans (if_pos n));rw[n]at S;clear h hN hL hm hT G d V N c n
   go_enter func16,ntmps16
   go_wp2_with fail;go_ret;rw[b.out];exact⟨by rw[bK (show(9:Int)≠0 by decide)];rfl,HI.out.keep⟩
  ·have b:=Ld (c.out.trans (if_neg n));have z:=Ld (AR h hN hL (by have:=h.gen;omega) (by have:=h.mm;omega) (by have:=h.mm;omega) hT);obtain ⟨r,hr⟩:=nm (dD s);rw [<-hr] at z b;have f:Hid (g=s.gen/\g+1<4294967296/\s.broken=false):=Ld ⟨G,by have:=h.gen;omega,d.symm⟩;have b7:¬(g:Int)=4294967295:=by omega
   clear h hN hL hm hT G d V N c n hr
   go_enter func16,ntmps16
   go_wp2_with fail;refine z.out.mono ?_;rintro e H ⟨pl,v1,rfl,Y,U,b0⟩;have i:=Ld Y;have J:=Ld U;have C:=Ld b0;clear Y U b0 z S c4 b7
   by_cases h0:r.2.2=0
   ·obtain ⟨gn,rfl,b3,b1⟩:=C.out h0;have D:=Ld (b.out.trans (if_neg (by rw [h0];simp)));have M:=Ld (And.intro b3 b1);rw [h0,cg];have q:=i.out.blk;have f1:H.frozen? ⟨gs,1,none⟩=false:=q.frozen 1;have c1:H.cell? ⟨gs,1,none⟩=some (.pointer (some ⟨gl,0,none⟩)):=i.out.c1;have f3:∀u,(H.setCell ⟨gs,1,none⟩ u).frozen? ⟨gs,3,none⟩=false:=λu=>(q.set 1 u).frozen 3
    have S:∀u,(H.setCell ⟨gs,1,none⟩ u).cell? ⟨gs,3,none⟩=some (.int .u32 g):=λu=>by rw[f.out.1];exact(q.set 1 u).cell 3
    clear q;obtain⟨g2,b'⟩:=nm (g+1);have e1:(g:Int)+1=(g2:Int):=by omega
    have e2:IntKind.u32.wrap (g2:Int)=(g2:Int):=by rw[IntKind.wrap_u32];have:=f.out.2.1;omega
    have I:Hid (g2=s.gen+1/\g2<4294967296):=Ld (by rw[b',<-f.out.1];exact⟨rfl,f.out.2.1⟩);clear b';clear b3 b1 C h0 b
    go_wp2_with fail;go_ret;rw[D.out];obtain⟨j,F⟩:=i.out.own (w':=(H.setCell ⟨gs,1,none⟩ (.pointer (some ⟨gn,0,none⟩))).setCell ⟨gs,3,none⟩ (.int .u32 g2)) (((Fr.refl (λk=>k=gs) H).setCell (p:=⟨gs,1,none⟩) (λ_=>rfl) _).setCell (p:=⟨gs,3,none⟩) (λ_=>rfl) _) (gl':=gn) (gen:=g2) (l:=r.2.1) (br:=s.broken) (by have:=(i.out.blk.set 1 (.pointer (some ⟨gn,0,none⟩))).set 3 (.int .u32 g2);simpa using this) M.out.2 M.out.1 I.out.2;have e3:({({s with p:=r.1}:SW)with l:=r.2.1,gen:=g2,broken:=s.broken}:SW)={s with p:=r.1,l:=r.2.1,gen:=s.gen+1}:=by rw[I.out.1]
    rw[e3]at j;exact⟨rfl,j.to (J.out.tr F)⟩
   ·have D:=Ld (b.out.trans (if_pos h0));have HE:=Ld (bK h0);have O:=Ld (qp i.out r.2.2);rw[HE.out]at O⊢;clear h0 b C
    go_wp2_with fail;refine O.out.mono ?_;rintro e w2 ⟨rfl,j,F⟩
    go_wp2_with fail;go_ret;rw[D.out]
    have e3:({({s with p:=r.1}:SW)with broken:=({s with p:=r.1}:SW).broken||fK r.2.2}:SW)={s with p:=r.1,broken:=fK r.2.2}:=by
     show({s with p:=r.1,broken:=s.broken||fK r.2.2}:SW)=_;rw[f.out.2.2,Bool.false_or]
    rw[e3]at j;exact⟨by rw[HE.out];rfl,j.to (J.out.tr F)⟩
end
section
variable {W w w':World}{gs gd bs bf bt mm gl gt m:Nat}{s:SW}{v v':Value}{X:Nat->Prop}{E:gh}
theorem jA.logd(h:jA W w gs gd bs bf bt s mm gl gt v X m E){q:DP}{l:LG}(c:yY w W.heap.size gl gd bs bf v q l w' v')(hz:q.size=s.p.size):jA W w' gs gd bs bf bt {s with p:=q,l:=l} mm gl gt v' X m E/\dZ (iY bs bf bt) W w w':=by
 have hS:∀k,(k=gl\/bW gd bs bf v k)->CW (iY bs bf bs) W w k/\k≠gs:=λk b=>by
  rcases b with rfl|b
  ·exact⟨⟨h.lo.2,.inr (.inr (.inl ⟨_,_,h.lg.blk⟩))⟩,λe=>ac.ne_ h.lg.blk h.blk (by decide) e⟩
  ·exact⟨(h.dkfr k b).1,(h.dkfr k b).2.1⟩
 have f:dZ (iY bs bf bs) W w w':=dZ.of c.fr λk b=>(hS k b).1
 have d:∀k,iY bs bf bs k->iY bs bf bt k:=λk b=>by
  rcases b with e|e|e
  ·exact .inl e
  ·exact .inr (.inl e)
  ·exact .inl e
 refine⟨⟨h.blk.fr c.fr (λg=>(hS _ g).2 rfl),c.dk,c.lg,dZ.tb f h.tb (λk b=>⟨?_,h.mps k (d k b) _,h.mps k (d k b) _⟩),h.lo,h.ne,h.ct,h.mm,h.gen,by show 4<=q.size;rw[hz];exact h.n4⟩,f.mono λk _=>d k⟩;rintro rfl;rcases b with e|e|e
 ·exact h.ne.1 e
 ·exact h.ne.2 e
 ·exact h.ne.1 e
def nQ(W w:World)(q:Nat->Prop):Prop:=∀k,q k->k<W.heap.size\/aK 5 w k\/aK 92 w k
theorem nQ.not{M:Nat->Prop}{q:Nat->Prop}(h:nQ W w q)(c:∀k,M k->∀t,¬aK t w k):∀k,q k->¬CW M W w k:=λk d b=>by
 rcases h k d with e|e|e
 ·exact absurd b.1 (by omega)
 ·exact gN (λhm=>c k hm _ e) (by decide) (by decide) (by decide) (by decide) e b
 ·exact gN (λhm=>c k hm _ e) (by decide) (by decide) (by decide) (by decide) e b
theorem nQ.kps{M:Nat->Prop}{q:Nat->Prop}(h:nQ W w q)(d:∀k,M k->∀t,¬aK t w k)(c:dZ M W w w'):nQ W w' q:=λk b=>by
 rcases h k b with e|e|e
 ·exact .inl e
 ·exact .inr (.inl (e.fr c (h.not d k b)))
 ·exact .inr (.inr (e.fr c (h.not d k b)))
theorem vZ(h:dO W w gs gd bs bf bt s mm)(hN:aa W w)(hL:dC 4 2 W)(hm:mm<=1000000)(hT:ki s.t){q:Nat->Prop}(A:Option Addr)(n c:Nat)(b:List Int)(hR:Rd q w 1 A n (an b))(hq:nQ W w q)(hb:ba b)(hn:n<=100000000):
    Calls prog 60 #[.pointer (some ⟨gs,0,none⟩),.slice A n c] w (sE W w gs gd bs bf bt mm (di s b)):=by
 obtain⟨gl,gt,v,X,m,E,h⟩:=h;have HX:=Ld h;have HN:=Ld hN;have HL:=Ld hL;have HT:=Ld (And.intro hm hT);have HQ:=Ld hq;have HR:=Ld hR;have HB:=Ld (And.intro hb hn);have f:=Ld (sG h.lg h.dk (hL.new hN) A n c b hR hb (by unfold maxLen;omega));have HZ:=Ld (jd s.p s.l b);obtain⟨a,ha⟩:=nm (aD s.p s.l b);obtain⟨R,D⟩:=nm (di s b)
 have k:Hid (R=if a.2.2≠8 then(({s with p:=a.1,l:=a.2.1}:SW),a.2.2)else if(aN {s with p:=a.1,l:=a.2.1}).2≠0 then aN {s with p:=a.1,l:=a.2.1} else
  ({(aN {s with p:=a.1,l:=a.2.1}).1 with p:=(aD (aN {s with p:=a.1,l:=a.2.1}).1.p (aN {s with p:=a.1,l:=a.2.1}).1.l b).1,l:=(aD (aN {s with p:=a.1,l:=a.2.1}).1.p (aN {s with p:=a.1,l:=a.2.1}).1.l b).2.1},(aD (aN {s with p:=a.1,l:=a.2.1}).1.p (aN {s with p:=a.1,l:=a.2.1}).1.l b).2.2)):=Ld (by rw[D,ha];rfl)
 rw[<-D];rw[<-ha]at f HZ;have c1:=h.c1;clear h hN hL hm hT hR hq hb hn ha D
 go_enter func60,ntmps60
 go_wp2_with fail;refine f.out.mono ?_;rintro e w1 ⟨rfl,v1,S⟩;obtain⟨U,M⟩:=HX.out.logd S HZ.out;have I:=Ld U;have z:=Ld M;have g:=Ld (sY a.2.2 8 (by decide) w1);obtain⟨ev,F⟩:=nm (dP a.2.2);have Y:=Ld F;rw[<-F]at g⊢;clear U M S F f c1
 by_cases G:a.2.2=8
 ·rw[decide_eq_true G]at g;have d:=Ld (k.out.trans (if_neg (by rw[G];simp)));have C:=Ld (nG ⟨_,_,_,_,_,_,I.out⟩ (z.out.nw HN.out) HL.out HT.out.1 HT.out.2);obtain⟨r,hr⟩:=nm (aN {s with p:=a.1,l:=a.2.1});rw[<-hr]at C d;clear G k hr
  go_wp2_with fail;refine g.out.mono ?_;rintro e w2 ⟨rfl,rfl⟩
  go_wp2_with fail;refine C.out.mono ?_;rintro e w2 ⟨rfl,O,N⟩;have H:=Ld O;have u:Hid (dZ (iY bs bf bt) W w w2):=Ld (z.out.tr N);clear O N C g
  by_cases h0:r.2=0
  ·have j:=Ld (d.out.trans (if_neg (by rw[h0];simp)));rw[h0,cg];obtain⟨b7,b8,v3,X3,m3,E3,i⟩:=H.out;have b':=Ld i;have b9:=i.c1;have f:=Ld (sG i.lg i.dk (HL.out.new (u.out.nw HN.out)) A n c b (HR.out.fr u.out (HQ.out.not HX.out.mps)) HB.out.1 (by have:=HB.out.2;unfold maxLen;omega));have J:=Ld (jd r.1.p r.1.l b);obtain⟨a3,V⟩:=nm (aD r.1.p r.1.l b);rw[<-V]at f J j;clear h0 i V d
   go_wp2_with fail;refine f.out.mono ?_;rintro e w4 ⟨rfl,v4,b1⟩;obtain⟨b3,b0⟩:=b'.out.logd b1 J.out
   go_wp2_with fail;go_ret;rw[j.out];exact⟨rfl,b3.to (u.out.tr b0)⟩
  ·have j:=Ld (d.out.trans (if_pos h0));have HE:=Ld (bK h0);rw[HE.out];clear h0 d
   go_wp2_with fail;go_ret;rw[j.out];exact⟨by rw[HE.out];rfl,H.out,u.out⟩
 ·rw[decide_eq_false G]at g;have d:=Ld (k.out.trans (if_pos G));clear G k
  go_wp2_with fail;refine g.out.mono ?_;rintro e w2 ⟨rfl,rfl⟩
  go_wp2_with fail;go_ret;rw[d.out];exact⟨by rw[Y.out];rfl,I.out.to z.out⟩
end
theorem xH(s:SW):(aN s).1.t=s.t:=by
 unfold aN;split
 ·rfl
 ·split
  ·rfl
  ·simp only;split<;>rfl
theorem Fa(s:SW)(b:List Int):(di s b).1.t=s.t:=by
 unfold di;split
 ·rfl
 ·simp only;split
  ·exact xH _
  ·exact xH _
section
variable {W w w':World}{gs gd bs bf bt mm mm' gl gt m m':Nat}{s:SW}{v v':Value}{X X':Nat->Prop}{E E':gh}
theorem dO.up(h:dO W w gs gd bs bf bt s mm)(hm:mm<=mm'):dO W w gs gd bs bf bt s mm':=by
 obtain⟨gl,gt,v,X,m,E,h⟩:=h;exact⟨gl,gt,v,X,m,E,h.blk,h.dk,h.lg,h.tb,h.lo,h.ne,h.ct,⟨Nat.le_trans h.mm.1 hm,Nat.le_trans h.mm.2 hm⟩,h.gen,h.n4⟩
theorem jA.tabd(h:jA W w gs gd bs bf bt s mm gl gt v X m E)(hF:Fr (λk=>k=bt) w w')(d:dI X' w' W.heap.size gt bt m' E')(hm:m'<=mm'/\E'.length<=mm'):jA W w' gs gd bs bf bt {s with t:=dy E'} mm' gl gt v X' m' E'/\dZ (iY bs bf bt) W w w':=by
 obtain⟨f,c,-⟩:=h.tb.map;have b:∀k t cs,ac w k t cs->k≠bt:=λk t cs g e=>aK.not_map (t:=t) c (by rw[<-e];exact⟨_,_,g⟩)
 refine⟨⟨h.blk.fr hF (b _ _ _ h.blk),h.dk.fr hF (λk e i=>?_),h.lg.fr hF (b _ _ _ h.lg.blk),d,h.lo,h.ne,rfl,hm,h.gen,h.n4⟩,dZ.of hF (λk e=>?_)⟩
 ·subst e;rcases i with e | e | e | j
  ·exact b _ _ _ h.dk.blk e.symm
  ·exact h.ne.1 e
  ·exact h.ne.2 e
  ·exact aK.not_map c (cY h.dk.own j)
 ·subst e;exact⟨h.tb.lb,.inl (.inr (.inr rfl))⟩
theorem pk(h:dO W w gs gd bs bf bt s mm)(hN:aa W w)(hL:dC 4 2 W)(hm:mm<=900000)(hT:ki s.t){q:Nat->Prop}(A:Option Addr)(n c:Nat)(L:List Ch)(hR:Rd q w 3 A n (L.flatMap Ch.cells))(hl:L.length=n)(H:∀c∈L,c.In q w)(hq:nQ W w q)(hn:n<=100000000)(hz:∀c∈L,c.k.n<=maxLen/\c.v.n<=maxLen):
    Calls prog 15 #[.pointer (some ⟨gs,0,none⟩),.slice A n c] w (sE W w gs gd bs bf bt (mm+600) (ed s (L.map cK))):=by
 have HI:=Ld h;obtain⟨gl,gt,v,X,m,E,hX⟩:=h;have j:ou w A n L:=⟨dS hR,hl,λc hc=>Ch.In.szs (H c hc)⟩
 have i7:=Ld j.lens;have HX:=Ld hX;have HN:=Ld hN;have HL:=Ld hL;have HT:=Ld (And.intro hm hT);have HQ:=Ld hq;have HR:=Ld hR;have b0:=Ld (And.intro hl H);obtain⟨R,U⟩:=nm (ed s (L.map cK));obtain⟨br,V⟩:=nm s.broken
 have HC:Hid (R=if bY L=false then(s,(2:Int))else if br=true then(s,(10:Int))else if 65536<(bI L).length then(s,(3:Int))else
     if(di s (bI L)).2≠0 then({(di s (bI L)).1 with broken:=(di s (bI L)).1.broken||fK (di s (bI L)).2},(di s (bI L)).2)else
     if(di s (bI L)).1.p.scode≠0 then({(di s (bI L)).1 with p:=(di s (bI L)).1.p.doSync,broken:=(di s (bI L)).1.broken||fK (di s (bI L)).1.p.scode},(di s (bI L)).1.p.scode)else
     ({(di s (bI L)).1 with p:=(di s (bI L)).1.p.doSync,t:=doPs (di s (bI L)).1.t (L.map cK)},0)):=Ld (by rw[U,V,<-fE j.lens,gE j.lens];rfl)
 rw[<-U];have O:=hX.c4;rw[<-V]at O
 by_cases i:bY L=false
 ·have d:=Ld (HC.out.trans (if_pos i));have g8:=Ld (DX A n c L w j hn hz i);clear hX hN hL hm hT hR hl H hq hn hz j U V i HC O
  go_enter func15,ntmps15
  go_wp2_with fail;refine g8.out.mono ?_;rintro e w1 ⟨rfl,b⟩
  go_wp2_with fail;go_ret;rw[d.out];exact⟨by rw[bK (show(2:Int)≠0 by decide)];rfl,(HI.out.up (Nat.le_add_right _ _)).new b,dZ.new b⟩
 have d:=Ld (HC.out.trans (if_neg i));have i:bY L=true:=by simpa using i
 have b9:=Ld i;have D:=Ld (tz A n c L w j i)
 have c':Hid (ba (bI L)):=Ld (by
  rw[gE j.lens];refine jo λx hx=>?_
  obtain⟨y,hy,rfl⟩:=List.mem_map.1 hx
  exact⟨(H y hy).k.byt,(H y hy).v.byt⟩)
 obtain⟨pb,g3⟩:=nm (bI L);rw[<-g3]at d D c';obtain⟨pn,b7⟩:=nm pb.length;rw[<-b7]at d D;have j':=Ld b7;clear hX hN hL hm hT hR hl H hq hn hz j U V i HC g3 b7
 cases br with
 |true=>
  have C:=Ld (d.out.trans (if_pos rfl));clear d
  go_enter func15,ntmps15
  go_wp2_with fail;refine D.out.mono ?_;rintro e w1 ⟨⟨A1,c1,b1,rfl,-,-⟩,b⟩;have O:=b.cell_ O;have z:=Ld b;clear b
  go_wp2_with fail;go_ret;rw[C.out];exact⟨by rw[bK (show(10:Int)≠0 by decide)];rfl,(HI.out.up (Nat.le_add_right _ _)).new z.out,dZ.new z.out⟩
 |false=>
  have C:=Ld (d.out.trans (if_neg (by decide)))
  by_cases M:65536<pn
  ·have l:=Ld (C.out.trans (if_pos M));have c3:(65536:Int)<(pn:Int):=by omega
   clear d C M
   go_enter func15,ntmps15
   go_wp2_with fail;refine D.out.mono ?_;rintro e w1 ⟨⟨A1,c1,b1,rfl,-,-⟩,b⟩;have O:=b.cell_ O;have z:=Ld b;clear b
   go_wp2_with fail;go_ret;rw[l.out];exact⟨by rw[bK (show(3:Int)≠0 by decide)];rfl,(HI.out.up (Nat.le_add_right _ _)).new z.out,dZ.new z.out⟩
  ·have l:=Ld (C.out.trans (if_neg M));have c3:¬(65536:Int)<(pn:Int):=by omega
   have g7:=Ld M;clear d C M
   go_enter func15,ntmps15
   go_wp2_with fail;refine D.out.mono ?_;rintro e w1 ⟨⟨A1,c1,b1,rfl,-,S⟩,b⟩;have O:=b.cell_ O;have z:=Ld b;have i9:=Ld S;have Y:=Ld (vZ (HI.out.new b) (HN.out.tr b) HL.out (by have:=HT.out.1;omega) HT.out.2 A1 pn c1 pb (Rd.own S rfl) (λk hk=>.inr (.inl (lf S hk))) c'.out (by have:=g7.out;omega));have i':=Ld (Fa s pb);obtain⟨r,hr⟩:=nm (di s pb);rw[<-hr]at Y l i';clear b S hr D
   go_wp2_with fail;refine Y.out.mono ?_;rintro e w2 ⟨rfl,c9,c7⟩;have c0:=Ld c9;have b8:Hid (dZ (iY bs bf bt) W w w2):=Ld ((dZ.new z.out).tr c7);clear c9 c7 Y O c3
   by_cases h0:r.2=0
   ·have u:=Ld (l.out.trans (if_neg (by rw[h0];simp)));rw[h0,cg];obtain⟨i0,i1,v3,X3,m3,E3,F⟩:=c0.out;have b3:=Ld F;have i5:=F.c0;clear h0 F l
    go_wp2_with fail;refine(kP b3.out.dk).mono ?_;rintro e w4 ⟨rfl,v4,c5,c6,i3⟩;obtain⟨d',c8⟩:=b3.out.disk c6 b3.out.dkfr c5 (DP.doSync_size _);have g:=Ld d';have I:Hid (dZ (iY bs bf bt) W w w4):=Ld (b8.out.tr c8);obtain⟨sc,g4⟩:=nm r.1.p.scode;rw[<-g4]at u⊢;clear c5 c6 i3 d' c8 i5 g4
    by_cases h1:sc=0
    ·have b':=Ld (u.out.trans (if_neg (by rw[h1];simp)));rw[h1,cg];have j0:=g.out.c2;obtain⟨f,hf,-⟩:=g.out.tb.map;have g9:=Ld (HR.out.fr I.out (HQ.out.not HX.out.mps))
     have g5:=Ld (qW (P:=q) g.out.tb A n c L g9.out b0.out.1 (λy hy=>(b0.out.2 y hy).frq I.out (HQ.out.not HX.out.mps)) (λk hk e=>by
      rcases (HQ.out.kps HX.out.mps I.out) k hk with e1|e1|e1
      ·have:=g.out.tb.lb;omega
      ·rw[e]at e1;exact aK.not_map hf e1
      ·rw[e]at e1;exact aK.not_map hf e1) b9.out (by have:=g.out.mm;have:=HT.out.1;omega))
     have i6:=Ld g.out.ct;have g6:=Ld g.out.mm;clear h1 u hf
     go_wp2_with fail;refine g5.out.mono ?_;rintro e w5 ⟨rfl,X5,E5,i4,f',i2,-⟩
     obtain⟨G,N⟩:=g.out.tabd (mm':=mm+600) i2 i4 (by
      have h1:=congrArg List.length f';have h2:=yf (dy E3) L;rw[du]at h1 h2;have h3:=(dt b9.out).2.1;have h4:=g6.out;have h5:=b0.out.1
      omega)
     go_wp2_with fail;go_ret;rw[b'.out];have e3:dy E5=doPs r.1.t (L.map cK):=by rw[f',ox];congr 1
     rw[e3]at G;exact⟨rfl,G.to (I.out.tr N)⟩
    ·have b':=Ld (u.out.trans (if_pos h1));have HE:=Ld (bK h1);have J:=Ld (qp g.out sc);rw[HE.out]at J⊢;clear h1 u
     go_wp2_with fail;refine J.out.mono ?_;rintro e w5 ⟨rfl,G,N⟩
     go_wp2_with fail;go_ret;rw[b'.out];have M:=G.to (I.out.tr N);exact⟨by rw[HE.out];rfl,M.1.up (Nat.le_add_right _ _),M.2⟩
   ·have u:=Ld (l.out.trans (if_pos h0));have HE:=Ld (bK h0);obtain⟨i0,i1,v3,X3,m3,E3,F⟩:=c0.out;have J:=Ld (qp F r.2);rw[HE.out]at J⊢;clear h0 l F
    go_wp2_with fail;refine J.out.mono ?_;rintro e w5 ⟨rfl,G,N⟩
    go_wp2_with fail;go_ret;rw[u.out];have M:=G.to (b8.out.tr N);exact⟨by rw[HE.out];rfl,M.1.up (Nat.le_add_right _ _),M.2⟩
end
end Go.Proofs.YtfchcdbfalgdlaaGreatDoor
