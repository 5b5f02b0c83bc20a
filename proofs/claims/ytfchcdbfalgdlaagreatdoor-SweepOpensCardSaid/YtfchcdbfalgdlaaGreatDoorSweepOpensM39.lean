/- Texts of one proof. No condition but each one's own. -/
import Derived.Test.YtfchcdbfalgdlaaGreatDoorSweepOpensM37
import Derived.Test.YtfchcdbfalgdlaaGreatDoorSweepOpensM38
set_option maxHeartbeats 4000000
set_option maxRecDepth 100000
set_option linter.unusedVariables false
set_option linter.unusedSimpArgs false
namespace Go.Proofs.YtfchcdbfalgdlaaGreatDoor
open _root_.Go.Proofs.Tryz
open Go.RowKit Go.Sort
theorem Ev{X:Array Value}(h:iL 5 X):prog.built 79 [(0,.agg X)]=some (eM X pH (.slice none 0 0) (.int .u32 0) (.bool false)):=by
 obtain⟨a,b,c,d,e,rfl⟩:=h.five
 kernel_rfl
theorem Fq{X Y:Array Value}(h:cG X Y)(g:Nat):prog.built 79 [(0,.agg X),(1,.agg Y),(3,.int .u32 g)]=some (eM X Y (.slice none 0 0) (.int .u32 g) (.bool false)):=by
 obtain⟨a,b,c,d,e,rfl⟩:=h.x.five;obtain⟨f,i,j,k,l,n,rfl⟩:=h.y.six
 kernel_rfl
section
variable {P:Program}{ops:Array Oper}{rest:List Oper}{o:Oper}{a:Act}{w:World}{Q:Exit→Act→World→Prop}{t:TypeId}{cells:Array Value}
theorem ze{k:Nat}{x:Operand}{v:Value}(c:o.op=.build t #[(k,x)])(d:Region.wanted o (yielded ops a.tmps)=true)(f:a.eval x=v)(b:P.built t [(k,v)]=some cells)(h:wpList P ops Q rest (a.put o.dst (.agg cells)) w):wpList P ops Q (o::rest) a w:=by
 subst f;exact jq d t [(k,x)] c _ rfl cells b h
theorem zf{k d f:Nat}{x g i:Operand}{v j v3:Value}(n:o.op=.build t #[(k,x),(d,g),(f,i)])(p:Region.wanted o (yielded ops a.tmps)=true)(q:a.eval x=v)(b:a.eval g=j)(c:a.eval i=v3)(l:P.built t [(k,v),(d,j),(f,v3)]=some cells)(h:wpList P ops Q rest (a.put o.dst (.agg cells)) w):wpList P ops Q (o::rest) a w:=by
 subst q b c;exact jq p t [(k,x),(d,g),(f,i)] n _ rfl cells l h
end
section
variable {P:Program}{T:List TypeId}{w0 w:World}{L:List mP}{R:World→Prop}{B:mP}{ops:Array Oper}{rest:List Oper}{o:Oper}{a:Act}{Q:Exit→Act→World→Prop}{t:TypeId}{x y:Operand}{X Z:Array Value}{off:Nat}
theorem Ed(i:Nat){v:Value}(H:Bx P T w0 w L R)(f:o.op=.store t x y)(l:Region.wanted o (yielded ops a.tmps)=true)(hi:L[i]?=some B)(n:a.eval x=.pointer (some ⟨B.b,off,none⟩))(p:a.eval y=v)(j:v.cells= #[v])(h1:v.oneCell'=true)(g:(P.info? t).map (·.size)=some 1)(hl:off<B.x.size)(q:jy B.x off #[v]=Z)
    (h:∀w',Hid (Bx P T w0 w' (L.set i ⟨B.b,B.t,Z⟩) R)→Hid (Fr (fun k=>k=B.b) w w')→wpList P ops Q rest (a.put o.dst undef) w'):wpList P ops Q (o::rest) a w:=by
 subst q;refine cw l fun K d=>?_
 obtain⟨w',b,r,c⟩:=kM (P:=P) j h1 (H.blk i hi) hl g;unfold Oper.wp execOp;simp only[f,n,p,Sem.run_bind,b,Result.andThen_ok,Sem.run_pure];exact d _ _ (h w' (Ld (H.set hi r (by simp[jy,splice];omega) c)) (Ld c))
theorem Cx(i:Nat){n:Nat}(H:Bx P T w0 w L R)(l:o.op=.store t x y)(q:Region.wanted o (yielded ops a.tmps)=true)(hi:L[i]?=some B)(r:a.eval x=.pointer (some ⟨B.b,0,none⟩))(ht:B.t=t)(u:a.eval y=.agg X)(f:iL n X)(p:fh P t n)
    (h:∀w',Hid (Bx P T w0 w' (L.set i ⟨B.b,B.t,X⟩) R)→Hid (Fr (fun k=>k=B.b) w w')→wpList P ops Q rest (a.put o.dst undef) w'):wpList P ops Q (o::rest) a w:=by
 have c:=CW i H hi ht f p;subst ht;obtain⟨b,⟨d,h2,z⟩,g⟩:=H.bx.at hi;exact an q x y l (by rw[c];exact g) r u b c.symm f.al fun w' j hF=>h w' (Ld (H.set hi j c hF)) (Ld hF)
end
def ii(D:Nat)(r:DP×Int×Option SW)(b:Nat)(w:World)(e:Ending)(w':World):Prop:=
 ∃Z,e=.returned (.tuple #[.agg Z,.int .i64 r.2.1])∧iL 14 Z∧(∀s,r.2.2=some s→pA D w' s b Z)∧aa w w'
theorem ua (B:Nat) (v:Value) (K:List (List Int)) {n:Nat}:kQ n bT (fun w=>dW B w v K):=⟨fun _ _ d h=>h.new d,fun w w' b t x ht _ c hF h=>h.fr hF (fun k f _=>by
 rw[show k=b from f]
 exact⟨aO.not_blk c (by rintro rfl;revert ht;decide),aO.not_blk c (by rintro rfl;revert ht;decide)⟩)⟩
theorem wP{Q:Ch→Prop}:∀(C L:List Ch),(∀x∈L,Q x)→(∀c∈C,c.d=false→Q c)→∀x∈AZ L C,Q x
 | [],_,h,_=>h
 |c::C,L,h,b=>wP C (jh fO c L) (Ae h (b c (List.mem_cons_self ..))) (fun d hd=>b d (List.mem_cons_of_mem _ hd))
structure Fk(D:Nat)(w:World)(b1 b2 b7 b10 B:Nat)(X Y:Array Value)(q:DP)(tt:Nat)(l:LG)(gen:Nat)(v:Value)(K:List (List Int))(k:Nat)(wr:World):Prop where
 ex:∃A c T t,bi [] (K.take k)=some t∧Bx prog bT w wr [⟨b1,65,X⟩,⟨b2,79,EP⟩,⟨b7,75,Y⟩,⟨b10,79,eM X Y (.slice A T.length c) (.int .u32 gen) (.bool false)⟩] (fun w=>bQ w q tt X∧(iE w l Y∧dW B w v K))∧pB D wr A T.length T∧cl T=aZ t∧Kn t∧(∀y∈T,vO y)∧T.length≤600*k
theorem oO{D:Nat}{w:World}{p:DP}{c:Nat}{X:Array Value}(h:bQ w p c X)(f:p.size<4):
    Calls prog 35 #[.agg X] w (ii D (opnS p) c w):=by
 have g:opnS p=(p,1,none):=by unfold opnS;rw[if_pos f]
 rw[g];have d:=Ld h.row;have j:=Ld h.size;have k:(p.size:Int)<4:=by omega
 have b:Hid (Bx prog bT w w [] (fun w=>bQ w p c X)):=Ld (Bx.start h (bN _ _ _));clear h f g
 go_enter func35,ntmps35
 go_wp2_with (first
  |(refine dJ b.out rfl rfl rfl cH d.out (by decide) ?_;clear b;intro i n b)
  |(refine bW b.out rfl rfl dx zS (by decide) ?_;clear b;intro i b2 b)
  |((with_reducible refine aA ⟨_,.load 3 _,_,_,_,_⟩ ?_);refine aR 0 b.out rfl rfl rfl rfl underlying3 rfl j.out ?_)
  |(refine bh 0 b.out rfl rfl rfl rfl rfl ?_)
  |(refine ze rfl rfl rfl (Ev d.out) ?_)
  |((with_reducible refine aA ⟨_,.store 79 _ _,_,_,_,_⟩ ?_);refine bj 1 b.out rfl rfl rfl rfl rfl rfl (cG.row ⟨d.out,jR⟩ rfl rfl rfl) dx ?_;clear b;intro i b))
 exact bodyPost_ret (aI rfl _ _ _ _ _ rfl (b.out.blk 1 rfl) underlying79 rfl (by rw[cG.size ⟨d.out,jR⟩];kernel_rfl)) rfl ⟨_,rfl,cG.row ⟨d.out,jR⟩ rfl rfl rfl,fun s l=>(by cases l),b.out.nw⟩
theorem yl{D:Nat}{w:World}{p:DP}{c:Nat}{X:Array Value}(h:bQ w p c X)(ht:c≤50000)(q:4≤p.size)(h0:iF p=0)(i:cM 3 1 w):
    Calls prog 35 #[.agg X] w (ii D (opnS p) c w):=by
 have j:opnS p=(p,2,none):=by unfold opnS;rw[if_neg (by omega),if_pos h0]
 rw[j];have d:=Ld h.row;have n:=Ld h.size;have r:¬(p.size:Int)<4:=by omega
 have l:Hid (∀W,bQ W p c X→aa w W→Calls prog 76 #[.agg X] W fun e w'=>e=.returned (.int .u32 0)∧aa W w'):=Ld fun W hd f=>by
  have h1:=qz hd ht (by omega) (i.new f);rw[h0]at h1;exact h1
 have b:Hid (Bx prog bT w w [] (fun w=>bQ w p c X)):=Ld (Bx.start h (bN _ _ _));clear h q j ht h0 i
 go_enter func35,ntmps35
 go_wp2_with (first
  |(refine dJ b.out rfl rfl rfl cH d.out (by decide) ?_;clear b;intro k z b)
  |(refine bW b.out rfl rfl dx zS (by decide) ?_;clear b;intro k b2 b)
  |((with_reducible refine aA ⟨_,.load 3 _,_,_,_,_⟩ ?_);refine aR 0 b.out rfl rfl rfl rfl underlying3 rfl n.out ?_)
  |(refine bh 0 b.out rfl rfl rfl rfl rfl ?_)
  |(go_at_call 76;refine(l.out _ b.out.r b.out.nw).mono ?_;rintro e C ⟨rfl,f⟩;have g:=b.out.new f;clear b f;have b:=Ld g;clear g)
  |(refine ze rfl rfl rfl (Ev d.out) ?_)
  |((with_reducible refine aA ⟨_,.store 79 _ _,_,_,_,_⟩ ?_);refine bj 1 b.out rfl rfl rfl rfl rfl rfl (cG.row ⟨d.out,jR⟩ rfl rfl rfl) dx ?_;clear b;intro k b))
 exact bodyPost_ret (aI rfl _ _ _ _ _ rfl (b.out.blk 1 rfl) underlying79 rfl (by rw[cG.size ⟨d.out,jR⟩];kernel_rfl)) rfl ⟨_,rfl,cG.row ⟨d.out,jR⟩ rfl rfl rfl,fun s u=>(by cases u),b.out.nw⟩
theorem DW{D:Nat}{w:World}{p:DP}{f:Nat}{X:Array Value}(h:bQ w p f X)(ht:f≤40000)(hu:Up p)(hr:(runL p (aS p.size (iF p))).2.length≤1600)(i6:D≤w.heap.size)(hL:cM 3 1 w):
    Calls prog 35 #[.agg X] w (ii D (opnS p) (f+hlf p.size) w):=by
 have up:∀e w',ii D (opnS p) f w e w'→ii D (opnS p) (f+hlf p.size) w e w':=by
  rintro e w' ⟨Z,he,hr,S,r⟩;refine⟨Z,he,hr,fun s h=>?_,r⟩;obtain⟨⟨X,Y,A,c,T,e',h1,h2⟩,h3⟩:=S s h;exact⟨⟨X,Y,A,c,T,e',h1.up (by omega),h2⟩,h3⟩
 by_cases h4:p.size<4
 ·exact(oO h h4).mono up
 by_cases h0:iF p=0
 ·exact(yl h (by omega) (by omega) h0 hL).mono up
 clear up;obtain⟨T0,g5⟩:=nm (f+hlf p.size);rw[←g5]
 have hc:iF p<4294967296:=by
  have lt:∀a,gP p a<4294967296:=fun a=>by
   unfold gP;split
   ·have S:=h.ok.rget (a:Int);have h1:=eC (xs:=(p.rget (a:Int)).take 4) (fun x hx=>S.2 x (List.mem_of_mem_take hx));rw[List.length_take,S.1]at h1;exact h1
   ·decide
  have h1:=lt 0;have h2:=lt 1;unfold iF;omega
 have l':=h.ok.s2;have HX:=Ld h.row;have HS:=Ld h.size;have c8:¬(p.size:Int)<4:=by omega
 obtain⟨gen,O⟩:=nm (iF p);have z:=eO (n:=p.size) (g:=gen) (by omega)
 have HC:Hid (∀W,bQ W p f X→aa w W→Calls prog 76 #[.agg X] W fun e w'=>e=.returned (.int .u32 gen)∧aa W w'):=Ld fun W hd r=>by
  rw[O];exact qz hd (by omega) (by omega) (hL.new r)
 have c5:aS p.size (iF p)=bP (fH gen p.size) (hlf p.size) gen:=by rw[←O];rfl
 obtain⟨U,g7⟩:=nm (fH gen p.size);obtain⟨hl,c4⟩:=nm (hlf p.size);rw[←g7,←c4]at z c5;rw[c5]at hr
 have i3:Hid (∀W,bQ W p f X→Calls prog 73 #[.agg X,.int .u32 gen] W fun e w'=>e=.returned (.tuple #[.int .i64 U,.int .i64 hl])∧aa W w'):=Ld fun W hd=>by
  have h1:=oP hd (by omega) gen;rw[←g7,←c4]at h1;exact h1
 have hk:=ca h.ok (l:=bP U hl gen) (eS z.2.1 (by omega)) ((bP U hl gen).size+1)
 have hW:=hu.wipe (l:=(runL p (bP U hl gen)).1) (by
  show(runs p (bP U hl gen) ((bP U hl gen).size+1)).1.first+(runs p (bP U hl gen) ((bP U hl gen).size+1)).1.size≤_
  rw[hk.2.1,hk.2.2.1];exact z.2.1) hk.1.used
 obtain⟨l,b3⟩:=nm (runL p (bP U hl gen)).1;obtain⟨K,hK⟩:=nm (runL p (bP U hl gen)).2;obtain⟨q,hq⟩:=nm (az p l).1
 have i2:Hid (∀W,bQ W p f X→aa w W→Calls prog 77 #[.agg X,.int .i64 U,.int .i64 hl,.int .u32 gen] W fun e w'=>∃X' Y' C cc,e=.returned (.tuple #[.agg X',.agg Y',.slice C K.length cc,.int .i64 0])∧bQ w' q (f+hl) X'∧iE w' l Y'∧dW W.heap.size w' (.slice C K.length cc) K∧aa W w'):=Ld fun W hd r=>by
  have h1:=Cj hd (by omega) (hL.new r) U hl gen z.1 z.2.1 (by omega) (by omega) hW.1;rw[←b3,←hK,←hq]at h1;exact h1
 rw[←b3]at hW;rw[←hK]at hr
 have N:Hid (opnS p=match bi [] K with|some t=>(q,0,some ⟨q,l,t,gen,false⟩)|none=>(q,2,none)):=Ld (by
  unfold opnS;rw[if_neg h4,if_neg h0,c5];dsimp only;rw[←O,←hK,←b3,←hq]
  cases bi [] K<;>rfl)
 have k1:Hid (l.Ok q.size):=Ld (by
  rw[hq,hW.2.2,b3]
  exact hk.1)
 obtain⟨F,hF⟩:=nm (opnS p);rw[←hF];rw[←hF]at N;have k6:¬(gen:Int)=0:=by omega
 have l3:((gen:Int)==0)=false:=by simpa using k6
 have i0:=Ld hr;have k3:Hid (T0=f+hl):=Ld (by rw[g5,c4]);have g8:=Ld i6;have d:Hid (Bx prog bT w w [] (fun w=>bQ w p f X)):=Ld (Bx.start h (bN _ _ _));clear h ht hu hr hL h4 h0 hc l' g5 i6 O z c5 g7 c4 hk hW b3 hK hq hF
 go_enter func35,ntmps35
 go_upto_region 1 with (first
  |(refine dJ d.out rfl rfl rfl cH HX.out (by decide) ?_;clear d;intro w1 b1 d)
  |(refine bW d.out rfl rfl dx zS (by decide) ?_;clear d;intro w1 b2 d))
 go_upto_region 11 with (first
  |(refine bW d.out rfl rfl dx zS (by decide) ?_;clear d;intro w1 J d)
  |((with_reducible refine aA ⟨_,.load 3 _,_,_,_,_⟩ ?_);refine aR 0 d.out rfl rfl rfl rfl underlying3 rfl HS.out ?_)
  |(refine bh 0 d.out rfl rfl rfl rfl rfl ?_)
  |(refine bh 2 d.out rfl rfl rfl rfl rfl ?_)
  |(go_at_call 76;refine(HC.out _ d.out.r d.out.nw).mono ?_;rintro e w3 ⟨rfl,r⟩;have u:=d.out.new r;clear d r;have d:=Ld u;clear u)
  |(go_at_call 73;refine(i3.out _ d.out.r).mono ?_;rintro e w3 ⟨rfl,r⟩;have u:=d.out.new r;clear d r;have d:=Ld u;clear u)
  |(go_at_call 77;refine(i2.out _ d.out.r d.out.nw).mono ?_;rintro e w4 ⟨X1,Y1,C,cc,rfl,hD,g3,c3,r⟩;have c0:=Ld hD.row;have c1:=Ld g3.row;obtain⟨B,c3⟩:∃B,dW B w4 (.slice C K.length cc) K:=⟨_,c3⟩;have u:=(d.out.call (R':=fun w=>bQ w q (f+hl) X1∧(iE w l Y1∧dW B w (.slice C K.length cc) K)) r ⟨hD,g3,c3⟩ ((bN _ _ _).and ((gW _ _).and (ua _ _ _)))).rel (R':=fun w=>bQ w q (f+hl) X1∧(iE w l Y1∧dW B w (.slice C K.length cc) K)) (fun h=>h.2) ((bN _ _ _).and ((gW _ _).and (ua _ _ _)));clear d r hD g3 c3;have d:=Ld u;clear u)
  |(refine bW d.out rfl rfl ig zL (by decide) ?_;clear d;intro w1 b7 d)
  |((with_reducible refine aA ⟨_,.store 65 _ _,_,_,_,_⟩ ?_);refine bj 0 d.out rfl rfl rfl rfl rfl rfl c0.out cH ?_;clear d;intro w1 d)
  |((with_reducible refine aA ⟨_,.store 75 _ _,_,_,_,_⟩ ?_);refine bj 2 d.out rfl rfl rfl rfl rfl rfl c1.out ig ?_;clear d;intro w1 d)
  |(refine zf rfl rfl rfl rfl rfl (Fq ⟨c0.out,c1.out⟩ gen) ?_)
  |((with_reducible refine aA ⟨_,.store 79 _ _,_,_,_,_⟩ ?_);refine bj 3 d.out rfl rfl rfl rfl rfl rfl (cG.row ⟨c0.out,c1.out⟩ rfl rfl rfl) dx ?_;clear d;intro w1 d))
 have f':Hid (Fk D w b1 b2 b7 J B X1 Y1 q (f+hl) l gen (.slice C K.length cc) K 0 w1):=Ld ⟨⟨none,0,[],[],rfl,d.out,pB.nil _ _,by rw[show aZ []=[]from List.Perm.eq_nil (ei [])];rfl,⟨List.nodup_nil,fun e h=>(nomatch h)⟩,fun y hy=>(nomatch hy),Nat.zero_le _⟩⟩;clear d HC i3 i2 HX HS;obtain⟨n,hn⟩:=nm K.length;have i':=Ld hn;rw[←hn]at f' i0⊢;clear hn;have k9:=i0.out
 go_wp2_with fail
 go_loopw [11,12,13] (fun i _ _ wr=>∃(k:Nat),k≤n∧i=.int .i64 k∧Hid (Fk D w b1 b2 b7 J B X1 Y1 q (f+hl) l gen (.slice C n cc) K k wr)) (fun i _ _ _=>n-(intOf i).toNat)
 case atStart=>exact⟨0,Nat.zero_le _,rfl,f'⟩
 case round=>
  clear f';obtain⟨k,hk,rfl,HI⟩:=hrel;obtain⟨A,c,T,t,j6,u,hT,j3,i9,hS,b0⟩:=HI.out.ex;have d:=Ld u;have HT:=Ld hT;have I:=Ld (And.intro j3 (And.intro i9 (And.intro hS b0)));have b9:=Ld j6;have G:Hid (cG X1 Y1):=Ld ⟨c0.out,c1.out⟩;clear HI j6 u hT j3 i9 hS b0
  by_cases c8:k<n
  ·have i1:=Ld c8;have k8:(k:Int)<(n:Int):=by omega
   have l5:(0:Int)≤(k:Int):=by omega
   obtain⟨ga,o,A',c',b,i7,hA,j2,j0,g4,j4,j1⟩:=d.out.r.2.2.out i'.out c8;subst hA;have g9:=Ld i7
   have b':Rd (fun j=>j<wr.heap.size∧aO 5 wr j) wr 1 A' b.length (am b):=⟨g4.1,fun hn=>by
    obtain⟨ad,e,h2,h3,h4⟩:=g4.2 hn
    exact⟨ad,e,⟨h3,h2.2⟩,h3,h4⟩⟩
   have V:=Ld (uV A' b.length c' b wr b' (fun j hj=>hj.1) j0 j1 (by unfold maxLen at j4;omega));rw[ym]at V;clear i7 j0 g4 j4 j1 b'
   cases hp:dL b with
   |none=>
    have b8:=Ld hp;rw[hp]at V
    have d':Hid (F=(q,2,none)):=Ld (by
     have h1:=N.out;rw[oF b9.out g9.out b8.out]at h1
     exact h1)
    clear hp
    go_wp2_with (first
     |(go_at_call 78;refine V.out.mono ?_;rintro e w6 ⟨S,r⟩;rcases S with⟨-,rfl⟩|⟨A6,n6,c6,L,h0,-⟩;rotate_left;(cases h0);have u:=d.out.new r;clear d r;have d:=Ld u;clear u)
     |((with_reducible refine aA ⟨_,.load 79 _,_,_,_,_⟩ ?_);refine bh 3 d.out rfl rfl rfl rfl rfl ?_)
     |((with_reducible refine aA ⟨_,.store 79 _ _,_,_,_,_⟩ ?_);refine bj 1 d.out rfl rfl rfl rfl rfl rfl (cG.row G.out rfl rfl rfl) dx ?_;clear d;intro w1 d))
    refine bodyPost_ret (aI rfl _ _ _ _ _ rfl (d.out.blk 1 rfl) underlying79 rfl (by rw[cG.size G.out];kernel_rfl)) rfl ?_;rw[d'.out];exact⟨_,rfl,cG.row G.out rfl rfl rfl,fun s S=>(by cases S),d.out.nw⟩
   |some L0=>
    have b8:=Ld hp;rw[hp]at V;clear hp
    go_upto_region 17 with(go_at_call 78;refine V.out.mono ?_;rintro e w6 ⟨S,r⟩;rcases S with⟨h0,-⟩|⟨A6,n6,c6,L,h0,rfl,-,hL⟩;(cases h0);have H:Hid (L0=L.map cZ∧pB D w6 A6 n6 L):=Ld ⟨by injection h0,hL.ty (fun j hj=>.inr (hj.2.fr (r.toFr ia) (fun x=>x.elim)))⟩;have k4:=Ld (HT.out.new r);have l2:=Ld r;have u:=d.out.new r;clear d r h0 hL HT;have d:=Ld u;clear u)
    have M:Hid (dv (L.map cZ)=true):=Ld (by rw[←H.out.1];exact oD b8.out)
    have l7:n6≤600:=by
     have h1:=(gR M.out).2.1;rw[List.length_map,H.out.2.len]at h1;exact h1
    have l1:=I.out.2.2.2;have j9:=Ld (DT A T.length c T A6 n6 c6 L w6 k4.out H.out.2 (by omega));clear l1;have c9:Hid (∀w7,aa w6 w7→D≤J∧¬aO 153 w7 J∧¬aO 5 w7 J):=Ld fun w7 r=>⟨Nat.le_trans g8.out (d.out.ty ⟨J,_,_⟩ (by first|exact List.mem_cons_of_mem _ (List.mem_cons_of_mem _ (List.mem_cons_of_mem _ (List.mem_cons_self ..))))).2,aO.not_blk ((d.out.new r).blk 3 rfl) (show 79≠153 by decide),aO.not_blk ((d.out.new r).blk 3 rfl) (show 79≠5 by decide)⟩
    go_wp2_with (first
     |((with_reducible refine aA ⟨_,.load 77 _,_,_,_,_⟩ ?_);refine aR 3 d.out rfl rfl rfl rfl underlying77 rfl G.out.c.1 ?_)
     |(go_at_call 79;refine j9.out.mono ?_;rintro e w7 ⟨⟨A7,n7,c7,rfl,j'⟩,r⟩;have i4:=Ld j';have k0:=Ld r;have u:=d.out.new r;clear d r j';have d:=Ld u;clear u)
     |((with_reducible refine aA ⟨_,.store 77 _ _,_,_,_,_⟩ ?_);refine Ed 3 d.out rfl rfl rfl rfl rfl rfl rfl (by kernel_rfl) (by rw[cG.size G.out];decide) (cG.set G.out _).1 ?_;clear d;intro w8 d F8))
    clear N
    have k':Hid (Fk D w b1 b2 b7 J B X1 Y1 q (f+hl) l gen (.slice (some ⟨ga,o,none⟩) n cc) K (k+1) w8):=Ld (by
     have g6:=i4.out.fr F8.out (fun j hj=>by rw[show j=J from hj];exact c9.out _ k0.out);have k5:∀y∈L,aU y.k.xs:=fun y hy=>(H.out.2.el y hy).k.byt
     have j7:=Cf L I.out.1 I.out.2.1 k5;have j5:=g6.len;have i5:=d.out;rw[←j5]at g6;rw[←j5]at i5;refine⟨A7,c7,AZ T L,nY t L,?_,i5,g6,j7.1,j7.2,?_,?_⟩
     ·rw[rt,←H.out.1];exact qy b9.out g9.out b8.out
     ·refine wP L T I.out.2.2.1 (fun y hy hd=>⟨hd,?_⟩);have h1:=(gR M.out).2.2 _ (List.mem_map.2 ⟨y,hy,rfl⟩);obtain⟨-,h2,h3,-⟩:=mB h1;have h4:=(H.out.2.el y hy).k.len;have h5:=(H.out.2.el y hy).v.len;exact⟨by rw[←h4];exact h2,by rw[←h5];exact h3⟩
     ·have h1:=wQ T L;have h2:=I.out.2.2.2;have h3:=(gR M.out).2.1;rw[List.length_map]at h3
      omega)
    clear d F8 i4 H b9 I M
    go_wp2_with fail
    go_roundw
    case rel=>exact⟨k+1,i1.out,by go_num,k'⟩
    case measure=>simp[intOf];have:=i1.out;omega
  ·have l4:¬(k:Int)<(n:Int):=by omega
   have k7:k=n:=by omega
   have k2:Hid (bi [] K=some t):=Ld (by
    have h1:=b9.out;rw[k7,i'.out,List.take_length]at h1
    exact h1)
   have d':Hid (F=(q,0,some ⟨q,l,t,gen,false⟩)):=Ld (by
    have h1:=N.out;rw[k2.out]at h1
    exact h1)
   have j8:Hid (D≤b2∧¬aO 153 wr b2∧¬aO 5 wr b2):=Ld ⟨Nat.le_trans g8.out (d.out.ty ⟨b2,_,_⟩ (List.mem_cons_of_mem _ (List.mem_cons_self ..))).2,aO.not_blk (d.out.blk 1 rfl) (show 79≠153 by decide),aO.not_blk (d.out.blk 1 rfl) (show 79≠5 by decide)⟩;clear c8
   go_wp2_with (first
    |((with_reducible refine aA ⟨_,.load 79 _,_,_,_,_⟩ ?_);refine bh 3 d.out rfl rfl rfl rfl rfl ?_)
    |((with_reducible refine aA ⟨_,.store 79 _ _,_,_,_,_⟩ ?_);refine Cx 1 d.out rfl rfl rfl rfl rfl rfl (cG.row G.out rfl rfl rfl) dx ?_;clear d;intro w9 d F9))
   refine bodyPost_ret (aI rfl _ _ _ _ _ rfl (d.out.blk 1 rfl) underlying79 rfl (by rw[cG.size G.out];kernel_rfl)) rfl ?_;rw[d'.out];refine⟨_,rfl,cG.row G.out rfl rfl rfl,fun s S=>?_,d.out.nw⟩;injection S with S;subst S;exact⟨⟨X1,Y1,A,c,T,rfl,by rw[k3.out];exact d.out.r.1,d.out.r.2.1,HT.out.fr F9.out (fun j hj=>by rw[show j=b2 from hj];exact j8.out),I.out.1,I.out.2.2.1⟩,k1.out⟩
end Go.Proofs.YtfchcdbfalgdlaaGreatDoor
namespace Go.Proofs.YtfchcdbfalgdlaaGreatDoor
open _root_.Go.Proofs.Tryz
open Go.RowKit Go.Sort Go.Maps
def Dc(W w:World)(gs gd bs bf bt:Nat)(s:SW)(mm:Nat)(w':World):Prop:=ea W w' gs gd bs bf bt s mm∧dI (iZ bs bf bt) W w w'
def ur(W w:World)(gs gd bs bf bt mm:Nat)(r:SW×Int)(e:Ending)(w':World):Prop:=e=.returned (dG r.2)∧Dc W w gs gd bs bf bt r.1 mm w'
section
variable {W w w':World}{gs gd bs bf bt mm:Nat}{s:SW}
theorem ja.to{gl gt m:Nat}{v:Value}{X:Nat→Prop}{E:fi}(h:ja W w' gs gd bs bf bt s mm gl gt v X m E)(b:dI (iZ bs bf bt) W w w'):Dc W w gs gd bs bf bt s mm w':=⟨⟨gl,gt,v,X,m,E,h⟩,b⟩
theorem ea.keep(h:ea W w gs gd bs bf bt s mm):Dc W w gs gd bs bf bt s mm w:=⟨h,dI.new (aa.refl _)⟩
theorem qN(h:ea W w gs gd bs bf bt s mm)(hN:aa W w)(hL:dp 4 2 W)(hm:mm≤1000000)(hT:jw s.t):
    Calls prog 16 #[.pointer (some ⟨gs,0,none⟩)] w (ur W w gs gd bs bf bt mm (bm s)):=by
 have HI:=Ld h;obtain⟨gl,gt,v,X,m,E,h⟩:=h;have HX:=Ld h;have S:=h.c3;have c4:=h.c4;obtain⟨g,G⟩:=nm s.gen;obtain⟨br,d⟩:=nm s.broken;obtain⟨R,V⟩:=nm (bm s);have N:Hid (R=if br=true then(s,(10:Int))else if g=4294967295 then(s,(9:Int))else if(dt s).2.2≠0 then({s with p:=(dt s).1,broken:=gh (dt s).2.2},(dt s).2.2)else({s with p:=(dt s).1,l:=(dt s).2.1,gen:=s.gen+1},0)):=Ld (by rw[V,d,G];rfl);rw[←V];rw[←G]at S;rw[←d]at c4
 cases br with
 |true=>
  have c:=Ld (N.out.trans (if_pos rfl));clear h hN hL hm hT G d V S N
  go_enter func16,ntmps16
  go_wp2_with fail
  go_ret;rw[c.out];exact⟨by rw[bC (show(10:Int)≠0 by decide)];rfl,HI.out.keep⟩
 |false=>
  have c:=Ld (N.out.trans (if_neg (by decide)))
  by_cases n:g=4294967295
  ·have b:=Ld (c.out.trans (if_pos n));rw[n]at S;clear h hN hL hm hT G d V N c n
   go_enter func16,ntmps16
   go_wp2_with fail
   go_ret;rw[b.out];exact⟨by rw[bC (show(9:Int)≠0 by decide)];rfl,HI.out.keep⟩
  ·have b:=Ld (c.out.trans (if_neg n));have z:=Ld (yY h hN hL (by have:=h.gen;omega) (by have:=h.mm;omega) (by have:=h.mm;omega) hT);obtain ⟨r,hr⟩:=nm (dt s);rw [←hr] at z b;have f:Hid (g=s.gen∧g+1<4294967296∧s.broken=false):=Ld ⟨G,by have:=h.gen;omega,d.symm⟩;have b7:¬(g:Int)=4294967295:=by omega
   clear h hN hL hm hT G d V N c n hr
   go_enter func16,ntmps16
   go_wp2_with fail
   refine z.out.mono ?_;rintro e H ⟨pl,v1,rfl,Y,U,b0⟩;have i:=Ld Y;have J:=Ld U;have C:=Ld b0;clear Y U b0 z S c4 b7
   by_cases h0:r.2.2=0
   ·obtain ⟨gn,rfl,b3,b1⟩:=C.out h0;have D:=Ld (b.out.trans (if_neg (by rw [h0];simp)));have M:=Ld (And.intro b3 b1);rw [h0,bY];have q:=i.out.blk;have f1:H.frozen? ⟨gs,1,none⟩=false:=q.frozen 1;have c1:H.cell? ⟨gs,1,none⟩=some (.pointer (some ⟨gl,0,none⟩)):=i.out.c1;have f3:∀u,(H.setCell ⟨gs,1,none⟩ u).frozen? ⟨gs,3,none⟩=false:=fun u=>(q.set 1 u).frozen 3
    have S:∀u,(H.setCell ⟨gs,1,none⟩ u).cell? ⟨gs,3,none⟩=some (.int .u32 g):=fun u=>by rw[f.out.1];exact(q.set 1 u).cell 3
    clear q;obtain⟨g2,b'⟩:=nm (g+1);have e1:(g:Int)+1=(g2:Int):=by omega
    have e2:IntKind.u32.wrap (g2:Int)=(g2:Int):=by rw[IntKind.wrap_u32];have:=f.out.2.1;omega
    have I:Hid (g2=s.gen+1∧g2<4294967296):=Ld (by rw[b',←f.out.1];exact⟨rfl,f.out.2.1⟩);clear b';clear b3 b1 C h0 b
    go_wp2_with fail
    go_ret;rw[D.out];obtain⟨j,F⟩:=i.out.own (w':=(H.setCell ⟨gs,1,none⟩ (.pointer (some ⟨gn,0,none⟩))).setCell ⟨gs,3,none⟩ (.int .u32 g2)) (((Fr.refl (fun k=>k=gs) H).setCell (p:=⟨gs,1,none⟩) (fun _=>rfl) _).setCell (p:=⟨gs,3,none⟩) (fun _=>rfl) _) (gl':=gn) (gen:=g2) (l:=r.2.1) (br:=s.broken) (by have:=(i.out.blk.set 1 (.pointer (some ⟨gn,0,none⟩))).set 3 (.int .u32 g2);simpa using this) M.out.2 M.out.1 I.out.2;have e3:({({s with p:=r.1}:SW)with l:=r.2.1,gen:=g2,broken:=s.broken}:SW)={s with p:=r.1,l:=r.2.1,gen:=s.gen+1}:=by rw[I.out.1]
    rw[e3]at j;exact⟨rfl,j.to (J.out.tr F)⟩
   ·have D:=Ld (b.out.trans (if_pos h0));have HE:=Ld (bC h0);have O:=Ld (pd i.out r.2.2);rw[HE.out]at O⊢;clear h0 b C
    go_wp2_with fail
    refine O.out.mono ?_;rintro e w2 ⟨rfl,j,F⟩
    go_wp2_with fail
    go_ret;rw[D.out]
    have e3:({({s with p:=r.1}:SW)with broken:=({s with p:=r.1}:SW).broken||gh r.2.2}:SW)={s with p:=r.1,broken:=gh r.2.2}:=by
     show({s with p:=r.1,broken:=s.broken||gh r.2.2}:SW)=_;rw[f.out.2.2,Bool.false_or]
    rw[e3]at j;exact⟨by rw[HE.out];rfl,j.to (J.out.tr F)⟩
end
section
variable {W w w':World}{gs gd bs bf bt mm gl gt m:Nat}{s:SW}{v v':Value}{X:Nat→Prop}{E:fi}
theorem ja.logd(h:ja W w gs gd bs bf bt s mm gl gt v X m E){q:DP}{l:LG}(c:xl w W.heap.size gl gd bs bf v q l w' v')(i:q.size=s.p.size):ja W w' gs gd bs bf bt {s with p:=q,l:=l} mm gl gt v' X m E∧dI (iZ bs bf bt) W w w':=by
 have hS:∀k,(k=gl∨bJ gd bs bf v k)→AX (iZ bs bf bs) W w k∧k≠gs:=fun k b=>by
  rcases b with rfl|b
  ·exact⟨⟨h.lo.2,.inr (.inr (.inl ⟨_,_,h.lg.blk⟩))⟩,fun e=>ab.ne_ h.lg.blk h.blk (by decide) e⟩
  ·exact⟨(h.dkfr k b).1,(h.dkfr k b).2.1⟩
 have f:dI (iZ bs bf bs) W w w':=dI.of c.fr fun k b=>(hS k b).1
 have d:∀k,iZ bs bf bs k→iZ bs bf bt k:=fun k b=>by
  rcases b with e|e|e
  ·exact .inl e
  ·exact .inr (.inl e)
  ·exact .inl e
 refine⟨⟨h.blk.fr c.fr (fun g=>(hS _ g).2 rfl),c.dk,c.lg,dI.tb f h.tb (fun k b=>⟨?_,h.mps k (d k b) _,h.mps k (d k b) _⟩),h.lo,h.ne,h.ct,h.mm,h.gen,by show 4≤q.size;rw[i];exact h.n4⟩,f.mono fun k _=>d k⟩;rintro rfl;rcases b with e|e|e
 ·exact h.ne.1 e
 ·exact h.ne.2 e
 ·exact h.ne.1 e
def mQ(W w:World)(q:Nat→Prop):Prop:=∀k,q k→k<W.heap.size∨aO 5 w k∨aO 92 w k
theorem mQ.not{M:Nat→Prop}{q:Nat→Prop}(h:mQ W w q)(d:∀k,M k→∀t,¬aO t w k):∀k,q k→¬AX M W w k:=fun k f b=>by
 rcases h k f with e|e|e
 ·exact absurd b.1 (by omega)
 ·exact gj (fun c=>d k c _ e) (by decide) (by decide) (by decide) (by decide) e b
 ·exact gj (fun c=>d k c _ e) (by decide) (by decide) (by decide) (by decide) e b
theorem mQ.kps{M:Nat→Prop}{q:Nat→Prop}(h:mQ W w q)(d:∀k,M k→∀t,¬aO t w k)(c:dI M W w w'):mQ W w' q:=fun k b=>by
 rcases h k b with e|e|e
 ·exact .inl e
 ·exact .inr (.inl (e.fr c (h.not d k b)))
 ·exact .inr (.inr (e.fr c (h.not d k b)))
theorem uv(h:ea W w gs gd bs bf bt s mm)(hN:aa W w)(hL:dp 4 2 W)(hm:mm≤1000000)(hT:jw s.t){q:Nat→Prop}(A:Option Addr)(n c:Nat)(b:List Int)(hR:Rd q w 1 A n (am b))(hq:mQ W w q)(hb:aU b)(hn:n≤100000000):
    Calls prog 60 #[.pointer (some ⟨gs,0,none⟩),.slice A n c] w (ur W w gs gd bs bf bt mm (fo s b)):=by
 obtain⟨gl,gt,v,X,m,E,h⟩:=h;have HX:=Ld h;have HN:=Ld hN;have HL:=Ld hL;have HT:=Ld (And.intro hm hT);have HQ:=Ld hq;have HR:=Ld hR;have HB:=Ld (And.intro hb hn);have f:=Ld (ra h.lg h.dk (hL.new hN) A n c b hR hb (by unfold maxLen;omega));have HZ:=Ld (mp s.p s.l b);obtain⟨a,ha⟩:=nm (aD s.p s.l b);obtain⟨R,D⟩:=nm (fo s b)
 have k:Hid (R=if a.2.2≠8 then(({s with p:=a.1,l:=a.2.1}:SW),a.2.2)else if(bm {s with p:=a.1,l:=a.2.1}).2≠0 then bm {s with p:=a.1,l:=a.2.1} else
  ({(bm {s with p:=a.1,l:=a.2.1}).1 with p:=(aD (bm {s with p:=a.1,l:=a.2.1}).1.p (bm {s with p:=a.1,l:=a.2.1}).1.l b).1,l:=(aD (bm {s with p:=a.1,l:=a.2.1}).1.p (bm {s with p:=a.1,l:=a.2.1}).1.l b).2.1},(aD (bm {s with p:=a.1,l:=a.2.1}).1.p (bm {s with p:=a.1,l:=a.2.1}).1.l b).2.2)):=Ld (by rw[D,ha];rfl)
 rw[←D];rw[←ha]at f HZ;have c1:=h.c1;clear h hN hL hm hT hR hq hb hn ha D
 go_enter func60,ntmps60
 go_wp2_with fail
 refine f.out.mono ?_;rintro e w1 ⟨rfl,v1,S⟩;obtain⟨U,M⟩:=HX.out.logd S HZ.out;have I:=Ld U;have z:=Ld M;have g:=Ld (rv a.2.2 8 (by decide) w1);obtain⟨ev,F⟩:=nm (dG a.2.2);have Y:=Ld F;rw[←F]at g⊢;clear U M S F f c1
 by_cases G:a.2.2=8
 ·rw[decide_eq_true G]at g;have d:=Ld (k.out.trans (if_neg (by rw[G];simp)));have C:=Ld (qN ⟨_,_,_,_,_,_,I.out⟩ (z.out.nw HN.out) HL.out HT.out.1 HT.out.2);obtain⟨r,hr⟩:=nm (bm {s with p:=a.1,l:=a.2.1});rw[←hr]at C d;clear G k hr
  go_wp2_with fail
  refine g.out.mono ?_;rintro e w2 ⟨rfl,rfl⟩
  go_wp2_with fail
  refine C.out.mono ?_;rintro e w2 ⟨rfl,O,N⟩;have H:=Ld O;have u:Hid (dI (iZ bs bf bt) W w w2):=Ld (z.out.tr N);clear O N C g
  by_cases h0:r.2=0
  ·have j:=Ld (d.out.trans (if_neg (by rw[h0];simp)));rw[h0,bY];obtain⟨b7,b8,v3,X3,m3,E3,i⟩:=H.out;have b':=Ld i;have b9:=i.c1;have f:=Ld (ra i.lg i.dk (HL.out.new (u.out.nw HN.out)) A n c b (HR.out.fr u.out (HQ.out.not HX.out.mps)) HB.out.1 (by have:=HB.out.2;unfold maxLen;omega));have J:=Ld (mp r.1.p r.1.l b);obtain⟨a3,V⟩:=nm (aD r.1.p r.1.l b);rw[←V]at f J j;clear h0 i V d
   go_wp2_with fail
   refine f.out.mono ?_;rintro e w4 ⟨rfl,v4,b1⟩;obtain⟨b3,b0⟩:=b'.out.logd b1 J.out
   go_wp2_with fail
   go_ret;rw[j.out];exact⟨rfl,b3.to (u.out.tr b0)⟩
  ·have j:=Ld (d.out.trans (if_pos h0));have HE:=Ld (bC h0);rw[HE.out];clear h0 d
   go_wp2_with fail
   go_ret;rw[j.out];exact⟨by rw[HE.out];rfl,H.out,u.out⟩
 ·rw[decide_eq_false G]at g;have d:=Ld (k.out.trans (if_pos G));clear G k
  go_wp2_with fail
  refine g.out.mono ?_;rintro e w2 ⟨rfl,rfl⟩
  go_wp2_with fail
  go_ret;rw[d.out];exact⟨by rw[Y.out];rfl,I.out.to z.out⟩
end
theorem vF(s:SW):(bm s).1.t=s.t:=by
 unfold bm;split
 ·rfl
 ·split
  ·rfl
  ·simp only;split<;>rfl
theorem Dg(s:SW)(b:List Int):(fo s b).1.t=s.t:=by
 unfold fo;split
 ·rfl
 ·simp only;split
  ·exact vF _
  ·exact vF _
section
variable {W w w':World}{gs gd bs bf bt mm mm' gl gt m m':Nat}{s:SW}{v v':Value}{X X':Nat→Prop}{E E':fi}
theorem ea.up(h:ea W w gs gd bs bf bt s mm)(b:mm≤mm'):ea W w gs gd bs bf bt s mm':=by
 obtain⟨gl,gt,v,X,m,E,h⟩:=h;exact⟨gl,gt,v,X,m,E,h.blk,h.dk,h.lg,h.tb,h.lo,h.ne,h.ct,⟨Nat.le_trans h.mm.1 b,Nat.le_trans h.mm.2 b⟩,h.gen,h.n4⟩
theorem ja.tabd(h:ja W w gs gd bs bf bt s mm gl gt v X m E)(hF:Fr (fun k=>k=bt) w w')(d:dl X' w' W.heap.size gt bt m' E')(j:m'≤mm'∧E'.length≤mm'):ja W w' gs gd bs bf bt {s with t:=cY E'} mm' gl gt v X' m' E'∧dI (iZ bs bf bt) W w w':=by
 obtain⟨f,c,-⟩:=h.tb.map;have b:∀k t cs,ab w k t cs→k≠bt:=fun k t cs g e=>aO.not_map (t:=t) c (by rw[←e];exact⟨_,_,g⟩)
 refine⟨⟨h.blk.fr hF (b _ _ _ h.blk),h.dk.fr hF (fun k e i=>?_),h.lg.fr hF (b _ _ _ h.lg.blk),d,h.lo,h.ne,rfl,j,h.gen,h.n4⟩,dI.of hF (fun k e=>?_)⟩
 ·subst e;rcases i with e | e | e | l
  ·exact b _ _ _ h.dk.blk e.symm
  ·exact h.ne.1 e
  ·exact h.ne.2 e
  ·exact aO.not_map c (cJ h.dk.own l)
 ·subst e;exact⟨h.tb.lb,.inl (.inr (.inr rfl))⟩
theorem uz(h:ea W w gs gd bs bf bt s mm)(hN:aa W w)(hL:dp 4 2 W)(hm:mm≤900000)(hT:jw s.t){q:Nat→Prop}(A:Option Addr)(n c:Nat)(L:List Ch)(hR:Rd q w 3 A n (L.flatMap Ch.cells))(hl:L.length=n)(H:∀c∈L,c.In q w)(hq:mQ W w q)(hn:n≤100000000)(hz:∀c∈L,c.k.n≤maxLen∧c.v.n≤maxLen):
    Calls prog 15 #[.pointer (some ⟨gs,0,none⟩),.slice A n c] w (ur W w gs gd bs bf bt (mm+600) (eQ s (L.map cZ))):=by
 have HI:=Ld h;obtain⟨gl,gt,v,X,m,E,hX⟩:=h;have j:px w A n L:=⟨dw hR,hl,fun c hc=>Ch.In.szs (H c hc)⟩
 have i7:=Ld j.lens;have HX:=Ld hX;have HN:=Ld hN;have HL:=Ld hL;have HT:=Ld (And.intro hm hT);have HQ:=Ld hq;have HR:=Ld hR;have b0:=Ld (And.intro hl H);obtain⟨R,U⟩:=nm (eQ s (L.map cZ));obtain⟨br,V⟩:=nm s.broken
 have HC:Hid (R=if dg L=false then(s,(2:Int))else if br=true then(s,(10:Int))else if 65536<(bR L).length then(s,(3:Int))else
     if(fo s (bR L)).2≠0 then({(fo s (bR L)).1 with broken:=(fo s (bR L)).1.broken||gh (fo s (bR L)).2},(fo s (bR L)).2)else
     if(fo s (bR L)).1.p.scode≠0 then({(fo s (bR L)).1 with p:=(fo s (bR L)).1.p.doSync,broken:=(fo s (bR L)).1.broken||gh (fo s (bR L)).1.p.scode},(fo s (bR L)).1.p.scode)else
     ({(fo s (bR L)).1 with p:=(fo s (bR L)).1.p.doSync,t:=doPs (fo s (bR L)).1.t (L.map cZ)},0)):=Ld (by rw[U,V,←gy j.lens,jg j.lens];rfl)
 rw[←U];have O:=hX.c4;rw[←V]at O
 by_cases i:dg L=false
 ·have d:=Ld (HC.out.trans (if_pos i));have g8:=Ld (Cb A n c L w j hn hz i);clear hX hN hL hm hT hR hl H hq hn hz j U V i HC O
  go_enter func15,ntmps15
  go_wp2_with fail
  refine g8.out.mono ?_;rintro e w1 ⟨rfl,b⟩
  go_wp2_with fail
  go_ret;rw[d.out];exact⟨by rw[bC (show(2:Int)≠0 by decide)];rfl,(HI.out.up (Nat.le_add_right _ _)).new b,dI.new b⟩
 have d:=Ld (HC.out.trans (if_neg i));have i:dg L=true:=by simpa using i
 have b9:=Ld i;have D:=Ld (rP A n c L w j i)
 have c':Hid (aU (bR L)):=Ld (by
  rw[jg j.lens];refine jO fun x hx=>?_
  obtain⟨y,hy,rfl⟩:=List.mem_map.1 hx
  exact⟨(H y hy).k.byt,(H y hy).v.byt⟩)
 obtain⟨pb,g3⟩:=nm (bR L);rw[←g3]at d D c';obtain⟨pn,b7⟩:=nm pb.length;rw[←b7]at d D;have j':=Ld b7;clear hX hN hL hm hT hR hl H hq hn hz j U V i HC g3 b7
 cases br with
 |true=>
  have C:=Ld (d.out.trans (if_pos rfl));clear d
  go_enter func15,ntmps15
  go_wp2_with fail
  refine D.out.mono ?_;rintro e w1 ⟨⟨A1,c1,b1,rfl,-,-⟩,b⟩;have O:=b.cell_ O;have z:=Ld b;clear b
  go_wp2_with fail
  go_ret;rw[C.out];exact⟨by rw[bC (show(10:Int)≠0 by decide)];rfl,(HI.out.up (Nat.le_add_right _ _)).new z.out,dI.new z.out⟩
 |false=>
  have C:=Ld (d.out.trans (if_neg (by decide)))
  by_cases M:65536<pn
  ·have l:=Ld (C.out.trans (if_pos M));have c3:(65536:Int)<(pn:Int):=by omega
   clear d C M
   go_enter func15,ntmps15
   go_wp2_with fail
   refine D.out.mono ?_;rintro e w1 ⟨⟨A1,c1,b1,rfl,-,-⟩,b⟩;have O:=b.cell_ O;have z:=Ld b;clear b
   go_wp2_with fail
   go_ret;rw[l.out];exact⟨by rw[bC (show(3:Int)≠0 by decide)];rfl,(HI.out.up (Nat.le_add_right _ _)).new z.out,dI.new z.out⟩
  ·have l:=Ld (C.out.trans (if_neg M));have c3:¬(65536:Int)<(pn:Int):=by omega
   have g7:=Ld M;clear d C M
   go_enter func15,ntmps15
   go_wp2_with fail
   refine D.out.mono ?_;rintro e w1 ⟨⟨A1,c1,b1,rfl,-,S⟩,b⟩;have O:=b.cell_ O;have z:=Ld b;have i9:=Ld S;have Y:=Ld (uv (HI.out.new b) (HN.out.tr b) HL.out (by have:=HT.out.1;omega) HT.out.2 A1 pn c1 pb (Rd.own S rfl) (fun k hk=>.inr (.inl (kq S hk))) c'.out (by have:=g7.out;omega));have i':=Ld (Dg s pb);obtain⟨r,hr⟩:=nm (fo s pb);rw[←hr]at Y l i';clear b S hr D
   go_wp2_with fail
   refine Y.out.mono ?_;rintro e w2 ⟨rfl,c9,c7⟩;have c0:=Ld c9;have b8:Hid (dI (iZ bs bf bt) W w w2):=Ld ((dI.new z.out).tr c7);clear c9 c7 Y O c3
   by_cases h0:r.2=0
   ·have u:=Ld (l.out.trans (if_neg (by rw[h0];simp)));rw[h0,bY];obtain⟨i0,i1,v3,X3,m3,E3,F⟩:=c0.out;have b3:=Ld F;have i5:=F.c0;clear h0 F l
    go_wp2_with fail
    refine(jV b3.out.dk).mono ?_;rintro e w4 ⟨rfl,v4,c5,c6,i3⟩;obtain⟨d',c8⟩:=b3.out.disk c6 b3.out.dkfr c5 (DP.doSync_size _);have g:=Ld d';have I:Hid (dI (iZ bs bf bt) W w w4):=Ld (b8.out.tr c8);obtain⟨sc,g4⟩:=nm r.1.p.scode;rw[←g4]at u⊢;clear c5 c6 i3 d' c8 i5 g4
    by_cases h1:sc=0
    ·have b':=Ld (u.out.trans (if_neg (by rw[h1];simp)));rw[h1,bY];have j0:=g.out.c2;obtain⟨f,hf,-⟩:=g.out.tb.map;have g9:=Ld (HR.out.fr I.out (HQ.out.not HX.out.mps))
     have g5:=Ld (pR (P:=q) g.out.tb A n c L g9.out b0.out.1 (fun y hy=>(b0.out.2 y hy).frq I.out (HQ.out.not HX.out.mps)) (fun k hk e=>by
      rcases (HQ.out.kps HX.out.mps I.out) k hk with e1|e1|e1
      ·have:=g.out.tb.lb;omega
      ·rw[e]at e1;exact aO.not_map hf e1
      ·rw[e]at e1;exact aO.not_map hf e1) b9.out (by have:=g.out.mm;have:=HT.out.1;omega))
     have i6:=Ld g.out.ct;have g6:=Ld g.out.mm;clear h1 u hf
     go_wp2_with fail
     refine g5.out.mono ?_;rintro e w5 ⟨rfl,X5,E5,i4,f',i2,-⟩
     obtain⟨G,N⟩:=g.out.tabd (mm':=mm+600) i2 i4 (by
      have h1:=congrArg List.length f';have h2:=vY (cY E3) L;rw[eH]at h1 h2;have h3:=(dK b9.out).2.1;have h4:=g6.out;have h5:=b0.out.1
      omega)
     go_wp2_with fail
     go_ret;rw[b'.out];have e3:cY E5=doPs r.1.t (L.map cZ):=by rw[f',rt];congr 1
     rw[e3]at G;exact⟨rfl,G.to (I.out.tr N)⟩
    ·have b':=Ld (u.out.trans (if_pos h1));have HE:=Ld (bC h1);have J:=Ld (pd g.out sc);rw[HE.out]at J⊢;clear h1 u
     go_wp2_with fail
     refine J.out.mono ?_;rintro e w5 ⟨rfl,G,N⟩
     go_wp2_with fail
     go_ret;rw[b'.out];have M:=G.to (I.out.tr N);exact⟨by rw[HE.out];rfl,M.1.up (Nat.le_add_right _ _),M.2⟩
   ·have u:=Ld (l.out.trans (if_pos h0));have HE:=Ld (bC h0);obtain⟨i0,i1,v3,X3,m3,E3,F⟩:=c0.out;have J:=Ld (pd F r.2);rw[HE.out]at J⊢;clear h0 l F
    go_wp2_with fail
    refine J.out.mono ?_;rintro e w5 ⟨rfl,G,N⟩
    go_wp2_with fail
    go_ret;rw[u.out];have M:=G.to (b8.out.tr N);exact⟨by rw[HE.out];rfl,M.1.up (Nat.le_add_right _ _),M.2⟩
end
end Go.Proofs.YtfchcdbfalgdlaaGreatDoor
