/- Texts of one proof. No condition but each one's own. -/
import Derived.Test.YtfchcdbfalgdlaaGreatDoorSweepPlaysM39
import Derived.Test.YtfchcdbfalgdlaaGreatDoorSweepPlaysM40
set_option maxHeartbeats 4000000
set_option maxRecDepth 100000
set_option linter.unusedVariables false
set_option linter.unusedSimpArgs false
namespace Go.Proofs.YtfchcdbfalgdlaaGreatDoor
open _root_.Go.Proofs.Tryz
open Go.RowKit Go.Sort Go.Maps
def xS(a b r:Nat):Prop:=r<18446744073709551616/\if b=0 then r=9221120237041090561 else vQ (a:Int) (b:Int) r
def sX(x y:Nat):Bool:=FloatKind.f64.format.order x y==some .gt||FloatKind.f64.format.order x y==some .eq
theorem Cu (x y:Nat) (w:World):Calls prog 49 #[.float .f64 x,.float .f64 y] w λe w'=>e= .returned (.bool (sX x y))/\w=w':=by
 go_enter func49,ntmps49
 go_wp2_with fail;go_ret;exact⟨rfl,rfl⟩
theorem mN(L:List (List Int)):(L.map λb=>aA b.length).sum<=L.length*1193:=by
 induction L with
 |nil=>simp
 |cons b L c=>
  have:=iO b.length;rw[List.map_cons,List.sum_cons,List.length_cons];omega
theorem rE {w:World} {gl gd n:Nat} {l:LG} (h:Lg w gl gd l n):Calls prog 56 #[.pointer (some ⟨gl,0,none⟩)] w λe w'=>e= .returned (.int .i64 l.used)/\w=w':=by
 have b:=h.c4;clear h
 go_enter func56,ntmps56
 go_wp2_with fail;go_ret;exact⟨rfl,rfl⟩
theorem zE {w:World} {gl gd n:Nat} {l:LG} (h:Lg w gl gd l n):Calls prog 63 #[.pointer (some ⟨gl,0,none⟩)] w λe w'=>e= .returned (.int .i64 l.size)/\w=w':=by
 have c2:=h.c2;clear h
 go_enter func63,ntmps63
 go_wp2_with fail;go_ret;exact⟨rfl,rfl⟩
section
variable {W w w':World}{gs gd bs bf bt mm:Nat}{s:SW}
theorem wg (h:dO W w gs gd bs bf bt s mm):Calls prog 20 #[.pointer (some ⟨gs,0,none⟩)] w λe w'=>e= .returned (.bool s.broken)/\w=w':=by
 obtain⟨_,_,_,_,_,_,h⟩:=h;have d:=h.c4;clear h;obtain⟨b,c⟩:=nm s.broken;rw[<-c]at d⊢;clear c
 go_enter func20,ntmps20
 go_wp2_with fail;go_ret;exact⟨rfl,rfl⟩
theorem Cy (h:dO W w gs gd bs bf bt s mm):Calls prog 18 #[.pointer (some ⟨gs,0,none⟩)] w λe w'=>e= .returned (.int .u32 s.gen)/\w=w':=by
 obtain⟨_,_,_,_,_,_,h⟩:=h;have b:=h.c3;clear h
 go_enter func18,ntmps18
 go_wp2_with fail;go_ret;exact⟨rfl,rfl⟩
theorem Ap (h:dO W w gs gd bs bf bt s mm) (c:aa W w):Calls prog 17 #[.pointer (some ⟨gs,0,none⟩)] w λe w'=>(∃j g d g' b,e= .returned (.pointer (some ⟨g',0,none⟩))/\dI j w' W.heap.size g' b g d/\dy d=s.t/\g<=mm/\d.length<=mm/\w.heap.size<=g'/\w.heap.size<=b)/\aa w w':=by
 obtain⟨gl,gt,v,X,m,E,h⟩:=h;have c2:=h.c2;have i:=Ld (sP h.tb c.size);have f:=Ld (And.intro h.ct h.mm);clear h c
 go_enter func17,ntmps17
 go_wp2_with fail;refine i.out.mono ?_;rintro e n ⟨g',b,rfl,k,c,h1,h2⟩
 go_wp2_with fail;go_ret;exact⟨⟨X,m,E,g',b,rfl,k,f.out.1,f.out.2.1,f.out.2.2,h1,h2⟩,c⟩
theorem Cz (h:dO W w gs gd bs bf bt s mm) {q:Nat->Prop} (A:Option Addr) (n c:Nat) (xs:List Int) (f:Rd q w 1 A n (an xs)) (g:ba xs) (i:n<=1000000):Calls prog 11 #[.pointer (some ⟨gs,0,none⟩),.slice A n c] w λe w'=>(∃E:gh,dy E=s.t/\∃b d,e= .returned (.tuple #[.slice b (kf E xs).n d,.bool (E.lookup xs).isSome])/\w'.ownsRow w.heap.size 5 1 (.slice b (kf E xs).n d) (kf E xs).n (an (kf E xs).xs))/\aa w w':=by
 obtain⟨gl,gt,v,X,m,E,h⟩:=h;have c2:=h.c2;have k:=Ld (uB h.tb A n c xs f g i);have j:=Ld h.ct;clear h f g i
 go_enter func11,ntmps11
 go_wp2_with fail;refine k.out.mono ?_;rintro e r ⟨b,d,rfl,hO,o⟩
 go_wp2_with fail;go_ret2;exact⟨⟨E,j.out,b,d,rfl,hO⟩,o⟩
theorem Bo (h:dO W w gs gd bs bf bt s mm):Calls prog 19 #[.pointer (some ⟨gs,0,none⟩)] w λe w'=>e= .returned (.int .i64 ((s.l.size-s.l.used:Nat):Int))/\aa w w':=by
 obtain⟨gl,gt,v,X,m,E,h⟩:=h;have o:=h.c1;obtain⟨u,hu⟩:=nm s.l.used;obtain⟨z,hz⟩:=nm s.l.size;obtain⟨f,k⟩:=nm (z-u);have h1:=h.lg.ok.used;have h2:=h.lg.ok.fit;have t:=h.dk.ok.s2;have r:=cn (w:=w) (v:=.int .i64 u) (f:=56) (args:= #[.pointer (some ⟨gl,0,none⟩)]) (λn g=>(rE (h.lg.new g)).mono λe w h=>⟨by rw[hu];exact h.1,by rw[<-h.2];exact aa.refl _⟩);have q:=cn (w:=w) (v:=.int .i64 z) (f:=63) (args:= #[.pointer (some ⟨gl,0,none⟩)]) (λn g=>(zE (h.lg.new g)).mono λe w h=>⟨by rw[hz];exact h.1,by rw[<-h.2];exact aa.refl _⟩);rw[<-hu,<-hz,<-k];rw[<-hu,<-hz]at h1;have y:(z:Int)-(u:Int)=(f:Int):=by omega
 have B:IntKind.i64.wrap (f:Int)=(f:Int):=IntWalk.i64_in _ (by omega);have C:=cell_regrown o;clear h hu hz k h1 h2 t
 go_enter func19,ntmps19
 go_upto_region 3 with fail;refine wp_region_quiet_below (by kernel_rfl) (by kernel_rfl) ?_
 repeat(quiet_step (first|exact r _ _|exact q _ _))
 refine wpQuiet_nil ?_;intro _ i;obtain⟨⟨j,c⟩,b⟩:=i;have d:Hid (aa w (grow (redrawn w j) c)):=Ld (below_regrown w j c);rw[b]
 go_wp2_with fail;go_ret;exact⟨rfl,d.out⟩
theorem BK{T:CT}{R:List Sl}{s:SW}(c:T=s.t)(h:sC T R):gH s=((R.map λx=>bI x.L).map λb=>aA b.length).sum:=by
 unfold gH;rw[<-c,<-h.bs,List.map_map];rfl
theorem nW (h:dO W w gs gd bs bf bt s mm) (hm:mm<=1000000) (hT:ki s.t):Calls prog 12 #[.pointer (some ⟨gs,0,none⟩)] w λe w'=>(∃r,e= .returned (.float .f64 r)/\xS (s.l.used-gH s) s.l.used r)/\aa w w':=by
 obtain⟨gl,gt,v,X,m,E,h⟩:=h;have c1:=h.c1;have c2:=h.c2;obtain⟨u,hu⟩:=nm s.l.used;have h1:=h.lg.ok.used;have h2:=h.lg.ok.fit;have U:=h.dk.ok.s2;have HU:Hid (u<=16384):=Ld (by omega);have g3:Hid (∀j,aa w j->Calls prog 56 #[.pointer (some ⟨gl,0,none⟩)] j λe w'=>e=.returned (.int .i64 u)/\j=w'):=Ld λj hN=>by rw[hu];exact rE (h.lg.new hN)
 have HB:=Ld (nS h.tb (by have:=h.mm;omega) (by have:=h.mm;omega));have HE:=Ld (And.intro h.ct h.mm);have HT:=Ld (And.intro hT hm);rw[<-hu];clear h hu h1 h2 U hm hT
 go_enter func12,ntmps12
 go_wp2_with fail;refine HB.out.mono ?_;rintro e w1 ⟨⟨A,n,c,R,P,rfl,⟨-,D,q,hD⟩,N,M,hS⟩,c'⟩;have J:Hid (sC s.t R):=Ld (tI HT.out.1 (by rw[N,HE.out.1]) M hS (λx H=>(q.row H).lens))
 have G:n<=1000000:=by
  have h1:=oG (R.map Sl.L) (λl hl=>by
   obtain⟨x,H,rfl⟩:=List.mem_map.1 hl;have:=(dt (J.out.ok x H)).1
   exact this)
  have h2:P.length=E.length:=by
   have U:=congrArg List.length N;have h4:=(dU (dy E)).length_eq;rw[h4,du]at U
   simpa[cl]using U
  have U:(R.map Sl.L).flatten=P:=by rw[M];exact jv iD P
  rw[U,List.length_map,q.len]at h1;have:=HE.out.2.2;have:=HT.out.2;omega
 have b0:=Ld G;have V:=Ld q;have t:=Ld c';obtain⟨y,z⟩:=nm (R.map λx=>bI x.L);have g:Hid (y=(R.map λx=>bI x.L)/\n=y.length/\gH s=(y.map λb=>aA b.length).sum):=Ld ⟨z,by rw[z,List.length_map,q.len],by rw[z];exact BK rfl J.out⟩;clear q hD N M hS c' G z HB c2
 go_wp2_with fail;go_loopw [3,5,6,7,17] (λd _ _ _ i wr=>∃(k:Nat),k<=n/\i=.int .i64 k/\d=.int .i64 ((((y.take k).map λb=>aA b.length).sum:Nat):Int)/\Hid (aa w1 wr)) (λ_ _ _ _ i _=>n-(intOf i).toNat)
 case atStart=>exact⟨0,Nat.zero_le _,rfl,rfl,Ld (aa.refl _)⟩
 case round=>
  obtain⟨k,hk,rfl,rfl,HW⟩:=hrel
  by_cases B:k<n
  ·have g9:(k:Int)<(n:Int):=by omega
   have i0:(0:Int)<=(k:Int):=by omega
   have i1:=b0.out;obtain⟨ga,o,hl,hA,O⟩:=(V.out.new HW.out).at B;subst hA;obtain⟨x,H⟩:=nm R[k];rw[<-H]at O;have b8:Hid (x∈R):=Ld (by rw[H];exact List.getElem_mem _);have I:=Ld (tz x.A x.n x.c x.L wr ((V.out.new HW.out).row b8.out) (J.out.ok x b8.out));have Z:=Ld B;obtain⟨sn,F⟩:=nm (aA (bI x.L).length);obtain⟨S,hS⟩:=nm (((y.take k).map λb=>aA b.length).sum);have c4:=mN (y.take k);rw[<-hS,List.length_take]at c4
   have b3:Hid (((y.take (k+1)).map λb=>aA b.length).sum=S+sn):=Ld (by
    have hb:y[k]?=some (bI x.L):=by rw[g.out.1,List.getElem?_map,List.getElem?_eq_getElem hl,H];rfl
    rw[List.take_add_one,hb,List.map_append,List.sum_append,<-hS,F]
    simp)
   have c8:=iO (bI x.L).length;have b7:Hid (∀j,Calls prog 54 #[.int .i64 ((bI x.L).length:Nat)] j λe w'=>e=.returned (.int .i64 sn)/\j=w'):=Ld λj=>by rw[F,<-jM];exact iP _ j
   rw[<-F]at c8;rw[<-hS];obtain⟨pn,c7⟩:=nm (bI x.L).length;rw[<-c7]at I b7;have g5:S+sn<=2000000000:=by omega
   obtain⟨S2,c5⟩:=nm (S+sn);have e1:(S:Int)+(sn:Int)=(S2:Int):=by omega
   have e2:IntKind.i64.wrap (S2:Int)=(S2:Int):=IntWalk.i64_in _ (by omega);rw[<-c5]at b3;clear hl H B hS c4 c8 F c7 g5 c5
   go_wp2_with fail;refine I.out.mono ?_;rintro e w6 ⟨⟨A6,c6,b6,rfl,g6,g4⟩,c0⟩;have d':Hid (aa w1 w6):=Ld (HW.out.tr c0);clear g6 g4 c0 I
   go_wp2_with fail;refine(b7.out w6).mono ?_;rintro e w7 ⟨rfl,rfl⟩
   go_wp2_with fail;go_roundw
   case rel=>exact⟨k+1,Z.out,by go_num,by rw[b3.out],d'⟩
   case measure=>simp[intOf];have:=Z.out;omega
  ·have i':¬(k:Int)<(n:Int):=by omega
   have g8:k=n:=by omega
   subst g8;rw[g.out.2.1,List.take_length,<-g.out.2.2];obtain⟨nd,C⟩:=nm (gH s);have f':Hid (nd<=2000000000):=Ld (by rw[C,g.out.2.2];have:=mN y;have:=b0.out;have:=g.out.2.1;omega);rw[<-C];have b':=Ld C;clear B C;have b9:=(t.out.tr HW.out).cell_ c1;have k1:=cell_regrown b9;have cU:=cn (w:=wr) (v:=.int .i64 u) (f:=56) (args:= #[.pointer (some ⟨gl,0,none⟩)]) (λj hN=>(g3.out j ((t.out.tr HW.out).tr hN)).mono λe w h=>⟨h.1,by rw[<-h.2];exact aa.refl _⟩);obtain⟨df,T⟩:=nm (u-nd);have e1:IntKind.i64.wrap ((u:Int)-(nd:Int))=(u:Int)-(nd:Int):=IntWalk.i64_in _ (by have:=HU.out;have:=f'.out;omega);have e2:max (0:Int) ((u:Int)-(nd:Int))=(df:Int):=by omega
   have Y:Hid (df=u-nd/\df=u-gH s):=Ld ⟨T,by rw[T,b'.out]⟩;clear T
   go_wp2_with fail;refine dY 13 (by kernel_rfl) (by kernel_rfl) ?_;simp only[List.take_succ_cons,List.take_zero,List.drop_succ_cons,List.drop_zero]
   repeat(quiet_step (first|exact cU _ _))
   refine wpQuiet_nil ?_;intro Wq c3;have b1:Hid (aa w1 Wq):=Ld (HW.out.tr c3);clear k1 cU c3 b9
   by_cases h0:u=0
   ·have g7:df=0:=by rw [Y.out.1];omega
    subst h0 g7;have L:=Ld (xw Wq)
    go_wp2_with fail;refine L.out.mono ?_;rintro e w7 ⟨rfl,rfl⟩
    go_wp2_with fail;go_ret;exact⟨⟨_,rfl,by decide,by rw[if_pos rfl]⟩,t.out.tr b1.out⟩
   ·have L:=Ld (xu (df:Int) (u:Int) (by omega) Wq);have H0:=Ld h0;clear h0
    go_wp2_with fail;refine L.out.mono ?_;rintro e w7 ⟨r,rfl,hr,hb⟩;have HR:=Ld hr;have c9:=Ld hb;clear hr hb
    go_wp2_with fail;go_ret;exact⟨⟨r,rfl,HR.out.1,by rw[if_neg H0.out,<-Y.out.2];exact HR.out⟩,t.out.tr (b1.out.tr c9.out)⟩
def AO(W w:World)(gs gd bs bf bt mm:Nat)(s:SW)(y:Nat)(e:Ending)(w':World):Prop:=
 ∃r,xS (s.l.used-gH s) s.l.used r/\if sX r y=true then e=.returned (.tuple #[.bool (decide ((aN s).2=0)),dP (aN s).2])/\ml W w gs gd bs bf bt (aN s).1 mm w' else e=.returned (.tuple #[.bool false,.nilIface])/\ml W w gs gd bs bf bt s mm w'
theorem CL(h:dO W w gs gd bs bf bt s mm)(F:aa W w)(E:dC 4 2 W)(hm:mm<=1000000)(z:ki s.t)(y:Nat):Calls prog 10 #[.pointer (some ⟨gs,0,none⟩),.float .f64 y] w (AO W w gs gd bs bf bt mm s y):=by
 have I:=Ld h;have C:=Ld (nW h hm z);have t:Hid (∀i,aa w i->Calls prog 16 #[.pointer (some ⟨gs,0,none⟩)] i (sE W i gs gd bs bf bt mm (aN s))):=Ld λi b=>nG (h.new b) (F.tr b) E hm z
 obtain⟨R,u⟩:=nm (aN s);rw[<-u]at t;have D:=Ld u;clear h F E hm z u
 go_enter func10,ntmps10
 go_wp2_with fail;refine C.out.mono ?_;rintro e i ⟨⟨r,rfl,G⟩,b⟩;have g:=Ld G;have c:=Ld b;obtain⟨d,hd⟩:=nm (sX r y);have q:=Ld (Cu r y i);rw[<-hd]at q;have f:=Ld hd;clear G b hd C
 go_wp2_with fail;refine q.out.mono ?_;rintro e H ⟨rfl,rfl⟩;clear q
 cases d with
 |false=>
  go_wp2_with fail;go_ret2;exact⟨r,g.out,by rw[if_neg (by rw[<-f.out];decide)];exact⟨rfl,I.out.new c.out,dZ.new c.out⟩⟩
 |true=>
  go_wp2_with fail;refine(t.out i c.out).mono ?_;rintro e H ⟨rfl,n,m⟩;have k:=Ld n;have j:Hid (dZ (iY bs bf bt) W w H):=Ld ((dZ.new c.out).tr m);clear n m t
  by_cases h0:R.2=0
  ·have o:=Ld h0;rw[h0,cg];clear h0
   go_wp2_with fail;go_ret2;exact⟨r,g.out,by rw[if_pos f.out.symm,<-D.out,decide_eq_true o.out,o.out,cg];exact⟨rfl,k.out,j.out⟩⟩
  ·have o:=Ld h0;have B:=Ld (bK h0);rw[B.out];clear h0
   go_wp2_with fail;go_ret2;exact⟨r,g.out,by rw[if_pos f.out.symm,<-D.out,decide_eq_false o.out,B.out];exact⟨rfl,k.out,j.out⟩⟩
end
end Go.Proofs.YtfchcdbfalgdlaaGreatDoor
namespace Go.Proofs.YtfchcdbfalgdlaaGreatDoor
open _root_.Go.Proofs.Tryz
open Go.RowKit Go.Sort
theorem BJ(s:SW):gH s=((((jB s.t).map bw).map λb=>aA b.length).sum):=by unfold gH;rw[List.map_map];rfl
theorem fZ.nums{w:World}{l:LG}{Y:Array Value}(h:fZ w l Y):Y[1]?=some (.int .i64 l.size)/\Y[2]?=some (.int .i64 l.used):=by
 obtain⟨A,c,rfl,-⟩:=h.ex;exact⟨rfl,rfl⟩
theorem yM{D:Nat}{w:World}{s:SW}{i':Nat}{Z:Array Value}(h:ie D w s i' Z)(hT:ki s.t)(hm:s.t.length<=1000000)(hu:s.l.used<=16384):
    Calls prog 38 #[.agg Z] w λe w'=>(∃r,e=.returned (.float .f64 r)/\vQ ((s.l.used-gH s:Nat):Int) (s.l.used:Int) r)/\aa w w':=by
 have HZ:=Ld h.row;obtain⟨X,Y,A,c0,T,e,hD,I,b9,c5,hS⟩:=h.ex;have J:=b9.tb;have b0:Hid (bi X Y):=Ld ⟨hD.row,I.row⟩;obtain⟨u,O⟩:=nm s.l.used;have HU:Hid ((eE X Y (.slice A T.length c0) (.int .u32 s.gen) (.bool s.broken))[5+2]?=some (.int .i64 u)):=Ld (by rw[O];exact b0.out.l 2 _ I.nums.2);obtain⟨bs,L⟩:=nm ((jB s.t).map bw);have F:Hid (∀W,aa w W->Calls prog 80 #[.slice A T.length c0] W λe w'=>∃A' f c' R,e=.returned (.slice A' f c')/\iZ W.heap.size w' A' f R/\AK T bs f R/\aa W w'):=Ld λW hN=>by rw[L];exact Cd J c5 hS hT hm W hN
 have H:=Ld (And.intro J hS);have m:Hid (gH s=(bs.map λb=>aA b.length).sum):=Ld (by rw[L];exact BJ s);have g:Hid (Bx prog bT w w [] (λ_=>True)):=Ld (Bx.start trivial kh.triv);rw[<-O]at hu⊢;obtain⟨nd,N⟩:=nm (gH s);rw[<-N]at m⊢;obtain⟨gen,E⟩:=nm s.gen;obtain⟨br,c4⟩:=nm s.broken;rw[<-E,<-c4]at e HU;obtain⟨n,hn⟩:=nm T.length;rw[<-hn]at e HU F H;clear h hD I J b9 c5 hS hT hm O L N E c4 hn;subst e
 go_enter func38,ntmps38
 go_upto_region 3 with (first
  |(refine dK g.out rfl rfl rfl ca HZ.out (by decide) ?_;clear g;intro w1 b1 g)
  |(refine eP 77 rfl ?_;refine aM 0 g.out rfl rfl rfl rfl underlying77 rfl b0.out.c.1 ?_)
  |(go_at_call 80;refine(F.out _ g.out.nw).mono ?_;rintro e w5 ⟨A',f,c',R,rfl,B,f',hN⟩;obtain⟨D,B⟩:∃D,iZ D w5 A' f R:=⟨_,B⟩;have G:=Ld B;have t:=Ld f';replace g:=Ld (g.out.new hN);clear hN B f'))
 have i2:=t.out.n;have c3:bs.length=f:=by rw[t.out.bs,List.length_map,G.out.len]
 clear F
 go_wp2_with fail;go_loopw [3,5] (λd i wr=>∃(k:Nat),k<=f/\i=.int .i64 k/\d=.int .i64 ((((bs.take k).map λb=>aA b.length).sum:Nat):Int)/\Hid (aa w5 wr)) (λ_ i _=>f-(intOf i).toNat)
 case atStart=>exact⟨0,Nat.zero_le _,rfl,rfl,Ld (aa.refl _)⟩
 case round=>
  obtain⟨k,hk,rfl,rfl,HW⟩:=hrel
  by_cases M:k<f
  ·have P:=Ld M;have g9:(k:Int)<(f:Int):=by omega
   have i1:(0:Int)<=(k:Int):=by omega
   obtain⟨ga,o,c9,rfl,c⟩:=G.out.at M;obtain⟨x,hx⟩:=nm R[k];rw[<-hx]at c;have c:=HW.out.cell_ c;have g4:x∈R:=by rw[hx];exact List.getElem_mem _
   have q:=Ld (vk H.out.2 G.out t.out (λy hy=>Ch.In.szs ((H.out.1.el y hy).new g.out.nw)) g4 wr HW.out);obtain⟨b,z⟩:=nm (bI x.L);have c1:bs[k]?=some b:=by rw[t.out.bs,List.getElem?_map,List.getElem?_eq_getElem c9,<-hx,z];rfl
   rw[<-z]at q;obtain⟨sn,C⟩:=nm (aA b.length);obtain⟨S,hS⟩:=nm ((bs.take k).map λb=>aA b.length).sum;have b7:=mN (bs.take k);rw[<-hS,List.length_take]at b7
   have V:Hid (((bs.take (k+1)).map λb=>aA b.length).sum=S+sn):=Ld (by
    rw[List.take_add_one,c1,List.map_append,List.sum_append,<-hS,C]
    simp)
   have g3:=iO b.length;have b':Hid (∀W',Calls prog 86 #[.int .i64 (b.length:Nat)] W' λe w'=>e=.returned (.int .i64 sn)/\W'=w'):=Ld λW'=>by rw[C,<-jM];exact fS _ W'
   rw[<-C]at g3;rw[<-hS];obtain⟨pn,d'⟩:=nm b.length;rw[<-d']at q b';have g6:S+sn<=2000000000:=by omega
   obtain⟨S2,b8⟩:=nm (S+sn);have e1:(S:Int)+(sn:Int)=(S2:Int):=by omega
   have e2:IntKind.i64.wrap (S2:Int)=(S2:Int):=IntWalk.i64_in _ (by omega);rw[<-b8]at V;clear c9 hx hS b7 g3 C d' g6 b8 z c1 g4 c3
   go_wp2_with fail;refine q.out.mono ?_;rintro e w6 ⟨A6,c6,rfl,-,b3⟩;have g5:Hid (aa w5 w6):=Ld (HW.out.tr b3);clear b3 q
   go_wp2_with fail;refine(b'.out w6).mono ?_;rintro e w7 ⟨rfl,rfl⟩
   go_wp2_with fail;go_roundw
   case rel=>exact⟨k+1,P.out,by go_num,by rw[V.out],g5⟩
   case measure=>simp[intOf];have:=P.out;omega
  ·have i0:¬(k:Int)<(f:Int):=by omega
   have g8:k=f:=by omega
   subst g8;rw[show((bs.take k).map λb=>aA b.length).sum=nd from by rw[m.out,List.take_of_length_le (by omega)]];have N:nd<=2000000000:=by rw[m.out];have:=mN bs;omega
   have j:=Ld (g.out.new HW.out);clear g m M c3
   by_cases c8:u<nd
   ·have g7:(u:Int)<(nd:Int):=by omega
    have e0:u-nd=0:=by omega
    have e1:IntKind.i64.wrap (0:Int)=0:=by decide
    have HE:=Ld e0;clear e0 c8
    go_wp2_with (refine eP 3 rfl ?_;refine aM 0 j.out rfl rfl rfl rfl underlying3 rfl HU.out ?_)
    refine(pW 0 (u:Int) wr).mono ?_;rintro e w7 ⟨r,rfl,hr,z⟩;have U:=Ld (And.intro hr z);clear hr z
    go_wp2_with fail;go_ret;exact⟨⟨r,rfl,by rw[HE.out];exact U.out.1⟩,j.out.nw.tr U.out.2⟩
   ·have g7:¬(u:Int)<(nd:Int):=by omega
    obtain⟨df,c7⟩:=nm (u-nd);have e0:(u:Int)-(nd:Int)=(df:Int):=by omega
    have e1:IntKind.i64.wrap (df:Int)=(df:Int):=IntWalk.i64_in _ (by omega);have HE:=Ld c7;clear c7 c8
    go_wp2_with (refine eP 3 rfl ?_;refine aM 0 j.out rfl rfl rfl rfl underlying3 rfl HU.out ?_)
    refine(pW (df:Int) (u:Int) wr).mono ?_;rintro e w7 ⟨r,rfl,hr,z⟩;have U:=Ld (And.intro hr z);clear hr z
    go_wp2_with fail;go_ret;exact⟨⟨r,rfl,by rw[<-HE.out];exact U.out.1⟩,j.out.nw.tr U.out.2⟩
end Go.Proofs.YtfchcdbfalgdlaaGreatDoor
namespace Go.Proofs.YtfchcdbfalgdlaaGreatDoor
open _root_.Go.Proofs.Tryz
open Go.RowKit Go.Sort Go.Maps
def Hl(W w:World)(gd:Nat)(p:DP):Prop:=∃bs bf v,Dk w W.heap.size gd bs bf v p/\aa W w
section
variable {W w w':World}{gd gl:Nat}{p:DP}{l:LG}
theorem Fk (c:aa W w) (n:Nat) (h1:1<=n) (h2:n<=16384):Calls prog 22 #[.int .i64 n] w λe w'=>∃g,e= .returned (.tuple #[.pointer (some ⟨g,0,none⟩),.nilIface])/\Hl W w' g (DP.new n)/\aa w w':=
 (new_ok n w W.heap.size c.size h1 h2).mono λe w' ⟨f,d,b⟩=>⟨_,f,⟨_,_,_,d,c.tr b⟩,b⟩
end
theorem vq{p:DP}(c:p.Ok)(l:LG):∀k,(runs p l k).2.length+l.used<=(runs p l k).1.used
 | 0=>by show 0+l.used<=l.used;omega
 |k+1=>by
  have d:=vq c l k
  cases hn:nextL p (runs p l k).1 with
  |none=>rw[js hn 1];exact d
  |some b=>
   have:=sg c hn;rw[fG hn];simp only[List.length_append,List.length_singleton];omega
theorem vp{p:DP}(b:p.Ok){n g:Nat}(h:4<=n)(hz:p.size=n)(d:g<4294967296):(runL p (aW n g)).2.length<=hlf n:=by
 have h1:=vq b (aW n g) ((aW n g).size+1);have h2:=cu b (l:=aW n g) (n:=n) (fv (fk (g:=g) h).2.1 d) ((aW n g).size+1);have c:=h2.1.used;rw[h2.2.1]at c;have f:(aW n g).used=0:=rfl;have i:(aW n g).size=hlf n:=rfl;show(runs p (aW n g) _).2.length<=_;omega
structure FZ(W w:World)(gs gd bs bf bt:Nat)(s:SW)(K:List (List Int))(mm:Nat):Prop where
 st:dO W w gs gd bs bf bt s mm
 ok:jz s K
 nw:aa W w
section
variable {W w w':World}{gs gd bs bf bt mm:Nat}{s:SW}{K:List (List Int)}{v:Value}{p:DP}
theorem FZ.new(h:FZ W w gs gd bs bf bt s K mm)(b:aa w w'):FZ W w' gs gd bs bf bt s K mm:=⟨h.st.new b,h.ok,h.nw.tr b⟩
theorem EM(c:Dk w W.heap.size gd bs bf v p)(i:aa W w)(g:dC 4 2 W)(hu:Up p)(f:4<=p.size):
    Calls prog 14 #[.pointer (some ⟨gd,0,none⟩)] w λe w'=>e=.returned .nilIface/\(∃b,Dk w' W.heap.size gd bs bf b (ef p))/\dZ (iY bs bf bs) W w w':=
 (wu c i g hu f).mono λe w' ⟨j,b,d⟩=>⟨j,⟨b,d.dk⟩,dZ.of d.fr (sS c (.inl rfl) (.inr (.inl rfl)))⟩
theorem wO(b:Dk w W.heap.size gd bs bf v p)(g:aa W w)(i:dC 4 2 W)(hu:Up p)(d:4<=p.size)(hz:p.size<=3000)(k:opnS p=(s.p,0,some s))(n:jz s K):
    Calls prog 9 #[.pointer (some ⟨gd,0,none⟩)] w λe w'=>∃gs bt,e=.returned (.tuple #[.pointer (some ⟨gs,0,none⟩),.nilIface])/\FZ W w' gs gd bs bf bt s K (600*hlf p.size)/\w.heap.size<=gs/\w.heap.size<=bt/\dZ (iY bs bf bs) W w w':=by
 have m:(runL p (aW p.size (jC p))).2.length<=hlf p.size:=vp b.ok d rfl (by rw[<-pj];exact mr b.ok 2);have o:hlf p.size<=1600:=by unfold hlf;omega
 refine(Ak b g i hu d (by omega)).mono λe w' h=>?_
 unfold oS at h;rw[k]at h;obtain⟨gs,bt,j,c,h1,h2,f⟩:=h;exact⟨gs,bt,j,⟨c.up (Nat.mul_le_mul_left _ m),n,f.nw g⟩,h1,h2,f⟩
theorem EK(h:FZ W w gs gd bs bf bt s K mm){q:Nat->Prop}(A:Option Addr)(n c:Nat)(keep:List Bool)(g:Rd q w 1 A n (jV keep))(j:n<=maxLen)(o:∀k,q k->k<W.heap.size):
    Calls prog 25 #[.pointer (some ⟨gd,0,none⟩),.slice A n c] w λe w'=>e=.returned (.tuple #[])/\(∃r,Dk w' W.heap.size gd bs bf r (s.p.cut keep))/\dZ (iY bs bf bs) W w w':=by
 obtain⟨gl,gt,v,X,m,E,b⟩:=h.st;refine(Fi b.dk A n c keep g j (λk d e=>by have t:=o k d;have u:=(b.dk.ours bs (.inr (.inl rfl))).1;omega)).mono λe w' ⟨i,f,hF⟩=>?_
 exact⟨i,⟨_,f⟩,dZ.of hF (λk d=>sS b.dk (.inl rfl) (.inr (.inl rfl)) k (by rcases d with h|h|h<;>simp[bW,h]))⟩
theorem CP(p:DP)(keep:List Bool):Up (p.cut keep):=⟨rfl,rfl⟩
end
theorem FC{p:DP}{s:SW}(hu:Up p)(b:p.Ok)(d:4<=p.size)(h:opnS p=(s.p,0,some s)):Up s.p:=by
 unfold opnS at h;have f:jC p<4294967296:=by rw[<-pj];exact mr b 2
 have c:=(cu b (l:=aW p.size (jC p)) (fv (fk d).2.1 f) ((aW p.size (jC p)).size+1)).1;have g:=(hu.wipe (l:=(runL p (aW p.size (jC p))).1) c.fit c.used).2.1;rw[if_neg (by omega)]at h;split at h
 ·simp at h
 ·simp only at h;split at h
  ·injection h with h1 h2;rw[<-h1];exact g
  ·simp at h
section
variable {p:DP}{l:LG}
theorem Up.writeN(h:Up p)(b:List Int)(d:l.first+l.size<=p.size):∀k,l.used+k<=l.size->(writeN p l b k).2=0/\Up (writeN p l b k).1/\(writeN p l b k).1.size=p.size
 | 0,_=>⟨rfl,h,rfl⟩
 |k+1,f=>by
  obtain⟨h1,h2,c⟩:=h.writeN b d k (by omega);rw[jw h1];exact⟨h2.wcode (by omega) (by rw[c];omega),h2.write _ _,(DP.doWrite_size _ _ _).trans c⟩
end
def sJ:PC:=⟨[97],[49],false⟩
theorem uR:(bw [sJ]).length=9:=rfl
theorem Dt{s:SW}(h:jz s [])(hu:Up s.p)(i:s.broken=false)(r:s.gen+1<4294967296)(ht:s.t.Perm []):∃f,jz (ed s [sJ]).1 f/\(ed s [sJ]).2=0/\(ed s [sJ]).1.t=[([97],[49])]/\(ed s [sJ]).1.p.size=s.p.size:=by
 have j:∀c∈[sJ],Dc c:=λc q=>by
  rw[List.mem_singleton.1 q];exact⟨λx k=>by simp[sJ]at k;omega,λx k=>by simp[sJ]at k;omega⟩
 have hz:(ed s [sJ]).2=0:=by
  have hl:s.l=aW s.p.size s.gen:=by
   have:=h.log;rw[h.lb i]at this;exact this
  have b:=fk (g:=s.gen) h.n4;have n:=hu.writeN (l:=s.l) (bw [sJ]) (by rw[hl];exact b.2.1) 1 (by rw[hl];exact b.1)
  have o:aD s.p s.l (bw [sJ])=((writeN s.p s.l (bw [sJ]) 1).1,s.l.step (bw [sJ]),0):=by
   have u:aA (bw [sJ]).length=1:=by rw[uR];rfl
   unfold aD;rw[u,if_neg (by decide),if_neg (by rw[h.lb i];decide),if_neg (by rw[hl];have:=b.1;show ¬hlf s.p.size-0<1;omega)];simp only;rw[if_neg (by rw[n.1];simp)]
  have d:(di s (bw [sJ]))=({s with p:=(writeN s.p s.l (bw [sJ]) 1).1,l:=s.l.step (bw [sJ])},0):=by
   unfold di;rw[o,if_pos (show(0:Int)≠8 by decide)]
  unfold ed;rw[if_neg (by decide),if_neg (by rw[i];decide),if_neg (by rw[uR];decide)];simp only;rw[d,if_neg (show ¬(0:Int)≠0 by decide)];simp only;rw[if_neg (by rw[n.2.1.scode];decide)]
 obtain⟨f,y,z,-,B⟩:=h.commit j r;refine⟨f,y,hz,?_,z⟩;rcases B with⟨-,m,-⟩|⟨m,-⟩
 ·rw[m,List.Perm.eq_nil ht];rfl
 ·exact absurd hz m
end Go.Proofs.YtfchcdbfalgdlaaGreatDoor
