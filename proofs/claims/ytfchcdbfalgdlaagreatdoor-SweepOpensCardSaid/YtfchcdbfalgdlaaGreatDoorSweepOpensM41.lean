/- Texts of one proof. No condition but each one's own. -/
import Derived.Test.YtfchcdbfalgdlaaGreatDoorSweepOpensM39
import Derived.Test.YtfchcdbfalgdlaaGreatDoorSweepOpensM40
set_option maxHeartbeats 4000000
set_option maxRecDepth 100000
set_option linter.unusedVariables false
set_option linter.unusedSimpArgs false
namespace Go.Proofs.YtfchcdbfalgdlaaGreatDoor
open _root_.Go.Proofs.Tryz
open Go.RowKit Go.Sort Go.Maps
def yR(a b r:Nat):Prop:=r<18446744073709551616∧if b=0 then r=9221120237041090561 else yP (a:Int) (b:Int) r
theorem lU(L:List (List Int)):(L.map fun b=>ay b.length).sum≤L.length*1193:=by
 induction L with
 |nil=>simp
 |cons b L c=>
  have:=it b.length;rw[List.map_cons,List.sum_cons,List.length_cons];omega
theorem qn {w:World} {gl gd n:Nat} {l:LG} (h:Lg w gl gd l n):Calls prog 56 #[.pointer (some ⟨gl,0,none⟩)] w fun e w'=>e= .returned (.int .i64 l.used)∧w=w':=by
 have b:=h.c4;clear h
 go_enter func56,ntmps56
 go_wp2_with fail
 go_ret;exact⟨rfl,rfl⟩
theorem xM {w:World} {gl gd n:Nat} {l:LG} (h:Lg w gl gd l n):Calls prog 63 #[.pointer (some ⟨gl,0,none⟩)] w fun e w'=>e= .returned (.int .i64 l.size)∧w=w':=by
 have c2:=h.c2;clear h
 go_enter func63,ntmps63
 go_wp2_with fail
 go_ret;exact⟨rfl,rfl⟩
section
variable {W w w':World}{gs gd bs bf bt mm:Nat}{s:SW}
theorem ux (h:ea W w gs gd bs bf bt s mm):Calls prog 20 #[.pointer (some ⟨gs,0,none⟩)] w fun e w'=>e= .returned (.bool s.broken)∧w=w':=by
 obtain⟨_,_,_,_,_,_,h⟩:=h;have d:=h.c4;clear h;obtain⟨b,c⟩:=nm s.broken;rw[←c]at d⊢;clear c
 go_enter func20,ntmps20
 go_wp2_with fail
 go_ret;exact⟨rfl,rfl⟩
theorem AA (h:ea W w gs gd bs bf bt s mm):Calls prog 18 #[.pointer (some ⟨gs,0,none⟩)] w fun e w'=>e= .returned (.int .u32 s.gen)∧w=w':=by
 obtain⟨_,_,_,_,_,_,h⟩:=h;have b:=h.c3;clear h
 go_enter func18,ntmps18
 go_wp2_with fail
 go_ret;exact⟨rfl,rfl⟩
theorem yA (h:ea W w gs gd bs bf bt s mm) (c:aa W w):Calls prog 17 #[.pointer (some ⟨gs,0,none⟩)] w fun e w'=>(∃j g d g' b,e= .returned (.pointer (some ⟨g',0,none⟩))∧dl j w' W.heap.size g' b g d∧cY d=s.t∧g≤mm∧d.length≤mm∧w.heap.size≤g'∧w.heap.size≤b)∧aa w w':=by
 obtain⟨gl,gt,v,X,m,E,h⟩:=h;have c2:=h.c2;have i:=Ld (ro h.tb c.size);have f:=Ld (And.intro h.ct h.mm);clear h c
 go_enter func17,ntmps17
 go_wp2_with fail
 refine i.out.mono ?_;rintro e n ⟨g',b,rfl,k,c,h1,h2⟩
 go_wp2_with fail
 go_ret;exact⟨⟨X,m,E,g',b,rfl,k,f.out.1,f.out.2.1,f.out.2.2,h1,h2⟩,c⟩
theorem AB (h:ea W w gs gd bs bf bt s mm) {q:Nat→Prop} (A:Option Addr) (n c:Nat) (xs:List Int) (f:Rd q w 1 A n (am xs)) (g:aU xs) (i:n≤1000000):Calls prog 11 #[.pointer (some ⟨gs,0,none⟩),.slice A n c] w fun e w'=>(∃E:fi,cY E=s.t∧∃b d,e= .returned (.tuple #[.slice b (jz E xs).n d,.bool (E.lookup xs).isSome])∧w'.ownsRow w.heap.size 5 1 (.slice b (jz E xs).n d) (jz E xs).n (am (jz E xs).xs))∧aa w w':=by
 obtain⟨gl,gt,v,X,m,E,h⟩:=h;have c2:=h.c2;have k:=Ld (th h.tb A n c xs f g i);have j:=Ld h.ct;clear h f g i
 go_enter func11,ntmps11
 go_wp2_with fail
 refine k.out.mono ?_;rintro e r ⟨b,d,rfl,hO,o⟩
 go_wp2_with fail
 go_ret2
 exact⟨⟨E,j.out,b,d,rfl,hO⟩,o⟩
theorem zt (h:ea W w gs gd bs bf bt s mm):Calls prog 19 #[.pointer (some ⟨gs,0,none⟩)] w fun e w'=>e= .returned (.int .i64 ((s.l.size-s.l.used:Nat):Int))∧aa w w':=by
 obtain⟨gl,gt,v,X,m,E,h⟩:=h;have q:=h.c1;obtain⟨u,hu⟩:=nm s.l.used;obtain⟨z,d⟩:=nm s.l.size;obtain⟨f,n⟩:=nm (z-u);have h1:=h.lg.ok.used;have h2:=h.lg.ok.fit;have y:=h.dk.ok.s2;have t:=bV (w:=w) (v:=.int .i64 u) (f:=56) (args:= #[.pointer (some ⟨gl,0,none⟩)]) (fun o i=>(qn (h.lg.new i)).mono fun e w h=>⟨by rw[hu];exact h.1,by rw[←h.2];exact aa.refl _⟩);have r:=bV (w:=w) (v:=.int .i64 z) (f:=63) (args:= #[.pointer (some ⟨gl,0,none⟩)]) (fun o i=>(xM (h.lg.new i)).mono fun e w h=>⟨by rw[d];exact h.1,by rw[←h.2];exact aa.refl _⟩);rw[←hu,←d,←n];rw[←hu,←d]at h1;have B:(z:Int)-(u:Int)=(f:Int):=by omega
 have C:IntKind.i64.wrap (f:Int)=(f:Int):=IntWalk.i64_in _ (by omega);have D:=cell_regrown q;clear h hu d n h1 h2 y
 go_enter func19,ntmps19
 go_upto_region 3 with fail
 refine wp_region_quiet_below (by kernel_rfl) (by kernel_rfl) ?_
 repeat(quiet_step (first|exact t _ _|exact r _ _))
 refine wpQuiet_nil ?_;intro _ j;obtain⟨⟨k,c⟩,b⟩:=j;have g:Hid (aa w (grow (redrawn w k) c)):=Ld (below_regrown w k c);rw[b]
 go_wp2_with fail
 go_ret;exact⟨rfl,g.out⟩
theorem zM{T:CT}{R:List Sl}{s:SW}(c:T=s.t)(h:qX T R):iP s=((R.map fun x=>bR x.L).map fun b=>ay b.length).sum:=by
 unfold iP;rw[←c,←h.bs,List.map_map];rfl
theorem tc (h:ea W w gs gd bs bf bt s mm) (hm:mm≤1000000) (hT:jw s.t):Calls prog 12 #[.pointer (some ⟨gs,0,none⟩)] w fun e w'=>(∃r,e= .returned (.float .f64 r)∧yR (s.l.used-iP s) s.l.used r)∧aa w w':=by
 obtain⟨gl,gt,v,X,m,E,h⟩:=h;have c1:=h.c1;have c2:=h.c2;obtain⟨u,hu⟩:=nm s.l.used;have h1:=h.lg.ok.used;have h2:=h.lg.ok.fit;have U:=h.dk.ok.s2;have HU:Hid (u≤16384):=Ld (by omega);have g3:Hid (∀j,aa w j→Calls prog 56 #[.pointer (some ⟨gl,0,none⟩)] j fun e w'=>e=.returned (.int .i64 u)∧j=w'):=Ld fun j hN=>by rw[hu];exact qn (h.lg.new hN)
 have HB:=Ld (mT h.tb (by have:=h.mm;omega) (by have:=h.mm;omega));have HE:=Ld (And.intro h.ct h.mm);have HT:=Ld (And.intro hT hm);rw[←hu];clear h hu h1 h2 U hm hT
 go_enter func12,ntmps12
 go_wp2_with fail
 refine HB.out.mono ?_;rintro e w1 ⟨⟨A,n,c,R,P,rfl,⟨-,D,q,hD⟩,N,M,hS⟩,c'⟩;have J:Hid (qX s.t R):=Ld (rW HT.out.1 (by rw[N,HE.out.1]) M hS (fun x H=>(q.row H).lens))
 have G:n≤1000000:=by
  have h1:=nB (R.map Sl.L) (fun l hl=>by
   obtain⟨x,H,rfl⟩:=List.mem_map.1 hl;have:=(dK (J.out.ok x H)).1
   exact this)
  have h2:P.length=E.length:=by
   have U:=congrArg List.length N;have h4:=(ei (cY E)).length_eq;rw[h4,eH]at U
   simpa[cl]using U
  have U:(R.map Sl.L).flatten=P:=by rw[M];exact iW ib P
  rw[U,List.length_map,q.len]at h1;have:=HE.out.2.2;have:=HT.out.2;omega
 have b0:=Ld G;have V:=Ld q;have t:=Ld c';obtain⟨y,z⟩:=nm (R.map fun x=>bR x.L);have g:Hid (y=(R.map fun x=>bR x.L)∧n=y.length∧iP s=(y.map fun b=>ay b.length).sum):=Ld ⟨z,by rw[z,List.length_map,q.len],by rw[z];exact zM rfl J.out⟩;clear q hD N M hS c' G z HB c2
 go_wp2_with fail
 go_loopw [3,5,6,7,17] (fun d _ _ _ i wr=>∃(k:Nat),k≤n∧i=.int .i64 k∧d=.int .i64 ((((y.take k).map fun b=>ay b.length).sum:Nat):Int)∧Hid (aa w1 wr)) (fun _ _ _ _ i _=>n-(intOf i).toNat)
 case atStart=>exact⟨0,Nat.zero_le _,rfl,rfl,Ld (aa.refl _)⟩
 case round=>
  obtain⟨k,hk,rfl,rfl,HW⟩:=hrel
  by_cases B:k<n
  ·have g9:(k:Int)<(n:Int):=by omega
   have i0:(0:Int)≤(k:Int):=by omega
   have i1:=b0.out;obtain⟨ga,o,hl,hA,O⟩:=(V.out.new HW.out).at B;subst hA;obtain⟨x,H⟩:=nm R[k];rw[←H]at O;have b8:Hid (x∈R):=Ld (by rw[H];exact List.getElem_mem _);have I:=Ld (rP x.A x.n x.c x.L wr ((V.out.new HW.out).row b8.out) (J.out.ok x b8.out));have Z:=Ld B;obtain⟨sn,F⟩:=nm (ay (bR x.L).length);obtain⟨S,hS⟩:=nm (((y.take k).map fun b=>ay b.length).sum);have c4:=lU (y.take k);rw[←hS,List.length_take]at c4
   have b3:Hid (((y.take (k+1)).map fun b=>ay b.length).sum=S+sn):=Ld (by
    have hb:y[k]?=some (bR x.L):=by rw[g.out.1,List.getElem?_map,List.getElem?_eq_getElem hl,H];rfl
    rw[List.take_add_one,hb,List.map_append,List.sum_append,←hS,F]
    simp)
   have c8:=it (bR x.L).length;have b7:Hid (∀j,Calls prog 54 #[.int .i64 ((bR x.L).length:Nat)] j fun e w'=>e=.returned (.int .i64 sn)∧j=w'):=Ld fun j=>by rw[F,←jk];exact iu _ j
   rw[←F]at c8;rw[←hS];obtain⟨pn,c7⟩:=nm (bR x.L).length;rw[←c7]at I b7;have g5:S+sn≤2000000000:=by omega
   obtain⟨S2,c5⟩:=nm (S+sn);have e1:(S:Int)+(sn:Int)=(S2:Int):=by omega
   have e2:IntKind.i64.wrap (S2:Int)=(S2:Int):=IntWalk.i64_in _ (by omega);rw[←c5]at b3;clear hl H B hS c4 c8 F c7 g5 c5
   go_wp2_with fail
   refine I.out.mono ?_;rintro e w6 ⟨⟨A6,c6,b6,rfl,g6,g4⟩,c0⟩;have d':Hid (aa w1 w6):=Ld (HW.out.tr c0);clear g6 g4 c0 I
   go_wp2_with fail
   refine(b7.out w6).mono ?_;rintro e w7 ⟨rfl,rfl⟩
   go_wp2_with fail
   go_roundw
   case rel=>exact⟨k+1,Z.out,by go_num,by rw[b3.out],d'⟩
   case measure=>simp[intOf];have:=Z.out;omega
  ·have i':¬(k:Int)<(n:Int):=by omega
   have g8:k=n:=by omega
   subst g8;rw[g.out.2.1,List.take_length,←g.out.2.2];obtain⟨nd,C⟩:=nm (iP s);have f':Hid (nd≤2000000000):=Ld (by rw[C,g.out.2.2];have:=lU y;have:=b0.out;have:=g.out.2.1;omega);rw[←C];have b':=Ld C;clear B C;have b9:=(t.out.tr HW.out).cell_ c1;have k1:=cell_regrown b9;have cU:=bV (w:=wr) (v:=.int .i64 u) (f:=56) (args:= #[.pointer (some ⟨gl,0,none⟩)]) (fun j hN=>(g3.out j ((t.out.tr HW.out).tr hN)).mono fun e w h=>⟨h.1,by rw[←h.2];exact aa.refl _⟩);obtain⟨df,T⟩:=nm (u-nd);have e1:IntKind.i64.wrap ((u:Int)-(nd:Int))=(u:Int)-(nd:Int):=IntWalk.i64_in _ (by have:=HU.out;have:=f'.out;omega);have e2:max (0:Int) ((u:Int)-(nd:Int))=(df:Int):=by omega
   have Y:Hid (df=u-nd∧df=u-iP s):=Ld ⟨T,by rw[T,b'.out]⟩;clear T
   go_wp2_with fail
   refine dE 13 (by kernel_rfl) (by kernel_rfl) ?_;simp only[List.take_succ_cons,List.take_zero,List.drop_succ_cons,List.drop_zero]
   repeat(quiet_step (first|exact cU _ _))
   refine wpQuiet_nil ?_;intro Wq c3;have b1:Hid (aa w1 Wq):=Ld (HW.out.tr c3);clear k1 cU c3 b9
   by_cases h0:u=0
   ·have g7:df=0:=by rw [Y.out.1];omega
    subst h0 g7;have L:=Ld (vq Wq)
    go_wp2_with fail
    refine L.out.mono ?_;rintro e w7 ⟨rfl,rfl⟩
    go_wp2_with fail
    go_ret;exact⟨⟨_,rfl,by decide,by rw[if_pos rfl]⟩,t.out.tr b1.out⟩
   ·have L:=Ld (vp (df:Int) (u:Int) (by omega) Wq);have H0:=Ld h0;clear h0
    go_wp2_with fail
    refine L.out.mono ?_;rintro e w7 ⟨r,rfl,hr,hb⟩;have HR:=Ld hr;have c9:=Ld hb;clear hr hb
    go_wp2_with fail
    go_ret;exact⟨⟨r,rfl,HR.out.1,by rw[if_neg H0.out,←Y.out.2];exact HR.out⟩,t.out.tr (b1.out.tr c9.out)⟩
end
end Go.Proofs.YtfchcdbfalgdlaaGreatDoor
namespace Go.Proofs.YtfchcdbfalgdlaaGreatDoor
open _root_.Go.Proofs.Tryz
open Go.RowKit Go.Sort
theorem zK(s:SW):iP s=((((jb s.t).map ba).map fun b=>ay b.length).sum):=by unfold iP;rw[List.map_map];rfl
theorem iE.nums{w:World}{l:LG}{Y:Array Value}(h:iE w l Y):Y[1]?=some (.int .i64 l.size)∧Y[2]?=some (.int .i64 l.used):=by
 obtain⟨A,c,rfl,-⟩:=h.ex;exact⟨rfl,rfl⟩
theorem Ci{D:Nat}{w:World}{s:SW}{i':Nat}{Z:Array Value}(h:pA D w s i' Z)(hT:jw s.t)(hm:s.t.length≤1000000)(hu:s.l.used≤16384):
    Calls prog 38 #[.agg Z] w fun e w'=>(∃r,e=.returned (.float .f64 r)∧yP ((s.l.used-iP s:Nat):Int) (s.l.used:Int) r)∧aa w w':=by
 have HZ:=Ld h.row;obtain⟨X,Y,A,c0,T,e,hD,I,b9,c5,hS⟩:=h.ex;have J:=b9.tb;have b0:Hid (cG X Y):=Ld ⟨hD.row,I.row⟩;obtain⟨u,O⟩:=nm s.l.used;have HU:Hid ((eM X Y (.slice A T.length c0) (.int .u32 s.gen) (.bool s.broken))[5+2]?=some (.int .i64 u)):=Ld (by rw[O];exact b0.out.l 2 _ I.nums.2);obtain⟨bs,L⟩:=nm ((jb s.t).map ba);have F:Hid (∀W,aa w W→Calls prog 80 #[.slice A T.length c0] W fun e w'=>∃A' f c' R,e=.returned (.slice A' f c')∧iG W.heap.size w' A' f R∧yU T bs f R∧aa W w'):=Ld fun W hN=>by rw[L];exact Aj J c5 hS hT hm W hN
 have H:=Ld (And.intro J hS);have m:Hid (iP s=(bs.map fun b=>ay b.length).sum):=Ld (by rw[L];exact zK s);have g:Hid (Bx prog bT w w [] (fun _=>True)):=Ld (Bx.start trivial kQ.triv);rw[←O]at hu⊢;obtain⟨nd,N⟩:=nm (iP s);rw[←N]at m⊢;obtain⟨gen,E⟩:=nm s.gen;obtain⟨br,c4⟩:=nm s.broken;rw[←E,←c4]at e HU;obtain⟨n,hn⟩:=nm T.length;rw[←hn]at e HU F H;clear h hD I J b9 c5 hS hT hm O L N E c4 hn;subst e
 go_enter func38,ntmps38
 go_upto_region 3 with (first
  |(refine dJ g.out rfl rfl rfl dx HZ.out (by decide) ?_;clear g;intro w1 b1 g)
  |((with_reducible refine aA ⟨_,.load 77 _,_,_,_,_⟩ ?_);refine aR 0 g.out rfl rfl rfl rfl underlying77 rfl b0.out.c.1 ?_)
  |(go_at_call 80;refine(F.out _ g.out.nw).mono ?_;rintro e w5 ⟨A',f,c',R,rfl,B,f',hN⟩;obtain⟨D,B⟩:∃D,iG D w5 A' f R:=⟨_,B⟩;have G:=Ld B;have t:=Ld f';have hB:=g.out.new hN;clear g hN B f';have g:=Ld hB;clear hB))
 have i2:=t.out.n;have c3:bs.length=f:=by rw[t.out.bs,List.length_map,G.out.len]
 clear F
 go_wp2_with fail
 go_loopw [3,5] (fun d i wr=>∃(k:Nat),k≤f∧i=.int .i64 k∧d=.int .i64 ((((bs.take k).map fun b=>ay b.length).sum:Nat):Int)∧Hid (aa w5 wr)) (fun _ i _=>f-(intOf i).toNat)
 case atStart=>exact⟨0,Nat.zero_le _,rfl,rfl,Ld (aa.refl _)⟩
 case round=>
  obtain⟨k,hk,rfl,rfl,HW⟩:=hrel
  by_cases M:k<f
  ·have P:=Ld M;have g9:(k:Int)<(f:Int):=by omega
   have i1:(0:Int)≤(k:Int):=by omega
   obtain⟨ga,o,c9,rfl,c⟩:=G.out.at M;obtain⟨x,hx⟩:=nm R[k];rw[←hx]at c;have c:=HW.out.cell_ c;have g4:x∈R:=by rw[hx];exact List.getElem_mem _
   have q:=Ld (tP H.out.2 G.out t.out (fun y hy=>Ch.In.szs ((H.out.1.el y hy).new g.out.nw)) g4 wr HW.out);obtain⟨b,z⟩:=nm (bR x.L);have c1:bs[k]?=some b:=by rw[t.out.bs,List.getElem?_map,List.getElem?_eq_getElem c9,←hx,z];rfl
   rw[←z]at q;obtain⟨sn,C⟩:=nm (ay b.length);obtain⟨S,hS⟩:=nm ((bs.take k).map fun b=>ay b.length).sum;have b7:=lU (bs.take k);rw[←hS,List.length_take]at b7
   have V:Hid (((bs.take (k+1)).map fun b=>ay b.length).sum=S+sn):=Ld (by
    rw[List.take_add_one,c1,List.map_append,List.sum_append,←hS,C]
    simp)
   have g3:=it b.length;have b':Hid (∀W',Calls prog 86 #[.int .i64 (b.length:Nat)] W' fun e w'=>e=.returned (.int .i64 sn)∧W'=w'):=Ld fun W'=>by rw[C,←jk];exact fy _ W'
   rw[←C]at g3;rw[←hS];obtain⟨pn,d'⟩:=nm b.length;rw[←d']at q b';have g6:S+sn≤2000000000:=by omega
   obtain⟨S2,b8⟩:=nm (S+sn);have e1:(S:Int)+(sn:Int)=(S2:Int):=by omega
   have e2:IntKind.i64.wrap (S2:Int)=(S2:Int):=IntWalk.i64_in _ (by omega);rw[←b8]at V;clear c9 hx hS b7 g3 C d' g6 b8 z c1 g4 c3
   go_wp2_with fail
   refine q.out.mono ?_;rintro e w6 ⟨A6,c6,rfl,-,b3⟩;have g5:Hid (aa w5 w6):=Ld (HW.out.tr b3);clear b3 q
   go_wp2_with fail
   refine(b'.out w6).mono ?_;rintro e w7 ⟨rfl,rfl⟩
   go_wp2_with fail
   go_roundw
   case rel=>exact⟨k+1,P.out,by go_num,by rw[V.out],g5⟩
   case measure=>simp[intOf];have:=P.out;omega
  ·have i0:¬(k:Int)<(f:Int):=by omega
   have g8:k=f:=by omega
   subst g8;rw[show((bs.take k).map fun b=>ay b.length).sum=nd from by rw[m.out,List.take_of_length_le (by omega)]];have N:nd≤2000000000:=by rw[m.out];have:=lU bs;omega
   have j:=Ld (g.out.new HW.out);clear g m M c3
   by_cases c8:u<nd
   ·have g7:(u:Int)<(nd:Int):=by omega
    have e0:u-nd=0:=by omega
    have e1:IntKind.i64.wrap (0:Int)=0:=by decide
    have HE:=Ld e0;clear e0 c8
    go_wp2_with ((with_reducible refine aA ⟨_,.load 3 _,_,_,_,_⟩ ?_);refine aR 0 j.out rfl rfl rfl rfl underlying3 rfl HU.out ?_)
    refine(oQ 0 (u:Int) wr).mono ?_;rintro e w7 ⟨r,rfl,hr,z⟩;have U:=Ld (And.intro hr z);clear hr z
    go_wp2_with fail
    go_ret;exact⟨⟨r,rfl,by rw[HE.out];exact U.out.1⟩,j.out.nw.tr U.out.2⟩
   ·have g7:¬(u:Int)<(nd:Int):=by omega
    obtain⟨df,c7⟩:=nm (u-nd);have e0:(u:Int)-(nd:Int)=(df:Int):=by omega
    have e1:IntKind.i64.wrap (df:Int)=(df:Int):=IntWalk.i64_in _ (by omega);have HE:=Ld c7;clear c7 c8
    go_wp2_with ((with_reducible refine aA ⟨_,.load 3 _,_,_,_,_⟩ ?_);refine aR 0 j.out rfl rfl rfl rfl underlying3 rfl HU.out ?_)
    refine(oQ (df:Int) (u:Int) wr).mono ?_;rintro e w7 ⟨r,rfl,hr,z⟩;have U:=Ld (And.intro hr z);clear hr z
    go_wp2_with fail
    go_ret;exact⟨⟨r,rfl,by rw[←HE.out];exact U.out.1⟩,j.out.nw.tr U.out.2⟩
end Go.Proofs.YtfchcdbfalgdlaaGreatDoor
namespace Go.Proofs.YtfchcdbfalgdlaaGreatDoor
open _root_.Go.Proofs.Tryz
open Go.RowKit Go.Sort Go.Maps
def FE(W w:World)(gd:Nat)(p:DP):Prop:=∃bs bf v,Dk w W.heap.size gd bs bf v p∧aa W w
section
variable {W w w':World}{gd gl:Nat}{p:DP}{l:LG}
theorem Du (c:aa W w) (n:Nat) (h1:1≤n) (h2:n≤16384):Calls prog 22 #[.int .i64 n] w fun e w'=>∃g,e= .returned (.tuple #[.pointer (some ⟨g,0,none⟩),.nilIface])∧FE W w' g (DP.new n)∧aa w w':=
 (new_ok n w W.heap.size c.size h1 h2).mono fun e w' ⟨f,d,b⟩=>⟨_,f,⟨_,_,_,d,c.tr b⟩,b⟩
end
theorem tS{p:DP}(c:p.Ok)(l:LG):∀k,(runs p l k).2.length+l.used≤(runs p l k).1.used
 | 0=>by show 0+l.used≤l.used;omega
 |k+1=>by
  have d:=tS c l k
  cases hn:nextL p (runs p l k).1 with
  |none=>rw[iU hn 1];exact d
  |some b=>
   have:=qM c hn;rw[fa hn];simp only[List.length_append,List.length_singleton];omega
theorem oS{p:DP}(b:p.Ok){n g:Nat}(h:4≤n)(j:p.size=n)(d:g<4294967296):(runL p (aS n g)).2.length≤hlf n:=by
 have h1:=tS b (aS n g) ((aS n g).size+1);have h2:=ca b (l:=aS n g) (n:=n) (eS (eO (g:=g) h).2.1 d) ((aS n g).size+1);have c:=h2.1.used;rw[h2.2.1]at c;have f:(aS n g).used=0:=rfl;have i:(aS n g).size=hlf n:=rfl;show(runs p (aS n g) _).2.length≤_;omega
structure Ek(W w:World)(gs gd bs bf bt:Nat)(s:SW)(K:List (List Int))(mm:Nat):Prop where
 st:ea W w gs gd bs bf bt s mm
 ok:kP s K
 nw:aa W w
section
variable {W w w':World}{gs gd bs bf bt mm:Nat}{s:SW}{K:List (List Int)}{v:Value}{p:DP}
theorem Ek.new(h:Ek W w gs gd bs bf bt s K mm)(b:aa w w'):Ek W w' gs gd bs bf bt s K mm:=⟨h.st.new b,h.ok,h.nw.tr b⟩
theorem CQ(c:Dk w W.heap.size gd bs bf v p)(i:aa W w)(g:dp 4 2 W)(hu:Up p)(f:4≤p.size):
    Calls prog 14 #[.pointer (some ⟨gd,0,none⟩)] w fun e w'=>e=.returned .nilIface∧(∃b,Dk w' W.heap.size gd bs bf b (eb p))∧dI (iZ bs bf bs) W w w':=
 (uG c i g hu f).mono fun e w' ⟨j,b,d⟩=>⟨j,⟨b,d.dk⟩,dI.of d.fr (nX c (.inl rfl) (.inr (.inl rfl)))⟩
theorem zQ(b:Dk w W.heap.size gd bs bf v p)(g:aa W w)(i:dp 4 2 W)(hu:Up p)(d:4≤p.size)(q:p.size≤3000)(k:opnS p=(s.p,0,some s))(n:kP s K):
    Calls prog 9 #[.pointer (some ⟨gd,0,none⟩)] w fun e w'=>∃gs bt,e=.returned (.tuple #[.pointer (some ⟨gs,0,none⟩),.nilIface])∧Ek W w' gs gd bs bf bt s K (600*hlf p.size)∧w.heap.size≤gs∧w.heap.size≤bt∧dI (iZ bs bf bs) W w w':=by
 have m:(runL p (aS p.size (iF p))).2.length≤hlf p.size:=oS b.ok d rfl (by rw[←rl];exact np b.ok 2);have o:hlf p.size≤1600:=by unfold hlf;omega
 refine(qL b g i hu d (by omega)).mono fun e w' h=>?_
 unfold mj at h;rw[k]at h;obtain⟨gs,bt,j,c,h1,h2,f⟩:=h;exact⟨gs,bt,j,⟨c.up (Nat.mul_le_mul_left _ m),n,f.nw g⟩,h1,h2,f⟩
theorem EB(h:Ek W w gs gd bs bf bt s K mm){q:Nat→Prop}(A:Option Addr)(n c:Nat)(b:List Bool)(i:Rd q w 1 A n (pS b))(o:n≤maxLen)(r:∀k,q k→k<W.heap.size):
    Calls prog 25 #[.pointer (some ⟨gd,0,none⟩),.slice A n c] w fun e w'=>e=.returned (.tuple #[])∧(∃t,Dk w' W.heap.size gd bs bf t (s.p.cut b))∧dI (iZ bs bf bs) W w w':=by
 obtain⟨gl,gt,v,X,m,E,d⟩:=h.st;refine(Dr d.dk A n c b i o (fun k f e=>by have u:=r k f;have y:=(d.dk.ours bs (.inr (.inl rfl))).1;omega)).mono fun e w' ⟨j,g,hF⟩=>?_
 exact⟨j,⟨_,g⟩,dI.of hF (fun k f=>nX d.dk (.inl rfl) (.inr (.inl rfl)) k (by rcases f with h|h|h<;>simp[bJ,h]))⟩
theorem Eh(p:DP)(b:List Bool):Up (p.cut b):=⟨rfl,rfl⟩
end
theorem DJ{p:DP}{s:SW}(hu:Up p)(b:p.Ok)(d:4≤p.size)(h:opnS p=(s.p,0,some s)):Up s.p:=by
 unfold opnS at h;have f:iF p<4294967296:=by rw[←rl];exact np b 2
 have c:=(ca b (l:=aS p.size (iF p)) (eS (eO d).2.1 f) ((aS p.size (iF p)).size+1)).1;have g:=(hu.wipe (l:=(runL p (aS p.size (iF p))).1) c.fit c.used).2.1;rw[if_neg (by omega)]at h;split at h
 ·simp at h
 ·simp only at h;split at h
  ·injection h with h1 h2;rw[←h1];exact g
  ·simp at h
section
variable {p:DP}{l:LG}
theorem Up.writeN(h:Up p)(b:List Int)(d:l.first+l.size≤p.size):∀k,l.used+k≤l.size→(writeN p l b k).2=0∧Up (writeN p l b k).1∧(writeN p l b k).1.size=p.size
 | 0,_=>⟨rfl,h,rfl⟩
 |k+1,f=>by
  obtain⟨h1,h2,c⟩:=h.writeN b d k (by omega);rw[iX h1];exact⟨h2.wcode (by omega) (by rw[c];omega),h2.write _ _,(DP.doWrite_size _ _ _).trans c⟩
end
def rh:PC:=⟨[97],[49],false⟩
theorem tE:(ba [rh]).length=9:=rfl
theorem Bs{s:SW}(h:kP s [])(hu:Up s.p)(i:s.broken=false)(u:s.gen+1<4294967296)(ht:s.t.Perm []):∃f,kP (eQ s [rh]).1 f∧(eQ s [rh]).2=0∧(eQ s [rh]).1.t=[([97],[49])]∧(eQ s [rh]).1.p.size=s.p.size:=by
 have j:∀c∈[rh],CJ c:=fun c r=>by
  rw[List.mem_singleton.1 r];exact⟨fun x k=>by simp[rh]at k;omega,fun x k=>by simp[rh]at k;omega⟩
 have o:(eQ s [rh]).2=0:=by
  have hl:s.l=aS s.p.size s.gen:=by
   have:=h.log;rw[h.lb i]at this;exact this
  have b:=eO (g:=s.gen) h.n4;have n:=hu.writeN (l:=s.l) (ba [rh]) (by rw[hl];exact b.2.1) 1 (by rw[hl];exact b.1)
  have q:aD s.p s.l (ba [rh])=((writeN s.p s.l (ba [rh]) 1).1,s.l.step (ba [rh]),0):=by
   have y:ay (ba [rh]).length=1:=by rw[tE];rfl
   unfold aD;rw[y,if_neg (by decide),if_neg (by rw[h.lb i];decide),if_neg (by rw[hl];have:=b.1;show ¬hlf s.p.size-0<1;omega)];simp only;rw[if_neg (by rw[n.1];simp)]
  have d:(fo s (ba [rh]))=({s with p:=(writeN s.p s.l (ba [rh]) 1).1,l:=s.l.step (ba [rh])},0):=by
   unfold fo;rw[q,if_pos (show(0:Int)≠8 by decide)]
  unfold eQ;rw[if_neg (by decide),if_neg (by rw[i];decide),if_neg (by rw[tE];decide)];simp only;rw[d,if_neg (show ¬(0:Int)≠0 by decide)];simp only;rw[if_neg (by rw[n.2.1.scode];decide)]
 obtain⟨f,z,B,-,C⟩:=h.commit j u;refine⟨f,z,o,?_,B⟩;rcases C with⟨-,m,-⟩|⟨m,-⟩
 ·rw[m,List.Perm.eq_nil ht];rfl
 ·exact absurd o m
end Go.Proofs.YtfchcdbfalgdlaaGreatDoor
namespace Go.Proofs.YtfchcdbfalgdlaaGreatDoor
open _root_.Go.Proofs.Tryz
open Go.RowKit Go.Sort
def yT(T:CT):Prop:=∀e∈T,1≤e.1.length
theorem Bt{T:CT}{c:PC}{e:List Int×List Int}(h:e∈doP T c):e∈T∨e.1=c.k:=by
 unfold doP at h;split at h
 ·exact .inl (List.mem_filter.1 h).1
 ·rcases List.mem_append.1 h with h | h
  ·exact .inl (List.mem_filter.1 h).1
  ·rw[List.mem_singleton.1 h];exact .inr rfl
theorem yT.doPs:∀{L:List PC} {T:CT},yT T→(∀c∈L,jN c=true)→yT (doPs T L)
 | [],_,h,_=>h
 |c::L,T,h,b=>yT.doPs (L:=L) (T:=doP T c) (fun e g=>(Bt g).elim (h e) (fun f=>by rw[f];exact(mB (b c (List.mem_cons_self ..))).1)) (fun d hd=>b d (List.mem_cons_of_mem _ hd))
theorem yT.prs:∀(bs:List (List Int)) {T t:CT},yT T→bi T bs=some t→yT t
 | [],T,t,h,e=>by
  have c:some T=some t:=e;injection c with c;exact c▸h
 |b::bs,T,t,h,e=>by
  have c:(match dL b with|some L=>bi (Go.Proofs.YtfchcdbfalgdlaaGreatDoor.doPs T L) bs|none=>none)=some t:=e
  cases hL:dL b with
  |none=>rw[hL]at c;cases c
  |some L=>
   rw[hL]at c;exact yT.prs bs (h.doPs (gR (oD hL)).2.2) c
theorem BT{p:DP}{s:SW}(h:(opnS p).2.2=some s):yT s.t:=by
 unfold opnS at h;split at h
 ·cases h
 ·split at h
  ·cases h
  ·dsimp only at h;split at h
   ·next t ht=>
    injection h with h;rw[←h];exact yT.prs _ (fun e b=>by cases b) ht
   ·cases h
theorem ea.tok{W w:World}{gs gd bs bf bt mm:Nat}{s:SW}(h:ea W w gs gd bs bf bt s mm)(f:yT s.t):jw s.t∧s.t.length≤mm:=by
 obtain⟨gl,gt,v,X,m,E,h⟩:=h;have i:=(EG h.tb).nd;have g:=h.mm.2;rw[←h.ct]at f⊢;refine⟨⟨i,fun e d=>?_⟩,by rw[eH];exact g⟩;have b:=f e d;obtain⟨x,j,rfl⟩:=List.mem_map.1 d;obtain⟨h1,h2,c,k⟩:=h.tb.el x j;refine⟨⟨b,h2,h1⟩,?_,c.byt⟩;have:=c.rd.1;rw[ah]at this;show x.2.xs.length≤_;omega
end Go.Proofs.YtfchcdbfalgdlaaGreatDoor
