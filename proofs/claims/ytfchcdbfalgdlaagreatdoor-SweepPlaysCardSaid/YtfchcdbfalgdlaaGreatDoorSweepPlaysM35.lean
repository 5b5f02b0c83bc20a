/- Texts of one proof. No condition but each one's own. -/
import Derived.Test.YtfchcdbfalgdlaaGreatDoorSweepPlaysM33
import Derived.Test.YtfchcdbfalgdlaaGreatDoorSweepPlaysM34
set_option maxHeartbeats 4000000
set_option maxRecDepth 100000
set_option linter.unusedVariables false
set_option linter.unusedSimpArgs false
namespace Go.Proofs.YtfchcdbfalgdlaaGreatDoor
open _root_.Go.Proofs.Tryz
open Go.RowKit Go.Sort Go.Maps
theorem Gu{L:List Ch}(h:∀c∈L,c.d=false):(L.map GL).map AD=L.map cK:=by
 rw[List.map_map];refine List.map_congr_left λc b=>?_
 show(⟨c.k.xs,c.v.xs,false⟩:PC)=⟨c.k.xs,c.v.xs,c.d⟩
 rw[h c b]
theorem Fb{P:List Ch}{R:List Sl}{T:CT}(f:cl P=aI T)(d:R.map Sl.L=jt (mP iD P))(hS:∀y∈P,oR y):jB T=R.map (λx=>x.L.map cK):=by
 have e:jt (mP CZ (cl P))=(jt (mP iD P)).map (List.map GL):=by
  have h1:=Ek GL CZ P;have h2:mP CZ (cl P)=mP CZ (P.map GL):=rfl;rw[h2,h1,Ef];rfl
 unfold jB;rw[<-f,e,<-d,List.map_map,List.map_map];refine List.map_congr_left λx g=>Gu λc b=>(hS c ?_).1
 rw[<-rp d];exact List.mem_flatMap.2 ⟨x,g,b⟩
structure sC(T:CT)(R:List Sl):Prop where
 bs:(jB T).map bw=R.map λx=>bI x.L
 ok:∀x∈R,bY x.L=true
 len:∀x∈R,(bI x.L).length<=65536
 byt:∀x∈R,ba (bI x.L)
theorem tI{P:List Ch}{R:List Sl}{T:CT}(c:ki T)(g:cl P=aI T)(f:R.map Sl.L=jt (mP iD P))(hS:∀y∈P,oR y)(hl:∀x∈R,ko x.L):sC T R:=by
 have d:=Fb g f hS;have hm:∀x∈R,x.L.map cK∈jB T:=λx b=>by rw[d];exact List.mem_map.2 ⟨x,b,rfl⟩
 refine⟨?_,λx b=>?_,λx b=>?_,λx b=>?_⟩
 ·rw[d,List.map_map];exact List.map_congr_left λx b=>(gE (hl x b)).symm
 ·rw[<-fE (hl x b)];exact(ku c _ (hm x b)).1
 ·rw[gE (hl x b)];exact(ku c _ (hm x b)).2.2
 ·rw[gE (hl x b)];exact jo (ku c _ (hm x b)).2.1
section
variable {W w w':World}{gs gd bs bf bt mm gl gt m:Nat}{s:SW}{v:Value}{X:Nat->Prop}{E:gh}
theorem jA.own(h:jA W w gs gd bs bf bt s mm gl gt v X m E)(hF:Fr (λk=>k=gs) w w'){gl' gen:Nat}{l:LG}{br:Bool}(d:ac w' gs 102 #[.pointer (some ⟨gd,0,none⟩),.pointer (some ⟨gl',0,none⟩),.pointer (some ⟨gt,0,none⟩),.int .u32 gen,.bool br])
    (hl:Lg w gl' gd l s.p.size) (b:W.heap.size<=gl') (j:gen<4294967296):jA W w' gs gd bs bf bt {s with l:=l,gen:=gen,broken:=br} mm gl' gt v X m E/\dZ (iY bs bf bt) W w w':=by
 have n:∀t cs,ac w gs t cs->t=102:=λt cs g=>Classical.byContradiction λc=>ac.ne_ g h.blk c rfl
 have hd:∀k,k=gs->¬bW gd bs bf v k:=λk e o=>by subst e;exact(h.dkfr k o).2.1 rfl
 refine⟨⟨d,h.dk.fr hF hd,hl.fr hF (λe=>?_),h.tb.fr hF (λe=>?_) (λe=>?_) (λk e p=>?_),⟨h.lo.1,b⟩,h.ne,h.ct,h.mm,j,h.n4⟩,dZ.of hF (λk e=>?_)⟩
 ·subst e;exact ac.ne_ hl.blk h.blk (by decide) rfl
 ·subst e;exact ac.ne_ h.tb.blk h.blk (by decide) rfl
 ·subst e;obtain⟨f,i,-⟩:=h.tb.map;exact aK.not_map i ⟨_,_,h.blk⟩
 ·subst e;exact aK.not_blk h.blk (by decide) (h.tb.xs _ p).2
 ·subst e;exact⟨h.lo.1,.inr (.inl ⟨_,_,h.blk⟩)⟩
theorem qp (h:jA W w gs gd bs bf bt s mm gl gt v X m E) (c:Int):Calls prog 61 #[.pointer (some ⟨gs,0,none⟩),dP c] w λe w'=>e= .returned (dP c)/\jA W w' gs gd bs bf bt {s with broken:=s.broken||fK c} mm gl gt v X m E/\dZ (iY bs bf bt) W w w':=by
 have o:=Ld h;obtain⟨B,b⟩:=nm (dP c);have t:Hid (fK c=false->jA W w gs gd bs bf bt {s with broken:=s.broken||fK c} mm gl gt v X m E):=Ld λe=>by rw[e,Bool.or_false];exact h
 have z:=h.blk;have u:=h.c4;have i:w.frozen? ⟨gs,4,none⟩=false:=z.frozen 4;have d:=Ld (sY c 8 (by decide) w);have j:=Ld (sY c 9 (by decide) w);rw[<-b]at d j⊢;clear h z
 by_cases h0:c=0
 ·have f:Hid (fK c=false):=Ld (by rw [h0];rfl);have q:B= .nilIface:=by rw [b,h0];rfl
  subst q;clear b d j h0 u i
  go_enter func61,ntmps61
  go_wp2_with fail;go_ret;exact⟨rfl,t.out f.out,dZ.new (aa.refl _)⟩
 ·have q:=bK h0;rw[<-b]at q;subst q;clear b
  by_cases g:c=8
  ·have f:Hid (fK c=false):=Ld (by rw[g];rfl);rw[decide_eq_true g]at d;clear g h0 u i
   go_enter func61,ntmps61
   go_wp2_with fail;refine d.out.mono ?_;rintro e r ⟨rfl,rfl⟩
   go_wp2_with fail;go_ret;exact⟨rfl,t.out f.out,dZ.new (aa.refl _)⟩
  ·rw[decide_eq_false g]at d
   by_cases n:c=9
   ·have f:Hid (fK c=false):=Ld (by rw[n];rfl);rw[decide_eq_true n]at j;clear n g h0 u i
    go_enter func61,ntmps61
    go_wp2_with fail;refine d.out.mono ?_;rintro e r ⟨rfl,rfl⟩
    go_wp2_with fail;refine j.out.mono ?_;rintro e r ⟨rfl,rfl⟩
    go_wp2_with fail;go_ret;exact⟨rfl,t.out f.out,dZ.new (aa.refl _)⟩
   ·rw[decide_eq_false n]at j;have f:Hid (fK c=true):=Ld (decide_eq_true ⟨h0,g,n⟩);clear n g h0
    go_enter func61,ntmps61
    go_wp2_with fail;refine d.out.mono ?_;rintro e r ⟨rfl,rfl⟩
    go_wp2_with fail;refine j.out.mono ?_;rintro e r ⟨rfl,rfl⟩
    go_wp2_with fail;go_ret;rw[f.out,Bool.or_true];have y:=o.out.own (w':=w.setCell ⟨gs,4,none⟩ (.bool true)) ((Fr.refl (λk=>k=gs) w).setCell (p:=⟨gs,4,none⟩) (λ_=>rfl) _) (gl':=gl) (gen:=s.gen) (l:=s.l) (br:=true) (by have:=o.out.blk.set 4 (.bool true);simpa using this) o.out.lg o.out.lo.2 o.out.gen;exact⟨rfl,y⟩
end
section
variable {W w w':World}{gs gd bs bf bt mm gl gt m:Nat}{s:SW}{v:Value}{X:Nat->Prop}{E:gh}
def AE(W w:World)(gs gd bs bf bt:Nat)(s:SW)(mm gl gt:Nat)(X:Nat->Prop)(m:Nat)(E:gh)(r:DP×LG×Int)(e:Ending)(w':World):Prop:=
 ∃(pl:Option Addr) (c:Value),e=.returned (.tuple #[.pointer pl,dP r.2.2])/\jA W w' gs gd bs bf bt {s with p:=r.1} mm gl gt c X m E/\dZ (iY bs bf bt) W w w'/\
  (r.2.2=0->∃b,pl=some ⟨b,0,none⟩/\W.heap.size<=b/\Lg w' b gd r.2.1 r.1.size)
def GG(gs gd g:Nat)(w:World):Prop:=w.cell? ⟨gs,0,none⟩=some (.pointer (some ⟨gd,0,none⟩))/\w.cell? ⟨gs,3,none⟩=some (.int .u32 g)
theorem zd(p:DP)(l:LG)(b:List Int)(bs:List (List Int)):eb p l (b::bs)=if(aD p l b).2.2≠0 then aD p l b else eb (aD p l b).1 (aD p l b).2.1 bs:=rfl
structure Da(W w w4:World)(gs gd bs bf bt:Nat)(s:SW)(mm gl gt:Nat)(X:Nat->Prop)(m:Nat)(E:gh)(gn D:Nat)(A:Option Addr)(n:Nat)(R:List Sl)(q:DP)(l:LG)(wr:World):Prop where
 st:∃v',jA W wr gs gd bs bf bt {s with p:=q} mm gl gt v' X m E/\∀k,v'.ownBlock=some k->k<w4.heap.size\/D<=k
 kp:dZ (iY bs bf bt) W w wr
 lg:Lg wr gn gd l q.size
 bt:ja w4.heap.size D wr A n R
 dz:D<=wr.heap.size
theorem jd(p:DP)(l:LG)(b:List Int):(aD p l b).1.size=p.size:=by
 unfold aD;split
 ·rfl
 split
 ·rfl
 split
 ·rfl
 simp only;split
 ·exact fI _ _ _ _
 ·exact fI _ _ _ _
theorem yU (R:List Sl):R.flatMap Sl.cells=R.map λx=> .slice x.A x.n x.c:=by
 induction R with
 |nil=>rfl
 |cons x R b=>rw[List.flatMap_cons,b];rfl
theorem ja.at{B D n i:Nat}{A:Option Addr}{R:List Sl}(h:ja B D w A n R)(hi:i<n):∃g o,∃hl:i<R.length,A=some ⟨g,o,none⟩/\w.cell? ⟨g,o+i,none⟩=some (.slice R[i].A R[i].n R[i].c):=by
 have hl:i<R.length:=by rw[h.len];exact hi
 obtain⟨g,o,b,-,-,d⟩:=h.rd.out (by omega) (by omega);refine⟨g,o,hl,b,d i _ ?_⟩;rw[yU,List.getElem?_map,List.getElem?_eq_getElem hl];rfl
theorem Da.new{f wr c:World}{d D n:Nat}{A:Option Addr}{R:List Sl}{q:DP}{l:LG}(h:Da W w f gs gd bs bf bt s mm gl gt X m E d D A n R q l wr)(b:aa wr c):Da W w f gs gd bs bf bt s mm gl gt X m E d D A n R q l c:=by
 obtain⟨g,h1,h2⟩:=h.st;exact⟨⟨g,h1.new b,h2⟩,h.kp.tr (dZ.new b),h.lg.new b,h.bt.new b,Nat.le_trans h.dz b.size⟩
theorem Da.step{c wr g:World}{d D n:Nat}{A:Option Addr}{R:List Sl}{q r:DP}{l u:LG}(h:Da W w c gs gd bs bf bt s mm gl gt X m E d D A n R q l wr){v1 y:Value}(i:jA W wr gs gd bs bf bt {s with p:=q} mm gl gt v1 X m E)(t:∀k,v1.ownBlock=some k->k<c.heap.size\/D<=k)
    (f:yY wr W.heap.size d gd bs bf v1 r u g y) (hz:r.size=q.size) (z:gl<d) (j:d<c.heap.size) (o:W.heap.size<=d) (hd:gd<c.heap.size/\bs<c.heap.size/\bf<c.heap.size):Da W w c gs gd bs bf bt s mm gl gt X m E d D A n R r u g:=by
 obtain⟨h1,h2⟩:=i.disk f.fr (λk b=>by
  rcases b with rfl|b
  ·exact⟨⟨o,.inr (.inr (.inl ⟨_,_,h.lg.blk⟩))⟩,λe=>ac.ne_ h.lg.blk i.blk (by decide) e,by omega⟩
  ·exact i.dkfr k b) f.dk hz
 refine⟨⟨y,h1,λk b=>?_⟩,h.kp.tr h2,f.lg,h.bt.fr f.fr (λk b=>?_),Nat.le_trans h.dz f.fr.size⟩
 ·rcases (f.own k b).2 with e | e
  ·exact t k e
  ·have:=h.dz;omega
 ·rcases b with rfl | rfl | rfl | rfl | b
  ·exact .inl j
  ·exact .inl hd.1
  ·exact .inl hd.2.1
  ·exact .inl hd.2.2
  ·exact t k b
theorem AR(h:jA W w gs gd bs bf bt s mm gl gt v X m E)(hN:aa W w)(hL:dC 4 2 W)(hg:s.gen+1<4294967296)(hm:m<=1000000)(hE:E.length<=1000000)(T:ki s.t):
    Calls prog 62 #[.pointer (some ⟨gs,0,none⟩)] w (AE W w gs gd bs bf bt s mm gl gt X m E (dD s)):=by
 have HX:=Ld h;have HN:=Ld hN;have HL:=Ld hL;have HM:=Ld (And.intro hm hE);have HT:=Ld T;have y:=fk (g:=s.gen+1) h.n4;obtain⟨g1,c8⟩:=nm (s.gen+1);obtain⟨t,c7⟩:=nm (gj g1 s.p.size);obtain⟨hl,c9⟩:=nm (hlf s.p.size);rw[<-c8]at y;rw[<-c7,<-c9]at y
 have j7:Hid (∀w1,aa w w1->Calls prog (46) #[.pointer (some ⟨gd,0,none⟩),.int .u32 g1] w1 λe w'=>e=.returned (.tuple #[.int .i64 t,.int .i64 hl])/\w1=w'):=Ld λw1 hN=>by
  rw[c7,c9];exact nt (h.dk.new hN) (by have:=h.n4;omega) g1 (by omega)
 have b0:Hid (∀w1,aa w w1->Calls prog (58) #[.pointer (some ⟨gd,0,none⟩),.int .i64 t,.int .i64 hl,.int .u32 g1] w1 (gT w1 gd W.heap.size bs bf v (bZ t hl g1) (aB s.p (bZ t hl g1)) s.p.size)):=Ld λw1 hN=>pz (h.dk.new hN) t hl g1 y.1 y.2.1 (by omega) (by omega)
 have j3:Hid (aW s.p.size g1=bZ t hl g1/\g1=s.gen+1/\g1<4294967296):=Ld ⟨by rw[c7,c9];rfl,c8,by omega⟩;obtain⟨r,hr⟩:=nm (aB s.p (bZ t hl g1));obtain⟨b,i3⟩:=nm ((jB s.t).map bw);obtain⟨AN,i'⟩:=nm (dD s)
 have G:Hid (AN=if r.2≠0 then(r.1,bZ t hl g1,r.2)else if(eb r.1 (bZ t hl g1) b).2.2≠0 then eb r.1 (bZ t hl g1) b else if(eb r.1 (bZ t hl g1) b).1.scode≠0 then((eb r.1 (bZ t hl g1) b).1.doSync,(eb r.1 (bZ t hl g1) b).2.1,(eb r.1 (bZ t hl g1) b).1.scode)else
  ((bU (eb r.1 (bZ t hl g1) b).1.doSync g1).1,(eb r.1 (bZ t hl g1) b).2.1,(bU (eb r.1 (bZ t hl g1) b).1.doSync g1).2)):=Ld (by rw[i',hr,i3,<-j3.out.1,c8];rfl)
 have k9:=Ld i3;have g6:Hid (r.1.size=s.p.size):=Ld (by rw[hr];exact lZ _ _);rw[<-hr]at b0;rw[<-i'];have e1:(s.gen:Int)+1=(g1:Int):=by omega
 have e2:IntKind.u32.wrap (g1:Int)=(g1:Int):=by rw[IntKind.wrap_u32];omega
 have c0:=h.c0;have c3:=h.c3;have q0:∀p:HW (GG gs gd s.gen),p.w.cell? ⟨gs,0,none⟩=some (.pointer (some ⟨gd,0,none⟩)):=λp=>p.h.1
 have q3:∀p:HW (GG gs gd s.gen),p.w.cell? ⟨gs,3,none⟩=some (.int .u32 s.gen):=λp=>p.h.2
 obtain⟨l0,i6⟩:=nm (bZ t hl g1);rw[<-i6]at b0 G;have m1:=Ld i6;clear h hN hL hm hE T y c8 c7 c9 hr i3 i' i6 hg
 go_enter func62,ntmps62
 go_upto_region 1 with fail;have hq:=λq=>Calls.quiet_of_same ((j7.out _ (aa.dn (aa.refl w) q)).mono λ_ _ h=>⟨h.1,h.2.symm⟩)
 go_quiet (exact hq _)
 clear hq j7
 go_upto_region 2 with fail;obtain⟨w2,j1⟩:=nm ((w.drewN nq).drew);have u:Hid (aa w w2):=Ld (by rw[j1];exact aa.dr (aa.dn (aa.refl w) nq));refine ah (GG gs gd s.gen) [(true,0),(true,1),(true,2),(true,3),(true,4),(true,5),(true,6),(true,7),(true,8),(true,9),(true,10),(false,11),(true,12),(true,13),(true,14),(true,15),(true,16)] (by kernel_rfl) (by kernel_rfl) ⟨c0,c3⟩ (λm'=>?_);rw[<-j1];clear j1 c0 c3
 iterate 11 (refine af (o:=.mk ..) rfl (λK j=>?_);go_simp;refine j _ ?_;clear j K)
 refine aj (o:=.mk ..) rfl (λK j=>?_) (.inl rfl);go_simp;refine(b0.out w2 u.out).mono ?_;intro e U hs;clear b0;unfold gT at hs
 by_cases h0:r.2=0
 ·rw[if_pos h0]at hs;obtain⟨B,v3,rfl,l5,k6,T⟩:=hs;obtain⟨O,N⟩:=(HX.out.new u.out).disk T.fr (HX.out.new u.out).dkfr T.dk g6.out;have d:=Ld O;have b7:Hid (dZ (iY bs bf bt) W w U):=Ld ((dZ.new u.out).tr N);have b8:Hid (Lg U B gd l0 r.1.size/\w.heap.size<=B):=Ld ⟨by rw[g6.out];exact k6,by have:=u.out.size;omega⟩;have F:=Ld (G.out.trans (if_neg (by rw[h0];simp)));clear T O N l5 k6 G h0;go_simp;refine j.out _ _ (λ_=>⟨d.out.c0,d.out.c3⟩) ?_;clear j K
  iterate 5 (refine af (o:=.mk ..) rfl (λK j=>?_);go_simp;refine j _ ?_;clear j K)
  refine au ?_;have c2:=d.out.c2
  go_wp2_with fail;refine(nS d.out.tb HM.out.1 HM.out.2).mono ?_;rintro e w5 ⟨⟨A,n,c,R,P,rfl,⟨-,D,M,hD⟩,i4,i2,hS⟩,c1⟩;have J:Hid (sC s.t R):=Ld (tI HT.out (by rw[i4,d.out.ct]) i2 hS (λx hx=>(M.row hx).lens));have Z:Hid (b=R.map (λx=>bI x.L)/\n=R.length):=Ld ⟨by rw[k9.out];exact J.out.bs,M.len.symm⟩
  have b':n<=1000000:=by
   have h1:=oG (R.map Sl.L) (λl hl=>by
    obtain⟨x,hx,rfl⟩:=List.mem_map.1 hl;have:=(dt (J.out.ok x hx)).1
    exact this)
   have h2:P.length=E.length:=by
    have h3:=congrArg List.length i4;have h4:=(dU (dy E)).length_eq;rw[h4,du]at h3
    simpa[cl]using h3
   have h3:(R.map Sl.L).flatten=P:=by rw[i2];exact jv iD P
   rw[h3,List.length_map,M.len]at h1;have:=HM.out.2;omega
  have l3:=Ld b'
  have HZ:Hid (gl<B/\B<U.heap.size/\W.heap.size<=B/\gd<U.heap.size/\bs<U.heap.size/\bf<U.heap.size):=Ld (by
   have h1:=HX.out.lg.blk.lt;have h2:=b8.out.1.blk.lt;have h3:=HN.out.size;have h4:=b8.out.2;have h5:=λk hk=>(d.out.dk.ours k hk).2
   exact⟨by omega,h2,by omega,h5 gd (.inl rfl),h5 bs (.inr (.inl rfl)),h5 bf (.inr (.inr (.inl rfl)))⟩)
  have j2:Hid (Da W w U gs gd bs bf bt s mm gl gt X m E B D A n R r.1 l0 w5):=Ld ⟨⟨v3,d.out.new c1,λk hk=>.inl (d.out.dk.ours k (.inr (.inr (.inr hk)))).2⟩,b7.out.tr (dZ.new c1),b8.out.1.new c1,M,hD⟩;clear M hD i4 i2 hS c1 b' c2 d b7 b8
  go_wp2_with fail;go_loopw [9,10,11,12,51] (λ_ _ _ _ i wr=>∃(k:Nat) (q:DP) (l:LG),k<=n/\i=.int .i64 k/\Hid (Da W w U gs gd bs bf bt s mm gl gt X m E B D A n R q l wr)/\Hid (eb r.1 l0 b=eb q l (b.drop k))) (λ_ _ _ _ i _=>n-(intOf i).toNat)
  case atStart=>exact⟨0,r.1,l0,Nat.zero_le _,rfl,j2,Ld rfl⟩
  case round=>
   clear j2;obtain⟨k,q,l,hk,rfl,HI,Y⟩:=hrel;obtain⟨v1,k7,k8⟩:=HI.out.st;have HV:=Ld k7;have g8:=Ld k8;clear k7 k8
   by_cases d':k<n
   ·have l9:(k:Int)<(n:Int):=by omega
    have m3:(0:Int)<=(k:Int):=by omega
    have m4:=l3.out;obtain⟨ga,o,hl,hA,S⟩:=HI.out.bt.at d';subst hA;obtain⟨x,hx⟩:=nm R[k];rw[<-hx]at S;have c':Hid (x∈R):=Ld (by rw[hx];exact List.getElem_mem _)
    have g3:Hid (b.drop k=bI x.L::b.drop (k+1)):=Ld (by
     have l8:k<b.length:=by rw[Z.out.1,List.length_map];exact hl
     rw[List.drop_eq_getElem_cons l8]
     congr 1
     simp only[Z.out.1,List.getElem_map,hx])
    have j8:=Ld (tz x.A x.n x.c x.L wr (HI.out.bt.row c'.out) (J.out.ok x c'.out));have j4:=Ld d';clear hl hx d'
    go_wp2_with fail;refine j8.out.mono ?_;rintro e V ⟨⟨A6,c6,b6,rfl,l4,c4⟩,i1⟩;have j5:=Ld c4;have b1:=Ld (HI.out.new i1);have g7:=Ld (HV.out.new i1);obtain⟨C,i7⟩:=nm (bI x.L);have j6:Hid (C.length<=65536/\ba C):=Ld (by rw[i7];exact⟨J.out.len x c'.out,J.out.byt x c'.out⟩);rw[<-i7]at j5 g3⊢;have j9:Hid (dC 4 2 V):=Ld (HL.out.new (b1.out.kp.nw HN.out));clear l4 c4 i1 i7 j8 S HI HV
    go_wp2_with fail;refine(sG b1.out.lg g7.out.dk j9.out A6 C.length c6 C (Rd.own j5.out rfl) j6.out.2 (by have:=j6.out.1;unfold maxLen;omega)).mono ?_;rintro e w7 ⟨rfl,v7,k2⟩;have b3:Hid (Da W w U gs gd bs bf bt s mm gl gt X m E B D (some ⟨ga,o,none⟩) n R (aD q l C).1 (aD q l C).2.1 w7):=Ld (b1.out.step g7.out g8.out k2 (jd q l C) HZ.out.1 HZ.out.2.1 HZ.out.2.2.1 HZ.out.2.2.2);have f:Hid (eb r.1 l0 b=if(aD q l C).2.2≠0 then aD q l C else eb (aD q l C).1 (aD q l C).2.1 (b.drop (k+1))):=Ld (by rw[Y.out,g3.out];rfl);obtain⟨ap,k5⟩:=nm (aD q l C);rw[<-k5]at b3 f⊢;clear k2 k5 Y g3 b1 g7 g8 j9
    by_cases h1:ap.2.2=0
    ·have H:=Ld (f.out.trans (if_neg (by rw[h1];simp)));rw[h1,cg];clear h1 f
     go_wp2_with fail;go_roundw
     case rel=>exact⟨k+1,ap.1,ap.2.1,j4.out,by go_num,b3,H⟩
     case measure=>simp[intOf];have:=j4.out;omega
    ·have H:=Ld (f.out.trans (if_pos h1));have HE:=Ld (bK h1);have I:=Ld h1;have z:Hid (AN=ap):=Ld (by rw[F.out,H.out,if_pos h1]);rw[HE.out];clear h1 f
     go_wp2_with fail;go_ret2;obtain⟨v8,m0,-⟩:=b3.out.st;rw[z.out];exact⟨none,v8,by rw[HE.out];rfl,m0,b3.out.kp,λe=>absurd e I.out⟩
   ·have m2:¬(k:Int)<(n:Int):=by omega
    have l7:k=n:=by omega
    subst l7;have f:Hid (eb r.1 l0 b=(q,l,0)):=Ld (by rw[Y.out,List.drop_of_length_le (by rw[Z.out.1,List.length_map,Z.out.2];exact Nat.le_refl _)];rfl);have z:Hid (AN=if q.scode≠0 then(q.doSync,l,q.scode)else((bU q.doSync g1).1,l,(bU q.doSync g1).2)):=Ld (by rw[F.out,f.out,if_neg (by simp)]);have c0:=HV.out.c0;clear d' Y f F
    go_wp2_with fail;refine(kP HV.out.dk).mono ?_;rintro e V ⟨rfl,v6,k',i0,c4⟩;obtain⟨k3,k0⟩:=HV.out.disk i0 HV.out.dkfr k' (DP.doSync_size q);have L:=Ld k3;have g4:Hid (dZ (iY bs bf bt) W w V):=Ld (HI.out.kp.tr k0);have g5:Hid (Lg V B gd l q.doSync.size):=Ld (by rw[DP.doSync_size];exact HI.out.lg.fr i0 (fc HV.out.dk HI.out.lg));obtain⟨sc,j0⟩:=nm q.scode;obtain⟨q2,j'⟩:=nm q.doSync;rw[<-j0,<-j']at z;rw[<-j']at L g5;rw[<-j0];clear k3 k0 k' i0 c4 j0 j' HI HV c0 g8
    by_cases h1:sc=0
    ·have f':=Ld (z.out.trans (if_neg (by rw[h1];simp)));rw[h1,cg];have c0:=L.out.c0;have c3:V.cell? ⟨gs,3,none⟩=some (.int .u32 s.gen):=L.out.c3;clear h1 z
     go_upto_region 18 with fail;refine ah (GG gs gd s.gen) [(true,0),(true,1),(true,2),(true,3),(true,4),(true,5),(true,6),(true,7),(true,8),(true,9),(false,10),(true,11),(true,12)] (by kernel_rfl) (by kernel_rfl) ⟨c0,c3⟩ (λm'=>?_);have b9:=Ld (L.out.new (aa.dr (aa.refl V)));clear c0 c3
     iterate 10 (refine af (o:=.mk ..) rfl (λK j=>?_);go_simp;refine j _ ?_;clear j K)
     refine aj (o:=.mk ..) rfl (λK j=>?_) (.inl rfl);go_simp;refine(uQ b9.out.dk (HL.out.new ((g4.out.tr (dZ.new (aa.dr (aa.refl V)))).nw HN.out)) g1 j3.out.2.2).mono ?_;rintro e w8 ⟨rfl,v8,c5⟩;have i9:(bU q2 g1).1.size=q2.size:=by unfold bU;split<;>simp[DP.doSync_size,DP.doWrite_size]
     obtain⟨k4,k1⟩:=b9.out.disk c5.fr b9.out.dkfr c5.dk i9;have g9:=Ld k4;have l1:Hid (dZ (iY bs bf bt) W w w8):=Ld ((g4.out.tr (dZ.new (aa.dr (aa.refl V)))).tr k1);have l2:Hid (Lg w8 B gd l (bU q2 g1).1.size):=Ld (by rw[i9];exact(g5.out.new (aa.dr (aa.refl V))).fr c5.fr (fc b9.out.dk (g5.out.new (aa.dr (aa.refl V)))));obtain⟨ev,i5⟩:=nm (dP (bU q2 g1).2);have l':=Ld i5;rw[<-i5];clear k4 k1 c5 i9 i5;go_simp;refine j.out _ _ (λ_=>⟨g9.out.c0,g9.out.c3⟩) ?_;clear j K
     iterate 2 (refine af (o:=.mk ..) rfl (λK j=>?_);go_simp;refine j _ ?_;clear j K)
     refine au ?_
     go_wp2_with fail;go_ret2;rw[f'.out];exact⟨some ⟨B,0,none⟩,v8,by rw[l'.out];rfl,g9.out,l1.out,λ_=>⟨B,rfl,HZ.out.2.2.1,l2.out⟩⟩
    ·have f':=Ld (z.out.trans (if_pos h1));have HE:=Ld (bK h1);have I:=Ld h1;rw[HE.out];clear h1 z
     go_wp2_with fail;go_ret2;rw[f'.out];exact⟨none,v6,by rw[HE.out];rfl,L.out,g4.out,λe=>absurd e I.out⟩
 ·rw[if_neg h0]at hs;obtain⟨v3,rfl,T⟩:=hs;obtain⟨O,N⟩:=(HX.out.new u.out).disk T.fr (HX.out.new u.out).dkfr T.dk g6.out;have d:=Ld O;have b7:Hid (dZ (iY bs bf bt) W w U):=Ld ((dZ.new u.out).tr N);have F:=Ld (G.out.trans (if_pos h0));have HE:=Ld (bK h0);have I:=Ld h0;rw[HE.out];clear T O N G h0;go_simp;refine j.out _ _ (λ_=>⟨d.out.c0,d.out.c3⟩) ?_;clear j K
  iterate 5 (refine af (o:=.mk ..) rfl (λK j=>?_);go_simp;refine j _ ?_;clear j K)
  refine au ?_
  go_wp2_with fail;go_ret2;rw[F.out];exact⟨none,v3,by rw[HE.out];rfl,d.out,b7.out,λe=>absurd e I.out⟩
end
end Go.Proofs.YtfchcdbfalgdlaaGreatDoor
