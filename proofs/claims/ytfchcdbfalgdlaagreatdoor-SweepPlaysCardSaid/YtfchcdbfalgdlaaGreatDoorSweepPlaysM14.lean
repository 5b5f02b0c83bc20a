/- Texts of one proof. No condition but each one's own. -/
import Derived.Test.YtfchcdbfalgdlaaGreatDoorSweepPlaysM12
import Derived.Test.YtfchcdbfalgdlaaGreatDoorSweepPlaysM13
set_option maxHeartbeats 4000000
set_option maxRecDepth 100000
set_option linter.unusedVariables false
set_option linter.unusedSimpArgs false
namespace Go.Proofs.YtfchcdbfalgdlaaGreatDoor
open _root_.Go.Proofs.Tryz
open Go.RowKit Go.Sort
theorem fc{w:World}{base b g bs c n:Nat}{v:Value}{p:DP}{l:LG}(h:Dk w base g bs c v p)(hl:Lg w b g l n):¬bW g bs c v b:=
 gu h hl.blk (λe=>ac.ne_ (g:=b) (g':=g) hl.blk h.blk (by decide) e) (by decide)
theorem fA(p:DP)(l:LG):∀k,(wipeN p l k).1.size=p.size
 | 0=>rfl
 |k+1=>by
  have b:=fA p l k;simp only[wipeN];split
  ·exact b
  ·split
   ·exact(DP.doWrite_size _ _ _).trans b
   ·exact b
theorem nJ{p:DP}{l:LG}{k:Nat}(h:(wipeN p l k).2.2≠0):∀j,wipeN p l (k+j)=wipeN p l k
 | 0=>rfl
 |j+1=>by
  have b:=nJ h j;rw[<-Nat.add_assoc];simp only[wipeN];rw[b,if_pos h]
theorem jQ{p:DP}{l:LG}{k:Nat}(h:(wipeN p l k).2.2=0)(b:¬aU ((sct (wipeN p l k).1 l k).take 4)=l.gen):wipeN p l (k+1)=wipeN p l k:=by
 simp only[wipeN];rw[if_neg (by rw[h];simp),if_neg b]
theorem lq{p:DP}{l:LG}{k:Nat}(h:(wipeN p l k).2.2=0)(b:aU ((sct (wipeN p l k).1 l k).take 4)=l.gen):wipeN p l (k+1)=((wipeN p l k).1.doWrite ((l.first+l.used+k:Nat):Int) az,(if(wipeN p l k).1.wcode ((l.first+l.used+k:Nat):Int)=0 then true else(wipeN p l k).2.1),(wipeN p l k).1.wcode ((l.first+l.used+k:Nat):Int)):=by
 simp only[wipeN];rw[if_neg (by rw[h];simp),if_pos b]
def mo(w:World)(base g bs b:Nat)(v:Value)(r:DP×Int)(e:Ending)(w':World):Prop:=e=.returned (dP r.2)/\∃c,dg w base g bs b v r.1 w' c
def mX(b:Nat)(x y:Value)(w:World):Prop:=w.cell? ⟨b,0,none⟩=some x/\w.cell? ⟨b,1,none⟩=some y
theorem vJ{w:World}{d gd base bs bf:Nat}{v:Value}{p:DP}{l:LG}(h:Lg w d gd l p.size)(hD:Dk w base gd bs bf v p):
    Calls prog 97 #[.pointer (some ⟨d,0,none⟩)] w (mo w base gd bs bf v (aB p l)):=by
 have l7:=Ld h;have b7:Hid (¬bW gd bs bf v d):=Ld (fc hD h);have i7:Hid (dg w base gd bs bf v p w v):=Ld (dg.same hD (aa.refl w));have l1:=hD.ok.s2;have H:=h.ok.fit;have m:=h.ok.used;have f':Hid (l.gen<4294967296):=Ld h.ok.gen;obtain⟨t,c7⟩:=nM (l.used);obtain⟨G,c3⟩:=nM (l.first);obtain⟨sz,C⟩:=nM (l.size);obtain⟨gen,c5⟩:=nM (l.gen);have c4:=h.c4;rw[<-c7]at c4 m;rw[<-c5]at f';rw[<-c3]at H;rw[<-C]at m H;have l3:t<=sz:=m;have l2:G+sz<=16384:=by omega
 have d':Hid (t=l.used/\G=l.first/\sz=l.size/\gen=l.gen):=Ld ⟨c7,c3,C,c5⟩;have k5:Hid (G+sz<=p.size):=Ld H
 have g4:Hid (∀W:World,W.heap[d]?=w.heap[d]? ->W.cell? ⟨d,0,none⟩=some (.pointer (some ⟨gd,0,none⟩))/\W.cell? ⟨d,1,none⟩=some (.int .i64 G)/\W.cell? ⟨d,2,none⟩=some (.int .i64 sz)/\W.cell? ⟨d,3,none⟩=some (.int .u32 gen)):=Ld λW hW=>by
  have hb:Lg W d gd l p.size:=⟨hW.trans h.blk,h.ok⟩
  rw[c3,C,c5];exact⟨hb.c0,hb.c1,hb.c2,hb.c3⟩
 have P:=Ld h.blk.lt;obtain⟨WL,i'⟩:=nM (aB p l);rw[<-i'];have g8:Hid (WL=(if(wipeN p l (sz-t)).2.2≠0 then((wipeN p l (sz-t)).1,(wipeN p l (sz-t)).2.2)else if(wipeN p l (sz-t)).2.1=true then((wipeN p l (sz-t)).1.doSync,(wipeN p l (sz-t)).1.scode)else((wipeN p l (sz-t)).1,0))):=Ld (by rw[i',C,c7];rfl);clear h hD H m c7 c3 C c5 l1 i'
 go_enter func97,ntmps97
 go_wp2_with fail;go_loopw [3,4] (λwd i wr=>∃(k:Nat) (i0:Nat) (b:Bool) (v':Value),Hid (i0=t+k)/\i0<=sz/\i=.int .i64 i0/\wd=.bool b/\Hid (b=(wipeN p l k).2.1)/\Hid ((wipeN p l k).2.2=0)/\Hid (dg w base gd bs bf v (wipeN p l k).1 wr v')) (λ_ i _=>sz-(intOf i).toNat)
 case atStart=>exact⟨0,t,false,v,Ld rfl,l3,rfl,rfl,Ld rfl,Ld rfl,i7⟩
 case round=>
  clear i7 c4;obtain⟨k,i,b,v',HI,hi,rfl,rfl,HB,HE,J⟩:=hrel;have b1:=g4.out wr (J.out.fr.block d P.out b7.out);have l5:Hid (wr.heap[d]?=w.heap[d]?):=Ld (J.out.fr.block d P.out b7.out);have c2:=b1.2.2.1;have j7:=b1.1;have j8:=b1.2.1;have HC:=Ld b1;clear b1;have q0:∀p:HW (aa wr),p.w.cell? ⟨d,0,none⟩=some (.pointer (some ⟨gd,0,none⟩)):=λp=>p.h.cell_ j7
  have q1:∀p:HW (aa wr),p.w.cell? ⟨d,1,none⟩=some (.int .i64 G):=λp=>p.h.cell_ j8
  clear j7 j8
  by_cases l8:i<sz
  ·have k9:(i:Int)<(sz:Int):=by omega
   obtain⟨a,ha⟩:=nM (G+i);have e1:(G:Int)+(i:Int)=(a:Int):=by omega
   have e2:IntKind.i64.wrap (a:Int)=(a:Int):=IntWalk.i64_in _ (by omega);have HA:Hid (a=l.first+l.used+k):=Ld (by have:=HI.out;have:=d'.out;omega);obtain⟨q,hq⟩:=nM ((wipeN p l k).1);have HQ:=Ld hq;rw[<-hq]at J;have k6:Hid (q.size=p.size):=Ld (by rw[hq];exact fA p l k);obtain⟨s,hs⟩:=nM (q.rget (a:Int));have j2:Hid (s=sct (wipeN p l k).1 l k):=Ld (by rw[hs,<-hq,sct,HA.out]);have HS:Hid (aS s):=Ld (by rw[hs];exact J.out.dk.ok.rget _);have j1:Hid (q.rget (a:Int)=s):=Ld hs.symm;have k7:Hid (q.within (a:Int)=true):=Ld (by unfold DP.within;have:=k6.out;have:=k5.out;exact decide_eq_true (by omega));have j0:Hid (q.rcode (a:Int)=0):=Ld (by unfold DP.rcode;rw[k7.out,if_pos rfl]);have b3:(ag s).size=64:=by rw[aq,HS.out.1]
   have T:=Ld b3;have l4:=Ld ha;clear b3 hq hs ha
   go_wp2_with fail;apply lr (α:=Nat) (λb f=>aa wr f/\ac f b 68 (ag s))
   case h1=>
    intro K' j9;refine bu (aa wr) (.take 0 (.take 1 (.take 2 (.take 3 (.take 4 (.take 5 (.take 6 (.take 7 (.take 8 (.take 9 (.two 10 (.take 11 (.take 12 (.take 13 (.act 14 (.act 15 (.take 16 .done)))))) 14 (.act 10 (.take 11 (.take 12 (.take 13 (.act 15 (.take 16 .done))))))))))))))))) (by kernel_rfl) (by kernel_rfl) (aa.dr (aa.refl wr)) (λc6=>?_)
    iterate 10 (refine ay (o:=.mk ..) rfl (λK c=>?_);go_simp;refine c _ ?_;clear c K)
    refine⟨?_,?_⟩
    ·refine dJ (o:=.mk ..) rfl (λK c=>?_) (.inl rfl);go_simp;refine(kF (J.out.dk.new (aa.dr (aa.refl wr))) (a:Int)).mono ?_;rintro e w1 ⟨rfl,N⟩;rw[j1.out,j0.out,cg];have E:Hid (aa wr w1):=Ld (aa.tr (aa.dr (aa.refl wr)) N);clear N;go_simp;refine c.out _ _ E.out ?_;clear c K
     iterate 3 (refine ay (o:=.mk ..) rfl (λK c=>?_);go_simp;refine c _ ?_;clear c K)
     refine dW (o:=.mk ..) rfl rfl rfl bO ?_;intro b8 w2 c1 c' X;have g3:Hid (wr.heap.size<=b8):=Ld (by have:=E.out.size;omega);refine⟨E.out.tr X,?_⟩;clear c1;simp only[Act.put,bC,bD,bF];refine cL (o:=.mk ..) (cs:=ag s) rfl rfl (.tmp 5) (.tmp 32) rfl (by rw[T.out];rfl) rfl rfl c' (by rw[T.out];rfl) (bH _) ?_;intro f M g9;have z:aa wr f:=(E.out.tr X).fr g9 (λk hk=>by have:=g3.out;omega);refine⟨z,?_⟩;simp only[Act.put,bC,bD,bF]
     iterate 1 (refine ay (o:=.mk ..) rfl (λK c=>?_);go_simp;refine c _ ?_;clear c K)
     refine aO ?_;exact j9.out b8 f ⟨z,M⟩
    ·refine ep (o:=.mk ..) rfl rfl rfl bO ?_;intro b8 w2 c1 c' X;have g5:Hid (aa wr w2):=Ld ((aa.dr (aa.refl wr)).tr X);have k0:=Ld c';have g3:Hid (wr.heap.size<=b8):=Ld (by rw[c1];exact Nat.le_refl _);refine⟨g5.out,?_⟩;clear c1 c' X;simp only[Act.put,bC,bD,bF];refine aC (o:=.mk ..) rfl (λK c=>?_) (.inl rfl);go_simp;refine(kF (J.out.dk.new g5.out) (a:Int)).mono ?_;rintro e w1 ⟨rfl,N⟩;rw[j1.out,j0.out,cg];have k':=Ld (N.blk k0.out);have E:Hid (aa wr w1):=Ld (g5.out.tr N);clear N;go_simp;refine c.out _ _ E.out ?_;clear c K
     iterate 3 (refine ay (o:=.mk ..) rfl (λK c=>?_);go_simp;refine c _ ?_;clear c K)
     refine cL (o:=.mk ..) (cs:=ag s) rfl rfl (.tmp 5) (.tmp 32) rfl (by rw[T.out];rfl) rfl rfl k'.out (by rw[T.out];rfl) (bH _) ?_;intro f M g9;have z:aa wr f:=E.out.fr g9 (λk hk=>by have:=g3.out;omega);refine⟨z,?_⟩;simp only[Act.put,bC,bD,bF]
     iterate 1 (refine ay (o:=.mk ..) rfl (λK c=>?_);go_simp;refine c _ ?_;clear c K)
     refine aO ?_;exact j9.out b8 f ⟨z,M⟩
   case h2=>
    rintro b8 f ⟨z,M⟩;have L:=Ld z;have k1:=Ld M;clear z M q0 q1 c2;have k2:=Ld (L.out.cell_ HC.out.2.2.2)
    have j':Hid (∀W,aa f W->Rd (λ_=>True) W 1 (some ⟨b8,0,none⟩) 4 (an (s.take 4))):=Ld (λW hN=>by
     have h:=Rd.ofBlk (p:=λ_=>True) (hN.blk k1.out) 1 64 (by rw[T.out]) trivial;rw[eu]at h
     exact h.take (by omega))
    have q3:∀p:HW (aa f),p.w.cell? ⟨d,3,none⟩=some (.int .u32 gen):=λp=>p.h.cell_ k2.out
    have kg:IntKind.u64.wrap (gen:Int)=(gen:Int):=by have:=f'.out;rw[IntKind.wrap_u64];omega
    obtain⟨v1,i4⟩:=nM (aU (s.take 4))
    have X1:Hid ((Rs.mk (s.take 4) 0).num 4=(v1,⟨[],0⟩)):=Ld (by
     rw[pL (by rw[List.length_take,HS.out.1];decide),List.take_of_length_le (by rw[List.length_take,HS.out.1];decide),List.drop_of_length_le (by rw[List.length_take,HS.out.1];decide),i4])
    have j3:=Ld i4;have i2:(gen:Int)<18446744073709551616:=by have:=f'.out;omega
    have k4:Hid (d<f.heap.size):=Ld (by have:=P.out;have:=J.out.fr.size;have:=L.out.size;omega);clear i4 i2
    by_cases t1:v1=gen
    ·have d1:(v1:Int)=(gen:Int):=by omega
     have T1:=Ld t1;clear t1
     go_wp2_with fail;refine ah (aa f) [(true,0),(true,3),(true,4),(true,5),(true,6),(true,7),(false,1),(false,2),(true,8),(true,9)] (by kernel_rfl) (by kernel_rfl) (aa.dr (aa.refl f)) (λc6=>?_)
     iterate 6 (refine af (o:=.mk ..) rfl (λK c=>?_);go_simp;refine c _ ?_;clear c K)
     refine aj (o:=.mk ..) rfl (λK c=>?_) (.inl rfl);go_simp;refine(jg (some ⟨b8,0,none⟩) 4 64 (s.take 4) f.drew (j'.out _ (aa.dr (aa.refl f))) (λx hx=>HS.out.2 x (List.mem_of_mem_take hx)) (by omega)).mono ?_;rintro e w4 ⟨r,rfl,Z,Y,hr⟩;have S:=Ld Z;have R:Hid (aa f w4):=Ld ((aa.dr (aa.refl f)).tr Y);have g6:Hid (f.heap.size<=r):=Ld hr;clear Z Y hr;go_simp;refine c.out _ _ (λ_=>R.out) ?_;clear c K;refine aj (o:=.mk ..) rfl (λK c=>?_) (.inl rfl);go_simp;refine(dw S.out 4 (by omega)).mono ?_;rintro e I ⟨rfl,-,V⟩;rw[X1.out];dsimp only;have F:Hid (aa f I):=Ld (R.out.fr V (λk hk=>by have:=g6.out;omega));clear V;go_simp;refine c.out _ _ (λ_=>F.out) ?_;clear c K
     iterate 2 (refine af (o:=.mk ..) rfl (λK c=>?_);go_simp;refine c _ ?_;clear c K)
     refine au ?_;have O:Hid (dg w base gd bs bf v q I v'):=Ld (J.out.new (L.out.tr F.out));clear q3 S kg d1;have HG:Hid (aU ((sct (wipeN p l k).1 l k).take 4)=l.gen):=Ld (by rw[<-j2.out,<-j3.out,T1.out,d'.out.2.2.2]);have b':=Ld (lq HE.out HG.out);have b9:Hid (I.cell? ⟨d,0,none⟩=some (.pointer (some ⟨gd,0,none⟩))/\I.cell? ⟨d,1,none⟩=some (.int .i64 G)):=Ld ⟨F.out.cell_ (L.out.cell_ HC.out.1),F.out.cell_ (L.out.cell_ HC.out.2.1)⟩;have q0:∀p:HW (mX d (.pointer (some ⟨gd,0,none⟩)) (.int .i64 G)),p.w.cell? ⟨d,0,none⟩=some (.pointer (some ⟨gd,0,none⟩)):=λp=>p.h.1
     have q1:∀p:HW (mX d (.pointer (some ⟨gd,0,none⟩)) (.int .i64 G)),p.w.cell? ⟨d,1,none⟩=some (.int .i64 G):=λp=>p.h.2
     have U:=Ld (lw (O.out.dk.new (aa.dr (aa.refl I))) (a:Int) bh);obtain⟨wc,i5⟩:=nM (q.wcode (a:Int));rw[<-i5]at U;have j4:=Ld i5;obtain⟨q2,i3⟩:=nM (q.doWrite (a:Int) az);rw[<-i3]at U;have i9:=Ld i3;obtain⟨z0,i6⟩:=nM (ag az);rw[<-i6]at U;have j6:Hid ((#[.int .u8 0,.int .u8 0,.int .u8 0,.int .u8 0,.int .u8 0,.int .u8 0,.int .u8 0,.int .u8 0,.int .u8 0,.int .u8 0,.int .u8 0,.int .u8 0,.int .u8 0,.int .u8 0,.int .u8 0,.int .u8 0,.int .u8 0,.int .u8 0,.int .u8 0,.int .u8 0,.int .u8 0,.int .u8 0,.int .u8 0,.int .u8 0,.int .u8 0,.int .u8 0,.int .u8 0,.int .u8 0,.int .u8 0,.int .u8 0,.int .u8 0,.int .u8 0,.int .u8 0,.int .u8 0,.int .u8 0,.int .u8 0,.int .u8 0,.int .u8 0,.int .u8 0,.int .u8 0,.int .u8 0,.int .u8 0,.int .u8 0,.int .u8 0,.int .u8 0,.int .u8 0,.int .u8 0,.int .u8 0,.int .u8 0,.int .u8 0,.int .u8 0,.int .u8 0,.int .u8 0,.int .u8 0,.int .u8 0,.int .u8 0,.int .u8 0,.int .u8 0,.int .u8 0,.int .u8 0,.int .u8 0,.int .u8 0,.int .u8 0,.int .u8 0]:Array Value)=z0):=Ld (by rw[i6];rfl);clear i5 i3 i6
     by_cases b0:wc=0
     ·have hz:=b0;subst b0;clear hz
      go_wp2_with fail;refine ah (mX d (.pointer (some ⟨gd,0,none⟩)) (.int .i64 G)) [(true,0),(true,1),(true,2),(true,3),(true,4),(true,5),(true,6),(true,7),(true,8),(true,9),(true,10),(false,11),(true,12)] (by kernel_rfl) (by kernel_rfl) ⟨(aa.dr (aa.refl I)).cell_ b9.out.1,(aa.dr (aa.refl I)).cell_ b9.out.2⟩ (λc6=>?_)
      iterate 11 (refine af (o:=.mk ..) rfl (λK c=>?_);go_simp;refine c _ ?_;clear c K)
      refine aj (o:=.mk ..) rfl (λK c=>?_) (.inl rfl);go_simp;rw[j6.out];refine U.out.mono ?_;rintro e w6 ⟨rfl,v2,u,y,B⟩;have D:Hid (dg w base gd bs bf v q2 w6 v2):=Ld ((O.out.new (aa.dr (aa.refl I))).tr ⟨u,y,B⟩)
      have c9:Hid (mX d (.pointer (some ⟨gd,0,none⟩)) (.int .i64 G) w6):=Ld (by
       have:=g4.out w6 (D.out.fr.block d P.out b7.out)
       exact⟨this.1,this.2.1⟩)
      clear u y B;rw[cg];go_simp;refine c.out _ _ (λ_=>c9.out) ?_;clear c K
      iterate 1 (refine af (o:=.mk ..) rfl (λK c=>?_);go_simp;refine c _ ?_;clear c K)
      refine au ?_;clear q0 q1;have g:Hid (wipeN p l (k+1)=(q2,true,0)):=Ld (by rw[b'.out,<-HQ.out,<-HA.out,<-j4.out,<-i9.out,if_pos rfl]);have HJ:Hid (i+1=t+(k+1)):=Ld (by have:=HI.out;omega)
      go_wp2_with fail;go_roundw
      case rel=>exact⟨k+1,i+1,true,v2,HJ,by omega,by go_num,rfl,Ld (by rw[g.out]),Ld (by rw[g.out]),Ld (by rw[g.out];exact D.out)⟩
      case measure=>simp[intOf];omega
     ·have j5:Hid (dP wc=.iface 38 (.int .i64 wc)):=Ld (bK b0);have c8:=Ld b0;clear b0
      go_wp2_with fail;refine ah (mX d (.pointer (some ⟨gd,0,none⟩)) (.int .i64 G)) [(true,0),(true,1),(true,2),(true,3),(true,4),(true,5),(true,6),(true,7),(true,8),(true,9),(true,10),(false,11),(true,12)] (by kernel_rfl) (by kernel_rfl) ⟨(aa.dr (aa.refl I)).cell_ b9.out.1,(aa.dr (aa.refl I)).cell_ b9.out.2⟩ (λc6=>?_)
      iterate 11 (refine af (o:=.mk ..) rfl (λK c=>?_);go_simp;refine c _ ?_;clear c K)
      refine aj (o:=.mk ..) rfl (λK c=>?_) (.inl rfl);go_simp;rw[j6.out];refine U.out.mono ?_;rintro e w6 ⟨rfl,v2,u,y,B⟩;have D:Hid (dg w base gd bs bf v q2 w6 v2):=Ld ((O.out.new (aa.dr (aa.refl I))).tr ⟨u,y,B⟩)
      have c9:Hid (mX d (.pointer (some ⟨gd,0,none⟩)) (.int .i64 G) w6):=Ld (by
       have:=g4.out w6 (D.out.fr.block d P.out b7.out)
       exact⟨this.1,this.2.1⟩)
      clear u y B;rw[j5.out];go_simp;refine c.out _ _ (λ_=>c9.out) ?_;clear c K
      iterate 1 (refine af (o:=.mk ..) rfl (λK c=>?_);go_simp;refine c _ ?_;clear c K)
      refine au ?_;clear q0 q1
      have g:Hid (WL=(q2,wc)):=Ld (by
       obtain⟨j,hj⟩:∃j,sz-t=k+1+j:=⟨sz-t-(k+1),by have:=HI.out;omega⟩
       have e1:wipeN p l (k+1)=(q2,(wipeN p l k).2.1,wc):=by rw[b'.out,<-HQ.out,<-HA.out,<-j4.out,<-i9.out,if_neg c8.out]
       have e2:wipeN p l (sz-t)=(q2,(wipeN p l k).2.1,wc):=by
        rw[hj,nJ (by rw[e1];exact c8.out),e1]
       rw[g8.out,e2,if_pos c8.out])
      go_wp2_with fail;go_ret;rw[g.out];exact⟨(congrArg Ending.returned j5.out).symm,v2,D.out⟩
    ·have d1:¬((v1:Int)=(gen:Int)):=by omega
     have T1:=Ld t1;clear t1
     go_wp2_with fail;refine ah (aa f) [(true,0),(true,3),(true,4),(true,5),(true,6),(true,7),(false,1),(false,2),(true,8),(true,9)] (by kernel_rfl) (by kernel_rfl) (aa.dr (aa.refl f)) (λc6=>?_)
     iterate 6 (refine af (o:=.mk ..) rfl (λK c=>?_);go_simp;refine c _ ?_;clear c K)
     refine aj (o:=.mk ..) rfl (λK c=>?_) (.inl rfl);go_simp;refine(jg (some ⟨b8,0,none⟩) 4 64 (s.take 4) f.drew (j'.out _ (aa.dr (aa.refl f))) (λx hx=>HS.out.2 x (List.mem_of_mem_take hx)) (by omega)).mono ?_;rintro e w4 ⟨r,rfl,Z,Y,hr⟩;have S:=Ld Z;have R:Hid (aa f w4):=Ld ((aa.dr (aa.refl f)).tr Y);have g6:Hid (f.heap.size<=r):=Ld hr;clear Z Y hr;go_simp;refine c.out _ _ (λ_=>R.out) ?_;clear c K;refine aj (o:=.mk ..) rfl (λK c=>?_) (.inl rfl);go_simp;refine(dw S.out 4 (by omega)).mono ?_;rintro e I ⟨rfl,-,V⟩;rw[X1.out];dsimp only;have F:Hid (aa f I):=Ld (R.out.fr V (λk hk=>by have:=g6.out;omega));clear V;go_simp;refine c.out _ _ (λ_=>F.out) ?_;clear c K
     iterate 2 (refine af (o:=.mk ..) rfl (λK c=>?_);go_simp;refine c _ ?_;clear c K)
     refine au ?_;have O:Hid (dg w base gd bs bf v q I v'):=Ld (J.out.new (L.out.tr F.out));clear q3 S kg;have HG:Hid (¬aU ((sct (wipeN p l k).1 l k).take 4)=l.gen):=Ld (by rw[<-j2.out,<-j3.out,<-d'.out.2.2.2];exact T1.out);have g7:=Ld (jQ HE.out HG.out);have HJ:Hid (i+1=t+(k+1)):=Ld (by have:=HI.out;omega)
     go_wp2_with fail;go_roundw
     case rel=>exact⟨k+1,i+1,b,v',HJ,by omega,by go_num,rfl,Ld (by rw[g7.out];exact HB.out),Ld (by rw[g7.out];exact HE.out),Ld (by rw[g7.out,<-HQ.out];exact O.out)⟩
     case measure=>simp[intOf];omega
  ·have l':¬(i:Int)<(sz:Int):=by omega
   have k8:k=sz-t:=by have:=HI.out;omega
   subst k8;clear q0 q1;obtain⟨q,hq⟩:=nM ((wipeN p l (sz-t)).1);rw[<-hq]at J;have HQ:=Ld hq;have c0:=HC.out.1;clear hq
   cases b with
   |false=>
    have g:Hid (WL=(q,0)):=Ld (by rw[g8.out,if_neg (by rw[HE.out];simp),if_neg (by rw[<-HB.out];simp),<-HQ.out])
    go_wp2_with fail;go_ret;rw[g.out];exact⟨(congrArg Ending.returned cg).symm,v',J.out⟩
   |true=>
    have g:Hid (WL=(q.doSync,q.scode)):=Ld (by rw[g8.out,if_neg (by rw[HE.out];simp),if_pos HB.out.symm,<-HQ.out])
    go_wp2_with fail;refine(kP J.out.dk).mono ?_;rintro e w6 ⟨rfl,v2,u,y,B⟩;have D:Hid (dg w base gd bs bf v q.doSync w6 v2):=Ld (J.out.tr ⟨u,y,B⟩);clear u y B;obtain⟨ev,i1⟩:=nM (dP q.scode);have k3:=Ld i1;rw[<-i1];clear i1
    go_wp2_with fail;go_ret;rw[g.out];exact⟨congrArg Ending.returned k3.out,v2,D.out⟩
def bZ(first size gen:Nat):LG:=⟨first,size,gen,0,List.replicate 16 0,false⟩
theorem fv{first size gen n:Nat}(h:first+size<=n)(b:gen<4294967296):(bZ first size gen).Ok n:=⟨h,b,Nat.zero_le _,rfl,λx c=>by have:=List.eq_of_mem_replicate c;omega⟩
theorem xV{w:World}{gd base bs q:Nat}{v:Value}{p:DP}(g:Dk w base gd bs q v p)(a b c:Nat)(F:1<=b)(d:a+b<=p.size)(r:c<4294967296)(i:c≠0):
    Calls prog 95 #[.pointer (some ⟨gd,0,none⟩),.int .i64 a,.int .i64 b,.int .u32 c] w λe w'=>e=.returned (.tuple #[.pointer (some ⟨w.heap.size,0,none⟩),.nilIface])/\Lg w' w.heap.size gd (bZ a b c) p.size/\aa w w':=by
 have s:=Ld g;have o:=g.ok.s2;obtain⟨n,j⟩:=nM (p.size);have t:Hid (∀W,Dk W base gd bs q v p->Calls prog 90 #[.pointer (some ⟨gd,0,none⟩)] W λe w'=>e=.returned (.int .i64 n)/\W=w'):=Ld λW h=>by rw[j];exact wH h
 have f:Hid ((bZ a b c).Ok p.size):=Ld (fv d r);rw[<-j]at d o;obtain⟨m,hm⟩:=nM (n-a);have D:(n:Int)-(a:Int)=(m:Int):=by omega
 have E:(b:Int)<=(m:Int):=by omega
 have z:(a:Int)<(n:Int):=by omega
 have y:1<=(b:Int):=by omega
 have u:0<=(a:Int):=by omega
 have C:((c:Int)==0)=false:=by simp;omega
 have B:¬(c:Int)=0:=by omega
 clear j g d hm r i
 go_enter func95,ntmps95
 go_wp2_with (go_at_call 90;refine(t.out _ s.out).mono ?_;rintro e w' ⟨rfl,rfl⟩)
 go_ret2;refine⟨rfl,⟨?_,f.out⟩,aa.al (aa.refl w) _⟩;exact ac.new _ _ _
theorem Gq:aY prog 98 33 1 24:=aY.mk' (z:=.slice none 0 0) underlying98 (by kernel_rfl) rfl (by decide)
structure eB(B:Nat)(w:World)(v:Value)(L:List (List Int)):Prop where
 row:∃vs:List Value,w.ownsRow B 33 1 v L.length vs/\∀(i:Nat) l,L[i]?=some l->∃A c,vs[i]?=some (.slice A l.length c)/\l.length<=c/\c<=maxLen/\ba l/\Rd (RB B w) w 1 A l.length (an l)
theorem Rd.frT{S:Nat->Prop}{B:Nat}{w w':World}{A:Option Addr}{n:Nat}{xs:List Value}(h:Rd (RB B w) w 1 A n xs)(hF:Fr S w w')(hS:∀k,S k->B<=k->¬aK 5 w k):Rd (RB B w') w' 1 A n xs:=
 (h.fr hF (λk b c=>hS k c b.1 b.2)).imp (λk b=>⟨b.1,b.2.fr hF (λc=>hS k c b.1 b.2)⟩)
theorem eB.fr{S:Nat->Prop}{B:Nat}{w w':World}{v:Value}{L:List (List Int)}(h:eB B w v L)(hF:Fr S w w')(hS:∀k,S k->B<=k->¬aK 5 w k/\¬aK 33 w k):eB B w' v L:=by
 obtain⟨r,d,o⟩:=h.row;refine⟨r,bg d hF (λk b q=>(hS k q (am d k b).1).2 (cY d b)),λi l hl=>?_⟩;obtain⟨A,c,h1,h2,f,g,j⟩:=o i l hl;exact⟨A,c,h1,h2,f,g,j.frT hF (λk b m=>(hS k b m).1)⟩
theorem eB.new{B:Nat}{w w':World}{v:Value}{L:List (List Int)}(h:eB B w v L)(b:aa w w'):eB B w' v L:=h.fr (S:=ic) (b.toFr _) (λ_ x=>x.elim)
theorem eB.base{B d:Nat}{w:World}{v:Value}{L:List (List Int)}(h:eB B w v L)(f:d<=B):eB d w v L:=by
 obtain⟨r,g,q⟩:=h.row;refine⟨r,im g (λk b=>Nat.le_trans f (am g k b).1),λi l hl=>?_⟩;obtain⟨A,c,h1,h2,j,m,o⟩:=q i l hl;exact⟨A,c,h1,h2,j,m,o.imp (λk b=>⟨Nat.le_trans f b.1,b.2⟩)⟩
theorem eB.nil(B:Nat)(w:World):eB B w (.slice none 0 0) []:=⟨[],⟨rfl,.inl ⟨rfl,rfl⟩⟩,λi l hl=>by simp at hl⟩
theorem eB.push{B:Nat}{w w':World}{A g A2:Option Addr}{m c j c2:Nat}{L:List (List Int)}{l:List Int}{d:List Value}(b:w.ownsRow B 33 1 (.slice A m c) m d/\∀(i:Nat) l,L[i]?=some l->∃A c,d[i]?=some (.slice A l.length c)/\l.length<=c/\c<=maxLen/\ba l/\Rd (RB B w) w 1 A l.length (an l))(hm:m=L.length)
    (E:w'.ownsRow B 33 1 (.slice g (m+1) j) (m+1) (d++[.slice A2 l.length c2])) (hF:Fr (λk=>(Value.slice A m c).ownBlock=some k) w w') (q:l.length<=c2/\c2<=maxLen) (C:ba l) (z:Rd (RB B w) w 1 A2 l.length (an l)):eB B w' (.slice g (m+1) j) (L++[l]):=by
 have o:∀k,(Value.slice A m c).ownBlock=some k->B<=k->¬aK 5 w k:=λk D _=>aK.not_own b.1 (by decide) D
 refine⟨d++[.slice A2 l.length c2],by rw[List.length_append,List.length_singleton,<-hm];exact E,λi r hl=>?_⟩;have F:d.length=m:=by have:=b.1.1;omega
 rcases Nat.lt_or_ge i L.length with hi|hi
 ·rw[List.getElem?_append_left hi]at hl;obtain⟨s,t,h1,h2,u,v,y⟩:=b.2 i r hl;exact⟨s,t,by rw[List.getElem?_append_left (by omega)];exact h1,h2,u,v,y.frT hF o⟩
 ·rw[List.getElem?_append_right hi]at hl
  have f:i-L.length=0:=by
   have:=(List.getElem?_eq_some_iff.1 hl).1;simp at this;omega
  rw[f]at hl;obtain rfl:l=r:=by simpa using hl
  exact⟨A2,c2,by rw[List.getElem?_append_right (by omega),show i-d.length=0 by omega];rfl,q.1,q.2,C,z.frT hF o⟩
theorem pK{p:DP}{l:LG}{b:List Int}(h:nextL p l=some b):l.Next p/\b=l.body p:=by
 unfold nextL at h;split at h
 ·next c=>injection h with h;exact⟨c,h.symm⟩
 ·cases h
theorem sg{p:DP}(d:p.Ok){l:LG}{b:List Int}(h:nextL p l=some b):l.used+1<=(l.step b).used:=by
 obtain⟨c,rfl⟩:=pK h;have:=c.pos;show l.used+1<=l.used+aA (l.body p).length;rw[LG.body_len d c.pos];omega
def gT(w:World)(gd base bs d:Nat)(v:Value)(l:LG)(r:DP×Int)(n:Nat)(e:Ending)(w':World):Prop:=
 if r.2=0 then ∃b c,e=.returned (.tuple #[.pointer (some ⟨b,0,none⟩),.nilIface])/\w.heap.size<=b/\Lg w' b gd l n/\dg w base gd bs d v r.1 w' c
 else ∃c,e=.returned (.tuple #[.pointer none,dP r.2])/\dg w base gd bs d v r.1 w' c
theorem lZ(p:DP)(l:LG):(aB p l).1.size=p.size:=by
 unfold aB;dsimp only;split
 ·exact fA _ _ _
 ·split
  ·exact(DP.doSync_size _).trans (fA _ _ _)
  ·exact fA _ _ _
theorem pz{w:World}{gd base bs D:Nat}{v:Value}{p:DP}(F:Dk w base gd bs D v p)(a b c:Nat)(I:1<=b)(s:a+b<=p.size)(J:c<4294967296)(t:c≠0):
    Calls prog 58 #[.pointer (some ⟨gd,0,none⟩),.int .i64 a,.int .i64 b,.int .u32 c] w (gT w gd base bs D v (bZ a b c) (aB p (bZ a b c)) p.size):=by
 have N:=Ld (xV F a b c I s J t);have z:=Ld F;obtain⟨r,G⟩:=nM (aB p (bZ a b c));rw[<-G];have O:=Ld G;clear F I s J t G
 go_enter func58,ntmps58
 go_wp2_with fail;refine N.out.mono ?_;rintro e R ⟨rfl,i,q⟩;obtain⟨E,u⟩:=nM (w.heap.size);rw[<-u]at i⊢;have C:Hid (w.heap.size<=E):=Ld (by omega);have f:=Ld i;have g:=Ld q;clear u i q
 go_wp2_with fail;refine(vJ f.out (z.out.new g.out)).mono ?_;rintro e M ⟨L,H,d⟩;rw[<-O.out]at L d;subst L;have m:Hid (dg w base gd bs D v r.1 M H):=Ld ((dg.same z.out g.out).tr d);have o:Hid (Lg M E gd (bZ a b c) p.size):=Ld (f.out.fr d.fr (fc (z.out.new g.out) f.out));clear d
 by_cases h0:r.2=0
 ·have y:=Ld h0;rw[h0,cg];clear h0
  go_wp2_with fail;go_ret2;unfold gT;rw[if_pos y.out];exact⟨E,H,rfl,C.out,o.out,m.out⟩
 ·have y:=Ld h0;obtain⟨P,j⟩:=nM (r.2);have B:=Ld j;rw[bK h0,<-j];clear h0 j
  go_wp2_with fail;go_ret2;unfold gT;rw[if_neg y.out,bK y.out,<-B.out];exact⟨H,rfl,m.out⟩
theorem rZ{p:DP}(d:p.Ok){l:LG}{k:Nat}(h:(runs p l k).2.length=k/\k<=(runs p l k).1.used){b:List Int}(c:nextL p (runs p l k).1=some b):(runs p l (k+1)).2.length=k+1/\k+1<=(runs p l (k+1)).1.used:=by
 rw[fG c];have:=sg d c;exact⟨by simp[h.1],by dsimp only;omega⟩
theorem tL{p:DP}{l:LG}{k:Nat}(c:k<=l.size+1)(h:nextL p (runs p l k).1=none):runL p l=runs p l k:=by
 obtain⟨j,b⟩:∃j,l.size+1=k+j:=⟨l.size+1-k,by omega⟩
 unfold runL;rw[b,js h j]
structure Hh(w:World)(gl gd:Nat)(p:DP)(l:LG)(k:Nat)(out b:Value)(ok:Bool)(wr:World):Prop where
 new:aa w wr
 recs:eB w.heap.size wr out (runs p l k).2
 len:(runs p l k).2.length=k/\k<=(runs p l k).1.used
 yes:ok=true->∃bd A c,nextL p (runs p l k).1=some bd/\b=.slice A bd.length c/\bd.length<=c/\c<=maxLen/\ba bd/\Rd (RB w.heap.size wr) wr 1 A bd.length (an bd)/\Lg wr gl gd (runs p l (k+1)).1 p.size
 no:ok=false->nextL p (runs p l k).1=none/\Lg wr gl gd (runs p l k).1 p.size
theorem BM{w wr w':World}{f gd:Nat}{p:DP}{l:LG}{k:Nat}{out:Value}{e:Ending}(y:w.heap.size<=f)(m:aa w wr)(b:Lg wr f gd (runs p l k).1 p.size)(s:eB w.heap.size wr out (runs p l k).2)(hl:(runs p l k).2.length=k/\k<=(runs p l k).1.used)
    (h:ui (runs p l k).1 (nextL p (runs p l k).1) wr f gd p.size e w'):∃A n c ok,e=.returned (.tuple #[.slice A n c,.bool ok])/\Hh w f gd p l k out (.slice A n c) ok w':=by
 cases hn:nextL p (runs p l k).1 with
 |none=>
  rw[hn]at h;obtain⟨o,d⟩:=h;exact⟨none,0,0,false,o,m.tr d,s.new d,hl,λh=>by(cases h),λ_=>⟨hn,b.new d⟩⟩
 |some q=>
  rw[hn]at h;obtain⟨A,c,o,h1,h2,t,u,v,r⟩:=h;refine⟨A,q.length,c,true,o,m.fr r (λj g=>by(have i:j=f:=g;omega)),s.fr r (λj g _=>?_),hl,λ_=>⟨q,A,c,hn,rfl,h1,h2,t,u.imp (λj g=>⟨Nat.le_trans m.size g.1,g.2⟩),by rw[fG hn];exact v⟩,λh=>by(cases h)⟩;have i:j=f:=g;rw[i];exact⟨aK.not_blk b.blk (by decide),aK.not_blk b.blk (by decide)⟩
def mh(w:World)(gd base bs f:Nat)(v:Value)(r:LG×List (List Int))(x:DP×Int)(n:Nat)(e:Ending)(w':World):Prop:=
 if x.2=0 then ∃b A c d,e=.returned (.tuple #[.pointer (some ⟨b,0,none⟩),.slice A r.2.length c,.nilIface])/\w.heap.size<=b/\Lg w' b gd r.1 n/\eB w.heap.size w' (.slice A r.2.length c) r.2/\dg w base gd bs f v x.1 w' d
 else ∃d,e=.returned (.tuple #[.pointer none,.slice none 0 0,dP x.2])/\dg w base gd bs f v x.1 w' d
theorem zJ{w:World}{gd base bs bf:Nat}{v:Value}{p:DP}(Z:Dk w base gd bs bf v p)(hL:dC 4 2 w)(a b c:Nat)(hb:1<=b)(N:a+b<=p.size)(hc:c<4294967296)(b8:c≠0):
    Calls prog 47 #[.pointer (some ⟨gd,0,none⟩),.int .i64 a,.int .i64 b,.int .u32 c] w (mh w gd base bs bf v (runL p (bZ a b c)) (aB p (runL p (bZ a b c)).1) p.size):=by
 have HA:=Ld (xV Z a b c hb N hc b8);have D:=Ld Z;have HL:=Ld hL;have f:Hid (p.Ok/\(bZ a b c).Ok p.size):=Ld ⟨Z.ok,fv N hc⟩;have c':b<=16384:=by have:=Z.ok.s2;omega
 obtain⟨l,hl⟩:=nM (bZ a b c);have c5:Hid (l.size=b):=Ld (by rw[hl];rfl);rw[<-hl]at HA f⊢;obtain⟨r,hr⟩:=nM (runL p l);obtain⟨x,hx⟩:=nM (aB p r.1);rw[<-hr,<-hx];have HR:=Ld hr;have HX:=Ld hx;clear Z hb N hc b8 hr hx hl hL
 go_enter func47,ntmps47
 go_wp2_with fail;refine HA.out.mono ?_;rintro e w1 ⟨rfl,M,b1⟩;obtain⟨L,b9⟩:=nM (w.heap.size);rw[<-b9]at M⊢;have F:Hid (w.heap.size<=L):=Ld (by omega);have U:=Ld M;have H:=Ld b1;clear b9 M b1
 go_wp2_with fail;refine(uI (l:=(runs p l 0).1) U.out (D.out.new H.out) (HL.out.new H.out)).mono ?_;intro e w2 h2;obtain⟨A2,n2,c2,g8,rfl,hI⟩:=BM (out:=.slice none 0 0) (k:=0) (l:=l) F.out H.out U.out (eB.nil _ _) ⟨rfl,Nat.zero_le _⟩ h2;have g:=Ld hI;clear hI h2
 go_wp2_with fail;go_loopw [13,14,15] (λout b ok wr=>∃(k:Nat) (A:Option Addr) (d:Nat) (B:Option Addr) (n e:Nat) (o:Bool),k<=16384/\out=.slice A k d/\b=.slice B n e/\ok=.bool o/\Hid (Hh w L gd p l k (.slice A k d) (.slice B n e) o wr)) (λout _ _ _=>16400-(match out with| .slice _ n _=>n|_=>0))
 case atStart=>exact⟨0,none,0,A2,n2,c2,g8,Nat.zero_le _,rfl,rfl,rfl,g⟩
 case round=>
  clear g;obtain⟨k,A,d,B,n,e,o,hk,rfl,rfl,rfl,g⟩:=hrel
  cases o with
  |true=>
   obtain⟨bd,B',e',hn,g7,h1,h2,h3,h4,h5⟩:=g.out.yes rfl;injection g7 with f' b7 g6;subst f' g6;obtain⟨vs,u,C⟩:=g.out.recs.row;have m:(runs p l k).2.length=k:=g.out.len.1;rw[m]at u;have s:=Ld (And.intro u C);have G:=Ld m;have c8:=Ld hn;have y:=Ld (rZ f.out.1 g.out.len hn)
   have P:k+1<=16384:=by
    have h6:=(cu f.out.1 f.out.2 (k+1)).1.used;have h7:=(cu f.out.1 f.out.2 (k+1)).2.1;have:=y.out.2;have:=c5.out;omega
   have c0:=Ld (And.intro h1 h2);have H3:=Ld h3;have H4:=Ld h4;have H5:=Ld h5;have c7:=Ld b7;clear u C m hn h1 h2 h3 h4 h5 b7
   go_wp2_with (refine cE 42 rfl ?_;refine av Gq _ rfl (.tmp 39) (.tmp 41) rfl w.heap.size (.slice A k d) k vs rfl (aa.own (aa.al (aa.refl wr) _) s.out.1) (some ⟨wr.heap.size,0,none⟩) 1 1 [.slice B n e] rfl (Rd.ofBlk (p:=λ_=>True) (ac.new wr 33 #[.slice B n e]) 1 1 rfl trivial) (by simp[Value.oneCell']) (by unfold maxLen;omega) (by omega) (aa.al g.out.new _).size ?_;intro A5 d5 w5 b3 b' d';have E:=Ld b';have c9:=Ld b3;clear b3 b' d')
   have I:Hid (aa w w5):=Ld ((aa.al g.out.new _).fr E.out (λj hj=>(am s.out.1 j hj).1));have z:Hid (Lg w5 L gd (runs p l (k+1)).1 p.size):=Ld ((H5.out.new (aa.al (aa.refl wr) _)).fr E.out (λhs=>bm s.out.1 H5.out.blk (by decide) hs))
   have Y:Hid (eB w.heap.size w5 (.slice A5 (k+1) d5) (runs p l (k+1)).2):=Ld (by
    rw[fG c8.out];have hN:aa wr (wr.alloc (.cells #[.slice B n e] 33)):=aa.al (aa.refl wr) _
    exact eB.push (w:=wr.alloc (.cells #[.slice B n e] 33)) ⟨aa.own hN s.out.1,λi l hl=>by
     obtain⟨A3,c3,g1,g2,g3,g4,g5⟩:=s.out.2 i l hl
     exact⟨A3,c3,g1,g2,g3,g4,g5.frT (S:=ic) (hN.toFr _) (λ_ x=>x.elim)⟩⟩ G.out.symm (by rw[<-c7.out];exact c9.out) E.out c0.out H3.out (H4.out.frT (S:=ic) (hN.toFr _) (λ_ x=>x.elim)))
   refine(uI (l:=(runs p l (k+1)).1) z.out (D.out.new I.out) (HL.out.new I.out)).mono ?_;intro ee w6 h6;obtain⟨A6,n6,c6,g9,rfl,b0⟩:=BM (out:=.slice A5 (k+1) d5) F.out I.out z.out Y.out y.out h6;have c4:=Ld b0;clear b0 h6
   go_wp2_with fail;go_roundw
   case rel=>exact⟨k+1,A5,d5,A6,n6,c6,g9,P,rfl,rfl,rfl,c4⟩
   case measure=>simp;omega
  |false=>
   have R:=g.out.no rfl;have m:(runs p l k).2.length=k:=g.out.len.1
   have P:k<=l.size:=by
    have h6:=(cu f.out.1 f.out.2 k).1.used;have h7:=(cu f.out.1 f.out.2 k).2.1;have:=g.out.len.2;omega
   have J:Hid (r=runs p l k):=Ld (by rw[HR.out];exact tL (by omega) R.1);have G:Hid (r.2.length=k):=Ld (by rw[J.out];exact m);have q:Hid (Lg wr L gd r.1 p.size):=Ld (by rw[J.out];exact R.2);clear R m P
   go_wp2_with fail;refine(vJ q.out (D.out.new g.out.new)).mono ?_;rintro ee w2 ⟨he,v2,t⟩;rw[<-HX.out]at he t;subst he;have T:Hid (dg w base gd bs bf v x.1 w2 v2):=Ld ((dg.same D.out g.out.new).tr t);have V:Hid (Lg w2 L gd r.1 p.size):=Ld (q.out.fr t.fr (fc (D.out.new g.out.new) q.out))
   have X:Hid (eB w.heap.size w2 (.slice A k d) r.2):=Ld (by
    rw[J.out]
    exact g.out.recs.fr t.fr (λj hj _=>⟨sV (D.out.new g.out.new) (by decide) (by decide) j hj,sV (D.out.new g.out.new) (by decide) (by decide) j hj⟩))
   clear t
   by_cases h0:x.2=0
   ·have H0:=Ld h0;rw[h0,cg];clear h0
    go_wp2_with fail;refine bodyPost_ret (v:=.tuple #[.pointer (some ⟨L,0,none⟩),.slice A k d,.nilIface]) (by simp[results,results47,go_sem]) rfl ?_;unfold mh;rw[if_pos H0.out,G.out];exact⟨L,A,d,v2,rfl,F.out,V.out,X.out,T.out⟩
   ·have H0:=Ld h0;obtain⟨ev,O⟩:=nM (x.2);have c1:=Ld O;rw[bK h0,<-O];clear h0 O
    go_wp2_with fail;refine bodyPost_ret (v:=.tuple #[.pointer none,.slice none 0 0,.iface 38 (.int .i64 ev)]) (by simp[results,results47,go_sem]) rfl ?_;unfold mh;rw[if_neg H0.out,bK H0.out,<-c1.out];exact⟨v2,rfl,T.out⟩
theorem iv{x:List Int}(h:x.length<=64):splice (an az) 0 (an x)=an (fO x):=by
 have e:an az=List.replicate 64 (Value.int .u8 0):=by unfold an az;rw[List.map_replicate]
 have b:an (fO x)=an x++List.replicate (64-x.length) (Value.int .u8 0):=by unfold an fO;rw[List.map_append,List.map_replicate]
 unfold splice;rw[e,b,List.take_zero,List.nil_append,Nat.zero_add,ak,List.drop_replicate]
theorem fg{fn:Func}{p q:Tmp}{ty:TypeId}{P:Program}(h:fn.results= #[.cell p ty,.tmp q])(tmps:Array Value)(w:World)(g:Nat)(cs:Array Value)(d:TypeDesc)
    (f:tmps.getD p undef=.pointer (some ⟨g,0,none⟩)) (c:ac w g ty cs) (hu:P.underlying ty=some d) (hd:d.isRow=true) (hi:(P.info? ty).map (·.size)=some cs.size):
    (results fn tmps).run P w=.ok (.tuple #[.agg cs,tmps.getD q undef]) w:=by
 have b:tmps[p]?.getD undef=.pointer (some ⟨g,0,none⟩):=by simpa using f
 simp[results,h,b,asAddr,run_loadVar_row w g ty ty cs (0,0) _ c hu (by cases d<;>first|rfl|(simp[TypeDesc.isRow]at hd)) hi]
theorem xt{q:Nat->Prop}{w:World}{gl gd n:Nat}{l:LG}(h:Lg w gl gd l n)(place kind:Nat)(hp:place<4294967296)(u:kind<256)(A:Option Addr)(m c:Nat)(b:List Int)(hR:Rd q w 1 A m (an b))(hb:ba b)(hm:m<=55):
    Calls prog 160 #[.pointer (some ⟨gl,0,none⟩),.int .i64 place,.int .i64 kind,.slice A m c] w λe w'=>e=.returned (.tuple #[.agg (ag (fO (bj 4 l.gen++bj 4 place++bj 1 kind++b))),.nilIface])/\aa w w':=by
 have g9:=Ld h;have HR:=Ld hR;have HB:=Ld hb;have HX:Hid (b.length=m):=Ld (by have:=hR.1;rw[ak]at this;omega);have c3:=h.c3;have z:=h.ok.gen;obtain⟨gen,c'⟩:=nM (l.gen);rw[<-c']at c3 z⊢;have f:Hid (gen<256^4/\place<256^4/\kind<256^1):=Ld ⟨by omega,by omega,by omega⟩;have k2:IntKind.u64.wrap (place:Int)=(place:Int):=by rw[IntKind.wrap_u64];omega
 have k3:IntKind.u64.wrap (kind:Int)=(kind:Int):=by rw[IntKind.wrap_u64];omega
 have k1:IntKind.u64.wrap (gen:Int)=(gen:Int):=by rw[IntKind.wrap_u64];omega
 obtain⟨rs,y⟩:=nM (bj 4 gen++bj 4 place++bj 1 kind++b);have f':=Ld y;have c0:rs.length=m+9:=by rw[y];simp only[List.length_append,aw,HX.out];omega
 have r:=Ld c0;rw[<-y];clear h hR hb c' hp u y c0 z
 go_enter func160,ntmps160
 go_upto_region 3 with fail;have hz:(#[.int .u8 0,.int .u8 0,.int .u8 0,.int .u8 0,.int .u8 0,.int .u8 0,.int .u8 0,.int .u8 0,.int .u8 0,.int .u8 0,.int .u8 0,.int .u8 0,.int .u8 0,.int .u8 0,.int .u8 0,.int .u8 0,.int .u8 0,.int .u8 0,.int .u8 0,.int .u8 0,.int .u8 0,.int .u8 0,.int .u8 0,.int .u8 0,.int .u8 0,.int .u8 0,.int .u8 0,.int .u8 0,.int .u8 0,.int .u8 0,.int .u8 0,.int .u8 0,.int .u8 0,.int .u8 0,.int .u8 0,.int .u8 0,.int .u8 0,.int .u8 0,.int .u8 0,.int .u8 0,.int .u8 0,.int .u8 0,.int .u8 0,.int .u8 0,.int .u8 0,.int .u8 0,.int .u8 0,.int .u8 0,.int .u8 0,.int .u8 0,.int .u8 0,.int .u8 0,.int .u8 0,.int .u8 0,.int .u8 0,.int .u8 0,.int .u8 0,.int .u8 0,.int .u8 0,.int .u8 0,.int .u8 0,.int .u8 0,.int .u8 0,.int .u8 0]:Array Value)=ag az:=rfl;rw[hz];obtain⟨v,s⟩:=nM (((w.alloc (.cells (ag az) 68)).alloc (.cells (ag az) 68)).alloc (.cells #[.nilIface,.slice none 0 0] 168):World);obtain⟨U,i⟩:=nM (w.heap.size);obtain⟨t,o⟩:=nM (w.heap.size+1);obtain⟨g,hg⟩:=nM (w.heap.size+1+1);have G:Hid (aa w v):=Ld (by rw[s];exact aa.al (aa.al (aa.al (aa.refl _) _) _) _);have c4:Hid (ac v U 68 (ag az)):=Ld (by rw[s,i,<-hz];exact((ac.new _ _ _).alloc _).alloc _);have N:Hid (ac v t 68 (ag az)):=Ld (by rw[s,o,<-hz];exact(ac.new' _ _ _ (by simp)).alloc _);have g4:Hid (gp v g g []):=Ld ⟨⟨none,0,by rw[s,hg];exact ac.new' _ _ _ (by simp),World.ownsRow_nil _ _ _ _⟩,Nat.le_refl _,λx hx=>nomatch hx⟩;have H:Hid (U=w.heap.size/\t=w.heap.size+1/\g=w.heap.size+2):=Ld ⟨i,o,hg⟩;rw[<-s,<-hg,<-o,<-i];clear s i o hg hz;have i0:v.cell? ⟨gl,3,none⟩=some (.int .u32 gen):=G.out.cell_ c3;have n0:((4:Nat):Int)=4:=rfl
 go_wp2_with fail;refine(fU g4.out gen 4 (by omega) f.out.1 (by simp)).mono ?_;rintro e w2 ⟨rfl,b0,V⟩;have g5:=Ld b0;have c5:Hid (FW g g v w2):=Ld V;clear b0 V
 go_wp2_with fail;refine(fU g5.out place 4 (by omega) f.out.2.1 (by simp[aw])).mono ?_;rintro e w3 ⟨rfl,b1,X⟩;have g6:=Ld b1;have c6:Hid (FW g g v w3):=Ld (c5.out.tr X);clear b1 X
 go_wp2_with fail;refine(fU g6.out kind 1 (by omega) f.out.2.2 (by simp[aw])).mono ?_;rintro e w4 ⟨rfl,b3,Y⟩;have g7:=Ld b3;have S:Hid (FW g g v w4):=Ld (c6.out.tr Y);clear b3 Y
 have d':Hid (aa w w4):=Ld (G.out.fr S.out (λk u=>by
  have:=H.out;rcases u with rfl|u
  ·omega
  ·have:=u.1;omega))
 go_wp2_with fail;refine(mV g7.out A m c b (d'.out.rd HR.out) HB.out (by simp[aw];omega)).mono ?_;rintro e w5 ⟨rfl,b7,Z⟩
 have g8:Hid (gp w5 g g rs):=Ld (by
  have e: []++bj 4 gen++bj 4 place++bj 1 kind++b=rs:=by rw[f'.out];rfl
  rw[<-e]
  exact b7)
 have c7:Hid (FW g g v w5):=Ld (S.out.tr Z);clear b7 Z
 go_wp2_with fail;refine(lm g8.out (by rw[r.out];omega)).mono ?_;rintro e w6 ⟨⟨B,d,rfl,hO⟩,I⟩;rw[r.out]at hO⊢;have HO:=Ld hO;have i':Hid (aa w5 w6):=Ld I;have E:Hid (FW g g v w6):=Ld (c7.out.tr (FW.new I))
 have T:Hid (aa w w6):=Ld (G.out.fr E.out (λk u=>by
  have:=H.out;rcases u with rfl|u
  ·omega
  ·have:=u.1;omega))
 clear hO I;have O:Hid (ac w6 U 68 (ag az)):=Ld (E.out.blk c4.out (by decide) (by have:=H.out;omega));have D:Hid (ac w6 t 68 (an az).toArray):=Ld (E.out.blk N.out (by decide) (by have:=H.out;omega));obtain⟨m9,M⟩:=nM (m+9);have b':m9<=64:=by omega
 have F:=Ld M;rw[<-M]at HO⊢;have C:(ag (fO rs)).size=64:=by rw[aq,fD (by rw[r.out];omega)]
 have j:=Ld C;clear M C;have g3:Hid (splice (an az) 0 (an rs)=an (fO rs)):=Ld (iv (by rw[r.out];have:=F.out;omega))
 go_wp2_with (first
  |(refine cE 41 rfl ?_;refine eV (q:=λk=>(Value.slice B m9 d).ownBlock=some k) rfl (.tmp 39) (.tmp 40) 33 33 rfl 5 underlying33 rfl t 0 64 64 B m9 d rfl rfl (an az) 68 D.out (an rs) (by rw[ak,r.out,<-F.out];exact(Nat.min_eq_left b').symm) ⟨m9,an rs,Rd.own HO.out rfl,List.take_length⟩ (by rw[ak,ak,r.out,<-F.out,bh.1];omega) (aR _) ?_;intro w7 J L;rw[g3.out]at J;have c1:Hid (ac w7 t 68 (ag (fO rs))):=Ld J;have c8:=Ld L;have P:Hid (ac w7 U 68 (ag az)):=Ld (O.out.fr L (by have:=H.out;omega));clear J L)
  |(refine cE 42 rfl ?_;refine ae rfl _ rfl underlying68 rfl (by rw[j.out];rfl) rfl c1.out ?_)
  |((with_reducible refine eC ⟨none,.store 68 (.tmp 8) _,_,_,_,_⟩ ?_);refine ao rfl (.tmp 8) (.tmp 42) rfl (by rw[j.out];rfl) rfl rfl P.out (by rw[j.out];rfl) (bH _) ?_;intro w8 i b9;have R:=Ld i;have c9:=Ld b9;clear i b9))
 exact bodyPost_ret (fg rfl _ _ U _ _ rfl R.out underlying68 rfl (by rw[j.out];rfl)) rfl ⟨rfl,(T.out.fr c8.out (λk u=>by have:=H.out;omega)).fr c9.out (λk u=>by have:=H.out;omega)⟩
def od(l:LG)(A:Option Addr)(c:Nat):Array Value:= #[.int .i64 l.first,.int .i64 l.size,.int .i64 l.used,.int .u32 l.gen,.slice A 16 c,.bool l.broken]
structure jZ(w:World)(l:LG)(A:Option Addr):Prop where
 tag:ei 5 w 1 A 16 (an l.tag)
 byt:ba l.tag
 gen:l.gen<4294967296
 num:l.first<=100000/\l.size<=100000/\l.used<=100000
theorem jZ.new{w w':World}{l:LG}{A:Option Addr}(h:jZ w l A)(b:aa w w'):jZ w' l A:=⟨h.tag.new b,h.byt,h.gen,h.num⟩
theorem jZ.fr{w w':World}{S:Nat->Prop}{l:LG}{A:Option Addr}(h:jZ w l A)(hF:Fr S w w')(hS:∀k,S k->¬aK 5 w k):jZ w' l A:=⟨h.tag.fr hF hS,h.byt,h.gen,h.num⟩
theorem nT:aY prog 62 68 64 64:=aY.mk' (z:=.agg (ag az)) underlying62 (by kernel_rfl) rfl (by decide)
def iu(l:LG)(b:List Int)(k:Nat):List Value:=(List.range k).flatMap λi=>an (l.sec b i)
theorem gY(l:LG)(b:List Int)(k:Nat):iu l b (k+1)=iu l b k++an (l.sec b k):=by simp[iu,List.range_succ]
def LG.rawJ(l:LG)(b:List Int)(k j:Nat):List Int:=l.hdr k++((l.frame b).drop (55*k)).take j
theorem LG.rawJ_succ(l:LG)(b:List Int)(k j:Nat)(h:55*k+j<(l.frame b).length):l.rawJ b k (j+1)=l.rawJ b k j++[at_ (l.frame b) (55*k+j)]:=by
 unfold LG.rawJ at_;have hl:j<((l.frame b).drop (55*k)).length:=by rw[List.length_drop];omega
 rw[List.take_succ_eq_append_getElem hl,List.append_assoc,List.getElem_drop,List.getD_eq_getElem?_getD,List.getElem?_eq_getElem h];rfl
theorem LG.rawJ_all(l:LG)(b:List Int)(k j:Nat)(h:j=55\/(j<=55/\(l.frame b).length<=55*k+j)):l.rawJ b k j=l.raw b k:=by
 unfold LG.rawJ LG.raw;rcases h with rfl|⟨h1,h2⟩
 ·rfl
 ·have hl:((l.frame b).drop (55*k)).length<=j:=by rw [List.length_drop];omega
  rw[List.take_of_length_le hl,List.take_of_length_le (by omega)]
structure FX(W1 wr:World)(l:LG)(b:List Int)(k j:Nat)(x out:Value):Prop where
 new:aa W1 wr
 x:wr.ownsRow W1.heap.size 5 1 x (9+j) (an (l.rawJ b k j))
 out:wr.ownsRow W1.heap.size 68 64 out k (iu l b k)
theorem pT{q:Nat->Prop}{w:World}(l:LG)(A:Option Addr)(c:Nat)(B:Option Addr)(n d:Nat)(b:List Int)(hL:cX 3 1 w)(hI:jZ w l A)(hR:Rd q w 1 B n (an b))(hb:ba b)(hn:n<=70000)(K:Nat)(y:K=(n+74)/55):
    Calls prog 130 #[.agg (od l A c),.slice B n d] w λe w'=>(∃C cc,e=.returned (.slice C K cc)/\w'.ownsRow w.heap.size 68 64 (.slice C K cc) K (iu l b K))/\aa w w':=by
 have HL:=Ld hL;have HI:=Ld hI;have HR:=Ld hR;have HB:=Ld hb;have HX:Hid (b.length=n):=Ld (by have:=hR.1;rw[ak]at this;omega);have m6:=hI.gen;have m9:=hI.num;obtain⟨gen,k8⟩:=nM (l.gen);obtain⟨us,n'⟩:=nM (l.used);obtain⟨fs,o3⟩:=nM (l.first);obtain⟨sz,o5⟩:=nM (l.size);obtain⟨bk,o2⟩:=nM (l.broken);have p9:us<=100000:=by omega
 have l3:Hid (gen=l.gen/\us=l.used):=Ld ⟨k8,n'⟩;have HT:Hid (∀W,aa w W->ei 5 W 1 A 16 (an l.tag)):=Ld λW hN=>hI.tag.new hN
 have g7:=Ld (λW (hN:aa w W)=>pY (p:=aK 5 W) A c l.tag l.gen B n d b W (hL.new hN) (hI.tag.new hN) hI.byt (hN.rd hR) hb hI.gen (by omega));have n3:Hid (gen<4294967296):=Ld (by omega);have d':Hid ((l.frame b).length=n+20):=Ld (by rw[LG.frame_len,HX.out]);have q6:Hid (ba (l.frame b)):=Ld (l.frame_byt hb);have n7:=Ld (λW=>fw n 4 W (by omega) (by omega));have o6:=Ld (λW=>fw gen 4 W (by omega) (by omega));have HK:=Ld y;rw[<-k8]at g7;unfold od;rw[<-o3,<-o5,<-n',<-k8,<-o2];clear hL hI hR hb k8 n' o3 o5 o2 m6 m9 y
 go_enter func130,ntmps130
 go_upto_region 1 with fail;obtain⟨w0,l1⟩:=nM (w.alloc (.cells #[.int .i64 fs,.int .i64 sz,.int .i64 us,.int .u32 gen,.slice A 16 c,.bool bk] 75):World);obtain⟨b2,k7⟩:=nM (w.heap.size);have k2:Hid (aa w w0):=Ld (by rw[l1];exact aa.al (aa.refl _) _);have k0:Hid (ac w0 b2 75 #[.int .i64 fs,.int .i64 sz,.int .i64 us,.int .u32 gen,.slice A 16 c,.bool bk]):=Ld (by rw[l1,k7];exact ac.new _ _ _);rw[<-l1,<-k7];have HZ:=Ld k7;clear l1 k7;have kn:IntKind.u64.wrap (n:Int)=(n:Int):=by rw[IntKind.wrap_u64];omega
 have q4:∀p:HW (aa w0),p.w.cell? ⟨b2,4,none⟩=some (.slice A 16 c):=λp=>(p.h.blk k0.out).cell 4
 have q3:∀p:HW (aa w0),p.w.cell? ⟨b2,3,none⟩=some (.int .u32 gen):=λp=>(p.h.blk k0.out).cell 3
 refine ah (aa w0) [(true,0),(true,1),(true,2),(true,4),(true,5),(true,6),(true,7),(true,8),(true,11),(false,3),(false,9),(false,10),(false,12),(true,13)] (by kernel_rfl) (by kernel_rfl) (aa.dr (aa.refl w0)) (λp8=>?_)
 iterate 9 (refine af (o:=.mk ..) rfl (λK y=>?_);go_simp;refine y _ ?_;clear y K)
 refine aj (o:=.mk ..) rfl (λK y=>?_) (.inl rfl);go_simp;refine(n7.out w0.drew).mono ?_;rintro e w1 ⟨rfl,j4,j3⟩;have l7:=Ld j4;have l5:Hid (aa w0 w1):=Ld ((aa.dr (aa.refl w0)).tr j3);obtain⟨b1,m3⟩:=nM (w0.drew.heap.size);rw[<-m3]at l7⊢;have l2:Hid (w0.heap.size<=b1):=Ld (by rw[m3];exact Nat.le_refl _);clear j4 j3 m3;go_simp;refine y.out _ _ (λ_=>l5.out) ?_;clear y K;refine aj (o:=.mk ..) rfl (λK y=>?_) (.inl rfl);go_simp;refine(g7.out w1 (k2.out.tr l5.out)).mono ?_;rintro e w2 ⟨⟨A2,c2,rfl,j5⟩,i'⟩;have o8:=Ld j5;have b9:=Ld (i'.own l7.out);have n6:Hid (aa w0 w2):=Ld (l5.out.tr i');clear j5 i';go_simp;refine y.out _ _ (λ_=>n6.out) ?_;clear y K;refine aj (o:=.mk ..) rfl (λK y=>?_) (.inl rfl);refine ce kB _ rfl (.tmp 14) (.tmp 20) rfl b1 (.slice (some ⟨b1,0,none⟩) 4 4) 4 (an (bj 4 n)) rfl b9.out A2 16 c2 (an (fT l.tag gen b)) rfl (Rd.own o8.out rfl) (aR _) (by unfold maxLen;omega) (by omega) (by have:=(am b9.out b1 rfl).2;omega) ?_;intro A3 c3 w3 j6 j0 _;have k4:=Ld j6;have k3:Hid (aa w0 w3):=Ld (n6.out.fr j0 (λk H=>by have k9:=(am b9.out k H).1;have:=l2.out;omega));clear j6 j0;refine y.out _ _ (λ_=>k3.out) ?_;clear y K;simp only[Act.put,bC,bD,bF];refine aj (o:=.mk ..) rfl (λK y=>?_) (.inl rfl);refine ce kB _ rfl (.tmp 21) (.tmp 22) rfl b1 (.slice A3 (4+16) c3) (4+16) _ rfl k4.out B n d (an b) rfl ((k2.out.tr k3.out).rd HR.out) (aR _) (by unfold maxLen;omega) (by omega) (by have:=k3.out.size;have:=(am l7.out b1 rfl).2;have:=l2.out;have:=(am b9.out b1 rfl).2;have:=k4.out.1;rcases k4.out.2 with h|⟨g,cap,cur,hv,hb,hh,hr⟩<;>first|(have:=h.1;omega)|(have:=lt_of_block hh;omega)) ?_;intro A4 c4 u m2 o0 _
 have l8:Hid (u.ownsRow b1 5 1 (.slice A4 (n+20) c4) (n+20) (an (l.frame b))):=Ld (by
  have e1:4+16+n=n+20:=by omega
  have e2:an (l.frame b)=an (bj 4 n)++an (fT l.tag gen b)++an b:=by rw[LG.frame,HX.out,l3.out.1];simp[an]
  rw[e2];rw[e1]at m2
  exact m2)
 have b0:Hid (aa w0 u):=Ld (k3.out.fr o0 (λk H=>by have k9:=(am k4.out k H).1;have:=l2.out;omega));clear m2 o0;refine y.out _ _ (λ_=>b0.out) ?_;clear y K;rw[show 4+16+n=n+20 by omega];simp only[Act.put,bC,bD,bF];refine af (o:=.mk ..) rfl (λK y=>?_);go_simp;refine y _ ?_;clear y K;refine au ?_;clear q4 q3 g7 n7;obtain⟨fl,m5⟩:=nM (n+20);rw[<-m5]at l8 d'⊢;have b':=Ld m5;have p1:fl<=70020:=by omega
 clear m5;obtain⟨gf,o9,q5,p0,p'⟩:=dv l8.out (by have:=b'.out;omega);injection q5 with q' q0 q1;subst q' q1
 have n1:Hid (∀j v,(an (l.frame b))[j]?=some v->u.cell? ⟨gf,j,none⟩=some v):=Ld λj v hj=>by
  obtain⟨g',o',he,-,-,hc⟩:=(Rd.own l8.out rfl).out (by have:=b'.out;omega) (by omega);injection he with he;injection he with e1 e2;subst e1 e2;have:=hc j v hj
  rwa[Nat.zero_add]at this
 clear q0 p0 p'
 go_wp2_with fail;have n9:Hid (u.ownsRow u.heap.size 68 64 (.slice none 0 0) 0 (iu l b 0)):=Ld (World.ownsRow_nil _ _ _ _);have n8:Hid (aa u u):=Ld (aa.refl _);have q7:K<=1300:=by have:=HK.out;have:=b'.out;omega
 go_loopw [6,7] (λout i wr=>∃(k:Nat) (C:Option Addr) (cc:Nat),k<=K/\i=.int .i64 k/\out=.slice C k cc/\Hid (aa u wr)/\Hid (wr.ownsRow u.heap.size 68 64 (.slice C k cc) k (iu l b k))) (λ_ i _=>K-(intOf i).toNat)
 case atStart=>exact⟨0,none,0,Nat.zero_le _,rfl,rfl,n8,n9⟩
 case round=>
  clear n9 n8 kn;obtain⟨k,C,cc,H,rfl,rfl,HN,HO⟩:=hrel
  by_cases q9:k<K
  ·obtain ⟨G,j9⟩:=nM (55*k);have e1:(55:Int)*(k:Int)=(G:Int):=by omega
   have e2:IntKind.i64.wrap (G:Int)=(G:Int):=IntWalk.i64_in _ (by omega);have p6:G<fl:=by have:=HK.out;have:=b'.out;omega
   have p7:(G:Int)<(fl:Int):=by omega
   obtain⟨jn,o4⟩:=nM (us+k);have e3:(us:Int)+(k:Int)=(jn:Int):=by omega
   have e4:IntKind.i64.wrap (jn:Int)=(jn:Int):=IntWalk.i64_in _ (by omega);have kj:IntKind.u64.wrap (jn:Int)=(jn:Int):=by rw[IntKind.wrap_u64];omega
   have kg:IntKind.u64.wrap (gen:Int)=(gen:Int):=by have:=n3.out;rw[IntKind.wrap_u64];omega
   have q8:(0:Int)<=(k:Int):=by omega
   have HJ:Hid (jn<1000000):=Ld (by omega);have o7:=Ld (λW=>fw jn 4 W (by omega) (by omega));have S:=Ld j9;have n5:Hid (l.hdr k=bj 4 gen++bj 4 jn++[if k=0 then 1 else 2]):=Ld (by rw[o4,LG.hdr,l3.out.1,l3.out.2]);clear j9 o4;have q2:∀p:HW (aa wr),p.w.cell? ⟨b2,2,none⟩=some (.int .i64 us):=λp=>((b0.out.tr HN.out).tr p.h).blk k0.out |>.cell 2
   have q3:∀p:HW (aa wr),p.w.cell? ⟨b2,3,none⟩=some (.int .u32 gen):=λp=>((b0.out.tr HN.out).tr p.h).blk k0.out |>.cell 3
   go_wp2_with fail;refine ah (aa wr) [(true,0),(true,1),(true,2),(true,4),(true,5),(true,6),(true,7),(true,8),(false,3),(false,9),(false,10),(true,11)] (by kernel_rfl) (by kernel_rfl) (aa.dr (aa.refl wr)) (λp8=>?_)
   iterate 8 (refine af (o:=.mk ..) rfl (λK y=>?_);go_simp;refine y _ ?_;clear y K)
   refine aj (o:=.mk ..) rfl (λK y=>?_) (.inl rfl);go_simp;refine(o6.out wr.drew).mono ?_;rintro e w1 ⟨rfl,j4,j3⟩;have k5:=Ld j4;have k1:Hid (aa wr w1):=Ld ((aa.dr (aa.refl wr)).tr j3);obtain⟨b8,m4⟩:=nM (wr.drew.heap.size);rw[<-m4]at k5⊢;have i3:Hid (wr.heap.size<=b8):=Ld (by rw[m4];exact Nat.le_refl _);clear j4 j3 m4;go_simp;refine y.out _ _ (λ_=>k1.out) ?_;clear y K;refine aj (o:=.mk ..) rfl (λK y=>?_) (.inl rfl);go_simp;refine(o7.out w1).mono ?_;rintro e w2 ⟨rfl,j5,i'⟩;have m':=Ld j5;have T:=Ld (i'.own k5.out);have i7:Hid (aa wr w2):=Ld (k1.out.tr i');clear j5 i';go_simp;refine y.out _ _ (λ_=>i7.out) ?_;clear y K;refine aj (o:=.mk ..) rfl (λK y=>?_) (.inl rfl);refine ce kB _ rfl (.tmp 34) (.tmp 40) rfl b8 (.slice (some ⟨b8,0,none⟩) 4 4) 4 (an (bj 4 gen)) rfl T.out (some ⟨w1.heap.size,0,none⟩) 4 4 (an (bj 4 jn)) rfl (Rd.own m'.out rfl) (aR _) (by unfold maxLen;omega) (by omega) (by have:=(am T.out b8 rfl).2;omega) ?_;intro A3 c3 w3 j6 j0 _;have k6:=Ld j6;have i2:Hid (aa wr w3):=Ld (i7.out.fr j0 (λk H=>by have k9:=(am T.out k H).1;have:=i3.out;omega));clear j6 j0;refine y.out _ _ (λ_=>i2.out) ?_;clear y K;simp only[Act.put,bC,bD,bF];refine af (o:=.mk ..) rfl (λK y=>?_);go_simp;refine y _ ?_;clear y K;refine au ?_;clear q2 q3 e3 e4 kj kg n3;have U:Hid (w3.ownsRow b8 5 1 (.slice A3 8 c3) 8 (an (bj 4 gen)++an (bj 4 jn))):=Ld k6.out
   have o1:b8<=w3.heap.size:=by
    have:=(am T.out b8 rfl).2;have:=i7.out.size;have h3:=i2.out.size;rcases k6.out.2 with h|⟨g,cap,cur,hv,hb,hh,hr⟩
    ·have:=h.1;omega
    ·have:=lt_of_block hh;omega
   have n0:=Ld o1;clear o1
   by_cases l':k=0
   ·have k':((k:Int)==0)=true:=by simp;omega
    have l4:Hid ((if k=0 then 1 else 2:Int)=1):=Ld (if_pos l');clear l'
    go_wp2_with (refine cE 46 rfl ?_;refine av kB _ rfl (.tmp 44) (.tmp 45) rfl b8 (.slice A3 8 c3) 8 _ rfl (aa.own (aa.al (aa.refl w3) _) U.out) (some ⟨w3.heap.size,0,none⟩) 1 1 [.int .u8 1] rfl (Rd.ofBlk (p:=λ_=>True) (ac.new w3 5 #[.int .u8 1]) 1 1 rfl trivial) (by simp[Value.oneCell']) (by unfold maxLen;omega) (by omega) (by have:=n0.out;simp;omega) ?_;intro A5 c5 w5 j7 j1 m0;have i4:=Ld j1;have g3:=Ld j7;clear j7 j1 m0)
    have i9:Hid (aa wr w5):=Ld ((aa.al i2.out _).fr i4.out (λk H=>by have k9:=(am U.out k H).1;have:=i3.out;omega))
    have i6:Hid (FX u w5 l b k 0 (.slice A5 9 c5) (.slice C k cc)):=Ld ⟨HN.out.tr i9.out,by
     have e1:an (l.rawJ b k 0)=an (bj 4 gen)++an (bj 4 jn)++[.int .u8 1]:=by
      unfold LG.rawJ;rw[n5.out,l4.out];simp[an]
     rw[e1];refine im g3.out (λk H=>?_);have h1:=(am g3.out k H).1;have h2:=i3.out;have h3:=HN.out.size
     omega,i9.out.own HO.out⟩
    clear g3 i4 k5 m' T k6 U k1 i7 i2;have m8:=k';clear k'
    go_wp2_with fail;go_loopw [8,9] (λx i wr=>∃(j i0 m:Nat) (X:Option Addr) (R:Nat),j<=55/\Hid (i0=G+j)/\Hid (m=9+j)/\i0<=fl/\m<=64/\i=.int .i64 i0/\x=.slice X m R/\Hid (FX u wr l b k j (.slice X m R) (.slice C k cc))) (λ_ i _=>fl-(intOf i).toNat)
    case atStart=>exact⟨0,G,9,A5,c5,by omega,Ld rfl,Ld rfl,by omega,by omega,rfl,rfl,i6⟩
    case round=>
     clear i6;obtain⟨j,i,m,X,R,hj,HI,HM,p3,b3,rfl,rfl,V⟩:=hrel;have p2:(0:Int)<=(i:Int):=by omega
     by_cases c':j<55/\i<fl
     ·obtain ⟨p4,m7⟩:=c';have g1:(i:Int)<(G:Int)+55:=by have:=HI.out;omega
      have g2:(i:Int)<(fl:Int):=by omega
      have P:i<(l.frame b).length:=by rw[d'.out];exact m7
      obtain⟨x,hx⟩:=nM (at_ (l.frame b) i)
      have cx:wr.cell? ⟨gf,i,none⟩=some (.int .u8 x):=V.out.new.cell_ (n1.out i _ (by
       unfold an at_ at*;rw[List.getElem?_map,List.getElem?_eq_getElem P,hx,List.getD_eq_getElem?_getD,List.getElem?_eq_getElem P]
       rfl))
      have HS:Hid (l.rawJ b k (j+1)=l.rawJ b k j++[x]):=Ld (by
       rw[l.rawJ_succ b k j (by rw[d'.out];have:=HI.out;have:=S.out;omega),hx];have e:55*k+j=i:=by have:=HI.out;have:=S.out;omega
       rw[e])
      have E:Hid (wr.ownsRow u.heap.size 5 1 (.slice X m R) m (an (l.rawJ b k j))):=Ld (by have:=V.out.x;rwa[<-HM.out]at this);have D:Hid (wr.ownsRow u.heap.size 68 64 (.slice C k cc) k (iu l b k)):=Ld V.out.out;clear hx P
      go_wp2_with (refine cE 71 rfl ?_;refine av kB _ rfl (.tmp 65) (.tmp 70) rfl u.heap.size (.slice X m R) m _ rfl (aa.own (aa.al (aa.refl wr) _) E.out) (some ⟨wr.heap.size,0,none⟩) 1 1 [.int .u8 x] rfl (Rd.ofBlk (p:=λ_=>True) (ac.new wr 5 #[.int .u8 x]) 1 1 rfl trivial) (by simp[Value.oneCell']) (by unfold maxLen;omega) (by omega) (aa.al V.out.new _).size ?_;intro A6 c6 w6 j8 j2 m1;have i5:=Ld j2;have l9:=Ld j8;clear j8 j2 m1)
      have c9:Hid (FX u w6 l b k (j+1) (.slice A6 (m+1) c6) (.slice C k cc)):=Ld ⟨(aa.al V.out.new _).fr i5.out (λk H=>(am E.out k H).1),by
       have e1:9+(j+1)=m+1:=by have:=HM.out;omega
       have e2:an (l.rawJ b k (j+1))=an (l.rawJ b k j)++[.int .u8 x]:=by rw[HS.out];simp[an]
       rw[e1,e2]
       exact l9.out,bg (aa.own (aa.al (aa.refl wr) _) D.out) i5.out (λj hj hs=>by
        have t1:=cY D.out hj
        exact aK.not_own E.out (by decide) hs t1)⟩
      go_roundw
      case rel=>exact⟨j+1,i+1,m+1,A6,c6,by omega,Ld (by have:=HI.out;omega),Ld (by have:=HM.out;omega),by omega,by have:=HM.out;omega,by go_num,rfl,c9⟩
      case measure=>simp[intOf];omega
     ·have g6:Hid (l.rawJ b k j=l.raw b k):=Ld (l.rawJ_all b k j (by
       rw[d'.out];have:=HI.out;have:=S.out
       by_cases g8:j<55
       ·exact .inr ⟨hj,by have:¬i<fl:=λh=>c' ⟨g8,h⟩;omega⟩
       ·exact .inl (by omega)))
      have E:Hid (wr.ownsRow u.heap.size 5 1 (.slice X m R) m (an (l.raw b k))):=Ld (by have:=V.out.x;rwa[<-HM.out,g6.out]at this);have Z:Hid ((l.raw b k).length=m):=Ld (by have:=E.out.1;rw[ak]at this;omega);have D:Hid (wr.ownsRow u.heap.size 68 64 (.slice C k cc) k (iu l b k)):=Ld V.out.out;have b7:(ag (l.sec b k)).size=64:=by rw[aq,LG.sec,fD (l.raw_len b k)]
      have r:=Ld b7;have Y:Hid (aa u wr):=Ld V.out.new;have j':Hid (splice (an az) 0 (an (l.raw b k))=an (l.sec b k)):=Ld (iv (l.raw_len b k));clear b7
      have i1:¬(i:Int)<(G:Int)+55\/((i:Int)<(G:Int)+55/\¬(i:Int)<(fl:Int)):=by
       have:=HI.out
       by_cases g8:j<55
       ·exact .inr ⟨by omega,by have:¬i<fl:=λh=>c' ⟨g8,h⟩;omega⟩
       ·exact .inl (by omega)
      clear c' HI HM V;rcases i1 with g1|⟨g1,g2⟩
      ·go_upto_region 15 with fail;have hz:(#[.int .u8 0,.int .u8 0,.int .u8 0,.int .u8 0,.int .u8 0,.int .u8 0,.int .u8 0,.int .u8 0,.int .u8 0,.int .u8 0,.int .u8 0,.int .u8 0,.int .u8 0,.int .u8 0,.int .u8 0,.int .u8 0,.int .u8 0,.int .u8 0,.int .u8 0,.int .u8 0,.int .u8 0,.int .u8 0,.int .u8 0,.int .u8 0,.int .u8 0,.int .u8 0,.int .u8 0,.int .u8 0,.int .u8 0,.int .u8 0,.int .u8 0,.int .u8 0,.int .u8 0,.int .u8 0,.int .u8 0,.int .u8 0,.int .u8 0,.int .u8 0,.int .u8 0,.int .u8 0,.int .u8 0,.int .u8 0,.int .u8 0,.int .u8 0,.int .u8 0,.int .u8 0,.int .u8 0,.int .u8 0,.int .u8 0,.int .u8 0,.int .u8 0,.int .u8 0,.int .u8 0,.int .u8 0,.int .u8 0,.int .u8 0,.int .u8 0,.int .u8 0,.int .u8 0,.int .u8 0,.int .u8 0,.int .u8 0,.int .u8 0,.int .u8 0]:Array Value)=ag az:=rfl;rw[hz];obtain⟨w6,t⟩:=nM (wr.alloc (.cells (ag az) 68):World);obtain⟨s,f⟩:=nM (wr.heap.size);have I:Hid (ac w6 s 68 (an az).toArray):=Ld (by rw[t,f];exact ac.new _ _ _);have L:Hid (aa wr w6):=Ld (by rw[t];exact aa.al (aa.refl _) _);have J:Hid (s=wr.heap.size):=Ld f;rw[<-t,<-f];clear t f hz
       go_wp2_with (first
        |(refine cE 74 rfl ?_;refine eV (q:=λk=>(Value.slice X m R).ownBlock=some k) rfl (.tmp 72) (.tmp 73) 33 33 rfl 5 underlying33 rfl s 0 64 64 X m R rfl rfl (an az) 68 I.out (an (l.raw b k)) (by rw[ak,Z.out];exact(Nat.min_eq_left b3).symm) ⟨m,an (l.raw b k),Rd.own (L.out.own E.out) rfl,List.take_length⟩ (by rw[ak,ak,Z.out,bh.1];omega) (aR _) ?_;intro w7 F O;rw[j'.out]at F;have c0:Hid (ac w7 s 68 (ag (l.sec b k))):=Ld F;have c1:=Ld O;clear F O;have z:Hid (aa wr w7):=Ld (L.out.fr c1.out (λk H=>by have:=J.out;omega)))
        |(refine cE 76 rfl ?_;refine ae rfl _ rfl underlying68 rfl (by rw[r.out];rfl) rfl c0.out ?_)
        |(refine cE 77 rfl ?_;refine cD nT (by decide) rfl (.tmp 76) rfl (ag (l.sec b k)) rfl r.out ?_)
        |(refine cE 78 rfl ?_;refine av nT _ rfl (.tmp 75) (.tmp 77) rfl u.heap.size (.slice C k cc) k _ rfl (aa.own (aa.al z.out _) D.out) (some ⟨w7.heap.size,0,none⟩) 1 1 (an (l.sec b k)) rfl (by have h:=Rd.ofBlk (p:=λ_=>True) (ac.new w7 68 (ag (l.sec b k))) 64 1 (by rw[r.out]) trivial;rwa[eu]at h) (aR _) (by unfold maxLen;omega) (by omega) (aa.al (Y.out.tr z.out) _).size ?_;intro A8 c8 w8 N M g9;have c7:=Ld M;have g4:=Ld N;clear N M g9))
       have f':Hid (aa u w8):=Ld ((aa.al (Y.out.tr z.out) _).fr c7.out (λk H=>(am D.out k H).1));have g5:Hid (w8.ownsRow u.heap.size 68 64 (.slice A8 (k+1) c8) (k+1) (iu l b (k+1))):=Ld (by rw[gY];exact g4.out);go_roundw
       case rel=>exact⟨k+1,A8,c8,by omega,by go_num,rfl,f',g5⟩
       case measure=>simp[intOf];omega
      ·go_upto_region 15 with fail;have hz:(#[.int .u8 0,.int .u8 0,.int .u8 0,.int .u8 0,.int .u8 0,.int .u8 0,.int .u8 0,.int .u8 0,.int .u8 0,.int .u8 0,.int .u8 0,.int .u8 0,.int .u8 0,.int .u8 0,.int .u8 0,.int .u8 0,.int .u8 0,.int .u8 0,.int .u8 0,.int .u8 0,.int .u8 0,.int .u8 0,.int .u8 0,.int .u8 0,.int .u8 0,.int .u8 0,.int .u8 0,.int .u8 0,.int .u8 0,.int .u8 0,.int .u8 0,.int .u8 0,.int .u8 0,.int .u8 0,.int .u8 0,.int .u8 0,.int .u8 0,.int .u8 0,.int .u8 0,.int .u8 0,.int .u8 0,.int .u8 0,.int .u8 0,.int .u8 0,.int .u8 0,.int .u8 0,.int .u8 0,.int .u8 0,.int .u8 0,.int .u8 0,.int .u8 0,.int .u8 0,.int .u8 0,.int .u8 0,.int .u8 0,.int .u8 0,.int .u8 0,.int .u8 0,.int .u8 0,.int .u8 0,.int .u8 0,.int .u8 0,.int .u8 0,.int .u8 0]:Array Value)=ag az:=rfl;rw[hz];obtain⟨w6,t⟩:=nM (wr.alloc (.cells (ag az) 68):World);obtain⟨s,f⟩:=nM (wr.heap.size);have I:Hid (ac w6 s 68 (an az).toArray):=Ld (by rw[t,f];exact ac.new _ _ _);have L:Hid (aa wr w6):=Ld (by rw[t];exact aa.al (aa.refl _) _);have J:Hid (s=wr.heap.size):=Ld f;rw[<-t,<-f];clear t f hz
       go_wp2_with (first
        |(refine cE 74 rfl ?_;refine eV (q:=λk=>(Value.slice X m R).ownBlock=some k) rfl (.tmp 72) (.tmp 73) 33 33 rfl 5 underlying33 rfl s 0 64 64 X m R rfl rfl (an az) 68 I.out (an (l.raw b k)) (by rw[ak,Z.out];exact(Nat.min_eq_left b3).symm) ⟨m,an (l.raw b k),Rd.own (L.out.own E.out) rfl,List.take_length⟩ (by rw[ak,ak,Z.out,bh.1];omega) (aR _) ?_;intro w7 F O;rw[j'.out]at F;have c0:Hid (ac w7 s 68 (ag (l.sec b k))):=Ld F;have c1:=Ld O;clear F O;have z:Hid (aa wr w7):=Ld (L.out.fr c1.out (λk H=>by have:=J.out;omega)))
        |(refine cE 76 rfl ?_;refine ae rfl _ rfl underlying68 rfl (by rw[r.out];rfl) rfl c0.out ?_)
        |(refine cE 77 rfl ?_;refine cD nT (by decide) rfl (.tmp 76) rfl (ag (l.sec b k)) rfl r.out ?_)
        |(refine cE 78 rfl ?_;refine av nT _ rfl (.tmp 75) (.tmp 77) rfl u.heap.size (.slice C k cc) k _ rfl (aa.own (aa.al z.out _) D.out) (some ⟨w7.heap.size,0,none⟩) 1 1 (an (l.sec b k)) rfl (by have h:=Rd.ofBlk (p:=λ_=>True) (ac.new w7 68 (ag (l.sec b k))) 64 1 (by rw[r.out]) trivial;rwa[eu]at h) (aR _) (by unfold maxLen;omega) (by omega) (aa.al (Y.out.tr z.out) _).size ?_;intro A8 c8 w8 N M g9;have c7:=Ld M;have g4:=Ld N;clear N M g9))
       have f':Hid (aa u w8):=Ld ((aa.al (Y.out.tr z.out) _).fr c7.out (λk H=>(am D.out k H).1));have g5:Hid (w8.ownsRow u.heap.size 68 64 (.slice A8 (k+1) c8) (k+1) (iu l b (k+1))):=Ld (by rw[gY];exact g4.out);go_roundw
       case rel=>exact⟨k+1,A8,c8,by omega,by go_num,rfl,f',g5⟩
       case measure=>simp[intOf];omega
   ·have k':((k:Int)==0)=false:=by simp;omega
    have l4:Hid ((if k=0 then 1 else 2:Int)=2):=Ld (if_neg l');clear l'
    go_wp2_with (refine cE 49 rfl ?_;refine av kB _ rfl (.tmp 47) (.tmp 48) rfl b8 (.slice A3 8 c3) 8 _ rfl (aa.own (aa.al (aa.refl w3) _) U.out) (some ⟨w3.heap.size,0,none⟩) 1 1 [.int .u8 2] rfl (Rd.ofBlk (p:=λ_=>True) (ac.new w3 5 #[.int .u8 2]) 1 1 rfl trivial) (by simp[Value.oneCell']) (by unfold maxLen;omega) (by omega) (by have:=n0.out;simp;omega) ?_;intro A5 c5 w5 j7 j1 m0;have i4:=Ld j1;have g3:=Ld j7;clear j7 j1 m0)
    have i9:Hid (aa wr w5):=Ld ((aa.al i2.out _).fr i4.out (λk H=>by have k9:=(am U.out k H).1;have:=i3.out;omega))
    have i6:Hid (FX u w5 l b k 0 (.slice A5 9 c5) (.slice C k cc)):=Ld ⟨HN.out.tr i9.out,by
     have e1:an (l.rawJ b k 0)=an (bj 4 gen)++an (bj 4 jn)++[.int .u8 2]:=by
      unfold LG.rawJ;rw[n5.out,l4.out];simp[an]
     rw[e1];refine im g3.out (λk H=>?_);have h1:=(am g3.out k H).1;have h2:=i3.out;have h3:=HN.out.size
     omega,i9.out.own HO.out⟩
    clear g3 i4 k5 m' T k6 U k1 i7 i2;have m8:=k';clear k'
    go_wp2_with fail;go_loopw [8,9] (λx i wr=>∃(j i0 m:Nat) (X:Option Addr) (R:Nat),j<=55/\Hid (i0=G+j)/\Hid (m=9+j)/\i0<=fl/\m<=64/\i=.int .i64 i0/\x=.slice X m R/\Hid (FX u wr l b k j (.slice X m R) (.slice C k cc))) (λ_ i _=>fl-(intOf i).toNat)
    case atStart=>exact⟨0,G,9,A5,c5,by omega,Ld rfl,Ld rfl,by omega,by omega,rfl,rfl,i6⟩
    case round=>
     clear i6;obtain⟨j,i,m,X,R,hj,HI,HM,p3,b3,rfl,rfl,V⟩:=hrel;have p2:(0:Int)<=(i:Int):=by omega
     by_cases c':j<55/\i<fl
     ·obtain ⟨p4,m7⟩:=c';have g1:(i:Int)<(G:Int)+55:=by have:=HI.out;omega
      have g2:(i:Int)<(fl:Int):=by omega
      have P:i<(l.frame b).length:=by rw[d'.out];exact m7
      obtain⟨x,hx⟩:=nM (at_ (l.frame b) i)
      have cx:wr.cell? ⟨gf,i,none⟩=some (.int .u8 x):=V.out.new.cell_ (n1.out i _ (by
       unfold an at_ at*;rw[List.getElem?_map,List.getElem?_eq_getElem P,hx,List.getD_eq_getElem?_getD,List.getElem?_eq_getElem P]
       rfl))
      have HS:Hid (l.rawJ b k (j+1)=l.rawJ b k j++[x]):=Ld (by
       rw[l.rawJ_succ b k j (by rw[d'.out];have:=HI.out;have:=S.out;omega),hx];have e:55*k+j=i:=by have:=HI.out;have:=S.out;omega
       rw[e])
      have E:Hid (wr.ownsRow u.heap.size 5 1 (.slice X m R) m (an (l.rawJ b k j))):=Ld (by have:=V.out.x;rwa[<-HM.out]at this);have D:Hid (wr.ownsRow u.heap.size 68 64 (.slice C k cc) k (iu l b k)):=Ld V.out.out;clear hx P
      go_wp2_with (refine cE 71 rfl ?_;refine av kB _ rfl (.tmp 65) (.tmp 70) rfl u.heap.size (.slice X m R) m _ rfl (aa.own (aa.al (aa.refl wr) _) E.out) (some ⟨wr.heap.size,0,none⟩) 1 1 [.int .u8 x] rfl (Rd.ofBlk (p:=λ_=>True) (ac.new wr 5 #[.int .u8 x]) 1 1 rfl trivial) (by simp[Value.oneCell']) (by unfold maxLen;omega) (by omega) (aa.al V.out.new _).size ?_;intro A6 c6 w6 j8 j2 m1;have i5:=Ld j2;have l9:=Ld j8;clear j8 j2 m1)
      have c9:Hid (FX u w6 l b k (j+1) (.slice A6 (m+1) c6) (.slice C k cc)):=Ld ⟨(aa.al V.out.new _).fr i5.out (λk H=>(am E.out k H).1),by
       have e1:9+(j+1)=m+1:=by have:=HM.out;omega
       have e2:an (l.rawJ b k (j+1))=an (l.rawJ b k j)++[.int .u8 x]:=by rw[HS.out];simp[an]
       rw[e1,e2]
       exact l9.out,bg (aa.own (aa.al (aa.refl wr) _) D.out) i5.out (λj hj hs=>by
        have t1:=cY D.out hj
        exact aK.not_own E.out (by decide) hs t1)⟩
      go_roundw
      case rel=>exact⟨j+1,i+1,m+1,A6,c6,by omega,Ld (by have:=HI.out;omega),Ld (by have:=HM.out;omega),by omega,by have:=HM.out;omega,by go_num,rfl,c9⟩
      case measure=>simp[intOf];omega
     ·have g6:Hid (l.rawJ b k j=l.raw b k):=Ld (l.rawJ_all b k j (by
       rw[d'.out];have:=HI.out;have:=S.out
       by_cases g8:j<55
       ·exact .inr ⟨hj,by have:¬i<fl:=λh=>c' ⟨g8,h⟩;omega⟩
       ·exact .inl (by omega)))
      have E:Hid (wr.ownsRow u.heap.size 5 1 (.slice X m R) m (an (l.raw b k))):=Ld (by have:=V.out.x;rwa[<-HM.out,g6.out]at this);have Z:Hid ((l.raw b k).length=m):=Ld (by have:=E.out.1;rw[ak]at this;omega);have D:Hid (wr.ownsRow u.heap.size 68 64 (.slice C k cc) k (iu l b k)):=Ld V.out.out;have b7:(ag (l.sec b k)).size=64:=by rw[aq,LG.sec,fD (l.raw_len b k)]
      have r:=Ld b7;have Y:Hid (aa u wr):=Ld V.out.new;have j':Hid (splice (an az) 0 (an (l.raw b k))=an (l.sec b k)):=Ld (iv (l.raw_len b k));clear b7
      have i1:¬(i:Int)<(G:Int)+55\/((i:Int)<(G:Int)+55/\¬(i:Int)<(fl:Int)):=by
       have:=HI.out
       by_cases g8:j<55
       ·exact .inr ⟨by omega,by have:¬i<fl:=λh=>c' ⟨g8,h⟩;omega⟩
       ·exact .inl (by omega)
      clear c' HI HM V;rcases i1 with g1|⟨g1,g2⟩
      ·go_upto_region 15 with fail;have hz:(#[.int .u8 0,.int .u8 0,.int .u8 0,.int .u8 0,.int .u8 0,.int .u8 0,.int .u8 0,.int .u8 0,.int .u8 0,.int .u8 0,.int .u8 0,.int .u8 0,.int .u8 0,.int .u8 0,.int .u8 0,.int .u8 0,.int .u8 0,.int .u8 0,.int .u8 0,.int .u8 0,.int .u8 0,.int .u8 0,.int .u8 0,.int .u8 0,.int .u8 0,.int .u8 0,.int .u8 0,.int .u8 0,.int .u8 0,.int .u8 0,.int .u8 0,.int .u8 0,.int .u8 0,.int .u8 0,.int .u8 0,.int .u8 0,.int .u8 0,.int .u8 0,.int .u8 0,.int .u8 0,.int .u8 0,.int .u8 0,.int .u8 0,.int .u8 0,.int .u8 0,.int .u8 0,.int .u8 0,.int .u8 0,.int .u8 0,.int .u8 0,.int .u8 0,.int .u8 0,.int .u8 0,.int .u8 0,.int .u8 0,.int .u8 0,.int .u8 0,.int .u8 0,.int .u8 0,.int .u8 0,.int .u8 0,.int .u8 0,.int .u8 0,.int .u8 0]:Array Value)=ag az:=rfl;rw[hz];obtain⟨w6,t⟩:=nM (wr.alloc (.cells (ag az) 68):World);obtain⟨s,f⟩:=nM (wr.heap.size);have I:Hid (ac w6 s 68 (an az).toArray):=Ld (by rw[t,f];exact ac.new _ _ _);have L:Hid (aa wr w6):=Ld (by rw[t];exact aa.al (aa.refl _) _);have J:Hid (s=wr.heap.size):=Ld f;rw[<-t,<-f];clear t f hz
       go_wp2_with (first
        |(refine cE 74 rfl ?_;refine eV (q:=λk=>(Value.slice X m R).ownBlock=some k) rfl (.tmp 72) (.tmp 73) 33 33 rfl 5 underlying33 rfl s 0 64 64 X m R rfl rfl (an az) 68 I.out (an (l.raw b k)) (by rw[ak,Z.out];exact(Nat.min_eq_left b3).symm) ⟨m,an (l.raw b k),Rd.own (L.out.own E.out) rfl,List.take_length⟩ (by rw[ak,ak,Z.out,bh.1];omega) (aR _) ?_;intro w7 F O;rw[j'.out]at F;have c0:Hid (ac w7 s 68 (ag (l.sec b k))):=Ld F;have c1:=Ld O;clear F O;have z:Hid (aa wr w7):=Ld (L.out.fr c1.out (λk H=>by have:=J.out;omega)))
        |(refine cE 76 rfl ?_;refine ae rfl _ rfl underlying68 rfl (by rw[r.out];rfl) rfl c0.out ?_)
        |(refine cE 77 rfl ?_;refine cD nT (by decide) rfl (.tmp 76) rfl (ag (l.sec b k)) rfl r.out ?_)
        |(refine cE 78 rfl ?_;refine av nT _ rfl (.tmp 75) (.tmp 77) rfl u.heap.size (.slice C k cc) k _ rfl (aa.own (aa.al z.out _) D.out) (some ⟨w7.heap.size,0,none⟩) 1 1 (an (l.sec b k)) rfl (by have h:=Rd.ofBlk (p:=λ_=>True) (ac.new w7 68 (ag (l.sec b k))) 64 1 (by rw[r.out]) trivial;rwa[eu]at h) (aR _) (by unfold maxLen;omega) (by omega) (aa.al (Y.out.tr z.out) _).size ?_;intro A8 c8 w8 N M g9;have c7:=Ld M;have g4:=Ld N;clear N M g9))
       have f':Hid (aa u w8):=Ld ((aa.al (Y.out.tr z.out) _).fr c7.out (λk H=>(am D.out k H).1));have g5:Hid (w8.ownsRow u.heap.size 68 64 (.slice A8 (k+1) c8) (k+1) (iu l b (k+1))):=Ld (by rw[gY];exact g4.out);go_roundw
       case rel=>exact⟨k+1,A8,c8,by omega,by go_num,rfl,f',g5⟩
       case measure=>simp[intOf];omega
      ·go_upto_region 15 with fail;have hz:(#[.int .u8 0,.int .u8 0,.int .u8 0,.int .u8 0,.int .u8 0,.int .u8 0,.int .u8 0,.int .u8 0,.int .u8 0,.int .u8 0,.int .u8 0,.int .u8 0,.int .u8 0,.int .u8 0,.int .u8 0,.int .u8 0,.int .u8 0,.int .u8 0,.int .u8 0,.int .u8 0,.int .u8 0,.int .u8 0,.int .u8 0,.int .u8 0,.int .u8 0,.int .u8 0,.int .u8 0,.int .u8 0,.int .u8 0,.int .u8 0,.int .u8 0,.int .u8 0,.int .u8 0,.int .u8 0,.int .u8 0,.int .u8 0,.int .u8 0,.int .u8 0,.int .u8 0,.int .u8 0,.int .u8 0,.int .u8 0,.int .u8 0,.int .u8 0,.int .u8 0,.int .u8 0,.int .u8 0,.int .u8 0,.int .u8 0,.int .u8 0,.int .u8 0,.int .u8 0,.int .u8 0,.int .u8 0,.int .u8 0,.int .u8 0,.int .u8 0,.int .u8 0,.int .u8 0,.int .u8 0,.int .u8 0,.int .u8 0,.int .u8 0,.int .u8 0]:Array Value)=ag az:=rfl;rw[hz];obtain⟨w6,t⟩:=nM (wr.alloc (.cells (ag az) 68):World);obtain⟨s,f⟩:=nM (wr.heap.size);have I:Hid (ac w6 s 68 (an az).toArray):=Ld (by rw[t,f];exact ac.new _ _ _);have L:Hid (aa wr w6):=Ld (by rw[t];exact aa.al (aa.refl _) _);have J:Hid (s=wr.heap.size):=Ld f;rw[<-t,<-f];clear t f hz
       go_wp2_with (first
        |(refine cE 74 rfl ?_;refine eV (q:=λk=>(Value.slice X m R).ownBlock=some k) rfl (.tmp 72) (.tmp 73) 33 33 rfl 5 underlying33 rfl s 0 64 64 X m R rfl rfl (an az) 68 I.out (an (l.raw b k)) (by rw[ak,Z.out];exact(Nat.min_eq_left b3).symm) ⟨m,an (l.raw b k),Rd.own (L.out.own E.out) rfl,List.take_length⟩ (by rw[ak,ak,Z.out,bh.1];omega) (aR _) ?_;intro w7 F O;rw[j'.out]at F;have c0:Hid (ac w7 s 68 (ag (l.sec b k))):=Ld F;have c1:=Ld O;clear F O;have z:Hid (aa wr w7):=Ld (L.out.fr c1.out (λk H=>by have:=J.out;omega)))
        |(refine cE 76 rfl ?_;refine ae rfl _ rfl underlying68 rfl (by rw[r.out];rfl) rfl c0.out ?_)
        |(refine cE 77 rfl ?_;refine cD nT (by decide) rfl (.tmp 76) rfl (ag (l.sec b k)) rfl r.out ?_)
        |(refine cE 78 rfl ?_;refine av nT _ rfl (.tmp 75) (.tmp 77) rfl u.heap.size (.slice C k cc) k _ rfl (aa.own (aa.al z.out _) D.out) (some ⟨w7.heap.size,0,none⟩) 1 1 (an (l.sec b k)) rfl (by have h:=Rd.ofBlk (p:=λ_=>True) (ac.new w7 68 (ag (l.sec b k))) 64 1 (by rw[r.out]) trivial;rwa[eu]at h) (aR _) (by unfold maxLen;omega) (by omega) (aa.al (Y.out.tr z.out) _).size ?_;intro A8 c8 w8 N M g9;have c7:=Ld M;have g4:=Ld N;clear N M g9))
       have f':Hid (aa u w8):=Ld ((aa.al (Y.out.tr z.out) _).fr c7.out (λk H=>(am D.out k H).1));have g5:Hid (w8.ownsRow u.heap.size 68 64 (.slice A8 (k+1) c8) (k+1) (iu l b (k+1))):=Ld (by rw[gY];exact g4.out);go_roundw
       case rel=>exact⟨k+1,A8,c8,by omega,by go_num,rfl,f',g5⟩
       case measure=>simp[intOf];omega
  ·have p5:k=K:=by omega
   subst p5;have p6:¬55*(k:Int)<(fl:Int):=by have:=HK.out;have:=b'.out;omega
   go_wp2_with fail;go_ret;exact⟨⟨C,cc,rfl,im HO.out (λj hj=>by have:=(am HO.out j hj).1;have:=b0.out.size;have:=k2.out.size;omega)⟩,(k2.out.tr b0.out).tr HN.out⟩
def fJ(n k i:Nat):Nat:=if i+1=k then 9+(n+19)%55+1 else 64
theorem tE{l:LG}{b:List Int}{n k i:Nat}(c:b.length=n)(d:k=(n+74)/55)(hi:i<k):(l.raw b i).length=fJ n k i:=by
 unfold LG.raw fJ;rw[List.length_append,LG.hdr_len,List.length_take,List.length_drop,LG.frame_len,c]
 by_cases h:i+1=k
 ·rw[if_pos h];omega
 ·rw[if_neg h];omega
theorem yj(n k i:Nat):fJ n k i<=64:=by unfold fJ;split<;>omega
theorem qi{l:LG}{b:List Int}{n k i:Nat}(c:b.length=n)(d:k=(n+74)/55)(hi:i<k):(l.sec b i).take (fJ n k i)=l.raw b i:=by
 have h:=tE (l:=l) c d hi;unfold LG.sec fO;rw[List.take_append_of_le_length (by omega),<-h,List.take_length]
theorem ik{p:DP}(b:p.Ok)(l:LG):∀(k i:Nat),i<k->((aT p l k).drop (55*i)).take 55=(sct p l i).drop 9
 | 0,i,hi=>absurd hi (by omega)
 |k+1,i,hi=>by
  rw[iK];have hl:=fq b l k;have c:((sct p l k).drop 9).length=55:=by rw[List.length_drop,(lX b l k).1]
  by_cases h:i=k
  ·subst h;rw[List.drop_append_of_le_length (by omega),List.drop_of_length_le (by omega),List.nil_append,List.take_of_length_le (by omega)]
  ·rw[List.drop_append_of_le_length (by omega),List.take_append_of_le_length (by rw[List.length_drop];omega)];exact ik b l k i (by omega)
theorem nj:∀(k:Nat) (x y:List Int),x.length<=55*k->y.length<=55*k->(∀i,i<k->(x.drop (55*i)).take 55=(y.drop (55*i)).take 55)->x=y
 | 0,x,y,b,c,_=>by
  have h1:x=[]:=List.eq_nil_of_length_eq_zero (by omega);have h2:y=[]:=List.eq_nil_of_length_eq_zero (by omega);rw[h1,h2]
 |k+1,x,y,b,c,h=>by
  have h0:=h 0 (by omega);rw[Nat.mul_zero,List.drop_zero,List.drop_zero]at h0
  have h1:x.drop 55=y.drop 55:=nj k _ _ (by rw[List.length_drop];omega) (by rw[List.length_drop];omega) λi hi=>by
   have h2:=h (i+1) (by omega);rw[List.drop_drop,List.drop_drop]
   rwa[show 55+55*i=55*(i+1) by omega]
  rw[<-List.take_append_drop 55 x,<-List.take_append_drop 55 y,h0,h1]
section
variable {p:DP}{l:LG}{n k:Nat}
theorem wv(c:p.Ok)(g:n=l.many p)(b:1<=k):(aT p l k).take 4=bj 4 n:=by
 have h0:=ik c l k 0 b;rw[Nat.mul_zero,List.drop_zero]at h0
 have d:(aT p l k).take 4=((sct p l 0).drop 9).take 4:=by
  rw[<-h0,List.take_take];rfl
 have f:ba ((aT p l k).take 4):=λx j=>lL c l k x (List.mem_of_mem_take j)
 have hl:((aT p l k).take 4).length=4:=by rw[List.length_take,fq c];omega
 have i:aU ((aT p l k).take 4)=n:=by rw[d,g];rfl
 have:=uo _ f;rw[hl,i]at this;exact this.symm
theorem nU(f:p.Ok)(b:n=l.many p)(c:k=aA n)(d:k≠0):(aT p l k).take (20+n)=bj 4 n++((aT p l k).drop 4).take 16++l.body p:=by
 have h1:=wv (l:=l) (k:=k) f b (by omega);have h2:l.body p=((aT p l k).drop 20).take n:=by unfold LG.body;rw[<-b,<-c]
 rw[h2,<-h1,show 20+n=4+(16+n) by omega,List.take_add,List.take_add,List.append_assoc,List.drop_drop]
theorem lB(j:p.Ok)(g:n=l.many p)(f:k=aA n)(h:l.Next p):∀i,i<k->(sct p l i).take (fJ n k i)=(l.sec (l.body p) i).take (fJ n k i):=λi hi=>by
 have b:k≠0:=by omega
 have t:=eo (n:=n) (by rw[<-f];exact b);have c:k=(n+74)/55:=by omega
 have m:(l.body p).length=n:=by rw[LG.body_len j h.pos,g]
 have o:(aT p l k).take (20+n)=l.frame (l.body p):=by
  rw[nU j g f b,LG.frame,m];have:=h.tag;rw[<-g,<-f]at this;rw[this]
 have d:=tE (l:=l) m c hi;rw[qi m c hi,<-d];have u:=h.hdr i (by rw[<-g,<-f];exact hi);have hm:fJ n k i=9+(fJ n k i-9):=by unfold fJ;split<;>omega
 rw[d,hm,List.take_add,u];unfold LG.raw
 congr 1
 have r:=ik j l k i hi;rw[<-o,<-r,List.take_take];have q:fJ n k i-9<=55:=by have:=yj n k i;omega
 rw[Nat.min_eq_left q];have s:=fq j l k;have:((aT p l k).take (20+n)).drop (55*i)=((aT p l k).drop (55*i)).take (20+n-55*i):=by rw[List.drop_take]
 rw[this,List.take_take]
 congr 1
 unfold fJ;split<;>omega
theorem lD(o:p.Ok)(f:n=l.many p)(d:k=aA n)(b:k≠0)(u:l.used<l.size)(t:l.used+k<=l.size)(h:∀i,i<k->(sct p l i).take (fJ n k i)=(l.sec (l.body p) i).take (fJ n k i)):l.Next p:=by
 have s:=eo (n:=n) (by rw[<-d];exact b);have r:k=(n+74)/55:=by omega
 have q:(l.body p).length=n:=by rw[LG.body_len o (by rw[<-f,<-d];exact b),f]
 have m:=fq o l k;have c:∀i,i<k->(sct p l i).take (fJ n k i)=l.raw (l.body p) i:=λi hi=>by rw[h i hi,qi q r hi]
 have j:∀i,i<k->(sct p l i).take 9=l.hdr i:=λi hi=>by
  have h1:=congrArg (List.take 9) (c i hi);rw[List.take_take]at h1;have h2:min 9 (fJ n k i)=9:=by unfold fJ;split<;>omega
  rw[h2]at h1;rw[h1];unfold LG.raw;rw[List.take_append_of_le_length (by rw[LG.hdr_len];exact Nat.le_refl _),List.take_of_length_le (by rw[LG.hdr_len];exact Nat.le_refl _)]
 have g:(aT p l k).take (20+n)=l.frame (l.body p):=by
  refine nj k _ _ (by rw[List.length_take];omega) (by rw[LG.frame_len,q];omega) λi hi=>?_
  have h1:=congrArg (List.drop 9) (c i hi)
  have h2:(l.raw (l.body p) i).drop 9=((l.frame (l.body p)).drop (55*i)).take 55:=by
   unfold LG.raw;rw[List.drop_append_of_le_length (by rw[LG.hdr_len];exact Nat.le_refl _),List.drop_of_length_le (by rw[LG.hdr_len];exact Nat.le_refl _),List.nil_append]
  rw[h2,List.drop_take]at h1;rw[<-h1,<-ik o l k i hi,List.take_take,List.drop_take,List.take_take]
  congr 1
  unfold fJ;split<;>omega
 refine⟨u,by rw[<-f,<-d];exact b,by rw[<-f,<-d];exact t,by rw[<-f,<-d];exact j,?_⟩;rw[<-f,<-d];rw[nU o f d b,LG.frame,q]at g;have h1:=List.append_inj g (by rw[List.length_append,List.length_append,aw,fh,List.length_take,List.length_drop,m];omega);exact(List.append_inj h1.1 rfl).2
end
end Go.Proofs.YtfchcdbfalgdlaaGreatDoor
