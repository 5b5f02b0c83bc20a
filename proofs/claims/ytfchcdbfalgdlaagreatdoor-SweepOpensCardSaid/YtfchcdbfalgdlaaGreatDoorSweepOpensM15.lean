/- Texts of one proof. No condition but each one's own. -/
import Derived.Test.YtfchcdbfalgdlaaGreatDoorSweepOpensM13
import Derived.Test.YtfchcdbfalgdlaaGreatDoorSweepOpensM14
set_option maxHeartbeats 4000000
set_option maxRecDepth 100000
set_option linter.unusedVariables false
set_option linter.unusedSimpArgs false
namespace Go.Proofs.YtfchcdbfalgdlaaGreatDoor
open _root_.Go.Proofs.Tryz
open Go.RowKit Go.Sort
theorem eJ{w:World}{base b g bs c n:Nat}{v:Value}{p:DP}{l:LG}(h:Dk w base g bs c v p)(hl:Lg w b g l n):¬bJ g bs c v b:=
 fN h hl.blk (fun e=>ab.ne_ (g:=b) (g':=g) hl.blk h.blk (by decide) e) (by decide)
theorem eV(p:DP)(l:LG):∀k,(wipeN p l k).1.size=p.size
 | 0=>rfl
 |k+1=>by
  have b:=eV p l k;simp only[wipeN];split
  ·exact b
  ·split
   ·exact(DP.doWrite_size _ _ _).trans b
   ·exact b
theorem mL{p:DP}{l:LG}{k:Nat}(h:(wipeN p l k).2.2≠0):∀j,wipeN p l (k+j)=wipeN p l k
 | 0=>rfl
 |j+1=>by
  have b:=mL h j;rw[←Nat.add_assoc];simp only[wipeN];rw[b,if_pos h]
theorem jo{p:DP}{l:LG}{k:Nat}(h:(wipeN p l k).2.2=0)(b:¬aQ ((sct (wipeN p l k).1 l k).take 4)=l.gen):wipeN p l (k+1)=wipeN p l k:=by
 simp only[wipeN];rw[if_neg (by rw[h];simp),if_neg b]
theorem kB{p:DP}{l:LG}{k:Nat}(h:(wipeN p l k).2.2=0)(b:aQ ((sct (wipeN p l k).1 l k).take 4)=l.gen):wipeN p l (k+1)=((wipeN p l k).1.doWrite ((l.first+l.used+k:Nat):Int) aw,(if(wipeN p l k).1.wcode ((l.first+l.used+k:Nat):Int)=0 then true else(wipeN p l k).2.1),(wipeN p l k).1.wcode ((l.first+l.used+k:Nat):Int)):=by
 simp only[wipeN];rw[if_neg (by rw[h];simp),if_pos b]
def lz(w:World)(base g bs b:Nat)(v:Value)(r:DP×Int)(e:Ending)(w':World):Prop:=e=.returned (dG r.2)∧∃c,cI w base g bs b v r.1 w' c
def mi(b:Nat)(x y:Value)(w:World):Prop:=w.cell? ⟨b,0,none⟩=some x∧w.cell? ⟨b,1,none⟩=some y
theorem ug{w:World}{d g base bs bf:Nat}{v:Value}{p:DP}{l:LG}(h:Lg w d g l p.size)(hD:Dk w base g bs bf v p):
    Calls prog 97 #[.pointer (some ⟨d,0,none⟩)] w (lz w base g bs bf v (az p l)):=by
 have l8:=Ld h;have b9:Hid (¬bJ g bs bf v d):=Ld (eJ hD h);have i9:Hid (cI w base g bs bf v p w v):=Ld (cI.same hD (aa.refl w));have l2:=hD.ok.s2;have I:=h.ok.fit;have t:=h.ok.used;have g3:Hid (l.gen<4294967296):=Ld h.ok.gen;obtain⟨u,c8⟩:=nM (l.used);obtain⟨H,c5⟩:=nM (l.first);obtain⟨sz,D⟩:=nM (l.size);obtain⟨gen,c6⟩:=nM (l.gen);have c4:=h.c4;rw[←c8]at c4 t;rw[←c6]at g3;rw[←c5]at I;rw[←D]at t I;have l4:u≤sz:=t;have l3:H+sz≤16384:=by omega
 have f':Hid (u=l.used∧H=l.first∧sz=l.size∧gen=l.gen):=Ld ⟨c8,c5,D,c6⟩;have k6:Hid (H+sz≤p.size):=Ld I
 have g5:Hid (∀W:World,W.heap[d]?=w.heap[d]?→W.cell? ⟨d,0,none⟩=some (.pointer (some ⟨g,0,none⟩))∧W.cell? ⟨d,1,none⟩=some (.int .i64 H)∧W.cell? ⟨d,2,none⟩=some (.int .i64 sz)∧W.cell? ⟨d,3,none⟩=some (.int .u32 gen)):=Ld fun W hW=>by
  have hb:Lg W d g l p.size:=⟨hW.trans h.blk,h.ok⟩
  rw[c5,D,c6];exact⟨hb.c0,hb.c1,hb.c2,hb.c3⟩
 have R:=Ld h.blk.lt;obtain⟨WL,i1⟩:=nM (az p l);rw[←i1];have g9:Hid (WL=(if(wipeN p l (sz-u)).2.2≠0 then((wipeN p l (sz-u)).1,(wipeN p l (sz-u)).2.2)else if(wipeN p l (sz-u)).2.1=true then((wipeN p l (sz-u)).1.doSync,(wipeN p l (sz-u)).1.scode)else((wipeN p l (sz-u)).1,0))):=Ld (by rw[i1,D,c8];rfl);clear h hD I t c8 c5 D c6 l2 i1
 go_enter func97,ntmps97
 go_wp2_with fail
 go_loopw [3,4] (fun wd i wr=>∃(k:Nat) (i0:Nat) (b:Bool) (v':Value),Hid (i0=u+k)∧i0≤sz∧i=.int .i64 i0∧wd=.bool b∧Hid (b=(wipeN p l k).2.1)∧Hid ((wipeN p l k).2.2=0)∧Hid (cI w base g bs bf v (wipeN p l k).1 wr v')) (fun _ i _=>sz-(intOf i).toNat)
 case atStart=>exact⟨0,u,false,v,Ld rfl,l4,rfl,rfl,Ld rfl,Ld rfl,i9⟩
 case round=>
  clear i9 c4;obtain⟨k,i,b,v',HI,hi,rfl,rfl,HB,HE,L⟩:=hrel;have b3:=g5.out wr (L.out.fr.block d R.out b9.out);have l7:Hid (wr.heap[d]?=w.heap[d]?):=Ld (L.out.fr.block d R.out b9.out);have c2:=b3.2.2.1;have j8:=b3.1;have j9:=b3.2.1;have HC:=Ld b3;clear b3;have q0:∀p:HW (aa wr),p.w.cell? ⟨d,0,none⟩=some (.pointer (some ⟨g,0,none⟩)):=fun p=>p.h.cell_ j8
  have q1:∀p:HW (aa wr),p.w.cell? ⟨d,1,none⟩=some (.int .i64 H):=fun p=>p.h.cell_ j9
  clear j8 j9
  by_cases l9:i<sz
  ·have l':(i:Int)<(sz:Int):=by omega
   obtain⟨a,ha⟩:=nM (H+i);have e1:(H:Int)+(i:Int)=(a:Int):=by omega
   have e2:IntKind.i64.wrap (a:Int)=(a:Int):=IntWalk.i64_in _ (by omega);have HA:Hid (a=l.first+l.used+k):=Ld (by have:=HI.out;have:=f'.out;omega);obtain⟨q,hq⟩:=nM ((wipeN p l k).1);have HQ:=Ld hq;rw[←hq]at L;have k7:Hid (q.size=p.size):=Ld (by rw[hq];exact eV p l k);obtain⟨s,hs⟩:=nM (q.rget (a:Int));have j3:Hid (s=sct (wipeN p l k).1 l k):=Ld (by rw[hs,←hq,sct,HA.out]);have HS:Hid (aJ s):=Ld (by rw[hs];exact L.out.dk.ok.rget _);have j2:Hid (q.rget (a:Int)=s):=Ld hs.symm;have k8:Hid (q.within (a:Int)=true):=Ld (by unfold DP.within;have:=k7.out;have:=k6.out;exact decide_eq_true (by omega));have j1:Hid (q.rcode (a:Int)=0):=Ld (by unfold DP.rcode;rw[k8.out,if_pos rfl]);have b7:(af s).size=64:=by rw[au,HS.out.1]
   have U:=Ld b7;have l5:=Ld ha;clear b7 hq hs ha
   go_wp2_with fail
   apply me (α:=Nat) (fun b f=>aa wr f∧ab f b 68 (af s))
   case h1=>
    intro K' k';refine cD (aa wr) (.take 0 (.take 1 (.take 2 (.take 3 (.take 4 (.take 5 (.take 6 (.take 7 (.take 8 (.take 9 (.two 10 (.take 11 (.take 12 (.take 13 (.act 14 (.act 15 (.take 16 .done)))))) 14 (.act 10 (.take 11 (.take 12 (.take 13 (.act 15 (.take 16 .done))))))))))))))))) (by kernel_rfl) (by kernel_rfl) (aa.dr (aa.refl wr)) (fun c7=>?_)
    iterate 10 (refine aB (o:=.mk ..) rfl (fun K c=>?_);go_simp;refine c _ ?_;clear c K)
    refine⟨?_,?_⟩
    ·refine dX (o:=.mk ..) rfl (fun K c=>?_) (.inl rfl);go_simp;refine(jP (L.out.dk.new (aa.dr (aa.refl wr))) (a:Int)).mono ?_;rintro e w1 ⟨rfl,O⟩;rw[j2.out,j1.out,bY];have F:Hid (aa wr w1):=Ld (aa.tr (aa.dr (aa.refl wr)) O);clear O;go_simp;refine c.out _ _ F.out ?_;clear c K
     iterate 3 (refine aB (o:=.mk ..) rfl (fun K c=>?_);go_simp;refine c _ ?_;clear c K)
     refine fB (o:=.mk ..) rfl rfl rfl bE ?_;intro b8 w2 c3 c1 Y;have g4:Hid (wr.heap.size≤b8):=Ld (by have:=F.out.size;omega);refine⟨F.out.tr Y,?_⟩;clear c3;simp only[Act.put,bK,bM,bO];refine dP (o:=.mk ..) (cs:=af s) rfl rfl (.tmp 5) (.tmp 32) rfl (by rw[U.out];rfl) rfl rfl c1 (by rw[U.out];rfl) (bw _) ?_;intro f N i';have B:aa wr f:=(F.out.tr Y).fr i' (fun k hk=>by have:=g4.out;omega);refine⟨B,?_⟩;simp only[Act.put,bK,bM,bO]
     iterate 1 (refine aB (o:=.mk ..) rfl (fun K c=>?_);go_simp;refine c _ ?_;clear c K)
     refine bq ?_;exact k'.out b8 f ⟨B,N⟩
    ·refine fL (o:=.mk ..) rfl rfl rfl bE ?_;intro b8 w2 c3 c1 Y;have g6:Hid (aa wr w2):=Ld ((aa.dr (aa.refl wr)).tr Y);have k1:=Ld c1;have g4:Hid (wr.heap.size≤b8):=Ld (by rw[c3];exact Nat.le_refl _);refine⟨g6.out,?_⟩;clear c3 c1 Y;simp only[Act.put,bK,bM,bO];refine aE (o:=.mk ..) rfl (fun K c=>?_) (.inl rfl);go_simp;refine(jP (L.out.dk.new g6.out) (a:Int)).mono ?_;rintro e w1 ⟨rfl,O⟩;rw[j2.out,j1.out,bY];have k0:=Ld (O.blk k1.out);have F:Hid (aa wr w1):=Ld (g6.out.tr O);clear O;go_simp;refine c.out _ _ F.out ?_;clear c K
     iterate 3 (refine aB (o:=.mk ..) rfl (fun K c=>?_);go_simp;refine c _ ?_;clear c K)
     refine dP (o:=.mk ..) (cs:=af s) rfl rfl (.tmp 5) (.tmp 32) rfl (by rw[U.out];rfl) rfl rfl k0.out (by rw[U.out];rfl) (bw _) ?_;intro f N i';have B:aa wr f:=F.out.fr i' (fun k hk=>by have:=g4.out;omega);refine⟨B,?_⟩;simp only[Act.put,bK,bM,bO]
     iterate 1 (refine aB (o:=.mk ..) rfl (fun K c=>?_);go_simp;refine c _ ?_;clear c K)
     refine bq ?_;exact k'.out b8 f ⟨B,N⟩
   case h2=>
    rintro b8 f ⟨B,N⟩;have M:=Ld B;have k2:=Ld N;clear B N q0 q1 c2;have k3:=Ld (M.out.cell_ HC.out.2.2.2)
    have j0:Hid (∀W,aa f W→Rd (fun _=>True) W 1 (some ⟨b8,0,none⟩) 4 (am (s.take 4))):=Ld (fun W hN=>by
     have h:=Rd.ofBlk (p:=fun _=>True) (hN.blk k2.out) 1 64 (by rw[U.out]) trivial;rw[dR]at h
     exact h.take (by omega))
    have q3:∀p:HW (aa f),p.w.cell? ⟨d,3,none⟩=some (.int .u32 gen):=fun p=>p.h.cell_ k3.out
    have kg:IntKind.u64.wrap (gen:Int)=(gen:Int):=by have:=g3.out;rw[IntKind.wrap_u64];omega
    obtain⟨v1,i5⟩:=nM (aQ (s.take 4))
    have X1:Hid ((Rs.mk (s.take 4) 0).num 4=(v1,⟨[],0⟩)):=Ld (by
     rw[oz (by rw[List.length_take,HS.out.1];decide),List.take_of_length_le (by rw[List.length_take,HS.out.1];decide),List.drop_of_length_le (by rw[List.length_take,HS.out.1];decide),i5])
    have j4:=Ld i5;have i3:(gen:Int)<18446744073709551616:=by have:=g3.out;omega
    have k5:Hid (d<f.heap.size):=Ld (by have:=R.out;have:=L.out.fr.size;have:=M.out.size;omega);clear i5 i3
    by_cases t1:v1=gen
    ·have d1:(v1:Int)=(gen:Int):=by omega
     have T1:=Ld t1;clear t1
     go_wp2_with fail
     refine ag (aa f) [(true,0),(true,3),(true,4),(true,5),(true,6),(true,7),(false,1),(false,2),(true,8),(true,9)] (by kernel_rfl) (by kernel_rfl) (aa.dr (aa.refl f)) (fun c7=>?_)
     iterate 6 (refine ae (o:=.mk ..) rfl (fun K c=>?_);go_simp;refine c _ ?_;clear c K)
     refine aj (o:=.mk ..) rfl (fun K c=>?_) (.inl rfl);go_simp;refine(iN (some ⟨b8,0,none⟩) 4 64 (s.take 4) f.drew (j0.out _ (aa.dr (aa.refl f))) (fun x hx=>HS.out.2 x (List.mem_of_mem_take hx)) (by omega)).mono ?_;rintro e w4 ⟨r,rfl,b0,Z,hr⟩;have T:=Ld b0;have S:Hid (aa f w4):=Ld ((aa.dr (aa.refl f)).tr Z);have g7:Hid (f.heap.size≤r):=Ld hr;clear b0 Z hr;go_simp;refine c.out _ _ (fun _=>S.out) ?_;clear c K;refine aj (o:=.mk ..) rfl (fun K c=>?_) (.inl rfl);go_simp;refine(di T.out 4 (by omega)).mono ?_;rintro e J ⟨rfl,-,X⟩;rw[X1.out];dsimp only;have G:Hid (aa f J):=Ld (S.out.fr X (fun k hk=>by have:=g7.out;omega));clear X;go_simp;refine c.out _ _ (fun _=>G.out) ?_;clear c K
     iterate 2 (refine ae (o:=.mk ..) rfl (fun K c=>?_);go_simp;refine c _ ?_;clear c K)
     refine ao ?_;have P:Hid (cI w base g bs bf v q J v'):=Ld (L.out.new (M.out.tr G.out));clear q3 T kg d1;have HG:Hid (aQ ((sct (wipeN p l k).1 l k).take 4)=l.gen):=Ld (by rw[←j3.out,←j4.out,T1.out,f'.out.2.2.2]);have b':=Ld (kB HE.out HG.out);have c':Hid (J.cell? ⟨d,0,none⟩=some (.pointer (some ⟨g,0,none⟩))∧J.cell? ⟨d,1,none⟩=some (.int .i64 H)):=Ld ⟨G.out.cell_ (M.out.cell_ HC.out.1),G.out.cell_ (M.out.cell_ HC.out.2.1)⟩;have q0:∀p:HW (mi d (.pointer (some ⟨g,0,none⟩)) (.int .i64 H)),p.w.cell? ⟨d,0,none⟩=some (.pointer (some ⟨g,0,none⟩)):=fun p=>p.h.1
     have q1:∀p:HW (mi d (.pointer (some ⟨g,0,none⟩)) (.int .i64 H)),p.w.cell? ⟨d,1,none⟩=some (.int .i64 H):=fun p=>p.h.2
     have V:=Ld (iY (P.out.dk.new (aa.dr (aa.refl J))) (a:Int) aX);obtain⟨wc,i6⟩:=nM (q.wcode (a:Int));rw[←i6]at V;have j5:=Ld i6;obtain⟨q2,i4⟩:=nM (q.doWrite (a:Int) aw);rw[←i4]at V;have j':=Ld i4;obtain⟨z0,i7⟩:=nM (af aw);rw[←i7]at V;have j7:Hid ((#[.int .u8 0,.int .u8 0,.int .u8 0,.int .u8 0,.int .u8 0,.int .u8 0,.int .u8 0,.int .u8 0,.int .u8 0,.int .u8 0,.int .u8 0,.int .u8 0,.int .u8 0,.int .u8 0,.int .u8 0,.int .u8 0,.int .u8 0,.int .u8 0,.int .u8 0,.int .u8 0,.int .u8 0,.int .u8 0,.int .u8 0,.int .u8 0,.int .u8 0,.int .u8 0,.int .u8 0,.int .u8 0,.int .u8 0,.int .u8 0,.int .u8 0,.int .u8 0,.int .u8 0,.int .u8 0,.int .u8 0,.int .u8 0,.int .u8 0,.int .u8 0,.int .u8 0,.int .u8 0,.int .u8 0,.int .u8 0,.int .u8 0,.int .u8 0,.int .u8 0,.int .u8 0,.int .u8 0,.int .u8 0,.int .u8 0,.int .u8 0,.int .u8 0,.int .u8 0,.int .u8 0,.int .u8 0,.int .u8 0,.int .u8 0,.int .u8 0,.int .u8 0,.int .u8 0,.int .u8 0,.int .u8 0,.int .u8 0,.int .u8 0,.int .u8 0]:Array Value)=z0):=Ld (by rw[i7];rfl);clear i6 i4 i7
     by_cases b1:wc=0
     ·have hz:=b1;subst b1;clear hz
      go_wp2_with fail
      refine ag (mi d (.pointer (some ⟨g,0,none⟩)) (.int .i64 H)) [(true,0),(true,1),(true,2),(true,3),(true,4),(true,5),(true,6),(true,7),(true,8),(true,9),(true,10),(false,11),(true,12)] (by kernel_rfl) (by kernel_rfl) ⟨(aa.dr (aa.refl J)).cell_ c'.out.1,(aa.dr (aa.refl J)).cell_ c'.out.2⟩ (fun c7=>?_)
      iterate 11 (refine ae (o:=.mk ..) rfl (fun K c=>?_);go_simp;refine c _ ?_;clear c K)
      refine aj (o:=.mk ..) rfl (fun K c=>?_) (.inl rfl);go_simp;rw[j7.out];refine V.out.mono ?_;rintro e w6 ⟨rfl,v2,y,z,C⟩;have E:Hid (cI w base g bs bf v q2 w6 v2):=Ld ((P.out.new (aa.dr (aa.refl J))).tr ⟨y,z,C⟩)
      have d':Hid (mi d (.pointer (some ⟨g,0,none⟩)) (.int .i64 H) w6):=Ld (by
       have:=g5.out w6 (E.out.fr.block d R.out b9.out)
       exact⟨this.1,this.2.1⟩)
      clear y z C;rw[bY];go_simp;refine c.out _ _ (fun _=>d'.out) ?_;clear c K
      iterate 1 (refine ae (o:=.mk ..) rfl (fun K c=>?_);go_simp;refine c _ ?_;clear c K)
      refine ao ?_;clear q0 q1;have m:Hid (wipeN p l (k+1)=(q2,true,0)):=Ld (by rw[b'.out,←HQ.out,←HA.out,←j5.out,←j'.out,if_pos rfl]);have HJ:Hid (i+1=u+(k+1)):=Ld (by have:=HI.out;omega)
      go_wp2_with fail
      go_roundw
      case rel=>exact⟨k+1,i+1,true,v2,HJ,by omega,by go_num,rfl,Ld (by rw[m.out]),Ld (by rw[m.out]),Ld (by rw[m.out];exact E.out)⟩
      case measure=>simp[intOf];omega
     ·have j6:Hid (dG wc=.iface 38 (.int .i64 wc)):=Ld (bC b1);have c9:=Ld b1;clear b1
      go_wp2_with fail
      refine ag (mi d (.pointer (some ⟨g,0,none⟩)) (.int .i64 H)) [(true,0),(true,1),(true,2),(true,3),(true,4),(true,5),(true,6),(true,7),(true,8),(true,9),(true,10),(false,11),(true,12)] (by kernel_rfl) (by kernel_rfl) ⟨(aa.dr (aa.refl J)).cell_ c'.out.1,(aa.dr (aa.refl J)).cell_ c'.out.2⟩ (fun c7=>?_)
      iterate 11 (refine ae (o:=.mk ..) rfl (fun K c=>?_);go_simp;refine c _ ?_;clear c K)
      refine aj (o:=.mk ..) rfl (fun K c=>?_) (.inl rfl);go_simp;rw[j7.out];refine V.out.mono ?_;rintro e w6 ⟨rfl,v2,y,z,C⟩;have E:Hid (cI w base g bs bf v q2 w6 v2):=Ld ((P.out.new (aa.dr (aa.refl J))).tr ⟨y,z,C⟩)
      have d':Hid (mi d (.pointer (some ⟨g,0,none⟩)) (.int .i64 H) w6):=Ld (by
       have:=g5.out w6 (E.out.fr.block d R.out b9.out)
       exact⟨this.1,this.2.1⟩)
      clear y z C;rw[j6.out];go_simp;refine c.out _ _ (fun _=>d'.out) ?_;clear c K
      iterate 1 (refine ae (o:=.mk ..) rfl (fun K c=>?_);go_simp;refine c _ ?_;clear c K)
      refine ao ?_;clear q0 q1
      have m:Hid (WL=(q2,wc)):=Ld (by
       obtain⟨j,hj⟩:∃j,sz-u=k+1+j:=⟨sz-u-(k+1),by have:=HI.out;omega⟩
       have e1:wipeN p l (k+1)=(q2,(wipeN p l k).2.1,wc):=by rw[b'.out,←HQ.out,←HA.out,←j5.out,←j'.out,if_neg c9.out]
       have e2:wipeN p l (sz-u)=(q2,(wipeN p l k).2.1,wc):=by
        rw[hj,mL (by rw[e1];exact c9.out),e1]
       rw[g9.out,e2,if_pos c9.out])
      go_wp2_with fail
      go_ret;rw[m.out];exact⟨(congrArg Ending.returned j6.out).symm,v2,E.out⟩
    ·have d1:¬((v1:Int)=(gen:Int)):=by omega
     have T1:=Ld t1;clear t1
     go_wp2_with fail
     refine ag (aa f) [(true,0),(true,3),(true,4),(true,5),(true,6),(true,7),(false,1),(false,2),(true,8),(true,9)] (by kernel_rfl) (by kernel_rfl) (aa.dr (aa.refl f)) (fun c7=>?_)
     iterate 6 (refine ae (o:=.mk ..) rfl (fun K c=>?_);go_simp;refine c _ ?_;clear c K)
     refine aj (o:=.mk ..) rfl (fun K c=>?_) (.inl rfl);go_simp;refine(iN (some ⟨b8,0,none⟩) 4 64 (s.take 4) f.drew (j0.out _ (aa.dr (aa.refl f))) (fun x hx=>HS.out.2 x (List.mem_of_mem_take hx)) (by omega)).mono ?_;rintro e w4 ⟨r,rfl,b0,Z,hr⟩;have T:=Ld b0;have S:Hid (aa f w4):=Ld ((aa.dr (aa.refl f)).tr Z);have g7:Hid (f.heap.size≤r):=Ld hr;clear b0 Z hr;go_simp;refine c.out _ _ (fun _=>S.out) ?_;clear c K;refine aj (o:=.mk ..) rfl (fun K c=>?_) (.inl rfl);go_simp;refine(di T.out 4 (by omega)).mono ?_;rintro e J ⟨rfl,-,X⟩;rw[X1.out];dsimp only;have G:Hid (aa f J):=Ld (S.out.fr X (fun k hk=>by have:=g7.out;omega));clear X;go_simp;refine c.out _ _ (fun _=>G.out) ?_;clear c K
     iterate 2 (refine ae (o:=.mk ..) rfl (fun K c=>?_);go_simp;refine c _ ?_;clear c K)
     refine ao ?_;have P:Hid (cI w base g bs bf v q J v'):=Ld (L.out.new (M.out.tr G.out));clear q3 T kg;have HG:Hid (¬aQ ((sct (wipeN p l k).1 l k).take 4)=l.gen):=Ld (by rw[←j3.out,←j4.out,←f'.out.2.2.2];exact T1.out);have g8:=Ld (jo HE.out HG.out);have HJ:Hid (i+1=u+(k+1)):=Ld (by have:=HI.out;omega)
     go_wp2_with fail
     go_roundw
     case rel=>exact⟨k+1,i+1,b,v',HJ,by omega,by go_num,rfl,Ld (by rw[g8.out];exact HB.out),Ld (by rw[g8.out];exact HE.out),Ld (by rw[g8.out,←HQ.out];exact P.out)⟩
     case measure=>simp[intOf];omega
  ·have l1:¬(i:Int)<(sz:Int):=by omega
   have k9:k=sz-u:=by have:=HI.out;omega
   subst k9;clear q0 q1;obtain⟨q,hq⟩:=nM ((wipeN p l (sz-u)).1);rw[←hq]at L;have HQ:=Ld hq;have c0:=HC.out.1;clear hq
   cases b with
   |false=>
    have m:Hid (WL=(q,0)):=Ld (by rw[g9.out,if_neg (by rw[HE.out];simp),if_neg (by rw[←HB.out];simp),←HQ.out])
    go_wp2_with fail
    go_ret;rw[m.out];exact⟨(congrArg Ending.returned bY).symm,v',L.out⟩
   |true=>
    have m:Hid (WL=(q.doSync,q.scode)):=Ld (by rw[g9.out,if_neg (by rw[HE.out];simp),if_pos HB.out.symm,←HQ.out])
    go_wp2_with fail
    refine(jV L.out.dk).mono ?_;rintro e w6 ⟨rfl,v2,y,z,C⟩;have E:Hid (cI w base g bs bf v q.doSync w6 v2):=Ld (L.out.tr ⟨y,z,C⟩);clear y z C;obtain⟨ev,i2⟩:=nM (dG q.scode);have k4:=Ld i2;rw[←i2];clear i2
    go_wp2_with fail
    go_ret;rw[m.out];exact⟨congrArg Ending.returned k4.out,v2,E.out⟩
def bP(first size gen:Nat):LG:=⟨first,size,gen,0,List.replicate 16 0,false⟩
theorem eS{first size gen n:Nat}(h:first+size≤n)(b:gen<4294967296):(bP first size gen).Ok n:=⟨h,b,Nat.zero_le _,rfl,fun x c=>by have:=List.eq_of_mem_replicate c;omega⟩
theorem vQ{w:World}{f base bs r:Nat}{v:Value}{p:DP}(i:Dk w base f bs r v p)(a b c:Nat)(H:1≤b)(d:a+b≤p.size)(s:c<4294967296)(j:c≠0):
    Calls prog 95 #[.pointer (some ⟨f,0,none⟩),.int .i64 a,.int .i64 b,.int .u32 c] w fun e w'=>e=.returned (.tuple #[.pointer (some ⟨w.heap.size,0,none⟩),.nilIface])∧Lg w' w.heap.size f (bP a b c) p.size∧aa w w':=by
 have t:=Ld i;have q:=i.ok.s2;obtain⟨n,o⟩:=nM (p.size);have u:Hid (∀W,Dk W base f bs r v p→Calls prog 90 #[.pointer (some ⟨f,0,none⟩)] W fun e w'=>e=.returned (.int .i64 n)∧W=w'):=Ld fun W h=>by rw[o];exact uL h
 have g:Hid ((bP a b c).Ok p.size):=Ld (eS d s);rw[←o]at d q;obtain⟨m,E⟩:=nM (n-a);have F:(n:Int)-(a:Int)=(m:Int):=by omega
 have G:(b:Int)≤(m:Int):=by omega
 have B:(a:Int)<(n:Int):=by omega
 have z:1≤(b:Int):=by omega
 have y:0≤(a:Int):=by omega
 have D:((c:Int)==0)=false:=by simp;omega
 have C:¬(c:Int)=0:=by omega
 clear o i d E s j
 go_enter func95,ntmps95
 go_wp2_with (go_at_call 90;refine(u.out _ t.out).mono ?_;rintro e w' ⟨rfl,rfl⟩)
 go_ret2
 refine⟨rfl,⟨?_,g.out⟩,aa.al (aa.refl w) _⟩;exact ab.new _ _ _
theorem EC:aW prog 98 33 1 24:=aW.mk' (z:=.slice none 0 0) underlying98 (by kernel_rfl) rfl (by decide)
structure dW(B:Nat)(w:World)(v:Value)(L:List (List Int)):Prop where
 row:∃vs:List Value,w.ownsRow B 33 1 v L.length vs∧∀(i:Nat) l,L[i]?=some l→∃A c,vs[i]?=some (.slice A l.length c)∧l.length≤c∧c≤maxLen∧aU l∧Rd (RB B w) w 1 A l.length (am l)
theorem Rd.frT{S:Nat→Prop}{B:Nat}{w w':World}{A:Option Addr}{n:Nat}{xs:List Value}(h:Rd (RB B w) w 1 A n xs)(hF:Fr S w w')(hS:∀k,S k→B≤k→¬aO 5 w k):Rd (RB B w') w' 1 A n xs:=
 (h.fr hF (fun k b c=>hS k c b.1 b.2)).imp (fun k b=>⟨b.1,b.2.fr hF (fun c=>hS k c b.1 b.2)⟩)
theorem dW.fr{S:Nat→Prop}{B:Nat}{w w':World}{v:Value}{L:List (List Int)}(h:dW B w v L)(hF:Fr S w w')(hS:∀k,S k→B≤k→¬aO 5 w k∧¬aO 33 w k):dW B w' v L:=by
 obtain⟨r,d,o⟩:=h.row;refine⟨r,bD d hF (fun k b q=>(hS k q (ak d k b).1).2 (cJ d b)),fun i l hl=>?_⟩;obtain⟨A,c,h1,h2,f,g,j⟩:=o i l hl;exact⟨A,c,h1,h2,f,g,j.frT hF (fun k b m=>(hS k b m).1)⟩
theorem dW.new{B:Nat}{w w':World}{v:Value}{L:List (List Int)}(h:dW B w v L)(b:aa w w'):dW B w' v L:=h.fr (S:=ia) (b.toFr _) (fun _ x=>x.elim)
theorem dW.base{B d:Nat}{w:World}{v:Value}{L:List (List Int)}(h:dW B w v L)(f:d≤B):dW d w v L:=by
 obtain⟨r,g,q⟩:=h.row;refine⟨r,iR g (fun k b=>Nat.le_trans f (ak g k b).1),fun i l hl=>?_⟩;obtain⟨A,c,h1,h2,j,m,o⟩:=q i l hl;exact⟨A,c,h1,h2,j,m,o.imp (fun k b=>⟨Nat.le_trans f b.1,b.2⟩)⟩
theorem dW.nil(B:Nat)(w:World):dW B w (.slice none 0 0) []:=⟨[],⟨rfl,.inl ⟨rfl,rfl⟩⟩,fun i l hl=>by simp at hl⟩
theorem dW.push{B:Nat}{w w':World}{A g A2:Option Addr}{m c j c2:Nat}{L:List (List Int)}{l:List Int}{d:List Value}(b:w.ownsRow B 33 1 (.slice A m c) m d∧∀(i:Nat) l,L[i]?=some l→∃A c,d[i]?=some (.slice A l.length c)∧l.length≤c∧c≤maxLen∧aU l∧Rd (RB B w) w 1 A l.length (am l))(E:m=L.length)
    (F:w'.ownsRow B 33 1 (.slice g (m+1) j) (m+1) (d++[.slice A2 l.length c2])) (hF:Fr (fun k=>(Value.slice A m c).ownBlock=some k) w w') (q:l.length≤c2∧c2≤maxLen) (C:aU l) (z:Rd (RB B w) w 1 A2 l.length (am l)):dW B w' (.slice g (m+1) j) (L++[l]):=by
 have o:∀k,(Value.slice A m c).ownBlock=some k→B≤k→¬aO 5 w k:=fun k D _=>aO.not_own b.1 (by decide) D
 refine⟨d++[.slice A2 l.length c2],by rw[List.length_append,List.length_singleton,←E];exact F,fun i r hl=>?_⟩;have G:d.length=m:=by have:=b.1.1;omega
 rcases Nat.lt_or_ge i L.length with hi|hi
 ·rw[List.getElem?_append_left hi]at hl;obtain⟨s,t,h1,h2,u,v,y⟩:=b.2 i r hl;exact⟨s,t,by rw[List.getElem?_append_left (by omega)];exact h1,h2,u,v,y.frT hF o⟩
 ·rw[List.getElem?_append_right hi]at hl
  have f:i-L.length=0:=by
   have:=(List.getElem?_eq_some_iff.1 hl).1;simp at this;omega
  rw[f]at hl;obtain rfl:l=r:=by simpa using hl
  exact⟨A2,c2,by rw[List.getElem?_append_right (by omega),show i-d.length=0 by omega];rfl,q.1,q.2,C,z.frT hF o⟩
theorem ox{p:DP}{l:LG}{b:List Int}(h:nextL p l=some b):l.Next p∧b=l.body p:=by
 unfold nextL at h;split at h
 ·next c=>injection h with h;exact⟨c,h.symm⟩
 ·cases h
theorem qM{p:DP}(d:p.Ok){l:LG}{b:List Int}(h:nextL p l=some b):l.used+1≤(l.step b).used:=by
 obtain⟨c,rfl⟩:=ox h;have:=c.pos;show l.used+1≤l.used+ay (l.body p).length;rw[LG.body_len d c.pos];omega
def gu(w:World)(b base bs f:Nat)(v:Value)(l:LG)(r:DP×Int)(n:Nat)(e:Ending)(w':World):Prop:=
 if r.2=0 then ∃c d,e=.returned (.tuple #[.pointer (some ⟨c,0,none⟩),.nilIface])∧w.heap.size≤c∧Lg w' c b l n∧cI w base b bs f v r.1 w' d
 else ∃d,e=.returned (.tuple #[.pointer none,dG r.2])∧cI w base b bs f v r.1 w' d
theorem pj(p:DP)(l:LG):(az p l).1.size=p.size:=by
 unfold az;dsimp only;split
 ·exact eV _ _ _
 ·split
  ·exact(DP.doSync_size _).trans (eV _ _ _)
  ·exact eV _ _ _
theorem oh{w:World}{q base bs E:Nat}{v:Value}{p:DP}(G:Dk w base q bs E v p)(a b c:Nat)(J:1≤b)(t:a+b≤p.size)(L:c<4294967296)(u:c≠0):
    Calls prog 58 #[.pointer (some ⟨q,0,none⟩),.int .i64 a,.int .i64 b,.int .u32 c] w (gu w q base bs E v (bP a b c) (az p (bP a b c)) p.size):=by
 have O:=Ld (vQ G a b c J t L u);have B:=Ld G;obtain⟨r,H⟩:=nM (az p (bP a b c));rw[←H];have P:=Ld H;clear G J t L u H
 go_enter func58,ntmps58
 go_wp2_with fail
 refine O.out.mono ?_;rintro e S ⟨rfl,i,s⟩;obtain⟨F,y⟩:=nM (w.heap.size);rw[←y]at i⊢;have D:Hid (w.heap.size≤F):=Ld (by omega);have f:=Ld i;have g:=Ld s;clear y i s
 go_wp2_with fail
 refine(ug f.out (B.out.new g.out)).mono ?_;rintro e N ⟨M,I,d⟩;rw[←P.out]at M d;subst M;have m:Hid (cI w base q bs E v r.1 N I):=Ld ((cI.same B.out g.out).tr d);have o:Hid (Lg N F q (bP a b c) p.size):=Ld (f.out.fr d.fr (eJ (B.out.new g.out) f.out));clear d
 by_cases h0:r.2=0
 ·have z:=Ld h0;rw[h0,bY];clear h0
  go_wp2_with fail
  go_ret2
  unfold gu;rw[if_pos z.out];exact⟨F,I,rfl,D.out,o.out,m.out⟩
 ·have z:=Ld h0;obtain⟨R,j⟩:=nM (r.2);have C:=Ld j;rw[bC h0,←j];clear h0 j
  go_wp2_with fail
  go_ret2
  unfold gu;rw[if_neg z.out,bC z.out,←C.out];exact⟨I,rfl,m.out⟩
theorem qG{p:DP}(d:p.Ok){l:LG}{k:Nat}(h:(runs p l k).2.length=k∧k≤(runs p l k).1.used){b:List Int}(c:nextL p (runs p l k).1=some b):(runs p l (k+1)).2.length=k+1∧k+1≤(runs p l (k+1)).1.used:=by
 rw[fa c];have:=qM d c;exact⟨by simp[h.1],by dsimp only;omega⟩
theorem sa{p:DP}{l:LG}{k:Nat}(c:k≤l.size+1)(h:nextL p (runs p l k).1=none):runL p l=runs p l k:=by
 obtain⟨j,b⟩:∃j,l.size+1=k+j:=⟨l.size+1-k,by omega⟩
 unfold runL;rw[b,iU h j]
structure FB(w:World)(gl gd:Nat)(p:DP)(l:LG)(k:Nat)(out b:Value)(ok:Bool)(wr:World):Prop where
 new:aa w wr
 recs:dW w.heap.size wr out (runs p l k).2
 len:(runs p l k).2.length=k∧k≤(runs p l k).1.used
 yes:ok=true→∃bd A c,nextL p (runs p l k).1=some bd∧b=.slice A bd.length c∧bd.length≤c∧c≤maxLen∧aU bd∧Rd (RB w.heap.size wr) wr 1 A bd.length (am bd)∧Lg wr gl gd (runs p l (k+1)).1 p.size
 no:ok=false→nextL p (runs p l k).1=none∧Lg wr gl gd (runs p l k).1 p.size
theorem zP{w wr w':World}{f m:Nat}{p:DP}{l:LG}{k:Nat}{out:Value}{e:Ending}(z:w.heap.size≤f)(o:aa w wr)(b:Lg wr f m (runs p l k).1 p.size)(t:dW w.heap.size wr out (runs p l k).2)(hl:(runs p l k).2.length=k∧k≤(runs p l k).1.used)
    (h:sK (runs p l k).1 (nextL p (runs p l k).1) wr f m p.size e w'):∃A n c ok,e=.returned (.tuple #[.slice A n c,.bool ok])∧FB w f m p l k out (.slice A n c) ok w':=by
 cases hn:nextL p (runs p l k).1 with
 |none=>
  rw[hn]at h;obtain⟨q,d⟩:=h;exact⟨none,0,0,false,q,o.tr d,t.new d,hl,fun h=>by(cases h),fun _=>⟨hn,b.new d⟩⟩
 |some r=>
  rw[hn]at h;obtain⟨A,c,q,h1,h2,u,v,y,s⟩:=h;refine⟨A,r.length,c,true,q,o.fr s (fun j g=>by(have i:j=f:=g;omega)),t.fr s (fun j g _=>?_),hl,fun _=>⟨r,A,c,hn,rfl,h1,h2,u,v.imp (fun j g=>⟨Nat.le_trans o.size g.1,g.2⟩),by rw[fa hn];exact y⟩,fun h=>by(cases h)⟩;have i:j=f:=g;rw[i];exact⟨aO.not_blk b.blk (by decide),aO.not_blk b.blk (by decide)⟩
def lw(w:World)(b base bs g:Nat)(v:Value)(r:LG×List (List Int))(x:DP×Int)(n:Nat)(e:Ending)(w':World):Prop:=
 if x.2=0 then ∃d A c f,e=.returned (.tuple #[.pointer (some ⟨d,0,none⟩),.slice A r.2.length c,.nilIface])∧w.heap.size≤d∧Lg w' d b r.1 n∧dW w.heap.size w' (.slice A r.2.length c) r.2∧cI w base b bs g v x.1 w' f
 else ∃f,e=.returned (.tuple #[.pointer none,.slice none 0 0,dG x.2])∧cI w base b bs g v x.1 w' f
theorem xS{w:World}{C base bs bf:Nat}{v:Value}{p:DP}(hD:Dk w base C bs bf v p)(hL:dp 4 2 w)(a b c:Nat)(hb:1≤b)(O:a+b≤p.size)(hc:c<4294967296)(b8:c≠0):
    Calls prog 47 #[.pointer (some ⟨C,0,none⟩),.int .i64 a,.int .i64 b,.int .u32 c] w (lw w C base bs bf v (runL p (bP a b c)) (az p (runL p (bP a b c)).1) p.size):=by
 have HA:=Ld (vQ hD a b c hb O hc b8);have E:=Ld hD;have HL:=Ld hL;have f:Hid (p.Ok∧(bP a b c).Ok p.size):=Ld ⟨hD.ok,eS O hc⟩;have c':b≤16384:=by have:=hD.ok.s2;omega
 obtain⟨l,hl⟩:=nM (bP a b c);have c5:Hid (l.size=b):=Ld (by rw[hl];rfl);rw[←hl]at HA f⊢;obtain⟨r,hr⟩:=nM (runL p l);obtain⟨x,hx⟩:=nM (az p r.1);rw[←hr,←hx];have HR:=Ld hr;have HX:=Ld hx;clear hD hb O hc b8 hr hx hl hL
 go_enter func47,ntmps47
 go_wp2_with fail
 refine HA.out.mono ?_;rintro e w1 ⟨rfl,N,b1⟩;obtain⟨M,b9⟩:=nM (w.heap.size);rw[←b9]at N⊢;have G:Hid (w.heap.size≤M):=Ld (by omega);have V:=Ld N;have I:=Ld b1;clear b9 N b1
 go_wp2_with fail
 refine(tp (l:=(runs p l 0).1) V.out (E.out.new I.out) (HL.out.new I.out)).mono ?_;intro e w2 h2;obtain⟨A2,n2,c2,g8,rfl,hI⟩:=zP (out:=.slice none 0 0) (k:=0) (l:=l) G.out I.out V.out (dW.nil _ _) ⟨rfl,Nat.zero_le _⟩ h2;have g:=Ld hI;clear hI h2
 go_wp2_with fail
 go_loopw [13,14,15] (fun out b ok wr=>∃(k:Nat) (A:Option Addr) (d:Nat) (B:Option Addr) (n e:Nat) (o:Bool),k≤16384∧out=.slice A k d∧b=.slice B n e∧ok=.bool o∧Hid (FB w M C p l k (.slice A k d) (.slice B n e) o wr)) (fun out _ _ _=>16400-(match out with| .slice _ n _=>n|_=>0))
 case atStart=>exact⟨0,none,0,A2,n2,c2,g8,Nat.zero_le _,rfl,rfl,rfl,g⟩
 case round=>
  clear g;obtain⟨k,A,d,B,n,e,o,hk,rfl,rfl,rfl,g⟩:=hrel
  cases o with
  |true=>
   obtain⟨bd,B',e',hn,g7,h1,h2,h3,h4,h5⟩:=g.out.yes rfl;injection g7 with f' b7 g6;subst f' g6;obtain⟨vs,u,D⟩:=g.out.recs.row;have m:(runs p l k).2.length=k:=g.out.len.1;rw[m]at u;have s:=Ld (And.intro u D);have H:=Ld m;have c8:=Ld hn;have y:=Ld (qG f.out.1 g.out.len hn)
   have R:k+1≤16384:=by
    have h6:=(ca f.out.1 f.out.2 (k+1)).1.used;have h7:=(ca f.out.1 f.out.2 (k+1)).2.1;have:=y.out.2;have:=c5.out;omega
   have c0:=Ld (And.intro h1 h2);have H3:=Ld h3;have H4:=Ld h4;have H5:=Ld h5;have c7:=Ld b7;clear u D m hn h1 h2 h3 h4 h5 b7
   go_wp2_with (refine cg 42 rfl ?_;refine aq EC _ rfl (.tmp 39) (.tmp 41) rfl w.heap.size (.slice A k d) k vs rfl (aa.own (aa.al (aa.refl wr) _) s.out.1) (some ⟨wr.heap.size,0,none⟩) 1 1 [.slice B n e] rfl (Rd.ofBlk (p:=fun _=>True) (ab.new wr 33 #[.slice B n e]) 1 1 rfl trivial) (by simp[Value.oneCell']) (by unfold maxLen;omega) (by omega) (aa.al g.out.new _).size ?_;intro A5 d5 w5 b3 b' d';have F:=Ld b';have c9:=Ld b3;clear b3 b' d')
   have J:Hid (aa w w5):=Ld ((aa.al g.out.new _).fr F.out (fun j hj=>(ak s.out.1 j hj).1));have z:Hid (Lg w5 M C (runs p l (k+1)).1 p.size):=Ld ((H5.out.new (aa.al (aa.refl wr) _)).fr F.out (fun hs=>bG s.out.1 H5.out.blk (by decide) hs))
   have Z:Hid (dW w.heap.size w5 (.slice A5 (k+1) d5) (runs p l (k+1)).2):=Ld (by
    rw[fa c8.out];have hN:aa wr (wr.alloc (.cells #[.slice B n e] 33)):=aa.al (aa.refl wr) _
    exact dW.push (w:=wr.alloc (.cells #[.slice B n e] 33)) ⟨aa.own hN s.out.1,fun i l hl=>by
     obtain⟨A3,c3,g1,g2,g3,g4,g5⟩:=s.out.2 i l hl
     exact⟨A3,c3,g1,g2,g3,g4,g5.frT (S:=ia) (hN.toFr _) (fun _ x=>x.elim)⟩⟩ H.out.symm (by rw[←c7.out];exact c9.out) F.out c0.out H3.out (H4.out.frT (S:=ia) (hN.toFr _) (fun _ x=>x.elim)))
   refine(tp (l:=(runs p l (k+1)).1) z.out (E.out.new J.out) (HL.out.new J.out)).mono ?_;intro ee w6 h6;obtain⟨A6,n6,c6,g9,rfl,b0⟩:=zP (out:=.slice A5 (k+1) d5) G.out J.out z.out Z.out y.out h6;have c4:=Ld b0;clear b0 h6
   go_wp2_with fail
   go_roundw
   case rel=>exact⟨k+1,A5,d5,A6,n6,c6,g9,R,rfl,rfl,rfl,c4⟩
   case measure=>simp;omega
  |false=>
   have T:=g.out.no rfl;have m:(runs p l k).2.length=k:=g.out.len.1
   have R:k≤l.size:=by
    have h6:=(ca f.out.1 f.out.2 k).1.used;have h7:=(ca f.out.1 f.out.2 k).2.1;have:=g.out.len.2;omega
   have L:Hid (r=runs p l k):=Ld (by rw[HR.out];exact sa (by omega) T.1);have H:Hid (r.2.length=k):=Ld (by rw[L.out];exact m);have q:Hid (Lg wr M C r.1 p.size):=Ld (by rw[L.out];exact T.2);clear T m R
   go_wp2_with fail
   refine(ug q.out (E.out.new g.out.new)).mono ?_;rintro ee w2 ⟨he,v2,t⟩;rw[←HX.out]at he t;subst he;have U:Hid (cI w base C bs bf v x.1 w2 v2):=Ld ((cI.same E.out g.out.new).tr t);have X:Hid (Lg w2 M C r.1 p.size):=Ld (q.out.fr t.fr (eJ (E.out.new g.out.new) q.out))
   have Y:Hid (dW w.heap.size w2 (.slice A k d) r.2):=Ld (by
    rw[L.out]
    exact g.out.recs.fr t.fr (fun j hj _=>⟨rq (E.out.new g.out.new) (by decide) (by decide) j hj,rq (E.out.new g.out.new) (by decide) (by decide) j hj⟩))
   clear t
   by_cases h0:x.2=0
   ·have H0:=Ld h0;rw[h0,bY];clear h0
    go_wp2_with fail
    refine bodyPost_ret (v:=.tuple #[.pointer (some ⟨M,0,none⟩),.slice A k d,.nilIface]) (by simp[results,results47,go_sem]) rfl ?_;unfold lw;rw[if_pos H0.out,H.out];exact⟨M,A,d,v2,rfl,G.out,X.out,Y.out,U.out⟩
   ·have H0:=Ld h0;obtain⟨ev,P⟩:=nM (x.2);have c1:=Ld P;rw[bC h0,←P];clear h0 P
    go_wp2_with fail
    refine bodyPost_ret (v:=.tuple #[.pointer none,.slice none 0 0,.iface 38 (.int .i64 ev)]) (by simp[results,results47,go_sem]) rfl ?_;unfold lw;rw[if_neg H0.out,bC H0.out,←c1.out];exact⟨v2,rfl,U.out⟩
theorem gV{x:List Int}(h:x.length≤64):splice (am aw) 0 (am x)=am (ft x):=by
 have e:am aw=List.replicate 64 (Value.int .u8 0):=by unfold am aw;rw[List.map_replicate]
 have b:am (ft x)=am x++List.replicate (64-x.length) (Value.int .u8 0):=by unfold am ft;rw[List.map_append,List.map_replicate]
 unfold splice;rw[e,b,List.take_zero,List.nil_append,Nat.zero_add,ah,List.drop_replicate]
theorem eL{fn:Func}{p q:Tmp}{ty:TypeId}{P:Program}(h:fn.results= #[.cell p ty,.tmp q])(tmps:Array Value)(w:World)(g:Nat)(cs:Array Value)(d:TypeDesc)
    (f:tmps.getD p undef=.pointer (some ⟨g,0,none⟩)) (c:ab w g ty cs) (hu:P.underlying ty=some d) (hd:d.isRow=true) (hi:(P.info? ty).map (·.size)=some cs.size):
    (results fn tmps).run P w=.ok (.tuple #[.agg cs,tmps.getD q undef]) w:=by
 have b:tmps[p]?.getD undef=.pointer (some ⟨g,0,none⟩):=by simpa using f
 simp[results,h,b,asAddr,run_loadVar_row w g ty ty cs (0,0) _ c hu (by cases d<;>first|rfl|(simp[TypeDesc.isRow]at hd)) hi]
theorem vo{q:Nat→Prop}{w:World}{gl gd n:Nat}{l:LG}(h:Lg w gl gd l n)(place kind:Nat)(hp:place<4294967296)(u:kind<256)(A:Option Addr)(m c:Nat)(b:List Int)(hR:Rd q w 1 A m (am b))(hb:aU b)(hm:m≤55):
    Calls prog 160 #[.pointer (some ⟨gl,0,none⟩),.int .i64 place,.int .i64 kind,.slice A m c] w fun e w'=>e=.returned (.tuple #[.agg (af (ft (aY 4 l.gen++aY 4 place++aY 1 kind++b))),.nilIface])∧aa w w':=by
 have g9:=Ld h;have HR:=Ld hR;have HB:=Ld hb;have HX:Hid (b.length=m):=Ld (by have:=hR.1;rw[ah]at this;omega);have c3:=h.c3;have z:=h.ok.gen;obtain⟨gen,c'⟩:=nM (l.gen);rw[←c']at c3 z⊢;have f:Hid (gen<256^4∧place<256^4∧kind<256^1):=Ld ⟨by omega,by omega,by omega⟩;have k2:IntKind.u64.wrap (place:Int)=(place:Int):=by rw[IntKind.wrap_u64];omega
 have k3:IntKind.u64.wrap (kind:Int)=(kind:Int):=by rw[IntKind.wrap_u64];omega
 have k1:IntKind.u64.wrap (gen:Int)=(gen:Int):=by rw[IntKind.wrap_u64];omega
 obtain⟨rs,y⟩:=nM (aY 4 gen++aY 4 place++aY 1 kind++b);have f':=Ld y;have c0:rs.length=m+9:=by rw[y];simp only[List.length_append,av,HX.out];omega
 have r:=Ld c0;rw[←y];clear h hR hb c' hp u y c0 z
 go_enter func160,ntmps160
 go_upto_region 3 with fail
 obtain⟨v,s⟩:=nM (((w.alloc (.cells #[.int .u8 0,.int .u8 0,.int .u8 0,.int .u8 0,.int .u8 0,.int .u8 0,.int .u8 0,.int .u8 0,.int .u8 0,.int .u8 0,.int .u8 0,.int .u8 0,.int .u8 0,.int .u8 0,.int .u8 0,.int .u8 0,.int .u8 0,.int .u8 0,.int .u8 0,.int .u8 0,.int .u8 0,.int .u8 0,.int .u8 0,.int .u8 0,.int .u8 0,.int .u8 0,.int .u8 0,.int .u8 0,.int .u8 0,.int .u8 0,.int .u8 0,.int .u8 0,.int .u8 0,.int .u8 0,.int .u8 0,.int .u8 0,.int .u8 0,.int .u8 0,.int .u8 0,.int .u8 0,.int .u8 0,.int .u8 0,.int .u8 0,.int .u8 0,.int .u8 0,.int .u8 0,.int .u8 0,.int .u8 0,.int .u8 0,.int .u8 0,.int .u8 0,.int .u8 0,.int .u8 0,.int .u8 0,.int .u8 0,.int .u8 0,.int .u8 0,.int .u8 0,.int .u8 0,.int .u8 0,.int .u8 0,.int .u8 0,.int .u8 0,.int .u8 0] 68)).alloc (.cells #[.int .u8 0,.int .u8 0,.int .u8 0,.int .u8 0,.int .u8 0,.int .u8 0,.int .u8 0,.int .u8 0,.int .u8 0,.int .u8 0,.int .u8 0,.int .u8 0,.int .u8 0,.int .u8 0,.int .u8 0,.int .u8 0,.int .u8 0,.int .u8 0,.int .u8 0,.int .u8 0,.int .u8 0,.int .u8 0,.int .u8 0,.int .u8 0,.int .u8 0,.int .u8 0,.int .u8 0,.int .u8 0,.int .u8 0,.int .u8 0,.int .u8 0,.int .u8 0,.int .u8 0,.int .u8 0,.int .u8 0,.int .u8 0,.int .u8 0,.int .u8 0,.int .u8 0,.int .u8 0,.int .u8 0,.int .u8 0,.int .u8 0,.int .u8 0,.int .u8 0,.int .u8 0,.int .u8 0,.int .u8 0,.int .u8 0,.int .u8 0,.int .u8 0,.int .u8 0,.int .u8 0,.int .u8 0,.int .u8 0,.int .u8 0,.int .u8 0,.int .u8 0,.int .u8 0,.int .u8 0,.int .u8 0,.int .u8 0,.int .u8 0,.int .u8 0] 68)).alloc (.cells #[.nilIface,.slice none 0 0] 168):World);obtain⟨U,i⟩:=nM (w.heap.size);obtain⟨t,o⟩:=nM (w.heap.size+1);obtain⟨g,hg⟩:=nM (w.heap.size+1+1);have hz:(#[.int .u8 0,.int .u8 0,.int .u8 0,.int .u8 0,.int .u8 0,.int .u8 0,.int .u8 0,.int .u8 0,.int .u8 0,.int .u8 0,.int .u8 0,.int .u8 0,.int .u8 0,.int .u8 0,.int .u8 0,.int .u8 0,.int .u8 0,.int .u8 0,.int .u8 0,.int .u8 0,.int .u8 0,.int .u8 0,.int .u8 0,.int .u8 0,.int .u8 0,.int .u8 0,.int .u8 0,.int .u8 0,.int .u8 0,.int .u8 0,.int .u8 0,.int .u8 0,.int .u8 0,.int .u8 0,.int .u8 0,.int .u8 0,.int .u8 0,.int .u8 0,.int .u8 0,.int .u8 0,.int .u8 0,.int .u8 0,.int .u8 0,.int .u8 0,.int .u8 0,.int .u8 0,.int .u8 0,.int .u8 0,.int .u8 0,.int .u8 0,.int .u8 0,.int .u8 0,.int .u8 0,.int .u8 0,.int .u8 0,.int .u8 0,.int .u8 0,.int .u8 0,.int .u8 0,.int .u8 0,.int .u8 0,.int .u8 0,.int .u8 0,.int .u8 0]:Array Value)=af aw:=by rfl
 have G:Hid (aa w v):=Ld (by rw[s];exact aa.al (aa.al (aa.al (aa.refl _) _) _) _);have c4:Hid (ab v U 68 (af aw)):=Ld (by rw[s,i,←hz];exact((ab.new _ _ _).alloc _).alloc _);have N:Hid (ab v t 68 (af aw)):=Ld (by rw[s,o,←hz];exact(ab.new' _ _ _ (by simp)).alloc _);have g4:Hid (fK v g g []):=Ld ⟨⟨none,0,by rw[s,hg];exact ab.new' _ _ _ (by simp),World.ownsRow_nil _ _ _ _⟩,Nat.le_refl _,fun x hx=>nomatch hx⟩;have H:Hid (U=w.heap.size∧t=w.heap.size+1∧g=w.heap.size+2):=Ld ⟨i,o,hg⟩;rw[←s,←hg,←o,←i];clear s i o hg hz;have i0:v.cell? ⟨gl,3,none⟩=some (.int .u32 gen):=G.out.cell_ c3;have n0:((4:Nat):Int)=4:=rfl
 go_wp2_with fail
 refine(fC g4.out gen 4 (by omega) f.out.1 (by simp)).mono ?_;rintro e w2 ⟨rfl,b0,V⟩;have g5:=Ld b0;have c5:Hid (FW g g v w2):=Ld V;clear b0 V
 go_wp2_with fail
 refine(fC g5.out place 4 (by omega) f.out.2.1 (by simp[av])).mono ?_;rintro e w3 ⟨rfl,b1,X⟩;have g6:=Ld b1;have c6:Hid (FW g g v w3):=Ld (c5.out.tr X);clear b1 X
 go_wp2_with fail
 refine(fC g6.out kind 1 (by omega) f.out.2.2 (by simp[av])).mono ?_;rintro e w4 ⟨rfl,b3,Y⟩;have g7:=Ld b3;have S:Hid (FW g g v w4):=Ld (c6.out.tr Y);clear b3 Y
 have d':Hid (aa w w4):=Ld (G.out.fr S.out (fun k u=>by
  have:=H.out;rcases u with rfl|u
  ·omega
  ·have:=u.1;omega))
 go_wp2_with fail
 refine(mg g7.out A m c b (d'.out.rd HR.out) HB.out (by simp[av];omega)).mono ?_;rintro e w5 ⟨rfl,b7,Z⟩
 have g8:Hid (fK w5 g g rs):=Ld (by
  have e: []++aY 4 gen++aY 4 place++aY 1 kind++b=rs:=by rw[f'.out];rfl
  rw[←e]
  exact b7)
 have c7:Hid (FW g g v w5):=Ld (S.out.tr Z);clear b7 Z
 go_wp2_with fail
 refine(kz g8.out (by rw[r.out];omega)).mono ?_;rintro e w6 ⟨⟨B,d,rfl,hO⟩,I⟩;rw[r.out]at hO⊢;have HO:=Ld hO;have i':Hid (aa w5 w6):=Ld I;have E:Hid (FW g g v w6):=Ld (c7.out.tr (FW.new I))
 have T:Hid (aa w w6):=Ld (G.out.fr E.out (fun k u=>by
  have:=H.out;rcases u with rfl|u
  ·omega
  ·have:=u.1;omega))
 clear hO I;have O:Hid (ab w6 U 68 (af aw)):=Ld (E.out.blk c4.out (by decide) (by have:=H.out;omega));have D:Hid (ab w6 t 68 (am aw).toArray):=Ld (E.out.blk N.out (by decide) (by have:=H.out;omega));obtain⟨m9,M⟩:=nM (m+9);have b':m9≤64:=by omega
 have F:=Ld M;rw[←M]at HO⊢;have C:(af (ft rs)).size=64:=by rw[au,eY (by rw[r.out];omega)]
 have j:=Ld C;clear M C;have g3:Hid (splice (am aw) 0 (am rs)=am (ft rs)):=Ld (gV (by rw[r.out];have:=F.out;omega))
 go_wp2_with (first
  |(refine cg 41 rfl ?_;refine eD (q:=fun k=>(Value.slice B m9 d).ownBlock=some k) rfl (.tmp 39) (.tmp 40) 33 33 rfl 5 underlying33 rfl t 0 64 64 B m9 d rfl rfl (am aw) 68 D.out (am rs) (by rw[ah,r.out,←F.out];exact(Nat.min_eq_left b').symm) ⟨m9,am rs,Rd.own HO.out rfl,List.take_length⟩ (by rw[ah,ah,r.out,←F.out,aX.1];omega) (aM _) ?_;intro w7 J L;rw[g3.out]at J;have c1:Hid (ab w7 t 68 (af (ft rs))):=Ld J;have c8:=Ld L;have P:Hid (ab w7 U 68 (af aw)):=Ld (O.out.fr L (by have:=H.out;omega));clear J L)
  |(refine cg 42 rfl ?_;refine ac rfl _ rfl underlying68 rfl (by rw[j.out];rfl) rfl c1.out ?_)
  |((with_reducible refine aA ⟨none,.store 68 (.tmp 8) _,_,_,_,_⟩ ?_);refine an rfl (.tmp 8) (.tmp 42) rfl (by rw[j.out];rfl) rfl rfl P.out (by rw[j.out];rfl) (bw _) ?_;intro w8 i b9;have R:=Ld i;have c9:=Ld b9;clear i b9))
 exact bodyPost_ret (eL rfl _ _ U _ _ rfl R.out underlying68 rfl (by rw[j.out];rfl)) rfl ⟨rfl,(T.out.fr c8.out (fun k u=>by have:=H.out;omega)).fr c9.out (fun k u=>by have:=H.out;omega)⟩
def mZ(l:LG)(A:Option Addr)(c:Nat):Array Value:= #[.int .i64 l.first,.int .i64 l.size,.int .i64 l.used,.int .u32 l.gen,.slice A 16 c,.bool l.broken]
structure jv(w:World)(l:LG)(A:Option Addr):Prop where
 tag:fg 5 w 1 A 16 (am l.tag)
 byt:aU l.tag
 gen:l.gen<4294967296
 num:l.first≤100000∧l.size≤100000∧l.used≤100000
theorem jv.new{w w':World}{l:LG}{A:Option Addr}(h:jv w l A)(b:aa w w'):jv w' l A:=⟨h.tag.new b,h.byt,h.gen,h.num⟩
theorem jv.fr{w w':World}{S:Nat→Prop}{l:LG}{A:Option Addr}(h:jv w l A)(hF:Fr S w w')(hS:∀k,S k→¬aO 5 w k):jv w' l A:=⟨h.tag.fr hF hS,h.byt,h.gen,h.num⟩
theorem mU:aW prog 62 68 64 64:=aW.mk' (z:=.agg (af aw)) underlying62 (by kernel_rfl) rfl (by decide)
def gU(l:LG)(b:List Int)(k:Nat):List Value:=(List.range k).flatMap fun i=>am (l.sec b i)
theorem gD(l:LG)(b:List Int)(k:Nat):gU l b (k+1)=gU l b k++am (l.sec b k):=by simp[gU,List.range_succ]
def LG.rawJ(l:LG)(b:List Int)(k j:Nat):List Int:=l.hdr k++((l.frame b).drop (55*k)).take j
theorem LG.rawJ_succ(l:LG)(b:List Int)(k j:Nat)(h:55*k+j<(l.frame b).length):l.rawJ b k (j+1)=l.rawJ b k j++[at_ (l.frame b) (55*k+j)]:=by
 unfold LG.rawJ at_;have hl:j<((l.frame b).drop (55*k)).length:=by rw[List.length_drop];omega
 rw[List.take_succ_eq_append_getElem hl,List.append_assoc,List.getElem_drop,List.getD_eq_getElem?_getD,List.getElem?_eq_getElem h];rfl
theorem LG.rawJ_all(l:LG)(b:List Int)(k j:Nat)(h:j=55∨(j≤55∧(l.frame b).length≤55*k+j)):l.rawJ b k j=l.raw b k:=by
 unfold LG.rawJ LG.raw;rcases h with rfl|⟨h1,h2⟩
 ·rfl
 ·have hl:((l.frame b).drop (55*k)).length≤j:=by rw [List.length_drop];omega
  rw[List.take_of_length_le hl,List.take_of_length_le (by omega)]
structure Ej(W1 wr:World)(l:LG)(b:List Int)(k j:Nat)(x out:Value):Prop where
 new:aa W1 wr
 x:wr.ownsRow W1.heap.size 5 1 x (9+j) (am (l.rawJ b k j))
 out:wr.ownsRow W1.heap.size 68 64 out k (gU l b k)
theorem oM{q:Nat→Prop}{w:World}(l:LG)(A:Option Addr)(c:Nat)(B:Option Addr)(n d:Nat)(b:List Int)(hL:cM 3 1 w)(hI:jv w l A)(hR:Rd q w 1 B n (am b))(hb:aU b)(hn:n≤70000)(K:Nat)(y:K=(n+74)/55):
    Calls prog 130 #[.agg (mZ l A c),.slice B n d] w fun e w'=>(∃C cc,e=.returned (.slice C K cc)∧w'.ownsRow w.heap.size 68 64 (.slice C K cc) K (gU l b K))∧aa w w':=by
 have HL:=Ld hL;have HI:=Ld hI;have HR:=Ld hR;have HB:=Ld hb;have HX:Hid (b.length=n):=Ld (by have:=hR.1;rw[ah]at this;omega);have m6:=hI.gen;have m9:=hI.num;obtain⟨gen,k8⟩:=nM (l.gen);obtain⟨us,n'⟩:=nM (l.used);obtain⟨fs,o2⟩:=nM (l.first);obtain⟨sz,o4⟩:=nM (l.size);obtain⟨bk,o1⟩:=nM (l.broken);have p8:us≤100000:=by omega
 have l3:Hid (gen=l.gen∧us=l.used):=Ld ⟨k8,n'⟩;have HT:Hid (∀W,aa w W→fg 5 W 1 A 16 (am l.tag)):=Ld fun W hN=>hI.tag.new hN
 have g7:=Ld (fun W (hN:aa w W)=>oR (p:=aO 5 W) A c l.tag l.gen B n d b W (hL.new hN) (hI.tag.new hN) hI.byt (hN.rd hR) hb hI.gen (by omega));have n2:Hid (gen<4294967296):=Ld (by omega);have d':Hid ((l.frame b).length=n+20):=Ld (by rw[LG.frame_len,HX.out]);have q5:Hid (aU (l.frame b)):=Ld (l.frame_byt hb);have n6:=Ld (fun W=>eT n 4 W (by omega) (by omega));have o5:=Ld (fun W=>eT gen 4 W (by omega) (by omega));have HK:=Ld y;rw[←k8]at g7;unfold mZ;rw[←o2,←o4,←n',←k8,←o1];clear hL hI hR hb k8 n' o2 o4 o1 m6 m9 y
 go_enter func130,ntmps130
 go_upto_region 1 with fail
 obtain⟨w0,l1⟩:=nM (w.alloc (.cells #[.int .i64 fs,.int .i64 sz,.int .i64 us,.int .u32 gen,.slice A 16 c,.bool bk] 75):World);obtain⟨b2,k7⟩:=nM (w.heap.size);have k2:Hid (aa w w0):=Ld (by rw[l1];exact aa.al (aa.refl _) _);have k0:Hid (ab w0 b2 75 #[.int .i64 fs,.int .i64 sz,.int .i64 us,.int .u32 gen,.slice A 16 c,.bool bk]):=Ld (by rw[l1,k7];exact ab.new _ _ _);rw[←l1,←k7];have HZ:=Ld k7;clear l1 k7;have kn:IntKind.u64.wrap (n:Int)=(n:Int):=by rw[IntKind.wrap_u64];omega
 have q4:∀p:HW (aa w0),p.w.cell? ⟨b2,4,none⟩=some (.slice A 16 c):=fun p=>(p.h.blk k0.out).cell 4
 have q3:∀p:HW (aa w0),p.w.cell? ⟨b2,3,none⟩=some (.int .u32 gen):=fun p=>(p.h.blk k0.out).cell 3
 refine ag (aa w0) [(true,0),(true,1),(true,2),(true,4),(true,5),(true,6),(true,7),(true,8),(true,11),(false,3),(false,9),(false,10),(false,12),(true,13)] (by kernel_rfl) (by kernel_rfl) (aa.dr (aa.refl w0)) (fun p7=>?_)
 iterate 9 (refine ae (o:=.mk ..) rfl (fun K y=>?_);go_simp;refine y _ ?_;clear y K)
 refine aj (o:=.mk ..) rfl (fun K y=>?_) (.inl rfl);go_simp;refine(n6.out w0.drew).mono ?_;rintro e w1 ⟨rfl,j4,j3⟩;have l7:=Ld j4;have l5:Hid (aa w0 w1):=Ld ((aa.dr (aa.refl w0)).tr j3);obtain⟨b1,m3⟩:=nM (w0.drew.heap.size);rw[←m3]at l7⊢;have l2:Hid (w0.heap.size≤b1):=Ld (by rw[m3];exact Nat.le_refl _);clear j4 j3 m3;go_simp;refine y.out _ _ (fun _=>l5.out) ?_;clear y K;refine aj (o:=.mk ..) rfl (fun K y=>?_) (.inl rfl);go_simp;refine(g7.out w1 (k2.out.tr l5.out)).mono ?_;rintro e w2 ⟨⟨A2,c2,rfl,j5⟩,i'⟩;have o7:=Ld j5;have b9:=Ld (i'.own l7.out);have n5:Hid (aa w0 w2):=Ld (l5.out.tr i');clear j5 i';go_simp;refine y.out _ _ (fun _=>n5.out) ?_;clear y K;refine aj (o:=.mk ..) rfl (fun K y=>?_) (.inl rfl);refine cq jJ _ rfl (.tmp 14) (.tmp 20) rfl b1 (.slice (some ⟨b1,0,none⟩) 4 4) 4 (am (aY 4 n)) rfl b9.out A2 16 c2 (am (fA l.tag gen b)) rfl (Rd.own o7.out rfl) (aM _) (by unfold maxLen;omega) (by omega) (by have:=(ak b9.out b1 rfl).2;omega) ?_;intro A3 c3 w3 j6 j0 _;have k4:=Ld j6;have k3:Hid (aa w0 w3):=Ld (n5.out.fr j0 (fun k H=>by have k9:=(ak b9.out k H).1;have:=l2.out;omega));clear j6 j0;refine y.out _ _ (fun _=>k3.out) ?_;clear y K;simp only[Act.put,bK,bM,bO];refine aj (o:=.mk ..) rfl (fun K y=>?_) (.inl rfl);refine cq jJ _ rfl (.tmp 21) (.tmp 22) rfl b1 (.slice A3 (4+16) c3) (4+16) _ rfl k4.out B n d (am b) rfl ((k2.out.tr k3.out).rd HR.out) (aM _) (by unfold maxLen;omega) (by omega) (by have:=k3.out.size;have:=(ak l7.out b1 rfl).2;have:=l2.out;have:=(ak b9.out b1 rfl).2;have:=k4.out.1;rcases k4.out.2 with h|⟨g,cap,cur,hv,hb,hh,hr⟩<;>first|(have:=h.1;omega)|(have:=lt_of_block hh;omega)) ?_;intro A4 c4 u m2 n9 _
 have l8:Hid (u.ownsRow b1 5 1 (.slice A4 (n+20) c4) (n+20) (am (l.frame b))):=Ld (by
  have e1:4+16+n=n+20:=by omega
  have e2:am (l.frame b)=am (aY 4 n)++am (fA l.tag gen b)++am b:=by rw[LG.frame,HX.out,l3.out.1];simp[am]
  rw[e2];rw[e1]at m2
  exact m2)
 have b0:Hid (aa w0 u):=Ld (k3.out.fr n9 (fun k H=>by have k9:=(ak k4.out k H).1;have:=l2.out;omega));clear m2 n9;refine y.out _ _ (fun _=>b0.out) ?_;clear y K;rw[show 4+16+n=n+20 by omega];simp only[Act.put,bK,bM,bO];refine ae (o:=.mk ..) rfl (fun K y=>?_);go_simp;refine y _ ?_;clear y K;refine ao ?_;clear q4 q3 g7 n6;obtain⟨fl,m5⟩:=nM (n+20);rw[←m5]at l8 d'⊢;have b':=Ld m5;have p0:fl≤70020:=by omega
 clear m5;obtain⟨gf,o8,q1,p',o9⟩:=dh l8.out (by have:=b'.out;omega);injection q1 with p9 q' q0;subst p9 q0
 have n1:Hid (∀j v,(am (l.frame b))[j]?=some v→u.cell? ⟨gf,j,none⟩=some v):=Ld fun j v hj=>by
  obtain⟨g',o',he,-,-,hc⟩:=(Rd.own l8.out rfl).out (by have:=b'.out;omega) (by omega);injection he with he;injection he with e1 e2;subst e1 e2;have:=hc j v hj
  rwa[Nat.zero_add]at this
 clear q' p' o9
 go_wp2_with fail
 have n8:Hid (u.ownsRow u.heap.size 68 64 (.slice none 0 0) 0 (gU l b 0)):=Ld (World.ownsRow_nil _ _ _ _);have n7:Hid (aa u u):=Ld (aa.refl _);have q6:K≤1300:=by have:=HK.out;have:=b'.out;omega
 go_loopw [6,7] (fun out i wr=>∃(k:Nat) (C:Option Addr) (cc:Nat),k≤K∧i=.int .i64 k∧out=.slice C k cc∧Hid (aa u wr)∧Hid (wr.ownsRow u.heap.size 68 64 (.slice C k cc) k (gU l b k))) (fun _ i _=>K-(intOf i).toNat)
 case atStart=>exact⟨0,none,0,Nat.zero_le _,rfl,rfl,n7,n8⟩
 case round=>
  clear n8 n7 kn;obtain⟨k,C,cc,H,rfl,rfl,HN,HO⟩:=hrel
  by_cases q8:k<K
  ·obtain ⟨G,j9⟩:=nM (55*k);have e1:(55:Int)*(k:Int)=(G:Int):=by omega
   have e2:IntKind.i64.wrap (G:Int)=(G:Int):=IntWalk.i64_in _ (by omega);have p5:G<fl:=by have:=HK.out;have:=b'.out;omega
   have p6:(G:Int)<(fl:Int):=by omega
   obtain⟨jn,o3⟩:=nM (us+k);have e3:(us:Int)+(k:Int)=(jn:Int):=by omega
   have e4:IntKind.i64.wrap (jn:Int)=(jn:Int):=IntWalk.i64_in _ (by omega);have kj:IntKind.u64.wrap (jn:Int)=(jn:Int):=by rw[IntKind.wrap_u64];omega
   have kg:IntKind.u64.wrap (gen:Int)=(gen:Int):=by have:=n2.out;rw[IntKind.wrap_u64];omega
   have q7:(0:Int)≤(k:Int):=by omega
   have HJ:Hid (jn<1000000):=Ld (by omega);have o6:=Ld (fun W=>eT jn 4 W (by omega) (by omega));have S:=Ld j9;have n3:Hid (l.hdr k=aY 4 gen++aY 4 jn++[if k=0 then 1 else 2]):=Ld (by rw[o3,LG.hdr,l3.out.1,l3.out.2]);clear j9 o3;have q2:∀p:HW (aa wr),p.w.cell? ⟨b2,2,none⟩=some (.int .i64 us):=fun p=>((b0.out.tr HN.out).tr p.h).blk k0.out |>.cell 2
   have q3:∀p:HW (aa wr),p.w.cell? ⟨b2,3,none⟩=some (.int .u32 gen):=fun p=>((b0.out.tr HN.out).tr p.h).blk k0.out |>.cell 3
   go_wp2_with fail
   refine ag (aa wr) [(true,0),(true,1),(true,2),(true,4),(true,5),(true,6),(true,7),(true,8),(false,3),(false,9),(false,10),(true,11)] (by kernel_rfl) (by kernel_rfl) (aa.dr (aa.refl wr)) (fun p7=>?_)
   iterate 8 (refine ae (o:=.mk ..) rfl (fun K y=>?_);go_simp;refine y _ ?_;clear y K)
   refine aj (o:=.mk ..) rfl (fun K y=>?_) (.inl rfl);go_simp;refine(o5.out wr.drew).mono ?_;rintro e w1 ⟨rfl,j4,j3⟩;have k5:=Ld j4;have k1:Hid (aa wr w1):=Ld ((aa.dr (aa.refl wr)).tr j3);obtain⟨b8,m4⟩:=nM (wr.drew.heap.size);rw[←m4]at k5⊢;have i3:Hid (wr.heap.size≤b8):=Ld (by rw[m4];exact Nat.le_refl _);clear j4 j3 m4;go_simp;refine y.out _ _ (fun _=>k1.out) ?_;clear y K;refine aj (o:=.mk ..) rfl (fun K y=>?_) (.inl rfl);go_simp;refine(o6.out w1).mono ?_;rintro e w2 ⟨rfl,j5,i'⟩;have m':=Ld j5;have T:=Ld (i'.own k5.out);have i7:Hid (aa wr w2):=Ld (k1.out.tr i');clear j5 i';go_simp;refine y.out _ _ (fun _=>i7.out) ?_;clear y K;refine aj (o:=.mk ..) rfl (fun K y=>?_) (.inl rfl);refine cq jJ _ rfl (.tmp 34) (.tmp 40) rfl b8 (.slice (some ⟨b8,0,none⟩) 4 4) 4 (am (aY 4 gen)) rfl T.out (some ⟨w1.heap.size,0,none⟩) 4 4 (am (aY 4 jn)) rfl (Rd.own m'.out rfl) (aM _) (by unfold maxLen;omega) (by omega) (by have:=(ak T.out b8 rfl).2;omega) ?_;intro A3 c3 w3 j6 j0 _;have k6:=Ld j6;have i2:Hid (aa wr w3):=Ld (i7.out.fr j0 (fun k H=>by have k9:=(ak T.out k H).1;have:=i3.out;omega));clear j6 j0;refine y.out _ _ (fun _=>i2.out) ?_;clear y K;simp only[Act.put,bK,bM,bO];refine ae (o:=.mk ..) rfl (fun K y=>?_);go_simp;refine y _ ?_;clear y K;refine ao ?_;clear q2 q3 e3 e4 kj kg n2;have U:Hid (w3.ownsRow b8 5 1 (.slice A3 8 c3) 8 (am (aY 4 gen)++am (aY 4 jn))):=Ld k6.out
   have o0:b8≤w3.heap.size:=by
    have:=(ak T.out b8 rfl).2;have:=i7.out.size;have h3:=i2.out.size;rcases k6.out.2 with h|⟨g,cap,cur,hv,hb,hh,hr⟩
    ·have:=h.1;omega
    ·have:=lt_of_block hh;omega
   have n0:=Ld o0;clear o0
   by_cases l':k=0
   ·have k':((k:Int)==0)=true:=by simp;omega
    have l4:Hid ((if k=0 then 1 else 2:Int)=1):=Ld (if_pos l');clear l'
    go_wp2_with (refine cg 46 rfl ?_;refine aq jJ _ rfl (.tmp 44) (.tmp 45) rfl b8 (.slice A3 8 c3) 8 _ rfl (aa.own (aa.al (aa.refl w3) _) U.out) (some ⟨w3.heap.size,0,none⟩) 1 1 [.int .u8 1] rfl (Rd.ofBlk (p:=fun _=>True) (ab.new w3 5 #[.int .u8 1]) 1 1 rfl trivial) (by simp[Value.oneCell']) (by unfold maxLen;omega) (by omega) (by have:=n0.out;simp;omega) ?_;intro A5 c5 w5 j7 j1 m0;have i4:=Ld j1;have g3:=Ld j7;clear j7 j1 m0)
    have i9:Hid (aa wr w5):=Ld ((aa.al i2.out _).fr i4.out (fun k H=>by have k9:=(ak U.out k H).1;have:=i3.out;omega))
    have i6:Hid (Ej u w5 l b k 0 (.slice A5 9 c5) (.slice C k cc)):=Ld ⟨HN.out.tr i9.out,by
     have e1:am (l.rawJ b k 0)=am (aY 4 gen)++am (aY 4 jn)++[.int .u8 1]:=by
      unfold LG.rawJ;rw[n3.out,l4.out];simp[am]
     rw[e1];refine iR g3.out (fun k H=>?_);have h1:=(ak g3.out k H).1;have h2:=i3.out;have h3:=HN.out.size
     omega,i9.out.own HO.out⟩
    clear g3 i4 k5 m' T k6 U k1 i7 i2;have m8:=k';clear k'
    go_wp2_with fail
    go_loopw [8,9] (fun x i wr=>∃(j i0 m:Nat) (X:Option Addr) (R:Nat),j≤55∧Hid (i0=G+j)∧Hid (m=9+j)∧i0≤fl∧m≤64∧i=.int .i64 i0∧x=.slice X m R∧Hid (Ej u wr l b k j (.slice X m R) (.slice C k cc))) (fun _ i _=>fl-(intOf i).toNat)
    case atStart=>exact⟨0,G,9,A5,c5,by omega,Ld rfl,Ld rfl,by omega,by omega,rfl,rfl,i6⟩
    case round=>
     clear i6;obtain⟨j,i,m,X,R,hj,HI,HM,p2,b3,rfl,rfl,V⟩:=hrel;have p1:(0:Int)≤(i:Int):=by omega
     by_cases c':j<55∧i<fl
     ·obtain ⟨p3,m7⟩:=c';have g1:(i:Int)<(G:Int)+55:=by have:=HI.out;omega
      have g2:(i:Int)<(fl:Int):=by omega
      have P:i<(l.frame b).length:=by rw[d'.out];exact m7
      obtain⟨x,hx⟩:=nM (at_ (l.frame b) i)
      have cx:wr.cell? ⟨gf,i,none⟩=some (.int .u8 x):=V.out.new.cell_ (n1.out i _ (by
       unfold am at_ at*;rw[List.getElem?_map,List.getElem?_eq_getElem P,hx,List.getD_eq_getElem?_getD,List.getElem?_eq_getElem P]
       rfl))
      have HS:Hid (l.rawJ b k (j+1)=l.rawJ b k j++[x]):=Ld (by
       rw[l.rawJ_succ b k j (by rw[d'.out];have:=HI.out;have:=S.out;omega),hx];have e:55*k+j=i:=by have:=HI.out;have:=S.out;omega
       rw[e])
      have E:Hid (wr.ownsRow u.heap.size 5 1 (.slice X m R) m (am (l.rawJ b k j))):=Ld (by have:=V.out.x;rwa[←HM.out]at this);have D:Hid (wr.ownsRow u.heap.size 68 64 (.slice C k cc) k (gU l b k)):=Ld V.out.out;clear hx P
      go_wp2_with (refine cg 71 rfl ?_;refine aq jJ _ rfl (.tmp 65) (.tmp 70) rfl u.heap.size (.slice X m R) m _ rfl (aa.own (aa.al (aa.refl wr) _) E.out) (some ⟨wr.heap.size,0,none⟩) 1 1 [.int .u8 x] rfl (Rd.ofBlk (p:=fun _=>True) (ab.new wr 5 #[.int .u8 x]) 1 1 rfl trivial) (by simp[Value.oneCell']) (by unfold maxLen;omega) (by omega) (aa.al V.out.new _).size ?_;intro A6 c6 w6 j8 j2 m1;have i5:=Ld j2;have l9:=Ld j8;clear j8 j2 m1)
      have c9:Hid (Ej u w6 l b k (j+1) (.slice A6 (m+1) c6) (.slice C k cc)):=Ld ⟨(aa.al V.out.new _).fr i5.out (fun k H=>(ak E.out k H).1),by
       have e1:9+(j+1)=m+1:=by have:=HM.out;omega
       have e2:am (l.rawJ b k (j+1))=am (l.rawJ b k j)++[.int .u8 x]:=by rw[HS.out];simp[am]
       rw[e1,e2]
       exact l9.out,bD (aa.own (aa.al (aa.refl wr) _) D.out) i5.out (fun j hj hs=>by
        have t1:=cJ D.out hj
        exact aO.not_own E.out (by decide) hs t1)⟩
      go_roundw
      case rel=>exact⟨j+1,i+1,m+1,A6,c6,by omega,Ld (by have:=HI.out;omega),Ld (by have:=HM.out;omega),by omega,by have:=HM.out;omega,by go_num,rfl,c9⟩
      case measure=>simp[intOf];omega
     ·have g6:Hid (l.rawJ b k j=l.raw b k):=Ld (l.rawJ_all b k j (by
       rw[d'.out];have:=HI.out;have:=S.out
       by_cases g8:j<55
       ·exact .inr ⟨hj,by have:¬i<fl:=fun h=>c' ⟨g8,h⟩;omega⟩
       ·exact .inl (by omega)))
      have E:Hid (wr.ownsRow u.heap.size 5 1 (.slice X m R) m (am (l.raw b k))):=Ld (by have:=V.out.x;rwa[←HM.out,g6.out]at this);have Z:Hid ((l.raw b k).length=m):=Ld (by have:=E.out.1;rw[ah]at this;omega);have D:Hid (wr.ownsRow u.heap.size 68 64 (.slice C k cc) k (gU l b k)):=Ld V.out.out;have b7:(af (l.sec b k)).size=64:=by rw[au,LG.sec,eY (l.raw_len b k)]
      have r:=Ld b7;have Y:Hid (aa u wr):=Ld V.out.new;have j':Hid (splice (am aw) 0 (am (l.raw b k))=am (l.sec b k)):=Ld (gV (l.raw_len b k));clear b7
      have i1:¬(i:Int)<(G:Int)+55∨((i:Int)<(G:Int)+55∧¬(i:Int)<(fl:Int)):=by
       have:=HI.out
       by_cases g8:j<55
       ·exact .inr ⟨by omega,by have:¬i<fl:=fun h=>c' ⟨g8,h⟩;omega⟩
       ·exact .inl (by omega)
      clear c' HI HM V;rcases i1 with g1|⟨g1,g2⟩
      ·go_upto_region 15 with fail
       obtain⟨w6,t⟩:=nM (wr.alloc (.cells #[.int .u8 0,.int .u8 0,.int .u8 0,.int .u8 0,.int .u8 0,.int .u8 0,.int .u8 0,.int .u8 0,.int .u8 0,.int .u8 0,.int .u8 0,.int .u8 0,.int .u8 0,.int .u8 0,.int .u8 0,.int .u8 0,.int .u8 0,.int .u8 0,.int .u8 0,.int .u8 0,.int .u8 0,.int .u8 0,.int .u8 0,.int .u8 0,.int .u8 0,.int .u8 0,.int .u8 0,.int .u8 0,.int .u8 0,.int .u8 0,.int .u8 0,.int .u8 0,.int .u8 0,.int .u8 0,.int .u8 0,.int .u8 0,.int .u8 0,.int .u8 0,.int .u8 0,.int .u8 0,.int .u8 0,.int .u8 0,.int .u8 0,.int .u8 0,.int .u8 0,.int .u8 0,.int .u8 0,.int .u8 0,.int .u8 0,.int .u8 0,.int .u8 0,.int .u8 0,.int .u8 0,.int .u8 0,.int .u8 0,.int .u8 0,.int .u8 0,.int .u8 0,.int .u8 0,.int .u8 0,.int .u8 0,.int .u8 0,.int .u8 0,.int .u8 0] 68):World);obtain⟨s,f⟩:=nM (wr.heap.size);have hz:(#[.int .u8 0,.int .u8 0,.int .u8 0,.int .u8 0,.int .u8 0,.int .u8 0,.int .u8 0,.int .u8 0,.int .u8 0,.int .u8 0,.int .u8 0,.int .u8 0,.int .u8 0,.int .u8 0,.int .u8 0,.int .u8 0,.int .u8 0,.int .u8 0,.int .u8 0,.int .u8 0,.int .u8 0,.int .u8 0,.int .u8 0,.int .u8 0,.int .u8 0,.int .u8 0,.int .u8 0,.int .u8 0,.int .u8 0,.int .u8 0,.int .u8 0,.int .u8 0,.int .u8 0,.int .u8 0,.int .u8 0,.int .u8 0,.int .u8 0,.int .u8 0,.int .u8 0,.int .u8 0,.int .u8 0,.int .u8 0,.int .u8 0,.int .u8 0,.int .u8 0,.int .u8 0,.int .u8 0,.int .u8 0,.int .u8 0,.int .u8 0,.int .u8 0,.int .u8 0,.int .u8 0,.int .u8 0,.int .u8 0,.int .u8 0,.int .u8 0,.int .u8 0,.int .u8 0,.int .u8 0,.int .u8 0,.int .u8 0,.int .u8 0,.int .u8 0]:Array Value)=af aw:=by rfl
       have I:Hid (ab w6 s 68 (am aw).toArray):=Ld (by rw[t,f,hz];exact ab.new _ _ _);have L:Hid (aa wr w6):=Ld (by rw[t];exact aa.al (aa.refl _) _);have J:Hid (s=wr.heap.size):=Ld f;rw[←t,←f];clear t f hz
       go_wp2_with (first
        |(refine cg 74 rfl ?_;refine eD (q:=fun k=>(Value.slice X m R).ownBlock=some k) rfl (.tmp 72) (.tmp 73) 33 33 rfl 5 underlying33 rfl s 0 64 64 X m R rfl rfl (am aw) 68 I.out (am (l.raw b k)) (by rw[ah,Z.out];exact(Nat.min_eq_left b3).symm) ⟨m,am (l.raw b k),Rd.own (L.out.own E.out) rfl,List.take_length⟩ (by rw[ah,ah,Z.out,aX.1];omega) (aM _) ?_;intro w7 F O;rw[j'.out]at F;have c0:Hid (ab w7 s 68 (af (l.sec b k))):=Ld F;have c1:=Ld O;clear F O;have z:Hid (aa wr w7):=Ld (L.out.fr c1.out (fun k H=>by have:=J.out;omega)))
        |(refine cg 76 rfl ?_;refine ac rfl _ rfl underlying68 rfl (by rw[r.out];rfl) rfl c0.out ?_)
        |(refine cg 77 rfl ?_;refine cn mU (by decide) rfl (.tmp 76) rfl (af (l.sec b k)) rfl r.out ?_)
        |(refine cg 78 rfl ?_;refine aq mU _ rfl (.tmp 75) (.tmp 77) rfl u.heap.size (.slice C k cc) k _ rfl (aa.own (aa.al z.out _) D.out) (some ⟨w7.heap.size,0,none⟩) 1 1 (am (l.sec b k)) rfl (by have h:=Rd.ofBlk (p:=fun _=>True) (ab.new w7 68 (af (l.sec b k))) 64 1 (by rw[r.out]) trivial;rwa[dR]at h) (aM _) (by unfold maxLen;omega) (by omega) (aa.al (Y.out.tr z.out) _).size ?_;intro A8 c8 w8 N M g9;have c7:=Ld M;have g4:=Ld N;clear N M g9))
       have f':Hid (aa u w8):=Ld ((aa.al (Y.out.tr z.out) _).fr c7.out (fun k H=>(ak D.out k H).1));have g5:Hid (w8.ownsRow u.heap.size 68 64 (.slice A8 (k+1) c8) (k+1) (gU l b (k+1))):=Ld (by rw[gD];exact g4.out);go_roundw
       case rel=>exact⟨k+1,A8,c8,by omega,by go_num,rfl,f',g5⟩
       case measure=>simp[intOf];omega
      ·go_upto_region 15 with fail
       obtain⟨w6,t⟩:=nM (wr.alloc (.cells #[.int .u8 0,.int .u8 0,.int .u8 0,.int .u8 0,.int .u8 0,.int .u8 0,.int .u8 0,.int .u8 0,.int .u8 0,.int .u8 0,.int .u8 0,.int .u8 0,.int .u8 0,.int .u8 0,.int .u8 0,.int .u8 0,.int .u8 0,.int .u8 0,.int .u8 0,.int .u8 0,.int .u8 0,.int .u8 0,.int .u8 0,.int .u8 0,.int .u8 0,.int .u8 0,.int .u8 0,.int .u8 0,.int .u8 0,.int .u8 0,.int .u8 0,.int .u8 0,.int .u8 0,.int .u8 0,.int .u8 0,.int .u8 0,.int .u8 0,.int .u8 0,.int .u8 0,.int .u8 0,.int .u8 0,.int .u8 0,.int .u8 0,.int .u8 0,.int .u8 0,.int .u8 0,.int .u8 0,.int .u8 0,.int .u8 0,.int .u8 0,.int .u8 0,.int .u8 0,.int .u8 0,.int .u8 0,.int .u8 0,.int .u8 0,.int .u8 0,.int .u8 0,.int .u8 0,.int .u8 0,.int .u8 0,.int .u8 0,.int .u8 0,.int .u8 0] 68):World);obtain⟨s,f⟩:=nM (wr.heap.size);have hz:(#[.int .u8 0,.int .u8 0,.int .u8 0,.int .u8 0,.int .u8 0,.int .u8 0,.int .u8 0,.int .u8 0,.int .u8 0,.int .u8 0,.int .u8 0,.int .u8 0,.int .u8 0,.int .u8 0,.int .u8 0,.int .u8 0,.int .u8 0,.int .u8 0,.int .u8 0,.int .u8 0,.int .u8 0,.int .u8 0,.int .u8 0,.int .u8 0,.int .u8 0,.int .u8 0,.int .u8 0,.int .u8 0,.int .u8 0,.int .u8 0,.int .u8 0,.int .u8 0,.int .u8 0,.int .u8 0,.int .u8 0,.int .u8 0,.int .u8 0,.int .u8 0,.int .u8 0,.int .u8 0,.int .u8 0,.int .u8 0,.int .u8 0,.int .u8 0,.int .u8 0,.int .u8 0,.int .u8 0,.int .u8 0,.int .u8 0,.int .u8 0,.int .u8 0,.int .u8 0,.int .u8 0,.int .u8 0,.int .u8 0,.int .u8 0,.int .u8 0,.int .u8 0,.int .u8 0,.int .u8 0,.int .u8 0,.int .u8 0,.int .u8 0,.int .u8 0]:Array Value)=af aw:=by rfl
       have I:Hid (ab w6 s 68 (am aw).toArray):=Ld (by rw[t,f,hz];exact ab.new _ _ _);have L:Hid (aa wr w6):=Ld (by rw[t];exact aa.al (aa.refl _) _);have J:Hid (s=wr.heap.size):=Ld f;rw[←t,←f];clear t f hz
       go_wp2_with (first
        |(refine cg 74 rfl ?_;refine eD (q:=fun k=>(Value.slice X m R).ownBlock=some k) rfl (.tmp 72) (.tmp 73) 33 33 rfl 5 underlying33 rfl s 0 64 64 X m R rfl rfl (am aw) 68 I.out (am (l.raw b k)) (by rw[ah,Z.out];exact(Nat.min_eq_left b3).symm) ⟨m,am (l.raw b k),Rd.own (L.out.own E.out) rfl,List.take_length⟩ (by rw[ah,ah,Z.out,aX.1];omega) (aM _) ?_;intro w7 F O;rw[j'.out]at F;have c0:Hid (ab w7 s 68 (af (l.sec b k))):=Ld F;have c1:=Ld O;clear F O;have z:Hid (aa wr w7):=Ld (L.out.fr c1.out (fun k H=>by have:=J.out;omega)))
        |(refine cg 76 rfl ?_;refine ac rfl _ rfl underlying68 rfl (by rw[r.out];rfl) rfl c0.out ?_)
        |(refine cg 77 rfl ?_;refine cn mU (by decide) rfl (.tmp 76) rfl (af (l.sec b k)) rfl r.out ?_)
        |(refine cg 78 rfl ?_;refine aq mU _ rfl (.tmp 75) (.tmp 77) rfl u.heap.size (.slice C k cc) k _ rfl (aa.own (aa.al z.out _) D.out) (some ⟨w7.heap.size,0,none⟩) 1 1 (am (l.sec b k)) rfl (by have h:=Rd.ofBlk (p:=fun _=>True) (ab.new w7 68 (af (l.sec b k))) 64 1 (by rw[r.out]) trivial;rwa[dR]at h) (aM _) (by unfold maxLen;omega) (by omega) (aa.al (Y.out.tr z.out) _).size ?_;intro A8 c8 w8 N M g9;have c7:=Ld M;have g4:=Ld N;clear N M g9))
       have f':Hid (aa u w8):=Ld ((aa.al (Y.out.tr z.out) _).fr c7.out (fun k H=>(ak D.out k H).1));have g5:Hid (w8.ownsRow u.heap.size 68 64 (.slice A8 (k+1) c8) (k+1) (gU l b (k+1))):=Ld (by rw[gD];exact g4.out);go_roundw
       case rel=>exact⟨k+1,A8,c8,by omega,by go_num,rfl,f',g5⟩
       case measure=>simp[intOf];omega
   ·have k':((k:Int)==0)=false:=by simp;omega
    have l4:Hid ((if k=0 then 1 else 2:Int)=2):=Ld (if_neg l');clear l'
    go_wp2_with (refine cg 49 rfl ?_;refine aq jJ _ rfl (.tmp 47) (.tmp 48) rfl b8 (.slice A3 8 c3) 8 _ rfl (aa.own (aa.al (aa.refl w3) _) U.out) (some ⟨w3.heap.size,0,none⟩) 1 1 [.int .u8 2] rfl (Rd.ofBlk (p:=fun _=>True) (ab.new w3 5 #[.int .u8 2]) 1 1 rfl trivial) (by simp[Value.oneCell']) (by unfold maxLen;omega) (by omega) (by have:=n0.out;simp;omega) ?_;intro A5 c5 w5 j7 j1 m0;have i4:=Ld j1;have g3:=Ld j7;clear j7 j1 m0)
    have i9:Hid (aa wr w5):=Ld ((aa.al i2.out _).fr i4.out (fun k H=>by have k9:=(ak U.out k H).1;have:=i3.out;omega))
    have i6:Hid (Ej u w5 l b k 0 (.slice A5 9 c5) (.slice C k cc)):=Ld ⟨HN.out.tr i9.out,by
     have e1:am (l.rawJ b k 0)=am (aY 4 gen)++am (aY 4 jn)++[.int .u8 2]:=by
      unfold LG.rawJ;rw[n3.out,l4.out];simp[am]
     rw[e1];refine iR g3.out (fun k H=>?_);have h1:=(ak g3.out k H).1;have h2:=i3.out;have h3:=HN.out.size
     omega,i9.out.own HO.out⟩
    clear g3 i4 k5 m' T k6 U k1 i7 i2;have m8:=k';clear k'
    go_wp2_with fail
    go_loopw [8,9] (fun x i wr=>∃(j i0 m:Nat) (X:Option Addr) (R:Nat),j≤55∧Hid (i0=G+j)∧Hid (m=9+j)∧i0≤fl∧m≤64∧i=.int .i64 i0∧x=.slice X m R∧Hid (Ej u wr l b k j (.slice X m R) (.slice C k cc))) (fun _ i _=>fl-(intOf i).toNat)
    case atStart=>exact⟨0,G,9,A5,c5,by omega,Ld rfl,Ld rfl,by omega,by omega,rfl,rfl,i6⟩
    case round=>
     clear i6;obtain⟨j,i,m,X,R,hj,HI,HM,p2,b3,rfl,rfl,V⟩:=hrel;have p1:(0:Int)≤(i:Int):=by omega
     by_cases c':j<55∧i<fl
     ·obtain ⟨p3,m7⟩:=c';have g1:(i:Int)<(G:Int)+55:=by have:=HI.out;omega
      have g2:(i:Int)<(fl:Int):=by omega
      have P:i<(l.frame b).length:=by rw[d'.out];exact m7
      obtain⟨x,hx⟩:=nM (at_ (l.frame b) i)
      have cx:wr.cell? ⟨gf,i,none⟩=some (.int .u8 x):=V.out.new.cell_ (n1.out i _ (by
       unfold am at_ at*;rw[List.getElem?_map,List.getElem?_eq_getElem P,hx,List.getD_eq_getElem?_getD,List.getElem?_eq_getElem P]
       rfl))
      have HS:Hid (l.rawJ b k (j+1)=l.rawJ b k j++[x]):=Ld (by
       rw[l.rawJ_succ b k j (by rw[d'.out];have:=HI.out;have:=S.out;omega),hx];have e:55*k+j=i:=by have:=HI.out;have:=S.out;omega
       rw[e])
      have E:Hid (wr.ownsRow u.heap.size 5 1 (.slice X m R) m (am (l.rawJ b k j))):=Ld (by have:=V.out.x;rwa[←HM.out]at this);have D:Hid (wr.ownsRow u.heap.size 68 64 (.slice C k cc) k (gU l b k)):=Ld V.out.out;clear hx P
      go_wp2_with (refine cg 71 rfl ?_;refine aq jJ _ rfl (.tmp 65) (.tmp 70) rfl u.heap.size (.slice X m R) m _ rfl (aa.own (aa.al (aa.refl wr) _) E.out) (some ⟨wr.heap.size,0,none⟩) 1 1 [.int .u8 x] rfl (Rd.ofBlk (p:=fun _=>True) (ab.new wr 5 #[.int .u8 x]) 1 1 rfl trivial) (by simp[Value.oneCell']) (by unfold maxLen;omega) (by omega) (aa.al V.out.new _).size ?_;intro A6 c6 w6 j8 j2 m1;have i5:=Ld j2;have l9:=Ld j8;clear j8 j2 m1)
      have c9:Hid (Ej u w6 l b k (j+1) (.slice A6 (m+1) c6) (.slice C k cc)):=Ld ⟨(aa.al V.out.new _).fr i5.out (fun k H=>(ak E.out k H).1),by
       have e1:9+(j+1)=m+1:=by have:=HM.out;omega
       have e2:am (l.rawJ b k (j+1))=am (l.rawJ b k j)++[.int .u8 x]:=by rw[HS.out];simp[am]
       rw[e1,e2]
       exact l9.out,bD (aa.own (aa.al (aa.refl wr) _) D.out) i5.out (fun j hj hs=>by
        have t1:=cJ D.out hj
        exact aO.not_own E.out (by decide) hs t1)⟩
      go_roundw
      case rel=>exact⟨j+1,i+1,m+1,A6,c6,by omega,Ld (by have:=HI.out;omega),Ld (by have:=HM.out;omega),by omega,by have:=HM.out;omega,by go_num,rfl,c9⟩
      case measure=>simp[intOf];omega
     ·have g6:Hid (l.rawJ b k j=l.raw b k):=Ld (l.rawJ_all b k j (by
       rw[d'.out];have:=HI.out;have:=S.out
       by_cases g8:j<55
       ·exact .inr ⟨hj,by have:¬i<fl:=fun h=>c' ⟨g8,h⟩;omega⟩
       ·exact .inl (by omega)))
      have E:Hid (wr.ownsRow u.heap.size 5 1 (.slice X m R) m (am (l.raw b k))):=Ld (by have:=V.out.x;rwa[←HM.out,g6.out]at this);have Z:Hid ((l.raw b k).length=m):=Ld (by have:=E.out.1;rw[ah]at this;omega);have D:Hid (wr.ownsRow u.heap.size 68 64 (.slice C k cc) k (gU l b k)):=Ld V.out.out;have b7:(af (l.sec b k)).size=64:=by rw[au,LG.sec,eY (l.raw_len b k)]
      have r:=Ld b7;have Y:Hid (aa u wr):=Ld V.out.new;have j':Hid (splice (am aw) 0 (am (l.raw b k))=am (l.sec b k)):=Ld (gV (l.raw_len b k));clear b7
      have i1:¬(i:Int)<(G:Int)+55∨((i:Int)<(G:Int)+55∧¬(i:Int)<(fl:Int)):=by
       have:=HI.out
       by_cases g8:j<55
       ·exact .inr ⟨by omega,by have:¬i<fl:=fun h=>c' ⟨g8,h⟩;omega⟩
       ·exact .inl (by omega)
      clear c' HI HM V;rcases i1 with g1|⟨g1,g2⟩
      ·go_upto_region 15 with fail
       obtain⟨w6,t⟩:=nM (wr.alloc (.cells #[.int .u8 0,.int .u8 0,.int .u8 0,.int .u8 0,.int .u8 0,.int .u8 0,.int .u8 0,.int .u8 0,.int .u8 0,.int .u8 0,.int .u8 0,.int .u8 0,.int .u8 0,.int .u8 0,.int .u8 0,.int .u8 0,.int .u8 0,.int .u8 0,.int .u8 0,.int .u8 0,.int .u8 0,.int .u8 0,.int .u8 0,.int .u8 0,.int .u8 0,.int .u8 0,.int .u8 0,.int .u8 0,.int .u8 0,.int .u8 0,.int .u8 0,.int .u8 0,.int .u8 0,.int .u8 0,.int .u8 0,.int .u8 0,.int .u8 0,.int .u8 0,.int .u8 0,.int .u8 0,.int .u8 0,.int .u8 0,.int .u8 0,.int .u8 0,.int .u8 0,.int .u8 0,.int .u8 0,.int .u8 0,.int .u8 0,.int .u8 0,.int .u8 0,.int .u8 0,.int .u8 0,.int .u8 0,.int .u8 0,.int .u8 0,.int .u8 0,.int .u8 0,.int .u8 0,.int .u8 0,.int .u8 0,.int .u8 0,.int .u8 0,.int .u8 0] 68):World);obtain⟨s,f⟩:=nM (wr.heap.size);have hz:(#[.int .u8 0,.int .u8 0,.int .u8 0,.int .u8 0,.int .u8 0,.int .u8 0,.int .u8 0,.int .u8 0,.int .u8 0,.int .u8 0,.int .u8 0,.int .u8 0,.int .u8 0,.int .u8 0,.int .u8 0,.int .u8 0,.int .u8 0,.int .u8 0,.int .u8 0,.int .u8 0,.int .u8 0,.int .u8 0,.int .u8 0,.int .u8 0,.int .u8 0,.int .u8 0,.int .u8 0,.int .u8 0,.int .u8 0,.int .u8 0,.int .u8 0,.int .u8 0,.int .u8 0,.int .u8 0,.int .u8 0,.int .u8 0,.int .u8 0,.int .u8 0,.int .u8 0,.int .u8 0,.int .u8 0,.int .u8 0,.int .u8 0,.int .u8 0,.int .u8 0,.int .u8 0,.int .u8 0,.int .u8 0,.int .u8 0,.int .u8 0,.int .u8 0,.int .u8 0,.int .u8 0,.int .u8 0,.int .u8 0,.int .u8 0,.int .u8 0,.int .u8 0,.int .u8 0,.int .u8 0,.int .u8 0,.int .u8 0,.int .u8 0,.int .u8 0]:Array Value)=af aw:=by rfl
       have I:Hid (ab w6 s 68 (am aw).toArray):=Ld (by rw[t,f,hz];exact ab.new _ _ _);have L:Hid (aa wr w6):=Ld (by rw[t];exact aa.al (aa.refl _) _);have J:Hid (s=wr.heap.size):=Ld f;rw[←t,←f];clear t f hz
       go_wp2_with (first
        |(refine cg 74 rfl ?_;refine eD (q:=fun k=>(Value.slice X m R).ownBlock=some k) rfl (.tmp 72) (.tmp 73) 33 33 rfl 5 underlying33 rfl s 0 64 64 X m R rfl rfl (am aw) 68 I.out (am (l.raw b k)) (by rw[ah,Z.out];exact(Nat.min_eq_left b3).symm) ⟨m,am (l.raw b k),Rd.own (L.out.own E.out) rfl,List.take_length⟩ (by rw[ah,ah,Z.out,aX.1];omega) (aM _) ?_;intro w7 F O;rw[j'.out]at F;have c0:Hid (ab w7 s 68 (af (l.sec b k))):=Ld F;have c1:=Ld O;clear F O;have z:Hid (aa wr w7):=Ld (L.out.fr c1.out (fun k H=>by have:=J.out;omega)))
        |(refine cg 76 rfl ?_;refine ac rfl _ rfl underlying68 rfl (by rw[r.out];rfl) rfl c0.out ?_)
        |(refine cg 77 rfl ?_;refine cn mU (by decide) rfl (.tmp 76) rfl (af (l.sec b k)) rfl r.out ?_)
        |(refine cg 78 rfl ?_;refine aq mU _ rfl (.tmp 75) (.tmp 77) rfl u.heap.size (.slice C k cc) k _ rfl (aa.own (aa.al z.out _) D.out) (some ⟨w7.heap.size,0,none⟩) 1 1 (am (l.sec b k)) rfl (by have h:=Rd.ofBlk (p:=fun _=>True) (ab.new w7 68 (af (l.sec b k))) 64 1 (by rw[r.out]) trivial;rwa[dR]at h) (aM _) (by unfold maxLen;omega) (by omega) (aa.al (Y.out.tr z.out) _).size ?_;intro A8 c8 w8 N M g9;have c7:=Ld M;have g4:=Ld N;clear N M g9))
       have f':Hid (aa u w8):=Ld ((aa.al (Y.out.tr z.out) _).fr c7.out (fun k H=>(ak D.out k H).1));have g5:Hid (w8.ownsRow u.heap.size 68 64 (.slice A8 (k+1) c8) (k+1) (gU l b (k+1))):=Ld (by rw[gD];exact g4.out);go_roundw
       case rel=>exact⟨k+1,A8,c8,by omega,by go_num,rfl,f',g5⟩
       case measure=>simp[intOf];omega
      ·go_upto_region 15 with fail
       obtain⟨w6,t⟩:=nM (wr.alloc (.cells #[.int .u8 0,.int .u8 0,.int .u8 0,.int .u8 0,.int .u8 0,.int .u8 0,.int .u8 0,.int .u8 0,.int .u8 0,.int .u8 0,.int .u8 0,.int .u8 0,.int .u8 0,.int .u8 0,.int .u8 0,.int .u8 0,.int .u8 0,.int .u8 0,.int .u8 0,.int .u8 0,.int .u8 0,.int .u8 0,.int .u8 0,.int .u8 0,.int .u8 0,.int .u8 0,.int .u8 0,.int .u8 0,.int .u8 0,.int .u8 0,.int .u8 0,.int .u8 0,.int .u8 0,.int .u8 0,.int .u8 0,.int .u8 0,.int .u8 0,.int .u8 0,.int .u8 0,.int .u8 0,.int .u8 0,.int .u8 0,.int .u8 0,.int .u8 0,.int .u8 0,.int .u8 0,.int .u8 0,.int .u8 0,.int .u8 0,.int .u8 0,.int .u8 0,.int .u8 0,.int .u8 0,.int .u8 0,.int .u8 0,.int .u8 0,.int .u8 0,.int .u8 0,.int .u8 0,.int .u8 0,.int .u8 0,.int .u8 0,.int .u8 0,.int .u8 0] 68):World);obtain⟨s,f⟩:=nM (wr.heap.size);have hz:(#[.int .u8 0,.int .u8 0,.int .u8 0,.int .u8 0,.int .u8 0,.int .u8 0,.int .u8 0,.int .u8 0,.int .u8 0,.int .u8 0,.int .u8 0,.int .u8 0,.int .u8 0,.int .u8 0,.int .u8 0,.int .u8 0,.int .u8 0,.int .u8 0,.int .u8 0,.int .u8 0,.int .u8 0,.int .u8 0,.int .u8 0,.int .u8 0,.int .u8 0,.int .u8 0,.int .u8 0,.int .u8 0,.int .u8 0,.int .u8 0,.int .u8 0,.int .u8 0,.int .u8 0,.int .u8 0,.int .u8 0,.int .u8 0,.int .u8 0,.int .u8 0,.int .u8 0,.int .u8 0,.int .u8 0,.int .u8 0,.int .u8 0,.int .u8 0,.int .u8 0,.int .u8 0,.int .u8 0,.int .u8 0,.int .u8 0,.int .u8 0,.int .u8 0,.int .u8 0,.int .u8 0,.int .u8 0,.int .u8 0,.int .u8 0,.int .u8 0,.int .u8 0,.int .u8 0,.int .u8 0,.int .u8 0,.int .u8 0,.int .u8 0,.int .u8 0]:Array Value)=af aw:=by rfl
       have I:Hid (ab w6 s 68 (am aw).toArray):=Ld (by rw[t,f,hz];exact ab.new _ _ _);have L:Hid (aa wr w6):=Ld (by rw[t];exact aa.al (aa.refl _) _);have J:Hid (s=wr.heap.size):=Ld f;rw[←t,←f];clear t f hz
       go_wp2_with (first
        |(refine cg 74 rfl ?_;refine eD (q:=fun k=>(Value.slice X m R).ownBlock=some k) rfl (.tmp 72) (.tmp 73) 33 33 rfl 5 underlying33 rfl s 0 64 64 X m R rfl rfl (am aw) 68 I.out (am (l.raw b k)) (by rw[ah,Z.out];exact(Nat.min_eq_left b3).symm) ⟨m,am (l.raw b k),Rd.own (L.out.own E.out) rfl,List.take_length⟩ (by rw[ah,ah,Z.out,aX.1];omega) (aM _) ?_;intro w7 F O;rw[j'.out]at F;have c0:Hid (ab w7 s 68 (af (l.sec b k))):=Ld F;have c1:=Ld O;clear F O;have z:Hid (aa wr w7):=Ld (L.out.fr c1.out (fun k H=>by have:=J.out;omega)))
        |(refine cg 76 rfl ?_;refine ac rfl _ rfl underlying68 rfl (by rw[r.out];rfl) rfl c0.out ?_)
        |(refine cg 77 rfl ?_;refine cn mU (by decide) rfl (.tmp 76) rfl (af (l.sec b k)) rfl r.out ?_)
        |(refine cg 78 rfl ?_;refine aq mU _ rfl (.tmp 75) (.tmp 77) rfl u.heap.size (.slice C k cc) k _ rfl (aa.own (aa.al z.out _) D.out) (some ⟨w7.heap.size,0,none⟩) 1 1 (am (l.sec b k)) rfl (by have h:=Rd.ofBlk (p:=fun _=>True) (ab.new w7 68 (af (l.sec b k))) 64 1 (by rw[r.out]) trivial;rwa[dR]at h) (aM _) (by unfold maxLen;omega) (by omega) (aa.al (Y.out.tr z.out) _).size ?_;intro A8 c8 w8 N M g9;have c7:=Ld M;have g4:=Ld N;clear N M g9))
       have f':Hid (aa u w8):=Ld ((aa.al (Y.out.tr z.out) _).fr c7.out (fun k H=>(ak D.out k H).1));have g5:Hid (w8.ownsRow u.heap.size 68 64 (.slice A8 (k+1) c8) (k+1) (gU l b (k+1))):=Ld (by rw[gD];exact g4.out);go_roundw
       case rel=>exact⟨k+1,A8,c8,by omega,by go_num,rfl,f',g5⟩
       case measure=>simp[intOf];omega
  ·have p4:k=K:=by omega
   subst p4;have p5:¬55*(k:Int)<(fl:Int):=by have:=HK.out;have:=b'.out;omega
   go_wp2_with fail
   go_ret;exact⟨⟨C,cc,rfl,iR HO.out (fun j hj=>by have:=(ak HO.out j hj).1;have:=b0.out.size;have:=k2.out.size;omega)⟩,(k2.out.tr b0.out).tr HN.out⟩
def ff(n k i:Nat):Nat:=if i+1=k then 9+(n+19)%55+1 else 64
theorem rS{l:LG}{b:List Int}{n k i:Nat}(c:b.length=n)(d:k=(n+74)/55)(hi:i<k):(l.raw b i).length=ff n k i:=by
 unfold LG.raw ff;rw[List.length_append,LG.hdr_len,List.length_take,List.length_drop,LG.frame_len,c]
 by_cases h:i+1=k
 ·rw[if_pos h];omega
 ·rw[if_neg h];omega
theorem wh(n k i:Nat):ff n k i≤64:=by unfold ff;split<;>omega
theorem oW{l:LG}{b:List Int}{n k i:Nat}(c:b.length=n)(d:k=(n+74)/55)(hi:i<k):(l.sec b i).take (ff n k i)=l.raw b i:=by
 have h:=rS (l:=l) c d hi;unfold LG.sec ft;rw[List.take_append_of_le_length (by omega),←h,List.take_length]
theorem gM{p:DP}(b:p.Ok)(l:LG):∀(k i:Nat),i<k→((aP p l k).drop (55*i)).take 55=(sct p l i).drop 9
 | 0,i,hi=>absurd hi (by omega)
 |k+1,i,hi=>by
  rw[im];have hl:=eR b l k;have c:((sct p l k).drop 9).length=55:=by rw[List.length_drop,(lk b l k).1]
  by_cases h:i=k
  ·subst h;rw[List.drop_append_of_le_length (by omega),List.drop_of_length_le (by omega),List.nil_append,List.take_of_length_le (by omega)]
  ·rw[List.drop_append_of_le_length (by omega),List.take_append_of_le_length (by rw[List.length_drop];omega)];exact gM b l k i (by omega)
theorem mx:∀(k:Nat) (x y:List Int),x.length≤55*k→y.length≤55*k→(∀i,i<k→(x.drop (55*i)).take 55=(y.drop (55*i)).take 55)→x=y
 | 0,x,y,b,c,_=>by
  have h1:x=[]:=List.eq_nil_of_length_eq_zero (by omega);have h2:y=[]:=List.eq_nil_of_length_eq_zero (by omega);rw[h1,h2]
 |k+1,x,y,b,c,h=>by
  have h0:=h 0 (by omega);rw[Nat.mul_zero,List.drop_zero,List.drop_zero]at h0
  have h1:x.drop 55=y.drop 55:=mx k _ _ (by rw[List.length_drop];omega) (by rw[List.length_drop];omega) fun i hi=>by
   have h2:=h (i+1) (by omega);rw[List.drop_drop,List.drop_drop]
   rwa[show 55+55*i=55*(i+1) by omega]
  rw[←List.take_append_drop 55 x,←List.take_append_drop 55 y,h0,h1]
section
variable {p:DP}{l:LG}{n k:Nat}
theorem uH(c:p.Ok)(g:n=l.many p)(b:1≤k):(aP p l k).take 4=aY 4 n:=by
 have h0:=gM c l k 0 b;rw[Nat.mul_zero,List.drop_zero]at h0
 have d:(aP p l k).take 4=((sct p l 0).drop 9).take 4:=by
  rw[←h0,List.take_take];rfl
 have f:aU ((aP p l k).take 4):=fun x j=>kY c l k x (List.mem_of_mem_take j)
 have hl:((aP p l k).take 4).length=4:=by rw[List.length_take,eR c];omega
 have i:aQ ((aP p l k).take 4)=n:=by rw[d,g];rfl
 have:=sQ _ f;rw[hl,i]at this;exact this.symm
theorem mV(f:p.Ok)(b:n=l.many p)(c:k=ay n)(d:k≠0):(aP p l k).take (20+n)=aY 4 n++((aP p l k).drop 4).take 16++l.body p:=by
 have h1:=uH (l:=l) (k:=k) f b (by omega);have h2:l.body p=((aP p l k).drop 20).take n:=by unfold LG.body;rw[←b,←c]
 rw[h2,←h1,show 20+n=4+(16+n) by omega,List.take_add,List.take_add,List.append_assoc,List.drop_drop]
theorem kG(j:p.Ok)(g:n=l.many p)(f:k=ay n)(h:l.Next p):∀i,i<k→(sct p l i).take (ff n k i)=(l.sec (l.body p) i).take (ff n k i):=fun i hi=>by
 have b:k≠0:=by omega
 have t:=dO (n:=n) (by rw[←f];exact b);have c:k=(n+74)/55:=by omega
 have m:(l.body p).length=n:=by rw[LG.body_len j h.pos,g]
 have o:(aP p l k).take (20+n)=l.frame (l.body p):=by
  rw[mV j g f b,LG.frame,m];have:=h.tag;rw[←g,←f]at this;rw[this]
 have d:=rS (l:=l) m c hi;rw[oW m c hi,←d];have u:=h.hdr i (by rw[←g,←f];exact hi);have v:ff n k i=9+(ff n k i-9):=by unfold ff;split<;>omega
 rw[d,v,List.take_add,u];unfold LG.raw
 congr 1
 have r:=gM j l k i hi;rw[←o,←r,List.take_take];have q:ff n k i-9≤55:=by have:=wh n k i;omega
 rw[Nat.min_eq_left q];have s:=eR j l k;have:((aP p l k).take (20+n)).drop (55*i)=((aP p l k).drop (55*i)).take (20+n-55*i):=by rw[List.drop_take]
 rw[this,List.take_take]
 congr 1
 unfold ff;split<;>omega
theorem kJ(o:p.Ok)(f:n=l.many p)(d:k=ay n)(b:k≠0)(u:l.used<l.size)(t:l.used+k≤l.size)(h:∀i,i<k→(sct p l i).take (ff n k i)=(l.sec (l.body p) i).take (ff n k i)):l.Next p:=by
 have s:=dO (n:=n) (by rw[←d];exact b);have r:k=(n+74)/55:=by omega
 have q:(l.body p).length=n:=by rw[LG.body_len o (by rw[←f,←d];exact b),f]
 have m:=eR o l k;have c:∀i,i<k→(sct p l i).take (ff n k i)=l.raw (l.body p) i:=fun i hi=>by rw[h i hi,oW q r hi]
 have j:∀i,i<k→(sct p l i).take 9=l.hdr i:=fun i hi=>by
  have h1:=congrArg (List.take 9) (c i hi);rw[List.take_take]at h1;have h2:min 9 (ff n k i)=9:=by unfold ff;split<;>omega
  rw[h2]at h1;rw[h1];unfold LG.raw;rw[List.take_append_of_le_length (by rw[LG.hdr_len];exact Nat.le_refl _),List.take_of_length_le (by rw[LG.hdr_len];exact Nat.le_refl _)]
 have g:(aP p l k).take (20+n)=l.frame (l.body p):=by
  refine mx k _ _ (by rw[List.length_take];omega) (by rw[LG.frame_len,q];omega) fun i hi=>?_
  have h1:=congrArg (List.drop 9) (c i hi)
  have h2:(l.raw (l.body p) i).drop 9=((l.frame (l.body p)).drop (55*i)).take 55:=by
   unfold LG.raw;rw[List.drop_append_of_le_length (by rw[LG.hdr_len];exact Nat.le_refl _),List.drop_of_length_le (by rw[LG.hdr_len];exact Nat.le_refl _),List.nil_append]
  rw[h2,List.drop_take]at h1;rw[←h1,←gM o l k i hi,List.take_take,List.drop_take,List.take_take]
  congr 1
  unfold ff;split<;>omega
 refine⟨u,by rw[←f,←d];exact b,by rw[←f,←d];exact t,by rw[←f,←d];exact j,?_⟩;rw[←f,←d];rw[mV o f d b,LG.frame,q]at g;have h1:=List.append_inj g (by rw[List.length_append,List.length_append,av,eN,List.length_take,List.length_drop,m];omega);exact(List.append_inj h1.1 rfl).2
end
end Go.Proofs.YtfchcdbfalgdlaaGreatDoor
