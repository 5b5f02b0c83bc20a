/- Texts of one proof. No condition but each one's own. -/
import Derived.Test.YtfchcdbfalgdlaaGreatDoorSweepPlaysM14
import Derived.Test.YtfchcdbfalgdlaaGreatDoorSweepPlaysM16
import Derived.WalkArith
set_option maxHeartbeats 4000000
set_option maxRecDepth 100000
set_option linter.unusedVariables false
set_option linter.unusedSimpArgs false
namespace Go.Proofs.YtfchcdbfalgdlaaGreatDoor
open _root_.Go.Proofs.Tryz
open Go.RowKit Go.Sort
def qU(r:Option (List Int))(w:World)(e:Ending)(w':World):Prop:=
 match r with
 |none=>e=.returned (.slice none 0 0)/\aa w w'
 |some b=>∃g o c,e=.returned (.slice (some ⟨g,o,none⟩) b.length c)/\b.length<=c/\c<=maxLen/\ba b/\Rd (RB w.heap.size w') w' 1 (some ⟨g,o,none⟩) b.length (an b)/\aa w w'
theorem we{w:World}{g T o n:Nat}{s:List Int}(c:ac w g T (ag s))(h:o+n<=s.length):Rd (λ_=>True) w 1 (some ⟨g,o,none⟩) n (an ((s.drop o).take n)):=
 ⟨by rw [ak,List.length_take,List.length_drop];omega,λ_=>⟨_,rfl,trivial,c.lt,λj u hu=>by
  have d:=(List.getElem?_eq_some_iff.1 hu).1;rw[ak,List.length_take,List.length_drop]at d
  have e:(⟨g,o,none⟩:Addr).add j=⟨g,o+j,none⟩:=by
   unfold Addr.add
   by_cases b:j=0<;>simp[b]
  rw[e,c.cell];unfold ag;rw[List.getElem?_toArray,<-hu];unfold an
  rw[List.getElem?_map,List.getElem?_map,List.getElem?_take_of_lt (by omega),List.getElem?_drop]⟩⟩
theorem gQ(s:List Int){j:Nat}(h:j<s.length):s.take (j+1)=s.take j++[at_ s j]:=by
 unfold at_;rw[List.take_succ_eq_append_getElem h,List.getD_eq_getElem?_getD,List.getElem?_eq_getElem h];rfl
theorem qh(l:LG)(b:List Int){i j:Nat}(d:j<64):∀{k:Nat},i<k->(iu l b k)[i*64+j]?=some (.int .u8 (at_ (l.sec b i) j))
 | 0,h=>absurd h (by omega)
 |k+1,h=>by
  have hl:∀k,(iu l b k).length=k*64:=λk=>by
   induction k with
   |zero=>rfl
   |succ k g=>rw[gY,List.length_append,g,ak,LG.sec,fD (l.raw_len b k)];omega
  rw[gY]
  by_cases f:i=k
  ·subst f;rw [List.getElem?_append_right (by rw [hl];omega),hl];have e:i*64+j-i*64=j:=by omega
   have c:(l.sec b i).length=64:=by rw[LG.sec,fD (l.raw_len b i)]
   rw[e];unfold an at_;rw[List.getElem?_map,List.getElem?_eq_getElem (by omega),List.getD_eq_getElem?_getD,List.getElem?_eq_getElem (by omega)];rfl
  ·rw[List.getElem?_append_left (by rw[hl];omega)];exact qh l b d (by omega)
structure GS(w wr:World)(p:DP)(l:LG)(k:Nat)(v:Value):Prop where
 new:aa w wr
 own:wr.ownsRow w.heap.size 5 1 v (55*k) (an (aT p l k))
theorem Ac{w:World}{p:DP}{l:LG}(r:RP)(A1:Option Addr)(c1:Nat)(A2:Option Addr)(c2:Nat)(A:Option Addr)(c:Nat)(hr:fp w r A1 A2)(hM:Mt p r)(hp:p.Ok)(hn:r.tot<=1000000)(hI:jZ w l A)(hl:l.Ok p.size)(hL:cX 3 1 w):
    Calls prog 123 #[.agg (gI r A1 c1 A2 c2),.agg (od l A c)] w (qU (nextL p l) w):=by
 have r4:=hp.s2;have b8:=hl.fit;have i5:=hl.used;have g9:=Ld hp;have HL:=Ld hL;have HI:=Ld hI;have G:Hid (∀i,aS (sct p l i)):=Ld λi=>lX hp l i
 obtain⟨XR,j5⟩:=nM (gI r A1 c1 A2 c2);obtain⟨XL,j4⟩:=nM (od l A c)
 have l3:Hid (∀i (a:Int),a=((l.first+l.used+i:Nat):Int)->l.used+i<l.size->∀W,aa w W->Calls prog 121 #[.agg XR,.int .i64 a] W λe w'=>e=.returned (.tuple #[.agg (ag (sct p l i)),.int .i64 0])/\aa W w'):=Ld λi a ha hi W hN=>by
  subst ha;have s6:p.within ((l.first+l.used+i:Nat):Int)=true:=by unfold DP.within;exact decide_eq_true (by omega)
  have h:=nz r A1 c1 A2 c2 ((l.first+l.used+i:Nat):Int) W (hr.new hN) hn (WalkArith.wf_i64 (by omega)) (by rw[hM.size];omega);rw[hM.rget,hM.rcode,DP.rcode,s6,if_pos rfl]at h;rw[j5];exact h
 have k4:Hid (∀(B:Option Addr) (n d:Nat) (b:List Int) W,aa w W->Rd (λ_=>True) W 1 B n (an b)->ba b->n<=70000->∀K,K=(n+74)/55->Calls prog 130 #[.agg XL,.slice B n d] W λe w'=>(∃C cc,e=.returned (.slice C K cc)/\w'.ownsRow W.heap.size 68 64 (.slice C K cc) K (iu l b K))/\aa W w'):=Ld λB n d b W hN hR hb h7 K hK=>by
  rw[j4];exact pT l A c B n d b (hL.new hN) (hI.new hN) hR hb h7 K hK
 obtain⟨us,n1⟩:=nM (l.used);obtain⟨fs,m4⟩:=nM (l.first);obtain⟨sz,c0⟩:=nM (l.size);have P:Hid (us=l.used/\fs=l.first/\sz=l.size):=Ld ⟨n1,m4,c0⟩;have j2:Hid (XL[0]?=some (.int .i64 fs)/\XL[1]?=some (.int .i64 sz)/\XL[2]?=some (.int .i64 us)/\XL.size=6):=Ld (by rw[j4,n1,m4,c0];exact⟨rfl,rfl,rfl,rfl⟩);have l8:Hid (XR.size=5):=Ld (by rw[j5];rfl);obtain⟨NX,m'⟩:=nM (nextL p l);rw[<-j5,<-j4,<-m'];have c3:=Ld m';have u1:us<=sz:=by omega
 have u0:fs+sz<=16384:=by omega
 clear hr hM hp hn hI hl hL j5 j4 m' n1 m4 c0 r4 b8 i5
 go_enter func123,ntmps123
 go_upto_region 1 with fail;obtain⟨Y,i6⟩:=nM ((w.alloc (.cells XR 65)).alloc (.cells XL 75):World);obtain⟨b2,m0⟩:=nM (w.heap.size);obtain⟨b3,m1⟩:=nM (w.heap.size+1);have E:Hid (aa w Y):=Ld (by rw[i6];exact aa.al (aa.al (aa.refl _) _) _);have k2:Hid (ac Y b2 65 XR):=Ld (by rw[i6,m0];exact(ac.new _ _ _).alloc _);have n3:Hid (ac Y b3 75 XL):=Ld (by rw[i6,m1];exact ac.new' _ _ _ (by simp));rw[<-i6,<-m1,<-m0];clear i6 m0 m1
 have HC:Hid (∀W,aa Y W->W.cell? ⟨b3,0,none⟩=some (.int .i64 fs)/\W.cell? ⟨b3,1,none⟩=some (.int .i64 sz)/\W.cell? ⟨b3,2,none⟩=some (.int .i64 us)):=Ld λW hN=>by
  have h:=hN.blk n3.out;exact⟨by rw[h.cell,j2.out.1],by rw[h.cell,j2.out.2.1],by rw[h.cell,j2.out.2.2.1]⟩
 obtain⟨c4,c5,c7⟩:=HC.out Y (aa.refl _)
 by_cases h0:us<sz
 rotate_left
 ·have HN:Hid (NX=none):=Ld (by rw[c3.out];exact cM (λH=>by have:=H.room;have:=P.out;omega))
  go_wp2_with fail;go_ret;rw[HN.out];exact⟨rfl,E.out⟩
 obtain⟨fu,q4⟩:=nM (fs+us);have e1:(fs:Int)+(us:Int)=(fu:Int):=by omega
 have e2:IntKind.i64.wrap (fu:Int)=(fu:Int):=IntWalk.i64_in _ (by omega);have k5:Hid (fu=l.first+l.used):=Ld (by have:=P.out;omega);have q5:fu<=16384:=by omega
 clear q4;have s7:Hid (∀i,(ag (sct p l i)).size=64):=Ld λi=>by rw[aq,(G.out i).1]
 go_upto_region 4 with (first
  |(refine cE 26 rfl ?_;refine ae rfl _ rfl underlying65 rfl (by rw[l8.out];rfl) rfl k2.out ?_)
  |(go_at_call 121;refine(l3.out 0 (fu:Int) (by rw[Nat.add_zero,<-k5.out]) (by have:=P.out;omega) Y E.out).mono ?_;rintro e w1 ⟨rfl,V⟩;have g6:=Ld V;clear V)
  |(refine cE 5 rfl ?_;refine aH (s:=sct p l 0) rfl rfl rfl _ _ rfl bO rfl rfl rfl (G.out 0).1 ?_))
 obtain⟨w2,f'⟩:=nM (w1.alloc (.cells (ag (sct p l 0)) 68):World);obtain⟨b5,m2⟩:=nM (w1.heap.size);have p':Hid (ac w2 b5 68 (ag (sct p l 0))):=Ld (by rw[f',m2];exact ac.new _ _ _);have j1:Hid (aa Y w2):=Ld (by rw[f'];exact aa.al g6.out _);rw[<-f',<-m2];clear f' m2 c4 c5 c7;obtain⟨u,j6⟩:=nM (l.many p);have T:=Ld j6;obtain⟨N,hN⟩:=nM (aA u);have F:=Ld hN;have q0:N<=1193:=by rw[hN];exact iO u
 have m8:u<4294967296:=by
  have p8:=(G.out 0).1;have:=fm (xs:=((sct p l 0).drop 9).take 4) (λx H=>(G.out 0).2 x (List.mem_of_mem_drop (List.mem_of_mem_take H)));rw[List.length_take,List.length_drop,p8]at this;rw[j6];exact this
 have l7:Hid (aU (((sct p l 0).drop 9).take 4)=u):=Ld (by rw[j6];rfl);have em:IntKind.i64.wrap (u:Int)=(u:Int):=IntWalk.i64_in _ (by omega);have m7:(u:Int)<4294967296:=by omega
 clear j6 hN m8
 go_wp2_with fail;refine(ib (some ⟨b5,9,none⟩) 4 55 (((sct p l 0).drop 9).take 4) w2 (we p'.out (by rw[(G.out 0).1];decide)) (λx H=>(G.out 0).2 x (List.mem_of_mem_drop (List.mem_of_mem_take H))) (by omega)).mono ?_;rintro e w' ⟨rfl,rfl⟩;rw[l7.out]
 go_wp2_with fail;refine(fS (u:Int) w2).mono ?_;rintro e w' ⟨rfl,rfl⟩;rw[jM,<-F.out];clear em m7;obtain⟨c4,c5,c7⟩:=HC.out w2 j1.out
 by_cases i0:N=0
 ·have HN:Hid (NX=none):=Ld (by rw[c3.out];exact cM (λH=>H.pos (by rw[<-T.out,<-F.out,i0])));subst i0
  go_wp2_with fail;go_ret;rw[HN.out];exact⟨rfl,E.out.tr j1.out⟩
 have q':((N:Int)==0)=false:=by simp;omega
 by_cases b8:us+N<=sz
 rotate_left
 ·have HN:Hid (NX=none):=Ld (by rw [c3.out];exact cM (λH=>b8 (by have:=H.fit;rw [<-T.out,<-F.out] at this;have:=P.out;omega)));have g1:(sz:Int)<(us:Int)+(N:Int):=by omega
  clear i0
  go_wp2_with fail;go_ret;rw[HN.out];exact⟨rfl,E.out.tr j1.out⟩
 have g1:¬(sz:Int)<(us:Int)+(N:Int):=by omega
 have U:=Ld i0;clear i0;have n8:Hid (GS Y w2 p l 0 (.slice none 0 0)):=Ld ⟨j1.out,World.ownsRow_nil _ _ _ _⟩
 go_wp2_with fail;go_loopw [9,10] (λf i wr=>∃(k m:Nat) (A:Option Addr) (d:Nat),k<=N/\Hid (m=55*k)/\m<=66000/\i=.int .i64 k/\f=.slice A m d/\Hid (GS Y wr p l k (.slice A m d))) (λ_ i _=>N-(intOf i).toNat)
 case atStart=>exact⟨0,0,none,0,Nat.zero_le _,Ld rfl,by omega,rfl,rfl,n8⟩
 case round=>
  clear n8 c4 c5 c7;obtain⟨k,m,A3,d,hk,HM,hm,rfl,rfl,Z⟩:=hrel;obtain⟨c4,c5,c7⟩:=HC.out wr Z.out.new;have b':Hid (ac wr b2 65 XR):=Ld (Z.out.new.blk k2.out)
  by_cases c9:k<N
  ·obtain ⟨a,ha⟩:=nM (fu+k);have f1:(fu:Int)+(k:Int)=(a:Int):=by omega
   have f2:IntKind.i64.wrap (a:Int)=(a:Int):=IntWalk.i64_in _ (by omega);have HA:Hid (a=l.first+l.used+k):=Ld (by have:=k5.out;omega);have m6:(k:Int)<(N:Int):=by omega
   have q8:(0:Int)<=(k:Int):=by omega
   have o9:Hid (((sct p l k).drop 9).length=55):=Ld (by rw[List.length_drop,(G.out k).1]);clear ha
   go_upto_region 13 with (first
    |(refine cE 57 rfl ?_;refine ae rfl _ rfl underlying65 rfl (by rw[l8.out];rfl) rfl b'.out ?_)
    |(go_at_call 121;refine(l3.out k (a:Int) (by rw[<-HA.out]) (by have:=P.out;omega) wr (E.out.tr Z.out.new)).mono ?_;rintro e w1 ⟨rfl,V⟩;have g6:=Ld V;clear V)
    |(refine cE 11 rfl ?_;refine aH (s:=sct p l k) rfl rfl rfl _ _ rfl bO rfl rfl rfl (G.out k).1 ?_))
   obtain⟨w4,j7⟩:=nM (w1.alloc (.cells (ag (sct p l k)) 68):World);obtain⟨l9,b1⟩:=nM (w1.heap.size);have k':Hid (ac w4 l9 68 (ag (sct p l k))):=Ld (by rw[j7,b1];exact ac.new _ _ _);have k7:Hid (aa wr w4):=Ld (by rw[j7];exact aa.al g6.out _);rw[<-j7,<-b1];clear j7 b1;have n9:Hid (w4.ownsRow Y.heap.size 5 1 (.slice A3 m d) m (an (aT p l k))):=Ld (by have:=k7.out.own Z.out.own;rwa[<-HM.out]at this)
   have l4:Hid (Rd (λ_=>True) w4 1 (some ⟨l9,9,none⟩) 55 (an ((sct p l k).drop 9))):=Ld (by
    have h:=we (o:=9) (n:=55) k'.out (by rw[(G.out k).1];decide)
    rwa[List.take_of_length_le (by rw[o9.out];exact Nat.le_refl _)]at h)
   go_wp2_with (refine cE 70 rfl ?_;refine av kB _ rfl (.tmp 68) (.tmp 69) rfl Y.heap.size (.slice A3 m d) m _ rfl n9.out (some ⟨l9,9,none⟩) 55 55 (an ((sct p l k).drop 9)) rfl l4.out (aR _) (by unfold maxLen;omega) (by omega) (Z.out.new.tr k7.out).size ?_;intro A6 c6 w6 o4 o1 p9;have p1:=Ld o1;have p5:=Ld o4;clear o4 o1 p9)
   have k6:Hid (m+55=55*(k+1)):=Ld (by have:=HM.out;omega)
   have p6:Hid (GS Y w6 p l (k+1) (.slice A6 (m+55) c6)):=Ld ⟨(Z.out.new.tr k7.out).fr p1.out (λk hk=>(am n9.out k hk).1),by
    rw[<-k6.out,iK];have:=p5.out;unfold an at this⊢;rw[List.map_append]
    exact this⟩
   go_roundw
   case rel=>exact⟨k+1,m+55,A6,c6,by omega,k6,by have:=k6.out;omega,by go_num,rfl,p6⟩
   case measure=>simp[intOf];omega
  ·have i4:k=N:=by omega
   have o6:¬(k:Int)<(N:Int):=by omega
   rw[i4]at Z HM;clear i4 hk c9;have c':=eo (n:=u) (by rw[<-F.out];exact U.out);have m3:20+u<=m:=by have:=HM.out;have:=F.out;omega
   have r0:1<=u:=c'.1;have r1:u<=65536:=c'.2.1;obtain⟨g,d',hv,o7,t'⟩:=dv Z.out.own (by have:=HM.out;omega);injection hv with r5 r6 r7;subst r5 r7;have o7:m<=d:=by have:=HM.out;omega
   obtain⟨X,r'⟩:=nM (20+u);have f1:(20:Int)+(u:Int)=(X:Int):=by omega
   have f2:IntKind.i64.wrap (X:Int)=(X:Int):=IntWalk.i64_in _ (by omega);have f3:X-20=u:=by omega
   have f4:¬d=20:=by omega
   have f5:X<=d:=by omega
   have f6:20<=X:=by omega
   have f7:(X:Int)<=(d:Int):=by omega
   have f8:(20:Int)<=(X:Int):=by omega
   obtain⟨D,i1⟩:=nM (l.body p);have p0:Hid (D=((aT p l N).drop 20).take u):=Ld (by rw[i1,LG.body,<-T.out,<-F.out]);have k3:Hid (D.length=u):=Ld (by rw[i1,LG.body_len g9.out (by rw[<-T.out,<-F.out];exact U.out),T.out]);have n5:Hid (ba D):=Ld (by rw[i1];exact LG.body_byt g9.out l);have i7:=Ld i1
   have l1:Hid (Rd (RB Y.heap.size wr) wr 1 (some ⟨g,20,none⟩) u (an D)):=Ld (by
    have h:=((Rd.own Z.out.own (by rw[HM.out])).imp (q:=RB Y.heap.size wr) (λk hk=>⟨(am Z.out.own k hk).1,cY Z.out.own hk⟩)).drop (k:=20) (cap:=d) (by rw[<-HM.out];omega) (by rw[<-HM.out];exact o7);rw[if_neg f4]at h
    have h2:Rd (RB Y.heap.size wr) wr 1 (some ⟨g,20,none⟩) (55*N-20) (an ((aT p l N).drop 20)):=by
     have e:an ((aT p l N).drop 20)=(an (aT p l N)).drop (20*1):=by unfold an;rw[List.map_drop]
     rw[e];exact h
    have h3:=h2.take (k:=u) (by rw[<-HM.out];omega);rw[<-p0.out]at h3
    exact h3)
   have g3:Hid (ac wr b3 75 XL):=Ld (Z.out.new.blk n3.out);have p2:Hid (N=(u+74)/55):=Ld (by have:=F.out;omega);clear i1 r6 c' c4 c5 c7
   go_upto_region 15 with fail;clear f1 f2 f3 f4 f5 f6 f7 f8
   go_wp2_with (first
    |(refine cE 75 rfl ?_;refine ae rfl _ rfl underlying75 rfl (by rw[j2.out.2.2.2];rfl) rfl g3.out ?_)
    |(go_at_call 130;refine(k4.out (some ⟨g,20,none⟩) u (d-20) D wr (E.out.tr Z.out.new) (l1.out.imp (λ_ _=>trivial)) n5.out (by omega) N p2.out).mono ?_;rintro e w5 ⟨⟨C,cc,rfl,o3⟩,o2⟩;have l':=Ld o3;have o0:=Ld o2;clear o3 o2))
   obtain⟨gw,s8,r8,q1,s9⟩:=dv l'.out (by have:=U.out;omega);injection r8 with s' f' s5;subst s' s5
   have p7:Hid (∀i j,i<N->j<64->w5.cell? ⟨gw,i*64+j,none⟩=some (.int .u8 (at_ (l.sec D i) j))):=Ld λi j hi hj=>by
    obtain⟨g',o',he,-,-,hc⟩:=(Rd.own l'.out rfl).out (by omega) (by omega);injection he with he;injection he with e1 e2;subst e1 e2;have:=hc (i*64+j) _ (qh l D hj hi)
    rwa[Nat.zero_add]at this
   have l2:Hid (Rd (RB Y.heap.size w5) w5 1 (some ⟨g,20,none⟩) u (an D)):=Ld (l1.out.frT (S:=ic) (o0.out.toFr _) (λ_ x=>x.elim));have I:Hid (aa Y w5):=Ld (Z.out.new.tr o0.out);have g5:Hid (∀i,i<0->(sct p l i).take (fJ u N i)=(l.sec D i).take (fJ u N i)):=Ld λi hi=>absurd hi (by omega)
   have q2:N<=cc:=q1;clear f' g3 l1 Z HM l' o6;have q3:1<=N:=by have:=U.out;omega
   have g8:Hid (aa w5 w5):=Ld (aa.refl _)
   go_wp2_with fail;go_loopw [15] (λi wr=>∃(k:Nat),k<=N/\i=.int .i64 k/\Hid (aa w5 wr)/\Hid (∀i,i<k->(sct p l i).take (fJ u N i)=(l.sec D i).take (fJ u N i))) (λi _=>N-(intOf i).toNat)
   case atStart=>exact⟨0,Nat.zero_le _,rfl,g8,g5⟩
   case round=>
    clear g8 g5 b';obtain⟨k,hk,rfl,HN,j'⟩:=hrel;obtain⟨c4,c5,c7⟩:=HC.out wr (I.out.tr HN.out);have b':Hid (ac wr b2 65 XR):=Ld ((I.out.tr HN.out).blk k2.out)
    by_cases c9:k<N
    ·obtain ⟨a,ha⟩:=nM (fu+k);have h1:(fu:Int)+(k:Int)=(a:Int):=by omega
     have h2:IntKind.i64.wrap (a:Int)=(a:Int):=IntWalk.i64_in _ (by omega);have HA:Hid (a=l.first+l.used+k):=Ld (by have:=k5.out;omega);have m6:(k:Int)<(N:Int):=by omega
     have q8:(0:Int)<=(k:Int):=by omega
     obtain⟨k1,u'⟩:=nM (N-1);have h3:(N:Int)-1=(k1:Int):=by omega
     obtain⟨L,c8⟩:=nM (fJ u N k);have i9:=Ld c8;have o5:L<=64:=by rw[c8];exact yj _ _ _
     have i':Hid ((sct p l k).length=64/\(l.sec D k).length=64):=Ld ⟨(G.out k).1,by rw[LG.sec,fD (l.raw_len D k)]⟩;clear ha
     go_upto_region 20 with (first
      |(refine cE 84 rfl ?_;refine ae rfl _ rfl underlying65 rfl (by rw[l8.out];rfl) rfl b'.out ?_)
      |(go_at_call 121;refine(l3.out k (a:Int) (by rw[<-HA.out]) (by have:=P.out;omega) wr (E.out.tr (I.out.tr HN.out))).mono ?_;rintro e w1 ⟨rfl,V⟩;have g6:=Ld V;clear V)
      |(refine cE 16 rfl ?_;refine aH (s:=sct p l k) rfl rfl rfl _ _ rfl bO rfl rfl rfl (G.out k).1 ?_))
     obtain⟨w7,j8⟩:=nM (w1.alloc (.cells (ag (sct p l k)) 68):World);obtain⟨j3,b7⟩:=nM (w1.heap.size);have k0:Hid (ac w7 j3 68 (ag (sct p l k))):=Ld (by rw[j8,b7];exact ac.new _ _ _);have g7:Hid (aa w5 w7):=Ld (by rw[j8];exact aa.al (HN.out.tr g6.out) _);rw[<-j8,<-b7];clear j8 b7
     have n7:Hid (∀j,j<64->∀N,(w7.drewN N).cell? ⟨j3,j,none⟩=some (.int .u8 (at_ (sct p l k) j))):=Ld λj hj N=>by
      rw[(k0.out.drewN N).cell j,mM (by rw[i'.out.1];exact hj)]
     have n6:Hid (∀j,j<64->∀N,(w7.drewN N).cell? ⟨gw,k*64+j,none⟩=some (.int .u8 (at_ (l.sec D k) j))):=Ld λj hj N=>(g7.out.dn N).cell_ (p7.out k j c9 hj)
     by_cases O:k+1=N
     ·have q9:((k:Int)==(k1:Int))=true:=by simp;omega
      obtain⟨o8,n'⟩:=nM (20+u);have t1:(20:Int)+(u:Int)=(o8:Int):=by omega
      obtain⟨j9,m9⟩:=nM (u+19);have t2:(o8:Int)-1=(j9:Int):=by omega
      obtain⟨rm,r3⟩:=nM (j9%55);have t3:(j9:Int)%55=(rm:Int):=by omega
      obtain⟨r9,r2⟩:=nM (9+rm);have t4:(9:Int)+(rm:Int)=(r9:Int):=by omega
      have t5:(r9:Int)+1=(L:Int):=by rw[c8,fJ,if_pos O];omega
      have t6:(0:Int)<=(j9:Int):=by omega
      have t7:(rm:Int)<55:=by omega
      clear n' m9 r3 r2 c8 O;have R:Hid ((sct p l k).take 0=(l.sec D k).take 0):=Ld rfl;have g4:Hid (∃N,w7=w7.drewN N):=Ld ⟨0,rfl⟩
      go_wp2_with fail;go_loopw [19] (λj wr=>∃(j0:Nat),j0<=L/\j=.int .i64 j0/\Hid (∃N,wr=w7.drewN N)/\Hid ((sct p l k).take j0=(l.sec D k).take j0)) (λj _=>L-(intOf j).toNat)
      case atStart=>exact⟨0,Nat.zero_le _,rfl,g4,R⟩
      case round=>
       clear g4 R;obtain⟨j,hj,rfl,HD,HT⟩:=hrel
       by_cases b9:j<L
       ·have v:j<64:=by omega
        have i2:(j:Int)<64:=by omega
        have m5:(j:Int)<(L:Int):=by omega
        have q6:(0:Int)<=(j:Int):=by omega
        obtain⟨x,H⟩:=nM (at_ (sct p l k) j);obtain⟨y,hy⟩:=nM (at_ (l.sec D k) j)
        have cx:∀M,(wr.drewN M).cell? ⟨j3,j,none⟩=some (.int .u8 x):=λM=>by
         obtain⟨N',t⟩:=HD.out;rw[t,World.drewN_drewN,H];exact n7.out j v _
        have cy:∀M,(wr.drewN M).cell? ⟨gw,k*64+j,none⟩=some (.int .u8 y):=λM=>by
         obtain⟨N',t⟩:=HD.out;rw[t,World.drewN_drewN,hy];exact n6.out j v _
        have J:=Ld (And.intro H hy);clear H hy
        by_cases z:x=y
        ·have n0:(x != y)=false:=by simp [z]
         have l5:Hid ((sct p l k).take (j+1)=(l.sec D k).take (j+1)):=Ld (by
          rw[gQ _ (by rw[i'.out.1];exact v),gQ _ (by rw[i'.out.2];exact v),HT.out,<-J.out.1,<-J.out.2,z])
         clear z
         go_wp2_with fail;go_quiet (fail)
         go_wp2_with fail;go_roundw
         case rel=>exact⟨j+1,by omega,by go_num,Ld (by obtain⟨N',t⟩:=HD.out;exact⟨_,by rw[t,World.drewN_drewN]⟩),l5⟩
         case measure=>simp[intOf];omega
        ·have n0:(x != y)=true:=by simp [z]
         have k9:Hid (NX=none):=Ld (by
          rw[c3.out];refine cM (λH=>z ?_);have h:=lB g9.out T.out F.out H k c9;rw[<-i9.out,<-i7.out]at h;have h2:((sct p l k).take L)[j]?=((l.sec D k).take L)[j]? :=by rw[h]
          rw[List.getElem?_take_of_lt b9,List.getElem?_take_of_lt b9]at h2;rw[J.out.1,J.out.2];unfold at_
          rw[List.getD_eq_getElem?_getD,List.getD_eq_getElem?_getD,h2])
         clear z
         go_wp2_with fail;go_quiet (fail)
         go_wp2_with fail;go_ret;rw[k9.out];exact⟨rfl,by obtain⟨N',t⟩:=HD.out;rw[t];exact(((E.out.tr I.out).tr g7.out).dn _).dn _⟩
       ·have i3:j=L:=by omega
        have q7:¬(j:Int)<(L:Int):=by omega
        have b0:Hid (∀i,i<k+1->(sct p l i).take (fJ u N i)=(l.sec D i).take (fJ u N i)):=Ld λi hi=>by
         by_cases h:i=k
         ·subst h;rw[<-i9.out,<-i3];exact HT.out
         ·exact j'.out i (by omega)
        have k8:Hid (aa w5 wr):=Ld (by obtain⟨N',t⟩:=HD.out;rw[t];exact g7.out.dn _);clear i3 hj b9
        go_wp2_with fail;go_roundw
        case rel=>exact⟨k+1,by omega,by go_num,k8,b0⟩
        case measure=>simp[intOf];omega
     ·have q9:((k:Int)==(k1:Int))=false:=by simp;omega
      have t5:(64:Int)=(L:Int):=by rw[c8,fJ,if_neg O];rfl
      clear c8 O;have R:Hid ((sct p l k).take 0=(l.sec D k).take 0):=Ld rfl;have g4:Hid (∃N,w7=w7.drewN N):=Ld ⟨0,rfl⟩
      go_wp2_with fail
      try rw[t5]
      go_loopw [19] (λj wr=>∃(j0:Nat),j0<=L/\j=.int .i64 j0/\Hid (∃N,wr=w7.drewN N)/\Hid ((sct p l k).take j0=(l.sec D k).take j0)) (λj _=>L-(intOf j).toNat)
      case atStart=>exact⟨0,Nat.zero_le _,rfl,g4,R⟩
      case round=>
       clear g4 R;obtain⟨j,hj,rfl,HD,HT⟩:=hrel
       by_cases b9:j<L
       ·have v:j<64:=by omega
        have i2:(j:Int)<64:=by omega
        have m5:(j:Int)<(L:Int):=by omega
        have q6:(0:Int)<=(j:Int):=by omega
        obtain⟨x,H⟩:=nM (at_ (sct p l k) j);obtain⟨y,hy⟩:=nM (at_ (l.sec D k) j)
        have cx:∀M,(wr.drewN M).cell? ⟨j3,j,none⟩=some (.int .u8 x):=λM=>by
         obtain⟨N',t⟩:=HD.out;rw[t,World.drewN_drewN,H];exact n7.out j v _
        have cy:∀M,(wr.drewN M).cell? ⟨gw,k*64+j,none⟩=some (.int .u8 y):=λM=>by
         obtain⟨N',t⟩:=HD.out;rw[t,World.drewN_drewN,hy];exact n6.out j v _
        have J:=Ld (And.intro H hy);clear H hy
        by_cases z:x=y
        ·have n0:(x != y)=false:=by simp [z]
         have l5:Hid ((sct p l k).take (j+1)=(l.sec D k).take (j+1)):=Ld (by
          rw[gQ _ (by rw[i'.out.1];exact v),gQ _ (by rw[i'.out.2];exact v),HT.out,<-J.out.1,<-J.out.2,z])
         clear z
         go_wp2_with fail;go_quiet (fail)
         go_wp2_with fail;go_roundw
         case rel=>exact⟨j+1,by omega,by go_num,Ld (by obtain⟨N',t⟩:=HD.out;exact⟨_,by rw[t,World.drewN_drewN]⟩),l5⟩
         case measure=>simp[intOf];omega
        ·have n0:(x != y)=true:=by simp [z]
         have k9:Hid (NX=none):=Ld (by
          rw[c3.out];refine cM (λH=>z ?_);have h:=lB g9.out T.out F.out H k c9;rw[<-i9.out,<-i7.out]at h;have h2:((sct p l k).take L)[j]?=((l.sec D k).take L)[j]? :=by rw[h]
          rw[List.getElem?_take_of_lt b9,List.getElem?_take_of_lt b9]at h2;rw[J.out.1,J.out.2];unfold at_
          rw[List.getD_eq_getElem?_getD,List.getD_eq_getElem?_getD,h2])
         clear z
         go_wp2_with fail;go_quiet (fail)
         go_wp2_with fail;go_ret;rw[k9.out];exact⟨rfl,by obtain⟨N',t⟩:=HD.out;rw[t];exact(((E.out.tr I.out).tr g7.out).dn _).dn _⟩
       ·have i3:j=L:=by omega
        have q7:¬(j:Int)<(L:Int):=by omega
        have b0:Hid (∀i,i<k+1->(sct p l i).take (fJ u N i)=(l.sec D i).take (fJ u N i)):=Ld λi hi=>by
         by_cases h:i=k
         ·subst h;rw[<-i9.out,<-i3];exact HT.out
         ·exact j'.out i (by omega)
        have k8:Hid (aa w5 wr):=Ld (by obtain⟨N',t⟩:=HD.out;rw[t];exact g7.out.dn _);clear i3 hj b9
        go_wp2_with fail;go_roundw
        case rel=>exact⟨k+1,by omega,by go_num,k8,b0⟩
        case measure=>simp[intOf];omega
    ·have i4:k=N:=by omega
     rw[i4]at j';have o6:¬(k:Int)<(N:Int):=by omega
     have p4:Hid (l.Next p):=Ld (lD g9.out T.out F.out U.out (by have:=P.out;omega) (by have:=P.out;omega) (by rw[<-i7.out];exact j'.out));have p3:Hid (NX=some D):=Ld (by rw[c3.out,jG p4.out,i7.out]);clear i4 hk c9
     go_wp2_with fail;go_ret;rw[p3.out];refine⟨g,20,d-20,by rw[k3.out];rfl,by rw[k3.out];omega,by omega,n5.out,?_,(E.out.tr I.out).tr HN.out⟩;rw[k3.out];exact(l2.out.frT (S:=ic) (HN.out.toFr _) (λ_ x=>x.elim)).imp (λk hk=>⟨by have:=E.out.size;have:=hk.1;omega,hk.2⟩)
def vV(q:DP)(n:Int)(c:Nat)(w:World)(e:Ending)(w':World):Prop:=
 ∃b d f A2 c2,e=.returned (.tuple #[.agg (gI b d f A2 c2),.int .i64 n])/\fp w' b d A2/\Mt q b/\b.tot<=c/\aa w w'
def Gf(q:DP)(d b:Nat)(w:World)(g:Array Value):Prop:=∃c f i A2 c2,g=gI c f i A2 c2/\ac w b 65 g/\fp w c f A2/\Mt q c/\c.tot<=d
theorem kG(r:RP)(b:Option Addr)(c:Nat)(A2:Option Addr)(c2:Nat):(gI r b c A2 c2).all (·.oneCell')=true:=by simp[gI,Value.oneCell']
theorem yh{q:DP}(h:q.Ok):(Lit.int .i64 q.fuse).wf=true:=WalkArith.wf_i64 (by have:=h.fz;omega)
theorem nA{w:World}{p:DP}{l:LG}(r:RP)(A1:Option Addr)(c1:Nat)(A2:Option Addr)(c2:Nat)(A:Option Addr)(c:Nat)(hr:fp w r A1 A2)(hM:Mt p r)(hp:p.Ok)(hn:r.tot<=50000)(hl:l.Ok p.size):
    Calls prog 119 #[.agg (gI r A1 c1 A2 c2),.agg (od l A c)] w (vV (aB p l).1 (aB p l).2 (r.tot+l.size) w):=by
 have o2:=hp.s2;have k':=hl.fit;have c7:=hl.used
 have j1:Hid (∀k,(wipeN p l k).1.Ok/\(wipeN p l k).1.size=p.size):=Ld λk=>by
  induction k with
  |zero=>exact⟨hp,rfl⟩
  |succ k ih=>
   refine⟨?_,fA p l (k+1)⟩;simp only[wipeN];split
   ·exact ih.1
   ·split
    ·unfold DP.doWrite;split
     ·next hw=>
      unfold DP.within at hw;split
      ·exact ih.1.fall
      ·exact ih.1.write (by have:=of_decide_eq_true hw;rw[ih.2]at*;exact this) bh
     ·exact ih.1
    ·exact ih.1
 obtain⟨XL,j9⟩:=nM (od l A c);obtain⟨m,g9⟩:=nM (l.used);obtain⟨fs,k0⟩:=nM (l.first);obtain⟨sz,D⟩:=nM (l.size);obtain⟨gen,g6⟩:=nM (l.gen);have n':Hid (gen<4294967296):=Ld (by rw[g6];exact hl.gen);have i6:Hid (m=l.used/\fs=l.first/\sz=l.size/\gen=l.gen):=Ld ⟨g9,k0,D,g6⟩;have f':Hid (XL[0]?=some (.int .i64 fs)/\XL[1]?=some (.int .i64 sz)/\XL[2]?=some (.int .i64 m)/\XL[3]?=some (.int .u32 gen)/\XL.size=6):=Ld (by rw[j9,g9,k0,D,g6];exact⟨rfl,rfl,rfl,rfl,rfl⟩);have n1:Hid (fs+sz<=p.size):=Ld (by omega);obtain⟨WL,j7⟩:=nM (aB p l);have j5:Hid (WL=(if(wipeN p l (sz-m)).2.2≠0 then((wipeN p l (sz-m)).1,(wipeN p l (sz-m)).2.2)else if(wipeN p l (sz-m)).2.1=true then((wipeN p l (sz-m)).1.doSync,(wipeN p l (sz-m)).1.scode)else((wipeN p l (sz-m)).1,0))):=Ld (by rw[j7,D,g9];rfl);obtain⟨tt,m4⟩:=nM (r.tot);rw[<-j9,<-j7,<-m4,<-D];have o4:tt<=50000:=by omega
 have o5:m<=sz:=by omega
 have p2:fs+sz<=16384:=by omega
 obtain⟨X0,j8⟩:=nM (gI r A1 c1 A2 c2);rw[<-j8];have n6:Hid (∀W b,aa w W->ac W b 65 X0->Gf p tt b W X0):=Ld λW b hN hb=>⟨r,A1,c1,A2,c2,j8,hb,hr.new hN,hM,by omega⟩
 clear hr hM hp hn hl j9 j7 g9 k0 D g6 o2 k' c7 m4 j8
 go_enter func119,ntmps119
 go_upto_region 1 with fail;obtain⟨N,M⟩:=nM (((w.alloc (.cells X0 65)).alloc (.cells XL 75)).alloc (.cells #[.int .i64 0,.slice none 0 0,.slice none 0 0,.int .i64 0,.bool false] 65):World);obtain⟨b2,g3⟩:=nM (w.heap.size);obtain⟨b3,g4⟩:=nM (w.heap.size+1);obtain⟨b4,g5⟩:=nM (w.heap.size+1+1);have j0:Hid (aa w N):=Ld (by rw[M];exact aa.al (aa.al (aa.al (aa.refl _) _) _) _);have k3:Hid (Gf p tt b2 N X0):=Ld (n6.out N b2 j0.out (by rw[M,g3];exact((ac.new _ _ _).alloc _).alloc _));have m6:Hid (ac N b3 75 XL):=Ld (by rw[M,g4];exact(ac.new' _ _ _ (by simp)).alloc _);have k4:Hid (ac N b4 65 #[.int .i64 0,.slice none 0 0,.slice none 0 0,.int .i64 0,.bool false]):=Ld (by rw[M,g5];exact ac.new' _ _ _ (by simp));have HZ:Hid (b2=w.heap.size/\b3=w.heap.size+1/\b4=w.heap.size+2):=Ld ⟨g3,g4,g5⟩;rw[<-M,<-g5,<-g4,<-g3];clear M g3 g4 g5
 have HC:Hid (∀W,Fr (λj=>j=b2) N W->W.cell? ⟨b3,0,none⟩=some (.int .i64 fs)/\W.cell? ⟨b3,1,none⟩=some (.int .i64 sz)/\W.cell? ⟨b3,2,none⟩=some (.int .i64 m)/\W.cell? ⟨b3,3,none⟩=some (.int .u32 gen)):=Ld λW hF=>by
  have h:=m6.out.fr hF (by have:=HZ.out;omega);exact⟨by rw[h.cell,f'.out.1],by rw[h.cell,f'.out.2.1],by rw[h.cell,f'.out.2.2.1],by rw[h.cell,f'.out.2.2.2.1]⟩
 have z:=(HC.out N (Fr.refl _ _)).2.2.1;have k6:Hid (Fr (λj=>j=b2) N N):=Ld (Fr.refl _ _)
 go_wp2_with fail;go_loopw [6,7] (λwd i wr=>∃(k i0:Nat) (b:Bool) (X:Array Value),Hid (i0=m+k)/\i0<=sz/\i=.int .i64 i0/\wd=.bool b/\Hid (b=(wipeN p l k).2.1)/\Hid ((wipeN p l k).2.2=0)/\Hid (Gf (wipeN p l k).1 (tt+k) b2 wr X)/\Hid (Fr (λj=>j=b2) N wr)) (λ_ i _=>sz-(intOf i).toNat)
 case atStart=>exact⟨0,m,false,X0,Ld rfl,o5,rfl,rfl,Ld rfl,Ld rfl,k3,k6⟩
 case round=>
  clear k3 k6 z;obtain⟨k,i,b,X,HI,hi,rfl,rfl,HB,HE,HD,HF⟩:=hrel;obtain⟨l3,l4,-,l5⟩:=HC.out wr HF.out;have i5:=Ld l5;clear l5;have p0:k<=sz:=by have:=HI.out;omega
  obtain⟨q,hq⟩:=nM ((wipeN p l k).1);have HQ:=Ld hq;rw[<-hq]at HD;have U:Hid (q.Ok/\q.size=p.size):=Ld (by rw[hq];exact j1.out k);clear hq;obtain⟨E,D1,d1,D2,d2,hX,l7,m',l8,m3⟩:=HD.out;have R:=Ld l7;have V:=Ld m';have f:=Ld l8;have HX:=Ld hX;have d':Hid (E.tot<=tt+k):=Ld m3;have u:Hid (X.size=5):=Ld (by rw[hX];rfl);have o3:E.tot<=70000:=by omega
  clear hX l7 m' l8 m3 HD
  by_cases p1:i<sz
  ·obtain ⟨a,ha⟩:=nM (fs+i);have e1:(fs:Int)+(i:Int)=(a:Int):=by omega
   have e2:IntKind.i64.wrap (a:Int)=(a:Int):=IntWalk.i64_in _ (by omega);have HA:Hid (a=l.first+l.used+k):=Ld (by have:=HI.out;have:=i6.out;omega);have o9:a<=16384:=by omega
   have n9:(i:Int)<(sz:Int):=by omega
   obtain⟨s,hs⟩:=nM (q.rget (a:Int));have k9:Hid (s=sct (wipeN p l k).1 l k):=Ld (by rw[hs,HQ.out,sct,HA.out]);have HS:Hid (aS s):=Ld (by rw[hs];exact U.out.1.rget _);have n5:Hid (q.within (a:Int)=true):=Ld (by unfold DP.within;have:=U.out.2;have:=n1.out;exact decide_eq_true (by omega))
   have n3:Hid (Calls prog 121 #[.agg X,.int .i64 (a:Int)] wr λe w'=>e=.returned (.tuple #[.agg (ag s),.int .i64 0])/\aa wr w'):=Ld (by
    have h:=nz E D1 d1 D2 d2 (a:Int) wr V.out (by omega) (WalkArith.wf_i64 (by omega)) (by rw[f.out.size];have:=U.out.1.s2;omega);rw[f.out.rget,f.out.rcode,DP.rcode,n5.out,if_pos rfl,<-hs]at h;rw[HX.out]
    exact h)
   have c6:(ag s).size=64:=by rw[aq,HS.out.1]
   have o7:=Ld c6;clear c6 hs ha
   go_upto_region 6 with (first
    |(refine cE 21 rfl ?_;refine ae rfl _ rfl underlying65 rfl (by rw[u.out];rfl) rfl R.out ?_)
    |(go_at_call 121;refine n3.out.mono ?_;rintro e w1 ⟨rfl,l9⟩;have n0:=Ld l9;clear l9)
    |(refine cE 8 rfl ?_;refine aH (s:=s) rfl rfl rfl _ _ rfl bO rfl rfl rfl HS.out.1 ?_))
   obtain⟨F,i'⟩:=nM (w1.alloc (.cells (ag s) 68):World);obtain⟨b8,L⟩:=nM (w1.heap.size);have m7:Hid (ac F b8 68 (ag s)):=Ld (by rw[i',L];exact ac.new _ _ _);have G:Hid (aa wr F):=Ld (by rw[i'];exact aa.al n0.out _);rw[<-i',<-L];clear i' L l3 l4;have q3:∀p:HW (aa F),p.w.cell? ⟨b3,3,none⟩=some (.int .u32 gen):=λp=>(G.out.tr p.h).cell_ i5.out
   have kg:IntKind.u64.wrap (gen:Int)=(gen:Int):=by have:=n'.out;rw[IntKind.wrap_u64];omega
   obtain⟨v1,k1⟩:=nM (aU (s.take 4));have l1:=Ld k1
   have l2:Hid (∀W,aa F W->Calls prog 122 #[.slice (some ⟨b8,0,none⟩) 4 64] W λe w'=>e=.returned (.int .u64 v1)/\W=w'):=Ld λW hN=>by
    have h:=ib (some ⟨b8,0,none⟩) 4 64 ((s.drop 0).take 4) W (we (hN.blk m7.out) (by rw[HS.out.1];decide)) (λx hx=>HS.out.2 x (List.mem_of_mem_drop (List.mem_of_mem_take hx))) (by omega);rw[List.drop_zero,<-k1]at h;exact h
   clear k1
   by_cases t1:v1=gen
   ·have m5:(v1:Int)=(gen:Int):=by omega
    have T1:=Ld t1;clear t1
    go_wp2_with fail;refine ah (aa F) [(true,0),(true,2),(true,3),(true,4),(false,1),(true,5)] (by kernel_rfl) (by kernel_rfl) (aa.dr (aa.refl F)) (λo1=>?_)
    iterate 4 (refine af (o:=.mk ..) rfl (λK v=>?_);go_simp;refine v _ ?_;clear v K)
    refine aj (o:=.mk ..) rfl (λK v=>?_) (.inl rfl);go_simp;refine(l2.out F.drew (aa.dr (aa.refl F))).mono ?_;rintro e w5 ⟨rfl,c8⟩;have g:Hid (aa F w5):=Ld (by rw[<-c8];exact aa.dr (aa.refl F));clear c8;go_simp;refine v.out _ _ (λ_=>g.out) ?_;clear v K
    iterate 1 (refine af (o:=.mk ..) rfl (λK v=>?_);go_simp;refine v _ ?_;clear v K)
    refine au ?_;clear q3 kg m5;have HG:Hid (aU ((sct (wipeN p l k).1 l k).take 4)=l.gen):=Ld (by rw[<-k9.out,<-l1.out,T1.out,i6.out.2.2.2]);have i9:=Ld (lq HE.out HG.out);have S:Hid (Fr (λj=>j=b2) N w5):=Ld (HF.out.trans ((G.out.tr g.out).toFr _));obtain⟨l3,l4,-,-⟩:=HC.out w5 S.out;have b9:Hid (ac w5 b2 65 X):=Ld ((G.out.tr g.out).blk R.out);obtain⟨wc,i2⟩:=nM (q.wcode (a:Int));have o8:=Ld i2;obtain⟨q2,g8⟩:=nM (q.doWrite (a:Int) az);have o6:=Ld g8
    have j6:Hid (Calls prog 32 #[.agg X,.int .i64 (a:Int),.agg (ag az)] w5 λe w'=>mj w' (E.write (a:Int) az) wc e/\aa w5 w'):=Ld (by
     have h:=qe E D1 d1 D2 d2 (a:Int) az w5 (V.out.new (G.out.tr g.out)) bh (by omega) (WalkArith.wf_i64 (by omega)) (by rw[f.out.fuse];exact yh U.out.1) (by rw[f.out.size];have:=U.out.1.s2;omega);rw[f.out.wcode,<-i2]at h;rw[HX.out]
     exact h)
    have j':Hid (Mt q2 (E.write (a:Int) az)):=Ld (by rw[g8];exact f.out.write _ _);have j4:Hid ((E.write (a:Int) az).tot<=tt+(k+1)):=Ld (by have:=RP.tot_write E (a:Int) az;have:=d'.out;omega);obtain⟨r2,m1⟩:=nM (E.write (a:Int) az);rw[<-m1]at j6 j' j4;obtain⟨z0,k2⟩:=nM (ag az);rw[<-k2]at j6;have n7:Hid ((#[.int .u8 0,.int .u8 0,.int .u8 0,.int .u8 0,.int .u8 0,.int .u8 0,.int .u8 0,.int .u8 0,.int .u8 0,.int .u8 0,.int .u8 0,.int .u8 0,.int .u8 0,.int .u8 0,.int .u8 0,.int .u8 0,.int .u8 0,.int .u8 0,.int .u8 0,.int .u8 0,.int .u8 0,.int .u8 0,.int .u8 0,.int .u8 0,.int .u8 0,.int .u8 0,.int .u8 0,.int .u8 0,.int .u8 0,.int .u8 0,.int .u8 0,.int .u8 0,.int .u8 0,.int .u8 0,.int .u8 0,.int .u8 0,.int .u8 0,.int .u8 0,.int .u8 0,.int .u8 0,.int .u8 0,.int .u8 0,.int .u8 0,.int .u8 0,.int .u8 0,.int .u8 0,.int .u8 0,.int .u8 0,.int .u8 0,.int .u8 0,.int .u8 0,.int .u8 0,.int .u8 0,.int .u8 0,.int .u8 0,.int .u8 0,.int .u8 0,.int .u8 0,.int .u8 0,.int .u8 0,.int .u8 0,.int .u8 0,.int .u8 0,.int .u8 0]:Array Value)=z0):=Ld (by rw[k2];rfl);have t:Hid (wipeN p l (k+1)=(q2,(if wc=0 then true else b),wc)):=Ld (by rw[i9.out,<-HQ.out,<-HA.out,<-i2,<-g8,<-HB.out]);clear i2 g8 m1 k2
    go_wp2_with (refine cE 36 rfl ?_;refine ae rfl _ rfl underlying65 rfl (by rw[u.out];rfl) rfl b9.out ?_)
    rw[n7.out];refine j6.out.mono ?_;rintro e w6 ⟨⟨E1,f1,E2,f2,rfl,c5⟩,J⟩;obtain⟨Y,hY⟩:=nM (gI r2 E1 f1 E2 f2);rw[<-hY];have HY:=Ld hY;have d:Hid (Y.size=5):=Ld (by rw[hY];rfl);have c4:Hid (Y.all (·.oneCell')=true):=Ld (by rw[hY];exact kG _ _ _ _ _);have j2:=Ld c5;have T:=Ld J;clear hY c5 J
    go_upto_region 8 with(refine cE 10 rfl ?_;refine qT (C:=Y) rfl rfl rfl _ _ rfl rR rfl rfl rfl d.out c4.out ?_)
    obtain⟨w7,i1⟩:=nM (w6.alloc (.cells Y 65):World);obtain⟨n8,b'⟩:=nM (w6.heap.size);have i3:Hid (ac w7 n8 65 Y):=Ld (by rw[i1,b'];exact ac.new _ _ _);have c9:Hid (aa w6 w7):=Ld (by rw[i1];exact aa.al (aa.refl _) _);have c':Hid (ac w7 b2 65 X):=Ld (c9.out.blk (T.out.blk b9.out));rw[<-i1,<-b'];clear i1 b';have i4:Hid (ac w7 b4 65 #[.int .i64 0,.slice none 0 0,.slice none 0 0,.int .i64 0,.bool false]):=Ld (k4.out.fr (S.out.trans ((T.out.tr c9.out).toFr _)) (by have:=HZ.out;omega))
    go_upto_region 9 with (first
     |(refine cE 45 rfl ?_;refine ae rfl _ rfl underlying65 rfl (by rw[d.out];rfl) rfl i3.out ?_)
     |((with_reducible refine eC ⟨none,.store 65 (.tmp 2) _,_,_,_,_⟩ ?_);refine ao rfl (.tmp 2) (.tmp 45) rfl (by rw[d.out];rfl) rfl rfl c'.out (by rw[d.out,u.out]) c4.out ?_;intro w8 L m0;have b7:=Ld L;have i7:=Ld m0;clear L m0))
    have c0:Hid (Fr (λj=>j=b2) N w8):=Ld ((S.out.trans ((T.out.tr c9.out).toFr _)).trans i7.out);have b1:Hid (ac w8 b4 65 #[.int .i64 0,.slice none 0 0,.slice none 0 0,.int .i64 0,.bool false]):=Ld (i4.out.fr i7.out (by have:=HZ.out;omega))
    have k8:Hid (fp w8 r2 E1 E2):=Ld ((j2.out.new c9.out).fr i7.out (λj I=>by
     have H:j=b2:=I;rw[H]
     exact aK.not_blk c'.out (by decide)))
    have m9:Hid (Gf q2 (tt+(k+1)) b2 w8 Y):=Ld ⟨r2,E1,f1,E2,f2,HY.out,b7.out,k8.out,j'.out,j4.out⟩
    by_cases z:wc=0
    ·have Z:Hid (wipeN p l (k+1)=(q2,true,0)):=Ld (by rw[t.out,if_pos z,z]);have HJ:Hid (i+1=m+(k+1)):=Ld (by have:=HI.out;omega);subst z
     go_wp2_with fail;go_roundw
     case rel=>exact⟨k+1,i+1,true,Y,HJ,by omega,by go_num,rfl,Ld (by rw[Z.out]),Ld (by rw[Z.out]),Ld (by rw[Z.out];exact m9.out),c0⟩
     case measure=>simp[intOf];omega
    ·have k5:=Ld z;have p':(wc != 0)=true:=by simp [z]
     have Z:Hid (WL=(q2,wc)):=Ld (by
      obtain⟨j,I⟩:∃j,sz-m=k+1+j:=⟨sz-m-(k+1),by have:=HI.out;omega⟩
      have g1:wipeN p l (sz-m)=(q2,(if wc=0 then true else b),wc):=by
       rw[I,nJ (by rw[t.out];exact k5.out),t.out]
      rw[j5.out,g1,if_pos k5.out])
     clear z
     go_wp2_with (first
      |(refine cE 48 rfl ?_;refine ae rfl _ rfl underlying65 rfl (by rw[d.out];rfl) rfl b7.out ?_)
      |((with_reducible refine eC ⟨none,.store 65 (.tmp 4) _,_,_,_,_⟩ ?_);refine ao rfl (.tmp 4) (.tmp 48) rfl (by rw[d.out];rfl) rfl rfl b1.out (by rw[d.out];rfl) c4.out ?_;intro w9 y B;have P:=Ld y;have n:=Ld B;clear y B))
     refine bodyPost_ret (fg rfl _ _ b4 _ _ rfl P.out underlying65 rfl (by rw[d.out];rfl)) rfl ?_;rw[Z.out];refine⟨r2,E1,f1,E2,f2,by rw[<-HY.out];rfl,k8.out.fr n.out (λj I=>?_),j'.out,by have:=j4.out;have:=HI.out;omega,?_⟩
     ·have H:j=b4:=I;rw[H];exact aK.not_blk b1.out (by decide)
     ·exact(j0.out.fr c0.out (λj I=>by have:=HZ.out;omega)).fr n.out (λj I=>by have:=HZ.out;omega)
   ·have m5:¬((v1:Int)=(gen:Int)):=by omega
    have T1:=Ld t1;clear t1
    go_wp2_with fail;refine ah (aa F) [(true,0),(true,2),(true,3),(true,4),(false,1),(true,5)] (by kernel_rfl) (by kernel_rfl) (aa.dr (aa.refl F)) (λo1=>?_)
    iterate 4 (refine af (o:=.mk ..) rfl (λK v=>?_);go_simp;refine v _ ?_;clear v K)
    refine aj (o:=.mk ..) rfl (λK v=>?_) (.inl rfl);go_simp;refine(l2.out F.drew (aa.dr (aa.refl F))).mono ?_;rintro e w5 ⟨rfl,c8⟩;have g:Hid (aa F w5):=Ld (by rw[<-c8];exact aa.dr (aa.refl F));clear c8;go_simp;refine v.out _ _ (λ_=>g.out) ?_;clear v K
    iterate 1 (refine af (o:=.mk ..) rfl (λK v=>?_);go_simp;refine v _ ?_;clear v K)
    refine au ?_;clear q3 kg;have HG:Hid (¬aU ((sct (wipeN p l k).1 l k).take 4)=l.gen):=Ld (by rw[<-k9.out,<-l1.out,<-i6.out.2.2.2];exact T1.out);have j3:=Ld (jQ HE.out HG.out);have HJ:Hid (i+1=m+(k+1)):=Ld (by have:=HI.out;omega);have m8:Hid (Gf q (tt+(k+1)) b2 w5 X):=Ld ⟨E,D1,d1,D2,d2,HX.out,(G.out.tr g.out).blk R.out,V.out.new (G.out.tr g.out),f.out,by have:=d'.out;omega⟩;have S:Hid (Fr (λj=>j=b2) N w5):=Ld (HF.out.trans ((G.out.tr g.out).toFr _))
    go_wp2_with fail;go_roundw
    case rel=>exact⟨k+1,i+1,b,X,HJ,by omega,by go_num,rfl,Ld (by rw[j3.out];exact HB.out),Ld (by rw[j3.out];exact HE.out),Ld (by rw[j3.out,<-HQ.out];exact m8.out),S⟩
    case measure=>simp[intOf];omega
  ·have o0:¬(i:Int)<(sz:Int):=by omega
   have g7:k=sz-m:=by have:=HI.out;omega
   have O:Hid (ac wr b4 65 #[.int .i64 0,.slice none 0 0,.slice none 0 0,.int .i64 0,.bool false]):=Ld (k4.out.fr HF.out (by have:=HZ.out;omega));have k7:Hid (aa w wr):=Ld (j0.out.fr HF.out (λj I=>by have:=HZ.out;omega));have c3:Hid (w.heap.size<=b4):=Ld (by have:=HZ.out;omega)
   cases b with
   |false=>
    have t:Hid (WL=(q,0)):=Ld (by rw[j5.out,<-g7,if_neg (by rw[HE.out];simp),if_neg (by rw[<-HB.out];simp),<-HQ.out]);clear g7
    go_wp2_with (first
     |(refine cE 55 rfl ?_;refine ae rfl _ rfl underlying65 rfl (by rw[u.out];rfl) rfl R.out ?_)
     |((with_reducible refine eC ⟨none,.store 65 (.tmp 4) _,_,_,_,_⟩ ?_);refine ao rfl (.tmp 4) (.tmp 55) rfl (by rw[u.out];rfl) rfl rfl O.out (by rw[u.out];rfl) (by rw[HX.out];exact kG _ _ _ _ _) ?_;intro w9 y B;have P:=Ld y;have n:=Ld B;clear y B))
    refine bodyPost_ret (fg rfl _ _ b4 _ _ rfl P.out underlying65 rfl (by rw[u.out];rfl)) rfl ?_;rw[t.out];refine⟨E,D1,d1,D2,d2,by rw[<-HX.out];rfl,V.out.fr n.out (λj I=>?_),f.out,by have:=d'.out;omega,k7.out.fr n.out (λj I=>by have:=c3.out;omega)⟩;have H:j=b4:=I;rw[H];exact aK.not_blk O.out (by decide)
   |true=>
    have t:Hid (WL=(q.doSync,q.scode)):=Ld (by rw[j5.out,<-g7,if_neg (by rw[HE.out];simp),if_pos HB.out.symm,<-HQ.out]);clear g7
    have l':Hid (Calls prog 72 #[.agg X] wr λe w'=>mj w' E.sync q.scode e/\aa wr w'):=Ld (by
     have h:=rX E D1 d1 D2 d2 wr V.out (by omega);rw[f.out.scode]at h;rw[HX.out]
     exact h)
    obtain⟨sc,m2⟩:=nM (q.scode);rw[<-m2]at l' t;clear m2
    go_wp2_with (refine cE 51 rfl ?_;refine ae rfl _ rfl underlying65 rfl (by rw[u.out];rfl) rfl R.out ?_)
    refine l'.out.mono ?_;rintro e w6 ⟨⟨E1,f1,E2,f2,rfl,c5⟩,J⟩;obtain⟨Y,hY⟩:=nM (gI E.sync E1 f1 E2 f2);rw[<-hY];have HY:=Ld hY;have d:Hid (Y.size=5):=Ld (by rw[hY];rfl);have c4:Hid (Y.all (·.oneCell')=true):=Ld (by rw[hY];exact kG _ _ _ _ _);have j2:=Ld c5;have T:=Ld J;have b0:Hid (ac w6 b4 65 #[.int .i64 0,.slice none 0 0,.slice none 0 0,.int .i64 0,.bool false]):=Ld (J.blk O.out);clear hY c5 J
    go_wp2_with ((with_reducible refine eC ⟨none,.store 65 (.tmp 4) _,_,_,_,_⟩ ?_);refine ao rfl (.tmp 4) (.tmp 53) rfl (by rw[d.out];rfl) rfl rfl b0.out (by rw[d.out];rfl) c4.out ?_;intro w9 y B;have P:=Ld y;have n:=Ld B;clear y B)
    refine bodyPost_ret (fg rfl _ _ b4 _ _ rfl P.out underlying65 rfl (by rw[d.out];rfl)) rfl ?_;rw[t.out];refine⟨E.sync,E1,f1,E2,f2,by rw[<-HY.out];rfl,j2.out.fr n.out (λj I=>?_),f.out.sync,by have:=RP.tot_sync E;have:=d'.out;omega,(k7.out.tr T.out).fr n.out (λj I=>by have:=c3.out;omega)⟩;have H:j=b4:=I;rw[H];exact aK.not_blk b0.out (by decide)
theorem mG{fn:Func}{p o q r:Tmp}{ty b:TypeId}{P:Program}(h:fn.results= #[.cell p ty,.cell o b,.tmp q,.tmp r])(tmps:Array Value)(w:World)(g g2:Nat)(cs c:Array Value)(d d2:TypeDesc)
    (t:tmps.getD p undef=.pointer (some ⟨g,0,none⟩)) (s:ac w g ty cs) (hu:P.underlying ty=some d) (hd:d.isRow=true) (hi:(P.info? ty).map (·.size)=some cs.size)
    (m:tmps.getD o undef=.pointer (some ⟨g2,0,none⟩)) (j:ac w g2 b c) (n:P.underlying b=some d2) (i:d2.isRow=true) (k:(P.info? b).map (·.size)=some c.size):
    (results fn tmps).run P w=.ok (.tuple #[.agg cs,.agg c,tmps.getD q undef,tmps.getD r undef]) w:=by
 have l:tmps[p]?.getD undef=.pointer (some ⟨g,0,none⟩):=by simpa using t
 have f:tmps[o]?.getD undef=.pointer (some ⟨g2,0,none⟩):=by simpa using m
 simp[results,h,l,f,asAddr,run_loadVar_row w g ty ty cs (0,0) _ s hu (by cases d<;>first|rfl|(simp[TypeDesc.isRow]at hd)) hi,run_loadVar_row w g2 b b c (0,0) _ j n (by cases d2<;>first|rfl|(simp[TypeDesc.isRow]at i)) k]
def qL:Array Value:= #[.int .i64 0,.int .i64 0,.int .i64 0,.int .u32 0,.slice none 0 0,.bool false]
theorem wW(l:LG)(A:Option Addr)(c:Nat):(od l A c).all (·.oneCell')=true:=by simp[od,Value.oneCell']
def kX(w:World)(r:LG×List (List Int))(x:DP×Int)(f:Nat)(e:Ending)(w':World):Prop:=
 if x.2=0 then ∃b d g A2 c2 B c C cc,e=.returned (.tuple #[.agg (gI b d g A2 c2),.agg (od r.1 B c),.slice C r.2.length cc,.int .i64 0])/\fp w' b d A2/\Mt x.1 b/\b.tot<=f/\jZ w' r.1 B/\eB w.heap.size w' (.slice C r.2.length cc) r.2/\aa w w'
 else ∃b d g A2 c2,e=.returned (.tuple #[.agg (gI b d g A2 c2),.agg qL,.slice none 0 0,.int .i64 x.2])/\fp w' b d A2/\Mt x.1 b/\b.tot<=f/\aa w w'
structure GT(W0 wr:World)(p:DP)(l0:LG)(b12:Nat)(k:Nat)(out:Value)(XL:Array Value):Prop where
 fr:Fr (λj=>j=b12) W0 wr
 recs:eB W0.heap.size wr out (runs p l0 k).2
 len:(runs p l0 k).2.length=k/\k<=(runs p l0 k).1.used
 log:∃B c,XL=od (runs p l0 k).1 B c/\jZ wr (runs p l0 k).1 B
 blk:ac wr b12 75 XL
theorem vr {p:DP} {l:LG} {n:Nat} (b:p.Ok) (hl:l.Ok n) (c:n<=16384) (k:Nat):(runs p l k).1.first<=100000/\(runs p l k).1.size<=100000/\(runs p l k).1.used<=100000:=by
 have h:=(cu b hl k).1;have h1:=h.fit;have h2:=h.used;omega
theorem wZ{w:World}{p:DP}(r:RP)(A1:Option Addr)(c1:Nat)(A2:Option Addr)(c2:Nat)(hr:fp w r A1 A2)(hM:Mt p r)(hp:p.Ok)(hn:r.tot<=50000)(hL:cX 3 1 w)(a b c:Nat)(hb:1<=b)(r4:a+b<=p.size)(hc:c<4294967296)(y1:c≠0):
    Calls prog 77 #[.agg (gI r A1 c1 A2 c2),.int .i64 a,.int .i64 b,.int .u32 c] w (kX w (runL p (bZ a b c)) (aB p (runL p (bZ a b c)).1) (r.tot+b)):=by
 have y6:=hp.s2;have k':(bZ a b c).Ok p.size:=fv r4 hc;have HL:=Ld hL;obtain⟨X0,j9⟩:=nM (gI r A1 c1 A2 c2);have g9:Hid (X0[0]?=some (.int .i64 p.size)/\X0.size=5/\X0.all (·.oneCell')=true):=Ld (by rw[j9];exact⟨by rw[<-hM.size];rfl,rfl,kG _ _ _ _ _⟩)
 have j4:Hid (∀k B cc W,aa w W->jZ W (runs p (bZ a b c) k).1 B->Calls prog 123 #[.agg X0,.agg (od (runs p (bZ a b c) k).1 B cc)] W (qU (nextL p (runs p (bZ a b c) k).1) W)):=Ld λk B cc W hN hI=>by
  rw[j9];exact Ac r A1 c1 A2 c2 B cc (hr.new hN) hM hp (by omega) hI (cu hp k' k).1 (hL.new hN)
 have c8:Hid (∀k B cc W,aa w W->Calls prog 119 #[.agg X0,.agg (od (runs p (bZ a b c) k).1 B cc)] W (vV (aB p (runs p (bZ a b c) k).1).1 (aB p (runs p (bZ a b c) k).1).2 (r.tot+b) W)):=Ld λk B cc W hN=>by
  rw[j9];have h:=nA r A1 c1 A2 c2 B cc (hr.new hN) hM hp hn (cu hp k' k).1;rw[(cu hp k' k).2.1]at h;exact h
 have g:Hid (p.Ok/\(bZ a b c).Ok p.size):=Ld ⟨hp,k'⟩;obtain⟨n,o2⟩:=nM (p.size);rw[<-o2]at g9;have z0:=Ld o2;obtain⟨m,hm⟩:=nM (n-a);have h5:(n:Int)-(a:Int)=(m:Int):=by omega
 have h6:(b:Int)<=(m:Int):=by omega
 have h7:(m:Int)<=16384:=by omega
 have y':(a:Int)<(n:Int):=by omega
 have v9:1<=(b:Int):=by omega
 have v8:0<=(a:Int):=by omega
 have y3:((c:Int)==0)=false:=by simp;omega
 have y2:¬(c:Int)=0:=by omega
 have z1:b<=16384:=by omega
 have u4:Hid (c<4294967296):=Ld hc;obtain⟨l0,hl⟩:=nM (bZ a b c);have m0:=Ld hl;have p1:Hid (l0.size=b):=Ld (by rw[hl];rfl);rw[<-hl]at j4 c8 g⊢;obtain⟨R,hR⟩:=nM (runL p l0);obtain⟨x,hx⟩:=nM (aB p R.1);obtain⟨tt,o6⟩:=nM (r.tot+b);rw[<-j9,<-hR,<-hx,<-o6];rw[<-o6]at c8;have HR:=Ld hR;have HX:=Ld hx;clear hr hM hp hn hL hb r4 hc y1 y6 k' j9 o2 hm hl hR hx o6
 go_enter func77,ntmps77
 go_upto_region 1 with fail;obtain⟨M,g5⟩:=nM (((w.alloc (.cells X0 65)).alloc (.cells #[.int .i64 0,.slice none 0 0,.slice none 0 0,.int .i64 0,.bool false] 65)).alloc (.cells #[.int .i64 0,.int .i64 0,.int .i64 0,.int .u32 0,.slice none 0 0,.bool false] 75):World);obtain⟨b4,d'⟩:=nM (w.heap.size);obtain⟨b8,k6⟩:=nM (w.heap.size+1);obtain⟨b9,k7⟩:=nM (w.heap.size+1+1);have k3:Hid (aa w M):=Ld (by rw[g5];exact aa.al (aa.al (aa.al (aa.refl _) _) _) _);have k9:Hid (ac M b4 65 X0):=Ld (by rw[g5,d'];exact((ac.new _ _ _).alloc _).alloc _);have o7:Hid (ac M b8 65 #[.int .i64 0,.slice none 0 0,.slice none 0 0,.int .i64 0,.bool false]):=Ld (by rw[g5,k6];exact(ac.new' _ _ _ (by simp)).alloc _);have l5:Hid (ac M b9 75 qL):=Ld (by rw[g5,k7];exact ac.new' _ _ _ (by simp));have HZ:Hid (b4=w.heap.size/\b8=w.heap.size+1/\b9=w.heap.size+2):=Ld ⟨d',k6,k7⟩;have m3:Hid (M.heap.size=w.heap.size+3):=Ld (by rw[g5];simp);rw[<-g5,<-k7,<-k6,<-d'];clear g5 d' k6 k7;have cz:M.cell? ⟨b4,0,none⟩=some (.int .i64 n):=by rw[k9.out.cell,g9.out.1]
 obtain⟨i0,hi,u0,u1,u3⟩:=info_parts ym;have J:=Ld (And.intro hi (And.intro u0 (And.intro u1 u3)));clear hi u0 u1 u3
 go_upto_region 4 with((with_reducible refine dM ⟨some 45,.makeSlice _ _ _,_,_,_,_⟩ ?_);refine wpList_make_full _ rfl _ _ 33 rfl M.heap.size 5 i0 (.int .u8 0) 1 underlying33 J.out.1 J.out.2.1 J.out.2.2.1 .i64 .i64 16 16 16 rfl rfl rfl rfl (by rw[J.out.2.2.2];omega) (by unfold maxLen;omega) (Nat.le_refl _) ?_;intro w1 q9 s6;have p4:Hid (w1.ownsRow M.heap.size 5 1 (.slice (some ⟨M.heap.size,0,none⟩) 16 16) 16 (an (List.replicate 16 0))):=Ld (by have h:=oE 16;have h2:=q9;rw[h]at h2;exact h2);have m4:Hid (aa M w1):=Ld ((aa.refl M).fr ((Fr.refl ic M).grown s6 (λ_ _ h=>by cases h)) (λk h=>h.elim));clear q9 s6)
 obtain⟨W0,i1⟩:=nM (w1.alloc (.cells #[.int .i64 a,.int .i64 b,.int .i64 0,.int .u32 c,.slice (some ⟨M.heap.size,0,none⟩) 16 16,.bool false] 75):World);obtain⟨f,b1⟩:=nM (w1.heap.size);have j3:Hid (aa M W0):=Ld (by rw[i1];exact aa.al m4.out _);have i3:Hid (ac W0 f 75 (od (runs p l0 0).1 (some ⟨M.heap.size,0,none⟩) 16)):=Ld (by rw[i1,b1];show ac _ _ _ (od l0 _ _);rw[m0.out];exact ac.new _ _ _)
 have g7:Hid (jZ W0 (runs p l0 0).1 (some ⟨M.heap.size,0,none⟩)):=Ld ⟨(by
  show ei _ _ _ _ _ (an l0.tag);rw[m0.out];have h:=ei.own p4.out rfl;rw[i1]
  exact h.new (aa.al (aa.refl _) _)),g.out.2.byt,g.out.2.gen,vr g.out.1 g.out.2 (g.out.1.s2) 0⟩
 have p8:Hid (GT W0 W0 p l0 f 0 (.slice none 0 0) (od (runs p l0 0).1 (some ⟨M.heap.size,0,none⟩) 16)):=Ld ⟨Fr.refl _ _,eB.nil _ _,⟨rfl,Nat.zero_le _⟩,⟨_,_,rfl,g7.out⟩,i3.out⟩;have y:Hid (W0.heap.size=f+1/\M.heap.size<=f):=Ld ⟨by rw[i1,b1];simp,by have:=m4.out.size;omega⟩;have l2:Hid (ac W0 b4 65 X0):=Ld (j3.out.blk k9.out);have l4:Hid (ac W0 b8 65 #[.int .i64 0,.slice none 0 0,.slice none 0 0,.int .i64 0,.bool false]):=Ld (j3.out.blk o7.out);have l7:Hid (ac W0 b9 75 qL):=Ld (j3.out.blk l5.out)
 have u:Hid (M.heap.size=w.heap.size+3/\b4=w.heap.size/\b8=w.heap.size+1/\b9=w.heap.size+2):=Ld ⟨by
  have h1:=HZ.out;have h2:=l5.out.lt;have h3:=m3.out
  omega,HZ.out⟩
 rw[<-i1,<-b1];clear i1 b1 p4 m4 i3 g7 cz k9 o7 l5 HZ J h5 h6 h7 y' v9 v8 y3 y2
 go_wp2_with fail;go_loopw [13] (λout wr=>∃(k:Nat) (A:Option Addr) (d:Nat) (XL:Array Value),k<=16384/\out=.slice A k d/\Hid (GT W0 wr p l0 f k (.slice A k d) XL)) (λout _=>16400-(match out with| .slice _ n _=>n|_=>0))
 case atStart=>exact⟨0,none,0,_,Nat.zero_le _,rfl,p8⟩
 case round=>
  clear p8;obtain⟨k,A,d,XL,hk,rfl,J⟩:=hrel;obtain⟨B,cc,k5,n5⟩:=J.out.log;have j7:=Ld k5;have g7:=Ld n5;have Z:Hid (XL.size=6):=Ld (by rw[k5];rfl);have t:Hid (ac wr f 75 XL):=Ld J.out.blk;have b':Hid (ac wr b4 65 X0):=Ld (l2.out.fr J.out.fr (by have:=u.out;have:=y.out;omega));have k4:Hid (aa M wr):=Ld (j3.out.fr J.out.fr (λj q=>by have:=y.out;omega));have U:=Ld (j4.out k B cc wr (k3.out.tr k4.out) n5);rw[<-k5]at U;clear k5 n5
  cases hn:nextL p (runs p l0 k).1 with
  |none=>
   have z':=Ld hn;rw[hn]at U;have i2:(runs p l0 k).2.length=k:=J.out.len.1
   have o1:k<=l0.size:=by
    have h6:=(cu g.out.1 g.out.2 k).1.used;have h7:=(cu g.out.1 g.out.2 k).2.1;have:=J.out.len.2;omega
   have j5:Hid (R=runs p l0 k):=Ld (by rw[HR.out];exact tL (by omega) hn);have m':Hid (R.2.length=k):=Ld (by rw[j5.out];exact i2);have y4:=λw=>Lib.run_eql_slice_nil (P:=prog) w 33 5 none 0 0 0 0 underlying33
   clear hn i2 o1
   go_wp2_with (first
    |(refine cE 47 rfl ?_;refine ae rfl _ rfl underlying65 rfl (by rw[g9.out.2.1];rfl) rfl b'.out ?_)
    |(refine cE 48 rfl ?_;refine ae rfl _ rfl underlying75 rfl (by rw[Z.out];rfl) rfl t.out ?_))
   refine U.out.mono ?_;rintro e w2 ⟨rfl,X⟩;have g8:=Ld X;have l':Hid (ac w2 b4 65 X0):=Ld (X.blk b'.out);have i4:Hid (ac w2 f 75 XL):=Ld (X.blk t.out);have q0:=Ld (c8.out k B cc w2 ((k3.out.tr k4.out).tr X));rw[<-j7.out,<-j5.out,<-HX.out]at q0;clear X
   go_wp2_with (first
    |(refine cE 70 rfl ?_;refine ae rfl _ rfl underlying65 rfl (by rw[g9.out.2.1];rfl) rfl l'.out ?_)
    |(refine cE 71 rfl ?_;refine ae rfl _ rfl underlying75 rfl (by rw[Z.out];rfl) rfl i4.out ?_))
   refine q0.out.mono ?_;rintro e w3 ⟨r',E1,f1,E2,f2,rfl,r3,q8,s9,i'⟩;obtain⟨Y,hY⟩:=nM (gI r' E1 f1 E2 f2);rw[<-hY];have HY:=Ld hY;have G:Hid (Y.size=5):=Ld (by rw[hY];rfl);have n3:Hid (Y.all (·.oneCell')=true):=Ld (by rw[hY];exact kG _ _ _ _ _);have u9:=Ld r3;have p2:=Ld q8;have p9:=Ld s9;have F:Hid (aa wr w3):=Ld (g8.out.tr i');have O:Hid (ac w3 b4 65 X0):=Ld (F.out.blk b'.out);clear hY r3 q8 s9 i';obtain⟨ec,n9⟩:=nM (x.2);have l8:=Ld n9;rw[<-n9];clear n9
   go_upto_region 11 with((with_reducible refine eC ⟨none,.store 65 (.tmp 4) _,_,_,_,_⟩ ?_);refine ao rfl (.tmp 4) (.tmp 73) rfl (by rw[G.out];rfl) rfl rfl O.out (by rw[g9.out.2.1,G.out]) n3.out ?_;intro v d' s';have b7:=Ld d';have T:=Ld s';clear d' s')
   have j':Hid (Fr (λj=>j=b4\/j=f) W0 v):=Ld (((J.out.fr.mono (λj _ q=>.inr q)).trans (F.out.toFr _)).trans (T.out.mono (λj _ q=>.inl q)));have H:Hid (ac v b8 65 #[.int .i64 0,.slice none 0 0,.slice none 0 0,.int .i64 0,.bool false]):=Ld (l4.out.fr j'.out (by have:=u.out;have:=y.out;omega));have I:Hid (ac v b9 75 qL):=Ld (l7.out.fr j'.out (by have:=u.out;have:=y.out;omega));have s:Hid (ac v f 75 XL):=Ld ((F.out.blk t.out).fr T.out (by have:=u.out;have:=y.out;omega))
   have p7:Hid (fp v r' E1 E2):=Ld (u9.out.fr T.out (λj q=>by
    have f':j=b4:=q;rw[f']
    exact aK.not_blk O.out (by decide)))
   have p3:Hid (aa w v):=Ld (((k3.out.tr k4.out).tr F.out).fr T.out (λj q=>by have:=u.out;omega))
   have m1:Hid (jZ v (runs p l0 k).1 B):=Ld ((g7.out.new F.out).fr T.out (λj q=>by
    have f':j=b4:=q;rw[f']
    exact aK.not_blk O.out (by decide)))
   have m9:Hid (eB w.heap.size v (.slice A k d) (runs p l0 k).2):=Ld (((J.out.recs.new F.out).fr T.out (λj q _=>by
    have f':j=b4:=q;rw[f']
    exact⟨aK.not_blk O.out (by decide),aK.not_blk O.out (by decide)⟩)).base (by have:=u.out;have:=j3.out.size;omega))
   by_cases h0:ec=0
   ·have H0:=Ld h0;subst h0
    go_wp2_with fail;refine ah (λW=>ac W b4 65 Y/\ac W f 75 XL) [(true,0),(true,1),(true,2),(false,3),(false,4),(true,5),(true,6)] (by kernel_rfl) (by kernel_rfl) ⟨b7.out.drew,s.out.drew⟩ (λy5=>?_);refine bM (o:=.mk ..) rfl rfl (.tmp 4) rfl rfl (λW hS=>hS.1.rangeOf) underlying65 rfl (by rw[Array.length_toList,G.out];rfl) ?_;simp only[Act.put,bC,bD,bF];refine bM (o:=.mk ..) rfl rfl (.tmp 12) rfl rfl (λW hS=>hS.2.rangeOf) underlying75 rfl (by rw[Array.length_toList,Z.out];rfl) ?_;simp only[Act.put,bC,bD,bF]
    iterate 1 (refine af (o:=.mk ..) rfl (λK D=>?_);go_simp;refine D _ ?_;clear D K)
    refine aj (o:=.mk ..) rfl (λK D=>?_) (.inl rfl);refine cZ (cs:=Y) rfl (.tmp 8) (.tmp 80) rfl (by rw[G.out];rfl) rfl rfl H.out.drew (by rw[G.out];rfl) n3.out ?_;intro w5 q4 q6;have c5:=Ld q4;have g6:Hid (Fr (λj=>j=b8) v w5):=Ld (((aa.dr (aa.refl v)).toFr _).trans q6);clear q4 q6;have c0:Hid (ac w5 b4 65 Y/\ac w5 f 75 XL):=Ld ⟨b7.out.fr g6.out (by have:=u.out;omega),s.out.fr g6.out (by have:=u.out;have:=y.out;omega)⟩;simp only[Act.put,bC,bD,bF];refine D.out _ _ (λ_=>c0.out) ?_;clear D K;have c6:Hid (ac w5 b9 75 qL):=Ld (I.out.fr g6.out (by have:=u.out;omega));refine aj (o:=.mk ..) rfl (λK D=>?_) (.inl rfl);refine cZ (cs:=XL) rfl (.tmp 9) (.tmp 81) rfl (by rw[Z.out];rfl) rfl rfl c6.out (by rw[Z.out];rfl) (by rw[j7.out];exact wW _ _ _) ?_;intro E q5 j8;have c7:=Ld q5;have z:Hid (Fr (λj=>j=b8\/j=b9) v E):=Ld ((g6.out.mono (λj _ q=>.inl q)).trans (j8.mono (λj _ q=>.inr q)));have l3:Hid (ac E b8 65 Y):=Ld (c5.out.fr j8 (by have:=u.out;omega));have l1:Hid (ac E b4 65 Y/\ac E f 75 XL):=Ld ⟨c0.out.1.fr j8 (by have:=u.out;omega),c0.out.2.fr j8 (by have:=u.out;have:=y.out;omega)⟩;clear q5 j8;simp only[Act.put,bC,bD,bF];refine D.out _ _ (λ_=>l1.out) ?_;clear D K
    iterate 2 (refine af (o:=.mk ..) rfl (λK D=>?_);go_simp;refine D _ ?_;clear D K)
    refine au ?_
    go_wp2_with fail
    have s7:∀j,(j=b8\/j=b9)->¬aK 5 v j/\¬aK 33 v j:=λj q=>by
     rcases q with rfl|rfl
     ·exact⟨aK.not_blk H.out (by decide),aK.not_blk H.out (by decide)⟩
     ·exact⟨aK.not_blk I.out (by decide),aK.not_blk I.out (by decide)⟩
    have o5:∀j,(j=b8\/j=b9)->¬aK 132 v j:=λj q=>by
     rcases q with rfl|rfl
     ·exact aK.not_blk H.out (by decide)
     ·exact aK.not_blk I.out (by decide)
    refine bodyPost_ret (mG rfl _ _ b8 b9 _ _ _ _ rfl l3.out underlying65 rfl (by rw[G.out];rfl) rfl c7.out underlying75 rfl (by rw[Z.out];rfl)) rfl ?_;unfold kX;rw[if_pos l8.out.symm,m'.out];refine⟨r',E1,f1,E2,f2,B,cc,A,d,by rw[<-HY.out,j5.out,<-j7.out];rfl,p7.out.fr z.out o5,p2.out,p9.out,?_,?_,p3.out.fr z.out (λj q=>by have:=u.out;omega)⟩
    ·rw[j5.out];exact m1.out.fr z.out (λj q=>(s7 j q).1)
    ·rw[j5.out];exact m9.out.fr z.out (λj q _=>s7 j q)
   ·have H0:=Ld h0;have z2:(ec != 0)=true:=by simp [h0]
    have n8:∀w,(Instr.build 75 #[]).run prog w=.ok (.agg qL) w:=λ_=>by kernel_rfl
    clear h0
    go_wp2_with (first
     |(refine cE 77 rfl ?_;refine ae rfl _ rfl underlying65 rfl (by rw[G.out];rfl) rfl b7.out ?_)
     |((with_reducible refine eC ⟨none,.store 65 (.tmp 8) _,_,_,_,_⟩ ?_);refine ao rfl (.tmp 8) (.tmp 77) rfl (by rw[G.out];rfl) rfl rfl H.out (by rw[G.out];rfl) n3.out ?_;intro w5 r8 o0;have c5:=Ld r8;have g6:=Ld o0;have c6:Hid (ac w5 b9 75 qL):=Ld (I.out.fr o0 (by have:=u.out;omega));clear r8 o0)
     |((with_reducible refine eC ⟨none,.store 75 (.tmp 9) _,_,_,_,_⟩ ?_);refine ao rfl (.tmp 9) (.tmp 78) rfl (cs:=qL) rfl rfl rfl c6.out rfl (by simp[qL,Value.oneCell']) ?_;intro E r9 s5;have c7:=Ld r9;have z:=Ld s5;clear r9 s5))
    have o5:∀j,(j=b8\/j=b9)->¬aK 132 v j:=λj q=>by
     rcases q with rfl|rfl
     ·exact aK.not_blk H.out (by decide)
     ·exact aK.not_blk I.out (by decide)
    have j0:Fr (λj=>j=b8\/j=b9) v E:=(g6.out.mono (λj _ q=>.inl q)).trans (z.out.mono (λj _ q=>.inr q));refine bodyPost_ret (mG rfl _ _ b8 b9 _ _ _ _ rfl (c5.out.fr z.out (by have:=u.out;omega)) underlying65 rfl (by rw[G.out];rfl) rfl c7.out underlying75 rfl rfl) rfl ?_;unfold kX;rw[if_neg (by rw[<-l8.out];exact H0.out)];exact⟨r',E1,f1,E2,f2,by rw[<-HY.out,<-l8.out];rfl,p7.out.fr j0 o5,p2.out,p9.out,p3.out.fr j0 (λj q=>by have:=u.out;omega)⟩
  |some L=>
   have y9:=Ld hn;rw[hn]at U;have j1:=Ld (rZ g.out.1 J.out.len hn)
   have o1:k+1<=16384:=by
    have h6:=(cu g.out.1 g.out.2 (k+1)).1.used;have h7:=(cu g.out.1 g.out.2 (k+1)).2.1;have:=j1.out.2;have:=p1.out;omega
   have i2:(runs p l0 k).2.length=k:=J.out.len.1;have m':=Ld i2;obtain⟨vs,g4,k0⟩:=J.out.recs.row;rw[i2]at g4;have n1:=Ld (And.intro g4 k0);have j6:Hid (runs p l0 (k+1)=((runs p l0 k).1.step L,(runs p l0 k).2++[L])):=Ld (fG hn)
   have y8:(runs p l0 k).1.used+aA L.length<=20000:=by
    have h6:=(cu g.out.1 g.out.2 (k+1)).1.used;have h7:=(cu g.out.1 g.out.2 (k+1)).2.1;have h8:=p1.out;have h9:(runs p l0 (k+1)).1.used=(runs p l0 k).1.used+aA L.length:=by rw[j6.out];rfl
    omega
   have b3:Hid (L.length<=65536):=Ld (by
    obtain⟨hx,hb⟩:=pK hn;have h1:=LG.body_len g.out.1 hx.pos;have h2:=eo hx.pos;rw[hb,h1]
    omega)
   obtain⟨us,t'⟩:=nM ((runs p l0 k).1.used);obtain⟨sn,s8⟩:=nM (aA L.length);obtain⟨u2,y7⟩:=nM (us+sn);have g1:(us:Int)+(sn:Int)=(u2:Int):=by omega
   have g2:IntKind.i64.wrap (u2:Int)=(u2:Int):=IntWalk.i64_in _ (by omega);have HU:Hid (us=(runs p l0 k).1.used/\sn=aA L.length/\u2=(runs p l0 (k+1)).1.used):=Ld ⟨t',s8,by rw[j6.out];show u2=(runs p l0 k).1.used+aA L.length;omega⟩;have u5:Hid ((runs p l0 k).1.gen=c):=Ld (by rw[(cu g.out.1 g.out.2 k).2.2.2.1,m0.out];rfl);clear hn i2 g4 k0 y8 t' s8 y7;have c4:∀W,aa wr W->W.cell? ⟨f,4,none⟩=some (.slice B 16 cc):=λW hN=>by rw[(hN.blk t.out).cell,j7.out];rfl
   have p0:=Ld c4;clear c4
   go_wp2_with (first
    |(refine cE 47 rfl ?_;refine ae rfl _ rfl underlying65 rfl (by rw[g9.out.2.1];rfl) rfl b'.out ?_)
    |(refine cE 48 rfl ?_;refine ae rfl _ rfl underlying75 rfl (by rw[Z.out];rfl) rfl t.out ?_))
   refine U.out.mono ?_;rintro e w2 ⟨gb,ob,cb,rfl,r5,r6,r7,r2,X⟩;have g8:=Ld X;have m5:=Ld r2;have o9:=Ld r7;have o8:=Ld (And.intro r5 r6);obtain⟨bl,n6⟩:=nM (L.length);rw[<-n6]at m5 o8 b3⊢;have i7:=Ld n6;have y4:=λw=>Lib.run_eql_slice_nil (P:=prog) w 33 5 (some ⟨gb,ob,none⟩) bl cb 0 0 underlying33
   have v5:=p0.out w2 g8.out
   have v':Hid (Calls prog 124 #[.slice B 16 cc,.int .u32 c,.slice (some ⟨gb,ob,none⟩) bl cb] w2 λe w'=>(∃A c9,e=.returned (.slice A 16 c9)/\w'.ownsRow w2.heap.size 5 1 (.slice A 16 c9) 16 (an (fT (runs p l0 k).1.tag c L)))/\aa w2 w'):=Ld (by
    have h:=pY (p:=aK 5 w2) B cc (runs p l0 k).1.tag c (some ⟨gb,ob,none⟩) bl cb L w2 (HL.out.new ((k3.out.tr k4.out).tr g8.out)) (g7.out.new g8.out).tag g7.out.byt m5.out o9.out u4.out (by have:=b3.out;omega)
    exact h)
   clear r5 r6 r7 r2 X n6
   go_wp2_with fail;refine v'.out.mono ?_;rintro e w3 ⟨⟨B3,c3,rfl,r0⟩,i'⟩;have p5:=Ld r0;have F:Hid (aa wr w3):=Ld (g8.out.tr i');have N:Hid (ac w3 f 75 XL):=Ld (F.out.blk t.out);have m6:Hid (Rd (RB wr.heap.size w3) w3 1 (some ⟨gb,ob,none⟩) bl (an L)):=Ld (m5.out.frT (S:=ic) (i'.toFr _) (λ_ x=>x.elim));have f43:w3.frozen? ⟨f,4,none⟩=false:=N.out.frozen 4;have v7:=p0.out w3 F.out;clear r0 i' v5
   go_upto_region 8 with fail;obtain⟨v,k1⟩:=nM (w3.setCell ⟨f,4,none⟩ (.slice B3 16 c3));have s:Hid (ac v f 75 (XL.setIfInBounds 4 (.slice B3 16 c3))):=Ld (by rw[k1];exact N.out.set 4 _);have T:Hid (Fr (λj=>j=f) wr v):=Ld (by rw[k1];exact Fr.setCell (S:=λj=>j=f) (p:=⟨f,4,none⟩) (F.out.toFr _) (λ_=>rfl) _);have i9:Hid (Fr (λj=>j=f) w3 v):=Ld (by rw[k1];exact Fr.setCell (S:=λj=>j=f) (p:=⟨f,4,none⟩) (Fr.refl _ _) (λ_=>rfl) _);rw[<-k1];clear k1 v7 f43;have p6:Hid (v.ownsRow w2.heap.size 5 1 (.slice B3 16 c3) 16 (an (fT (runs p l0 k).1.tag c L))):=Ld (bg p5.out i9.out (λj q hs=>bm p5.out N.out (by decide) (hs▸q)))
   have m7:Hid (Rd (RB wr.heap.size v) v 1 (some ⟨gb,ob,none⟩) bl (an L)):=Ld (m6.out.frT i9.out (λj q _=>by
    have f':j=f:=q;rw[f']
    exact aK.not_blk N.out (by decide)))
   have q1:Hid (XL.setIfInBounds 4 (.slice B3 16 c3)=od {(runs p l0 k).1 with tag:=fT (runs p l0 k).1.tag c L} B3 c3):=Ld (by rw[j7.out];rfl);have q3:∀W,aa v W->W.cell? ⟨f,2,none⟩=some (.int .i64 us):=λW hN=>by rw[(hN.blk s.out).cell,q1.out,HU.out.1];rfl
   have p':=Ld q3;have q2:∀p:HW (aa v),p.w.cell? ⟨f,2,none⟩=some (.int .i64 us):=λp=>p'.out p.w p.h
   clear q3;have n7:0<=(bl:Int):=by omega
   refine fi (aa v) 7 [(true,0),(true,1),(true,2),(true,3),(false,4),(true,5),(true,6),(false,7)] (by kernel_rfl) (by kernel_rfl) (aa.dr (aa.refl v)) (λy5=>?_)
   iterate 4 (refine af (o:=.mk ..) rfl (λK D=>?_);go_simp;refine D _ ?_;clear D K)
   refine aj (o:=.mk ..) rfl (λK D=>?_) (.inl rfl);go_simp;refine(fS (bl:Int) v.drew).mono ?_;rintro e w5 ⟨rfl,u'⟩;rw[jM,i7.out,<-HU.out.2.1,<-i7.out];have j2:Hid (aa v w5):=Ld (by rw[<-u'];exact aa.dr (aa.refl v));clear u';go_simp;refine D.out _ _ (λ_=>j2.out) ?_;clear D K
   iterate 2 (refine af (o:=.mk ..) rfl (λK D=>?_);go_simp;refine D _ ?_;clear D K)
   have v2:=p'.out w5 j2.out;have f25:w5.frozen? ⟨f,2,none⟩=false:=(j2.out.blk s.out).frozen 2;refine aj (o:=.mk ..) rfl (λK D=>?_) (.inl rfl);go_simp;refine D.out _ _ (λh=>absurd rfl h) ?_;clear D K v2 f25 q2;obtain⟨E,k8⟩:=nM (w5.setCell ⟨f,2,none⟩ (.int .i64 u2))
   have i5:Hid (ac E f 75 (od (runs p l0 (k+1)).1 B3 c3)):=Ld (by
    rw[k8];have h:=(j2.out.blk s.out).set 2 (.int .i64 u2);rw[q1.out]at h
    have e:(od {(runs p l0 k).1 with tag:=fT (runs p l0 k).1.tag c L} B3 c3).setIfInBounds 2 (.int .i64 u2)=od (runs p l0 (k+1)).1 B3 c3:=by
     rw[HU.out.2.2,j6.out];rfl
    rw[e]at h
    exact h)
   have z:Hid (Fr (λj=>j=f) v E):=Ld (by rw[k8];exact Fr.setCell (S:=λj=>j=f) (p:=⟨f,2,none⟩) (j2.out.toFr _) (λ_=>rfl) _);rw[<-k8];clear k8 n7;refine au ?_
   have o3:∀j,j=f->¬aK 5 v j/\¬aK 33 v j:=λj q=>by
    rw[q];exact⟨aK.not_blk s.out (by decide),aK.not_blk s.out (by decide)⟩
   have u6:Hid (E.ownsRow w2.heap.size 5 1 (.slice B3 16 c3) 16 (an (fT (runs p l0 k).1.tag c L))):=Ld (bg p6.out z.out (λj q hs=>(o3 j hs).1 (cY p6.out q)));have m8:Hid (Rd (RB wr.heap.size E) E 1 (some ⟨gb,ob,none⟩) bl (an L)):=Ld (m7.out.frT z.out (λj q _=>(o3 j q).1));have b0:Hid (Fr (λj=>j=f) wr E):=Ld (T.out.trans z.out)
   have g3:∀j,j=f->¬aK 5 wr j/\¬aK 33 wr j:=λj q=>by
    rw[q];exact⟨aK.not_blk t.out (by decide),aK.not_blk t.out (by decide)⟩
   have V:Hid (E.ownsRow W0.heap.size 33 1 (.slice A k d) k vs/\∀(i:Nat) l,(runs p l0 k).2[i]?=some l->∃A c,vs[i]?=some (.slice A l.length c)/\l.length<=c/\c<=maxLen/\ba l/\Rd (RB W0.heap.size E) E 1 A l.length (an l)):=Ld ⟨bg n1.out.1 b0.out (λj q hs=>(g3 j hs).2 (cY n1.out.1 q)),λi l hl=>by
    obtain⟨A',c',x1,x2,x3,x4,x5⟩:=n1.out.2 i l hl
    exact⟨A',c',x1,x2,x3,x4,x5.frT b0.out (λj q _=>(g3 j q).1)⟩⟩
   have q':Hid (W0.heap.size<=E.heap.size/\W0.heap.size<=wr.heap.size):=Ld ⟨Nat.le_trans J.out.fr.size b0.out.size,J.out.fr.size⟩;clear o3 g3 g1 g2
   go_wp2_with (refine cE 68 rfl ?_;refine av Gq _ rfl (.tmp 65) (.tmp 67) rfl W0.heap.size (.slice A k d) k vs rfl (aa.own (aa.al (aa.refl E) _) V.out.1) (some ⟨E.heap.size,0,none⟩) 1 1 [.slice (some ⟨gb,ob,none⟩) bl cb] rfl (Rd.ofBlk (p:=λ_=>True) (ac.new E 33 #[.slice (some ⟨gb,ob,none⟩) bl cb]) 1 1 rfl trivial) (by simp[Value.oneCell']) (by unfold maxLen;omega) (by omega) (by have:=q'.out.1;simp;omega) ?_;intro A8 d8 w8 r1 q7 y0;have k2:=Ld q7;have u7:=Ld r1;clear r1 q7 y0)
   have C:Hid (aa E (E.alloc (.cells #[.slice (some ⟨gb,ob,none⟩) bl cb] 33))):=Ld (aa.al (aa.refl E) _)
   have n':Hid (eB W0.heap.size w8 (.slice A8 (k+1) d8) (runs p l0 (k+1)).2):=Ld (by
    rw[j6.out]
    exact eB.push (l:=L) (A2:=some ⟨gb,ob,none⟩) (c2:=cb) ⟨aa.own C.out V.out.1,λi l hl=>by
     obtain⟨A',c',x1,x2,x3,x4,x5⟩:=V.out.2 i l hl
     exact⟨A',c',x1,x2,x3,x4,x5.frT (S:=ic) (C.out.toFr _) (λ_ x=>x.elim)⟩⟩ m'.out.symm (by rw[<-i7.out];exact u7.out) k2.out (by rw[<-i7.out];exact o8.out) o9.out (by
      rw[<-i7.out]
      exact(m8.out.frT (S:=ic) (C.out.toFr _) (λ_ x=>x.elim)).imp (λj q=>⟨Nat.le_trans q'.out.2 q.1,q.2⟩)))
   have o4:∀j,(Value.slice A k d).ownBlock=some j->W0.heap.size<=j:=λj q=>(am V.out.1 j q).1
   have l9:Hid (Fr (λj=>j=f) W0 w8):=Ld (((J.out.fr.trans b0.out).trans (C.out.toFr _)).trans' k2.out (λj q hs=>by have:=o4 j hs;omega));have i6:Hid (ac w8 f 75 (od (runs p l0 (k+1)).1 B3 c3)):=Ld ((C.out.blk i5.out).fr k2.out (λhs=>by have:=o4 f hs;have:=y.out;omega))
   have m2:Hid (jZ w8 (runs p l0 (k+1)).1 B3):=Ld ⟨by
    have e:(runs p l0 (k+1)).1.tag=fT (runs p l0 k).1.tag c L:=by rw[j6.out];show fT _ _ _=_;rw[u5.out]
    rw[e];have h:=ei.own u6.out rfl
    exact(h.new C.out).fr k2.out (λj q=>aK.not_own (C.out.own V.out.1) (by decide) q),(cu g.out.1 g.out.2 (k+1)).1.byt,(cu g.out.1 g.out.2 (k+1)).1.gen,vr g.out.1 g.out.2 g.out.1.s2 (k+1)⟩
   have n0:Hid (GT W0 w8 p l0 f (k+1) (.slice A8 (k+1) d8) (od (runs p l0 (k+1)).1 B3 c3)):=Ld ⟨l9.out,n'.out,j1.out,⟨B3,c3,rfl,m2.out⟩,i6.out⟩;clear o4;go_roundw
   case rel=>exact⟨k+1,A8,d8,_,o1,rfl,n0⟩
   case measure=>simp;omega
theorem eB.out{B:Nat}{w:World}{A:Option Addr}{n c:Nat}{L:List (List Int)}(h:eB B w (.slice A n c) L)(r:n=L.length){i:Nat}(hi:i<n):∃g o d b l,L[i]?=some l/\A=some ⟨g,o,none⟩/\w.cell? ⟨g,o+i,none⟩=some (.slice d l.length b)/\ba l/\Rd (RB B w) w 1 d l.length (an l)/\b<=maxLen/\l.length<=b:=by
 subst r;obtain⟨t,s,q⟩:=h.row;obtain⟨g,o,m,-,-,p⟩:=(Rd.own s rfl).out (by omega) (by omega);obtain⟨d,b,h1,h2,f,j,k⟩:=q i _ (List.getElem?_eq_getElem hi);exact⟨g,o,d,b,_,List.getElem?_eq_getElem hi,m,p i _ h1,j,k,f,h2⟩
def chain(l:LG)(K:List (List Int)):LG:=K.foldl LG.step l
theorem lJ(l:LG)(K:List (List Int))(b:List Int):chain l (K++[b])=(chain l K).step b:=by simp[chain]
theorem bG (l:LG):∀K:List (List Int),(chain l K).first=l.first/\(chain l K).size=l.size/\(chain l K).gen=l.gen/\(chain l K).broken=l.broken
 | []=>⟨rfl,rfl,rfl,rfl⟩
 |b::K=>bG (l.step b) K
theorem pi{l:LG}{K:List (List Int)}{j:Nat}(h:j<K.length):chain l (K.take (j+1))=(chain l (K.take j)).step K[j]:=by
 rw[List.take_succ_eq_append_getElem h,lJ]
theorem ii{l:LG}{K:List (List Int)}{j:Nat}(h:j<K.length):(chain l (K.take (j+1))).used=(chain l (K.take j)).used+aA K[j].length:=by
 rw[pi h];rfl
theorem ph{l:LG}{K:List (List Int)}{j:Nat}:∀d,j+d<=K.length->(chain l (K.take j)).used<=(chain l (K.take (j+d))).used
 | 0,_=>Nat.le_refl _
 |d+1,h=>by
  have h1:=ph (l:=l) (K:=K) (j:=j) d (by omega);have h2:=ii (l:=l) (K:=K) (j:=j+d) (by omega);rw[<-Nat.add_assoc,h2];omega
theorem kz{l:LG}{K:List (List Int)}{j k:Nat}(h:j<=k)(b:k<=K.length):(chain l (K.take j)).used<=(chain l (K.take k)).used:=by
 have:=ph (l:=l) (K:=K) (j:=j) (k-j) (by omega)
 rwa[show j+(k-j)=k by omega]at this
theorem gq(l:LG)(K:List (List Int)):chain l (K.take K.length)=chain l K:=by rw[List.take_length]
def ig(b:List Int):Prop:=aA b.length≠0/\ba b
theorem re{l:LG}{K:List (List Int)}(b:∀x∈K,ig x):∀j,j<=K.length->l.used+j<=(chain l (K.take j)).used
 | 0,_=>by simp[chain]
 |j+1,h=>by
  have h1:=re (l:=l) b j (by omega);have h2:=ii (l:=l) (K:=K) (j:=j) (by omega);have c:=(b _ (List.getElem_mem (show j<K.length by omega))).1;omega
def jb(g:Nat)(s:List Int):Prop:=aU (s.take 4)≠g
theorem Cx{l:LG}{b:List Int}(i:Nat):(l.sec b i).take 9=l.hdr i:=by
 unfold LG.sec fO LG.raw;rw[List.append_assoc,List.take_append_of_le_length (by rw[LG.hdr_len];exact Nat.le_refl _),List.take_of_length_le (by rw[LG.hdr_len];exact Nat.le_refl _)]
theorem DA{l:LG}(i:Nat)(h:l.gen<4294967296):aU ((l.hdr i).take 4)=l.gen:=by
 unfold LG.hdr;rw[List.append_assoc,List.take_append_of_le_length (by rw[aw];exact Nat.le_refl _),List.take_of_length_le (by rw[aw];exact Nat.le_refl _),iA 4 _ (by omega)]
theorem rI {l:LG} {s:List Int} {i:Nat} (b:l.gen<4294967296) (h:jb l.gen s):s.take 9≠l.hdr i:=λe=>h (by
 have h1:=congrArg (List.take 4) e;rw[List.take_take]at h1;have h2:min 4 9=4:=rfl;rw[h2]at h1
 rw[h1,DA i b])
theorem nX{p:DP}{l:LG}{b:List Int}(c:b.length<=65536)(h0:sct p l 0=l.sec b 0):l.many p=b.length:=by
 unfold LG.many;rw[h0];unfold LG.sec fO LG.raw;rw[List.append_assoc,List.drop_append_of_le_length (by rw[LG.hdr_len];exact Nat.le_refl _),List.drop_of_length_le (by rw[LG.hdr_len];exact Nat.le_refl _),List.nil_append,Nat.mul_zero,List.drop_zero];have d:=LG.frame_len l b;rw[List.take_append_of_le_length (by rw[List.length_take];omega),List.take_take];unfold LG.frame;rw[List.append_assoc,List.take_append_of_le_length (by rw[aw];decide),List.take_of_length_le (by rw[aw];decide),iA 4 _ (by omega)]
theorem tv{p:DP}(f:p.Ok){l:LG}{b:List Int}(o:ig b)(u:l.used+aA b.length<=l.size)(h:∀i,i<aA b.length->sct p l i=l.sec b i):l.Next p/\l.body p=b:=by
 obtain⟨h1,h2,m⟩:=eo o.1;have hm:l.many p=b.length:=nX h2 (h 0 (by omega))
 have c:l.body p=b:=by
  have q:=fq f l (aA b.length)
  have d:(aT p l (aA b.length)).take (20+b.length)=l.frame b:=by
   refine nj (aA b.length) _ _ (by rw[List.length_take];omega) (by rw[LG.frame_len];omega) λi hi=>?_
   have v:=tE (l:=l) (b:=b) rfl m hi;have g:=qi (l:=l) (b:=b) rfl m hi;have j:=congrArg (List.drop 9) g
   have r:(l.raw b i).drop 9=((l.frame b).drop (55*i)).take 55:=by
    unfold LG.raw;rw[List.drop_append_of_le_length (by rw[LG.hdr_len];exact Nat.le_refl _),List.drop_of_length_le (by rw[LG.hdr_len];exact Nat.le_refl _),List.nil_append]
   rw[r,List.drop_take,<-h i hi]at j;rw[<-j,<-ik f l (aA b.length) i hi,List.take_take,List.drop_take,List.take_take]
   congr 1
   unfold fJ;split<;>omega
  have s:l.body p=((aT p l (aA b.length)).drop 20).take b.length:=by unfold LG.body;rw[hm]
  have t:((aT p l (aA b.length)).take (20+b.length)).drop 20=((aT p l (aA b.length)).drop 20).take b.length:=by
   rw[List.drop_take,show 20+b.length-20=b.length by omega]
  rw[s,<-t,d];unfold LG.frame;rw[List.drop_append_of_le_length (by rw[List.length_append,aw,fh];decide),List.drop_of_length_le (by rw[List.length_append,aw,fh];decide),List.nil_append]
 refine⟨lD (n:=b.length) (k:=aA b.length) f hm.symm rfl o.1 (by omega) u λi hi=>?_,c⟩;rw[c,h i hi]
theorem zI{p:DP}{l:LG}(c:l.gen<4294967296)(h:jb l.gen (sct p l 0)):¬l.Next p:=λb=>by
 have:=b.hdr 0 (by have:=b.pos;omega);exact rI c h this
theorem rJ{p:DP}{l:LG}{b:List Int}(d:l.gen<4294967296)(c:b.length<=65536)(h0:sct p l 0=l.sec b 0){i:Nat}(hi:i<aA b.length)(h:jb l.gen (sct p l i)):¬l.Next p:=λf=>by
 have hm:=nX c h0;have:=f.hdr i (by rw[hm];exact hi);exact rI d h this
end Go.Proofs.YtfchcdbfalgdlaaGreatDoor
