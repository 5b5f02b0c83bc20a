/- Texts of one proof. No condition but each one's own. -/
import Derived.Test.YtfchcdbfalgdlaaGreatDoorSweepOpensM15
import Derived.Test.YtfchcdbfalgdlaaGreatDoorSweepOpensM16
import Derived.WalkArith
set_option maxHeartbeats 4000000
set_option maxRecDepth 100000
set_option linter.unusedVariables false
set_option linter.unusedSimpArgs false
namespace Go.Proofs.YtfchcdbfalgdlaaGreatDoor
open _root_.Go.Proofs.Tryz
open Go.RowKit Go.Sort
def pP(r:Option (List Int))(w:World)(e:Ending)(w':World):Prop:=
 match r with
 |none=>e=.returned (.slice none 0 0)∧aa w w'
 |some b=>∃g o c,e=.returned (.slice (some ⟨g,o,none⟩) b.length c)∧b.length≤c∧c≤maxLen∧aU b∧Rd (RB w.heap.size w') w' 1 (some ⟨g,o,none⟩) b.length (am b)∧aa w w'
theorem uw{w:World}{g T o n:Nat}{s:List Int}(c:ab w g T (af s))(h:o+n≤s.length):Rd (fun _=>True) w 1 (some ⟨g,o,none⟩) n (am ((s.drop o).take n)):=
 ⟨by rw [ah,List.length_take,List.length_drop];omega,fun _=>⟨_,rfl,trivial,c.lt,fun j u hu=>by
  have d:=(List.getElem?_eq_some_iff.1 hu).1;rw[ah,List.length_take,List.length_drop]at d
  have e:(⟨g,o,none⟩:Addr).add j=⟨g,o+j,none⟩:=by
   unfold Addr.add
   by_cases b:j=0<;>simp[b]
  rw[e,c.cell];unfold af;rw[List.getElem?_toArray,←hu];unfold am
  rw[List.getElem?_map,List.getElem?_map,List.getElem?_take_of_lt (by omega),List.getElem?_drop]⟩⟩
theorem gp(s:List Int){j:Nat}(h:j<s.length):s.take (j+1)=s.take j++[at_ s j]:=by
 unfold at_;rw[List.take_succ_eq_append_getElem h,List.getD_eq_getElem?_getD,List.getElem?_eq_getElem h];rfl
theorem oV(l:LG)(b:List Int){i j:Nat}(d:j<64):∀{k:Nat},i<k→(gU l b k)[i*64+j]?=some (.int .u8 (at_ (l.sec b i) j))
 | 0,h=>absurd h (by omega)
 |k+1,h=>by
  have hl:∀k,(gU l b k).length=k*64:=fun k=>by
   induction k with
   |zero=>rfl
   |succ k g=>rw[gD,List.length_append,g,ah,LG.sec,eY (l.raw_len b k)];omega
  rw[gD]
  by_cases f:i=k
  ·subst f;rw [List.getElem?_append_right (by rw [hl];omega),hl];have e:i*64+j-i*64=j:=by omega
   have c:(l.sec b i).length=64:=by rw[LG.sec,eY (l.raw_len b i)]
   rw[e];unfold am at_;rw[List.getElem?_map,List.getElem?_eq_getElem (by omega),List.getD_eq_getElem?_getD,List.getElem?_eq_getElem (by omega)];rfl
  ·rw[List.getElem?_append_left (by rw[hl];omega)];exact oV l b d (by omega)
structure Fh(w wr:World)(p:DP)(l:LG)(k:Nat)(v:Value):Prop where
 new:aa w wr
 own:wr.ownsRow w.heap.size 5 1 v (55*k) (am (aP p l k))
theorem yk{w:World}{p:DP}{l:LG}(r:RP)(A1:Option Addr)(c1:Nat)(A2:Option Addr)(c2:Nat)(A:Option Addr)(c:Nat)(hr:fG w r A1 A2)(hM:Mt p r)(hp:p.Ok)(hn:r.tot≤1000000)(hI:jv w l A)(hl:l.Ok p.size)(hL:cM 3 1 w):
    Calls prog 123 #[.agg (ie r A1 c1 A2 c2),.agg (mZ l A c)] w (pP (nextL p l) w):=by
 have r3:=hp.s2;have b8:=hl.fit;have i5:=hl.used;have g9:=Ld hp;have HL:=Ld hL;have HI:=Ld hI;have G:Hid (∀i,aJ (sct p l i)):=Ld fun i=>lk hp l i
 obtain⟨XR,j5⟩:=nM (ie r A1 c1 A2 c2);obtain⟨XL,j4⟩:=nM (mZ l A c)
 have l3:Hid (∀i (a:Int),a=((l.first+l.used+i:Nat):Int)→l.used+i<l.size→∀W,aa w W→Calls prog 121 #[.agg XR,.int .i64 a] W fun e w'=>e=.returned (.tuple #[.agg (af (sct p l i)),.int .i64 0])∧aa W w'):=Ld fun i a ha hi W hN=>by
  subst ha;have s3:p.within ((l.first+l.used+i:Nat):Int)=true:=by unfold DP.within;exact decide_eq_true (by omega)
  have h:=mF r A1 c1 A2 c2 ((l.first+l.used+i:Nat):Int) W (hr.new hN) hn (WalkArith.wf_i64 (by omega)) (by rw[hM.size];omega);rw[hM.rget,hM.rcode,DP.rcode,s3,if_pos rfl]at h;rw[j5];exact h
 have k4:Hid (∀(B:Option Addr) (n d:Nat) (b:List Int) W,aa w W→Rd (fun _=>True) W 1 B n (am b)→aU b→n≤70000→∀K,K=(n+74)/55→Calls prog 130 #[.agg XL,.slice B n d] W fun e w'=>(∃C cc,e=.returned (.slice C K cc)∧w'.ownsRow W.heap.size 68 64 (.slice C K cc) K (gU l b K))∧aa W w'):=Ld fun B n d b W hN hR hb h7 K hK=>by
  rw[j4];exact oM l A c B n d b (hL.new hN) (hI.new hN) hR hb h7 K hK
 obtain⟨us,n1⟩:=nM (l.used);obtain⟨fs,m4⟩:=nM (l.first);obtain⟨sz,c0⟩:=nM (l.size);have P:Hid (us=l.used∧fs=l.first∧sz=l.size):=Ld ⟨n1,m4,c0⟩;have j2:Hid (XL[0]?=some (.int .i64 fs)∧XL[1]?=some (.int .i64 sz)∧XL[2]?=some (.int .i64 us)∧XL.size=6):=Ld (by rw[j4,n1,m4,c0];exact⟨rfl,rfl,rfl,rfl⟩);have l8:Hid (XR.size=5):=Ld (by rw[j5];rfl);obtain⟨NX,m'⟩:=nM (nextL p l);rw[←j5,←j4,←m'];have c3:=Ld m';have t':us≤sz:=by omega
 have s9:fs+sz≤16384:=by omega
 clear hr hM hp hn hI hl hL j5 j4 m' n1 m4 c0 r3 b8 i5
 go_enter func123,ntmps123
 go_upto_region 1 with fail
 obtain⟨Y,i6⟩:=nM ((w.alloc (.cells XR 65)).alloc (.cells XL 75):World);obtain⟨b2,m0⟩:=nM (w.heap.size);obtain⟨b3,m1⟩:=nM (w.heap.size+1);have E:Hid (aa w Y):=Ld (by rw[i6];exact aa.al (aa.al (aa.refl _) _) _);have k2:Hid (ab Y b2 65 XR):=Ld (by rw[i6,m0];exact(ab.new _ _ _).alloc _);have n2:Hid (ab Y b3 75 XL):=Ld (by rw[i6,m1];exact ab.new' _ _ _ (by simp));rw[←i6,←m1,←m0];clear i6 m0 m1
 have HC:Hid (∀W,aa Y W→W.cell? ⟨b3,0,none⟩=some (.int .i64 fs)∧W.cell? ⟨b3,1,none⟩=some (.int .i64 sz)∧W.cell? ⟨b3,2,none⟩=some (.int .i64 us)):=Ld fun W hN=>by
  have h:=hN.blk n2.out;exact⟨by rw[h.cell,j2.out.1],by rw[h.cell,j2.out.2.1],by rw[h.cell,j2.out.2.2.1]⟩
 obtain⟨c4,c5,c7⟩:=HC.out Y (aa.refl _)
 by_cases h0:us<sz
 rotate_left
 ·have HN:Hid (NX=none):=Ld (by rw[c3.out];exact ci (fun H=>by have:=H.room;have:=P.out;omega))
  go_wp2_with fail
  go_ret;rw[HN.out];exact⟨rfl,E.out⟩
 obtain⟨fu,q3⟩:=nM (fs+us);have e1:(fs:Int)+(us:Int)=(fu:Int):=by omega
 have e2:IntKind.i64.wrap (fu:Int)=(fu:Int):=IntWalk.i64_in _ (by omega);have k5:Hid (fu=l.first+l.used):=Ld (by have:=P.out;omega);have q4:fu≤16384:=by omega
 clear q3;have s4:Hid (∀i,(af (sct p l i)).size=64):=Ld fun i=>by rw[au,(G.out i).1]
 go_upto_region 4 with (first
  |(refine cg 26 rfl ?_;refine ac rfl _ rfl underlying65 rfl (by rw[l8.out];rfl) rfl k2.out ?_)
  |(go_at_call 121;refine(l3.out 0 (fu:Int) (by rw[Nat.add_zero,←k5.out]) (by have:=P.out;omega) Y E.out).mono ?_;rintro e w1 ⟨rfl,V⟩;have g6:=Ld V;clear V)
  |(refine cg 5 rfl ?_;refine aG (s:=sct p l 0) rfl rfl rfl _ _ rfl bE rfl rfl rfl (G.out 0).1 ?_))
 obtain⟨w2,f'⟩:=nM (w1.alloc (.cells (af (sct p l 0)) 68):World);obtain⟨b5,m2⟩:=nM (w1.heap.size);have o9:Hid (ab w2 b5 68 (af (sct p l 0))):=Ld (by rw[f',m2];exact ab.new _ _ _);have j1:Hid (aa Y w2):=Ld (by rw[f'];exact aa.al g6.out _);rw[←f',←m2];clear f' m2 c4 c5 c7;obtain⟨u,j6⟩:=nM (l.many p);have T:=Ld j6;obtain⟨N,hN⟩:=nM (ay u);have F:=Ld hN;have q':N≤1193:=by rw[hN];exact it u
 have m8:u<4294967296:=by
  have p7:=(G.out 0).1;have:=eC (xs:=((sct p l 0).drop 9).take 4) (fun x H=>(G.out 0).2 x (List.mem_of_mem_drop (List.mem_of_mem_take H)));rw[List.length_take,List.length_drop,p7]at this;rw[j6];exact this
 have l7:Hid (aQ (((sct p l 0).drop 9).take 4)=u):=Ld (by rw[j6];rfl);have em:IntKind.i64.wrap (u:Int)=(u:Int):=IntWalk.i64_in _ (by omega);have m7:(u:Int)<4294967296:=by omega
 clear j6 hN m8
 go_wp2_with fail
 refine(gG (some ⟨b5,9,none⟩) 4 55 (((sct p l 0).drop 9).take 4) w2 (uw o9.out (by rw[(G.out 0).1];decide)) (fun x H=>(G.out 0).2 x (List.mem_of_mem_drop (List.mem_of_mem_take H))) (by omega)).mono ?_;rintro e w' ⟨rfl,rfl⟩;rw[l7.out]
 go_wp2_with fail
 refine(fy (u:Int) w2).mono ?_;rintro e w' ⟨rfl,rfl⟩;rw[jk,←F.out];clear em m7;obtain⟨c4,c5,c7⟩:=HC.out w2 j1.out
 by_cases i0:N=0
 ·have HN:Hid (NX=none):=Ld (by rw[c3.out];exact ci (fun H=>H.pos (by rw[←T.out,←F.out,i0])));subst i0
  go_wp2_with fail
  go_ret;rw[HN.out];exact⟨rfl,E.out.tr j1.out⟩
 have p9:((N:Int)==0)=false:=by simp;omega
 by_cases b8:us+N≤sz
 rotate_left
 ·have HN:Hid (NX=none):=Ld (by rw [c3.out];exact ci (fun H=>b8 (by have:=H.fit;rw [←T.out,←F.out] at this;have:=P.out;omega)));have g1:(sz:Int)<(us:Int)+(N:Int):=by omega
  clear i0
  go_wp2_with fail
  go_ret;rw[HN.out];exact⟨rfl,E.out.tr j1.out⟩
 have g1:¬(sz:Int)<(us:Int)+(N:Int):=by omega
 have U:=Ld i0;clear i0;have n7:Hid (Fh Y w2 p l 0 (.slice none 0 0)):=Ld ⟨j1.out,World.ownsRow_nil _ _ _ _⟩
 go_wp2_with fail
 go_loopw [9,10] (fun f i wr=>∃(k m:Nat) (A:Option Addr) (d:Nat),k≤N∧Hid (m=55*k)∧m≤66000∧i=.int .i64 k∧f=.slice A m d∧Hid (Fh Y wr p l k (.slice A m d))) (fun _ i _=>N-(intOf i).toNat)
 case atStart=>exact⟨0,0,none,0,Nat.zero_le _,Ld rfl,by omega,rfl,rfl,n7⟩
 case round=>
  clear n7 c4 c5 c7;obtain⟨k,m,A3,d,hk,HM,hm,rfl,rfl,Z⟩:=hrel;obtain⟨c4,c5,c7⟩:=HC.out wr Z.out.new;have b':Hid (ab wr b2 65 XR):=Ld (Z.out.new.blk k2.out)
  by_cases c9:k<N
  ·obtain ⟨a,ha⟩:=nM (fu+k);have f1:(fu:Int)+(k:Int)=(a:Int):=by omega
   have f2:IntKind.i64.wrap (a:Int)=(a:Int):=IntWalk.i64_in _ (by omega);have HA:Hid (a=l.first+l.used+k):=Ld (by have:=k5.out;omega);have m6:(k:Int)<(N:Int):=by omega
   have q7:(0:Int)≤(k:Int):=by omega
   have o8:Hid (((sct p l k).drop 9).length=55):=Ld (by rw[List.length_drop,(G.out k).1]);clear ha
   go_upto_region 13 with (first
    |(refine cg 57 rfl ?_;refine ac rfl _ rfl underlying65 rfl (by rw[l8.out];rfl) rfl b'.out ?_)
    |(go_at_call 121;refine(l3.out k (a:Int) (by rw[←HA.out]) (by have:=P.out;omega) wr (E.out.tr Z.out.new)).mono ?_;rintro e w1 ⟨rfl,V⟩;have g6:=Ld V;clear V)
    |(refine cg 11 rfl ?_;refine aG (s:=sct p l k) rfl rfl rfl _ _ rfl bE rfl rfl rfl (G.out k).1 ?_))
   obtain⟨w4,j7⟩:=nM (w1.alloc (.cells (af (sct p l k)) 68):World);obtain⟨l9,b1⟩:=nM (w1.heap.size);have k':Hid (ab w4 l9 68 (af (sct p l k))):=Ld (by rw[j7,b1];exact ab.new _ _ _);have k7:Hid (aa wr w4):=Ld (by rw[j7];exact aa.al g6.out _);rw[←j7,←b1];clear j7 b1;have n8:Hid (w4.ownsRow Y.heap.size 5 1 (.slice A3 m d) m (am (aP p l k))):=Ld (by have:=k7.out.own Z.out.own;rwa[←HM.out]at this)
   have l4:Hid (Rd (fun _=>True) w4 1 (some ⟨l9,9,none⟩) 55 (am ((sct p l k).drop 9))):=Ld (by
    have h:=uw (o:=9) (n:=55) k'.out (by rw[(G.out k).1];decide)
    rwa[List.take_of_length_le (by rw[o8.out];exact Nat.le_refl _)]at h)
   go_wp2_with (refine cg 70 rfl ?_;refine aq jJ _ rfl (.tmp 68) (.tmp 69) rfl Y.heap.size (.slice A3 m d) m _ rfl n8.out (some ⟨l9,9,none⟩) 55 55 (am ((sct p l k).drop 9)) rfl l4.out (aM _) (by unfold maxLen;omega) (by omega) (Z.out.new.tr k7.out).size ?_;intro A6 c6 w6 o3 o0 p8;have p0:=Ld o0;have p4:=Ld o3;clear o3 o0 p8)
   have k6:Hid (m+55=55*(k+1)):=Ld (by have:=HM.out;omega)
   have p5:Hid (Fh Y w6 p l (k+1) (.slice A6 (m+55) c6)):=Ld ⟨(Z.out.new.tr k7.out).fr p0.out (fun k hk=>(ak n8.out k hk).1),by
    rw[←k6.out,im];have:=p4.out;unfold am at this⊢;rw[List.map_append]
    exact this⟩
   go_roundw
   case rel=>exact⟨k+1,m+55,A6,c6,by omega,k6,by have:=k6.out;omega,by go_num,rfl,p5⟩
   case measure=>simp[intOf];omega
  ·have i4:k=N:=by omega
   have o5:¬(k:Int)<(N:Int):=by omega
   rw[i4]at Z HM;clear i4 hk c9;have c':=dO (n:=u) (by rw[←F.out];exact U.out);have m3:20+u≤m:=by have:=HM.out;have:=F.out;omega
   have r':1≤u:=c'.1;have r0:u≤65536:=c'.2.1;obtain⟨g,d',hv,o6,s7⟩:=dh Z.out.own (by have:=HM.out;omega);injection hv with r4 r5 r6;subst r4 r6;have o6:m≤d:=by have:=HM.out;omega
   obtain⟨X,q9⟩:=nM (20+u);have f1:(20:Int)+(u:Int)=(X:Int):=by omega
   have f2:IntKind.i64.wrap (X:Int)=(X:Int):=IntWalk.i64_in _ (by omega);have f3:X-20=u:=by omega
   have f4:¬d=20:=by omega
   have f5:X≤d:=by omega
   have f6:20≤X:=by omega
   have f7:(X:Int)≤(d:Int):=by omega
   have f8:(20:Int)≤(X:Int):=by omega
   obtain⟨D,i1⟩:=nM (l.body p);have p':Hid (D=((aP p l N).drop 20).take u):=Ld (by rw[i1,LG.body,←T.out,←F.out]);have k3:Hid (D.length=u):=Ld (by rw[i1,LG.body_len g9.out (by rw[←T.out,←F.out];exact U.out),T.out]);have n3:Hid (aU D):=Ld (by rw[i1];exact LG.body_byt g9.out l);have i7:=Ld i1
   have l1:Hid (Rd (RB Y.heap.size wr) wr 1 (some ⟨g,20,none⟩) u (am D)):=Ld (by
    have h:=((Rd.own Z.out.own (by rw[HM.out])).imp (q:=RB Y.heap.size wr) (fun k hk=>⟨(ak Z.out.own k hk).1,cJ Z.out.own hk⟩)).drop (k:=20) (cap:=d) (by rw[←HM.out];omega) (by rw[←HM.out];exact o6);rw[if_neg f4]at h
    have h2:Rd (RB Y.heap.size wr) wr 1 (some ⟨g,20,none⟩) (55*N-20) (am ((aP p l N).drop 20)):=by
     have e:am ((aP p l N).drop 20)=(am (aP p l N)).drop (20*1):=by unfold am;rw[List.map_drop]
     rw[e];exact h
    have h3:=h2.take (k:=u) (by rw[←HM.out];omega);rw[←p'.out]at h3
    exact h3)
   have g3:Hid (ab wr b3 75 XL):=Ld (Z.out.new.blk n2.out);have p1:Hid (N=(u+74)/55):=Ld (by have:=F.out;omega);clear i1 r5 c' c4 c5 c7
   go_upto_region 15 with fail
   clear f1 f2 f3 f4 f5 f6 f7 f8
   go_wp2_with (first
    |(refine cg 75 rfl ?_;refine ac rfl _ rfl underlying75 rfl (by rw[j2.out.2.2.2];rfl) rfl g3.out ?_)
    |(go_at_call 130;refine(k4.out (some ⟨g,20,none⟩) u (d-20) D wr (E.out.tr Z.out.new) (l1.out.imp (fun _ _=>trivial)) n3.out (by omega) N p1.out).mono ?_;rintro e w5 ⟨⟨C,cc,rfl,o2⟩,o1⟩;have l':=Ld o2;have n9:=Ld o1;clear o2 o1))
   obtain⟨gw,s5,r7,q0,s6⟩:=dh l'.out (by have:=U.out;omega);injection r7 with r8 f' s';subst r8 s'
   have p6:Hid (∀i j,i<N→j<64→w5.cell? ⟨gw,i*64+j,none⟩=some (.int .u8 (at_ (l.sec D i) j))):=Ld fun i j hi hj=>by
    obtain⟨g',o',he,-,-,hc⟩:=(Rd.own l'.out rfl).out (by omega) (by omega);injection he with he;injection he with e1 e2;subst e1 e2;have:=hc (i*64+j) _ (oV l D hj hi)
    rwa[Nat.zero_add]at this
   have l2:Hid (Rd (RB Y.heap.size w5) w5 1 (some ⟨g,20,none⟩) u (am D)):=Ld (l1.out.frT (S:=ia) (n9.out.toFr _) (fun _ x=>x.elim));have I:Hid (aa Y w5):=Ld (Z.out.new.tr n9.out);have g5:Hid (∀i,i<0→(sct p l i).take (ff u N i)=(l.sec D i).take (ff u N i)):=Ld fun i hi=>absurd hi (by omega)
   have q1:N≤cc:=q0;clear f' g3 l1 Z HM l' o5;have q2:1≤N:=by have:=U.out;omega
   have g8:Hid (aa w5 w5):=Ld (aa.refl _)
   go_wp2_with fail
   go_loopw [15] (fun i wr=>∃(k:Nat),k≤N∧i=.int .i64 k∧Hid (aa w5 wr)∧Hid (∀i,i<k→(sct p l i).take (ff u N i)=(l.sec D i).take (ff u N i))) (fun i _=>N-(intOf i).toNat)
   case atStart=>exact⟨0,Nat.zero_le _,rfl,g8,g5⟩
   case round=>
    clear g8 g5 b';obtain⟨k,hk,rfl,HN,j'⟩:=hrel;obtain⟨c4,c5,c7⟩:=HC.out wr (I.out.tr HN.out);have b':Hid (ab wr b2 65 XR):=Ld ((I.out.tr HN.out).blk k2.out)
    by_cases c9:k<N
    ·obtain ⟨a,ha⟩:=nM (fu+k);have h1:(fu:Int)+(k:Int)=(a:Int):=by omega
     have h2:IntKind.i64.wrap (a:Int)=(a:Int):=IntWalk.i64_in _ (by omega);have HA:Hid (a=l.first+l.used+k):=Ld (by have:=k5.out;omega);have m6:(k:Int)<(N:Int):=by omega
     have q7:(0:Int)≤(k:Int):=by omega
     obtain⟨k1,s8⟩:=nM (N-1);have h3:(N:Int)-1=(k1:Int):=by omega
     obtain⟨L,c8⟩:=nM (ff u N k);have i9:=Ld c8;have o4:L≤64:=by rw[c8];exact wh _ _ _
     have i':Hid ((sct p l k).length=64∧(l.sec D k).length=64):=Ld ⟨(G.out k).1,by rw[LG.sec,eY (l.raw_len D k)]⟩;clear ha
     go_upto_region 20 with (first
      |(refine cg 84 rfl ?_;refine ac rfl _ rfl underlying65 rfl (by rw[l8.out];rfl) rfl b'.out ?_)
      |(go_at_call 121;refine(l3.out k (a:Int) (by rw[←HA.out]) (by have:=P.out;omega) wr (E.out.tr (I.out.tr HN.out))).mono ?_;rintro e w1 ⟨rfl,V⟩;have g6:=Ld V;clear V)
      |(refine cg 16 rfl ?_;refine aG (s:=sct p l k) rfl rfl rfl _ _ rfl bE rfl rfl rfl (G.out k).1 ?_))
     obtain⟨w7,j8⟩:=nM (w1.alloc (.cells (af (sct p l k)) 68):World);obtain⟨j3,b7⟩:=nM (w1.heap.size);have k0:Hid (ab w7 j3 68 (af (sct p l k))):=Ld (by rw[j8,b7];exact ab.new _ _ _);have g7:Hid (aa w5 w7):=Ld (by rw[j8];exact aa.al (HN.out.tr g6.out) _);rw[←j8,←b7];clear j8 b7
     have n6:Hid (∀j,j<64→∀N,(w7.drewN N).cell? ⟨j3,j,none⟩=some (.int .u8 (at_ (sct p l k) j))):=Ld fun j hj N=>by
      rw[(k0.out.drewN N).cell j,lT (by rw[i'.out.1];exact hj)]
     have n5:Hid (∀j,j<64→∀N,(w7.drewN N).cell? ⟨gw,k*64+j,none⟩=some (.int .u8 (at_ (l.sec D k) j))):=Ld fun j hj N=>(g7.out.dn N).cell_ (p6.out k j c9 hj)
     by_cases O:k+1=N
     ·have q8:((k:Int)==(k1:Int))=true:=by simp;omega
      obtain⟨o7,n'⟩:=nM (20+u);have t1:(20:Int)+(u:Int)=(o7:Int):=by omega
      obtain⟨j9,m9⟩:=nM (u+19);have t2:(o7:Int)-1=(j9:Int):=by omega
      obtain⟨rm,r2⟩:=nM (j9%55);have t3:(j9:Int)%55=(rm:Int):=by omega
      obtain⟨r9,r1⟩:=nM (9+rm);have t4:(9:Int)+(rm:Int)=(r9:Int):=by omega
      have t5:(r9:Int)+1=(L:Int):=by rw[c8,ff,if_pos O];omega
      have t6:(0:Int)≤(j9:Int):=by omega
      have t7:(rm:Int)<55:=by omega
      clear n' m9 r2 r1 c8 O;have R:Hid ((sct p l k).take 0=(l.sec D k).take 0):=Ld rfl;have g4:Hid (∃N,w7=w7.drewN N):=Ld ⟨0,rfl⟩
      go_wp2_with fail
      go_loopw [19] (fun j wr=>∃(j0:Nat),j0≤L∧j=.int .i64 j0∧Hid (∃N,wr=w7.drewN N)∧Hid ((sct p l k).take j0=(l.sec D k).take j0)) (fun j _=>L-(intOf j).toNat)
      case atStart=>exact⟨0,Nat.zero_le _,rfl,g4,R⟩
      case round=>
       clear g4 R;obtain⟨j,hj,rfl,HD,HT⟩:=hrel
       by_cases b9:j<L
       ·have v:j<64:=by omega
        have i2:(j:Int)<64:=by omega
        have m5:(j:Int)<(L:Int):=by omega
        have q5:(0:Int)≤(j:Int):=by omega
        obtain⟨x,H⟩:=nM (at_ (sct p l k) j);obtain⟨y,hy⟩:=nM (at_ (l.sec D k) j)
        have cx:∀M,(wr.drewN M).cell? ⟨j3,j,none⟩=some (.int .u8 x):=fun M=>by
         obtain⟨N',t⟩:=HD.out;rw[t,World.drewN_drewN,H];exact n6.out j v _
        have cy:∀M,(wr.drewN M).cell? ⟨gw,k*64+j,none⟩=some (.int .u8 y):=fun M=>by
         obtain⟨N',t⟩:=HD.out;rw[t,World.drewN_drewN,hy];exact n5.out j v _
        have J:=Ld (And.intro H hy);clear H hy
        by_cases z:x=y
        ·have n0:(x != y)=false:=by simp [z]
         have l5:Hid ((sct p l k).take (j+1)=(l.sec D k).take (j+1)):=Ld (by
          rw[gp _ (by rw[i'.out.1];exact v),gp _ (by rw[i'.out.2];exact v),HT.out,←J.out.1,←J.out.2,z])
         clear z
         go_wp2_with fail
         go_quiet (fail)
         go_wp2_with fail
         go_roundw
         case rel=>exact⟨j+1,by omega,by go_num,Ld (by obtain⟨N',t⟩:=HD.out;exact⟨_,by rw[t,World.drewN_drewN]⟩),l5⟩
         case measure=>simp[intOf];omega
        ·have n0:(x != y)=true:=by simp [z]
         have k9:Hid (NX=none):=Ld (by
          rw[c3.out];refine ci (fun H=>z ?_);have h:=kG g9.out T.out F.out H k c9;rw[←i9.out,←i7.out]at h;have h2:((sct p l k).take L)[j]?=((l.sec D k).take L)[j]? :=by rw[h]
          rw[List.getElem?_take_of_lt b9,List.getElem?_take_of_lt b9]at h2;rw[J.out.1,J.out.2];unfold at_
          rw[List.getD_eq_getElem?_getD,List.getD_eq_getElem?_getD,h2])
         clear z
         go_wp2_with fail
         go_quiet (fail)
         go_wp2_with fail
         go_ret;rw[k9.out];exact⟨rfl,by obtain⟨N',t⟩:=HD.out;rw[t];exact(((E.out.tr I.out).tr g7.out).dn _).dn _⟩
       ·have i3:j=L:=by omega
        have q6:¬(j:Int)<(L:Int):=by omega
        have b0:Hid (∀i,i<k+1→(sct p l i).take (ff u N i)=(l.sec D i).take (ff u N i)):=Ld fun i hi=>by
         by_cases h:i=k
         ·subst h;rw[←i9.out,←i3];exact HT.out
         ·exact j'.out i (by omega)
        have k8:Hid (aa w5 wr):=Ld (by obtain⟨N',t⟩:=HD.out;rw[t];exact g7.out.dn _);clear i3 hj b9
        go_wp2_with fail
        go_roundw
        case rel=>exact⟨k+1,by omega,by go_num,k8,b0⟩
        case measure=>simp[intOf];omega
     ·have q8:((k:Int)==(k1:Int))=false:=by simp;omega
      have t5:(64:Int)=(L:Int):=by rw[c8,ff,if_neg O];rfl
      clear c8 O;have R:Hid ((sct p l k).take 0=(l.sec D k).take 0):=Ld rfl;have g4:Hid (∃N,w7=w7.drewN N):=Ld ⟨0,rfl⟩
      go_wp2_with fail
      try rw[t5]
      go_loopw [19] (fun j wr=>∃(j0:Nat),j0≤L∧j=.int .i64 j0∧Hid (∃N,wr=w7.drewN N)∧Hid ((sct p l k).take j0=(l.sec D k).take j0)) (fun j _=>L-(intOf j).toNat)
      case atStart=>exact⟨0,Nat.zero_le _,rfl,g4,R⟩
      case round=>
       clear g4 R;obtain⟨j,hj,rfl,HD,HT⟩:=hrel
       by_cases b9:j<L
       ·have v:j<64:=by omega
        have i2:(j:Int)<64:=by omega
        have m5:(j:Int)<(L:Int):=by omega
        have q5:(0:Int)≤(j:Int):=by omega
        obtain⟨x,H⟩:=nM (at_ (sct p l k) j);obtain⟨y,hy⟩:=nM (at_ (l.sec D k) j)
        have cx:∀M,(wr.drewN M).cell? ⟨j3,j,none⟩=some (.int .u8 x):=fun M=>by
         obtain⟨N',t⟩:=HD.out;rw[t,World.drewN_drewN,H];exact n6.out j v _
        have cy:∀M,(wr.drewN M).cell? ⟨gw,k*64+j,none⟩=some (.int .u8 y):=fun M=>by
         obtain⟨N',t⟩:=HD.out;rw[t,World.drewN_drewN,hy];exact n5.out j v _
        have J:=Ld (And.intro H hy);clear H hy
        by_cases z:x=y
        ·have n0:(x != y)=false:=by simp [z]
         have l5:Hid ((sct p l k).take (j+1)=(l.sec D k).take (j+1)):=Ld (by
          rw[gp _ (by rw[i'.out.1];exact v),gp _ (by rw[i'.out.2];exact v),HT.out,←J.out.1,←J.out.2,z])
         clear z
         go_wp2_with fail
         go_quiet (fail)
         go_wp2_with fail
         go_roundw
         case rel=>exact⟨j+1,by omega,by go_num,Ld (by obtain⟨N',t⟩:=HD.out;exact⟨_,by rw[t,World.drewN_drewN]⟩),l5⟩
         case measure=>simp[intOf];omega
        ·have n0:(x != y)=true:=by simp [z]
         have k9:Hid (NX=none):=Ld (by
          rw[c3.out];refine ci (fun H=>z ?_);have h:=kG g9.out T.out F.out H k c9;rw[←i9.out,←i7.out]at h;have h2:((sct p l k).take L)[j]?=((l.sec D k).take L)[j]? :=by rw[h]
          rw[List.getElem?_take_of_lt b9,List.getElem?_take_of_lt b9]at h2;rw[J.out.1,J.out.2];unfold at_
          rw[List.getD_eq_getElem?_getD,List.getD_eq_getElem?_getD,h2])
         clear z
         go_wp2_with fail
         go_quiet (fail)
         go_wp2_with fail
         go_ret;rw[k9.out];exact⟨rfl,by obtain⟨N',t⟩:=HD.out;rw[t];exact(((E.out.tr I.out).tr g7.out).dn _).dn _⟩
       ·have i3:j=L:=by omega
        have q6:¬(j:Int)<(L:Int):=by omega
        have b0:Hid (∀i,i<k+1→(sct p l i).take (ff u N i)=(l.sec D i).take (ff u N i)):=Ld fun i hi=>by
         by_cases h:i=k
         ·subst h;rw[←i9.out,←i3];exact HT.out
         ·exact j'.out i (by omega)
        have k8:Hid (aa w5 wr):=Ld (by obtain⟨N',t⟩:=HD.out;rw[t];exact g7.out.dn _);clear i3 hj b9
        go_wp2_with fail
        go_roundw
        case rel=>exact⟨k+1,by omega,by go_num,k8,b0⟩
        case measure=>simp[intOf];omega
    ·have i4:k=N:=by omega
     rw[i4]at j';have o5:¬(k:Int)<(N:Int):=by omega
     have p3:Hid (l.Next p):=Ld (kJ g9.out T.out F.out U.out (by have:=P.out;omega) (by have:=P.out;omega) (by rw[←i7.out];exact j'.out));have p2:Hid (NX=some D):=Ld (by rw[c3.out,jf p3.out,i7.out]);clear i4 hk c9
     go_wp2_with fail
     go_ret;rw[p2.out];refine⟨g,20,d-20,by rw[k3.out];rfl,by rw[k3.out];omega,by omega,n3.out,?_,(E.out.tr I.out).tr HN.out⟩;rw[k3.out];exact(l2.out.frT (S:=ia) (HN.out.toFr _) (fun _ x=>x.elim)).imp (fun k hk=>⟨by have:=E.out.size;have:=hk.1;omega,hk.2⟩)
def uq(q:DP)(n:Int)(c:Nat)(w:World)(e:Ending)(w':World):Prop:=
 ∃b d f A2 c2,e=.returned (.tuple #[.agg (ie b d f A2 c2),.int .i64 n])∧fG w' b d A2∧Mt q b∧b.tot≤c∧aa w w'
def Er(q:DP)(d b:Nat)(w:World)(g:Array Value):Prop:=∃c f i A2 c2,g=ie c f i A2 c2∧ab w b 65 g∧fG w c f A2∧Mt q c∧c.tot≤d
theorem jQ(r:RP)(b:Option Addr)(c:Nat)(A2:Option Addr)(c2:Nat):(ie r b c A2 c2).all (·.oneCell')=true:=by simp[ie,Value.oneCell']
theorem we{q:DP}(h:q.Ok):(Lit.int .i64 q.fuse).wf=true:=WalkArith.wf_i64 (by have:=h.fz;omega)
theorem mG{w:World}{p:DP}{l:LG}(r:RP)(A1:Option Addr)(c1:Nat)(A2:Option Addr)(c2:Nat)(A:Option Addr)(c:Nat)(hr:fG w r A1 A2)(hM:Mt p r)(hp:p.Ok)(hn:r.tot≤50000)(hl:l.Ok p.size):
    Calls prog 119 #[.agg (ie r A1 c1 A2 c2),.agg (mZ l A c)] w (uq (az p l).1 (az p l).2 (r.tot+l.size) w):=by
 have o1:=hp.s2;have k':=hl.fit;have c7:=hl.used
 have j1:Hid (∀k,(wipeN p l k).1.Ok∧(wipeN p l k).1.size=p.size):=Ld fun k=>by
  induction k with
  |zero=>exact⟨hp,rfl⟩
  |succ k ih=>
   refine⟨?_,eV p l (k+1)⟩;simp only[wipeN];split
   ·exact ih.1
   ·split
    ·unfold DP.doWrite;split
     ·next hw=>
      unfold DP.within at hw;split
      ·exact ih.1.fall
      ·exact ih.1.write (by have:=of_decide_eq_true hw;rw[ih.2]at*;exact this) aX
     ·exact ih.1
    ·exact ih.1
 obtain⟨XL,j9⟩:=nM (mZ l A c);obtain⟨m,g9⟩:=nM (l.used);obtain⟨fs,k0⟩:=nM (l.first);obtain⟨sz,D⟩:=nM (l.size);obtain⟨gen,g6⟩:=nM (l.gen);have n':Hid (gen<4294967296):=Ld (by rw[g6];exact hl.gen);have i6:Hid (m=l.used∧fs=l.first∧sz=l.size∧gen=l.gen):=Ld ⟨g9,k0,D,g6⟩;have f':Hid (XL[0]?=some (.int .i64 fs)∧XL[1]?=some (.int .i64 sz)∧XL[2]?=some (.int .i64 m)∧XL[3]?=some (.int .u32 gen)∧XL.size=6):=Ld (by rw[j9,g9,k0,D,g6];exact⟨rfl,rfl,rfl,rfl,rfl⟩);have n1:Hid (fs+sz≤p.size):=Ld (by omega);obtain⟨WL,j7⟩:=nM (az p l);have j5:Hid (WL=(if(wipeN p l (sz-m)).2.2≠0 then((wipeN p l (sz-m)).1,(wipeN p l (sz-m)).2.2)else if(wipeN p l (sz-m)).2.1=true then((wipeN p l (sz-m)).1.doSync,(wipeN p l (sz-m)).1.scode)else((wipeN p l (sz-m)).1,0))):=Ld (by rw[j7,D,g9];rfl);obtain⟨tt,m4⟩:=nM (r.tot);rw[←j9,←j7,←m4,←D];have o3:tt≤50000:=by omega
 have o4:m≤sz:=by omega
 have p1:fs+sz≤16384:=by omega
 obtain⟨X0,j8⟩:=nM (ie r A1 c1 A2 c2);rw[←j8];have n5:Hid (∀W b,aa w W→ab W b 65 X0→Er p tt b W X0):=Ld fun W b hN hb=>⟨r,A1,c1,A2,c2,j8,hb,hr.new hN,hM,by omega⟩
 clear hr hM hp hn hl j9 j7 g9 k0 D g6 o1 k' c7 m4 j8
 go_enter func119,ntmps119
 go_upto_region 1 with fail
 obtain⟨N,M⟩:=nM (((w.alloc (.cells X0 65)).alloc (.cells XL 75)).alloc (.cells #[.int .i64 0,.slice none 0 0,.slice none 0 0,.int .i64 0,.bool false] 65):World);obtain⟨b2,g3⟩:=nM (w.heap.size);obtain⟨b3,g4⟩:=nM (w.heap.size+1);obtain⟨b4,g5⟩:=nM (w.heap.size+1+1);have j0:Hid (aa w N):=Ld (by rw[M];exact aa.al (aa.al (aa.al (aa.refl _) _) _) _);have k3:Hid (Er p tt b2 N X0):=Ld (n5.out N b2 j0.out (by rw[M,g3];exact((ab.new _ _ _).alloc _).alloc _));have m6:Hid (ab N b3 75 XL):=Ld (by rw[M,g4];exact(ab.new' _ _ _ (by simp)).alloc _);have k4:Hid (ab N b4 65 #[.int .i64 0,.slice none 0 0,.slice none 0 0,.int .i64 0,.bool false]):=Ld (by rw[M,g5];exact ab.new' _ _ _ (by simp));have HZ:Hid (b2=w.heap.size∧b3=w.heap.size+1∧b4=w.heap.size+2):=Ld ⟨g3,g4,g5⟩;rw[←M,←g5,←g4,←g3];clear M g3 g4 g5
 have HC:Hid (∀W,Fr (fun j=>j=b2) N W→W.cell? ⟨b3,0,none⟩=some (.int .i64 fs)∧W.cell? ⟨b3,1,none⟩=some (.int .i64 sz)∧W.cell? ⟨b3,2,none⟩=some (.int .i64 m)∧W.cell? ⟨b3,3,none⟩=some (.int .u32 gen)):=Ld fun W hF=>by
  have h:=m6.out.fr hF (by have:=HZ.out;omega);exact⟨by rw[h.cell,f'.out.1],by rw[h.cell,f'.out.2.1],by rw[h.cell,f'.out.2.2.1],by rw[h.cell,f'.out.2.2.2.1]⟩
 have z:=(HC.out N (Fr.refl _ _)).2.2.1;have k6:Hid (Fr (fun j=>j=b2) N N):=Ld (Fr.refl _ _)
 go_wp2_with fail
 go_loopw [6,7] (fun wd i wr=>∃(k i0:Nat) (b:Bool) (X:Array Value),Hid (i0=m+k)∧i0≤sz∧i=.int .i64 i0∧wd=.bool b∧Hid (b=(wipeN p l k).2.1)∧Hid ((wipeN p l k).2.2=0)∧Hid (Er (wipeN p l k).1 (tt+k) b2 wr X)∧Hid (Fr (fun j=>j=b2) N wr)) (fun _ i _=>sz-(intOf i).toNat)
 case atStart=>exact⟨0,m,false,X0,Ld rfl,o4,rfl,rfl,Ld rfl,Ld rfl,k3,k6⟩
 case round=>
  clear k3 k6 z;obtain⟨k,i,b,X,HI,hi,rfl,rfl,HB,HE,HD,HF⟩:=hrel;obtain⟨l3,l4,-,l5⟩:=HC.out wr HF.out;have i5:=Ld l5;clear l5;have p':k≤sz:=by have:=HI.out;omega
  obtain⟨q,hq⟩:=nM ((wipeN p l k).1);have HQ:=Ld hq;rw[←hq]at HD;have U:Hid (q.Ok∧q.size=p.size):=Ld (by rw[hq];exact j1.out k);clear hq;obtain⟨E,D1,d1,D2,d2,hX,l7,m',l8,m3⟩:=HD.out;have R:=Ld l7;have V:=Ld m';have f:=Ld l8;have HX:=Ld hX;have d':Hid (E.tot≤tt+k):=Ld m3;have u:Hid (X.size=5):=Ld (by rw[hX];rfl);have o2:E.tot≤70000:=by omega
  clear hX l7 m' l8 m3 HD
  by_cases p0:i<sz
  ·obtain ⟨a,ha⟩:=nM (fs+i);have e1:(fs:Int)+(i:Int)=(a:Int):=by omega
   have e2:IntKind.i64.wrap (a:Int)=(a:Int):=IntWalk.i64_in _ (by omega);have HA:Hid (a=l.first+l.used+k):=Ld (by have:=HI.out;have:=i6.out;omega);have o8:a≤16384:=by omega
   have n8:(i:Int)<(sz:Int):=by omega
   obtain⟨s,hs⟩:=nM (q.rget (a:Int));have k9:Hid (s=sct (wipeN p l k).1 l k):=Ld (by rw[hs,HQ.out,sct,HA.out]);have HS:Hid (aJ s):=Ld (by rw[hs];exact U.out.1.rget _);have n3:Hid (q.within (a:Int)=true):=Ld (by unfold DP.within;have:=U.out.2;have:=n1.out;exact decide_eq_true (by omega))
   have n2:Hid (Calls prog 121 #[.agg X,.int .i64 (a:Int)] wr fun e w'=>e=.returned (.tuple #[.agg (af s),.int .i64 0])∧aa wr w'):=Ld (by
    have h:=mF E D1 d1 D2 d2 (a:Int) wr V.out (by omega) (WalkArith.wf_i64 (by omega)) (by rw[f.out.size];have:=U.out.1.s2;omega);rw[f.out.rget,f.out.rcode,DP.rcode,n3.out,if_pos rfl,←hs]at h;rw[HX.out]
    exact h)
   have c6:(af s).size=64:=by rw[au,HS.out.1]
   have o6:=Ld c6;clear c6 hs ha
   go_upto_region 6 with (first
    |(refine cg 21 rfl ?_;refine ac rfl _ rfl underlying65 rfl (by rw[u.out];rfl) rfl R.out ?_)
    |(go_at_call 121;refine n2.out.mono ?_;rintro e w1 ⟨rfl,l9⟩;have n0:=Ld l9;clear l9)
    |(refine cg 8 rfl ?_;refine aG (s:=s) rfl rfl rfl _ _ rfl bE rfl rfl rfl HS.out.1 ?_))
   obtain⟨F,i'⟩:=nM (w1.alloc (.cells (af s) 68):World);obtain⟨b8,L⟩:=nM (w1.heap.size);have m7:Hid (ab F b8 68 (af s)):=Ld (by rw[i',L];exact ab.new _ _ _);have G:Hid (aa wr F):=Ld (by rw[i'];exact aa.al n0.out _);rw[←i',←L];clear i' L l3 l4;have q3:∀p:HW (aa F),p.w.cell? ⟨b3,3,none⟩=some (.int .u32 gen):=fun p=>(G.out.tr p.h).cell_ i5.out
   have kg:IntKind.u64.wrap (gen:Int)=(gen:Int):=by have:=n'.out;rw[IntKind.wrap_u64];omega
   obtain⟨v1,k1⟩:=nM (aQ (s.take 4));have l1:=Ld k1
   have l2:Hid (∀W,aa F W→Calls prog 122 #[.slice (some ⟨b8,0,none⟩) 4 64] W fun e w'=>e=.returned (.int .u64 v1)∧W=w'):=Ld fun W hN=>by
    have h:=gG (some ⟨b8,0,none⟩) 4 64 ((s.drop 0).take 4) W (uw (hN.blk m7.out) (by rw[HS.out.1];decide)) (fun x hx=>HS.out.2 x (List.mem_of_mem_drop (List.mem_of_mem_take hx))) (by omega);rw[List.drop_zero,←k1]at h;exact h
   clear k1
   by_cases t1:v1=gen
   ·have m5:(v1:Int)=(gen:Int):=by omega
    have T1:=Ld t1;clear t1
    go_wp2_with fail
    refine ag (aa F) [(true,0),(true,2),(true,3),(true,4),(false,1),(true,5)] (by kernel_rfl) (by kernel_rfl) (aa.dr (aa.refl F)) (fun o0=>?_)
    iterate 4 (refine ae (o:=.mk ..) rfl (fun K v=>?_);go_simp;refine v _ ?_;clear v K)
    refine aj (o:=.mk ..) rfl (fun K v=>?_) (.inl rfl);go_simp;refine(l2.out F.drew (aa.dr (aa.refl F))).mono ?_;rintro e w5 ⟨rfl,c8⟩;have g:Hid (aa F w5):=Ld (by rw[←c8];exact aa.dr (aa.refl F));clear c8;go_simp;refine v.out _ _ (fun _=>g.out) ?_;clear v K
    iterate 1 (refine ae (o:=.mk ..) rfl (fun K v=>?_);go_simp;refine v _ ?_;clear v K)
    refine ao ?_;clear q3 kg m5;have HG:Hid (aQ ((sct (wipeN p l k).1 l k).take 4)=l.gen):=Ld (by rw[←k9.out,←l1.out,T1.out,i6.out.2.2.2]);have i9:=Ld (kB HE.out HG.out);have S:Hid (Fr (fun j=>j=b2) N w5):=Ld (HF.out.trans ((G.out.tr g.out).toFr _));obtain⟨l3,l4,-,-⟩:=HC.out w5 S.out;have b9:Hid (ab w5 b2 65 X):=Ld ((G.out.tr g.out).blk R.out);obtain⟨wc,i2⟩:=nM (q.wcode (a:Int));have o7:=Ld i2;obtain⟨q2,g8⟩:=nM (q.doWrite (a:Int) aw);have o5:=Ld g8
    have j6:Hid (Calls prog 32 #[.agg X,.int .i64 (a:Int),.agg (af aw)] w5 fun e w'=>ly w' (E.write (a:Int) aw) wc e∧aa w5 w'):=Ld (by
     have h:=oU E D1 d1 D2 d2 (a:Int) aw w5 (V.out.new (G.out.tr g.out)) aX (by omega) (WalkArith.wf_i64 (by omega)) (by rw[f.out.fuse];exact we U.out.1) (by rw[f.out.size];have:=U.out.1.s2;omega);rw[f.out.wcode,←i2]at h;rw[HX.out]
     exact h)
    have j':Hid (Mt q2 (E.write (a:Int) aw)):=Ld (by rw[g8];exact f.out.write _ _);have j4:Hid ((E.write (a:Int) aw).tot≤tt+(k+1)):=Ld (by have:=RP.tot_write E (a:Int) aw;have:=d'.out;omega);obtain⟨r2,m1⟩:=nM (E.write (a:Int) aw);rw[←m1]at j6 j' j4;obtain⟨z0,k2⟩:=nM (af aw);rw[←k2]at j6;have n6:Hid ((#[.int .u8 0,.int .u8 0,.int .u8 0,.int .u8 0,.int .u8 0,.int .u8 0,.int .u8 0,.int .u8 0,.int .u8 0,.int .u8 0,.int .u8 0,.int .u8 0,.int .u8 0,.int .u8 0,.int .u8 0,.int .u8 0,.int .u8 0,.int .u8 0,.int .u8 0,.int .u8 0,.int .u8 0,.int .u8 0,.int .u8 0,.int .u8 0,.int .u8 0,.int .u8 0,.int .u8 0,.int .u8 0,.int .u8 0,.int .u8 0,.int .u8 0,.int .u8 0,.int .u8 0,.int .u8 0,.int .u8 0,.int .u8 0,.int .u8 0,.int .u8 0,.int .u8 0,.int .u8 0,.int .u8 0,.int .u8 0,.int .u8 0,.int .u8 0,.int .u8 0,.int .u8 0,.int .u8 0,.int .u8 0,.int .u8 0,.int .u8 0,.int .u8 0,.int .u8 0,.int .u8 0,.int .u8 0,.int .u8 0,.int .u8 0,.int .u8 0,.int .u8 0,.int .u8 0,.int .u8 0,.int .u8 0,.int .u8 0,.int .u8 0,.int .u8 0]:Array Value)=z0):=Ld (by rw[k2];rfl);have t:Hid (wipeN p l (k+1)=(q2,(if wc=0 then true else b),wc)):=Ld (by rw[i9.out,←HQ.out,←HA.out,←i2,←g8,←HB.out]);clear i2 g8 m1 k2
    go_wp2_with (refine cg 36 rfl ?_;refine ac rfl _ rfl underlying65 rfl (by rw[u.out];rfl) rfl b9.out ?_)
    rw[n6.out];refine j6.out.mono ?_;rintro e w6 ⟨⟨E1,f1,E2,f2,rfl,c5⟩,J⟩;obtain⟨Y,hY⟩:=nM (ie r2 E1 f1 E2 f2);rw[←hY];have HY:=Ld hY;have d:Hid (Y.size=5):=Ld (by rw[hY];rfl);have c4:Hid (Y.all (·.oneCell')=true):=Ld (by rw[hY];exact jQ _ _ _ _ _);have j2:=Ld c5;have T:=Ld J;clear hY c5 J
    go_upto_region 8 with(refine cg 10 rfl ?_;refine pO (C:=Y) rfl rfl rfl _ _ rfl Ad rfl rfl rfl d.out c4.out ?_)
    obtain⟨w7,i1⟩:=nM (w6.alloc (.cells Y 65):World);obtain⟨n7,b'⟩:=nM (w6.heap.size);have i3:Hid (ab w7 n7 65 Y):=Ld (by rw[i1,b'];exact ab.new _ _ _);have c9:Hid (aa w6 w7):=Ld (by rw[i1];exact aa.al (aa.refl _) _);have c':Hid (ab w7 b2 65 X):=Ld (c9.out.blk (T.out.blk b9.out));rw[←i1,←b'];clear i1 b';have i4:Hid (ab w7 b4 65 #[.int .i64 0,.slice none 0 0,.slice none 0 0,.int .i64 0,.bool false]):=Ld (k4.out.fr (S.out.trans ((T.out.tr c9.out).toFr _)) (by have:=HZ.out;omega))
    go_upto_region 9 with (first
     |(refine cg 45 rfl ?_;refine ac rfl _ rfl underlying65 rfl (by rw[d.out];rfl) rfl i3.out ?_)
     |((with_reducible refine aA ⟨none,.store 65 (.tmp 2) _,_,_,_,_⟩ ?_);refine an rfl (.tmp 2) (.tmp 45) rfl (by rw[d.out];rfl) rfl rfl c'.out (by rw[d.out,u.out]) c4.out ?_;intro w8 L m0;have b7:=Ld L;have i7:=Ld m0;clear L m0))
    have c0:Hid (Fr (fun j=>j=b2) N w8):=Ld ((S.out.trans ((T.out.tr c9.out).toFr _)).trans i7.out);have b1:Hid (ab w8 b4 65 #[.int .i64 0,.slice none 0 0,.slice none 0 0,.int .i64 0,.bool false]):=Ld (i4.out.fr i7.out (by have:=HZ.out;omega))
    have k8:Hid (fG w8 r2 E1 E2):=Ld ((j2.out.new c9.out).fr i7.out (fun j I=>by
     have H:j=b2:=I;rw[H]
     exact aO.not_blk c'.out (by decide)))
    have m9:Hid (Er q2 (tt+(k+1)) b2 w8 Y):=Ld ⟨r2,E1,f1,E2,f2,HY.out,b7.out,k8.out,j'.out,j4.out⟩
    by_cases z:wc=0
    ·have Z:Hid (wipeN p l (k+1)=(q2,true,0)):=Ld (by rw[t.out,if_pos z,z]);have HJ:Hid (i+1=m+(k+1)):=Ld (by have:=HI.out;omega);subst z
     go_wp2_with fail
     go_roundw
     case rel=>exact⟨k+1,i+1,true,Y,HJ,by omega,by go_num,rfl,Ld (by rw[Z.out]),Ld (by rw[Z.out]),Ld (by rw[Z.out];exact m9.out),c0⟩
     case measure=>simp[intOf];omega
    ·have k5:=Ld z;have o9:(wc != 0)=true:=by simp [z]
     have Z:Hid (WL=(q2,wc)):=Ld (by
      obtain⟨j,I⟩:∃j,sz-m=k+1+j:=⟨sz-m-(k+1),by have:=HI.out;omega⟩
      have g1:wipeN p l (sz-m)=(q2,(if wc=0 then true else b),wc):=by
       rw[I,mL (by rw[t.out];exact k5.out),t.out]
      rw[j5.out,g1,if_pos k5.out])
     clear z
     go_wp2_with (first
      |(refine cg 48 rfl ?_;refine ac rfl _ rfl underlying65 rfl (by rw[d.out];rfl) rfl b7.out ?_)
      |((with_reducible refine aA ⟨none,.store 65 (.tmp 4) _,_,_,_,_⟩ ?_);refine an rfl (.tmp 4) (.tmp 48) rfl (by rw[d.out];rfl) rfl rfl b1.out (by rw[d.out];rfl) c4.out ?_;intro w9 y B;have P:=Ld y;have n:=Ld B;clear y B))
     refine bodyPost_ret (eL rfl _ _ b4 _ _ rfl P.out underlying65 rfl (by rw[d.out];rfl)) rfl ?_;rw[Z.out];refine⟨r2,E1,f1,E2,f2,by rw[←HY.out];rfl,k8.out.fr n.out (fun j I=>?_),j'.out,by have:=j4.out;have:=HI.out;omega,?_⟩
     ·have H:j=b4:=I;rw[H];exact aO.not_blk b1.out (by decide)
     ·exact(j0.out.fr c0.out (fun j I=>by have:=HZ.out;omega)).fr n.out (fun j I=>by have:=HZ.out;omega)
   ·have m5:¬((v1:Int)=(gen:Int)):=by omega
    have T1:=Ld t1;clear t1
    go_wp2_with fail
    refine ag (aa F) [(true,0),(true,2),(true,3),(true,4),(false,1),(true,5)] (by kernel_rfl) (by kernel_rfl) (aa.dr (aa.refl F)) (fun o0=>?_)
    iterate 4 (refine ae (o:=.mk ..) rfl (fun K v=>?_);go_simp;refine v _ ?_;clear v K)
    refine aj (o:=.mk ..) rfl (fun K v=>?_) (.inl rfl);go_simp;refine(l2.out F.drew (aa.dr (aa.refl F))).mono ?_;rintro e w5 ⟨rfl,c8⟩;have g:Hid (aa F w5):=Ld (by rw[←c8];exact aa.dr (aa.refl F));clear c8;go_simp;refine v.out _ _ (fun _=>g.out) ?_;clear v K
    iterate 1 (refine ae (o:=.mk ..) rfl (fun K v=>?_);go_simp;refine v _ ?_;clear v K)
    refine ao ?_;clear q3 kg;have HG:Hid (¬aQ ((sct (wipeN p l k).1 l k).take 4)=l.gen):=Ld (by rw[←k9.out,←l1.out,←i6.out.2.2.2];exact T1.out);have j3:=Ld (jo HE.out HG.out);have HJ:Hid (i+1=m+(k+1)):=Ld (by have:=HI.out;omega);have m8:Hid (Er q (tt+(k+1)) b2 w5 X):=Ld ⟨E,D1,d1,D2,d2,HX.out,(G.out.tr g.out).blk R.out,V.out.new (G.out.tr g.out),f.out,by have:=d'.out;omega⟩;have S:Hid (Fr (fun j=>j=b2) N w5):=Ld (HF.out.trans ((G.out.tr g.out).toFr _))
    go_wp2_with fail
    go_roundw
    case rel=>exact⟨k+1,i+1,b,X,HJ,by omega,by go_num,rfl,Ld (by rw[j3.out];exact HB.out),Ld (by rw[j3.out];exact HE.out),Ld (by rw[j3.out,←HQ.out];exact m8.out),S⟩
    case measure=>simp[intOf];omega
  ·have n9:¬(i:Int)<(sz:Int):=by omega
   have g7:k=sz-m:=by have:=HI.out;omega
   have O:Hid (ab wr b4 65 #[.int .i64 0,.slice none 0 0,.slice none 0 0,.int .i64 0,.bool false]):=Ld (k4.out.fr HF.out (by have:=HZ.out;omega));have k7:Hid (aa w wr):=Ld (j0.out.fr HF.out (fun j I=>by have:=HZ.out;omega));have c3:Hid (w.heap.size≤b4):=Ld (by have:=HZ.out;omega)
   cases b with
   |false=>
    have t:Hid (WL=(q,0)):=Ld (by rw[j5.out,←g7,if_neg (by rw[HE.out];simp),if_neg (by rw[←HB.out];simp),←HQ.out]);clear g7
    go_wp2_with (first
     |(refine cg 55 rfl ?_;refine ac rfl _ rfl underlying65 rfl (by rw[u.out];rfl) rfl R.out ?_)
     |((with_reducible refine aA ⟨none,.store 65 (.tmp 4) _,_,_,_,_⟩ ?_);refine an rfl (.tmp 4) (.tmp 55) rfl (by rw[u.out];rfl) rfl rfl O.out (by rw[u.out];rfl) (by rw[HX.out];exact jQ _ _ _ _ _) ?_;intro w9 y B;have P:=Ld y;have n:=Ld B;clear y B))
    refine bodyPost_ret (eL rfl _ _ b4 _ _ rfl P.out underlying65 rfl (by rw[u.out];rfl)) rfl ?_;rw[t.out];refine⟨E,D1,d1,D2,d2,by rw[←HX.out];rfl,V.out.fr n.out (fun j I=>?_),f.out,by have:=d'.out;omega,k7.out.fr n.out (fun j I=>by have:=c3.out;omega)⟩;have H:j=b4:=I;rw[H];exact aO.not_blk O.out (by decide)
   |true=>
    have t:Hid (WL=(q.doSync,q.scode)):=Ld (by rw[j5.out,←g7,if_neg (by rw[HE.out];simp),if_pos HB.out.symm,←HQ.out]);clear g7
    have l':Hid (Calls prog 72 #[.agg X] wr fun e w'=>ly w' E.sync q.scode e∧aa wr w'):=Ld (by
     have h:=qF E D1 d1 D2 d2 wr V.out (by omega);rw[f.out.scode]at h;rw[HX.out]
     exact h)
    obtain⟨sc,m2⟩:=nM (q.scode);rw[←m2]at l' t;clear m2
    go_wp2_with (refine cg 51 rfl ?_;refine ac rfl _ rfl underlying65 rfl (by rw[u.out];rfl) rfl R.out ?_)
    refine l'.out.mono ?_;rintro e w6 ⟨⟨E1,f1,E2,f2,rfl,c5⟩,J⟩;obtain⟨Y,hY⟩:=nM (ie E.sync E1 f1 E2 f2);rw[←hY];have HY:=Ld hY;have d:Hid (Y.size=5):=Ld (by rw[hY];rfl);have c4:Hid (Y.all (·.oneCell')=true):=Ld (by rw[hY];exact jQ _ _ _ _ _);have j2:=Ld c5;have T:=Ld J;have b0:Hid (ab w6 b4 65 #[.int .i64 0,.slice none 0 0,.slice none 0 0,.int .i64 0,.bool false]):=Ld (J.blk O.out);clear hY c5 J
    go_wp2_with ((with_reducible refine aA ⟨none,.store 65 (.tmp 4) _,_,_,_,_⟩ ?_);refine an rfl (.tmp 4) (.tmp 53) rfl (by rw[d.out];rfl) rfl rfl b0.out (by rw[d.out];rfl) c4.out ?_;intro w9 y B;have P:=Ld y;have n:=Ld B;clear y B)
    refine bodyPost_ret (eL rfl _ _ b4 _ _ rfl P.out underlying65 rfl (by rw[d.out];rfl)) rfl ?_;rw[t.out];refine⟨E.sync,E1,f1,E2,f2,by rw[←HY.out];rfl,j2.out.fr n.out (fun j I=>?_),f.out.sync,by have:=RP.tot_sync E;have:=d'.out;omega,(k7.out.tr T.out).fr n.out (fun j I=>by have:=c3.out;omega)⟩;have H:j=b4:=I;rw[H];exact aO.not_blk b0.out (by decide)
theorem lM{fn:Func}{p o q r:Tmp}{ty b:TypeId}{P:Program}(h:fn.results= #[.cell p ty,.cell o b,.tmp q,.tmp r])(tmps:Array Value)(w:World)(g g2:Nat)(cs c:Array Value)(d d2:TypeDesc)
    (t:tmps.getD p undef=.pointer (some ⟨g,0,none⟩)) (s:ab w g ty cs) (hu:P.underlying ty=some d) (hd:d.isRow=true) (hi:(P.info? ty).map (·.size)=some cs.size)
    (m:tmps.getD o undef=.pointer (some ⟨g2,0,none⟩)) (j:ab w g2 b c) (n:P.underlying b=some d2) (i:d2.isRow=true) (k:(P.info? b).map (·.size)=some c.size):
    (results fn tmps).run P w=.ok (.tuple #[.agg cs,.agg c,tmps.getD q undef,tmps.getD r undef]) w:=by
 have l:tmps[p]?.getD undef=.pointer (some ⟨g,0,none⟩):=by simpa using t
 have f:tmps[o]?.getD undef=.pointer (some ⟨g2,0,none⟩):=by simpa using m
 simp[results,h,l,f,asAddr,run_loadVar_row w g ty ty cs (0,0) _ s hu (by cases d<;>first|rfl|(simp[TypeDesc.isRow]at hd)) hi,run_loadVar_row w g2 b b c (0,0) _ j n (by cases d2<;>first|rfl|(simp[TypeDesc.isRow]at i)) k]
def pH:Array Value:= #[.int .i64 0,.int .i64 0,.int .i64 0,.int .u32 0,.slice none 0 0,.bool false]
theorem uT(l:LG)(A:Option Addr)(c:Nat):(mZ l A c).all (·.oneCell')=true:=by simp[mZ,Value.oneCell']
def kh(w:World)(r:LG×List (List Int))(x:DP×Int)(f:Nat)(e:Ending)(w':World):Prop:=
 if x.2=0 then ∃b d g A2 c2 B c C cc,e=.returned (.tuple #[.agg (ie b d g A2 c2),.agg (mZ r.1 B c),.slice C r.2.length cc,.int .i64 0])∧fG w' b d A2∧Mt x.1 b∧b.tot≤f∧jv w' r.1 B∧dW w.heap.size w' (.slice C r.2.length cc) r.2∧aa w w'
 else ∃b d g A2 c2,e=.returned (.tuple #[.agg (ie b d g A2 c2),.agg pH,.slice none 0 0,.int .i64 x.2])∧fG w' b d A2∧Mt x.1 b∧b.tot≤f∧aa w w'
structure Fi(W0 wr:World)(p:DP)(l0:LG)(b12:Nat)(k:Nat)(out:Value)(XL:Array Value):Prop where
 fr:Fr (fun j=>j=b12) W0 wr
 recs:dW W0.heap.size wr out (runs p l0 k).2
 len:(runs p l0 k).2.length=k∧k≤(runs p l0 k).1.used
 log:∃B c,XL=mZ (runs p l0 k).1 B c∧jv wr (runs p l0 k).1 B
 blk:ab wr b12 75 XL
theorem tU {p:DP} {l:LG} {n:Nat} (b:p.Ok) (hl:l.Ok n) (c:n≤16384) (k:Nat):(runs p l k).1.first≤100000∧(runs p l k).1.size≤100000∧(runs p l k).1.used≤100000:=by
 have h:=(ca b hl k).1;have h1:=h.fit;have h2:=h.used;omega
theorem uU{w:World}{p:DP}(r:RP)(A1:Option Addr)(c1:Nat)(A2:Option Addr)(c2:Nat)(hr:fG w r A1 A2)(hM:Mt p r)(hp:p.Ok)(hn:r.tot≤50000)(hL:cM 3 1 w)(a b c:Nat)(hb:1≤b)(r3:a+b≤p.size)(hc:c<4294967296)(v9:c≠0):
    Calls prog 77 #[.agg (ie r A1 c1 A2 c2),.int .i64 a,.int .i64 b,.int .u32 c] w (kh w (runL p (bP a b c)) (az p (runL p (bP a b c)).1) (r.tot+b)):=by
 have y3:=hp.s2;have k':(bP a b c).Ok p.size:=eS r3 hc;have HL:=Ld hL;obtain⟨X0,j9⟩:=nM (ie r A1 c1 A2 c2);have g9:Hid (X0[0]?=some (.int .i64 p.size)∧X0.size=5∧X0.all (·.oneCell')=true):=Ld (by rw[j9];exact⟨by rw[←hM.size];rfl,rfl,jQ _ _ _ _ _⟩)
 have j4:Hid (∀k B cc W,aa w W→jv W (runs p (bP a b c) k).1 B→Calls prog 123 #[.agg X0,.agg (mZ (runs p (bP a b c) k).1 B cc)] W (pP (nextL p (runs p (bP a b c) k).1) W)):=Ld fun k B cc W hN hI=>by
  rw[j9];exact yk r A1 c1 A2 c2 B cc (hr.new hN) hM hp (by omega) hI (ca hp k' k).1 (hL.new hN)
 have c8:Hid (∀k B cc W,aa w W→Calls prog 119 #[.agg X0,.agg (mZ (runs p (bP a b c) k).1 B cc)] W (uq (az p (runs p (bP a b c) k).1).1 (az p (runs p (bP a b c) k).1).2 (r.tot+b) W)):=Ld fun k B cc W hN=>by
  rw[j9];have h:=mG r A1 c1 A2 c2 B cc (hr.new hN) hM hp hn (ca hp k' k).1;rw[(ca hp k' k).2.1]at h;exact h
 have g:Hid (p.Ok∧(bP a b c).Ok p.size):=Ld ⟨hp,k'⟩;obtain⟨n,o1⟩:=nM (p.size);rw[←o1]at g9;have y8:=Ld o1;obtain⟨m,hm⟩:=nM (n-a);have h5:(n:Int)-(a:Int)=(m:Int):=by omega
 have h6:(b:Int)≤(m:Int):=by omega
 have h7:(m:Int)≤16384:=by omega
 have v7:(a:Int)<(n:Int):=by omega
 have v5:1≤(b:Int):=by omega
 have v2:0≤(a:Int):=by omega
 have y0:((c:Int)==0)=false:=by simp;omega
 have y':¬(c:Int)=0:=by omega
 have y9:b≤16384:=by omega
 have u0:Hid (c<4294967296):=Ld hc;obtain⟨l0,hl⟩:=nM (bP a b c);have m0:=Ld hl;have p0:Hid (l0.size=b):=Ld (by rw[hl];rfl);rw[←hl]at j4 c8 g⊢;obtain⟨R,hR⟩:=nM (runL p l0);obtain⟨x,hx⟩:=nM (az p R.1);obtain⟨tt,o5⟩:=nM (r.tot+b);rw[←j9,←hR,←hx,←o5];rw[←o5]at c8;have HR:=Ld hR;have HX:=Ld hx;clear hr hM hp hn hL hb r3 hc v9 y3 k' j9 o1 hm hl hR hx o5
 go_enter func77,ntmps77
 go_upto_region 1 with fail
 obtain⟨M,g5⟩:=nM (((w.alloc (.cells X0 65)).alloc (.cells #[.int .i64 0,.slice none 0 0,.slice none 0 0,.int .i64 0,.bool false] 65)).alloc (.cells #[.int .i64 0,.int .i64 0,.int .i64 0,.int .u32 0,.slice none 0 0,.bool false] 75):World);obtain⟨b4,d'⟩:=nM (w.heap.size);obtain⟨b8,k6⟩:=nM (w.heap.size+1);obtain⟨b9,k7⟩:=nM (w.heap.size+1+1);have k3:Hid (aa w M):=Ld (by rw[g5];exact aa.al (aa.al (aa.al (aa.refl _) _) _) _);have k9:Hid (ab M b4 65 X0):=Ld (by rw[g5,d'];exact((ab.new _ _ _).alloc _).alloc _);have o6:Hid (ab M b8 65 #[.int .i64 0,.slice none 0 0,.slice none 0 0,.int .i64 0,.bool false]):=Ld (by rw[g5,k6];exact(ab.new' _ _ _ (by simp)).alloc _);have l5:Hid (ab M b9 75 pH):=Ld (by rw[g5,k7];exact ab.new' _ _ _ (by simp));have HZ:Hid (b4=w.heap.size∧b8=w.heap.size+1∧b9=w.heap.size+2):=Ld ⟨d',k6,k7⟩;have m3:Hid (M.heap.size=w.heap.size+3):=Ld (by rw[g5];simp);rw[←g5,←k7,←k6,←d'];clear g5 d' k6 k7;have cz:M.cell? ⟨b4,0,none⟩=some (.int .i64 n):=by rw[k9.out.cell,g9.out.1]
 obtain⟨i0,hi,s9,t',u'⟩:=info_parts wm;have J:=Ld (And.intro hi (And.intro s9 (And.intro t' u')));clear hi s9 t' u'
 go_upto_region 4 with((with_reducible refine dH ⟨some 45,.makeSlice _ _ _,_,_,_,_⟩ ?_);refine wpList_make_full _ rfl _ _ 33 rfl M.heap.size 5 i0 (.int .u8 0) 1 underlying33 J.out.1 J.out.2.1 J.out.2.2.1 .i64 .i64 16 16 16 rfl rfl rfl rfl (by rw[J.out.2.2.2];omega) (by unfold maxLen;omega) (Nat.le_refl _) ?_;intro w1 q8 s3;have p3:Hid (w1.ownsRow M.heap.size 5 1 (.slice (some ⟨M.heap.size,0,none⟩) 16 16) 16 (am (List.replicate 16 0))):=Ld (by have h:=nz 16;have h2:=q8;rw[h]at h2;exact h2);have m4:Hid (aa M w1):=Ld ((aa.refl M).fr ((Fr.refl ia M).grown s3 (fun _ _ h=>by cases h)) (fun k h=>h.elim));clear q8 s3)
 obtain⟨W0,i1⟩:=nM (w1.alloc (.cells #[.int .i64 a,.int .i64 b,.int .i64 0,.int .u32 c,.slice (some ⟨M.heap.size,0,none⟩) 16 16,.bool false] 75):World);obtain⟨f,b1⟩:=nM (w1.heap.size);have j3:Hid (aa M W0):=Ld (by rw[i1];exact aa.al m4.out _);have i3:Hid (ab W0 f 75 (mZ (runs p l0 0).1 (some ⟨M.heap.size,0,none⟩) 16)):=Ld (by rw[i1,b1];show ab _ _ _ (mZ l0 _ _);rw[m0.out];exact ab.new _ _ _)
 have g7:Hid (jv W0 (runs p l0 0).1 (some ⟨M.heap.size,0,none⟩)):=Ld ⟨(by
  show fg _ _ _ _ _ (am l0.tag);rw[m0.out];have h:=fg.own p3.out rfl;rw[i1]
  exact h.new (aa.al (aa.refl _) _)),g.out.2.byt,g.out.2.gen,tU g.out.1 g.out.2 (g.out.1.s2) 0⟩
 have p7:Hid (Fi W0 W0 p l0 f 0 (.slice none 0 0) (mZ (runs p l0 0).1 (some ⟨M.heap.size,0,none⟩) 16)):=Ld ⟨Fr.refl _ _,dW.nil _ _,⟨rfl,Nat.zero_le _⟩,⟨_,_,rfl,g7.out⟩,i3.out⟩;have y:Hid (W0.heap.size=f+1∧M.heap.size≤f):=Ld ⟨by rw[i1,b1];simp,by have:=m4.out.size;omega⟩;have l2:Hid (ab W0 b4 65 X0):=Ld (j3.out.blk k9.out);have l4:Hid (ab W0 b8 65 #[.int .i64 0,.slice none 0 0,.slice none 0 0,.int .i64 0,.bool false]):=Ld (j3.out.blk o6.out);have l7:Hid (ab W0 b9 75 pH):=Ld (j3.out.blk l5.out)
 have u:Hid (M.heap.size=w.heap.size+3∧b4=w.heap.size∧b8=w.heap.size+1∧b9=w.heap.size+2):=Ld ⟨by
  have h1:=HZ.out;have h2:=l5.out.lt;have h3:=m3.out
  omega,HZ.out⟩
 rw[←i1,←b1];clear i1 b1 p3 m4 i3 g7 cz k9 o6 l5 HZ J h5 h6 h7 v7 v5 v2 y0 y'
 go_wp2_with fail
 go_loopw [13] (fun out wr=>∃(k:Nat) (A:Option Addr) (d:Nat) (XL:Array Value),k≤16384∧out=.slice A k d∧Hid (Fi W0 wr p l0 f k (.slice A k d) XL)) (fun out _=>16400-(match out with| .slice _ n _=>n|_=>0))
 case atStart=>exact⟨0,none,0,_,Nat.zero_le _,rfl,p7⟩
 case round=>
  clear p7;obtain⟨k,A,d,XL,hk,rfl,J⟩:=hrel;obtain⟨B,cc,k5,n3⟩:=J.out.log;have j7:=Ld k5;have g7:=Ld n3;have Z:Hid (XL.size=6):=Ld (by rw[k5];rfl);have t:Hid (ab wr f 75 XL):=Ld J.out.blk;have b':Hid (ab wr b4 65 X0):=Ld (l2.out.fr J.out.fr (by have:=u.out;have:=y.out;omega));have k4:Hid (aa M wr):=Ld (j3.out.fr J.out.fr (fun j q=>by have:=y.out;omega));have U:=Ld (j4.out k B cc wr (k3.out.tr k4.out) n3);rw[←k5]at U;clear k5 n3
  cases hn:nextL p (runs p l0 k).1 with
  |none=>
   have y7:=Ld hn;rw[hn]at U;have i2:(runs p l0 k).2.length=k:=J.out.len.1
   have o0:k≤l0.size:=by
    have h6:=(ca g.out.1 g.out.2 k).1.used;have h7:=(ca g.out.1 g.out.2 k).2.1;have:=J.out.len.2;omega
   have j5:Hid (R=runs p l0 k):=Ld (by rw[HR.out];exact sa (by omega) hn);have m':Hid (R.2.length=k):=Ld (by rw[j5.out];exact i2);have y1:=fun w=>Lib.run_eql_slice_nil (P:=prog) w 33 5 none 0 0 0 0 underlying33
   clear hn i2 o0
   go_wp2_with (first
    |(refine cg 47 rfl ?_;refine ac rfl _ rfl underlying65 rfl (by rw[g9.out.2.1];rfl) rfl b'.out ?_)
    |(refine cg 48 rfl ?_;refine ac rfl _ rfl underlying75 rfl (by rw[Z.out];rfl) rfl t.out ?_))
   refine U.out.mono ?_;rintro e w2 ⟨rfl,X⟩;have g8:=Ld X;have l':Hid (ab w2 b4 65 X0):=Ld (X.blk b'.out);have i4:Hid (ab w2 f 75 XL):=Ld (X.blk t.out);have q':=Ld (c8.out k B cc w2 ((k3.out.tr k4.out).tr X));rw[←j7.out,←j5.out,←HX.out]at q';clear X
   go_wp2_with (first
    |(refine cg 70 rfl ?_;refine ac rfl _ rfl underlying65 rfl (by rw[g9.out.2.1];rfl) rfl l'.out ?_)
    |(refine cg 71 rfl ?_;refine ac rfl _ rfl underlying75 rfl (by rw[Z.out];rfl) rfl i4.out ?_))
   refine q'.out.mono ?_;rintro e w3 ⟨r',E1,f1,E2,f2,rfl,r2,q7,s6,i'⟩;obtain⟨Y,hY⟩:=nM (ie r' E1 f1 E2 f2);rw[←hY];have HY:=Ld hY;have G:Hid (Y.size=5):=Ld (by rw[hY];rfl);have n2:Hid (Y.all (·.oneCell')=true):=Ld (by rw[hY];exact jQ _ _ _ _ _);have u5:=Ld r2;have p1:=Ld q7;have p8:=Ld s6;have F:Hid (aa wr w3):=Ld (g8.out.tr i');have O:Hid (ab w3 b4 65 X0):=Ld (F.out.blk b'.out);clear hY r2 q7 s6 i';obtain⟨ec,n8⟩:=nM (x.2);have l8:=Ld n8;rw[←n8];clear n8
   go_upto_region 11 with((with_reducible refine aA ⟨none,.store 65 (.tmp 4) _,_,_,_,_⟩ ?_);refine an rfl (.tmp 4) (.tmp 73) rfl (by rw[G.out];rfl) rfl rfl O.out (by rw[g9.out.2.1,G.out]) n2.out ?_;intro v d' r9;have b7:=Ld d';have T:=Ld r9;clear d' r9)
   have j':Hid (Fr (fun j=>j=b4∨j=f) W0 v):=Ld (((J.out.fr.mono (fun j _ q=>.inr q)).trans (F.out.toFr _)).trans (T.out.mono (fun j _ q=>.inl q)));have H:Hid (ab v b8 65 #[.int .i64 0,.slice none 0 0,.slice none 0 0,.int .i64 0,.bool false]):=Ld (l4.out.fr j'.out (by have:=u.out;have:=y.out;omega));have I:Hid (ab v b9 75 pH):=Ld (l7.out.fr j'.out (by have:=u.out;have:=y.out;omega));have s:Hid (ab v f 75 XL):=Ld ((F.out.blk t.out).fr T.out (by have:=u.out;have:=y.out;omega))
   have p6:Hid (fG v r' E1 E2):=Ld (u5.out.fr T.out (fun j q=>by
    have f':j=b4:=q;rw[f']
    exact aO.not_blk O.out (by decide)))
   have p2:Hid (aa w v):=Ld (((k3.out.tr k4.out).tr F.out).fr T.out (fun j q=>by have:=u.out;omega))
   have m1:Hid (jv v (runs p l0 k).1 B):=Ld ((g7.out.new F.out).fr T.out (fun j q=>by
    have f':j=b4:=q;rw[f']
    exact aO.not_blk O.out (by decide)))
   have m9:Hid (dW w.heap.size v (.slice A k d) (runs p l0 k).2):=Ld (((J.out.recs.new F.out).fr T.out (fun j q _=>by
    have f':j=b4:=q;rw[f']
    exact⟨aO.not_blk O.out (by decide),aO.not_blk O.out (by decide)⟩)).base (by have:=u.out;have:=j3.out.size;omega))
   by_cases h0:ec=0
   ·have H0:=Ld h0;subst h0
    go_wp2_with fail
    refine ag (fun W=>ab W b4 65 Y∧ab W f 75 XL) [(true,0),(true,1),(true,2),(false,3),(false,4),(true,5),(true,6)] (by kernel_rfl) (by kernel_rfl) ⟨b7.out.drew,s.out.drew⟩ (fun y2=>?_);refine bH (o:=.mk ..) rfl rfl (.tmp 4) rfl rfl (fun W hS=>hS.1.rangeOf) underlying65 rfl (by rw[Array.length_toList,G.out];rfl) ?_;simp only[Act.put,bK,bM,bO];refine bH (o:=.mk ..) rfl rfl (.tmp 12) rfl rfl (fun W hS=>hS.2.rangeOf) underlying75 rfl (by rw[Array.length_toList,Z.out];rfl) ?_;simp only[Act.put,bK,bM,bO]
    iterate 1 (refine ae (o:=.mk ..) rfl (fun K D=>?_);go_simp;refine D _ ?_;clear D K)
    refine aj (o:=.mk ..) rfl (fun K D=>?_) (.inl rfl);refine cu (cs:=Y) rfl (.tmp 8) (.tmp 80) rfl (by rw[G.out];rfl) rfl rfl H.out.drew (by rw[G.out];rfl) n2.out ?_;intro w5 q3 q5;have c5:=Ld q3;have g6:Hid (Fr (fun j=>j=b8) v w5):=Ld (((aa.dr (aa.refl v)).toFr _).trans q5);clear q3 q5;have c0:Hid (ab w5 b4 65 Y∧ab w5 f 75 XL):=Ld ⟨b7.out.fr g6.out (by have:=u.out;omega),s.out.fr g6.out (by have:=u.out;have:=y.out;omega)⟩;simp only[Act.put,bK,bM,bO];refine D.out _ _ (fun _=>c0.out) ?_;clear D K;have c6:Hid (ab w5 b9 75 pH):=Ld (I.out.fr g6.out (by have:=u.out;omega));refine aj (o:=.mk ..) rfl (fun K D=>?_) (.inl rfl);refine cu (cs:=XL) rfl (.tmp 9) (.tmp 81) rfl (by rw[Z.out];rfl) rfl rfl c6.out (by rw[Z.out];rfl) (by rw[j7.out];exact uT _ _ _) ?_;intro E q4 j8;have c7:=Ld q4;have z:Hid (Fr (fun j=>j=b8∨j=b9) v E):=Ld ((g6.out.mono (fun j _ q=>.inl q)).trans (j8.mono (fun j _ q=>.inr q)));have l3:Hid (ab E b8 65 Y):=Ld (c5.out.fr j8 (by have:=u.out;omega));have l1:Hid (ab E b4 65 Y∧ab E f 75 XL):=Ld ⟨c0.out.1.fr j8 (by have:=u.out;omega),c0.out.2.fr j8 (by have:=u.out;have:=y.out;omega)⟩;clear q4 j8;simp only[Act.put,bK,bM,bO];refine D.out _ _ (fun _=>l1.out) ?_;clear D K
    iterate 2 (refine ae (o:=.mk ..) rfl (fun K D=>?_);go_simp;refine D _ ?_;clear D K)
    refine ao ?_
    go_wp2_with fail
    have s4:∀j,(j=b8∨j=b9)→¬aO 5 v j∧¬aO 33 v j:=fun j q=>by
     rcases q with rfl|rfl
     ·exact⟨aO.not_blk H.out (by decide),aO.not_blk H.out (by decide)⟩
     ·exact⟨aO.not_blk I.out (by decide),aO.not_blk I.out (by decide)⟩
    have o4:∀j,(j=b8∨j=b9)→¬aO 132 v j:=fun j q=>by
     rcases q with rfl|rfl
     ·exact aO.not_blk H.out (by decide)
     ·exact aO.not_blk I.out (by decide)
    refine bodyPost_ret (lM rfl _ _ b8 b9 _ _ _ _ rfl l3.out underlying65 rfl (by rw[G.out];rfl) rfl c7.out underlying75 rfl (by rw[Z.out];rfl)) rfl ?_;unfold kh;rw[if_pos l8.out.symm,m'.out];refine⟨r',E1,f1,E2,f2,B,cc,A,d,by rw[←HY.out,j5.out,←j7.out];rfl,p6.out.fr z.out o4,p1.out,p8.out,?_,?_,p2.out.fr z.out (fun j q=>by have:=u.out;omega)⟩
    ·rw[j5.out];exact m1.out.fr z.out (fun j q=>(s4 j q).1)
    ·rw[j5.out];exact m9.out.fr z.out (fun j q _=>s4 j q)
   ·have H0:=Ld h0;have z':(ec != 0)=true:=by simp [h0]
    have n7:∀w,(Instr.build 75 #[]).run prog w=.ok (.agg pH) w:=fun _=>by kernel_rfl
    clear h0
    go_wp2_with (first
     |(refine cg 77 rfl ?_;refine ac rfl _ rfl underlying65 rfl (by rw[G.out];rfl) rfl b7.out ?_)
     |((with_reducible refine aA ⟨none,.store 65 (.tmp 8) _,_,_,_,_⟩ ?_);refine an rfl (.tmp 8) (.tmp 77) rfl (by rw[G.out];rfl) rfl rfl H.out (by rw[G.out];rfl) n2.out ?_;intro w5 r7 n9;have c5:=Ld r7;have g6:=Ld n9;have c6:Hid (ab w5 b9 75 pH):=Ld (I.out.fr n9 (by have:=u.out;omega));clear r7 n9)
     |((with_reducible refine aA ⟨none,.store 75 (.tmp 9) _,_,_,_,_⟩ ?_);refine an rfl (.tmp 9) (.tmp 78) rfl (cs:=pH) rfl rfl rfl c6.out rfl (by simp[pH,Value.oneCell']) ?_;intro E r8 s';have c7:=Ld r8;have z:=Ld s';clear r8 s'))
    have o4:∀j,(j=b8∨j=b9)→¬aO 132 v j:=fun j q=>by
     rcases q with rfl|rfl
     ·exact aO.not_blk H.out (by decide)
     ·exact aO.not_blk I.out (by decide)
    have j0:Fr (fun j=>j=b8∨j=b9) v E:=(g6.out.mono (fun j _ q=>.inl q)).trans (z.out.mono (fun j _ q=>.inr q));refine bodyPost_ret (lM rfl _ _ b8 b9 _ _ _ _ rfl (c5.out.fr z.out (by have:=u.out;omega)) underlying65 rfl (by rw[G.out];rfl) rfl c7.out underlying75 rfl rfl) rfl ?_;unfold kh;rw[if_neg (by rw[←l8.out];exact H0.out)];exact⟨r',E1,f1,E2,f2,by rw[←HY.out,←l8.out];rfl,p6.out.fr j0 o4,p1.out,p8.out,p2.out.fr j0 (fun j q=>by have:=u.out;omega)⟩
  |some L=>
   have y6:=Ld hn;rw[hn]at U;have j1:=Ld (qG g.out.1 J.out.len hn)
   have o0:k+1≤16384:=by
    have h6:=(ca g.out.1 g.out.2 (k+1)).1.used;have h7:=(ca g.out.1 g.out.2 (k+1)).2.1;have:=j1.out.2;have:=p0.out;omega
   have i2:(runs p l0 k).2.length=k:=J.out.len.1;have m':=Ld i2;obtain⟨vs,g4,k0⟩:=J.out.recs.row;rw[i2]at g4;have n1:=Ld (And.intro g4 k0);have j6:Hid (runs p l0 (k+1)=((runs p l0 k).1.step L,(runs p l0 k).2++[L])):=Ld (fa hn)
   have y5:(runs p l0 k).1.used+ay L.length≤20000:=by
    have h6:=(ca g.out.1 g.out.2 (k+1)).1.used;have h7:=(ca g.out.1 g.out.2 (k+1)).2.1;have h8:=p0.out;have h9:(runs p l0 (k+1)).1.used=(runs p l0 k).1.used+ay L.length:=by rw[j6.out];rfl
    omega
   have b3:Hid (L.length≤65536):=Ld (by
    obtain⟨hx,hb⟩:=ox hn;have h1:=LG.body_len g.out.1 hx.pos;have h2:=dO hx.pos;rw[hb,h1]
    omega)
   obtain⟨us,s7⟩:=nM ((runs p l0 k).1.used);obtain⟨sn,s5⟩:=nM (ay L.length);obtain⟨u2,y4⟩:=nM (us+sn);have g1:(us:Int)+(sn:Int)=(u2:Int):=by omega
   have g2:IntKind.i64.wrap (u2:Int)=(u2:Int):=IntWalk.i64_in _ (by omega);have HU:Hid (us=(runs p l0 k).1.used∧sn=ay L.length∧u2=(runs p l0 (k+1)).1.used):=Ld ⟨s7,s5,by rw[j6.out];show u2=(runs p l0 k).1.used+ay L.length;omega⟩;have u1:Hid ((runs p l0 k).1.gen=c):=Ld (by rw[(ca g.out.1 g.out.2 k).2.2.2.1,m0.out];rfl);clear hn i2 g4 k0 y5 s7 s5 y4;have c4:∀W,aa wr W→W.cell? ⟨f,4,none⟩=some (.slice B 16 cc):=fun W hN=>by rw[(hN.blk t.out).cell,j7.out];rfl
   have p':=Ld c4;clear c4
   go_wp2_with (first
    |(refine cg 47 rfl ?_;refine ac rfl _ rfl underlying65 rfl (by rw[g9.out.2.1];rfl) rfl b'.out ?_)
    |(refine cg 48 rfl ?_;refine ac rfl _ rfl underlying75 rfl (by rw[Z.out];rfl) rfl t.out ?_))
   refine U.out.mono ?_;rintro e w2 ⟨gb,ob,cb,rfl,r4,r5,r6,r1,X⟩;have g8:=Ld X;have m5:=Ld r1;have o8:=Ld r6;have o7:=Ld (And.intro r4 r5);obtain⟨bl,n5⟩:=nM (L.length);rw[←n5]at m5 o7 b3⊢;have i7:=Ld n5;have y1:=fun w=>Lib.run_eql_slice_nil (P:=prog) w 33 5 (some ⟨gb,ob,none⟩) bl cb 0 0 underlying33
   have u9:=p'.out w2 g8.out
   have u6:Hid (Calls prog 124 #[.slice B 16 cc,.int .u32 c,.slice (some ⟨gb,ob,none⟩) bl cb] w2 fun e w'=>(∃A c9,e=.returned (.slice A 16 c9)∧w'.ownsRow w2.heap.size 5 1 (.slice A 16 c9) 16 (am (fA (runs p l0 k).1.tag c L)))∧aa w2 w'):=Ld (by
    have h:=oR (p:=aO 5 w2) B cc (runs p l0 k).1.tag c (some ⟨gb,ob,none⟩) bl cb L w2 (HL.out.new ((k3.out.tr k4.out).tr g8.out)) (g7.out.new g8.out).tag g7.out.byt m5.out o8.out u0.out (by have:=b3.out;omega)
    exact h)
   clear r4 r5 r6 r1 X n5
   go_wp2_with fail
   refine u6.out.mono ?_;rintro e w3 ⟨⟨B3,c3,rfl,q9⟩,i'⟩;have p4:=Ld q9;have F:Hid (aa wr w3):=Ld (g8.out.tr i');have N:Hid (ab w3 f 75 XL):=Ld (F.out.blk t.out);have m6:Hid (Rd (RB wr.heap.size w3) w3 1 (some ⟨gb,ob,none⟩) bl (am L)):=Ld (m5.out.frT (S:=ia) (i'.toFr _) (fun _ x=>x.elim));have f43:w3.frozen? ⟨f,4,none⟩=false:=N.out.frozen 4;have v':=p'.out w3 F.out;clear q9 i' u9
   go_upto_region 8 with fail
   obtain⟨v,k1⟩:=nM (w3.setCell ⟨f,4,none⟩ (.slice B3 16 c3));have s:Hid (ab v f 75 (XL.setIfInBounds 4 (.slice B3 16 c3))):=Ld (by rw[k1];exact N.out.set 4 _);have T:Hid (Fr (fun j=>j=f) wr v):=Ld (by rw[k1];exact Fr.setCell (S:=fun j=>j=f) (p:=⟨f,4,none⟩) (F.out.toFr _) (fun _=>rfl) _);have i9:Hid (Fr (fun j=>j=f) w3 v):=Ld (by rw[k1];exact Fr.setCell (S:=fun j=>j=f) (p:=⟨f,4,none⟩) (Fr.refl _ _) (fun _=>rfl) _);rw[←k1];clear k1 v' f43;have p5:Hid (v.ownsRow w2.heap.size 5 1 (.slice B3 16 c3) 16 (am (fA (runs p l0 k).1.tag c L))):=Ld (bD p4.out i9.out (fun j q hs=>bG p4.out N.out (by decide) (hs▸q)))
   have m7:Hid (Rd (RB wr.heap.size v) v 1 (some ⟨gb,ob,none⟩) bl (am L)):=Ld (m6.out.frT i9.out (fun j q _=>by
    have f':j=f:=q;rw[f']
    exact aO.not_blk N.out (by decide)))
   have q0:Hid (XL.setIfInBounds 4 (.slice B3 16 c3)=mZ {(runs p l0 k).1 with tag:=fA (runs p l0 k).1.tag c L} B3 c3):=Ld (by rw[j7.out];rfl);have q1:∀W,aa v W→W.cell? ⟨f,2,none⟩=some (.int .i64 us):=fun W hN=>by rw[(hN.blk s.out).cell,q0.out,HU.out.1];rfl
   have o9:=Ld q1;have q2:∀p:HW (aa v),p.w.cell? ⟨f,2,none⟩=some (.int .i64 us):=fun p=>o9.out p.w p.h
   clear q1;have n6:0≤(bl:Int):=by omega
   refine fU (aa v) 7 [(true,0),(true,1),(true,2),(true,3),(false,4),(true,5),(true,6),(false,7)] (by kernel_rfl) (by kernel_rfl) (aa.dr (aa.refl v)) (fun y2=>?_)
   iterate 4 (refine ae (o:=.mk ..) rfl (fun K D=>?_);go_simp;refine D _ ?_;clear D K)
   refine aj (o:=.mk ..) rfl (fun K D=>?_) (.inl rfl);go_simp;refine(fy (bl:Int) v.drew).mono ?_;rintro e w5 ⟨rfl,s8⟩;rw[jk,i7.out,←HU.out.2.1,←i7.out];have j2:Hid (aa v w5):=Ld (by rw[←s8];exact aa.dr (aa.refl v));clear s8;go_simp;refine D.out _ _ (fun _=>j2.out) ?_;clear D K
   iterate 2 (refine ae (o:=.mk ..) rfl (fun K D=>?_);go_simp;refine D _ ?_;clear D K)
   have u7:=o9.out w5 j2.out;have f25:w5.frozen? ⟨f,2,none⟩=false:=(j2.out.blk s.out).frozen 2;refine aj (o:=.mk ..) rfl (fun K D=>?_) (.inl rfl);go_simp;refine D.out _ _ (fun h=>absurd rfl h) ?_;clear D K u7 f25 q2;obtain⟨E,k8⟩:=nM (w5.setCell ⟨f,2,none⟩ (.int .i64 u2))
   have i5:Hid (ab E f 75 (mZ (runs p l0 (k+1)).1 B3 c3)):=Ld (by
    rw[k8];have h:=(j2.out.blk s.out).set 2 (.int .i64 u2);rw[q0.out]at h
    have e:(mZ {(runs p l0 k).1 with tag:=fA (runs p l0 k).1.tag c L} B3 c3).setIfInBounds 2 (.int .i64 u2)=mZ (runs p l0 (k+1)).1 B3 c3:=by
     rw[HU.out.2.2,j6.out];rfl
    rw[e]at h
    exact h)
   have z:Hid (Fr (fun j=>j=f) v E):=Ld (by rw[k8];exact Fr.setCell (S:=fun j=>j=f) (p:=⟨f,2,none⟩) (j2.out.toFr _) (fun _=>rfl) _);rw[←k8];clear k8 n6;refine ao ?_
   have o2:∀j,j=f→¬aO 5 v j∧¬aO 33 v j:=fun j q=>by
    rw[q];exact⟨aO.not_blk s.out (by decide),aO.not_blk s.out (by decide)⟩
   have u3:Hid (E.ownsRow w2.heap.size 5 1 (.slice B3 16 c3) 16 (am (fA (runs p l0 k).1.tag c L))):=Ld (bD p5.out z.out (fun j q hs=>(o2 j hs).1 (cJ p5.out q)));have m8:Hid (Rd (RB wr.heap.size E) E 1 (some ⟨gb,ob,none⟩) bl (am L)):=Ld (m7.out.frT z.out (fun j q _=>(o2 j q).1));have b0:Hid (Fr (fun j=>j=f) wr E):=Ld (T.out.trans z.out)
   have g3:∀j,j=f→¬aO 5 wr j∧¬aO 33 wr j:=fun j q=>by
    rw[q];exact⟨aO.not_blk t.out (by decide),aO.not_blk t.out (by decide)⟩
   have V:Hid (E.ownsRow W0.heap.size 33 1 (.slice A k d) k vs∧∀(i:Nat) l,(runs p l0 k).2[i]?=some l→∃A c,vs[i]?=some (.slice A l.length c)∧l.length≤c∧c≤maxLen∧aU l∧Rd (RB W0.heap.size E) E 1 A l.length (am l)):=Ld ⟨bD n1.out.1 b0.out (fun j q hs=>(g3 j hs).2 (cJ n1.out.1 q)),fun i l hl=>by
    obtain⟨A',c',x1,x2,x3,x4,x5⟩:=n1.out.2 i l hl
    exact⟨A',c',x1,x2,x3,x4,x5.frT b0.out (fun j q _=>(g3 j q).1)⟩⟩
   have p9:Hid (W0.heap.size≤E.heap.size∧W0.heap.size≤wr.heap.size):=Ld ⟨Nat.le_trans J.out.fr.size b0.out.size,J.out.fr.size⟩;clear o2 g3 g1 g2
   go_wp2_with (refine cg 68 rfl ?_;refine aq EC _ rfl (.tmp 65) (.tmp 67) rfl W0.heap.size (.slice A k d) k vs rfl (aa.own (aa.al (aa.refl E) _) V.out.1) (some ⟨E.heap.size,0,none⟩) 1 1 [.slice (some ⟨gb,ob,none⟩) bl cb] rfl (Rd.ofBlk (p:=fun _=>True) (ab.new E 33 #[.slice (some ⟨gb,ob,none⟩) bl cb]) 1 1 rfl trivial) (by simp[Value.oneCell']) (by unfold maxLen;omega) (by omega) (by have:=p9.out.1;simp;omega) ?_;intro A8 d8 w8 r0 q6 v8;have k2:=Ld q6;have u4:=Ld r0;clear r0 q6 v8)
   have C:Hid (aa E (E.alloc (.cells #[.slice (some ⟨gb,ob,none⟩) bl cb] 33))):=Ld (aa.al (aa.refl E) _)
   have n':Hid (dW W0.heap.size w8 (.slice A8 (k+1) d8) (runs p l0 (k+1)).2):=Ld (by
    rw[j6.out]
    exact dW.push (l:=L) (A2:=some ⟨gb,ob,none⟩) (c2:=cb) ⟨aa.own C.out V.out.1,fun i l hl=>by
     obtain⟨A',c',x1,x2,x3,x4,x5⟩:=V.out.2 i l hl
     exact⟨A',c',x1,x2,x3,x4,x5.frT (S:=ia) (C.out.toFr _) (fun _ x=>x.elim)⟩⟩ m'.out.symm (by rw[←i7.out];exact u4.out) k2.out (by rw[←i7.out];exact o7.out) o8.out (by
      rw[←i7.out]
      exact(m8.out.frT (S:=ia) (C.out.toFr _) (fun _ x=>x.elim)).imp (fun j q=>⟨Nat.le_trans p9.out.2 q.1,q.2⟩)))
   have o3:∀j,(Value.slice A k d).ownBlock=some j→W0.heap.size≤j:=fun j q=>(ak V.out.1 j q).1
   have l9:Hid (Fr (fun j=>j=f) W0 w8):=Ld (((J.out.fr.trans b0.out).trans (C.out.toFr _)).trans' k2.out (fun j q hs=>by have:=o3 j hs;omega));have i6:Hid (ab w8 f 75 (mZ (runs p l0 (k+1)).1 B3 c3)):=Ld ((C.out.blk i5.out).fr k2.out (fun hs=>by have:=o3 f hs;have:=y.out;omega))
   have m2:Hid (jv w8 (runs p l0 (k+1)).1 B3):=Ld ⟨by
    have e:(runs p l0 (k+1)).1.tag=fA (runs p l0 k).1.tag c L:=by rw[j6.out];show fA _ _ _=_;rw[u1.out]
    rw[e];have h:=fg.own u3.out rfl
    exact(h.new C.out).fr k2.out (fun j q=>aO.not_own (C.out.own V.out.1) (by decide) q),(ca g.out.1 g.out.2 (k+1)).1.byt,(ca g.out.1 g.out.2 (k+1)).1.gen,tU g.out.1 g.out.2 g.out.1.s2 (k+1)⟩
   have n0:Hid (Fi W0 w8 p l0 f (k+1) (.slice A8 (k+1) d8) (mZ (runs p l0 (k+1)).1 B3 c3)):=Ld ⟨l9.out,n'.out,j1.out,⟨B3,c3,rfl,m2.out⟩,i6.out⟩;clear o3;go_roundw
   case rel=>exact⟨k+1,A8,d8,_,o0,rfl,n0⟩
   case measure=>simp;omega
theorem dW.out{B:Nat}{w:World}{A:Option Addr}{n c:Nat}{L:List (List Int)}(h:dW B w (.slice A n c) L)(r:n=L.length){i:Nat}(hi:i<n):∃g o d b l,L[i]?=some l∧A=some ⟨g,o,none⟩∧w.cell? ⟨g,o+i,none⟩=some (.slice d l.length b)∧aU l∧Rd (RB B w) w 1 d l.length (am l)∧b≤maxLen∧l.length≤b:=by
 subst r;obtain⟨t,s,q⟩:=h.row;obtain⟨g,o,m,-,-,p⟩:=(Rd.own s rfl).out (by omega) (by omega);obtain⟨d,b,h1,h2,f,j,k⟩:=q i _ (List.getElem?_eq_getElem hi);exact⟨g,o,d,b,_,List.getElem?_eq_getElem hi,m,p i _ h1,j,k,f,h2⟩
def chain(l:LG)(K:List (List Int)):LG:=K.foldl LG.step l
theorem kU(l:LG)(K:List (List Int))(b:List Int):chain l (K++[b])=(chain l K).step b:=by simp[chain]
theorem be (l:LG):∀K:List (List Int),(chain l K).first=l.first∧(chain l K).size=l.size∧(chain l K).gen=l.gen∧(chain l K).broken=l.broken
 | []=>⟨rfl,rfl,rfl,rfl⟩
 |b::K=>be (l.step b) K
theorem nU{l:LG}{K:List (List Int)}{j:Nat}(h:j<K.length):chain l (K.take (j+1))=(chain l (K.take j)).step K[j]:=by
 rw[List.take_succ_eq_append_getElem h,kU]
theorem gJ{l:LG}{K:List (List Int)}{j:Nat}(h:j<K.length):(chain l (K.take (j+1))).used=(chain l (K.take j)).used+ay K[j].length:=by
 rw[nU h];rfl
theorem nT{l:LG}{K:List (List Int)}{j:Nat}:∀d,j+d≤K.length→(chain l (K.take j)).used≤(chain l (K.take (j+d))).used
 | 0,_=>Nat.le_refl _
 |d+1,h=>by
  have h1:=nT (l:=l) (K:=K) (j:=j) d (by omega);have h2:=gJ (l:=l) (K:=K) (j:=j+d) (by omega);rw[←Nat.add_assoc,h2];omega
theorem jH{l:LG}{K:List (List Int)}{j k:Nat}(h:j≤k)(b:k≤K.length):(chain l (K.take j)).used≤(chain l (K.take k)).used:=by
 have:=nT (l:=l) (K:=K) (j:=j) (k-j) (by omega)
 rwa[show j+(k-j)=k by omega]at this
theorem fM(l:LG)(K:List (List Int)):chain l (K.take K.length)=chain l K:=by rw[List.take_length]
def gH(b:List Int):Prop:=ay b.length≠0∧aU b
theorem pW{l:LG}{K:List (List Int)}(b:∀x∈K,gH x):∀j,j≤K.length→l.used+j≤(chain l (K.take j)).used
 | 0,_=>by simp[chain]
 |j+1,h=>by
  have h1:=pW (l:=l) b j (by omega);have h2:=gJ (l:=l) (K:=K) (j:=j) (by omega);have c:=(b _ (List.getElem_mem (show j<K.length by omega))).1;omega
def iJ(g:Nat)(s:List Int):Prop:=aQ (s.take 4)≠g
theorem Az{l:LG}{b:List Int}(i:Nat):(l.sec b i).take 9=l.hdr i:=by
 unfold LG.sec ft LG.raw;rw[List.append_assoc,List.take_append_of_le_length (by rw[LG.hdr_len];exact Nat.le_refl _),List.take_of_length_le (by rw[LG.hdr_len];exact Nat.le_refl _)]
theorem Bz{l:LG}(i:Nat)(h:l.gen<4294967296):aQ ((l.hdr i).take 4)=l.gen:=by
 unfold LG.hdr;rw[List.append_assoc,List.take_append_of_le_length (by rw[av];exact Nat.le_refl _),List.take_of_length_le (by rw[av];exact Nat.le_refl _),gZ 4 _ (by omega)]
theorem qt {l:LG} {s:List Int} {i:Nat} (b:l.gen<4294967296) (h:iJ l.gen s):s.take 9≠l.hdr i:=fun e=>h (by
 have h1:=congrArg (List.take 4) e;rw[List.take_take]at h1;have h2:min 4 9=4:=rfl;rw[h2]at h1
 rw[h1,Bz i b])
theorem mW{p:DP}{l:LG}{b:List Int}(c:b.length≤65536)(h0:sct p l 0=l.sec b 0):l.many p=b.length:=by
 unfold LG.many;rw[h0];unfold LG.sec ft LG.raw;rw[List.append_assoc,List.drop_append_of_le_length (by rw[LG.hdr_len];exact Nat.le_refl _),List.drop_of_length_le (by rw[LG.hdr_len];exact Nat.le_refl _),List.nil_append,Nat.mul_zero,List.drop_zero];have d:=LG.frame_len l b;rw[List.take_append_of_le_length (by rw[List.length_take];omega),List.take_take];unfold LG.frame;rw[List.append_assoc,List.take_append_of_le_length (by rw[av];decide),List.take_of_length_le (by rw[av];decide),gZ 4 _ (by omega)]
theorem rM{p:DP}(f:p.Ok){l:LG}{b:List Int}(o:gH b)(v:l.used+ay b.length≤l.size)(h:∀i,i<ay b.length→sct p l i=l.sec b i):l.Next p∧l.body p=b:=by
 obtain⟨h1,h2,m⟩:=dO o.1;have r:l.many p=b.length:=mW h2 (h 0 (by omega))
 have c:l.body p=b:=by
  have q:=eR f l (ay b.length)
  have d:(aP p l (ay b.length)).take (20+b.length)=l.frame b:=by
   refine mx (ay b.length) _ _ (by rw[List.length_take];omega) (by rw[LG.frame_len];omega) fun i hi=>?_
   have y:=rS (l:=l) (b:=b) rfl m hi;have g:=oW (l:=l) (b:=b) rfl m hi;have j:=congrArg (List.drop 9) g
   have s:(l.raw b i).drop 9=((l.frame b).drop (55*i)).take 55:=by
    unfold LG.raw;rw[List.drop_append_of_le_length (by rw[LG.hdr_len];exact Nat.le_refl _),List.drop_of_length_le (by rw[LG.hdr_len];exact Nat.le_refl _),List.nil_append]
   rw[s,List.drop_take,←h i hi]at j;rw[←j,←gM f l (ay b.length) i hi,List.take_take,List.drop_take,List.take_take]
   congr 1
   unfold ff;split<;>omega
  have t:l.body p=((aP p l (ay b.length)).drop 20).take b.length:=by unfold LG.body;rw[r]
  have u:((aP p l (ay b.length)).take (20+b.length)).drop 20=((aP p l (ay b.length)).drop 20).take b.length:=by
   rw[List.drop_take,show 20+b.length-20=b.length by omega]
  rw[t,←u,d];unfold LG.frame;rw[List.drop_append_of_le_length (by rw[List.length_append,av,eN];decide),List.drop_of_length_le (by rw[List.length_append,av,eN];decide),List.nil_append]
 refine⟨kJ (n:=b.length) (k:=ay b.length) f r.symm rfl o.1 (by omega) v fun i hi=>?_,c⟩;rw[c,h i hi]
theorem xR{p:DP}{l:LG}(c:l.gen<4294967296)(h:iJ l.gen (sct p l 0)):¬l.Next p:=fun b=>by
 have:=b.hdr 0 (by have:=b.pos;omega);exact qt c h this
theorem qu{p:DP}{l:LG}{b:List Int}(d:l.gen<4294967296)(c:b.length≤65536)(h0:sct p l 0=l.sec b 0){i:Nat}(hi:i<ay b.length)(h:iJ l.gen (sct p l i)):¬l.Next p:=fun g=>by
 have f:=mW c h0;have:=g.hdr i (by rw[f];exact hi);exact qt d h this
end Go.Proofs.YtfchcdbfalgdlaaGreatDoor
