/- Texts of one proof. No condition but each one's own. -/
import Derived.Test.YtfchcdbfalgdlaaGreatDoorSweepOpensM11
import Derived.Test.YtfchcdbfalgdlaaGreatDoorSweepOpensM12
set_option maxHeartbeats 4000000
set_option maxRecDepth 100000
set_option linter.unusedVariables false
set_option linter.unusedSimpArgs false
namespace Go.Proofs.YtfchcdbfalgdlaaGreatDoor
open _root_.Go.Proofs.Tryz
open Go.RowKit Go.Sort
theorem ES{s:List Int}:s.take 9=s.take 4++(s.drop 4).take 4++(s.drop 8).take 1:=by
 have h1:s.take 9=s.take 8++(s.drop 8).take 1:=by rw[show 9=8+1 from rfl,List.take_add]
 have h2:s.take 8=s.take 4++(s.drop 4).take 4:=by rw[show 8=4+4 from rfl,List.take_add]
 rw[h1,h2]
theorem sC{xs:List Int}(b:aU xs)(hl:xs.length=4)(n:Nat)(c:n<4294967296):aQ xs=n↔xs=aY 4 n:=by
 constructor
 ·intro h;rw[←h,←hl];exact(sQ xs b).symm
 ·rintro rfl;exact gZ 4 n (by omega)
theorem AT{xs:List Int}(b:aU xs)(hl:xs.length=1)(n:Nat):aQ xs=n↔xs=[(n:Int)]:=by
 match xs,hl with
 | [x],_=>
  have:=b x (by simp);have e:aQ [x]=x.toNat:=by simp[aQ]
  rw[e];constructor
  ·intro h;rw[←h]
   congr 1
   omega
  ·intro h;injection h with h;omega
theorem tz{s:List Int}(b:aJ s){l:LG}{i:Nat}(n:l.gen<4294967296)(hi:l.used+i<4294967296):um s l.gen (l.used+i) (if i=0 then 1 else 2)↔s.take 9=l.hdr i:=by
 have j:aU (s.take 4):=fun x d=>b.2 x (List.mem_of_mem_take d)
 have b2:aU ((s.drop 4).take 4):=fun x d=>b.2 x (List.mem_of_mem_drop (List.mem_of_mem_take d))
 have k:aU ((s.drop 8).take 1):=fun x d=>b.2 x (List.mem_of_mem_drop (List.mem_of_mem_take d))
 have f:(s.take 4).length=4:=by rw[List.length_take,b.1];rfl
 have g:((s.drop 4).take 4).length=4:=by rw[List.length_take,List.length_drop,b.1];rfl
 have o:((s.drop 8).take 1).length=1:=by rw[List.length_take,List.length_drop,b.1];rfl
 have m:(((if i=0 then 1 else 2:Nat)):Int)=(if i=0 then 1 else 2:Int):=by split<;>rfl
 rw[ES];unfold LG.hdr;constructor
 ·rintro⟨h1,h2,p⟩;rw[(sC j f _ n).1 h1,(sC b2 g _ hi).1 h2,(AT k o _).1 p,m]
 ·intro h;have c:=List.append_inj h (by simp[f,g,av]);have h1:=List.append_inj c.1 (by simp[f,av]);exact⟨(sC j f _ n).2 h1.1,(sC b2 g _ hi).2 h1.2,(AT k o _).2 (by rw[m];exact c.2)⟩
def RB(B:Nat)(w:World)(k:Nat):Prop:=B≤k∧aO 5 w k
def sK(l:LG)(r:Option (List Int))(w:World)(d f n:Nat)(e:Ending)(w':World):Prop:=
 match r with
 |none=>e=.returned (.tuple #[.slice none 0 0,.bool false])∧aa w w'
 |some b=>∃A c,e=.returned (.tuple #[.slice A b.length c,.bool true])∧b.length≤c∧c≤maxLen∧aU b∧Rd (RB w.heap.size w') w' 1 A b.length (am b)∧Lg w' d f (l.step b) n∧Fr (fun k=>k=d) w w'
theorem nF:(prog.info? 175).map (fun i=>(i.zero,i.size))=some (some (.agg (af (List.replicate 16 0))),16):=by kernel_rfl
structure Ff(w w':World)(p:DP)(l:LG)(k:Nat)(v:Value):Prop where
 new:aa w w'
 own:w'.ownsRow w.heap.size 5 1 v (55*k) (am (aP p l k))
 hdr:∀i,i<k→(sct p l i).take 9=l.hdr i
 fit:l.used+k≤l.size
set_option maxHeartbeats 8000000 in
theorem tp{w:World}{D gd base bs bf:Nat}{v:Value}{p:DP}{l:LG}(h:Lg w D gd l p.size)(hD:Dk w base gd bs bf v p)(hL:dp 4 2 w):
    Calls prog 96 #[.pointer (some ⟨D,0,none⟩)] w (sK l (nextL p l) w D gd p.size):=by
 have c7:=Ld h;have HD:=Ld hD;have HL:=Ld hL;have m8:=hD.ok.s2;have m2:=h.ok.fit;have H:=h.ok.gen;have j1:=h.ok.used;have j8:=Ld hD.ok;have i':Hid (∀i,aJ (sct p l i)):=Ld fun i=>lk hD.ok l i
 obtain⟨us,c5⟩:=nM (l.used);have c':=Ld c5;have c4:=h.c4;rw[←c5]at c4;have s4:us≤16384:=by omega
 have k9:Hid (l.size≤us→∀W,aa w W→Calls prog 142 #[.pointer (some ⟨D,0,none⟩),.int .i64 us,.int .i64 1] W fun e w'=>de none W.heap.size e w'∧W=w'):=
  Ld fun m4 W M=>tx (h.new M) us 1 m4 m8
 have g8:Hid (us<l.size→∀W,aa w W→Calls prog 142 #[.pointer (some ⟨D,0,none⟩),.int .i64 us,.int .i64 1] W fun e w'=>((sct p l 0).take 9=l.hdr 0→de (some ((sct p l 0).drop 9)) W.heap.size e w')∧(¬(sct p l 0).take 9=l.hdr 0→de none W.heap.size e w')∧aa W w'):=
  Ld fun i6 W M=>by
   have hq:=wL (h.new M) (hD.new M) us 1 i6 (by omega) (sct p l 0) (by unfold sct;rw[Nat.add_zero,c5]);refine hq.mono fun e w' ⟨a,b,c⟩=>?_
   have hh:=tz (s:=sct p l 0) (lk hD.ok l 0) (l:=l) (i:=0) H (by omega);rw[Nat.add_zero,←c5,if_pos rfl]at hh;exact⟨fun x=>a (hh.2 x),fun x=>b (fun y=>x (hh.1 y)),c⟩
 have l':Hid (∀j,l.size≤j→∀W,aa w W→Calls prog 142 #[.pointer (some ⟨D,0,none⟩),.int .i64 (j:Int),.int .i64 2] W fun e w'=>de none W.heap.size e w'∧W=w'):=
  Ld fun j m4 W M=>tx (h.new M) j 2 m4 m8
 have g9:Hid (∀j k,j=us+k→1≤k→j<l.size→∀W,aa w W→Calls prog 142 #[.pointer (some ⟨D,0,none⟩),.int .i64 (j:Int),.int .i64 2] W fun e w'=>((sct p l k).take 9=l.hdr k→de (some ((sct p l k).drop 9)) W.heap.size e w')∧(¬(sct p l k).take 9=l.hdr k→de none W.heap.size e w')∧aa W w'):=
  Ld fun j k hj k1 i6 W M=>by
   have hq:=wL (h.new M) (hD.new M) j 2 i6 (by omega) (sct p l k) (by unfold sct;rw[hj,c5,Nat.add_assoc]);refine hq.mono fun e w' ⟨a,b,c⟩=>?_
   have hh:=tz (s:=sct p l k) (lk hD.ok l k) (l:=l) (i:=k) H (by omega);rw[←c5,←hj,if_neg (by omega)]at hh;exact⟨fun x=>a (hh.2 x),fun x=>b (fun y=>x (hh.1 y)),c⟩
 obtain⟨NX,l9⟩:=nM (nextL p l);rw[←l9];have b8:=Ld l9;have s3:l.size≤16384:=by omega
 clear h hD hL l9 c5 H j1 m2 m8
 go_enter func96,ntmps96
 by_cases h0:us<l.size
 rotate_left
 ·have HN:Hid (NX=none):=Ld (by rw[b8.out];exact ci (fun P=>by have:=P.room;have:=c'.out;omega))
  go_wp2_with fail
  refine(k9.out (by omega) w (aa.refl w)).mono ?_;rintro e w' ⟨u,rfl⟩;unfold de at u;dsimp only at u;subst u
  go_wp2_with fail
  go_ret2
  rw[HN.out];exact⟨rfl,aa.refl w⟩
 by_cases i4:(sct p l 0).take 9=l.hdr 0
 rotate_left
 ·have HN:Hid (NX=none):=Ld (by rw[b8.out];exact ci (fun P=>i4 (P.hdr 0 (Nat.pos_of_ne_zero P.pos))));have HH:=Ld i4;clear i4
  go_wp2_with fail
  refine(g8.out h0 w (aa.refl w)).mono ?_;rintro e w' ⟨-,u,E⟩;have u:=u HH.out;have J:=Ld E;unfold de at u;dsimp only at u;subst u;clear E
  go_wp2_with fail
  go_ret2
  rw[HN.out];exact⟨rfl,J.out⟩
 have n6:=Ld i4;clear i4;obtain⟨I,k2⟩:=nM (l.many p);have C:=Ld k2;obtain⟨N,M⟩:=nM (ay I);have t:=Ld M;have q9:N≤1193:=by rw[M];exact it I
 have m7:I<4294967296:=by
  have q6:=(i'.out 0).1;have:=eC (xs:=((sct p l 0).drop 9).take 4) (fun x P=>(i'.out 0).2 x (List.mem_of_mem_drop (List.mem_of_mem_take P)));rw[List.length_take,List.length_drop,q6]at this;rw[k2];exact this
 have k4:Hid (aP p l 1=(sct p l 0).drop 9):=Ld (by simp[aP]);have g4:Hid (((sct p l 0).drop 9).length=55):=Ld (by rw[List.length_drop,(i'.out 0).1]);have j6:Hid (aU ((sct p l 0).drop 9)):=Ld (fun x P=>(i'.out 0).2 x (List.mem_of_mem_drop P));have l4:Hid (aQ ((((sct p l 0).drop 9).take 4).take 4)=I):=Ld (by rw[List.take_take,k2];rfl);clear k2 M;have em:IntKind.i64.wrap (I:Int)=(I:Int):=IntWalk.i64_in _ (by omega);have m6:(I:Int)<4294967296:=by omega
 go_wp2_with fail
 refine(g8.out h0 w (aa.refl w)).mono ?_;rintro e w1 ⟨u,-,E⟩;have u:=u n6.out;have J:=Ld E;unfold de at u;dsimp only at u;obtain⟨A,c,rfl,hO⟩:=u;rw[g4.out]at hO⊢;obtain⟨g,cap,hv,o7,p0⟩:=dh hO (by omega);injection hv with r5 r6 m9;subst r5 m9;have HO:=Ld hO;clear hO E r6;have r7:¬c=4:=by omega
 go_wp2_with fail
 refine(iN (some ⟨g,0,none⟩) 4 c (((sct p l 0).drop 9).take 4) w1 ((Rd.own HO.out rfl).take (by omega)) (fun x P=>j6.out x (List.mem_of_mem_take P)) (by omega)).mono ?_;rintro e w2 ⟨r,rfl,o9,o6,hr⟩;have o2:=Ld o9;have n8:=Ld o6;have HR:=Ld hr;clear o9 o6 hr
 go_wp2_with fail
 have x1:=oz (xs:=((sct p l 0).drop 9).take 4) (k:=4) (by rw[List.length_take,g4.out];decide);rw[l4.out]at x1;refine(di o2.out 4 (by omega)).mono ?_;rintro e w3 ⟨rfl,-,i1⟩;rw[x1];dsimp only;have c8:Hid (aa w1 w3):=Ld (n8.out.fr i1 (fun k Y=>by have:=HR.out;omega));clear x1 i1
 go_wp2_with fail
 refine(iu (I:Int) w3).mono ?_;rintro e w' ⟨rfl,rfl⟩;rw[jk,←t.out]
 by_cases i2:N=0
 ·have HN:Hid (NX=none):=Ld (by rw[b8.out];exact ci (fun P=>P.pos (by rw[←C.out,←t.out,i2])));subst i2
  go_wp2_with fail
  go_ret2
  rw[HN.out];exact⟨rfl,J.out.tr c8.out⟩
 have q8:((N:Int)==0)=false:=by simp;omega
 have n7:Hid (Ff w w3 p l 1 (.slice (some ⟨g,0,none⟩) 55 c)):=Ld ⟨J.out.tr c8.out,by rw [k4.out];exact c8.out.own HO.out,fun i hi=>by
  obtain rfl:i=0:=by omega
  exact n6.out,by have:=c'.out;omega⟩
 clear o2 HO J n8 c8 HR m7 m6 em
 go_wp2_with fail
 go_loopw [4,8] (fun f i wr=>∃(k g d fl:Nat),1≤k∧k≤N∧Hid (fl=55*k)∧fl≤d∧d≤maxLen∧i=.int .i64 k∧f=.slice (some ⟨g,0,none⟩) fl d∧Hid (Ff w wr p l k (.slice (some ⟨g,0,none⟩) fl d))) (fun _ i _=>N-(intOf i).toNat)
 case atStart=>exact⟨1,g,c,55,by omega,by omega,Ld rfl,o7,p0,rfl,rfl,n7⟩
 case round=>
  clear n7 o7 p0;obtain⟨k,g,d,fl,k1,Y,z,p3,r8,rfl,rfl,F⟩:=hrel;have r9:fl≤66000:=by have:=z.out;omega
  by_cases i6:k<N
  ·obtain ⟨j,hj⟩:=nM (us+k);have e1:(us:Int)+(k:Int)=(j:Int):=by omega
   have e2:IntKind.i64.wrap (j:Int)=(j:Int):=IntWalk.i64_in _ (by omega);have s':(k:Int)<(N:Int):=by omega
   have l5:wr.cell? ⟨D,4,none⟩=some (.int .i64 us):=F.out.new.cell_ c4;have HJ:=Ld hj;clear hj
   by_cases r1:l.size≤j
   ·have HN:Hid (NX=none):=Ld (by rw[b8.out];exact ci (fun P=>by have:=P.fit;rw[←C.out,←t.out]at this;have:=c'.out;have:=HJ.out;omega))
    go_wp2_with fail
    refine(l'.out j r1 wr F.out.new).mono ?_;rintro e w' ⟨u,rfl⟩;unfold de at u;dsimp only at u;subst u
    go_wp2_with fail
    go_ret2
    rw[HN.out];exact⟨rfl,F.out.new⟩
   ·by_cases i5:(sct p l k).take 9=l.hdr k
    ·have j7:=Ld i5;have k5:Hid (((sct p l k).drop 9).length=55):=Ld (by rw[List.length_drop,(i'.out k).1]);clear i5
     go_wp2_with fail
     refine(g9.out j k HJ.out k1 (by omega) wr F.out.new).mono ?_;rintro e w1 ⟨u,-,E⟩;have u:=u j7.out;have J:Hid (aa w w1):=Ld (F.out.new.tr E)
     have o0:Hid (w1.ownsRow w.heap.size 5 1 (.slice (some ⟨g,0,none⟩) fl d) fl (am (aP p l k))):=Ld (by
      have:=E.own F.out.own
      rwa[←z.out]at this)
     unfold de at u;dsimp only at u;obtain⟨A2,c2,rfl,m0⟩:=u;rw[k5.out]at m0⊢;have q2:=Ld m0;clear m0 E
     go_wp2_with (refine cg 53 rfl ?_;refine aq jJ _ rfl (.tmp 51) (.tmp 52) rfl w.heap.size (.slice (some ⟨g,0,none⟩) fl d) fl (am (aP p l k)) rfl o0.out A2 55 c2 (am ((sct p l k).drop 9)) rfl (Rd.own q2.out rfl) (aM _) (by unfold maxLen;omega) (by omega) J.out.size ?_;intro A3 d3 w3 o8 i1 q7;have n9:=Ld o8;have p9:=Ld i1;clear o8 i1 q7)
     obtain⟨g3,q5,m9,m',m1⟩:=dh n9.out (by omega);injection m9 with n' n0 n1;subst n' n1;have c8:Hid (aa w w3):=Ld (J.out.fr p9.out (fun k Y=>(ak o0.out k Y).1));have g7:Hid (fl+55=55*(k+1)):=Ld (by have:=z.out;omega)
     have q0:Hid (Ff w w3 p l (k+1) (.slice (some ⟨g3,0,none⟩) (fl+55) d3)):=Ld ⟨c8.out,by
      rw[←g7.out,im];have:=n9.out;unfold am at this⊢;rw[List.map_append]
      exact this,fun i hi=>by
       rcases Nat.lt_or_ge i k with h|h
       ·exact F.out.hdr i h
       ·obtain rfl:i=k:=by omega
        exact j7.out,by have:=HJ.out;have:=c'.out;omega⟩
     clear n0;go_roundw
     case rel=>exact⟨k+1,g3,d3,fl+55,by omega,by omega,g7,m',m1,by go_num,rfl,q0⟩
     case measure=>simp[intOf];omega
    ·have HN:Hid (NX=none):=Ld (by rw[b8.out];exact ci (fun P=>i5 (P.hdr k (by rw[←C.out,←t.out];exact i6))));have j7:=Ld i5;clear i5
     go_wp2_with fail
     refine(g9.out j k HJ.out k1 (by omega) wr F.out.new).mono ?_;rintro e w1 ⟨-,u,E⟩;have u:=u j7.out;have J:Hid (aa w w1):=Ld (F.out.new.tr E);unfold de at u;dsimp only at u;subst u;clear E
     go_wp2_with fail
     go_ret2
     rw[HN.out];exact⟨rfl,J.out⟩
  ·have p4:k=N:=by omega
   rw[p4]at F z;have r2:¬(k:Int)<(N:Int):=by omega
   clear p4 Y k1;have c3:=dO (n:=I) (by rw[←t.out];exact i2);have m3:20+I≤fl:=by have:=z.out;have:=t.out;omega
   have r3:1≤I:=c3.1;have r4:I≤65536:=c3.2.1;obtain⟨Z,m5⟩:=nM (20+I);have e1:(20:Int)+(I:Int)=(Z:Int):=by omega
   have e2:IntKind.i64.wrap (Z:Int)=(Z:Int):=IntWalk.i64_in _ (by omega);have e3:Z-20=I:=by omega
   have e4:¬d=20:=by omega
   have e5:Z≤d:=by omega
   have e6:20≤Z:=by omega
   have e7:(Z:Int)≤(d:Int):=by omega
   have e8:(20:Int)≤(Z:Int):=by omega
   obtain⟨bd,i3⟩:=nM (l.body p);have p8:Hid (bd=((aP p l N).drop 20).take I):=Ld (by rw[i3,LG.body,←C.out,←t.out]);have j5:Hid (bd.length=I):=Ld (by rw[i3,LG.body_len j8.out (by rw[←C.out,←t.out];exact i2),C.out]);have k3:Hid (aU bd):=Ld (by rw[i3];exact LG.body_byt j8.out l);have j4:=Ld i3
   have l1:Hid (Rd (RB w.heap.size wr) wr 1 (some ⟨g,20,none⟩) I (am bd)):=Ld (by
    have h:=((Rd.own F.out.own (by rw[z.out])).imp (q:=RB w.heap.size wr) (fun k Y=>⟨(ak F.out.own k Y).1,cJ F.out.own Y⟩)).drop (k:=20) (cap:=d) (by rw[←z.out];omega) (by rw[←z.out];exact p3);rw[if_neg e4]at h
    have h2:Rd (RB w.heap.size wr) wr 1 (some ⟨g,20,none⟩) (55*N-20) (am ((aP p l N).drop 20)):=by
     have e:am ((aP p l N).drop 20)=(am (aP p l N)).drop (20*1):=by unfold am;rw[List.map_drop]
     rw[e];exact h
    have h3:=h2.take (k:=I) (by rw[←z.out];omega);rw[←p8.out]at h3
    exact h3)
   clear m5 i3 c3;have l5:wr.cell? ⟨D,4,none⟩=some (.int .i64 us):=F.out.new.cell_ c4;have b3:Hid (Lg wr D gd l p.size):=Ld (c7.out.new F.out.new);have H:=b3.out.c3;obtain⟨gn,k0⟩:=nM (l.gen);rw[←k0]at H;have q3:∀p:HW (aa wr),p.w.cell? ⟨D,3,none⟩=some (.int .u32 gn):=fun p=>p.h.cell_ H
   obtain⟨tg,j'⟩:=nM (l.tag);have q4:Hid (∀W,aa wr W→W.rangeAt D 5 (am tg)):=Ld fun W M=>by rw[j'];exact(b3.out.new M).tagAt
   have b9:Hid (tg.length=16∧aU tg∧gn<4294967296):=Ld ⟨by rw[j'];exact c7.out.ok.len,by rw[j'];exact c7.out.ok.byt,by rw[k0];exact c7.out.ok.gen⟩;obtain⟨T,j9⟩:=nM (fA tg gn bd);have l3:Hid (T=fA l.tag l.gen bd):=Ld (by rw[j9,j',k0]);have O:Hid (T.length=16∧aU T):=Ld (by rw[j9];exact⟨eN _ _ _,gX _ _ _⟩);have i0:=Ld j9;have i9:(af T).size=16:=by rw[au,O.out.1]
   have c9:=Ld i9;clear H k0 j' j9 i9
   go_wp2_with fail
   apply me (α:=Nat) (fun b B=>aa wr B∧ab B b 175 (af T))
   case h1=>
    intro K' o5;refine cD (aa wr) (.take 0 (.take 1 (.take 2 (.take 3 (.take 4 (.take 5 (.take 6 (.take 7 (.take 8 (.two 9 (.act 10 (.act 11 .done)) 10 (.act 9 (.act 11 .done)))))))))))) (by kernel_rfl) (by kernel_rfl) (aa.dr (aa.refl wr)) (fun i7=>?_)
    iterate 3 (refine aB (o:=.mk ..) rfl (fun K m=>?_);go_simp;refine m _ ?_;clear m K)
    refine fS (o:=.mk ..) rfl rfl (.tmp 60) rfl rfl (fun W M=>q4.out W M) underlying175 rfl (by rw[ah,b9.out.1];rfl) ?_;simp only[Act.put,bK,bM,bO]
    iterate 5 (refine aB (o:=.mk ..) rfl (fun K m=>?_);go_simp;refine m _ ?_;clear m K)
    refine⟨?_,?_⟩
    ·refine dX (o:=.mk ..) rfl (fun K m=>?_) (.inl rfl);go_simp;refine(jl tg gn (some ⟨g,20,none⟩) I (d-20) bd wr.drew (((HL.out.new F.out.new)).new (aa.dr (aa.refl wr))) ((aa.dr (aa.refl wr)).rd l1.out) k3.out b9.out.1 b9.out.2.1 b9.out.2.2 (by omega)).mono ?_;rintro e w4 ⟨rfl,d'⟩;rw[←i0.out];have b7:Hid (aa wr w4):=Ld (aa.tr (aa.dr (aa.refl wr)) d');clear d';go_simp;refine m.out _ _ b7.out ?_;clear m K;refine fB (o:=.mk ..) rfl rfl rfl nF ?_;intro b5 B c1 c0 V;have k6:Hid (wr.heap.size≤b5):=Ld (by have:=b7.out.size;omega);refine⟨b7.out.tr V,?_⟩;clear c1;simp only[Act.put,bK,bM,bO];refine dP (o:=.mk ..) (cs:=af T) rfl rfl (.tmp 12) (.tmp 67) rfl (by rw[c9.out];rfl) rfl rfl c0 (by rw[c9.out];rfl) (bw _) ?_;intro w6 l7 l8;have G:aa wr w6:=(b7.out.tr V).fr l8 (fun k Y=>by have:=k6.out;omega);refine⟨G,?_⟩;simp only[Act.put,bK,bM,bO];refine bq ?_;exact o5.out b5 w6 ⟨G,l7⟩
    ·refine fL (o:=.mk ..) rfl rfl rfl nF ?_;intro b5 B c1 c0 V;have L:Hid (aa wr B):=Ld ((aa.dr (aa.refl wr)).tr V);have j3:=Ld c0;have k6:Hid (wr.heap.size≤b5):=Ld (by rw[c1];exact Nat.le_refl _);refine⟨L.out,?_⟩;clear c1 c0 V;simp only[Act.put,bK,bM,bO];refine aE (o:=.mk ..) rfl (fun K m=>?_) (.inl rfl);go_simp;refine(jl tg gn (some ⟨g,20,none⟩) I (d-20) bd B (((HL.out.new F.out.new)).new L.out) (L.out.rd l1.out) k3.out b9.out.1 b9.out.2.1 b9.out.2.2 (by omega)).mono ?_;rintro e w4 ⟨rfl,d'⟩;rw[←i0.out];have p5:=Ld (d'.blk j3.out);have b7:Hid (aa wr w4):=Ld (L.out.tr d');clear d';go_simp;refine m.out _ _ b7.out ?_;clear m K;refine dP (o:=.mk ..) (cs:=af T) rfl rfl (.tmp 12) (.tmp 67) rfl (by rw[c9.out];rfl) rfl rfl p5.out (by rw[c9.out];rfl) (bw _) ?_;intro w6 l7 l8;have G:aa wr w6:=b7.out.fr l8 (fun k Y=>by have:=k6.out;omega);refine⟨G,?_⟩;simp only[Act.put,bK,bM,bO];refine bq ?_;exact o5.out b5 w6 ⟨G,l7⟩
   case h2=>
    rintro b5 B ⟨V,c0⟩;have L:=Ld V;have j3:=Ld c0;clear V c0 q3;have k7:Hid (Lg B D gd l p.size):=Ld (b3.out.new L.out);have q1:Hid (aa w B):=Ld (F.out.new.tr L.out);obtain⟨fx,k'⟩:=nM (((aP p l N).drop 4).take 16);have n5:=Ld k';have r0:¬d=4:=by omega
    have r':20≤d:=by omega
    have p1:(20:Int)≤(d:Int):=by omega
    have o1:Hid (∀W,aa B W→Rd (fun k=>w.heap.size≤k) W 1 (some ⟨g,4,none⟩) 16 (am fx)):=Ld (fun W M=>by
     have h:=((Rd.own F.out.own (by rw[z.out])).imp (q:=fun k=>w.heap.size≤k) (fun k Y=>(ak F.out.own k Y).1)).drop (k:=4) (cap:=d) (by rw[←z.out];omega) (by rw[←z.out];exact p3);rw[if_neg r0]at h
     have h2:Rd (fun k=>w.heap.size≤k) wr 1 (some ⟨g,4,none⟩) (55*N-4) (am ((aP p l N).drop 4)):=by
      have e:am ((aP p l N).drop 4)=(am (aP p l N)).drop (4*1):=by unfold am;rw[List.map_drop]
      rw[e];exact h
     have h3:=h2.take (k:=16) (by rw[←z.out];omega);rw[←k']at h3
     exact M.rd (L.out.rd h3))
    have o3:Hid (∀W,aa B W→Rd (fun _=>True) W 1 (some ⟨b5,0,none⟩) 16 (am T)):=Ld (fun W M=>by
     have h:=Rd.ofBlk (p:=fun _=>True) (M.blk j3.out) 1 16 (by rw[c9.out]) trivial
     rwa[dR]at h)
    have j6:Hid (aU fx):=Ld (by rw[k'];exact fun x P=>kY j8.out l N x (List.mem_of_mem_drop (List.mem_of_mem_take P)));clear k';have c1:B.cell? ⟨D,4,none⟩=some (.int .i64 us):=L.out.cell_ l5
    by_cases f':fx=T
    ·have X:decide (fx=T)=true:=decide_eq_true f';have b':=Ld X;have k8:Hid (l.Next p):=Ld ⟨by have:=c'.out;omega,by rw[←C.out,←t.out];exact i2,by rw[←C.out,←t.out];exact F.out.fit,by rw[←C.out,←t.out];exact F.out.hdr,by rw[←C.out,←t.out,←n5.out,f',l3.out,j4.out]⟩;have HN:Hid (NX=some bd):=Ld (by rw[b8.out,jf k8.out,j4.out]);clear f' X
     go_wp2_with fail
     refine ag (aa B) [(true,0),(true,1),(true,2),(false,3),(true,4)] (by kernel_rfl) (by kernel_rfl) (aa.dr (aa.refl B)) (fun i7=>?_)
     iterate 3 (refine ae (o:=.mk ..) rfl (fun K m=>?_);go_simp;refine m _ ?_;clear m K)
     refine aj (o:=.mk ..) rfl (fun K m=>?_) (.inl rfl);go_simp;refine(oY (some ⟨g,4,none⟩) (some ⟨b5,0,none⟩) 16 16 (d-4) 16 fx T B.drew (o1.out _ (aa.dr (aa.refl B))) (o3.out _ (aa.dr (aa.refl B))) j6.out O.out.2 (by omega) (by omega)).mono ?_;rintro e w6 ⟨rfl,G⟩;rw[b'.out];have U:Hid (aa B w6):=Ld (aa.tr (aa.dr (aa.refl B)) G);clear G;go_simp;refine m.out _ _ (fun _=>U.out) ?_;clear m K
     iterate 1 (refine ae (o:=.mk ..) rfl (fun K m=>?_);go_simp;refine m _ ?_;clear m K)
     refine ao ?_;have b0:Hid (Lg w6 D gd l p.size):=Ld (k7.out.new U.out);have n2:Hid (ab w6 b5 175 (af T)):=Ld (U.out.blk j3.out);have c6:w6.cell? ⟨D,4,none⟩=some (.int .i64 us):=U.out.cell_ c1;have f6:w6.frozen? ⟨D,4,none⟩=false:=b0.out.blk.frozen 4;obtain⟨R,j0⟩:∃u2,u2=us+N:=⟨_,rfl⟩
     have g1:(us:Int)+(N:Int)=(R:Int):=by omega
     have g2:IntKind.i64.wrap (R:Int)=(R:Int):=IntWalk.i64_in _ (by omega);have o4:Hid (R=l.used+ay bd.length∧R≤l.size):=Ld ⟨by rw[j0,j5.out,c'.out,t.out],by have:=k8.out.fit;rw[←C.out,←t.out]at this;have:=c'.out;omega⟩;clear j0 c1 l5 e1 e2 e3 e4 e5 e6 e7 e8
     go_upto_region 20 with fail
     obtain⟨w7,j2⟩:=nM (w6.setCell ⟨D,4,none⟩ (.int .i64 R));have b1:Hid (Lg w7 D gd {l with used:=R} p.size):=Ld (by rw[j2];exact b0.out.setUsed R o4.out.2);have g5:Hid (Fr (fun k=>k=D) wr w7):=Ld (by rw[j2];exact Fr.setCell (S:=fun k=>k=D) (p:=⟨D,4,none⟩) ((L.out.tr U.out).toFr _) (fun _=>rfl) _);have q':Hid (Fr (fun k=>k=D) w w7):=Ld ((F.out.new.toFr _).trans g5.out)
     have p6:Hid (ab w7 b5 175 (af T)):=Ld (by
      rw[j2];refine n2.out.far (fun e=>?_) _
      exact ab.ne_ n2.out b0.out.blk (by decide) e)
     rw[←j2];clear j2 c6 f6 g1 g2;refine wp_region_list ?_;refine wpList_step fun K m=>?_
     go_simp;refine m _ _ ?_;clear m K;refine ac rfl _ rfl underlying175 rfl (by rw[c9.out];rfl) rfl p6.out ?_
     iterate 2 (refine wpList_step fun K m=>?_;go_simp;refine m _ _ ?_;clear m K)
     refine fE rfl (.tmp 84) (.tmp 82) rfl rfl rfl b1.out.blk (cells:=am T) (by rw[ah,O.out.1,wu b1.out.ok.len];decide) (by rw[ah,O.out.1];rfl) (aM _) ?_;intro w8 p' p2;have p7:=Ld p';have n3:=Ld p2;clear p' p2;simp only[Act.put,bK,bM,bO]
     go_wp2_with fail
     go_ret2
     rw[HN.out];have g6:Fr (fun k=>k=D) wr w8:=g5.out.trans n3.out
     have l2:Rd (RB w.heap.size w8) w8 1 (some ⟨g,20,none⟩) I (am bd):=by
      have i7:∀k,RB w.heap.size wr k→¬k=D:=fun k Y hs=>by
       have:=c7.out.blk.lt;have:=Y.1;omega
      exact(l1.out.fr g6 i7).imp (fun k Y=>⟨Y.1,Y.2.fr g6 (i7 k Y)⟩)
     refine⟨some ⟨g,20,none⟩,d-20,by rw[j5.out];rfl,by rw[j5.out];omega,by omega,k3.out,by rw[j5.out];exact l2,⟨?_,k8.out.ok j8.out c7.out.ok|>fun h=>by rw[j4.out];exact h⟩,q'.out.trans n3.out⟩;have:=p7.out;rw[wv b1.out.ok.len gd T O.out.1]at this
     have e:l.step bd={({l with used:=R}:LG)with tag:=T}:=by
      unfold LG.step;rw[←o4.out.1,←l3.out]
     rw[e];exact this
    ·have X:decide (fx=T)=false:=decide_eq_false f';have b':=Ld X;have HN:Hid (NX=none):=Ld (by rw[b8.out];exact ci (fun P=>f' (by have:=P.tag;rw[←C.out,←t.out,←n5.out,←j4.out]at this;rw[this,l3.out])));clear f' X
     go_wp2_with fail
     refine ag (aa B) [(true,0),(true,1),(true,2),(false,3),(true,4)] (by kernel_rfl) (by kernel_rfl) (aa.dr (aa.refl B)) (fun i7=>?_)
     iterate 3 (refine ae (o:=.mk ..) rfl (fun K m=>?_);go_simp;refine m _ ?_;clear m K)
     refine aj (o:=.mk ..) rfl (fun K m=>?_) (.inl rfl);go_simp;refine(oY (some ⟨g,4,none⟩) (some ⟨b5,0,none⟩) 16 16 (d-4) 16 fx T B.drew (o1.out _ (aa.dr (aa.refl B))) (o3.out _ (aa.dr (aa.refl B))) j6.out O.out.2 (by omega) (by omega)).mono ?_;rintro e w6 ⟨rfl,G⟩;rw[b'.out];have U:Hid (aa B w6):=Ld (aa.tr (aa.dr (aa.refl B)) G);clear G;go_simp;refine m.out _ _ (fun _=>U.out) ?_;clear m K
     iterate 1 (refine ae (o:=.mk ..) rfl (fun K m=>?_);go_simp;refine m _ ?_;clear m K)
     refine ao ?_
     go_wp2_with fail
     go_ret2
     rw[HN.out];exact⟨rfl,q1.out.tr U.out⟩
end Go.Proofs.YtfchcdbfalgdlaaGreatDoor
