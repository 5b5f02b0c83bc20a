/- Texts of one proof. No condition but each one's own. -/
import Derived.Test.YtfchcdbfalgdlaaGreatDoorSweepPlaysM10
import Derived.Test.YtfchcdbfalgdlaaGreatDoorSweepPlaysM11
set_option maxHeartbeats 4000000
set_option maxRecDepth 100000
set_option linter.unusedVariables false
set_option linter.unusedSimpArgs false
namespace Go.Proofs.YtfchcdbfalgdlaaGreatDoor
open _root_.Go.Proofs.Tryz
open Go.RowKit Go.Sort
theorem GE{s:List Int}:s.take 9=s.take 4++(s.drop 4).take 4++(s.drop 8).take 1:=by
 have h1:s.take 9=s.take 8++(s.drop 8).take 1:=by rw[show 9=8+1 from rfl,List.take_add]
 have h2:s.take 8=s.take 4++(s.drop 4).take 4:=by rw[show 8=4+4 from rfl,List.take_add]
 rw[h1,h2]
theorem ub{xs:List Int}(b:ba xs)(hl:xs.length=4)(n:Nat)(c:n<4294967296):aU xs=n↔xs=bj 4 n:=by
 constructor
 ·intro h;rw[<-h,<-hl];exact(uo xs b).symm
 ·rintro rfl;exact iA 4 n (by omega)
theorem CR{xs:List Int}(b:ba xs)(hl:xs.length=1)(n:Nat):aU xs=n↔xs=[(n:Int)]:=by
 match xs,hl with
 | [x],_=>
  have:=b x (by simp);have e:aU [x]=x.toNat:=by simp[aU]
  rw[e];constructor
  ·intro h;rw[<-h]
   congr 1
   omega
  ·intro h;injection h with h;omega
theorem uO{s:List Int}(b:aS s){l:LG}{i:Nat}(n:l.gen<4294967296)(hi:l.used+i<4294967296):vS s l.gen (l.used+i) (if i=0 then 1 else 2)↔s.take 9=l.hdr i:=by
 have j:ba (s.take 4):=λx d=>b.2 x (List.mem_of_mem_take d)
 have b2:ba ((s.drop 4).take 4):=λx d=>b.2 x (List.mem_of_mem_drop (List.mem_of_mem_take d))
 have k:ba ((s.drop 8).take 1):=λx d=>b.2 x (List.mem_of_mem_drop (List.mem_of_mem_take d))
 have f:(s.take 4).length=4:=by rw[List.length_take,b.1];rfl
 have g:((s.drop 4).take 4).length=4:=by rw[List.length_take,List.length_drop,b.1];rfl
 have o:((s.drop 8).take 1).length=1:=by rw[List.length_take,List.length_drop,b.1];rfl
 have m:(((if i=0 then 1 else 2:Nat)):Int)=(if i=0 then 1 else 2:Int):=by split<;>rfl
 rw[GE];unfold LG.hdr;constructor
 ·rintro⟨h1,h2,p⟩;rw[(ub j f _ n).1 h1,(ub b2 g _ hi).1 h2,(CR k o _).1 p,m]
 ·intro h;have c:=List.append_inj h (by simp[f,g,aw]);have h1:=List.append_inj c.1 (by simp[f,aw]);exact⟨(ub j f _ n).2 h1.1,(ub b2 g _ hi).2 h1.2,(CR k o _).2 (by rw[m];exact c.2)⟩
def RB(B:Nat)(w:World)(k:Nat):Prop:=B<=k/\aK 5 w k
def ui(l:LG)(r:Option (List Int))(w:World)(d gd n:Nat)(e:Ending)(w':World):Prop:=
 match r with
 |none=>e=.returned (.tuple #[.slice none 0 0,.bool false])/\aa w w'
 |some b=>∃A c,e=.returned (.tuple #[.slice A b.length c,.bool true])/\b.length<=c/\c<=maxLen/\ba b/\Rd (RB w.heap.size w') w' 1 A b.length (an b)/\Lg w' d gd (l.step b) n/\Fr (λk=>k=d) w w'
theorem oN:(prog.info? 175).map (λi=>(i.zero,i.size))=some (some (.agg (ag (List.replicate 16 0))),16):=by kernel_rfl
structure GQ(w w':World)(p:DP)(l:LG)(k:Nat)(v:Value):Prop where
 new:aa w w'
 own:w'.ownsRow w.heap.size 5 1 v (55*k) (an (aT p l k))
 hdr:∀i,i<k->(sct p l i).take 9=l.hdr i
 fit:l.used+k<=l.size
set_option maxHeartbeats 8000000 in
theorem uI{w:World}{D gd base bs bf:Nat}{v:Value}{p:DP}{l:LG}(h:Lg w D gd l p.size)(hD:Dk w base gd bs bf v p)(hL:dC 4 2 w):
    Calls prog 96 #[.pointer (some ⟨D,0,none⟩)] w (ui l (nextL p l) w D gd p.size):=by
 have c7:=Ld h;have HD:=Ld hD;have HL:=Ld hL;have m8:=hD.ok.s2;have m2:=h.ok.fit;have H:=h.ok.gen;have j1:=h.ok.used;have j8:=Ld hD.ok;have i':Hid (∀i,aS (sct p l i)):=Ld λi=>lX hD.ok l i
 obtain⟨us,c5⟩:=nM (l.used);have c':=Ld c5;have c4:=h.c4;rw[<-c5]at c4;have s7:us<=16384:=by omega
 have k9:Hid (l.size<=us->∀W,aa w W->Calls prog 142 #[.pointer (some ⟨D,0,none⟩),.int .i64 us,.int .i64 1] W λe w'=>dp none W.heap.size e w'/\W=w'):=
  Ld λm4 W M=>uN (h.new M) us 1 m4 m8
 have g8:Hid (us<l.size->∀W,aa w W->Calls prog 142 #[.pointer (some ⟨D,0,none⟩),.int .i64 us,.int .i64 1] W λe w'=>((sct p l 0).take 9=l.hdr 0->dp (some ((sct p l 0).drop 9)) W.heap.size e w')/\(¬(sct p l 0).take 9=l.hdr 0->dp none W.heap.size e w')/\aa W w'):=
  Ld λi6 W M=>by
   have hq:=yE (h.new M) (hD.new M) us 1 i6 (by omega) (sct p l 0) (by unfold sct;rw[Nat.add_zero,c5]);refine hq.mono λe w' ⟨a,b,c⟩=>?_
   have hh:=uO (s:=sct p l 0) (lX hD.ok l 0) (l:=l) (i:=0) H (by omega);rw[Nat.add_zero,<-c5,if_pos rfl]at hh;exact⟨λx=>a (hh.2 x),λx=>b (λy=>x (hh.1 y)),c⟩
 have l':Hid (∀j,l.size<=j->∀W,aa w W->Calls prog 142 #[.pointer (some ⟨D,0,none⟩),.int .i64 (j:Int),.int .i64 2] W λe w'=>dp none W.heap.size e w'/\W=w'):=
  Ld λj m4 W M=>uN (h.new M) j 2 m4 m8
 have g9:Hid (∀j k,j=us+k->1<=k->j<l.size->∀W,aa w W->Calls prog 142 #[.pointer (some ⟨D,0,none⟩),.int .i64 (j:Int),.int .i64 2] W λe w'=>((sct p l k).take 9=l.hdr k->dp (some ((sct p l k).drop 9)) W.heap.size e w')/\(¬(sct p l k).take 9=l.hdr k->dp none W.heap.size e w')/\aa W w'):=
  Ld λj k hj k1 i6 W M=>by
   have hq:=yE (h.new M) (hD.new M) j 2 i6 (by omega) (sct p l k) (by unfold sct;rw[hj,c5,Nat.add_assoc]);refine hq.mono λe w' ⟨a,b,c⟩=>?_
   have hh:=uO (s:=sct p l k) (lX hD.ok l k) (l:=l) (i:=k) H (by omega);rw[<-c5,<-hj,if_neg (by omega)]at hh;exact⟨λx=>a (hh.2 x),λx=>b (λy=>x (hh.1 y)),c⟩
 obtain⟨NX,l9⟩:=nM (nextL p l);rw[<-l9];have b8:=Ld l9;have s6:l.size<=16384:=by omega
 clear h hD hL l9 c5 H j1 m2 m8
 go_enter func96,ntmps96
 by_cases h0:us<l.size
 rotate_left
 ·have HN:Hid (NX=none):=Ld (by rw[b8.out];exact cM (λP=>by have:=P.room;have:=c'.out;omega))
  go_wp2_with fail;refine(k9.out (by omega) w (aa.refl w)).mono ?_;rintro e w' ⟨u,rfl⟩;unfold dp at u;dsimp only at u;subst u
  go_wp2_with fail;go_ret2;rw[HN.out];exact⟨rfl,aa.refl w⟩
 by_cases i4:(sct p l 0).take 9=l.hdr 0
 rotate_left
 ·have HN:Hid (NX=none):=Ld (by rw[b8.out];exact cM (λP=>i4 (P.hdr 0 (Nat.pos_of_ne_zero P.pos))));have HH:=Ld i4;clear i4
  go_wp2_with fail;refine(g8.out h0 w (aa.refl w)).mono ?_;rintro e w' ⟨-,u,E⟩;have u:=u HH.out;have J:=Ld E;unfold dp at u;dsimp only at u;subst u;clear E
  go_wp2_with fail;go_ret2;rw[HN.out];exact⟨rfl,J.out⟩
 have n7:=Ld i4;clear i4;obtain⟨I,k2⟩:=nM (l.many p);have C:=Ld k2;obtain⟨N,M⟩:=nM (aA I);have t:=Ld M;have r':N<=1193:=by rw[M];exact iO I
 have m7:I<4294967296:=by
  have q7:=(i'.out 0).1;have:=fm (xs:=((sct p l 0).drop 9).take 4) (λx P=>(i'.out 0).2 x (List.mem_of_mem_drop (List.mem_of_mem_take P)));rw[List.length_take,List.length_drop,q7]at this;rw[k2];exact this
 have k4:Hid (aT p l 1=(sct p l 0).drop 9):=Ld (by simp[aT]);have g4:Hid (((sct p l 0).drop 9).length=55):=Ld (by rw[List.length_drop,(i'.out 0).1]);have j6:Hid (ba ((sct p l 0).drop 9)):=Ld (λx P=>(i'.out 0).2 x (List.mem_of_mem_drop P));have l4:Hid (aU ((((sct p l 0).drop 9).take 4).take 4)=I):=Ld (by rw[List.take_take,k2];rfl);clear k2 M;have em:IntKind.i64.wrap (I:Int)=(I:Int):=IntWalk.i64_in _ (by omega);have m6:(I:Int)<4294967296:=by omega
 go_wp2_with fail;refine(g8.out h0 w (aa.refl w)).mono ?_;rintro e w1 ⟨u,-,E⟩;have u:=u n7.out;have J:=Ld E;unfold dp at u;dsimp only at u;obtain⟨A,c,rfl,hO⟩:=u;rw[g4.out]at hO⊢;obtain⟨g,cap,hv,o8,p1⟩:=dv hO (by omega);injection hv with r6 r7 m9;subst r6 m9;have HO:=Ld hO;clear hO E r7;have r8:¬c=4:=by omega
 go_wp2_with fail;refine(jg (some ⟨g,0,none⟩) 4 c (((sct p l 0).drop 9).take 4) w1 ((Rd.own HO.out rfl).take (by omega)) (λx P=>j6.out x (List.mem_of_mem_take P)) (by omega)).mono ?_;rintro e w2 ⟨r,rfl,p',o7,hr⟩;have o3:=Ld p';have n9:=Ld o7;have HR:=Ld hr;clear p' o7 hr
 go_wp2_with fail;have x1:=pL (xs:=((sct p l 0).drop 9).take 4) (k:=4) (by rw[List.length_take,g4.out];decide);rw[l4.out]at x1;refine(dw o3.out 4 (by omega)).mono ?_;rintro e w3 ⟨rfl,-,i1⟩;rw[x1];dsimp only;have c8:Hid (aa w1 w3):=Ld (n9.out.fr i1 (λk Y=>by have:=HR.out;omega));clear x1 i1
 go_wp2_with fail;refine(iP (I:Int) w3).mono ?_;rintro e w' ⟨rfl,rfl⟩;rw[jM,<-t.out]
 by_cases i2:N=0
 ·have HN:Hid (NX=none):=Ld (by rw[b8.out];exact cM (λP=>P.pos (by rw[<-C.out,<-t.out,i2])));subst i2
  go_wp2_with fail;go_ret2;rw[HN.out];exact⟨rfl,J.out.tr c8.out⟩
 have q9:((N:Int)==0)=false:=by simp;omega
 have n8:Hid (GQ w w3 p l 1 (.slice (some ⟨g,0,none⟩) 55 c)):=Ld ⟨J.out.tr c8.out,by rw [k4.out];exact c8.out.own HO.out,λi hi=>by
  obtain rfl:i=0:=by omega
  exact n7.out,by have:=c'.out;omega⟩
 clear o3 HO J n9 c8 HR m7 m6 em
 go_wp2_with fail;go_loopw [4,8] (λf i wr=>∃(k g d fl:Nat),1<=k/\k<=N/\Hid (fl=55*k)/\fl<=d/\d<=maxLen/\i=.int .i64 k/\f=.slice (some ⟨g,0,none⟩) fl d/\Hid (GQ w wr p l k (.slice (some ⟨g,0,none⟩) fl d))) (λ_ i _=>N-(intOf i).toNat)
 case atStart=>exact⟨1,g,c,55,by omega,by omega,Ld rfl,o8,p1,rfl,rfl,n8⟩
 case round=>
  clear n8 o8 p1;obtain⟨k,g,d,fl,k1,Y,z,p4,r9,rfl,rfl,F⟩:=hrel;have s':fl<=66000:=by have:=z.out;omega
  by_cases i6:k<N
  ·obtain ⟨j,hj⟩:=nM (us+k);have e1:(us:Int)+(k:Int)=(j:Int):=by omega
   have e2:IntKind.i64.wrap (j:Int)=(j:Int):=IntWalk.i64_in _ (by omega);have s5:(k:Int)<(N:Int):=by omega
   have l5:wr.cell? ⟨D,4,none⟩=some (.int .i64 us):=F.out.new.cell_ c4;have HJ:=Ld hj;clear hj
   by_cases r2:l.size<=j
   ·have HN:Hid (NX=none):=Ld (by rw[b8.out];exact cM (λP=>by have:=P.fit;rw[<-C.out,<-t.out]at this;have:=c'.out;have:=HJ.out;omega))
    go_wp2_with fail;refine(l'.out j r2 wr F.out.new).mono ?_;rintro e w' ⟨u,rfl⟩;unfold dp at u;dsimp only at u;subst u
    go_wp2_with fail;go_ret2;rw[HN.out];exact⟨rfl,F.out.new⟩
   ·by_cases i5:(sct p l k).take 9=l.hdr k
    ·have j7:=Ld i5;have k5:Hid (((sct p l k).drop 9).length=55):=Ld (by rw[List.length_drop,(i'.out k).1]);clear i5
     go_wp2_with fail;refine(g9.out j k HJ.out k1 (by omega) wr F.out.new).mono ?_;rintro e w1 ⟨u,-,E⟩;have u:=u j7.out;have J:Hid (aa w w1):=Ld (F.out.new.tr E)
     have o1:Hid (w1.ownsRow w.heap.size 5 1 (.slice (some ⟨g,0,none⟩) fl d) fl (an (aT p l k))):=Ld (by
      have:=E.own F.out.own
      rwa[<-z.out]at this)
     unfold dp at u;dsimp only at u;obtain⟨A2,c2,rfl,m0⟩:=u;rw[k5.out]at m0⊢;have q4:=Ld m0;clear m0 E
     go_wp2_with (refine cE 53 rfl ?_;refine av kB _ rfl (.tmp 51) (.tmp 52) rfl w.heap.size (.slice (some ⟨g,0,none⟩) fl d) fl (an (aT p l k)) rfl o1.out A2 55 c2 (an ((sct p l k).drop 9)) rfl (Rd.own q4.out rfl) (aR _) (by unfold maxLen;omega) (by omega) J.out.size ?_;intro A3 d3 w3 o9 i1 q8;have o0:=Ld o9;have q':=Ld i1;clear o9 i1 q8)
     obtain⟨g3,q6,m9,m',m1⟩:=dv o0.out (by omega);injection m9 with n' n0 n1;subst n' n1;have c8:Hid (aa w w3):=Ld (J.out.fr q'.out (λk Y=>(am o1.out k Y).1));have g7:Hid (fl+55=55*(k+1)):=Ld (by have:=z.out;omega)
     have q1:Hid (GQ w w3 p l (k+1) (.slice (some ⟨g3,0,none⟩) (fl+55) d3)):=Ld ⟨c8.out,by
      rw[<-g7.out,iK];have:=o0.out;unfold an at this⊢;rw[List.map_append]
      exact this,λi hi=>by
       rcases Nat.lt_or_ge i k with h|h
       ·exact F.out.hdr i h
       ·obtain rfl:i=k:=by omega
        exact j7.out,by have:=HJ.out;have:=c'.out;omega⟩
     clear n0;go_roundw
     case rel=>exact⟨k+1,g3,d3,fl+55,by omega,by omega,g7,m',m1,by go_num,rfl,q1⟩
     case measure=>simp[intOf];omega
    ·have HN:Hid (NX=none):=Ld (by rw[b8.out];exact cM (λP=>i5 (P.hdr k (by rw[<-C.out,<-t.out];exact i6))));have j7:=Ld i5;clear i5
     go_wp2_with fail;refine(g9.out j k HJ.out k1 (by omega) wr F.out.new).mono ?_;rintro e w1 ⟨-,u,E⟩;have u:=u j7.out;have J:Hid (aa w w1):=Ld (F.out.new.tr E);unfold dp at u;dsimp only at u;subst u;clear E
     go_wp2_with fail;go_ret2;rw[HN.out];exact⟨rfl,J.out⟩
  ·have p5:k=N:=by omega
   rw[p5]at F z;have r3:¬(k:Int)<(N:Int):=by omega
   clear p5 Y k1;have c3:=eo (n:=I) (by rw[<-t.out];exact i2);have m3:20+I<=fl:=by have:=z.out;have:=t.out;omega
   have r4:1<=I:=c3.1;have r5:I<=65536:=c3.2.1;obtain⟨Z,m5⟩:=nM (20+I);have e1:(20:Int)+(I:Int)=(Z:Int):=by omega
   have e2:IntKind.i64.wrap (Z:Int)=(Z:Int):=IntWalk.i64_in _ (by omega);have e3:Z-20=I:=by omega
   have e4:¬d=20:=by omega
   have e5:Z<=d:=by omega
   have e6:20<=Z:=by omega
   have e7:(Z:Int)<=(d:Int):=by omega
   have e8:(20:Int)<=(Z:Int):=by omega
   obtain⟨bd,i3⟩:=nM (l.body p);have p9:Hid (bd=((aT p l N).drop 20).take I):=Ld (by rw[i3,LG.body,<-C.out,<-t.out]);have j5:Hid (bd.length=I):=Ld (by rw[i3,LG.body_len j8.out (by rw[<-C.out,<-t.out];exact i2),C.out]);have k3:Hid (ba bd):=Ld (by rw[i3];exact LG.body_byt j8.out l);have j4:=Ld i3
   have l1:Hid (Rd (RB w.heap.size wr) wr 1 (some ⟨g,20,none⟩) I (an bd)):=Ld (by
    have h:=((Rd.own F.out.own (by rw[z.out])).imp (q:=RB w.heap.size wr) (λk Y=>⟨(am F.out.own k Y).1,cY F.out.own Y⟩)).drop (k:=20) (cap:=d) (by rw[<-z.out];omega) (by rw[<-z.out];exact p4);rw[if_neg e4]at h
    have h2:Rd (RB w.heap.size wr) wr 1 (some ⟨g,20,none⟩) (55*N-20) (an ((aT p l N).drop 20)):=by
     have e:an ((aT p l N).drop 20)=(an (aT p l N)).drop (20*1):=by unfold an;rw[List.map_drop]
     rw[e];exact h
    have h3:=h2.take (k:=I) (by rw[<-z.out];omega);rw[<-p9.out]at h3
    exact h3)
   clear m5 i3 c3;have l5:wr.cell? ⟨D,4,none⟩=some (.int .i64 us):=F.out.new.cell_ c4;have b3:Hid (Lg wr D gd l p.size):=Ld (c7.out.new F.out.new);have H:=b3.out.c3;obtain⟨gn,k0⟩:=nM (l.gen);rw[<-k0]at H;have q3:∀p:HW (aa wr),p.w.cell? ⟨D,3,none⟩=some (.int .u32 gn):=λp=>p.h.cell_ H
   obtain⟨tg,j'⟩:=nM (l.tag);have q5:Hid (∀W,aa wr W->W.rangeAt D 5 (an tg)):=Ld λW M=>by rw[j'];exact(b3.out.new M).tagAt
   have b9:Hid (tg.length=16/\ba tg/\gn<4294967296):=Ld ⟨by rw[j'];exact c7.out.ok.len,by rw[j'];exact c7.out.ok.byt,by rw[k0];exact c7.out.ok.gen⟩;obtain⟨T,j9⟩:=nM (fT tg gn bd);have l3:Hid (T=fT l.tag l.gen bd):=Ld (by rw[j9,j',k0]);have O:Hid (T.length=16/\ba T):=Ld (by rw[j9];exact⟨fh _ _ _,iw _ _ _⟩);have i0:=Ld j9;have i9:(ag T).size=16:=by rw[aq,O.out.1]
   have c9:=Ld i9;clear H k0 j' j9 i9
   go_wp2_with fail;apply lr (α:=Nat) (λb B=>aa wr B/\ac B b 175 (ag T))
   case h1=>
    intro K' o6;refine bu (aa wr) (.take 0 (.take 1 (.take 2 (.take 3 (.take 4 (.take 5 (.take 6 (.take 7 (.take 8 (.two 9 (.act 10 (.act 11 .done)) 10 (.act 9 (.act 11 .done)))))))))))) (by kernel_rfl) (by kernel_rfl) (aa.dr (aa.refl wr)) (λi7=>?_)
    iterate 3 (refine ay (o:=.mk ..) rfl (λK m=>?_);go_simp;refine m _ ?_;clear m K)
    refine ew (o:=.mk ..) rfl rfl (.tmp 60) rfl rfl (λW M=>q5.out W M) underlying175 rfl (by rw[ak,b9.out.1];rfl) ?_;simp only[Act.put,bC,bD,bF]
    iterate 5 (refine ay (o:=.mk ..) rfl (λK m=>?_);go_simp;refine m _ ?_;clear m K)
    refine⟨?_,?_⟩
    ·refine dJ (o:=.mk ..) rfl (λK m=>?_) (.inl rfl);go_simp;refine(jN tg gn (some ⟨g,20,none⟩) I (d-20) bd wr.drew (((HL.out.new F.out.new)).new (aa.dr (aa.refl wr))) ((aa.dr (aa.refl wr)).rd l1.out) k3.out b9.out.1 b9.out.2.1 b9.out.2.2 (by omega)).mono ?_;rintro e w4 ⟨rfl,d'⟩;rw[<-i0.out];have b7:Hid (aa wr w4):=Ld (aa.tr (aa.dr (aa.refl wr)) d');clear d';go_simp;refine m.out _ _ b7.out ?_;clear m K;refine dW (o:=.mk ..) rfl rfl rfl oN ?_;intro b5 B c1 c0 V;have k6:Hid (wr.heap.size<=b5):=Ld (by have:=b7.out.size;omega);refine⟨b7.out.tr V,?_⟩;clear c1;simp only[Act.put,bC,bD,bF];refine cL (o:=.mk ..) (cs:=ag T) rfl rfl (.tmp 12) (.tmp 67) rfl (by rw[c9.out];rfl) rfl rfl c0 (by rw[c9.out];rfl) (bH _) ?_;intro w6 l7 l8;have G:aa wr w6:=(b7.out.tr V).fr l8 (λk Y=>by have:=k6.out;omega);refine⟨G,?_⟩;simp only[Act.put,bC,bD,bF];refine aO ?_;exact o6.out b5 w6 ⟨G,l7⟩
    ·refine ep (o:=.mk ..) rfl rfl rfl oN ?_;intro b5 B c1 c0 V;have L:Hid (aa wr B):=Ld ((aa.dr (aa.refl wr)).tr V);have j3:=Ld c0;have k6:Hid (wr.heap.size<=b5):=Ld (by rw[c1];exact Nat.le_refl _);refine⟨L.out,?_⟩;clear c1 c0 V;simp only[Act.put,bC,bD,bF];refine aC (o:=.mk ..) rfl (λK m=>?_) (.inl rfl);go_simp;refine(jN tg gn (some ⟨g,20,none⟩) I (d-20) bd B (((HL.out.new F.out.new)).new L.out) (L.out.rd l1.out) k3.out b9.out.1 b9.out.2.1 b9.out.2.2 (by omega)).mono ?_;rintro e w4 ⟨rfl,d'⟩;rw[<-i0.out];have p6:=Ld (d'.blk j3.out);have b7:Hid (aa wr w4):=Ld (L.out.tr d');clear d';go_simp;refine m.out _ _ b7.out ?_;clear m K;refine cL (o:=.mk ..) (cs:=ag T) rfl rfl (.tmp 12) (.tmp 67) rfl (by rw[c9.out];rfl) rfl rfl p6.out (by rw[c9.out];rfl) (bH _) ?_;intro w6 l7 l8;have G:aa wr w6:=b7.out.fr l8 (λk Y=>by have:=k6.out;omega);refine⟨G,?_⟩;simp only[Act.put,bC,bD,bF];refine aO ?_;exact o6.out b5 w6 ⟨G,l7⟩
   case h2=>
    rintro b5 B ⟨V,c0⟩;have L:=Ld V;have j3:=Ld c0;clear V c0 q3;have k7:Hid (Lg B D gd l p.size):=Ld (b3.out.new L.out);have q2:Hid (aa w B):=Ld (F.out.new.tr L.out);obtain⟨fx,k'⟩:=nM (((aT p l N).drop 4).take 16);have n6:=Ld k';have r1:¬d=4:=by omega
    have r0:20<=d:=by omega
    have p2:(20:Int)<=(d:Int):=by omega
    have o2:Hid (∀W,aa B W->Rd (λk=>w.heap.size<=k) W 1 (some ⟨g,4,none⟩) 16 (an fx)):=Ld (λW M=>by
     have h:=((Rd.own F.out.own (by rw[z.out])).imp (q:=λk=>w.heap.size<=k) (λk Y=>(am F.out.own k Y).1)).drop (k:=4) (cap:=d) (by rw[<-z.out];omega) (by rw[<-z.out];exact p4);rw[if_neg r1]at h
     have h2:Rd (λk=>w.heap.size<=k) wr 1 (some ⟨g,4,none⟩) (55*N-4) (an ((aT p l N).drop 4)):=by
      have e:an ((aT p l N).drop 4)=(an (aT p l N)).drop (4*1):=by unfold an;rw[List.map_drop]
      rw[e];exact h
     have h3:=h2.take (k:=16) (by rw[<-z.out];omega);rw[<-k']at h3
     exact M.rd (L.out.rd h3))
    have o4:Hid (∀W,aa B W->Rd (λ_=>True) W 1 (some ⟨b5,0,none⟩) 16 (an T)):=Ld (λW M=>by
     have h:=Rd.ofBlk (p:=λ_=>True) (M.blk j3.out) 1 16 (by rw[c9.out]) trivial
     rwa[eu]at h)
    have j6:Hid (ba fx):=Ld (by rw[k'];exact λx P=>lL j8.out l N x (List.mem_of_mem_drop (List.mem_of_mem_take P)));clear k';have c1:B.cell? ⟨D,4,none⟩=some (.int .i64 us):=L.out.cell_ l5
    by_cases f':fx=T
    ·have X:decide (fx=T)=true:=decide_eq_true f';have b':=Ld X;have k8:Hid (l.Next p):=Ld ⟨by have:=c'.out;omega,by rw[<-C.out,<-t.out];exact i2,by rw[<-C.out,<-t.out];exact F.out.fit,by rw[<-C.out,<-t.out];exact F.out.hdr,by rw[<-C.out,<-t.out,<-n6.out,f',l3.out,j4.out]⟩;have HN:Hid (NX=some bd):=Ld (by rw[b8.out,jG k8.out,j4.out]);clear f' X
     go_wp2_with fail;refine ah (aa B) [(true,0),(true,1),(true,2),(false,3),(true,4)] (by kernel_rfl) (by kernel_rfl) (aa.dr (aa.refl B)) (λi7=>?_)
     iterate 3 (refine af (o:=.mk ..) rfl (λK m=>?_);go_simp;refine m _ ?_;clear m K)
     refine aj (o:=.mk ..) rfl (λK m=>?_) (.inl rfl);go_simp;refine(ql (some ⟨g,4,none⟩) (some ⟨b5,0,none⟩) 16 16 (d-4) 16 fx T B.drew (o2.out _ (aa.dr (aa.refl B))) (o4.out _ (aa.dr (aa.refl B))) j6.out O.out.2 (by omega) (by omega)).mono ?_;rintro e w6 ⟨rfl,G⟩;rw[b'.out];have U:Hid (aa B w6):=Ld (aa.tr (aa.dr (aa.refl B)) G);clear G;go_simp;refine m.out _ _ (λ_=>U.out) ?_;clear m K
     iterate 1 (refine af (o:=.mk ..) rfl (λK m=>?_);go_simp;refine m _ ?_;clear m K)
     refine au ?_;have b0:Hid (Lg w6 D gd l p.size):=Ld (k7.out.new U.out);have n3:Hid (ac w6 b5 175 (ag T)):=Ld (U.out.blk j3.out);have c6:w6.cell? ⟨D,4,none⟩=some (.int .i64 us):=U.out.cell_ c1;have f6:w6.frozen? ⟨D,4,none⟩=false:=b0.out.blk.frozen 4;obtain⟨R,j0⟩:∃u2,u2=us+N:=⟨_,rfl⟩
     have g1:(us:Int)+(N:Int)=(R:Int):=by omega
     have g2:IntKind.i64.wrap (R:Int)=(R:Int):=IntWalk.i64_in _ (by omega);have o5:Hid (R=l.used+aA bd.length/\R<=l.size):=Ld ⟨by rw[j0,j5.out,c'.out,t.out],by have:=k8.out.fit;rw[<-C.out,<-t.out]at this;have:=c'.out;omega⟩;clear j0 c1 l5 e1 e2 e3 e4 e5 e6 e7 e8
     go_upto_region 20 with fail;obtain⟨w7,j2⟩:=nM (w6.setCell ⟨D,4,none⟩ (.int .i64 R));have b1:Hid (Lg w7 D gd {l with used:=R} p.size):=Ld (by rw[j2];exact b0.out.setUsed R o5.out.2);have g5:Hid (Fr (λk=>k=D) wr w7):=Ld (by rw[j2];exact Fr.setCell (S:=λk=>k=D) (p:=⟨D,4,none⟩) ((L.out.tr U.out).toFr _) (λ_=>rfl) _);have q0:Hid (Fr (λk=>k=D) w w7):=Ld ((F.out.new.toFr _).trans g5.out)
     have p7:Hid (ac w7 b5 175 (ag T)):=Ld (by
      rw[j2];refine n3.out.far (λe=>?_) _
      exact ac.ne_ n3.out b0.out.blk (by decide) e)
     rw[<-j2];clear j2 c6 f6 g1 g2;refine wp_region_list ?_;refine wpList_step λK m=>?_
     go_simp;refine m _ _ ?_;clear m K;refine ae rfl _ rfl underlying175 rfl (by rw[c9.out];rfl) rfl p7.out ?_
     iterate 2 (refine wpList_step λK m=>?_;go_simp;refine m _ _ ?_;clear m K)
     refine fW rfl (.tmp 84) (.tmp 82) rfl rfl rfl b1.out.blk (cells:=an T) (by rw[ak,O.out.1,yr b1.out.ok.len];decide) (by rw[ak,O.out.1];rfl) (aR _) ?_;intro w8 p0 p3;have p8:=Ld p0;have n5:=Ld p3;clear p0 p3;simp only[Act.put,bC,bD,bF]
     go_wp2_with fail;go_ret2;rw[HN.out];have g6:Fr (λk=>k=D) wr w8:=g5.out.trans n5.out
     have l2:Rd (RB w.heap.size w8) w8 1 (some ⟨g,20,none⟩) I (an bd):=by
      have i7:∀k,RB w.heap.size wr k->¬k=D:=λk Y hs=>by
       have:=c7.out.blk.lt;have:=Y.1;omega
      exact(l1.out.fr g6 i7).imp (λk Y=>⟨Y.1,Y.2.fr g6 (i7 k Y)⟩)
     refine⟨some ⟨g,20,none⟩,d-20,by rw[j5.out];rfl,by rw[j5.out];omega,by omega,k3.out,by rw[j5.out];exact l2,⟨?_,k8.out.ok j8.out c7.out.ok|>λh=>by rw[j4.out];exact h⟩,q0.out.trans n5.out⟩;have:=p8.out;rw[yt b1.out.ok.len gd T O.out.1]at this
     have e:l.step bd={({l with used:=R}:LG)with tag:=T}:=by
      unfold LG.step;rw[<-o5.out.1,<-l3.out]
     rw[e];exact this
    ·have X:decide (fx=T)=false:=decide_eq_false f';have b':=Ld X;have HN:Hid (NX=none):=Ld (by rw[b8.out];exact cM (λP=>f' (by have:=P.tag;rw[<-C.out,<-t.out,<-n6.out,<-j4.out]at this;rw[this,l3.out])));clear f' X
     go_wp2_with fail;refine ah (aa B) [(true,0),(true,1),(true,2),(false,3),(true,4)] (by kernel_rfl) (by kernel_rfl) (aa.dr (aa.refl B)) (λi7=>?_)
     iterate 3 (refine af (o:=.mk ..) rfl (λK m=>?_);go_simp;refine m _ ?_;clear m K)
     refine aj (o:=.mk ..) rfl (λK m=>?_) (.inl rfl);go_simp;refine(ql (some ⟨g,4,none⟩) (some ⟨b5,0,none⟩) 16 16 (d-4) 16 fx T B.drew (o2.out _ (aa.dr (aa.refl B))) (o4.out _ (aa.dr (aa.refl B))) j6.out O.out.2 (by omega) (by omega)).mono ?_;rintro e w6 ⟨rfl,G⟩;rw[b'.out];have U:Hid (aa B w6):=Ld (aa.tr (aa.dr (aa.refl B)) G);clear G;go_simp;refine m.out _ _ (λ_=>U.out) ?_;clear m K
     iterate 1 (refine af (o:=.mk ..) rfl (λK m=>?_);go_simp;refine m _ ?_;clear m K)
     refine au ?_
     go_wp2_with fail;go_ret2;rw[HN.out];exact⟨rfl,q2.out.tr U.out⟩
end Go.Proofs.YtfchcdbfalgdlaaGreatDoor
