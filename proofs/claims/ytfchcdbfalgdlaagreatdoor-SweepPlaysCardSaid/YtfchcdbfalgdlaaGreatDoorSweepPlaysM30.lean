/- Texts of one proof. No condition but each one's own. -/
import Derived.Test.YtfchcdbfalgdlaaGreatDoorSweepPlaysM29
import Derived.Test.YtfchcdbfalgdlaaGreatDoorSweepPlaysM26
set_option maxHeartbeats 4000000
set_option maxRecDepth 100000
set_option linter.unusedVariables false
set_option linter.unusedSimpArgs false
namespace Go.Proofs.YtfchcdbfalgdlaaGreatDoor
open _root_.Go.Proofs.Tryz
open Go.RowKit Go.Sort Go.Maps
attribute [local go_sem] Oper.semAt_some
theorem Dk.puts{B:Nat}{w w':World}{base g bs bf:Nat}{v:Value}{p:DP}(h:Dk w base g bs bf v p)(c:eN B w w')(h1:bs<B)(h2:bf<B):Dk w' base g bs bf v p:=
 have hF:Fr (λj=>B<=j) w w':=c.fr (λ_ h=>h)
 ⟨c.blk h.blk,h.ms.fr hF (by omega),h.mw.fr hF (by omega),c.own h.own,h.ne,h.lo,h.ok⟩
theorem bW.is_cells{w:World}{base g bs bf B:Nat}{v:Value}{p:DP}(h:Dk w base g bs bf v p)(i:g<B)(h1:bs<B)(h2:bf<B):∀k o,B<=k->bW g bs bf v k->w.heap[k]?=some o->o.isCells=true:=by
 rintro k o j (rfl|rfl|rfl|f) c
 ·omega
 ·omega
 ·omega
 ·obtain⟨cs,fz,d⟩:=cY h.own f;rw[d]at c;injection c with c;rw[<-c];rfl
theorem sD.fr{B:Nat}{W f:World}(h:sD B W f):Fr (λk=>B<=k/\∀o,W.heap[k]?=some o->o.isCells=false) W f:=
 ⟨h.below.os,h.below.tape,h.below.output,h.below.size,λk j n=>by
  by_cases i:k<B
  ·exact h.below.block k i
  ·obtain⟨o,d⟩:∃o,W.heap[k]?=some o:=⟨_,Array.getElem?_eq_getElem j⟩
   cases hc:o.isCells with
   |true=>rw[h.cells k o d hc,d]
   |false=>exact absurd ⟨by omega,λo' c=>by rw[d]at c;injection c with e;rw[<-e];exact hc⟩ n⟩
theorem dg.shut{B:Nat}{w W i:World}{base g bs bf:Nat}{v j:Value}{p:DP}(h:dg w base g bs bf v p W j)(hS:sD B W i)(q:w.heap.size<=B)(n:g<B)(h1:bs<B)(h2:bf<B):dg w base g bs bf v p i j:=
 ⟨h.dk.fr hS.fr (λk f d=>by
  obtain⟨o,c⟩:∃o,W.heap[k]?=some o:=⟨_,Array.getElem?_eq_getElem (h.dk.ours k d).2⟩
  have:=bW.is_cells h.dk n h1 h2 k o f.1 d c;rw[f.2 o c]at this
  cases this),h.fr.trans' hS.fr (λk f d=>by have:=d.1;omega),h.own⟩
theorem jT{p:DP}{l:LG}{b:List Int}{k:Nat}(h:(writeN p l b k).2≠0):∀j,writeN p l b (k+j)=writeN p l b k
 | 0=>rfl
 |j+1=>by
  have c:=jT h j;rw[<-Nat.add_assoc];show(if(writeN p l b (k+j)).2≠0 then writeN p l b (k+j)else _)=_;rw[c,if_pos h]
theorem jw{p:DP}{l:LG}{b:List Int}{k:Nat}(h:(writeN p l b k).2=0):writeN p l b (k+1)=((writeN p l b k).1.doWrite ((l.first+l.used+k:Nat):Int) (l.sec b k),(writeN p l b k).1.wcode ((l.first+l.used+k:Nat):Int)):=by
 show(if(writeN p l b k).2≠0 then writeN p l b k else _)=_;rw[if_neg (by rw[h];simp)]
theorem dg.st{w W d:World}{base g bs bf:Nat}{v c:Value}{p:DP}(h:dg w base g bs bf v p W c){b:Nat}(hF:Fr (λk=>k=b) W d)(j:w.heap.size<=b)(i:¬bW g bs bf c b):dg w base g bs bf v p d c:=
 ⟨h.dk.fr hF (λk f=>by rw[f];exact i),h.fr.trans' hF (λk f n=>by omega),h.own⟩
theorem AV{F:Fence}{n:Nat}{P:Program}{c:Array Oper}{rest:List Oper}{a:Act}{w:World}{Q:Exit->Act->World->Prop}(o:Oper)(h:wpListIn F n P c Q (o::rest) a w):wpListIn F n P c Q (o::rest) a w:=h
structure De(w w3:World)(base gl g bs bf:Nat)(v:Value)(p:DP)(l:LG)(b:List Int)(b2 b4 b5 b6 k:Nat)(W:World):Prop where
 ok:(writeN p l b k).2=0
 dk:∃v',dg w base g bs bf v (writeN p l b k).1 W v'/\∀x,v'.ownBlock=some x->x<w.heap.size\/w3.heap.size<=x
 sz:w3.heap.size<=W.heap.size
 b2:ac W b2 97 #[.pointer (some ⟨gl,0,none⟩)]
 b4:ac W b4 27 #[.nilIface]
 b5:ac W b5 3 #[.int .i64 ((l.used+k:Nat):Int)]
 b6:ac W b6 3 #[.int .i64 (if k=0 then 1 else 2)]
section
variable {w w3:World}{base gl g bs bf:Nat}{v:Value}{p:DP}{l:LG}{b:List Int}{b2 b4 b5 b6 k:Nat}
theorem De.new{W d:World}(h:De w w3 base gl g bs bf v p l b b2 b4 b5 b6 k W)(c:aa W d):De w w3 base gl g bs bf v p l b b2 b4 b5 b6 k d:=by
 obtain⟨f,h1,h2⟩:=h.dk;exact⟨h.ok,⟨f,h1.new c,h2⟩,Nat.le_trans h.sz c.size,c.blk h.b2,c.blk h.b4,c.blk h.b5,c.blk h.b6⟩
theorem De.puts{W d:World}(h:De w w3 base gl g bs bf v p l b b2 b4 b5 b6 k W)(c:eN w3.heap.size W d)(hz:w.heap.size<=w3.heap.size)(h1:bs<w.heap.size)(h2:bf<w.heap.size):De w w3 base gl g bs bf v p l b b2 b4 b5 b6 k d:=by
 obtain⟨n,f,i⟩:=h.dk;have hF:Fr (λj=>w3.heap.size<=j) W d:=c.fr (λ_ h=>h);exact⟨h.ok,⟨n,⟨f.dk.puts c (by omega) (by omega),f.fr.trans' hF (λk o q=>by omega),f.own⟩,i⟩,Nat.le_trans h.sz hF.size,c.blk h.b2,c.blk h.b4,c.blk h.b5,c.blk h.b6⟩
end
structure EZ(w w3:World)(base g bs bf:Nat)(v:Value)(r:DP×Int)(b4:Nat)(W:World):Prop where
 dk:∃v',dg w base g bs bf v r.1 W v'/\∀x,v'.ownBlock=some x->x<w.heap.size\/w3.heap.size<=x
 sz:w3.heap.size<=W.heap.size
 b4:ac W b4 27 #[dP r.2]
section
variable {w w3:World}{base g bs bf:Nat}{v:Value}{r:DP×Int}{b4:Nat}
theorem EZ.new{W d:World}(h:EZ w w3 base g bs bf v r b4 W)(c:aa W d):EZ w w3 base g bs bf v r b4 d:=by
 obtain⟨f,h1,h2⟩:=h.dk;exact⟨⟨f,h1.new c,h2⟩,Nat.le_trans h.sz c.size,c.blk h.b4⟩
theorem EZ.puts{W c:World}(h:EZ w w3 base g bs bf v r b4 W)(f:eN w3.heap.size W c)(hz:w.heap.size<=w3.heap.size)(h1:bs<w.heap.size)(h2:bf<w.heap.size):EZ w w3 base g bs bf v r b4 c:=by
 obtain⟨n,d,i⟩:=h.dk;have hF:Fr (λj=>w3.heap.size<=j) W c:=f.fr (λ_ h=>h);exact⟨⟨n,⟨d.dk.puts f (by omega) (by omega),d.fr.trans' hF (λk o q=>by omega),d.own⟩,i⟩,Nat.le_trans h.sz hF.size,f.blk h.b4⟩
end
theorem BT(l:LG)(b:List Int)(k:Nat):fO (bj 4 l.gen++bj 4 (l.used+k)++bj 1 (if k=0 then 1 else 2)++((l.frame b).drop (55*k)).take 55)=l.sec b k:=by
 unfold LG.sec LG.raw LG.hdr
 congr 1
 congr 1
 congr 1
 split<;>rfl
theorem Ax{w:World}{base gl gd bs bf:Nat}{v:Value}{p:DP}{l:LG}(h:Lg w gl gd l p.size)(hD:Dk w base gd bs bf v p)(b:List Int)(hb:ba b)(g o N c K:Nat)(hN:N=(l.frame b).length)(hc:N<=c)(o7:c<=maxLen)(n9:N<=1000000000)(hK:K=sK N 55)(b7:l.used+K<=l.size)
    (hg:aK 5 w g) (hR:∀j x,(an (l.frame b))[j]?=some x->w.cell? ⟨g,o+j,none⟩=some x):
    Calls prog 149 #[.pointer (some ⟨gl,0,none⟩),.slice (some ⟨g,o,none⟩) N c] w (mo w base gd bs bf v (writeN p l b K)):=by
 have g6:=Ld h;have HD:=Ld hD;have HB:=Ld hb;have p9:=Ld hN;have m8:=Ld hK;have k4:Hid (N<=c/\c<=maxLen/\N<=1000000000):=Ld ⟨hc,o7,n9⟩;have n0:=Ld b7;have HG:=Ld hg;have HR:=Ld hR;have c4:=λo1 o2=>(aa.al (aa.al (aa.refl w) o1) o2).cell_ h.c4
 have hu:=h.ok.used;clear h hD hb hN hK hc o7 n9 b7 hg hR;refine(callsIn_wide (n:=3)).1 ?_;refine callsIn_of_wp_marks func149 rfl trivial ?_ rfl;refine wpIn_wide.2 ?_;simp only[ntmps149,List.size_toArray,List.length_cons,List.length_nil,Nat.reduceAdd,Nat.reduceSub,Array.replicate_succ,Array.replicate_zero,List.push_toArray,List.append_toArray,List.nil_append,List.cons_append]
 go_upto_region 2 with fail;obtain⟨Y,V⟩:=nM (((((w.alloc (.cells #[.pointer (some ⟨gl,0,none⟩)] 97)).alloc (.cells #[.nilIface] 27)).alloc (.cells #[.int .i64 l.used] 3)).alloc (.cells #[.int .i64 1] 3)):World);obtain⟨b2,j6⟩:=nM (w.heap.size);obtain⟨b4,j7⟩:=nM (w.heap.size+1);obtain⟨b5,j8⟩:=nM (w.heap.size+1+1);obtain⟨b6,j9⟩:=nM (w.heap.size+1+1+1);have p8:Hid (aa w Y):=Ld (by rw[V];exact aa.al (aa.al (aa.al (aa.al (aa.refl _) _) _) _) _);have m1:Hid (ac Y b2 97 #[.pointer (some ⟨gl,0,none⟩)]):=Ld (by rw[V,j6];exact(((ac.new _ _ _).alloc _).alloc _).alloc _);have m2:Hid (ac Y b4 27 #[.nilIface]):=Ld (by rw[V,j7];exact((ac.new' _ _ _ (by simp)).alloc _).alloc _);have m3:Hid (ac Y b5 3 #[.int .i64 ((l.used+0:Nat):Int)]):=Ld (by rw[V,j8];exact(ac.new' _ _ _ (by simp)).alloc _);have m4:Hid (ac Y b6 3 #[.int .i64 (if(0:Nat)=0 then 1 else 2)]):=Ld (by rw[V,j9];exact ac.new' _ _ _ (by simp));have Z:Hid (b2=w.heap.size/\b4=w.heap.size+1/\b5=w.heap.size+2/\b6=w.heap.size+3/\Y.heap.size=w.heap.size+4):=Ld ⟨j6,j7,j8,j9,by rw[V];simp⟩;rw[<-V,<-j9,<-j8,<-j7,<-j6];clear V j6 j7 j8 j9 c4
 go_wp2_with fail;refine(rh (some ⟨g,o,none⟩) N c 55 (by decide) (by decide) Y).mono ?_;rintro e w3 ⟨rfl,j'⟩;have g8:Hid (aa Y w3):=Ld (by rw[j'];exact aa.al (aa.al (aa.refl _) _) _);have o9:=qF g o N c 55 Y.heap.size (Y.heap.size+1) w3 (by rw[j'];exact(ac.new _ _ _).alloc _) (by rw[j'];exact ac.new' _ _ _ (by simp)) (by decide) (by decide) k4.out.2.2 k4.out.1 k4.out.2.1;have g5:w3.heap.size=Y.heap.size+2:=by rw[j'];simp
 have p4:=Ld o9;have q:=Ld g5;have f:Hid (gd<w.heap.size/\bs<w.heap.size/\bf<w.heap.size/\gl<w.heap.size/\g<w.heap.size):=Ld ⟨HD.out.blk.lt,HD.out.ms.lt,HD.out.mw.lt,g6.out.blk.lt,by obtain⟨cs,fz,hc⟩:=HG.out;exact(Array.getElem?_eq_some_iff.1 hc).1⟩
 have q8:Hid (De w w3 base gl gd bs bf v p l b b2 b4 b5 b6 0 w3):=Ld
  ⟨rfl,⟨v,dg.same HD.out (p8.out.tr g8.out),λx hx=>.inl (HD.out.ours x (.inr (.inr (.inr hx)))).2⟩,Nat.le_refl _,g8.out.blk m1.out,g8.out.blk m2.out,g8.out.blk m3.out,g8.out.blk m4.out⟩
 have J:Hid (w.heap.size<=w3.heap.size):=Ld (by have:=Z.out;omega);clear j' o9 g5 m1 m2 m3 m4
 go_wp2_with fail
 refine Au rfl (enters_of func169 (by kernel_rfl) rfl) (λk:Nat=> #[vM g o N 55 k]) (λ_=>rfl) p4.out (λx W d hg hp=>trivial) (λh k=>h.tr k) (λW d hp=>sy.puts hp (by have:=q.out;omega) (by have:=q.out;omega))
  (λpre W=>De w w3 base gl gd bs bf v p l b b2 b4 b5 b6 pre.length W) (λs A B h hN=>h.new hN) (λs A B h hp=>h.puts hp J.out f.out.2.1 f.out.2.2.1) q8.out
  (λW=>∃k,k<K/\(writeN p l b (k+1)).2≠0/\EZ w w3 base gd bs bf v (writeN p l b (k+1)) b4 W) (λA B ⟨k,h1,h2,h3⟩ hN=>⟨k,h1,h2,h3.new hN⟩) (λA B ⟨k,h1,h2,h3⟩ hp=>⟨k,h1,h2,h3.puts hp J.out f.out.2.1 f.out.2.2.1⟩) ?a1 ?assign ?body ?done ?ret
 case assign=>
  intro l x W K hK
  gi_wp2
  exact hK
 case body=>
  rintro lp pre k W k2 T hG rfl;obtain⟨k,hk⟩:=nM (pre.length);rw[<-hk]at k2 T⊢;have p7:Hid (pre.length=k):=Ld hk.symm;have c1:Hid (k<K/\k*55<N):=Ld ⟨by rw[m8.out];exact k2,(nh (by decide)).1 k2⟩;obtain⟨v',i1,o4⟩:=T.dk;have HI:=Ld T;have q7:=Ld i1;have n':=Ld o4;obtain⟨m,hm⟩:=nM (min 55 (N-k*55));have o8:vM g o N 55 k=.slice (some ⟨g,o+k*55,none⟩) m m:=by unfold vM;rw[<-hm]
  rw[o8];obtain⟨pt,i9⟩:=nM (((l.frame b).drop (55*k)).take 55)
  have j3:Hid (pt.length=m/\m<=55/\ba pt):=Ld ⟨by rw [i9,List.length_take,List.length_drop,<-p9.out,hm,Nat.mul_comm],by omega,by
   rw[i9];intro x hx
   exact l.frame_byt HB.out x (List.mem_of_mem_drop (List.mem_of_mem_take hx))⟩
  have q3:Hid (Rd (λ_=>True) W 1 (some ⟨g,o+k*55,none⟩) m (an pt)):=Ld ⟨by rw [ak,j3.out.1,Nat.mul_one],λ_=>⟨_,rfl,trivial,by have h1:=i1.fr.size;have h2:=f.out;show g<_;omega,λj u hu=>by
   have hj:=(List.getElem?_eq_some_iff.1 hu).1;rw[ak,j3.out.1]at hj
   have e:(⟨g,o+k*55,none⟩:Addr).add j=⟨g,o+(k*55+j),none⟩:=by
    unfold Addr.add
    by_cases r0:j=0<;>simp[r0,Nat.add_assoc]
   rw[e];refine i1.fr.cell_some (HR.out _ _ ?_) (sV HD.out (by decide) (by decide) g · HG.out);rw[<-hu,i9];unfold an
   rw[List.getElem?_map,List.getElem?_map,List.getElem?_take_of_lt (by omega),List.getElem?_drop,Nat.mul_comm]⟩⟩
  obtain⟨kd,k1⟩:=nM (if k=0 then 1 else 2:Nat);obtain⟨pl,b3⟩:=nM (l.used+k);obtain⟨SL,j5⟩:=nM (l.sec b k);have n1:Hid (aS SL):=Ld (by rw[j5];exact LG.sec_ok l HB.out k);have q6:Hid (SL=l.sec b k):=Ld j5;have q4:Hid (fO (bj 4 l.gen++bj 4 pl++bj 1 kd++pt)=SL):=Ld (by rw[j5,b3,k1,i9];exact BT l b k);have l4:ac W b5 3 #[.int .i64 (pl:Int)]:=by rw[b3];exact T.b5
  have l5:ac W b6 3 #[.int .i64 (kd:Int)]:=by
   have e:((kd:Nat):Int)=if k=0 then 1 else 2:=by rw[k1];split<;>rfl
   rw[e];exact T.b6
  have p5:=Ld l4;have k7:=Ld l5;have c2:=T.b2.cell 0;have c5:=l4.cell 0;have c6:=l5.cell 0;have f':Hid (pl=l.used+k/\kd<256/\pl<4294967296):=Ld ⟨b3,by rw[k1];split<;>decide,by have h1:=n0.out;have h2:=c1.out;have h3:=g6.out.ok.fit;have h4:=HD.out.ok.s2;omega⟩;have g7:Hid (Lg W gl gd l p.size):=Ld (g6.out.fr i1.fr (fc HD.out g6.out));clear i1 o4 T o8 hk k2 hm i9 k1 b3 j5 l4 l5 hG
  gi_wp2
  refine⟨trivial,?_⟩;refine(CallsIn.inRound lp (callsIn_wide.2 (xt g7.out pl kd f'.out.2.2 f'.out.2.1 (some ⟨g,o+k*55,none⟩) m m pt q3.out j3.out.2.2 j3.out.2.1))).mono ?_;rintro e W4 ⟨rfl,o0⟩;rw[q4.out];obtain⟨SA,l7⟩:=nM (ag SL);have g3:Hid (SA=ag SL/\SA.size=64/\SA.all (·.oneCell')=true):=Ld (by rw[l7];exact⟨rfl,by rw[aq,n1.out.1],bH _⟩);rw[<-l7];have j2:Hid (aa W W4):=Ld o0;clear l7 o0 c2 c5 c6
  gi_wp2_with (first
   |((with_reducible refine AV ⟨some 8,.alloc _,_,_,_,_⟩ ?_);refine mc rfl rfl bO ?_;intro b8 W5 o6 i0 o3;have m5:=Ld i0;have m9:=Ld o3;have n5:=Ld o6;clear o6 i0 o3)
   |((with_reducible refine AV ⟨none,.store 68 _ _,_,_,_,_⟩ ?_);refine me rfl (.tmp 8) (.tmp 24) rfl (by rw[g3.out.2.1];rfl) rfl rfl m5.out (by rw[g3.out.2.1];rfl) g3.out.2.2 ?_;intro O i0 n8;have b0:=Ld i0;have m6:=Ld n8;clear i0 n8))
  have z:Hid (aa W O):=Ld ((j2.out.tr m9.out).fr m6.out (λk hk=>by have:=n5.out;have:=j2.out.size;omega));have C:Hid (dg w base gd bs bf v (writeN p l b k).1 O v'):=Ld (q7.out.new z.out);have k6:Hid (De w w3 base gl gd bs bf v p l b b2 b4 b5 b6 k O):=Ld (HI.out.new z.out);have b1:Hid (Lg O gl gd l p.size):=Ld (g7.out.new z.out);have c0:Hid (ac O b5 3 #[.int .i64 (pl:Int)]):=Ld (z.out.blk p5.out);have S:Hid (w3.heap.size<=W.heap.size):=Ld HI.out.sz;have k9:Hid (w3.heap.size<=b8):=Ld (by have:=n5.out;have:=j2.out.size;have:=S.out;omega);obtain⟨fs,i3⟩:=nM (l.first);obtain⟨pa,m0⟩:=nM (((l.first+l.used+k:Nat):Int):Int);have p1:(fs:Int)+(pl:Int)=pa:=by rw[i3,m0,f'.out.1];omega
  have r3:IntKind.i64.wrap ((fs:Int)+(pl:Int))=pa:=by
   rw[IntWalk.i64_in _ (by have h1:=n0.out;have h2:=c1.out;have h3:=g6.out.ok.fit;have h4:=HD.out.ok.s2;have h5:=f'.out.1;omega)];exact p1
  have q2:∀p':HW (λd=>ac d b2 97 #[.pointer (some ⟨gl,0,none⟩)]/\ac d b5 3 #[.int .i64 (pl:Int)]/\ac d b8 68 SA/\Lg d gl gd l p.size),p'.w.cell? ⟨b2,0,none⟩=some (.pointer (some ⟨gl,0,none⟩)):=λp'=>p'.h.1.cell 0
  have q5:∀p':HW (λd=>ac d b2 97 #[.pointer (some ⟨gl,0,none⟩)]/\ac d b5 3 #[.int .i64 (pl:Int)]/\ac d b8 68 SA/\Lg d gl gd l p.size),p'.w.cell? ⟨b5,0,none⟩=some (.int .i64 (pl:Int)):=λp'=>p'.h.2.1.cell 0
  have q0:∀p':HW (λd=>ac d b2 97 #[.pointer (some ⟨gl,0,none⟩)]/\ac d b5 3 #[.int .i64 (pl:Int)]/\ac d b8 68 SA/\Lg d gl gd l p.size),p'.w.cell? ⟨gl,0,none⟩=some (.pointer (some ⟨gd,0,none⟩)):=λp'=>p'.h.2.2.2.c0
  have q1:∀p':HW (λd=>ac d b2 97 #[.pointer (some ⟨gl,0,none⟩)]/\ac d b5 3 #[.int .i64 (pl:Int)]/\ac d b8 68 SA/\Lg d gl gd l p.size),p'.w.cell? ⟨gl,1,none⟩=some (.int .i64 (fs:Int)):=λp'=>by rw[i3];exact p'.h.2.2.2.c1
  have q':=Ld m0;have b9:Hid (ac O b2 97 #[.pointer (some ⟨gl,0,none⟩)]):=Ld k6.out.b2;clear i3 m0 p1;refine nL lp (λd=>ac d b2 97 #[.pointer (some ⟨gl,0,none⟩)]/\ac d b5 3 #[.int .i64 (pl:Int)]/\ac d b8 68 SA/\Lg d gl gd l p.size) [(true,0),(true,1),(true,2),(true,3),(true,4),(true,5),(true,6),(true,7),(true,8),(true,9),(true,10),(false,11),(true,12)] (by kernel_rfl) (by kernel_rfl) ⟨(aa.dr (aa.refl O)).blk b9.out,(aa.dr (aa.refl O)).blk c0.out,(aa.dr (aa.refl O)).blk b0.out,b1.out.new (aa.dr (aa.refl O))⟩ (λr2=>?_)
  iterate 10 (refine af (o:=.mk ..) rfl (λK hK=>?_);go_simp;refine hK _ ?_;clear hK K)
  refine bM (o:=.mk ..) (cs:=SA.toList) rfl rfl (.tmp 8) rfl rfl (λd h=>h.2.2.1.rangeOf) underlying68 rfl (by rw[Array.length_toList,g3.out.2.1];rfl) ?_;simp only[Act.put,bC,bD,bF];refine aj (o:=.mk ..) rfl (λK hK=>?_) (.inl rfl);go_simp;rw[g3.out.1];refine(lw (C.out.new (aa.dr (aa.refl O))).dk pa n1.out).mono ?_;rintro e F ⟨rfl,v7,n7,c7,t⟩;rw[<-g3.out.1];have i2:dg O.drew base gd bs bf v' ((writeN p l b k).1.doWrite pa SL) F v7:=⟨n7,c7,t⟩
  have i4:¬bW gd bs bf v' b2:=gu C.out.dk b9.out (λe=>by have:=Z.out;have:=f.out;omega) (by decide);have i6:¬bW gd bs bf v' b8:=gu C.out.dk b0.out (λe=>by have:=k9.out;have:=f.out;have:=J.out;omega) (by decide)
  have c9:∀x,w.heap.size<=x->x<w3.heap.size->¬bW gd bs bf v' x:=λx h1 h2=>by
   rintro(P|P|P|P)
   ·have:=f.out;omega
   ·have:=f.out;omega
   ·have:=f.out;omega
   ·rcases n'.out x P with h3|h3<;>omega
  have i5:=c9 b5 (by have:=Z.out;omega) (by have:=Z.out;have:=q.out;omega);have i7:¬bW gd bs bf v' gl:=fc C.out.dk (n:=p.size) (by exact b1.out)
  have o5:ac F b2 97 #[.pointer (some ⟨gl,0,none⟩)]/\ac F b5 3 #[.int .i64 (pl:Int)]/\ac F b8 68 SA/\Lg F gl gd l p.size:=
   ⟨((aa.dr (aa.refl O)).blk b9.out).fr c7 i4,((aa.dr (aa.refl O)).blk c0.out).fr c7 i5,((aa.dr (aa.refl O)).blk b0.out).fr c7 i6,(b1.out.new (aa.dr (aa.refl O))).fr c7 i7⟩
  have g9:=Ld o5;have j0:=Ld c9;have R:Hid (Fr (bW gd bs bf v') O F):=Ld (((aa.dr (aa.refl O)).toFr _).trans c7)
  have k8:Hid (dg w base gd bs bf v ((writeN p l b k).1.doWrite pa SL) F v7/\∀x,v7.ownBlock=some x->x<w.heap.size\/w3.heap.size<=x):=Ld ⟨(C.out.new (aa.dr (aa.refl O))).tr i2,λx hx=>by
   rcases (t x hx).2 with h1|h1
   ·exact n'.out x h1
   ·right
    have h2:=z.out.size;have h3:=(aa.dr (aa.refl O)).size;have h4:=S.out
    omega⟩
  clear n7 c7 t i2 i4 i6 c9 i5 i7 o5;go_simp;refine hK.out _ _ (λ_=>g9.out) ?_;clear hK K
  iterate 1 (refine af (o:=.mk ..) rfl (λK hK=>?_);go_simp;refine hK _ ?_;clear hK K)
  clear q0 q1 q2 q5 r3 r2;refine jF ?_;obtain⟨cd,k0⟩:=nM ((writeN p l b k).1.wcode pa);rw[<-k0];have j1:Hid (writeN p l b (k+1)=((writeN p l b k).1.doWrite pa SL,cd)):=Ld (by rw[jw HI.out.ok,k0,q'.out,q6.out]);have n3:Hid (∃v',dg w base gd bs bf v (writeN p l b (k+1)).1 F v'/\∀x,v'.ownBlock=some x->x<w.heap.size\/w3.heap.size<=x):=Ld (by rw[j1.out];exact⟨v7,k8.out⟩);have i':Hid (w3.heap.size<=F.heap.size/\W.heap.size<=F.heap.size):=Ld (by have h1:=R.out.size;have h2:=z.out.size;have h3:=S.out;omega);have b':Hid (ac F b4 27 #[.nilIface]):=Ld (k6.out.b4.fr R.out (j0.out b4 (by have:=Z.out;omega) (by have:=Z.out;have:=q.out;omega)));have c':Hid (ac F b6 3 #[.int .i64 (kd:Int)]):=Ld ((z.out.blk k7.out).fr R.out (j0.out b6 (by have:=Z.out;omega) (by have:=Z.out;have:=q.out;omega)));have m7:Hid (iE w3.heap.size W F):=Ld ((iE.new z.out).tr (iE.fr R.out (bW.is_cells C.out.dk (by have:=f.out;have:=J.out;omega) (by have:=f.out;have:=J.out;omega) (by have:=f.out;have:=J.out;omega))))
  have p6:Hid (sy Y.heap.size (Y.heap.size+1) W F):=Ld (sy.tr (sy.fr (z.out.toFr ic) ⟨by have:=q.out;have:=S.out;omega,λx=>x⟩ ⟨by have:=q.out;have:=S.out;omega,λx=>x⟩) (sy.fr R.out
   ⟨by have:=q.out;have:=S.out;have:=z.out.size;omega,j0.out _ (by have:=Z.out;omega) (by have:=q.out;omega)⟩ ⟨by have:=q.out;have:=S.out;have:=z.out.size;omega,j0.out _ (by have:=Z.out;omega) (by have:=q.out;omega)⟩))
  have c5:F.cell? ⟨b5,0,none⟩=some (.int .i64 (pl:Int)):=g9.out.2.1.cell 0;have c6:F.cell? ⟨b6,0,none⟩=some (.int .i64 (kd:Int)):=c'.out.cell 0;have c4:F.cell? ⟨b4,0,none⟩=some .nilIface:=b'.out.cell 0;have n6:¬b6=b5:=by have:=Z.out;omega
  have f5:=g9.out.2.1.frozen 0;have f6:=c'.out.frozen 0;have f4:=b'.out.frozen 0;have r6:=Ld k0;clear k0 C j2 m9 m6 k6 b1 c0 b0 m5
  by_cases h0:cd=0
  ·rw [h0,cg];have k5:Hid ((writeN p l b (k+1)).2=0):=Ld (by rw [j1.out];exact h0);have e1:IntKind.i64.wrap ((pl:Int)+1)=((pl+1:Nat):Int):=by rw [IntWalk.i64_in _ (by have:=f'.out;omega)];omega
   clear h0
   gi_wp2
   obtain⟨W8,G⟩:=nM (F.setCell ⟨b5,0,none⟩ (.int .i64 ((pl:Int)+1)):World);obtain⟨W9,l8⟩:=nM (W8.setCell ⟨b6,0,none⟩ (.int .i64 2):World);rw[<-G,<-l8];have i:Fr (λy=>y=b5) F W8:=by rw[G];exact(Fr.refl (λy=>y=b5) F).setCell (p:=⟨b5,0,none⟩) (λ_=>rfl) _
   have c8:Fr (λy=>y=b6) W8 W9:=by rw[l8];exact(Fr.refl (λy=>y=b6) W8).setCell (p:=⟨b6,0,none⟩) (λ_=>rfl) _
   have l':ac W8 b5 3 #[.int .i64 ((pl:Int)+1)]:=by rw[G];exact g9.out.2.1.set 0 _
   have l1:ac W8 b6 3 #[.int .i64 (kd:Int)]:=c'.out.fr i n6;have l2:ac W9 b6 3 #[.int .i64 2]:=by rw[l8];exact l1.set 0 _
   have hz:=Z.out;have g5:=q.out;have m':=f.out;have l9:=J.out;have r7:=S.out;have r4:=i'.out
   have p0:∀x,w.heap.size<=x->x<w3.heap.size->∀k3 d,dg w base gd bs bf v (writeN p l b (k+1)).1 d k3->(∀x,k3.ownBlock=some x->x<w.heap.size\/w3.heap.size<=x)->¬bW gd bs bf k3 x:=λx h1 h2 k3 d _ hO=>by
    rintro(P|P|P|P)
    ·omega
    ·omega
    ·omega
    ·rcases hO x P with h3|h3<;>omega
   obtain⟨d',U,t⟩:=n3.out;have g4:=U.st i (by omega) (p0 b5 (by omega) (by omega) _ _ U t);have r':=g4.st c8 (by omega) (p0 b6 (by omega) (by omega) _ _ g4 t);refine⟨(m7.out.tr (iE.fr i (λk' o' hB H=>by have I:k'=b5:=H;omega))).tr (iE.fr c8 (λk' o' hB H=>by have I:k'=b6:=H;omega)),(p6.out.tr (sy.fr i ⟨by omega,λH=>by have I:Y.heap.size=b5:=H;omega⟩ ⟨by omega,λH=>by have I:Y.heap.size+1=b5:=H;omega⟩)).tr (sy.fr c8 ⟨by have:=i.size;omega,λH=>by have I:Y.heap.size=b6:=H;omega⟩ ⟨by have:=i.size;omega,λH=>by have I:Y.heap.size+1=b6:=H;omega⟩),?_⟩;rw[p7.out];have e5:((l.used+(k+1):Nat):Int)=(pl:Int)+1:=by have:=f'.out.1;omega
   refine⟨k5.out,⟨d',r',t⟩,by have:=i.size;have:=c8.size;omega,(g9.out.1.fr i (λH=>by have I:b2=b5:=H;omega)).fr c8 (λH=>by have I:b2=b6:=H;omega),(b'.out.fr i (λH=>by have I:b4=b5:=H;omega)).fr c8 (λH=>by have I:b4=b6:=H;omega),?_,?_⟩
   ·rw[e5];exact l'.fr c8 (λH=>n6 (by have I:b5=b6:=H;omega))
   ·rw[if_neg (by omega)];exact l2
  ·have hE:=bK h0;rw[hE];have HE:=Ld hE;have k5:Hid ((writeN p l b (k+1)).2≠0):=Ld (by rw[j1.out];exact h0);clear hE h0
   gi_wp2
   obtain⟨W8,G⟩:=nM (F.setCell ⟨b4,0,none⟩ (.iface 38 (.int .i64 cd)):World);rw[<-G];have i:Fr (λy=>y=b4) F W8:=by rw[G];exact(Fr.refl (λy=>y=b4) F).setCell (p:=⟨b4,0,none⟩) (λ_=>rfl) _
   have c3:ac W8 b4 27 #[.iface 38 (.int .i64 cd)]:=by rw[G];exact b'.out.set 0 _
   have hz:=Z.out;have g5:=q.out;have m':=f.out;have l9:=J.out;have r4:=i'.out;obtain⟨d',U,t⟩:=n3.out
   have g4:=U.st i (by omega) (by
    rintro(P|P|P|P)
    ·omega
    ·omega
    ·omega
    ·rcases t b4 P with h3|h3<;>omega)
   exact⟨m7.out.tr (iE.fr i (λk' o' hB H=>by have I:k'=b4:=H;omega)),k,c1.out.1,k5.out,⟨d',g4,t⟩,by have:=i.size;omega,by rw[j1.out];show ac W8 b4 27 #[dP cd];rw[HE.out];exact c3⟩
 case done=>
  rintro D fs W hD i3 T j4;subst i3;rw[List.length_range]at T;rw[<-m8.out]at T;have p3:=Ld j4;have HI:=Ld T;have p2:Hid (w3.heap.size<=D):=Ld hD;have c4:W.cell? ⟨b4,0,none⟩=some .nilIface:=T.b4.cell 0;have f4:=T.b4.frozen 0;clear T j4 hD;dsimp only
  go_wp2_with fail;obtain⟨W8,G⟩:=nM (W.setCell ⟨b4,0,none⟩ .nilIface:World);rw[<-G];have i:Fr (λy=>y=b4) W W8:=by rw[G];exact(Fr.refl (λy=>y=b4) W).setCell (p:=⟨b4,0,none⟩) (λ_=>rfl) _
  have c3:ac W8 b4 27 #[.nilIface]:=by rw[G];exact HI.out.b4.set 0 _
  have hz:=Z.out;have g5:=q.out;have m':=f.out;have l9:=J.out;have r5:=HI.out.sz;obtain⟨d',U,t⟩:=HI.out.dk
  have g4:=U.st i (by omega) (by
   rintro(P|P|P|P)
   ·omega
   ·omega
   ·omega
   ·rcases t b4 P with h3|h3<;>omega)
  refine eS [D] _ (((dm.cons (dm.nil w3.heap.size W) (λ_ h=>by cases h) p2.out p3.out)).fr i (λD' q9=>?_)) (λd hS=>⟨.nilIface,?_,by rw[HI.out.ok,cg],d',g4.shut hS (by omega) (by omega) (by omega) (by omega)⟩)
  ·have l3:D'=b4:=q9;subst l3;exact iN HI.out.b4
  ·have hc:d.cell? ⟨b4,0,none⟩=some .nilIface:=by
    have h1:d.heap[b4]?=_:=hS.cells b4 _ c3 rfl;exact(show ac d b4 27 #[.nilIface]from h1).cell 0
   simp[results,results149,go_sem,hc]
 case ret=>
  rintro D W hD ⟨k,hk,r1,T⟩ j4;have hz:=Z.out;have g5:=q.out;have m':=f.out;have l9:=J.out;obtain⟨d',U,t⟩:=T.dk
  have he:writeN p l b K=writeN p l b (k+1):=by
   have:=jT r1 (K-(k+1))
   rwa[show k+1+(K-(k+1))=K by omega]at this
  refine eS [D] _ (dm.cons (dm.nil w3.heap.size W) (λ_ h=>by cases h) hD j4) (λd hS=>⟨dP (writeN p l b K).2,?_,rfl,d',by rw[he];exact U.shut hS (by omega) (by omega) (by omega) (by omega)⟩)
  have hc:d.cell? ⟨b4,0,none⟩=some (dP (writeN p l b K).2):=by
   have h1:d.heap[b4]?=_:=hS.cells b4 _ T.b4 rfl;rw[he];exact(show ac d b4 27 #[dP (writeN p l b (k+1)).2]from h1).cell 0
  simp[results,results149,go_sem,hc]
structure yY(w:World)(base gl gd bs bf:Nat)(v:Value)(p:DP)(l:LG)(w':World)(v':Value):Prop where
 dk:Dk w' base gd bs bf v' p
 lg:Lg w' gl gd l p.size
 fr:Fr (λk=>k=gl\/bW gd bs bf v k) w w'
 own:∀k,v'.ownBlock=some k->base<=k/\(v.ownBlock=some k\/w.heap.size<=k)
def xQ(w:World)(base gl gd bs bf:Nat)(v:Value)(r:DP×LG×Int)(e:Ending)(w':World):Prop:=e=.returned (dP r.2.2)/\∃c,yY w base gl gd bs bf v r.1 r.2.1 w' c
theorem ov{w:World}{g T n:Nat}{s:List Int}(d:ac w g T (ag s))(h:s.length=n):Rd (λ_=>True) w 1 (some ⟨g,0,none⟩) n (an s):=
 ⟨by rw [ak,h,Nat.mul_one],λ_=>⟨_,rfl,trivial,d.lt,λj u hu=>by
  have e:(⟨g,0,none⟩:Addr).add j=⟨g,j,none⟩:=by
   unfold Addr.add
   by_cases c:j=0<;>simp[c]
  rw[e,d.cell];unfold ag
  rw[List.getElem?_toArray,hu]⟩⟩
theorem fI(p:DP)(l:LG)(b:List Int):∀k,(writeN p l b k).1.size=p.size
 | 0=>rfl
 |k+1=>by
  have c:=fI p l b k
  by_cases h:(writeN p l b k).2=0
  ·rw[jw h];exact(DP.doWrite_size _ _ _).trans c
  ·rw[jT h 1];exact c
section
variable {w:World}{base gl gd bs bf:Nat}{v:Value}{p:DP}{l:LG}
theorem yY.same(h:Lg w gl gd l p.size)(d:Dk w base gd bs bf v p){w':World}(c:aa w w'):yY w base gl gd bs bf v p l w' v:=⟨d.new c,h.new c,c.toFr _,λk f=>⟨(d.ours k (.inr (.inr (.inr f)))).1,.inl f⟩⟩
theorem Dg(h:Lg w gl gd l p.size)(G:Dk w base gd bs bf v p)(A:Option Addr)(n c:Nat)(U:n<=maxLen)(d:aA n=0\/l.broken=true\/l.size-l.used<aA n):
    Calls prog 111 #[.pointer (some ⟨gl,0,none⟩),.slice A n c] w λe w'=>e=.returned (dP (if aA n=0 then 2 else if l.broken=true then 10 else 8))/\aa w w':=by
 have D:=iP (n:Int) w;rw[jM]at D;obtain⟨o,j⟩:=nM (aA n);rw[<-j]at D d⊢;have y:=iO n;rw[<-j]at y;have H:=Ld D;have c2:=h.c2;have I:=h.c4;have J:=h.cb;have hu:=h.ok.used;have u:=h.ok.fit;have R:=G.ok.s2;obtain⟨sz,z⟩:=nM (l.size);obtain⟨C,B⟩:=nM (l.used);obtain⟨br,t⟩:=nM (l.broken);rw[<-z]at c2 hu d u;rw[<-B]at I hu d;rw[<-t]at J d⊢;obtain⟨F,i⟩:=nM (if o=0 then 2 else if br=true then 10 else 8:Int);rw[<-i];have f:=Ld i;clear h G D z B t j i
 go_enter func111,ntmps111
 go_wp2_with fail;refine H.out.mono ?_;rintro e V ⟨rfl,rfl⟩
 by_cases h0:o=0
 ·have q:Hid (dP F=.iface 38 (.int .i64 2)):=Ld (by rw[f.out,if_pos h0];exact bK (by decide));subst h0;clear d
  go_wp2_with fail;go_ret;exact⟨by rw[q.out];rfl,aa.refl _⟩
 ·have O:¬((o:Int)=0):=by omega
  rcases br with _|_
  ·have q:Hid (dP F= .iface 38 (.int .i64 8)):=Ld (by rw [f.out,if_neg h0,if_neg (by decide)];exact bK (by decide));have P:sz-C<o:=by rcases d with h | h | h;exact absurd h h0;cases h;exact h
   have S:IntKind.i64.wrap ((sz:Int)-(C:Int))=(sz:Int)-(C:Int):=IntWalk.i64_in _ (by omega);have N:(sz:Int)-(C:Int)<(o:Int):=by omega
   have T:decide ((sz:Int)-(C:Int)<(o:Int))=true:=decide_eq_true N;clear d
   go_upto_region 8 with fail;go_quiet (fail)
   go_wp2_with fail;go_ret;exact⟨by rw[q.out];rfl,⟨rfl,rfl,rfl,Nat.le_refl _,λ_ _=>rfl⟩⟩
  ·have q:Hid (dP F=.iface 38 (.int .i64 10)):=Ld (by rw[f.out,if_neg h0,if_pos rfl];exact bK (by decide));clear d
   go_wp2_with fail;go_ret;exact⟨by rw[q.out];rfl,aa.refl _⟩
theorem AU{q:Nat->Prop}(h:Lg w gl gd l p.size)(hD:Dk w base gd bs bf v p)(hL:dC 4 2 w)(A:Option Addr)(n c:Nat)(b:List Int)(hR:Rd q w 1 A n (an b))(hb:ba b)(j':b.length=n)(h0:aA n≠0)(h1:l.broken=false)(h2:¬l.size-l.used<aA n):
    Calls prog 111 #[.pointer (some ⟨gl,0,none⟩),.slice A n c] w (xQ w base gl gd bs bf v (aD p l b)):=by
 obtain⟨l7,l8,j5⟩:=eo h0;obtain⟨sn,g3⟩:=nM (aA n);have hs:=iP (n:Int) w;rw[jM,<-g3]at hs;rw[<-g3]at h0 h2 j5;obtain⟨RS,i9⟩:=nM (writeN p l b sn);have i1:Hid (aD p l b=if RS.2≠0 then(RS.1,{l with broken:=true},RS.2)else(RS.1,l.step b,0)):=Ld (by unfold aD;rw[j',<-g3,if_neg h0,if_neg (by rw[h1];decide),if_neg h2];simp only;rw[i9]);obtain⟨AP,l2⟩:=nM (aD p l b);rw[<-l2]at i1⊢;have HS:=Ld hs;have J:=Ld h;have HD:=Ld hD;have HL:=Ld hL;have HR:=Ld hR;have HB:=Ld hb;have i3:=Ld j';have k5:=Ld i9;have u:Hid (1<=n/\n<=65536/\sn=(n+74)/55/\l.used+sn<=l.size/\aA n=sn):=Ld ⟨l7,l8,j5,by have:=h.ok.used;omega,g3.symm⟩;have c2:=h.c2;have c3:=h.c3;have c4:=h.c4;have cb:=h.cb;have hu:=h.ok.used;have f':=h.ok.fit;have m9:=hD.ok.s2;have j3:=h.ok.gen;rw[h1]at cb;obtain⟨sz,j6⟩:=nM (l.size);obtain⟨us,j7⟩:=nM (l.used);obtain⟨gn,b8⟩:=nM (l.gen);rw[<-j6]at c2 hu h2 f';rw[<-j7]at c4 hu h2;rw[<-b8]at c3 j3;have Z:Hid (us=l.used/\sz=l.size/\gn=l.gen/\l.broken=false):=Ld ⟨j7,j6,b8,h1⟩;have m4:=Ld j3;have m7:¬((sn:Int)=0):=by omega
 have n6:((sn:Int)==0)=false:=by simpa using m7
 have e1:IntKind.i64.wrap ((sz:Int)-(us:Int))=(sz:Int)-(us:Int):=IntWalk.i64_in _ (by omega);have e2:¬(sz:Int)-(us:Int)<(sn:Int):=by omega
 have e3:decide ((sz:Int)-(us:Int)<(sn:Int))=false:=decide_eq_false e2;clear h hD hL hR hb j' h0 h1 h2 hs l7 l8 j5 g3 i9 l2 j6 j7 b8 f' m9 j3 hu
 go_enter func111,ntmps111
 go_wp2_with fail;refine HS.out.mono ?_;rintro e w1 ⟨rfl,rfl⟩
 go_upto_region 8 with fail;go_quiet (fail)
 obtain⟨C,j8⟩:=nM (w.drewN nq);rw[<-j8];have F:Hid (aa w C):=Ld (by rw[j8];exact⟨rfl,rfl,rfl,Nat.le_refl _,λ_ _=>rfl⟩);clear j8 e1 e2 e3 c2;have q3:∀p':HW (aa C),p'.w.cell? ⟨gl,3,none⟩=some (.int .u32 gn):=λp'=>p'.h.cell_ (F.out.cell_ c3)
 obtain⟨tg,g4⟩:=nM (l.tag);have k7:Hid (∀W,aa C W->W.rangeAt gl 5 (an tg)):=Ld λW hN=>by rw[g4];exact(J.out.new (F.out.tr hN)).tagAt
 have P:Hid (tg.length=16/\ba tg/\gn<4294967296):=Ld ⟨by rw[g4];exact J.out.ok.len,by rw[g4];exact J.out.ok.byt,m4.out⟩;obtain⟨H,g8⟩:=nM (fT tg gn b);have k6:Hid (H=fT l.tag l.gen b):=Ld (by rw[g8,g4,Z.out.2.2.1]);have y:Hid (H.length=16/\ba H):=Ld (by rw[g8];exact⟨fh _ _ _,iw _ _ _⟩);have b3:=Ld g8;have c7:Hid ((ag H).size=16):=Ld (by rw[aq,y.out.1]);clear g4 g8
 go_upto_region 10 with fail;apply lr (α:=Nat) (λb5 w5=>aa C w5/\ac w5 b5 175 (ag H))
 case h1=>
  intro K' l3;refine bu (aa C) (.take 0 (.take 1 (.take 2 (.take 3 (.take 4 (.take 5 (.take 6 (.take 7 (.take 8 (.two 9 (.act 10 (.act 11 .done)) 10 (.act 9 (.act 11 .done)))))))))))) (by kernel_rfl) (by kernel_rfl) (aa.dr (aa.refl C)) (λl9=>?_)
  iterate 3 (refine ay (o:=.mk ..) rfl (λK i=>?_);go_simp;refine i _ ?_;clear i K)
  refine ew (o:=.mk ..) rfl rfl (.tmp 43) rfl rfl (λW hN=>k7.out W hN) underlying175 rfl (by rw[ak,P.out.1];rfl) ?_;simp only[Act.put,bC,bD,bF]
  iterate 5 (refine ay (o:=.mk ..) rfl (λK i=>?_);go_simp;refine i _ ?_;clear i K)
  refine⟨?_,?_⟩
  ·refine dJ (o:=.mk ..) rfl (λK i=>?_) (.inl rfl);go_simp;refine(jN tg gn A n c b C.drew ((HL.out.new F.out).new (aa.dr (aa.refl C))) ((aa.dr (aa.refl C)).rd (F.out.rd HR.out)) HB.out P.out.1 P.out.2.1 P.out.2.2 (by have:=u.out;omega)).mono ?_;rintro e w4 ⟨rfl,b9⟩;rw[<-b3.out];have O:Hid (aa C w4):=Ld (aa.tr (aa.dr (aa.refl C)) b9);clear b9;go_simp;refine i.out _ _ O.out ?_;clear i K;refine dW (o:=.mk ..) rfl rfl rfl oN ?_;intro b5 w5 g9 R I;have i5:Hid (C.heap.size<=b5):=Ld (by have:=O.out.size;omega);refine⟨O.out.tr I,?_⟩;clear g9;simp only[Act.put,bC,bD,bF];refine cL (o:=.mk ..) (cs:=ag H) rfl rfl (.tmp 6) (.tmp 50) rfl (by rw[c7.out];rfl) rfl rfl R (by rw[c7.out];rfl) (bH _) ?_;intro S i6 i7;have c9:aa C S:=(O.out.tr I).fr i7 (λk hk=>by have:=i5.out;omega);refine⟨c9,?_⟩;simp only[Act.put,bC,bD,bF];refine aO ?_;exact l3.out b5 S ⟨c9,i6⟩
  ·refine ep (o:=.mk ..) rfl rfl rfl oN ?_;intro b5 w5 g9 R I;have G:Hid (aa C w5):=Ld ((aa.dr (aa.refl C)).tr I);have m1:=Ld R;have i5:Hid (C.heap.size<=b5):=Ld (by rw[g9];exact Nat.le_refl _);refine⟨G.out,?_⟩;clear g9 R I;simp only[Act.put,bC,bD,bF];refine aC (o:=.mk ..) rfl (λK i=>?_) (.inl rfl);go_simp;refine(jN tg gn A n c b w5 ((HL.out.new F.out).new G.out) (G.out.rd (F.out.rd HR.out)) HB.out P.out.1 P.out.2.1 P.out.2.2 (by have:=u.out;omega)).mono ?_;rintro e w4 ⟨rfl,b9⟩;rw[<-b3.out];have m0:=Ld (b9.blk m1.out);have O:Hid (aa C w4):=Ld (G.out.tr b9);clear b9;go_simp;refine i.out _ _ O.out ?_;clear i K;refine cL (o:=.mk ..) (cs:=ag H) rfl rfl (.tmp 6) (.tmp 50) rfl (by rw[c7.out];rfl) rfl rfl m0.out (by rw[c7.out];rfl) (bH _) ?_;intro S i6 i7;have c9:aa C S:=O.out.fr i7 (λk hk=>by have:=i5.out;omega);refine⟨c9,?_⟩;simp only[Act.put,bC,bD,bF];refine aO ?_;exact l3.out b5 S ⟨c9,i6⟩
 case h2=>
  rintro b6 w5 ⟨I,R⟩;have G:Hid (aa w w5):=Ld (F.out.tr I);have i2:=Ld R;clear I R q3 k7 b3 F
  go_upto_region 12 with fail;obtain⟨S,g5⟩:=nM (w5.alloc (.cells #[.nilIface,.slice none 0 0] 168):World);obtain⟨V,j4⟩:=nM (w5.heap.size);have m5:Hid (aa w S):=Ld (G.out.tr (by rw[g5];exact aa.al (aa.refl _) _));have b0:Hid (ac S b6 175 (ag H)):=Ld (by rw[g5];exact i2.out.alloc _);have m6:Hid (gp S V V []):=Ld ⟨⟨none,0,by rw[g5,j4];exact ac.new _ _ _,World.ownsRow_nil _ _ _ _⟩,Nat.le_refl _,λx hx=>nomatch hx⟩;have HZ:Hid (w.heap.size<=V/\b6<V):=Ld (by have h1:=G.out.size;have h2:=i2.out.lt;omega);rw[<-g5,<-j4];clear g5 j4 i2 G;have k2:IntKind.u64.wrap (n:Int)=(n:Int):=by rw[IntKind.wrap_u64];have:=u.out;omega
  have n0:((4:Nat):Int)=4:=rfl
  have k4:Hid (∀w',FW V V S w'->aa w w'):=Ld λw' hF=>m5.out.fr hF (λk hk=>by
   have:=HZ.out;rcases hk with rfl|hk
   ·omega
   ·have:=hk.1;omega)
  refine ah (λ_=>True) [(true,0),(true,1),(true,2),(true,3),(true,5),(true,7),(false,4),(false,6),(false,8),(false,9),(true,10),(true,11),(true,12),(true,13),(true,14)] (by kernel_rfl) (by kernel_rfl) trivial (λl9=>?_)
  iterate 6 (refine af (o:=.mk ..) rfl (λK i=>?_);go_simp;refine i _ ?_;clear i K)
  refine aj (o:=.mk ..) rfl (λK i=>?_) (.inl rfl);go_simp;refine(fU (gp.new m6.out (aa.dr (aa.refl S))) n 4 (by omega) (by have:=u.out;omega) (by simp)).mono ?_;rintro e w7 ⟨rfl,hW,hF⟩;have k8:=Ld hW;have Y:Hid (FW V V S w7):=Ld ((FW.new (aa.dr (aa.refl S))).tr hF);clear hW hF;go_simp;refine i.out _ _ (λ_=>trivial) ?_;clear i K;have c':Hid (ac w7 b6 175 (ag H)):=Ld (Y.out.blk b0.out (by decide) (by have:=HZ.out;omega));refine aj (o:=.mk ..) rfl (λK i=>?_) (.inl rfl);go_simp;refine(mV k8.out (some ⟨b6,0,none⟩) 16 16 H (ov c'.out y.out.1) y.out.2 (by simp[aw])).mono ?_;rintro e w8 ⟨rfl,hW,hF⟩;have k9:=Ld hW;have c0:Hid (FW V V S w8):=Ld (Y.out.tr hF);clear hW hF;go_simp;refine i.out _ _ (λ_=>trivial) ?_;clear i K;refine aj (o:=.mk ..) rfl (λK i=>?_) (.inl rfl);go_simp;refine(mV k9.out A n c b ((k4.out _ c0.out).rd HR.out) HB.out (by simp[aw];have:=u.out;have:=y.out.1;omega)).mono ?_;rintro e w9 ⟨rfl,hW,hF⟩;obtain⟨FL,g7⟩:=nM (l.frame b);have k0:=Ld g7
  have l':Hid (gp w9 V V FL):=Ld (by
   have e: []++bj 4 n++H++b=FL:=by rw[g7,k6.out,<-i3.out];rfl
   rw[<-e]
   exact hW)
  have i4:Hid (FW V V S w9):=Ld (c0.out.tr hF);have c1:Hid (FL.length=n+20):=Ld (by rw[g7,LG.frame_len,i3.out]);clear hW hF g7;go_simp;refine i.out _ _ (λ_=>trivial) ?_;clear i K;refine aj (o:=.mk ..) rfl (λK i=>?_) (.inl rfl);go_simp;refine(lm l'.out (by rw[c1.out];have:=u.out;omega)).mono ?_;rintro e i0 ⟨⟨B,d,rfl,hO⟩,b7⟩;have HO:=Ld hO;have U:Hid (aa w i0):=Ld ((k4.out _ i4.out).tr b7);have z:Hid (ac i0 b6 175 (ag H)):=Ld (b7.blk (i4.out.blk b0.out (by decide) (by have:=HZ.out;omega)));clear hO b7;go_simp;refine i.out _ _ (λ_=>trivial) ?_;clear i K
  iterate 5 (refine af (o:=.mk ..) rfl (λK i=>?_);go_simp;refine i _ ?_;clear i K)
  refine au ?_;clear l9 k2 n0;obtain⟨gf,cf,hv,j1,j2⟩:=dv HO.out (by have:=c1.out;omega);injection hv with n' n1 n3;subst n' n3;have n5:Hid (FL.length<=d/\d<=maxLen):=Ld ⟨j1,j2⟩;have N:Hid (Lg i0 gl gd l p.size):=Ld (J.out.new U.out);have T:Hid (Dk i0 base gd bs bf v p):=Ld (HD.out.new U.out);have d':sn=sK FL.length 55:=by unfold sK;have:=u.out;have:=c1.out;omega
  have j9:=Ax N.out T.out b HB.out gf 0 FL.length d sn (by rw[k0.out]) j1 j2 (by have:=u.out;have:=c1.out;omega) d' u.out.2.2.2.1 (cY HO.out rfl) (λj x hj=>by
   rw[<-k0.out]at hj;obtain⟨g',o',he,-,-,hc⟩:=(Rd.own HO.out rfl).out (by have:=c1.out;omega) (by omega);injection he with he;injection he with x1 x2;subst x1 x2
   exact hc j x hj)
  rw[<-k5.out]at j9;have l1:=Ld j9;clear j9 d' j1 j2 n1
  go_wp2_with fail;refine l1.out.mono ?_;rintro e t ⟨rfl,v',hT⟩;obtain⟨ec,j0⟩:=nM (RS.2);rw[<-j0];have k':=Ld j0;have HT:=Ld hT;have f:Hid (Lg t gl gd l p.size):=Ld (N.out.fr hT.fr (fc T.out N.out));have k3:Hid (¬bW gd bs bf v' gl):=Ld (fc hT.dk f.out);have c8:Hid (RS.1.size=p.size):=Ld (by rw[k5.out];exact fI _ _ _ _);have c5:Hid (∀k,v'.ownBlock=some k->base<=k/\(v.ownBlock=some k\/w.heap.size<=k)):=Ld λk hk=>⟨(hT.own k hk).1,(hT.own k hk).2.imp id (λh=>Nat.le_trans U.out.size h)⟩
  have k1:Hid (Fr (λk=>k=gl\/bW gd bs bf v k) w t):=Ld ((U.out.toFr _).trans (hT.fr.mono (λk _ h=>.inr h)));have b':Hid (ac t b6 175 (ag H)):=Ld (z.out.fr hT.fr (gu T.out z.out (λe=>ac.ne_ z.out T.out.blk (by decide) e) (by decide)));clear j0 hT l1 HO i4 c0 Y l' k9 k8 z c' b0
  by_cases h0:ec=0
  ·have D:Hid (AP=(RS.1,l.step b,0)):=Ld (by rw [i1.out,<-k'.out,if_neg (by rw [h0];simp)]);rw [h0,cg];clear h0;obtain ⟨u2,m'⟩:=nM (us+sn);have c6:t.cell? ⟨gl,4,none⟩=some (.int .i64 us):=by rw [Z.out.1];exact f.out.c4
   have f6:t.frozen? ⟨gl,4,none⟩=false:=f.out.blk.frozen 4;have g1:(us:Int)+(sn:Int)=(u2:Int):=by omega
   have m8:u2<100000:=by have h1:=u.out;have h2:=Z.out;have h3:=J.out.ok.fit;have h4:=HD.out.ok.s2;omega
   have g2:IntKind.i64.wrap (u2:Int)=(u2:Int):=IntWalk.i64_in _ (by omega);have g6:Hid (u2=l.used+aA b.length/\u2<=l.size):=Ld ⟨by rw[m',Z.out.1,i3.out,u.out.2.2.2.2],by have h1:=u.out;have h2:=Z.out;omega⟩;clear m' m8
   go_upto_region 20 with fail;obtain⟨w7,i'⟩:=nM (t.setCell ⟨gl,4,none⟩ (.int .i64 u2));have b1:Hid (Lg w7 gl gd {l with used:=u2} p.size):=Ld (by rw[i'];exact f.out.setUsed u2 g6.out.2);have Y:Hid (Fr (λk=>k=gl) t w7):=Ld (by rw[i'];exact(Fr.refl (λk=>k=gl) t).setCell (p:=⟨gl,4,none⟩) (λ_=>rfl) _);have m2:Hid (ac w7 b6 175 (ag H)):=Ld (b'.out.fr Y.out (λe=>ac.ne_ b'.out f.out.blk (by decide) e));rw[<-i'];clear i' c6 f6 g1 g2;refine wp_region_list ?_;refine wpList_step λK i=>?_
   go_simp;refine i _ _ ?_;clear i K;refine ae rfl _ rfl underlying175 rfl (by rw[c7.out];rfl) rfl m2.out ?_
   iterate 2 (refine wpList_step λK i=>?_;go_simp;refine i _ _ ?_;clear i K)
   refine fW rfl (.tmp 89) (.tmp 87) rfl rfl rfl b1.out.blk (cells:=an H) (by rw[ak,y.out.1,yr b1.out.ok.len];decide) (by rw[ak,y.out.1];rfl) (aR _) ?_;intro w8 l4 l5;have m3:=Ld l4;have c0:=Ld l5;clear l4 l5;simp only[Act.put,bC,bD,bF]
   go_wp2_with fail;go_ret;refine⟨by rw[D.out];rfl,v',?_⟩;rw[D.out];have hF:Fr (λk=>k=gl) t w8:=Y.out.trans c0.out;refine⟨HT.out.dk.fr hF (λk hk=>by rw[show k=gl from hk];exact k3.out),⟨?_,?_⟩,k1.out.trans (hF.mono (λk _ h=>.inl h)),c5.out⟩
   ·have:=m3.out;rw[yt b1.out.ok.len gd H y.out.1]at this
    have e:l.step b={({l with used:=u2}:LG)with tag:=H}:=by
     unfold LG.step;rw[<-g6.out.1,<-k6.out]
    rw[e];exact this
   ·show LG.Ok (l.step b) RS.1.size;rw[c8.out];exact⟨J.out.ok.fit,J.out.ok.gen,by show l.used+aA b.length<=l.size;rw[<-g6.out.1];exact g6.out.2,fh _ _ _,iw _ _ _⟩
  ·have D:Hid (AP=(RS.1,{l with broken:=true},ec)):=Ld (by rw [i1.out,<-k'.out,if_pos h0]);have hE:=bK h0;have HE:=Ld hE;rw [hE];clear h0 hE;have c6:t.cell? ⟨gl,21,none⟩=some (.bool false):=by rw [<-Z.out.2.2.2];exact f.out.cb
   have f6:t.frozen? ⟨gl,21,none⟩=false:=f.out.blk.frozen 21
   go_wp2_with fail;go_ret;have hF:Fr (λk=>k=gl) t (t.setCell ⟨gl,21,none⟩ (.bool true)):=(Fr.refl (λk=>k=gl) t).setCell (p:=⟨gl,21,none⟩) (λ_=>rfl) _;refine⟨by rw[D.out];show _=Ending.returned (dP ec);rw[HE.out];rfl,v',?_⟩;rw[D.out];refine⟨HT.out.dk.fr hF (λk hk=>by rw[show k=gl from hk];exact k3.out),?_,k1.out.trans (hF.mono (λk _ h=>.inl h)),c5.out⟩;show Lg _ gl gd {l with broken:=true} RS.1.size;rw[c8.out];exact f.out.setBroken true
theorem sG{q:Nat->Prop}(h:Lg w gl gd l p.size)(i:Dk w base gd bs bf v p)(t:dC 4 2 w)(A:Option Addr)(n c:Nat)(b:List Int)(o:Rd q w 1 A n (an b))(z:ba b)(C:n<=maxLen):
    Calls prog 111 #[.pointer (some ⟨gl,0,none⟩),.slice A n c] w (xQ w base gl gd bs bf v (aD p l b)):=by
 have f:b.length=n:=by have:=o.1;rw[ak]at this;omega
 by_cases d:aA n=0\/l.broken=true\/l.size-l.used<aA n
 ·refine (Dg h i A n c C d).mono λe w' ⟨B,u⟩=> ?_
  have y:aD p l b=(p,l,if aA n=0 then 2 else if l.broken=true then 10 else 8):=by
   unfold aD;rw[f]
   by_cases h0:aA n=0
   ·rw[if_pos h0,if_pos h0]
   ·rw[if_neg h0,if_neg h0]
    by_cases h1:l.broken=true
    ·rw[if_pos h1,if_pos h1]
    ·rw[if_neg h1,if_neg h1,if_pos (by rcases d with d|d|d;exact absurd d h0;exact absurd d h1;exact d)]
  rw[y];exact⟨B,v,yY.same h i u⟩
 ·exact AU h i t A n c b o z f (λe=>d (.inl e)) (by cases j:l.broken with|true=>exact absurd (.inr (.inl j)) d|false=>rfl) (λe=>d (.inr (.inr e)))
end
end Go.Proofs.YtfchcdbfalgdlaaGreatDoor
namespace Go.Proofs.YtfchcdbfalgdlaaGreatDoor
open _root_.Go.Proofs.Tryz
open Go.RowKit Go.Sort
theorem et{fn:Func}{p z q:Tmp}{ty c:TypeId}{P:Program}(h:fn.results= #[.cell p ty,.cell z c,.tmp q])(tmps:Array Value)(w:World)(g g2:Nat)(cs f:Array Value)(d d2:TypeDesc)
    (C:tmps.getD p undef=.pointer (some ⟨g,0,none⟩)) (B:ac w g ty cs) (hu:P.underlying ty=some d) (hd:d.isRow=true) (hi:(P.info? ty).map (·.size)=some cs.size)
    (u:tmps.getD z undef=.pointer (some ⟨g2,0,none⟩)) (n:ac w g2 c f) (y:P.underlying c=some d2) (j:d2.isRow=true) (o:(P.info? c).map (·.size)=some f.size):
    (results fn tmps).run P w=.ok (.tuple #[.agg cs,.agg f,tmps.getD q undef]) w:=by
 have t:tmps[p]?.getD undef=.pointer (some ⟨g,0,none⟩):=by simpa using C
 have i:tmps[z]?.getD undef=.pointer (some ⟨g2,0,none⟩):=by simpa using u
 simp[results,h,t,i,asAddr,run_loadVar_row w g ty ty cs (0,0) _ B hu (by cases d<;>first|rfl|(simp[TypeDesc.isRow]at hd)) hi,run_loadVar_row w g2 c c f (0,0) _ n y (by cases d2<;>first|rfl|(simp[TypeDesc.isRow]at j)) o]
def CY:Array Value:= #[.int .i64 0,.slice none 0 0,.slice none 0 0,.int .i64 0,.bool false]
theorem nN{p:DP}(h:p.Ok){l:LG}(hl:l.Ok p.size){b:List Int}(d:ba b):∀k,l.used+k<=l.size->(writeN p l b k).1.Ok
 | 0,_=>h
 |k+1,i=>by
  have c:=nN h hl d k (by omega)
  by_cases hz:(writeN p l b k).2=0
  ·rw[jw hz];show((writeN p l b k).1.doWrite _ _).Ok;unfold DP.doWrite;split
   ·next f=>
    split
    ·exact c.fall
    ·exact c.write (of_decide_eq_true f) (LG.sec_ok l d k)
   ·exact c
  ·rw[jT hz 1];exact c
theorem FU{s:List Int}(c:aS s){i:Nat}(hi:i<64):(an s)[i]?=some (.int .u8 (at_ s i)):=by
 have h:=mM (s:=s) (i:=i) (by rw[c.1];exact hi);unfold ag at h;rw[List.getElem?_toArray]at h;exact h
def vT(l:LG)(q:DP)(f:Nat)(w:World)(e:Ending)(w':World):Prop:=
 ∃d i j A2 c2 B c,e=.returned (.tuple #[.agg (gI d i j A2 c2),.agg (od l B c),.int .i64 0])/\fp w' d i A2/\Mt q d/\d.tot<=f/\jZ w' l B/\aa w w'
theorem vj{w:World}{p:DP}(r:RP)(A1:Option Addr)(c1:Nat)(A2:Option Addr)(c2:Nat)(hr:fp w r A1 A2)(hM:Mt p r)(hp:p.Ok)(hn:r.tot<=50000)(a b c:Nat)(hb:1<=b)(g5:a+b<=p.size)(hc:c<4294967296)(k7:c≠0)(hz:(aB p (bZ a b c)).2=0):
    Calls prog 74 #[.agg (gI r A1 c1 A2 c2),.int .i64 a,.int .i64 b,.int .u32 c] w (vT (bZ a b c) (aB p (bZ a b c)).1 (r.tot+b) w):=by
 have j4:=hp.s2;have j3:(bZ a b c).Ok p.size:=fv g5 hc;obtain⟨X0,b8⟩:=nM (gI r A1 c1 A2 c2);have b1:Hid (X0[0]?=some (.int .i64 p.size)/\X0.size=5/\X0.all (·.oneCell')=true):=Ld (by rw[b8];exact⟨by rw[<-hM.size];rfl,rfl,kG _ _ _ _ _⟩)
 have F:Hid (∀B cc W,aa w W->Calls prog 119 #[.agg X0,.agg (od (bZ a b c) B cc)] W (vV (aB p (bZ a b c)).1 0 (r.tot+b) W)):=Ld λB cc W hN=>by
  rw[b8];have h:=nA r A1 c1 A2 c2 B cc (hr.new hN) hM hp hn j3;rw[hz]at h;exact h
 obtain⟨q,hq⟩:=nM ((aB p (bZ a b c)).1);rw[<-hq]at F;rw[<-hq];obtain⟨n,g6⟩:=nM (p.size);rw[<-g6]at b1;rw[<-g6]at g5 j4;obtain⟨m,hm⟩:=nM (n-a);have h5:(n:Int)-(a:Int)=(m:Int):=by omega
 have h6:(b:Int)<=(m:Int):=by omega
 have h7:(m:Int)<=16384:=by omega
 have k6:(a:Int)<(n:Int):=by omega
 have k5:1<=(b:Int):=by omega
 have k4:0<=(a:Int):=by omega
 have k9:((c:Int)==0)=false:=by simp;omega
 have k8:¬(c:Int)=0:=by omega
 have i':Hid (c<4294967296/\a<=16384/\b<=16384):=Ld (by omega);obtain⟨tt,g7⟩:=nM (r.tot+b);rw[<-g7]at F;rw[<-b8,<-g7];clear hr hM hp hn hb g5 hc k7 hz j4 j3 b8 g6 hm hq g7
 go_enter func74,ntmps74
 go_upto_region 1 with fail;obtain⟨f,C⟩:=nM (((w.alloc (.cells X0 65)).alloc (.cells #[.int .i64 0,.slice none 0 0,.slice none 0 0,.int .i64 0,.bool false] 65)).alloc (.cells #[.int .i64 0,.int .i64 0,.int .i64 0,.int .u32 0,.slice none 0 0,.bool false] 75):World);obtain⟨G,b9⟩:=nM (w.heap.size);obtain⟨b6,c'⟩:=nM (w.heap.size+1);obtain⟨T,c0⟩:=nM (w.heap.size+1+1);have i2:Hid (aa w f):=Ld (by rw[C];exact aa.al (aa.al (aa.al (aa.refl _) _) _) _);have c3:Hid (ac f G 65 X0):=Ld (by rw[C,b9];exact((ac.new _ _ _).alloc _).alloc _);have g8:Hid (ac f b6 65 CY):=Ld (by rw[C,c'];exact(ac.new' _ _ _ (by simp)).alloc _);have g9:Hid (ac f T 75 qL):=Ld (by rw[C,c0];exact ac.new' _ _ _ (by simp));have HZ:Hid (G=w.heap.size/\b6=w.heap.size+1/\T=w.heap.size+2/\f.heap.size=w.heap.size+3):=Ld ⟨b9,c',c0,by rw[C];simp⟩;rw[<-C,<-c0,<-c',<-b9];clear C b9 c' c0;have cz:f.cell? ⟨G,0,none⟩=some (.int .i64 n):=by rw[c3.out.cell,b1.out.1]
 obtain⟨i0,hi,j6,j7,j8⟩:=info_parts ym;have HI:=Ld (And.intro hi (And.intro j6 (And.intro j7 j8)));clear hi j6 j7 j8
 go_upto_region 4 with((with_reducible refine dM ⟨some 42,.makeSlice _ _ _,_,_,_,_⟩ ?_);refine wpList_make_full _ rfl _ _ 33 rfl f.heap.size 5 i0 (.int .u8 0) 1 underlying33 HI.out.1 HI.out.2.1 HI.out.2.2.1 .i64 .i64 16 16 16 rfl rfl rfl rfl (by rw[HI.out.2.2.2];omega) (by unfold maxLen;omega) (Nat.le_refl _) ?_;intro w1 i7 j2;have i3:Hid (w1.ownsRow f.heap.size 5 1 (.slice (some ⟨f.heap.size,0,none⟩) 16 16) 16 (an (List.replicate 16 0))):=Ld (by have h:=oE 16;have h2:=i7;rw[h]at h2;exact h2);have d':Hid (aa f w1):=Ld ((aa.refl f).fr ((Fr.refl ic f).grown j2 (λ_ _ h=>by cases h)) (λk h=>h.elim));clear i7 j2)
 obtain⟨W0,U⟩:=nM (w1.alloc (.cells #[.int .i64 a,.int .i64 b,.int .i64 0,.int .u32 c,.slice (some ⟨f.heap.size,0,none⟩) 16 16,.bool false] 75):World);obtain⟨b4,I⟩:=nM (w1.heap.size);have S:Hid (aa f W0):=Ld (by rw[U];exact aa.al d'.out _);obtain⟨YL,g4⟩:=nM (od (bZ a b c) (some ⟨f.heap.size,0,none⟩) 16);have t:Hid (YL=od (bZ a b c) (some ⟨f.heap.size,0,none⟩) 16/\YL.size=6):=Ld (by rw[g4];exact⟨rfl,rfl⟩);have c4:Hid (ac W0 b4 75 YL):=Ld (by rw[U,I,g4];exact ac.new _ _ _)
 have i1:Hid (jZ W0 (bZ a b c) (some ⟨f.heap.size,0,none⟩)):=Ld ⟨(by
  have h:=ei.own i3.out rfl;rw[U]
  exact h.new (aa.al (aa.refl _) _)),(λx hx=>by have:=List.eq_of_mem_replicate hx;omega),i'.out.1,by have:=i'.out;exact⟨by show a<=_;omega,by show b<=_;omega,by show 0<=_;omega⟩⟩
 have d:Hid (G=w.heap.size/\b6=w.heap.size+1/\T=w.heap.size+2/\w.heap.size+3<=b4):=Ld (by have:=HZ.out;have:=d'.out.size;omega);have N:Hid (ac W0 G 65 X0):=Ld (S.out.blk c3.out);have b':Hid (ac W0 b6 65 CY):=Ld (S.out.blk g8.out);have b0:Hid (ac W0 T 75 qL):=Ld (S.out.blk g9.out);have f':=Ld (F.out (some ⟨f.heap.size,0,none⟩) 16 W0 (i2.out.tr S.out));rw[<-t.out.1]at f';rw[<-U,<-I];clear U I g4 i3 d' cz c3 g8 g9 HZ HI F h5 h6 h7 k6 k5 k4 k9 k8
 go_wp2_with (first
  |(refine cE 45 rfl ?_;refine ae rfl _ rfl underlying65 rfl (by rw[b1.out.2.1];rfl) rfl N.out ?_)
  |(refine cE 46 rfl ?_;refine ae rfl _ rfl underlying75 rfl (by rw[t.out.2];rfl) rfl c4.out ?_))
 refine f'.out.mono ?_;rintro e w3 ⟨r',E1,f1,E2,f2,rfl,i9,i6,j5,g3⟩;obtain⟨Y,hY⟩:=nM (gI r' E1 f1 E2 f2);have HY:Hid (Y=gI r' E1 f1 E2 f2/\Y.size=5/\Y.all (·.oneCell')=true):=Ld (by rw[hY];exact⟨rfl,rfl,kG _ _ _ _ _⟩);rw[<-hY];have i4:=Ld i9;have k0:=Ld i6;have k3:=Ld j5;have H:Hid (aa W0 w3):=Ld g3;have D:Hid (ac w3 G 65 X0):=Ld (g3.blk N.out);clear hY i9 i6 j5 g3 f'
 go_upto_region 7 with((with_reducible refine eC ⟨none,.store 65 (.tmp 4) _,_,_,_,_⟩ ?_);refine ao rfl (.tmp 4) (.tmp 48) rfl (by rw[HY.out.2.1];rfl) rfl rfl D.out (by rw[b1.out.2.1,HY.out.2.1]) HY.out.2.2 ?_;intro i I j1;have J:=Ld I;have u:=Ld j1;clear I j1)
 have O:Hid (ac i b4 75 YL):=Ld ((H.out.blk c4.out).fr u.out (λe=>by have e':b4=G:=e;have:=d.out;omega));have P:Hid (ac i b6 65 CY):=Ld ((H.out.blk b'.out).fr u.out (λe=>by have e':b6=G:=e;have:=d.out;omega));have c5:Hid (ac i T 75 qL):=Ld ((H.out.blk b0.out).fr u.out (λe=>by have e':T=G:=e;have:=d.out;omega));have k2:Hid (fp i r' E1 E2):=Ld (i4.out.fr u.out (λj hj=>by rw[show j=G from hj];exact aK.not_blk D.out (by decide)));have c9:Hid (jZ i (bZ a b c) (some ⟨f.heap.size,0,none⟩)):=Ld ((i1.out.new H.out).fr u.out (λj hj=>by rw[show j=G from hj];exact aK.not_blk D.out (by decide)));have k1:Hid (aa w i):=Ld (((i2.out.tr S.out).tr H.out).fr u.out (λj hj=>by have l1:j=G:=hj;have:=d.out;omega));clear i4 i1 H D u c4 N b' b0;refine ah (λw'=>ac w' G 65 Y/\ac w' b4 75 YL) [(true,0),(true,1),(false,2),(false,3),(true,4)] (by kernel_rfl) (by kernel_rfl) ⟨(aa.dr (aa.refl i)).blk J.out,(aa.dr (aa.refl i)).blk O.out⟩ (λl2=>?_);refine bM (o:=.mk ..) (cs:=Y.toList) rfl rfl (.tmp 4) rfl rfl (λw' h=>h.1.rangeOf) underlying65 rfl (by rw[Array.length_toList,HY.out.2.1];rfl) ?_;refine bM (o:=.mk ..) (cs:=YL.toList) rfl rfl (.tmp 11) rfl rfl (λw' h=>h.2.rangeOf) underlying75 rfl (by rw[Array.length_toList,t.out.2];rfl) ?_;simp only[Act.put,bC,bD,bF];refine aj (o:=.mk ..) rfl (λK hK=>?_) (.inl rfl);refine cZ (cs:=Y) rfl (.tmp 8) (.tmp 55) rfl (by rw[HY.out.2.1];rfl) rfl rfl ((aa.dr (aa.refl i)).blk P.out) (by rw[HY.out.2.1];rfl) HY.out.2.2 ?_;intro wx j' z;simp only[Act.put,bC,bD,bF];refine hK.out _ _ (λ_=>⟨((aa.dr (aa.refl i)).blk J.out).fr z (λe=>by have:=d.out;omega),((aa.dr (aa.refl i)).blk O.out).fr z (λe=>by have:=d.out;omega)⟩) ?_;have j9:=Ld j';have c7:=Ld z;have R:Hid (ac wx T 75 qL):=Ld (((aa.dr (aa.refl i)).blk c5.out).fr z (λe=>by have:=d.out;omega));have i5:Hid (ac wx G 65 Y/\ac wx b4 75 YL):=Ld ⟨((aa.dr (aa.refl i)).blk J.out).fr z (λe=>by have:=d.out;omega),((aa.dr (aa.refl i)).blk O.out).fr z (λe=>by have:=d.out;omega)⟩;clear j' z hK K;refine aj (o:=.mk ..) rfl (λK hK=>?_) (.inl rfl);refine cZ (cs:=YL) rfl (.tmp 9) (.tmp 56) rfl (by rw[t.out.2];rfl) rfl rfl R.out (by rw[t.out.2];rfl) (by rw[t.out.1];exact wW _ _ _) ?_;intro wy j0 V;simp only[Act.put,bC,bD,bF];refine hK.out _ _ (λ_=>⟨i5.out.1.fr V (λe=>by have:=d.out;omega),i5.out.2.fr V (λe=>by have:=d.out;omega)⟩) ?_;have k':=Ld j0;have c8:=Ld V;have c6:Hid (ac wy b6 65 Y):=Ld (j9.out.fr V (λe=>by have:=d.out;omega));clear j0 V hK K
 iterate 1 (refine af (o:=.mk ..) rfl (λK hK=>?_);go_simp;refine hK _ ?_;clear hK K)
 refine au ?_
 go_wp2_with fail;refine bodyPost_ret (et rfl _ _ b6 T _ _ _ _ rfl c6.out underlying65 rfl (by rw[HY.out.2.1];rfl) rfl k'.out underlying75 rfl (by rw[t.out.2];rfl)) rfl ?_;rw[HY.out.1,t.out.1];refine⟨r',E1,f1,E2,f2,some ⟨f.heap.size,0,none⟩,16,rfl,?_,k0.out,k3.out,?_,?_⟩
 ·exact(((k2.out.new (aa.dr (aa.refl i))).fr c7.out (λy Z=>by rw[show y=b6 from Z];exact aK.not_blk ((aa.dr (aa.refl i)).blk P.out) (by decide))).fr c8.out (λy Z=>by rw[show y=T from Z];exact aK.not_blk R.out (by decide)))
 ·exact(((c9.out.new (aa.dr (aa.refl i))).fr c7.out (λy Z=>by rw[show y=b6 from Z];exact aK.not_blk ((aa.dr (aa.refl i)).blk P.out) (by decide))).fr c8.out (λy Z=>by rw[show y=T from Z];exact aK.not_blk R.out (by decide)))
 ·exact(((k1.out.tr (aa.dr (aa.refl i))).fr c7.out (λy Z=>by have:=d.out;have l':y=b6:=Z;omega)).fr c8.out (λy Z=>by have:=d.out;have l':y=T:=Z;omega))
section
variable {w:World}{base gd bs bf:Nat}{v:Value}{p:DP}
theorem nt(j:Dk w base gd bs bf v p)(h2:2<=p.size)(g:Nat)(P:g<4294967296):
    Calls prog 46 #[.pointer (some ⟨gd,0,none⟩),.int .u32 g] w λe w'=>e=.returned (.tuple #[.int .i64 (gj g p.size),.int .i64 (hlf p.size)])/\w=w':=by
 have t:=Ld (wH j);have u:=j.ok.s2;obtain⟨n,y⟩:=nm p.size;obtain⟨h,i⟩:=nm (hlf n);obtain⟨f,o⟩:=nm (gj g n);rw[<-y]at t h2 u⊢;rw[<-i,<-o];have q:h=(n-2)/2:=i;have c:f=2+g%2*h:=by rw[o,i];rfl
 have F:IntKind.i64.wrap ((n:Int)-2)=((n-2:Nat):Int):=by rw[IntWalk.i64_in _ (by omega)];omega
 have G:Int.tdiv ((n-2:Nat):Int) 2=(h:Int):=by rw[Int.tdiv_eq_ediv_of_nonneg (by omega)];omega
 have C:Int.tmod (g:Int) 2=((g%2:Nat):Int):=by rw[Int.tmod_eq_emod_of_nonneg (by omega)];omega
 obtain⟨r,z⟩:=nm (g%2);have d:r=0\/r=1:=by omega
 rw[<-z]at c C;have H:IntKind.i64.wrap ((r:Int))=(r:Int):=IntWalk.i64_in _ (by omega);obtain⟨m,hm⟩:=nm (r*h);have I:(r:Int)*(h:Int)=(m:Int):=by rw[hm];simp
 have D:m<=16384:=by rw[hm];rcases d with rfl|rfl<;>omega
 rw[<-hm]at c;have J:IntKind.i64.wrap (m:Int)=(m:Int):=IntWalk.i64_in _ (by omega);have N:IntKind.i64.wrap (2+(m:Int))=(f:Int):=by rw[IntWalk.i64_in _ (by omega)];omega
 have O:IntKind.u32.wrap (r:Int)=(r:Int):=by rw[IntKind.wrap_u32];omega
 have B:IntKind.i64.wrap (h:Int)=(h:Int):=IntWalk.i64_in _ (by omega);clear j h2 u y i o q c z d D hm
 go_enter func46,ntmps46
 go_wp2_with fail;refine t.out.mono ?_;rintro e R ⟨rfl,rfl⟩
 go_wp2_with fail;go_ret2;exact⟨rfl,rfl⟩
theorem mv (d:Dk w base gd bs bf v p):Calls prog 44 #[.pointer (some ⟨gd,0,none⟩)] w λe w'=>e= .returned (dP (if p.size<4 then 1 else 0))/\w=w':=by
 have c:=Ld (wH d);obtain⟨n,f⟩:=nm p.size;rw[<-f]at c⊢;clear d f
 by_cases h:n<4
 ·rw [if_pos h,bK (by decide)];have h1:(n:Int)<4:=by omega
  clear h
  go_enter func44,ntmps44
  go_wp2_with fail;refine c.out.mono ?_;rintro e i ⟨rfl,rfl⟩
  go_wp2_with fail;go_ret;exact⟨rfl,rfl⟩
 ·rw [if_neg h,cg];have h1:¬(n:Int)<4:=by omega
  clear h
  go_enter func44,ntmps44
  go_wp2_with fail;refine c.out.mono ?_;rintro e i ⟨rfl,rfl⟩
  go_wp2_with fail;go_ret;exact⟨rfl,rfl⟩
theorem uQ(N:Dk w base gd bs bf v p)(O:dC 4 2 w)(g:Nat)(P:g<4294967296):
    Calls prog 59 #[.pointer (some ⟨gd,0,none⟩),.int .u32 g] w (mo w base gd bs bf v (bU p g)):=by
 have H:=Ld N;have J:=Ld (mz g P w O);have z:=Ld (fN g);obtain⟨S,hS⟩:=nm (dx g);obtain⟨r,T⟩:=nm (g%2);obtain⟨R,F⟩:=nm (bU p g);have n:Hid (R=if p.wcode (r:Int)≠0 then(p.doWrite (r:Int) S,p.wcode (r:Int))else((p.doWrite (r:Int) S).doSync,(p.doWrite (r:Int) S).scode)):=Ld (by rw[F,hS,T];rfl);rw[<-F];rw[<-hS]at J z;have Z:Int.tmod (g:Int) 2=(r:Int):=by rw[Int.tmod_eq_emod_of_nonneg (by omega)];omega
 have e4:IntKind.i64.wrap ((r:Int))=(r:Int):=IntWalk.i64_in _ (by omega);have e5:IntKind.u32.wrap (r:Int)=(r:Int):=by rw[IntKind.wrap_u32];omega
 have V:Hid ((ag S).size=64):=Ld (by rw[aq,z.out.1]);clear N O P hS T F
 go_enter func59,ntmps59
 go_wp2_with fail;refine J.out.mono ?_;rintro e Y ⟨rfl,t⟩;have j:=Ld t;clear t
 go_upto_region 4 with(refine cE 5 rfl ?_;refine aH (s:=S) rfl rfl rfl _ _ rfl bO rfl rfl rfl z.out.1 ?_)
 refine fX λU i=>?_
 have G:Hid (ac U Y.heap.size 68 (ag S)):=Ld (by rw[i.out];exact ac.new _ _ _);have c:Hid (aa w U):=Ld (by rw[i.out];exact j.out.al _);clear i j
 go_wp2_with (refine cE 20 rfl ?_;refine ae rfl _ rfl underlying68 rfl (by rw[V.out];rfl) rfl G.out ?_)
 refine(lw (H.out.new c.out) (r:Int) z.out).mono ?_;rintro e w3 ⟨rfl,v3,o,q,u⟩;have f:Hid (dg w base gd bs bf v (p.doWrite (r:Int) S) w3 v3):=Ld ((dg.same H.out c.out).tr ⟨o,q,u⟩);clear o q u G c;obtain⟨wc,y⟩:=nm (p.wcode (r:Int));rw[<-y]at n⊢;clear y
 by_cases h0:wc=0
 ·have d:=Ld (n.out.trans (if_neg (by rw[h0];simp)));rw[h0,cg];clear h0 n
  go_wp2_with fail;refine(kP f.out.dk).mono ?_;rintro e w4 ⟨rfl,v4,B,C,D⟩
  go_wp2_with fail;go_ret;rw[d.out];exact⟨rfl,v4,f.out.tr ⟨B,C,D⟩⟩
 ·have d:=Ld (n.out.trans (if_pos h0));have I:=Ld (bK h0);rw[I.out];clear h0 n
  go_wp2_with fail;go_ret;rw[d.out];exact⟨congrArg Ending.returned I.out.symm,v3,f.out⟩
theorem Gp(p:DP){k:Nat}(c:k<2):(if k=0 then(0:Nat)else if k=1 then iW p 0 else jC p)<=(if k+1=1 then iW p 0 else jC p):=by
 have:k=0\/k=1:=by omega
 rcases this with rfl|rfl
 ·exact Nat.zero_le _
 ·exact Nat.le_max_left _ _
def sN(p:DP):Nat->Nat
 | 0=>0
 |k+1=>max (sN p k) (iW p k)
theorem pj(p:DP):sN p 2=jC p:=by show max (max 0 (iW p 0)) (iW p 1)=jC p;rw[Nat.zero_max];rfl
theorem DH{p:DP}(h:p.Ok)(a:Nat):iW p a<4294967296:=by
 unfold iW;split
 ·have h1:=fm (xs:=(p.rget (a:Int)).take 4) (λx c=>(h.rget _).2 x (List.mem_of_mem_take c));rw[List.length_take,(h.rget _).1]at h1;exact h1
 ·omega
theorem mr{p:DP}(h:p.Ok):∀k,sN p k<4294967296
 | 0=>by show 0<_;omega
 |k+1=>by
  have h1:=mr h k;have h2:=DH h k;show max _ _<_;omega
theorem wk(hD:Dk w base gd bs bf v p)(h2:2<=p.size)(hL:dC 4 2 w):
    Calls prog 45 #[.pointer (some ⟨gd,0,none⟩)] w λe w'=>e=.returned (.tuple #[.int .u32 (jC p),.nilIface])/\aa w w':=by
 have HD:=Ld hD;have HL:=Ld hL;have c3:=Ld h2;clear hD hL h2
 go_enter func45,ntmps45
 go_wp2_with fail;go_loopw [4,5,6,7,8,9,10] (λb _ _ _ _ _ i wr=>∃k:Nat,k<=2/\i=.int .i64 k/\b=.int .u32 (sN p k:Nat)/\Hid (aa w wr)) (λ_ _ _ _ _ _ i _=>2-(intOf i).toNat)
 case atStart=>exact⟨0,by omega,rfl,rfl,Ld (aa.refl _)⟩
 case round=>
  obtain⟨k,hk,rfl,rfl,HW⟩:=hrel
  by_cases c8:k<2
  ·have c9:(k:Int)<2:=by omega
   obtain⟨s,hs⟩:=nm (p.rget (k:Int));have z:Hid (aS s):=Ld (by rw[hs];exact HD.out.ok.rget _);have c4:Hid (p.rcode (k:Int)=0):=Ld (by unfold DP.rcode DP.within;rw[decide_eq_true (by have:=c3.out;omega),if_pos rfl]);have N:=Ld (kF (HD.out.new HW.out) (k:Int));rw[<-hs,c4.out,cg]at N;have HZ:Hid ((ag s).size=64):=Ld (by rw[aq,z.out.1]);obtain⟨g,hg⟩:=nm (aU (s.take 4))
   have HG:Hid (g<4294967296):=Ld (by
    have h1:=fm (xs:=s.take 4) (λx hx=>z.out.2 x (List.mem_of_mem_take hx));rw[List.length_take,z.out.1]at h1;rw[hg]
    exact h1)
   have b0:Hid (iW p k=if s=dx g/\g%2=k then g else 0):=Ld (by unfold iW;rw[<-hs,<-hg]);have c1:=Ld hg;clear hs hg
   go_wp2_with fail;refine N.out.mono ?_;rintro e w1 ⟨rfl,c'⟩;have b1:Hid (aa w w1):=Ld (HW.out.tr c');clear c' N HW
   go_upto_region 8 with(refine cE 6 rfl ?_;refine aH (s:=s) rfl rfl rfl _ _ rfl bO rfl rfl rfl z.out.1 ?_)
   refine fX λw2 Y=>?_
   obtain⟨b6,U⟩:=nm w1.heap.size;have t:Hid (ac w2 b6 68 (ag s)):=Ld (by rw[Y.out,U];exact ac.new _ _ _);have H:Hid (aa w w2):=Ld (by rw[Y.out];exact b1.out.al _);rw[<-U];clear Y b1 U;have b8:Hid (Rd (λ_=>True) w2 1 (some ⟨b6,0,none⟩) 4 (an (s.take 4))):=Ld (Rd.take (ov t.out z.out.1) (by omega));have c0:Hid (ba (s.take 4)):=Ld (λx hx=>z.out.2 x (List.mem_of_mem_take hx))
   go_wp2_with fail;refine(jg _ 4 _ (s.take 4) w2 b8.out c0.out (by omega)).mono ?_;rintro e w3 ⟨gr,rfl,hR,S,c7⟩;have HR:=Ld hR;have b3:Hid (aa w w3):=Ld (H.out.tr S);have B:Hid (ac w3 b6 68 (ag s)):=Ld (S.blk t.out);have b':Hid (w.heap.size<=gr/\b6<gr):=Ld (by have h1:=H.out.size;have h2:=t.out.lt;omega);have n4:((4:Nat):Int)=4:=rfl;clear hR S c7 b8 t H
   go_wp2_with fail;refine(dw HR.out 4 (by omega)).mono ?_;rintro e w4 ⟨rfl,-,R⟩
   have F:((⟨s.take 4,0⟩:Rs).num 4).1=g:=by
    unfold Rs.num Rs.raw Rs.left;rw[if_pos rfl,if_neg (by rw[List.length_take,z.out.1];decide),c1.out];show aU ((s.take 4).take 4)=_;rw[List.take_take];rfl
   rw[F];have C:Hid (ac w4 b6 68 (ag s)):=Ld (B.out.fr R (by have:=b'.out;omega));have I:Hid (aa w w4):=Ld (b3.out.fr R (λk hk=>by have:=b'.out;omega));have e9:IntKind.u32.wrap (g:Int)=(g:Int):=by rw[IntKind.wrap_u32];have:=HG.out;omega
   clear F R HR b3 B n4
   go_wp2_with fail;refine(mz g HG.out w4 (HL.out.new I.out)).mono ?_;rintro e w5 ⟨rfl,T⟩;obtain⟨m,hm⟩:=nm (dx g);have y:Hid (aS m):=Ld (by rw[hm];exact fN g);rw[<-hm]at b0⊢;have D:Hid (ac w5 b6 68 (ag s)):=Ld (T.blk C.out);have b7:Hid (aa w w5):=Ld (I.out.tr T);have O:Hid ((ag m).size=64):=Ld (by rw[aq,y.out.1]);clear T hm C I e9
   go_upto_region 12 with(refine cE 9 rfl ?_;refine aH (s:=m) rfl rfl rfl _ _ rfl bO rfl rfl rfl y.out.1 ?_)
   refine fX λw6 Z=>?_
   obtain⟨b9,V⟩:=nm w5.heap.size;have G:Hid (ac w6 b9 68 (ag m)):=Ld (by rw[Z.out,V];exact ac.new _ _ _);have o:Hid (aa w5 w6):=Ld (by rw[Z.out];exact(aa.refl _).al _);have j:Hid (ac w6 b6 68 (ag s)):=Ld (o.out.blk D.out);have J:Hid (aa w w6):=Ld (b7.out.tr o.out);rw[<-V];clear Z V o D b7;have heq:(Op.equalIn 10000 68 (.agg (ag s)) (.agg (ag m))).run prog w6=.ok (decide (s=m)) w6:=gJ (P:=prog) 9998 underlying68 underlying5 (sizeOf5) z.out.1 y.out.1 z.out.2 y.out.2 w6;have e1:Int.tmod (g:Int) 2=((g%2:Nat):Int):=by rw[Int.tmod_eq_emod_of_nonneg (by omega)];omega
   have e2:IntKind.u32.wrap (k:Int)=(k:Int):=by rw[IntKind.wrap_u32];omega
   have e4:IntKind.u32.wrap ((g%2:Nat):Int)=((g%2:Nat):Int):=by rw[IntKind.wrap_u32];omega
   have e3:((g%2:Nat):Int)=(k:Int)↔g%2=k:=by omega
   obtain⟨c,hc⟩:=nm (sN p k);have u:Hid (sN p (k+1)=max c (if s=m/\g%2=k then g else 0)):=Ld (by rw[<-b0.out,hc];rfl);have HK:=Ld hk;rw[<-hc];clear hc;obtain⟨q,hq⟩:=nm (g%2);rw[<-hq]at u e1 e3 e4;clear hq hk
   by_cases f:s=m
   ·rw[decide_eq_true f]at heq;have c5:=Ld f;clear f
    by_cases d:q=k
    ·have n:Hid (sN p (k+1)=max c g):=Ld (by rw[u.out,if_pos ⟨c5.out,d⟩]);have c6:=e3.2 d;clear e3 d
     go_wp2_with (first
      |(refine cE 34 rfl ?_;refine ae rfl _ rfl underlying68 rfl (by rw[HZ.out];rfl) rfl j.out ?_)
      |(refine cE 35 rfl ?_;refine ae rfl _ rfl underlying68 rfl (by rw[O.out];rfl) rfl G.out ?_))
     exact⟨⟨k+1,by omega,by go_num,by rw[n.out];congr 1;omega,J⟩,by simp[intOf];omega⟩
    ·have n:Hid (sN p (k+1)=c):=Ld (by rw [u.out,if_neg (λe=>d e.2)];exact Nat.max_eq_left (Nat.zero_le _));have c6:¬(q:Int)=(k:Int):=λe=>d (e3.1 e)
     clear e3 d
     go_wp2_with (first
      |(refine cE 34 rfl ?_;refine ae rfl _ rfl underlying68 rfl (by rw[HZ.out];rfl) rfl j.out ?_)
      |(refine cE 35 rfl ?_;refine ae rfl _ rfl underlying68 rfl (by rw[O.out];rfl) rfl G.out ?_))
     exact⟨⟨k+1,by omega,by go_num,by rw[n.out],J⟩,by simp[intOf];omega⟩
   ·rw[decide_eq_false f]at heq;have n:Hid (sN p (k+1)=c):=Ld (by rw[u.out,if_neg (λe=>f e.1)];exact Nat.max_eq_left (Nat.zero_le _));clear f e3
    go_wp2_with (first
     |(refine cE 34 rfl ?_;refine ae rfl _ rfl underlying68 rfl (by rw[HZ.out];rfl) rfl j.out ?_)
     |(refine cE 35 rfl ?_;refine ae rfl _ rfl underlying68 rfl (by rw[O.out];rfl) rfl G.out ?_))
    exact⟨⟨k+1,by omega,by go_num,by rw[n.out],J⟩,by simp[intOf];omega⟩
  ·have d':¬(k:Int)<2:=by omega
   obtain rfl:k=2:=by omega
   rw[pj];clear c8
   go_wp2_with fail;go_ret2;exact⟨rfl,HW.out⟩
end
def pr(p:DP):Nat->DP
 | 0=>p
 |k+1=>(pr p k).doWrite (k:Int) az
theorem lc{p:DP}(h:Up p):∀k,Up (pr p k)/\(pr p k).size=p.size
 | 0=>⟨h,rfl⟩
 |k+1=>⟨(lc h k).1.write _ _,(DP.doWrite_size _ _ _).trans (lc h k).2⟩
theorem yk{p:DP}:ef p=(bU (aB (pr p 2).doSync (aW p.size 1)).1 1).1:=rfl
theorem dg.nw{W w w':World}{gd bs bf:Nat}{v i:Value}{p q:DP}(h:dg w W.heap.size gd bs bf v q w' i)(c:Dk w W.heap.size gd bs bf v p)(d:aa W w):aa W w':=d.fr h.fr (λk f=>(c.ours k f).1)
section
variable {w:World}{base gd bs bf:Nat}{v:Value}{p:DP}
theorem tc (d:Dk w base gd bs bf v p) (h:p.size<4):Calls prog 14 #[.pointer (some ⟨gd,0,none⟩)] w λe w'=>e= .returned (dP 1)/\w=w':=by
 have c:=Ld (mv d);rw[if_pos h,bK (by decide)]at c;rw[bK (by decide)];clear d h
 go_enter func14,ntmps14
 go_wp2_with fail;refine c.out.mono ?_;rintro e f ⟨rfl,rfl⟩
 go_wp2_with fail;go_ret;exact⟨rfl,rfl⟩
theorem wu{W:World}(T:Dk w W.heap.size gd bs bf v p)(hN:aa W w)(hL:dC 4 2 W)(hu:Up p)(h4:4<=p.size):
    Calls prog 14 #[.pointer (some ⟨gd,0,none⟩)] w (mo w W.heap.size gd bs bf v (ef p,0)):=by
 have S:=Ld (mv T);rw[if_neg (by omega),cg]at S;have HD:=Ld T;have HL:=Ld hL;have HN:=Ld hN;have HU:=Ld hu;have R:=Ld h4;clear T hL hN hu h4
 go_enter func14,ntmps14
 go_wp2_with fail;refine S.out.mono ?_;rintro e w1 ⟨rfl,rfl⟩;clear S
 go_wp2_with fail;go_loopw [4,5,16] (λ_ _ i wr=>∃(k:Nat) (v':Value),k<=2/\i=.int .i64 k/\Hid (dg w W.heap.size gd bs bf v (pr p k) wr v')) (λ_ _ i _=>2-(intOf i).toNat)
 case atStart=>exact⟨0,v,by omega,rfl,Ld (dg.same HD.out (aa.refl _))⟩
 case round=>
  obtain⟨k,v1,hk,rfl,I⟩:=hrel
  by_cases V:k<2
  ·have b':(k:Int)<2:=by omega
   have G:=lc HU.out k;have N:=Ld (lw I.out.dk (k:Int) bh);rw[G.1.wcode (by omega) (by have:=R.out;omega),cg]at N;clear G
   go_wp2_with fail;refine N.out.mono ?_;rintro e w3 ⟨rfl,v3,o,t,u⟩;have d:Hid (dg w W.heap.size gd bs bf v (pr p (k+1)) w3 v3):=Ld (I.out.tr ⟨o,t,u⟩);clear o t u I N
   go_wp2_with fail;exact⟨⟨k+1,v3,by omega,by go_num,d⟩,by simp[intOf];omega⟩
  ·have b0:¬(k:Int)<2:=by omega
   obtain rfl:k=2:=by omega
   have G:=lc HU.out 2;obtain⟨q,Y⟩:=nm (pr p 2);have n:Hid (ef p=(bU (aB q.doSync (aW p.size 1)).1 1).1):=Ld (by rw[Y];exact yk);rw[<-Y]at I G;have B:=Ld (kP I.out.dk);rw[G.1.scode,cg]at B;obtain⟨D,O⟩:=nm q.doSync;have f:Hid (Up D/\D.size=p.size):=Ld (by rw[O];exact⟨G.1.sync,(DP.doSync_size q).trans G.2⟩);rw[<-O]at B n;clear G Y O V
   go_wp2_with fail;refine B.out.mono ?_;rintro e w3 ⟨rfl,v3,o,t,u⟩;have d:Hid (dg w W.heap.size gd bs bf v D w3 v3):=Ld (I.out.tr ⟨o,t,u⟩);clear o t u I B;have z:=Ld (nt d.out.dk (by have:=f.out.2;have:=R.out;omega) 1 (by decide));rw[f.out.2]at z;obtain⟨F,y⟩:=nm (gj 1 p.size);obtain⟨hl,j⟩:=nm (hlf p.size);have c:=fk (g:=1) R.out;have H:=Ld (pz d.out.dk F hl 1 (by rw[j];exact c.1) (by rw[j,y,f.out.2];exact c.2.1) (by decide) (by decide));have C:Hid ((aB D (bZ F hl 1)).2=0/\Up (aB D (bZ F hl 1)).1/\(aB D (bZ F hl 1)).1.size=D.size):=Ld (f.out.1.wipe (l:=bZ F hl 1) (by show F+hl<=_;rw[j,y,f.out.2];exact c.2.1) (Nat.zero_le _));have n:Hid (ef p=(bU (aB D (bZ F hl 1)).1 1).1):=Ld (by rw[n.out,y,j];rfl);rw[<-y,<-j]at z;obtain⟨r,hr⟩:=nm (aB D (bZ F hl 1));rw[<-hr]at H C n;clear y j c hr
   go_wp2_with fail;refine z.out.mono ?_;rintro e w4 ⟨rfl,rfl⟩
   go_wp2_with fail;refine H.out.mono ?_;intro e w4 Z;unfold gT at Z;rw[if_pos C.out.1]at Z;obtain⟨gl,v4,rfl,-,-,P⟩:=Z;have J:Hid (dg w W.heap.size gd bs bf v r.1 w4 v4):=Ld (d.out.tr P);clear P d H z
   go_wp2_with fail;refine(uQ J.out.dk (HL.out.new (J.out.nw HD.out HN.out)) 1 (by decide)).mono ?_;rintro e w5 ⟨rfl,v5,U⟩;rw[(C.out.2.1.proc 1 (by have:=C.out.2.2;have:=f.out.2;have:=R.out;omega)).1,cg]
   go_wp2_with fail;go_ret;exact⟨cg.symm▸rfl,v5,by show dg w W.heap.size gd bs bf v (ef p) w5 v5;rw[n.out];exact J.out.tr U⟩
end
end Go.Proofs.YtfchcdbfalgdlaaGreatDoor
namespace Go.Proofs.YtfchcdbfalgdlaaGreatDoor
open _root_.Go.Proofs.Tryz
open Go.RowKit Go.Sort Go.Maps
section
variable {s:SW}{K:List (List Int)}{L:List PC}
theorem jz.st(h:jz s K)(d:s.broken=false):St s.p s.l (aW s.p.size s.gen) K K.length:=by
 obtain⟨b,m,T,h1,h2,c⟩:=h.inv;exact⟨h.log,b,m,T,h1,λ_=>h2 d,c⟩
theorem jz.app1(h:jz s K)(C:s.broken=false)(I:dN L=true)(H:∀c∈L,Dc c)(q:(bw L).length<=65536):
    ((aD s.p s.l (bw L)).2.2=0/\(aD s.p s.l (bw L)).1.scode=0/\jz {s with p:=(aD s.p s.l (bw L)).1.doSync,l:=(aD s.p s.l (bw L)).2.1,t:=doPs s.t L} (K++[bw L]))\/
    aD s.p s.l (bw L)=(s.p,s.l,8)\/
    ((aD s.p s.l (bw L)).2.2≠0/\fK (aD s.p s.l (bw L)).2.2=true/\jz {s with p:=(aD s.p s.l (bw L)).1,l:=(aD s.p s.l (bw L)).2.1,broken:=true} K):=by
 have hS:=h.st C;have j:ig (bw L):=tH (by have:=mF L;omega) q (jo H);have d:=lY hS j.2;have n:=hS.app rfl j.2;obtain⟨a,R⟩:=nM (aD s.p s.l (bw L));have i:=kr s.p s.l (bw L);rw[<-R]at d n i⊢;obtain⟨J,B⟩:=d.ok h.ok;have y:=fC (d.out (gP (a:=s.gen%2) (by omega))) h.man.1;have z:=fC (d.out (gP (a:=(s.gen+1)%2) (by omega))) h.oth.1;obtain⟨t,t1,t2⟩:=h.tab;rcases i with⟨G,c2,N⟩|c|c
 ·have hd:=N (h.up C);have F:a.1.scode=0:=by unfold DP.scode;rw [hd];rfl
  have D:a.1.doSync=a.1.sync:=by unfold DP.doSync;rw[hd];rfl
  refine .inl ⟨G,F,?_⟩
  have f:St a.1 a.2.1 (aW s.p.size s.gen) (K++[bw L]) K.length:=by
   rcases n with⟨-,h1⟩|⟨h1,-⟩
   ·exact h1
   ·exact absurd G h1
  have o:a.2.1.broken=false:=by rw[c2];exact h.lb C
  obtain⟨T,P⟩:=f.bare o;have O:=P.sync;have hz:a.1.sync.size=s.p.size:=B;rw[D];refine⟨J.sync,by show 4<=a.1.sync.size;rw[hz];exact h.n4,h.g1,h.g2,⟨rfl,?_⟩,⟨rfl,?_⟩,?_,λ_=>o,⟨[],0,T,.inl rfl,λ_=>rfl,?_⟩,λ_ x _ S=>absurd rfl S,λ_=>hd,⟨doPs t L,oa K [] t1 I,rl L t2⟩,h.tok.doPs (jH I).2.2 H⟩
  ·show ci a.1.sync ((s.gen%2:Nat):Int)=dx s.gen;rw[<-cG (p:=a.1.sync) rfl,fb,cG y.1,y.2];exact h.man.2
  ·show ci a.1.sync (((s.gen+1)%2:Nat):Int)=az\/∃g,g<s.gen/\ci a.1.sync (((s.gen+1)%2:Nat):Int)=dx g;rw[<-cG (p:=a.1.sync) rfl,fb,cG z.1,z.2];exact h.oth.2
  ·show a.2.1={chain (aW a.1.sync.size s.gen) (K++[bw L])with broken:=a.2.1.broken}
   rw[hz];exact f.log
  ·show iC a.1.sync (aW a.1.sync.size s.gen) _ _ [] 0 T;rw[hz];exact O
 ·exact .inr (.inl c)
 ·have u:a.2.2≠0:=λe=>by rw [e] at c;cases c
  have f:St a.1 a.2.1 (aW s.p.size s.gen) K K.length:=by
   rcases n with⟨h1,-⟩|⟨-,h1⟩
   ·exact absurd h1 u
   ·exact h1
  obtain⟨b,m,T,U,-,V⟩:=f.inv;refine .inr (.inr ⟨u,c,⟨J,by show 4<=a.1.size;rw[B];exact h.n4,h.g1,h.g2,⟨y.1,y.2.trans h.man.2⟩,⟨z.1,by rw[show ci _ _=_ from z.2];exact h.oth.2⟩,?_,(λe=>by cases e),⟨b,m,T,U,(λe=>by cases e),?_⟩,(λe=>by cases e),(λe=>by cases e),⟨t,t1,t2⟩,h.tok⟩⟩)
  ·show a.2.1={chain (aW a.1.size s.gen) K with broken:=a.2.1.broken}
   rw[B];exact f.log
  ·show iC a.1 (aW a.1.size s.gen) K K.length b m T;rw[B];exact V
theorem Bd{c:Int}(h:fK c=true):c≠0/\c≠8:=by
 unfold fK at h;have:=of_decide_eq_true h;exact⟨this.1,this.2.1⟩
theorem jz.commit(h:jz s K)(H:∀c∈L,Dc c)(P:s.gen+1<4294967296):∃z,jz (ed s L).1 z/\(ed s L).1.p.size=s.p.size/\(ed s L).1.gen<=s.gen+1/\
    (((ed s L).2=0/\(ed s L).1.t=doPs s.t L/\dN L=true)\/((ed s L).2≠0/\(ed s L).1.t=s.t)):=by
 by_cases n:dN L=false
 ·have e:ed s L=(s,2):=by unfold ed;rw [if_pos n]
  rw[e];exact⟨K,h,rfl,Nat.le_succ _,.inr ⟨(by decide:(2:Int)≠0),rfl⟩⟩
 have I:dN L=true:=by simpa using n
 by_cases c2:s.broken=true
 ·have e:ed s L=(s,10):=by unfold ed;rw [if_neg n,if_pos c2]
  rw[e];exact⟨K,h,rfl,Nat.le_succ _,.inr ⟨(by decide:(10:Int)≠0),rfl⟩⟩
 have J:s.broken=false:=by simpa using c2
 by_cases F:65536<(bw L).length
 ·have e:ed s L=(s,3):=by unfold ed;rw [if_neg n,if_neg c2,if_pos F]
  rw[e];exact⟨K,h,rfl,Nat.le_succ _,.inr ⟨(by decide:(3:Int)≠0),rfl⟩⟩
 have N:∀r,di s (bw L)=r->ed s L=if r.2≠0 then({r.1 with broken:=r.1.broken||fK r.2},r.2)else
     if r.1.p.scode≠0 then({r.1 with p:=r.1.p.doSync,broken:=r.1.broken||fK r.1.p.scode},r.1.p.scode)else({r.1 with p:=r.1.p.doSync,t:=doPs r.1.t L},0):=λr e=>by
  unfold ed;rw[if_neg n,if_neg c2,if_neg F,e]
 have one:∀(s1:SW) (i:List (List Int)),jz s1 i->s1.broken=false->s1.p.size=s.p.size->s1.gen<=s.gen+1->s1.t=s.t->∀r:SW×Int,di s (bw L)=r->
     r=({s1 with p:=(aD s1.p s1.l (bw L)).1,l:=(aD s1.p s1.l (bw L)).2.1},(aD s1.p s1.l (bw L)).2.2)->((aD s1.p s1.l (bw L)).2.2=8->aD s1.p s1.l (bw L)=(s1.p,s1.l,8))->
     ∃z,jz (ed s L).1 z/\(ed s L).1.p.size=s.p.size/\(ed s L).1.gen<=s.gen+1/\(((ed s L).2=0/\(ed s L).1.t=doPs s.t L/\dN L=true)\/((ed s L).2≠0/\(ed s L).1.t=s.t)):=by
  intro s1 i h1 f hz j ht r e O _;have d:=N r e;rw[O]at d;have q:ig (bw L):=tH (by have:=mF L;omega) (by omega) (jo H);have u:(aD s1.p s1.l (bw L)).1.size=s1.p.size:=((lY (h1.st f) q.2).ok h1.ok).2;rcases h1.app1 f I H (by omega)with⟨a1,B,C⟩|a1|⟨a1,B,C⟩
  ·simp only at d;rw[if_neg (by rw[a1];simp),if_neg (by rw[B];simp)]at d;rw[d];exact⟨_,C,by show(DP.doSync _).size=_;rw[DP.doSync_size,u,hz],j,.inl ⟨rfl,by show doPs s1.t L=_;rw[ht],I⟩⟩
  ·rw [a1] at d;simp only at d;rw [if_pos (by decide)] at d;rw [d];refine ⟨i,?_,hz,j,.inr ⟨(by decide:(8:Int)≠0),ht⟩⟩;have:({s1 with p:=s1.p,l:=s1.l,broken:=s1.broken||fK 8}:SW)=s1:=by rw [f];obtain ⟨_,_,_,_,_⟩:=s1;dsimp only at f;rw [f];rfl
   show jz ({s1 with p:=s1.p,l:=s1.l,broken:=s1.broken||fK 8}:SW) i;rw[this];exact h1
  ·simp only at d;rw[if_pos a1]at d;rw[d];refine⟨i,?_,by show(aD s1.p s1.l (bw L)).1.size=_;rw[u,hz],j,.inr ⟨a1,ht⟩⟩;show jz ({s1 with p:=_,l:=_,broken:=s1.broken||fK (aD s1.p s1.l (bw L)).2.2}:SW) i;rw[B,Bool.or_true];exact C
 by_cases o:(aD s.p s.l (bw L)).2.2=8
 ·have G:aD s.p s.l (bw L)=(s.p,s.l,8):=by
   rcases kr s.p s.l (bw L)with⟨x,-⟩|x|x
   ·rw[x]at o;cases o
   ·exact x
   ·exact absurd o (Bd x).2
  obtain⟨i,h1,ht,hz,D⟩:=h.sweep J P;rcases D with⟨d1,d2,d3⟩|⟨d1,d2,d3⟩
  ·have e:di s (bw L)=({(aN s).1 with p:=(aD (aN s).1.p (aN s).1.l (bw L)).1,l:=(aD (aN s).1.p (aN s).1.l (bw L)).2.1},(aD (aN s).1.p (aN s).1.l (bw L)).2.2):=by
    unfold di;rw[G];simp only;rw[if_neg (by decide)];rw[show({s with p:=s.p,l:=s.l}:SW)=s from rfl,if_neg (by rw[d1];simp)]
   refine one (aN s).1 i h1 d2 hz (by rw[d3];exact Nat.le_refl _) ht _ e rfl λx=>?_
   rcases kr (aN s).1.p (aN s).1.l (bw L)with⟨y,-⟩|y|y
   ·rw[y]at x;cases x
   ·exact y
   ·exact absurd x (Bd y).2
  ·have e:di s (bw L)=aN s:=by
    unfold di;rw[G];simp only;rw[if_neg (by decide)];rw[show({s with p:=s.p,l:=s.l}:SW)=s from rfl,if_pos d1]
   have d:=N _ e;rw[if_pos d1]at d;rw[d];refine⟨i,?_,hz,by show(aN s).1.gen<=_;rw[d3];exact Nat.le_succ _,.inr ⟨d1,ht⟩⟩
   have:({(aN s).1 with broken:=(aN s).1.broken||fK (aN s).2}:SW)=(aN s).1:=by
    rw[d2,Bool.or_self,<-d2]
   show jz ({(aN s).1 with broken:=(aN s).1.broken||fK (aN s).2}:SW) i;rw[this];exact h1
 ·refine one s K h J rfl (Nat.le_succ _) rfl _ ?_ rfl (λx=>absurd x o);unfold di;rw[if_pos o]
theorem jz.fused(h:jz s K)(f:Int)(i:f<=9223372036854775807):jz {s with p:=s.p.fused f} K:=by
 obtain⟨b,m,T,h1,h2,d⟩:=h.inv;have c:=d.fused f i;exact⟨c.pok,h.n4,h.g1,h.g2,h.man,h.oth,h.log,h.lb,⟨b,m,T,h1,h2,c⟩,h.rest,h.up,h.tab,h.tok⟩
theorem Bj{p:DP}(h1:p.fresh=λ_=>none)(h2:p.order=[])(f:Up p)(keep:List Bool):p.cut keep=p:=by
 obtain⟨n,sure,fresh,order,fuse,down⟩:=p;obtain⟨c,d⟩:=f;dsimp only at h1 h2 c d;subst h1 h2 c d;rfl
theorem Bn{p:DP}(J:p.Ok)(hu:Up p)(S:4<=p.size):jz ⟨ef p,aW p.size 1,[],1,false⟩ []/\(ef p).size=p.size/\∀keep,(ef p).cut keep=ef p:=by
 have N:=hu.wcode (a:=0) (by omega) (by omega);have y:=hu.write 0 az;have O:=y.wcode (a:=1) (by omega) (by rw[DP.doWrite_size];omega);have z:=y.write 1 az;obtain⟨q,F⟩:=nM (((p.doWrite 0 az).doWrite 1 az).doSync);have u:q=((p.doWrite 0 az).doWrite 1 az).sync:=by rw[F];unfold DP.doSync;rw[z.down];rfl
 have C:Up q:=by rw[F];exact z.sync
 have t:kV (λ_=>True) p q:=by rw[F];exact((kV.refl.write trivial bh).write trivial bh).sync
 obtain⟨V,P⟩:=t.ok J;have n:∀x,q.fresh x=none:=λx=>by rw[u];rfl
 have I:∀x:Int,q.get x=if x=1 then az else if x=0 then az else p.get x:=λx=>by rw[u,fb,iI O,iI N]
 have f:=fk (g:=1) S;obtain⟨r,T⟩:=nM (aB q (aW p.size 1));obtain⟨w1,H,w3⟩:=C.wipe (l:=aW p.size 1) (by rw[P];exact f.2.1) (Nat.zero_le _);have c:kV (vL (aW p.size 1)) q (aB q (aW p.size 1)).1:=mS _ _ (Nat.zero_le _);obtain⟨-,D⟩:=vK (p:=q) (a:=gj 1 p.size) (sz:=hlf p.size) (g:=1) V C.down (by rw[P];exact f.2.1) (by omega) (by omega) (λx _ G=>absurd (n _) G) w1;have D:iC (aB q (aW p.size 1)).1 (aW p.size 1) [] 0 [] 0 (λ_=>none):=D;rw[<-T]at w1 H w3 c D;obtain⟨p1,p2⟩:=c.ok V;have U:=H.wcode (a:=((1%2:Nat):Int)) (by omega) (by omega)
 have i:ef p=(r.1.doWrite ((1%2:Nat):Int) (dx 1)).sync:=by
  unfold ef;rw[<-F,<-T];unfold bU;rw[if_neg (by rw[U];simp)];show DP.doSync _=_;unfold DP.doSync;rw[(H.write _ _).down];rfl
 have j:kV (λx=>x=((1%2:Nat):Int)) r.1 (ef p):=by
  have:ef p=(r.1.doWrite ((1%2:Nat):Int) (dx 1)).doSync:=by
   rw[i];unfold DP.doSync;rw[(H.write _ _).down];rfl
  rw[this];exact(kV.write (R:=λx=>x=((1%2:Nat):Int)) kV.refl rfl (fN 1)).sync
 obtain⟨Y,Z⟩:=j.ok p1;have hz:(ef p).size=p.size:=by rw[Z,p2,P]
 have d:(ef p).fresh=λ_=>none:=by rw[i];rfl
 have o:∀x,ci (ef p) x=if x=((1%2:Nat):Int)then dx 1 else r.1.get x:=λx=>by
  rw[<-cG (by rw[d]),i,fb,iI U]
 have B:Up (ef p):=(wt hu S).1;refine⟨⟨Y,by show 4<=(ef p).size;omega,Nat.le_refl _,by show(1:Nat)<_;omega,⟨by show(ef p).fresh _=none;rw[d],by show ci (ef p) _=_;rw[o,if_pos rfl]⟩,⟨by show(ef p).fresh _=none;rw[d],.inl ?_⟩,?_,λ_=>rfl,⟨[],0,λ_=>none,.inl rfl,λ_=>rfl,?_⟩,λ_ x _ G=>absurd (by show(ef p).fresh _=none;rw[d]) G,λ_=>B.down,⟨[],rfl,List.Perm.refl _⟩,ki.nil⟩,hz,λkeep=>Bj d (by rw[i];rfl) B keep⟩
 ·show ci (ef p) (((1+1)%2:Nat):Int)=az;rw[o,if_neg (by decide)];have h5:=fC (c.out (gP (a:=0) (by omega))) (n _);have h6:r.1.get ((0:Nat):Int)=q.get ((0:Nat):Int):=(c.out (gP (a:=0) (by omega))).get;show r.1.get ((0:Nat):Int)=az;rw[h6,I];rfl
 ·show aW p.size 1={chain (aW (ef p).size 1) []with broken:=false}
  rw[hz];rfl
 ·show iC (ef p) (aW (ef p).size 1) [] 0 [] 0 (λ_=>none);rw [hz];refine D.out Y (by rw [Z]) λx G=>j.out λe=> ?_
  have hn:2<=gj 1 p.size:=f.2.2;have e':(((gj 1 p.size)+x:Nat):Int)=((1%2:Nat):Int):=e;omega
end
def CW(M:Nat->Prop)(W w:World)(k:Nat):Prop:=W.heap.size<=k/\(M k\/aK 102 w k\/aK 177 w k\/aK 120 w k\/aK 3 w k)
def dZ(M:Nat->Prop)(W w w':World):Prop:=Fr (CW M W w) w w'
section
variable {M M':Nat->Prop}{W w w' w'':World}
theorem dZ.new(h:aa w w'):dZ M W w w':=h.toFr _
theorem dZ.of{S:Nat->Prop}(hF:Fr S w w')(h:∀k,S k->CW M W w k):dZ M W w w':=hF.mono λk _=>h k
theorem mx{t:TypeId}{S:Nat->Prop}{k:Nat}(hF:Fr S w w')(c:k<w.heap.size)(d:¬S k)(h:aK t w' k):aK t w k:=by
 obtain⟨cs,fz,h⟩:=h;exact⟨cs,fz,(hF.block k c d).symm.trans h⟩
theorem dZ.tr(h:dZ M W w w')(k:dZ M W w' w''):dZ M W w w'':=by
 refine h.trans' k (λb d f=>?_)
 by_cases c:CW M W w b
 ·exact c
 ·refine ⟨f.1,?_⟩;rcases f.2 with e | e | e | e | e
  ·exact .inl e
  ·exact .inr (.inl (mx h d c e))
  ·exact .inr (.inr (.inl (mx h d c e)))
  ·exact .inr (.inr (.inr (.inl (mx h d c e))))
  ·exact .inr (.inr (.inr (.inr (mx h d c e))))
theorem dZ.mono(h:dZ M W w w')(d:∀k,W.heap.size<=k->M k->M' k):dZ M' W w w':=Fr.mono h λk _ c=>⟨c.1,c.2.imp (d k c.1) id⟩
theorem dZ.blk(h:dZ M W w w'){b t:Nat}{cs:Array Value}(c:ac w b t cs)(j:¬M b)(h1:t≠102)(h2:t≠177)(d:t≠120)(f:t≠3):ac w' b t cs:=by
 refine ac.fr c h (λi=>?_);rcases i.2 with e|e|e|e|e
 ·exact j e
 ·exact aK.not_blk c h1 e
 ·exact aK.not_blk c h2 e
 ·exact aK.not_blk c d e
 ·exact aK.not_blk c f e
theorem dZ.nw(h:dZ M W w w')(d:aa W w):aa W w':=d.fr h (λ_ c=>c.1)
theorem th{t d:TypeId}{k:Nat}(h:aK t w k)(c:aK d w k):t=d:=by
 obtain⟨cs,fz,h⟩:=h;obtain⟨cs',f,c⟩:=c;rw[h]at c;injection c with c;injection c with _ e _
theorem gN{t:TypeId}{k:Nat}(i:¬M k)(h1:102≠t)(h2:177≠t)(c:120≠t)(d:3≠t)(h:aK t w k):¬CW M W w k:=λf=>by
 rcases f.2 with e|e|e|e|e
 ·exact i e
 ·exact h1 (th e h)
 ·exact h2 (th e h)
 ·exact c (th e h)
 ·exact d (th e h)
theorem Dr{P:Program}{i:TypeId}{b n:Nat}{f:Lit->Option Value}(h:aJ w P i b n f)(d:¬M b):¬CW M W w b:=λc=>by
 rcases c.2 with e|e|e|e|e
 ·exact d e
 all_goals exact aK.not_map h e
theorem dZ.tb{X:Nat->Prop}{base g b m:Nat}{E:gh}(h:dZ M W w w')(c:dI X w base g b m E)(i:∀k,M k->k≠b/\¬aK 5 w k/\¬aK 123 w k):dI X w' base g b m E:=by
 obtain⟨f,n,-⟩:=c.map;refine c.fr h (λd=>?_) (λd=>?_) (λk d j=>?_)
 ·exact gN (λhm=>(i _ hm).2.2 ⟨_,_,c.blk⟩) (by decide) (by decide) (by decide) (by decide) ⟨_,_,c.blk⟩ d
 ·exact Dr n (λhm=>(i _ hm).1 rfl) d
 ·exact gN (λhm=>(i _ hm).2.1 (c.xs k j).2) (by decide) (by decide) (by decide) (by decide) (c.xs k j).2 d
theorem sS {gd bs bf:Nat} {v:Value} {p:DP} (c:Dk w W.heap.size gd bs bf v p) (h1:M bs) (h2:M bf):∀k,bW gd bs bf v k->CW M W w k:=λk d=>⟨(c.ours k d).1,by
 rcases d with rfl|rfl|rfl|f
 ·exact .inr (.inr (.inr (.inl ⟨_,_,c.blk⟩)))
 ·exact .inl h1
 ·exact .inl h2
 ·exact .inr (.inr (.inr (.inr (cY c.own f))))⟩
end
def iY(bs bf bt k:Nat):Prop:=k=bs\/k=bf\/k=bt
structure jA(W w:World)(gs gd bs bf bt:Nat)(s:SW)(mm gl gt:Nat)(v:Value)(X:Nat->Prop)(m:Nat)(E:gh):Prop where
 blk:ac w gs 102 #[.pointer (some ⟨gd,0,none⟩),.pointer (some ⟨gl,0,none⟩),.pointer (some ⟨gt,0,none⟩),.int .u32 s.gen,.bool s.broken]
 dk:Dk w W.heap.size gd bs bf v s.p
 lg:Lg w gl gd s.l s.p.size
 tb:dI X w W.heap.size gt bt m E
 lo:W.heap.size<=gs/\W.heap.size<=gl
 ne:bt≠bs/\bt≠bf
 ct:dy E=s.t
 mm:m<=mm/\E.length<=mm
 gen:s.gen<4294967296
 n4:4<=s.p.size
def dO(W w:World)(gs gd bs bf bt:Nat)(s:SW)(mm:Nat):Prop:=∃gl gt v X m E,jA W w gs gd bs bf bt s mm gl gt v X m E
section
variable {W w w':World}{gs gd bs bf bt mm gl gt m:Nat}{s:SW}{v:Value}{X:Nat->Prop}{E:gh}
theorem jA.new(h:jA W w gs gd bs bf bt s mm gl gt v X m E)(c:aa w w'):jA W w' gs gd bs bf bt s mm gl gt v X m E:=
 ⟨c.blk h.blk,h.dk.new c,h.lg.new c,h.tb.new c,h.lo,h.ne,h.ct,h.mm,h.gen,h.n4⟩
theorem dO.new(h:dO W w gs gd bs bf bt s mm)(c:aa w w'):dO W w' gs gd bs bf bt s mm:=by
 obtain⟨gl,gt,v,X,m,E,h⟩:=h;exact⟨gl,gt,v,X,m,E,h.new c⟩
theorem jA.c0(h:jA W w gs gd bs bf bt s mm gl gt v X m E):w.cell? ⟨gs,0,none⟩=some (.pointer (some ⟨gd,0,none⟩)):=h.blk.cell 0
theorem jA.c1(h:jA W w gs gd bs bf bt s mm gl gt v X m E):w.cell? ⟨gs,1,none⟩=some (.pointer (some ⟨gl,0,none⟩)):=h.blk.cell 1
theorem jA.c2(h:jA W w gs gd bs bf bt s mm gl gt v X m E):w.cell? ⟨gs,2,none⟩=some (.pointer (some ⟨gt,0,none⟩)):=h.blk.cell 2
theorem jA.c3(h:jA W w gs gd bs bf bt s mm gl gt v X m E):w.cell? ⟨gs,3,none⟩=some (.int .u32 s.gen):=h.blk.cell 3
theorem jA.c4(h:jA W w gs gd bs bf bt s mm gl gt v X m E):w.cell? ⟨gs,4,none⟩=some (.bool s.broken):=h.blk.cell 4
theorem jA.mps(h:jA W w gs gd bs bf bt s mm gl gt v X m E):∀k,iY bs bf bt k->∀t,¬aK t w k:=λk d t=>by
 obtain⟨f,c,-⟩:=h.tb.map;rcases d with rfl|rfl|rfl
 ·exact aK.not_map h.dk.ms
 ·exact aK.not_map h.dk.mw
 ·exact aK.not_map c
theorem jA.disk(h:jA W w gs gd bs bf bt s mm gl gt v X m E){S:Nat->Prop}{j:Value}{q:DP}(hF:Fr S w w')(hS:∀k,S k->CW (iY bs bf bs) W w k/\k≠gs/\k≠gl)(n:Dk w' W.heap.size gd bs bf j q)(hz:q.size=s.p.size):
    jA W w' gs gd bs bf bt {s with p:=q} mm gl gt j X m E/\dZ (iY bs bf bt) W w w':=by
 have i:dZ (iY bs bf bs) W w w':=dZ.of hF λk c=>(hS k c).1
 refine⟨⟨h.blk.fr hF (λf=>(hS _ f).2.1 rfl),n,?_,?_,h.lo,h.ne,h.ct,h.mm,h.gen,by show 4<=q.size;rw[hz];exact h.n4⟩,i.mono λk _ c=>?_⟩
 ·show Lg w' gl gd s.l q.size;rw[hz];exact h.lg.fr hF (λf=>(hS _ f).2.2 rfl)
 ·refine dZ.tb i h.tb (λk c=> ?_);have d:iY bs bf bt k:=by rcases c with e | e | e;exact .inl e;exact .inr (.inl e);exact .inl e
  refine⟨?_,h.mps k d _,h.mps k d _⟩;rintro rfl;rcases c with e|e|e
  ·exact h.ne.1 e
  ·exact h.ne.2 e
  ·exact h.ne.1 e
 ·rcases c with e | e | e
  ·exact .inl e
  ·exact .inr (.inl e)
  ·exact .inl e
theorem jA.dkfr(h:jA W w gs gd bs bf bt s mm gl gt v X m E):∀k,bW gd bs bf v k->CW (iY bs bf bs) W w k/\k≠gs/\k≠gl:=λk c=>
 ⟨sS h.dk (.inl rfl) (.inr (.inl rfl)) k c,λe=>by subst e;exact gu h.dk h.blk (λe=>ac.ne_ h.blk h.dk.blk (by decide) e) (by decide) c,λe=>by subst e;exact fc h.dk h.lg c⟩
end
end Go.Proofs.YtfchcdbfalgdlaaGreatDoor
