/- Texts of one proof. No condition but each one's own. -/
import Derived.Test.YtfchcdbfalgdlaaGreatDoorSweepPlaysM15
import Derived.Test.YtfchcdbfalgdlaaGreatDoorSweepPlaysM9
import Derived.Deep.CutBlock
set_option maxHeartbeats 4000000
set_option maxRecDepth 100000
set_option linter.unusedVariables false
set_option linter.unusedSimpArgs false
namespace Go.Proofs.YtfchcdbfalgdlaaGreatDoor
open _root_.Go.Proofs.Tryz
open Go.RowKit Go.Maps
theorem DK{P:Program}{b:Array Oper}{Q:Exit->Act->World->Prop}{S:World->Prop}{last i:Nat}{o:Oper}{d:List (Bool×Nat)}{a:Act}{w:World}{t e:TypeId}{size bytes:Nat}(E:aY P t e size bytes)(j:size<=16777216)(c:b[i]?=some o)(k:Region.wanted o (yielded b a.tmps)=true)(x:Operand)
    (g:o.op=.buildSlice t 1 #[(0,x)]) (cs:Array Value) (l:a.eval x=.agg cs) (f:cs.size=size)
    (h:(i≠last->S (w.alloc (.cells cs e)))/\dc P b S last Q d (a.put o.dst (.slice (some ⟨w.heap.size,0,none⟩) 1 1)) (w.alloc (.cells cs e))):dc P b S last Q ((false,i)::d) a w:=by
 refine⟨o,c,?_⟩;rw[if_pos k];unfold Oper.wp execOp;simp only[g,Sem.run_bind,List.map_toArray,List.map_cons,List.map_nil,l,oI E j (.agg cs) f w,Result.andThen_ok];exact h
theorem vu:(prog.info? 68).map (λi=>(i.zero,i.size))=some (some (.agg (ag az)),64):=by kernel_rfl
theorem rR:(prog.info? 65).map (λi=>(i.zero,i.size))=some (some (.agg #[.int .i64 0,.slice none 0 0,.slice none 0 0,.int .i64 0,.bool false]),5):=by kernel_rfl
def AH(b:World)(size:Int)(g:Nat)(L:List PU)(wx:World):Prop:=∃A c,ac wx g 65 #[.int .i64 size,.slice A L.length c,.slice none 0 0,.int .i64 (-1),.bool false]/\wx.ownsRow b.heap.size 132 65 (.slice A L.length c) L.length (cJ L)/\aa b wx/\b.heap.size<=g
theorem rj{r:RP}{keep:List Bool}{j:Nat}(h:keep.getD j false=false):dR r keep (j+1)=dR r keep j:=by simp only[dR,h];rfl
theorem rk{r:RP}{keep:List Bool}{j:Nat}(h:keep.length<=j):∀k,dR r keep (j+k)=dR r keep j
 | 0=>rfl
 |k+1=>by
  rw[<-Nat.add_assoc,rj (by rw[List.getD_eq_getElem?_getD,List.getElem?_eq_none (by omega)];rfl)];exact rk h k
theorem zm{r:RP}{keep:List Bool}{j:Nat}(h:keep.getD j false=true):dR r keep (j+1)=dR r keep j++[⟨(bV r.fresh).getD j 0,lM r.fresh ((bV r.fresh).getD j 0)⟩]:=by simp only[dR,h,if_true];rfl
set_option maxHeartbeats 8000000 in
theorem Ce(r:RP)(A1:Option Addr)(c1:Nat)(A2:Option Addr)(c2:Nat){q:Nat->Prop}(A:Option Addr)(n c:Nat)(keep:List Bool)(w:World)(h:fp w r A1 A2)(hR:Rd q w 1 A n (jV keep))(hq:∀k,q k->k<w.heap.size)(hn:r.tot<=60000)(n7:n<=maxLen):
    Calls prog 39 #[.agg (gI r A1 c1 A2 c2),.slice A n c] w λe w'=>EX w' (r.cut keep) e/\aa w w':=by
 have H:=Ld h;have HR:=Ld hR;have HQ:=Ld hq;have l5:keep.length=n:=by have:=hR.1;rw[nb]at this;omega
 have m1:=Ld l5;have o6:r.sure.length+r.fresh.length<=60000:=hn;unfold maxLen at n7;have i4:Hid (∀u∈cJ r.sure,u.oneCell'=true):=Ld (jD _);unfold gI;clear h hR l5 hn hq
 go_enter func39,ntmps39
 go_upto_region 1 with fail;obtain⟨d,c5⟩:=nM ((w.alloc (.cells #[.int .i64 r.size,.slice A1 r.sure.length c1,.slice A2 r.fresh.length c2,.int .i64 r.fuse,.bool r.down] 65)).alloc (.cells #[.int .i64 0,.slice none 0 0,.slice none 0 0,.int .i64 0,.bool false] 65):World);obtain⟨G,hG⟩:=nM (w.heap.size);rw[<-hG];have M:Hid (aa w d):=Ld (by rw[c5];exact((aa.refl w).al _).al _);have c6:Hid (ac d G 65 #[.int .i64 r.size,.slice A1 r.sure.length c1,.slice A2 r.fresh.length c2,.int .i64 r.fuse,.bool r.down]):=Ld (by rw[c5,hG];exact(ac.new _ _ _).alloc _);have k':Hid (ac d (G+1) 65 #[.int .i64 0,.slice none 0 0,.slice none 0 0,.int .i64 0,.bool false]):=Ld (by rw[c5,hG];exact ac.new' _ _ _ (by simp));rw[<-c5];have m0:Hid (G=w.heap.size):=Ld hG;clear c5 hG
 go_cut [5] (λs5 wx=>∃g,s5=.pointer (some ⟨g,0,none⟩)/\Hid (AH d r.size g r.sure wx))
 case first=>
  have hq:∀p:HW (aa d),p.w.cell? ⟨G,0,none⟩=some (.int .i64 r.size)/\p.w.cell? ⟨G,1,none⟩=some (.slice A1 r.sure.length c1):=λp=>⟨p.h.cell_ (c6.out.cell 0),p.h.cell_ (c6.out.cell 1)⟩
  have q1:=λp=>(hq p).1
  have q2:=λp=>(hq p).2
  clear hq;refine bu (aa d) (.take 0 (.take 1 (.take 3 (.take 4 (.two 2 (.two 5 (.take 6 (.act 7 (.act 8 .done))) 7 (.act 5 (.take 6 (.act 8 .done)))) 7 (.act 2 (.act 5 (.take 6 (.act 8 .done))))))))) (by kernel_rfl) (by kernel_rfl) (aa.dr (aa.refl d)) (λj3=>?_)
  iterate 4 (refine ay (o:=.mk ..) rfl (λK b=>?_);go_simp;refine b _ ?_;clear b K)
  clear q1 q2;refine⟨?_,?_⟩
  ·refine dJ (o:=.mk ..) rfl (λK b=>?_) (.inl rfl);go_simp;refine b.out _ _ (by repeat(first|with_reducible exact aa.refl _|with_reducible assumption|with_reducible refine aa.dr ?_|with_reducible refine aa.al ?_ _):aa d _) ?_;clear b K;refine⟨?_,?_⟩
   ·refine dJ (o:=.mk ..) rfl (λK b=>?_) (.inl rfl);refine ce zp _ (by rfl) (.tmp 12) (.tmp 14) (by rfl) d.heap.size (.slice (some ⟨_,0,none⟩) 0 0) 0 [] (by rfl) (dQ (by repeat(first|with_reducible exact ac.new' _ _ _ (by first|rfl|(simp;done))|with_reducible refine ac.drew ?_|with_reducible refine ac.alloc ?_ _|with_reducible refine ac.fr ?_ C (by simp[Value.ownBlock])|with_reducible refine aa.blk E ?_)) (by first|omega|(simp;done)|(simp;omega))) A1 r.sure.length c1 (cJ r.sure) (by rfl) ((by repeat(first|with_reducible exact aa.refl _|with_reducible assumption|with_reducible refine aa.dr ?_|with_reducible refine aa.al ?_ _):aa d _).rd (H.out.new M.out).sure) i4.out (by unfold maxLen;omega) (by omega) (by first|omega|(simp;done)|(simp;omega)) ?_;intro F d1 w5 t C k2;have k5:aa d w5:=(by repeat(first|with_reducible exact aa.refl _|with_reducible assumption|with_reducible refine aa.dr ?_|with_reducible refine aa.al ?_ _):aa d _).fr C (by intro k l;simp[Value.ownBlock]at l;omega);rw[Nat.zero_add,List.nil_append]at t;rw[Nat.zero_add];simp only[Act.put,bC,bD,bF];refine b.out _ _ (by repeat(first|with_reducible exact aa.refl _|with_reducible assumption|with_reducible refine aa.dr ?_|with_reducible refine aa.al ?_ _):aa d _) ?_;clear b K
    (refine ay (o:=.mk ..) rfl (λK b=>?_);go_simp;refine b _ ?_;clear b K)
    refine dW (o:=.mk ..) rfl rfl rfl rR ?_;intro g wX y f E;have b7:aa d wX:=aa.tr (by repeat(first|with_reducible exact aa.refl _|with_reducible assumption|with_reducible refine aa.dr ?_|with_reducible refine aa.al ?_ _):aa d _) E;have c0:d.heap.size<=g:=by rw[y];exact(by repeat(first|with_reducible exact aa.refl _|with_reducible assumption|with_reducible refine aa.dr ?_|with_reducible refine aa.al ?_ _):aa d _).size
    have c3:=f.lt
    replace f:ac wX g 65 #[.int .i64 0,.slice none 0 0,.slice none 0 0,.int .i64 0,.bool false]:=f
    clear y;refine⟨b7,?_⟩;have t:=aa.own E t;simp only[Act.put,bC,bD,bF];refine cL (o:=.mk ..) (cs:= #[.int .i64 r.size,.slice F r.sure.length d1,.slice none 0 0,.int .i64 (-1),.bool false]) rfl rfl (.tmp 5) (.tmp 16) rfl rfl rfl rfl f rfl (ip _ _ _ _ _ _ _ _ _) ?_;intro wY X J;have L:aa d wY:=(by repeat(first|with_reducible exact aa.refl _|with_reducible assumption|with_reducible refine aa.dr ?_|with_reducible refine aa.al ?_ _):aa d _).fr J (λk l=>by omega);refine⟨L,?_⟩;simp only[Act.put,bC,bD,bF];refine aO ?_
    try go_wp2_with fail
    go_meet
    exact⟨g,rfl,Ld ⟨F,d1,X,bg t J (λk l e=>by subst e;exact bm t f (by decide) l),L,c0⟩⟩
   ·refine ep (o:= .mk ..) rfl rfl rfl rR ?_;intro g wX y f E;have b7:aa d wX:=aa.tr (by repeat (first | with_reducible exact aa.refl _ | with_reducible assumption | with_reducible refine aa.dr ?_ | with_reducible refine aa.al ?_ _):aa d _) E;have c0:d.heap.size<=g:=by rw [y];exact (by repeat (first | with_reducible exact aa.refl _ | with_reducible assumption | with_reducible refine aa.dr ?_ | with_reducible refine aa.al ?_ _):aa d _).size
    have c3:=f.lt;have n5:=Nat.le_of_eq y.symm;simp at n5
    replace f:ac wX g 65 #[.int .i64 0,.slice none 0 0,.slice none 0 0,.int .i64 0,.bool false]:=f
    clear y;refine⟨b7,?_⟩;simp only[Act.put,bC,bD,bF];refine aC (o:=.mk ..) rfl (λK b=>?_) (.inl rfl);refine ce zp _ (by rfl) (.tmp 12) (.tmp 14) (by rfl) d.heap.size (.slice (some ⟨_,0,none⟩) 0 0) 0 [] (by rfl) (dQ (by repeat(first|with_reducible exact ac.new' _ _ _ (by first|rfl|(simp;done))|with_reducible refine ac.drew ?_|with_reducible refine ac.alloc ?_ _|with_reducible refine ac.fr ?_ C (by simp[Value.ownBlock])|with_reducible refine aa.blk E ?_)) (by first|omega|(simp;done)|(simp;omega))) A1 r.sure.length c1 (cJ r.sure) (by rfl) ((by repeat(first|with_reducible exact aa.refl _|with_reducible assumption|with_reducible refine aa.dr ?_|with_reducible refine aa.al ?_ _):aa d _).rd (H.out.new M.out).sure) i4.out (by unfold maxLen;omega) (by omega) (by first|omega|(simp;done)|(simp;omega)) ?_;intro F d1 w5 t C k2;have k5:aa d w5:=(by repeat(first|with_reducible exact aa.refl _|with_reducible assumption|with_reducible refine aa.dr ?_|with_reducible refine aa.al ?_ _):aa d _).fr C (by intro k l;simp[Value.ownBlock]at l;omega);have f:=ac.fr (aa.blk (by repeat(first|with_reducible exact aa.refl _|with_reducible assumption|with_reducible refine aa.dr ?_|with_reducible refine aa.al ?_ _):aa wX _) f) C (by simp[Value.ownBlock];omega);rw[Nat.zero_add,List.nil_append]at t;rw[Nat.zero_add];simp only[Act.put,bC,bD,bF];refine b.out _ _ (by repeat(first|with_reducible exact aa.refl _|with_reducible assumption|with_reducible refine aa.dr ?_|with_reducible refine aa.al ?_ _):aa d _) ?_;clear b K
    (refine ay (o:=.mk ..) rfl (λK b=>?_);go_simp;refine b _ ?_;clear b K)
    refine cL (o:=.mk ..) (cs:= #[.int .i64 r.size,.slice F r.sure.length d1,.slice none 0 0,.int .i64 (-1),.bool false]) rfl rfl (.tmp 5) (.tmp 16) rfl rfl rfl rfl f rfl (ip _ _ _ _ _ _ _ _ _) ?_;intro wY X J;have L:aa d wY:=(by repeat(first|with_reducible exact aa.refl _|with_reducible assumption|with_reducible refine aa.dr ?_|with_reducible refine aa.al ?_ _):aa d _).fr J (λk l=>by omega);refine⟨L,?_⟩;simp only[Act.put,bC,bD,bF];refine aO ?_
    try go_wp2_with fail
    go_meet
    exact⟨g,rfl,Ld ⟨F,d1,X,bg t J (λk l e=>by subst e;exact bm t f (by decide) l),L,c0⟩⟩
  ·refine ep (o:= .mk ..) rfl rfl rfl rR ?_;intro g wX y f E;have b7:aa d wX:=aa.tr (by repeat (first | with_reducible exact aa.refl _ | with_reducible assumption | with_reducible refine aa.dr ?_ | with_reducible refine aa.al ?_ _):aa d _) E;have c0:d.heap.size<=g:=by rw [y];exact (by repeat (first | with_reducible exact aa.refl _ | with_reducible assumption | with_reducible refine aa.dr ?_ | with_reducible refine aa.al ?_ _):aa d _).size
   have c3:=f.lt
   replace f:ac wX g 65 #[.int .i64 0,.slice none 0 0,.slice none 0 0,.int .i64 0,.bool false]:=f
   clear y;refine⟨b7,?_⟩;simp only[Act.put,bC,bD,bF];refine aC (o:=.mk ..) rfl (λK b=>?_) (.inl rfl);go_simp;refine b.out _ _ (by repeat(first|with_reducible exact aa.refl _|with_reducible assumption|with_reducible refine aa.dr ?_|with_reducible refine aa.al ?_ _):aa d _) ?_;clear b K;refine aC (o:=.mk ..) rfl (λK b=>?_) (.inl rfl);refine ce zp _ (by rfl) (.tmp 12) (.tmp 14) (by rfl) d.heap.size (.slice (some ⟨_,0,none⟩) 0 0) 0 [] (by rfl) (dQ (by repeat(first|with_reducible exact ac.new' _ _ _ (by first|rfl|(simp;done))|with_reducible refine ac.drew ?_|with_reducible refine ac.alloc ?_ _|with_reducible refine ac.fr ?_ C (by simp[Value.ownBlock])|with_reducible refine aa.blk E ?_)) (by first|omega|(simp;done)|(simp;omega))) A1 r.sure.length c1 (cJ r.sure) (by rfl) ((by repeat(first|with_reducible exact aa.refl _|with_reducible assumption|with_reducible refine aa.dr ?_|with_reducible refine aa.al ?_ _):aa d _).rd (H.out.new M.out).sure) i4.out (by unfold maxLen;omega) (by omega) (by first|omega|(simp;done)|(simp;omega)) ?_;intro F d1 w5 t C k2;have k5:aa d w5:=(by repeat(first|with_reducible exact aa.refl _|with_reducible assumption|with_reducible refine aa.dr ?_|with_reducible refine aa.al ?_ _):aa d _).fr C (by intro k l;simp[Value.ownBlock]at l;omega);have f:=ac.fr (aa.blk (by repeat(first|with_reducible exact aa.refl _|with_reducible assumption|with_reducible refine aa.dr ?_|with_reducible refine aa.al ?_ _):aa wX _) f) C (by simp[Value.ownBlock];omega);rw[Nat.zero_add,List.nil_append]at t;rw[Nat.zero_add];simp only[Act.put,bC,bD,bF];refine b.out _ _ (by repeat(first|with_reducible exact aa.refl _|with_reducible assumption|with_reducible refine aa.dr ?_|with_reducible refine aa.al ?_ _):aa d _) ?_;clear b K
   (refine ay (o:=.mk ..) rfl (λK b=>?_);go_simp;refine b _ ?_;clear b K)
   refine cL (o:=.mk ..) (cs:= #[.int .i64 r.size,.slice F r.sure.length d1,.slice none 0 0,.int .i64 (-1),.bool false]) rfl rfl (.tmp 5) (.tmp 16) rfl rfl rfl rfl f rfl (ip _ _ _ _ _ _ _ _ _) ?_;intro wY X J;have L:aa d wY:=(by repeat(first|with_reducible exact aa.refl _|with_reducible assumption|with_reducible refine aa.dr ?_|with_reducible refine aa.al ?_ _):aa d _).fr J (λk l=>by omega);refine⟨L,?_⟩;simp only[Act.put,bC,bD,bF];refine aO ?_
   try go_wp2_with fail
   go_meet
   exact⟨g,rfl,Ld ⟨F,d1,X,bg t J (λk l e=>by subst e;exact bm t f (by decide) l),L,c0⟩⟩
 obtain⟨g,rfl,g7⟩:=hcut;obtain⟨AS,cS,n',n3,f',y⟩:=g7.out;have i0:=Ld y;have l9:=Ld (aa.blk f' c6.out);have o2:=Ld f';have m3:Hid (aa w wc):=Ld (M.out.tr f');clear n' n3 f' y
 go_wp2_with (refine cE 17 rfl ?_;refine ae rfl _ rfl underlying65 rfl rfl rfl l9.out ?_)
 refine(qd r A1 c1 A2 c2 wc (H.out.new m3.out) (by unfold RP.tot;omega)).mono ?_;rintro e w4 ⟨⟨AW,cW,rfl,g3⟩,Z⟩;have n9:(bV r.fresh).length<=60000:=by have:=nH r.fresh;omega
 obtain⟨m,hm⟩:=nM ((bV r.fresh).length);rw[<-hm]at g3 n9;rw[<-hm];have m4:Hid (ei 3 w4 1 AW m (ji (bV r.fresh))):=Ld (ei.own g3 rfl);have m6:Hid (∀k,AW.map Addr.block=some k->wc.heap.size<=k):=Ld (λk l=>(am g3 k (by cases AW<;>simp_all [Value.ownBlock])).1);have o1:=Ld Z
 have m':Hid (AH d r.size g (dR r keep 0) w4):=Ld (by
  obtain⟨R,U,h1,h2,h3,h4⟩:=g7.out
  exact⟨R,U,aa.blk Z h1,aa.own Z h2,h3.tr Z,h4⟩)
 have HM:=Ld hm;clear g3 Z hm g7
 go_wp2_with fail;go_loopw [7] (λi wr=>∃(j:Nat),j<=m/\i=.int .i64 j/\Hid (AH d r.size g (dR r keep j) wr)/\Hid (ei 3 wr 1 AW m (ji (bV r.fresh)))) (λi _=>m-(intOf i).toNat)
 case atStart=>exact⟨0,Nat.zero_le _,rfl,m',m4⟩
 case round=>
  obtain⟨j,hj,rfl,g8,c9⟩:=hrel;obtain⟨R,U,V,P,D,-⟩:=g8.out
  by_cases l3:j<m/\j<n
  ·as_aux_lemma=>
   obtain⟨g4,l4⟩:=l3;have c7:=Ld V;have c8:=Ld P;have l1:=mt r keep j;obtain⟨gK,oK,rfl,o3,o7,ck⟩:=yJ ((M.out.tr D).rd HR.out) l4
   cases hb:keep.getD j false with
   |false=>
    as_aux_lemma=>
    rw[hb]at ck;have l7:=rj (r:=r) hb;have HZ:Hid (AH d r.size g (dR r keep (j+1)) wr):=Ld (by rw[l7];exact g8.out);clear hb l7 V P D l1
    go_wp2_with fail;go_roundw
    case rel=>exact⟨j+1,by omega,by go_num,HZ,c9⟩
    case measure=>simp[intOf];omega
   |true=>
    as_aux_lemma=>
    rw[hb]at ck;have g5:=zm (r:=r) hb;obtain⟨gW,oW,rfl,o4,n8,cw⟩:=Cf c9.out g4;obtain⟨x,hx⟩:=nM ((bV r.fresh).getD j 0);rw[<-hx]at cw g5;obtain⟨s,hs⟩:=nM (lM r.fresh x);rw[<-hs]at g5;have HC:=Ld g5;have k1:Hid (lM r.fresh x=s):=Ld hs.symm;have I:Hid (aS s):=Ld (by rw[hs];exact my H.out.ok.2 x);have g9:=Ld cw;have j7:Hid (∀a∈r.fresh,aS a.s):=Ld H.out.ok.2;have i':Hid (ei 132 wr 65 A2 r.fresh.length (cJ r.fresh)):=Ld (((H.out.new M.out).new D).fresh);have j8:Hid (ac wr G 65 #[.int .i64 r.size,.slice A1 r.sure.length c1,.slice A2 r.fresh.length c2,.int .i64 r.fuse,.bool r.down]):=Ld (aa.blk D c6.out);have m5:Hid ((Value.slice R (dR r keep j).length U).ownBlock≠some gW):=Ld (λe=>aK.not_own P (show(132:Nat)≠3 by decide) e n8);clear hb g5 hx hs cw V P
    go_upto_region 7 with fail;obtain⟨z,j4⟩:=nM (wr:World);rw[<-j4]at g8 c9 c7 c8 D g9 i' j8;rw[<-j4];clear j4;have i1:¬((j:Int)<0):=by omega
    have i2:(j:Int)<(m:Int):=by omega
    apply lr (α:=Nat) (λgS w'=>aa z w'/\ac w' gS 68 (ag s))
    case h1=>
     intro K' k4;have q1:∀p:HW (aa z),p.w.cell? ⟨G,2,none⟩=some (.slice A2 r.fresh.length c2):=λp=>p.h.cell_ (j8.out.cell 2)
     have q2:∀p:HW (aa z),p.w.cell? ⟨gW,oW+j,none⟩=some (.int .i64 x):=λp=>p.h.cell_ g9.out
     refine bu (aa z) (.take 0 (.take 1 (.take 2 (.take 3 (.take 4 (.take 5 (.two 6 (.take 7 (.take 8 (.take 9 (.act 10 (.act 11 (.take 12 .done)))))) 10 (.act 6 (.take 7 (.take 8 (.take 9 (.act 11 (.take 12 .done))))))))))))) (by kernel_rfl) (by kernel_rfl) (aa.dr (aa.refl z)) (λj3=>?_)
     iterate 6 (refine ay (o:=.mk ..) rfl (λK b=>?_);go_simp;refine b _ ?_;clear b K)
     clear q1 q2;refine⟨?_,?_⟩
     ·refine dJ (o:=.mk ..) rfl (λK b=>?_) (.inl rfl);go_simp;refine(oy A2 r.fresh.length c2 r.fresh x _ ((by repeat(first|with_reducible exact aa.refl _|with_reducible assumption|with_reducible refine aa.dr ?_|with_reducible refine aa.al ?_ _):aa z _).rd i'.out) rfl j7.out (by omega)).mono ?_;rw[k1.out];rintro e w5 ⟨rfl,b3⟩;have b':aa z w5:=aa.tr (by repeat(first|with_reducible exact aa.refl _|with_reducible assumption|with_reducible refine aa.dr ?_|with_reducible refine aa.al ?_ _):aa z _) b3
      try have B:=aa.blk b3 B
      go_simp;refine b.out _ _ b' ?_;clear b K
      iterate 3 (refine ay (o:=.mk ..) rfl (λK b=>?_);go_simp;refine b _ ?_;clear b K)
      refine dW (o:=.mk ..) rfl rfl rfl vu ?_;intro gS wS b9 B j';have b0:aa z wS:=aa.tr (by repeat(first|with_reducible exact aa.refl _|with_reducible assumption|with_reducible refine aa.dr ?_|with_reducible refine aa.al ?_ _):aa z _) j';have j2:z.heap.size<=gS:=by rw[b9];exact(by repeat(first|with_reducible exact aa.refl _|with_reducible assumption|with_reducible refine aa.dr ?_|with_reducible refine aa.al ?_ _):aa z _).size
      clear b9;refine⟨b0,?_⟩;simp only[Act.put,bC,bD,bF];refine cL (o:=.mk ..) (cs:=ag s) (cs0:=ag az) rfl rfl (.tmp 8) (.tmp 43) rfl (by rw[aq,I.out.1];rfl) rfl rfl B (by rw[aq,aq,I.out.1];rfl) (bH s) ?_;intro wT i6 i7;have v:aa z wT:=(by repeat(first|with_reducible exact aa.refl _|with_reducible assumption|with_reducible refine aa.dr ?_|with_reducible refine aa.al ?_ _):aa z _).fr i7 (λk l=>by omega);refine⟨v,?_⟩;simp only[Act.put,bC,bD,bF]
      (refine ay (o:=.mk ..) rfl (λK b=>?_);go_simp;refine b _ ?_;clear b K)
      refine aO ?_;exact k4.out gS wT ⟨v,i6⟩
     ·refine ep (o:= .mk ..) rfl rfl rfl vu ?_;intro gS wS b9 B j';have b0:aa z wS:=aa.tr (by repeat (first | with_reducible exact aa.refl _ | with_reducible assumption | with_reducible refine aa.dr ?_ | with_reducible refine aa.al ?_ _):aa z _) j';have j2:z.heap.size<=gS:=by rw [b9];exact (by repeat (first | with_reducible exact aa.refl _ | with_reducible assumption | with_reducible refine aa.dr ?_ | with_reducible refine aa.al ?_ _):aa z _).size
      clear b9;refine⟨b0,?_⟩;simp only[Act.put,bC,bD,bF];refine aC (o:=.mk ..) rfl (λK b=>?_) (.inl rfl);go_simp;refine(oy A2 r.fresh.length c2 r.fresh x _ ((by repeat(first|with_reducible exact aa.refl _|with_reducible assumption|with_reducible refine aa.dr ?_|with_reducible refine aa.al ?_ _):aa z _).rd i'.out) rfl j7.out (by omega)).mono ?_;rw[k1.out];rintro e w5 ⟨rfl,b3⟩;have b':aa z w5:=aa.tr (by repeat(first|with_reducible exact aa.refl _|with_reducible assumption|with_reducible refine aa.dr ?_|with_reducible refine aa.al ?_ _):aa z _) b3
      try have B:=aa.blk b3 B
      go_simp;refine b.out _ _ b' ?_;clear b K
      iterate 3 (refine ay (o:=.mk ..) rfl (λK b=>?_);go_simp;refine b _ ?_;clear b K)
      refine cL (o:=.mk ..) (cs:=ag s) (cs0:=ag az) rfl rfl (.tmp 8) (.tmp 43) rfl (by rw[aq,I.out.1];rfl) rfl rfl B (by rw[aq,aq,I.out.1];rfl) (bH s) ?_;intro wT i6 i7;have v:aa z wT:=(by repeat(first|with_reducible exact aa.refl _|with_reducible assumption|with_reducible refine aa.dr ?_|with_reducible refine aa.al ?_ _):aa z _).fr i7 (λk l=>by omega);refine⟨v,?_⟩;simp only[Act.put,bC,bD,bF]
      (refine ay (o:=.mk ..) rfl (λK b=>?_);go_simp;refine b _ ?_;clear b K)
      refine aO ?_;exact k4.out gS wT ⟨v,i6⟩
    rintro gS wm ⟨v,B⟩;have j9:Hid (aa d wm):=Ld ((D.tr v));have g6:=Ld (aa.blk v c7.out);have T:=Ld (aa.own v c8.out);have i5:=Ld B;have j5:Hid (wm.cell? ⟨gW,oW+j,none⟩=some (.int .i64 x)):=Ld (v.cell_ g9.out);have m7:Hid (ei 3 wm 1 (some ⟨gW,oW,none⟩) m (ji (bV r.fresh))):=Ld (c9.out.new v);have i3:Hid (d.heap.size<=wm.heap.size):=Ld j9.out.size;clear v B D;have z1:=rQ;have z2:=ai;have z3:=yH;have z4:=uS (x:=x) I.out;have z5:=jm (x:=x) I.out;have zl:(an s).length=64:=by rw[ak,I.out.1]
    go_upto_region 8 with fail;obtain⟨S,hS⟩:∃S:World->Prop,∀w',S w'↔w'.rangeAt gS 0 (an s)/\w'.cell? ⟨g,1,none⟩=some (.slice R (dR r keep j).length U)/\w'.cell? ⟨gW,oW+j,none⟩=some (.int .i64 x):=⟨_,λ_=>Iff.rfl⟩
    have j1:∀w',aa wm w'->S w':=λw' hN=>(hS w').2 ⟨(aa.blk hN i5.out).range,hN.cell_ (g6.out.cell 1),hN.cell_ j5.out⟩
    have q1:∀p:HW S,p.w.cell? ⟨g,1,none⟩=some (.slice R (dR r keep j).length U):=λp=>((hS _).1 p.h).2.1
    have q2:∀p:HW S,p.w.cell? ⟨gW,oW+j,none⟩=some (.int .i64 x):=λp=>((hS _).1 p.h).2.2
    refine fi S 11 [(true,0),(true,1),(true,2),(true,3),(true,4),(true,5),(true,6),(true,7),(false,8),(false,9),(true,10),(false,11)] (by kernel_rfl) (by kernel_rfl) (j1 _ (aa.dr (aa.refl wm))) (λj3=>?_)
    iterate 6 (refine af (o:=.mk ..) rfl (λK b=>?_);go_simp;refine b _ ?_;clear b K)
    refine bM (o:=.mk ..) (cs:=an s) rfl rfl _ rfl rfl (λw' h=>((hS w').1 h).1) underlying68 rfl (by rw[ak,I.out.1];rfl) ?_;simp only[Act.put,bC,bD,bF]
    (refine af (o:=.mk ..) rfl (λK b=>?_);go_simp;refine b _ ?_;clear b K)
    clear q1 q2 z1 z2 z3 z4 zl;have N:Hid (aa wm (wm.drew.alloc (.cells (ff x s) 132))):=Ld (aa.al (aa.dr (aa.refl wm)) _);refine DK zp (by decide) (o:=.mk ..) rfl rfl (.tmp 52) rfl (ff x s) rfl z5 ⟨λ_=>j1 _ N.out,?_⟩;simp only[Act.put,bC,bD,bF];refine tp zp _ (o:=.mk ..) rfl rfl (.tmp 46) (.tmp 53) rfl d.heap.size (.slice R (dR r keep j).length U) (dR r keep j).length (cJ (dR r keep j)) rfl (N.out.own T.out) (some ⟨_,0,none⟩) 1 1 (ff x s).toList rfl (Rd.ofBlk (p:=λ_=>True) (ac.new wm.drew 132 (ff x s)) 65 1 (by rw[z5]) trivial) (λu hu=>PU.one ⟨x,s⟩ u (by simpa[ff]using hu)) (by unfold maxLen;omega) (by omega) (Nat.le_trans i3.out N.out.size) ?_;intro A4 c4 wN j0 Y m9;have O:ac wN g 65 #[.int .i64 r.size,.slice R (dR r keep j).length U,.slice none 0 0,.int .i64 (-1),.bool false]:=(aa.blk N.out g6.out).fr Y (λe=>bm T.out g6.out (by decide) e);have n1:=O.cell 1;have o0:=O.frozen 1;refine⟨λ_=>(hS _).2 ⟨((aa.blk N.out i5.out).fr Y (λe=>bm T.out i5.out (by decide) e)).range,n1,Y.cell_some (N.out.cell_ j5.out) (λe=>m5.out e)⟩,?_⟩;simp only[Act.put,bC,bD,bF]
    (refine af (o:=.mk ..) rfl (λK b=>?_);go_simp;refine b _ ?_;clear b K)
    refine aj (o:=.mk ..) rfl (λK b=>?_) (.inl rfl);go_simp;refine b.out _ _ (λh=>absurd rfl h) ?_;clear b K;refine au ?_;have i9:Fr (λk=>(Value.slice R (dR r keep j).length U).ownBlock=some k) wm wN:=(N.out.toFr _).trans Y;have k3:=O.set 1 (.slice A4 ((dR r keep j).length+1) c4);have d':Fr (λk=>k=g) wN (wN.setCell ⟨g,1,none⟩ (.slice A4 ((dR r keep j).length+1) c4)):=(Fr.refl (λk=>k=g) wN).setCell (p:=⟨g,1,none⟩) (λ_=>rfl) _;have k7:=bg j0 d' (λk l e=>by subst e;exact bm j0 O (by decide) l);have k6:aa d (wN.setCell ⟨g,1,none⟩ (.slice A4 ((dR r keep j).length+1) c4)):=(j9.out.fr i9 (λk l=>(am T.out k l).1)).fr d' (λk l=>by have:=i0.out;omega);have k9:ei 3 (wN.setCell ⟨g,1,none⟩ (.slice A4 ((dR r keep j).length+1) c4)) 1 (some ⟨gW,oW,none⟩) m (ji (bV r.fresh)):=(m7.out.fr i9 (λk l=>aK.not_own T.out (by decide) l)).fr d' (λk l=>by subst l;exact aK.not_blk O (by decide));have hC:=HC.out;clear n1 o0 z5 j3 hS j1
    have HZ:Hid (AH d r.size g (dR r keep (j+1)) (wN.setCell ⟨g,1,none⟩ (.slice A4 ((dR r keep j).length+1) c4))):=Ld (by
     rw[hC];refine⟨A4,c4,?_,?_,k6,i0.out⟩
     ·rw[List.length_append];exact k3
     ·rw[List.length_append,jf,la];simpa[ff]using k7)
    have m8:=Ld k9;clear hC k3 d' k7 k6 k9 i9 O j0 Y m9
    go_wp2_with fail;go_roundw
    case rel=>exact⟨j+1,by omega,by go_num,HZ,m8⟩
    case measure=>simp[intOf];omega
  ·as_aux_lemma=>
   have b8:dR r keep j=dR r keep (bV r.fresh).length:=by
    have:=HM.out;have:=m1.out
    by_cases g4:j<m
    ·have h2:keep.length<=j:=by omega
     rw[<-rk h2 ((bV r.fresh).length-j)]
     congr 1
     omega
    ·have:j=m:=by omega
     rw[this,HM.out]
   have b1:=Ld b8;have k8:ac wr (G+1) 65 #[.int .i64 0,.slice none 0 0,.slice none 0 0,.int .i64 0,.bool false]:=aa.blk D k'.out;have k0:=Ld k8;have c7:=Ld V;have c8:=Ld P;have m2:=Ld D;have l1:=mt r keep j;have hex:¬j<m\/(j<m/\¬j<n):=by omega
   clear k8 V P D b8 l3;have n6:=k'.out.lt;have o5:=i0.out;rcases hex with g4|⟨g4,l4⟩
   all_goals
    go_wp2_with (first
     |(refine cE 56 rfl ?_;refine ae rfl _ rfl underlying65 rfl rfl rfl c7.out ?_)
     |((with_reducible refine eC ⟨none,.store 65 (.tmp 4) _,_,_,_,_⟩ ?_);refine ao rfl (.tmp 4) (.tmp 56) rfl rfl rfl rfl k0.out rfl (ip _ _ _ _ _ _ _ _ _) ?_;intro w8 l' l2;have l8:=Ld l';have j6:=Ld l2;clear l' l2))
    refine bodyPost_ret (jK rfl _ _ (G+1) _ _ rfl l8.out underlying65 rfl rfl) rfl ?_;have h6:ei 132 wr 65 R (dR r keep j).length (cJ (dR r keep j)):=ei.own c8.out rfl;have h8:=h6.fr j6.out (λk l=>by subst l;exact aK.not_blk k0.out (by decide));have n0:aa w w8:=(M.out.tr m2.out).fr j6.out (λk l=>by have:=m0.out;omega)
    have he:gI (r.cut keep) R U none 0= #[.int .i64 r.size,.slice R (dR r keep j).length U,.slice none 0 0,.int .i64 (-1),.bool false]:=by
     unfold gI RP.cut;rw[<-b1.out];rfl
    refine⟨⟨R,U,none,0,by rw[he],⟨?_,ei.nil,H.out.ok.cut keep⟩⟩,n0⟩;have:(r.cut keep).sure=dR r keep j:=b1.out.symm;rw[this];exact h8
end Go.Proofs.YtfchcdbfalgdlaaGreatDoor
