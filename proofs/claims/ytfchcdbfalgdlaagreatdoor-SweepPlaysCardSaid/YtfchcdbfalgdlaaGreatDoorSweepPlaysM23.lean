/- Texts of one proof. No condition but each one's own. -/
import Derived.Test.YtfchcdbfalgdlaaGreatDoorSweepPlaysM22
import Derived.Test.YtfchcdbfalgdlaaGreatDoorSweepPlaysM9
import Derived.Lib.SlBytesConst
set_option maxHeartbeats 4000000
set_option maxRecDepth 100000
set_option linter.unusedVariables false
set_option linter.unusedSimpArgs false
namespace Go.Proofs.YtfchcdbfalgdlaaGreatDoor
open _root_.Go.Proofs.Tryz
open Go.RowKit Go.Maps
theorem ra{s:Rs}(h:s.e≠0)(m:Nat):s.bytes m=([],s):=by
 have hl:s.left=0:=by unfold Rs.left;rw[if_neg h]
 unfold Rs.bytes;rw[hl,if_pos (by omega)];unfold Rs.bad;rw[if_neg h]
set_option maxHeartbeats 8000000 in
theorem nk{p:Nat->Prop}{w:World}{A:Option Addr}{n c:Nat}{s:Rs}(h:mY p w A n c s)(y:Nat)(g3:y<=1000000):
    Calls prog 127 #[rV A n c s.e,.int .i64 y] w λe w'=>uj p (s.bytes y) e w'/\aa w w':=by
 have H:=Ld h;have hn:=h.len;have V:=Ld hn;have i9:=h.cm;have j0:=h.nc;unfold rV;obtain⟨r,hr⟩:=nM (s.bytes y);rw[<-hr];have HR:=Ld hr;obtain⟨I,c6⟩:=nM (s.e);rw[<-c6];have HE:=Ld c6;clear h hr c6 hn
 go_enter func127,ntmps127
 go_upto_region 1 with fail;obtain⟨m,T⟩:=nM ((w.alloc (.cells #[.slice A n c,.int .i64 I] 194)).alloc (.cells #[.slice none 0 0,.int .i64 0] 194):World);obtain⟨b2,c4⟩:=nM (w.heap.size);obtain⟨b5,c5⟩:=nM (w.heap.size+1);have G:Hid (aa w m):=Ld (by rw[T];exact aa.al (aa.al (aa.refl _) _) _);have D:Hid (ac m b2 194 #[.slice A n c,.int .i64 I]):=Ld (by rw[T,c4];exact(ac.new _ _ _).alloc _);have E:Hid (ac m b5 194 #[.slice none 0 0,.int .i64 0]):=Ld (by rw[T,c5];exact ac.new' _ _ _ (by simp));have HZ:Hid (w.heap.size<=b2/\w.heap.size<=b5):=Ld ⟨by omega,by omega⟩;have B:b2≠b5:=by omega
 rw[<-T,<-c5,<-c4];clear T c4 c5;have b9:m.cell? ⟨b2,0,none⟩=some (.slice A n c):=D.out.cell 0;have c':m.cell? ⟨b2,1,none⟩=some (.int .i64 I):=D.out.cell 1;have N:m.cell? ⟨b5,0,none⟩=some (.slice none 0 0):=E.out.cell 0;have O:m.cell? ⟨b5,1,none⟩=some (.int .i64 0):=E.out.cell 1;have f50:m.frozen? ⟨b5,0,none⟩=false:=E.out.frozen 0;have f51:m.frozen? ⟨b5,1,none⟩=false:=E.out.frozen 1;have f20:m.frozen? ⟨b2,0,none⟩=false:=D.out.frozen 0;have f21:m.frozen? ⟨b2,1,none⟩=false:=D.out.frozen 1;have L:¬b5=b2:=λe=>B e.symm
 by_cases h0:I=0
 ·subst h0;have hlf:s.left=n:=by unfold Rs.left;rw [if_pos HE.out.symm,V.out]
  by_cases c7:n<2
  ·have F:Hid (r=([],⟨s.xs,2⟩)):=Ld (by
    rw[HR.out];unfold Rs.bytes;rw[hlf,if_pos c7];unfold Rs.bad
    rw[if_pos HE.out.symm])
   have i':decide ((2:Int)<=(n:Int))=false:=decide_eq_false (by omega);clear hlf
   go_upto_region 8 with fail;obtain⟨j,u⟩:=nM (m.setCell ⟨b2,1,none⟩ (.int .i64 2):World);have C:Fr (λk=>k=b2) m j:=by rw[u];exact(Fr.refl (λk=>k=b2) m).setCell (p:=⟨b2,1,none⟩) (λ_=>rfl) _
   have f:Hid (ac j b2 194 #[.slice A n c,.int .i64 2]):=Ld (by
    have:=D.out.set 1 (.int .i64 2);rw[u]
    simpa using this)
   have b:Hid (ac j b5 194 #[.slice none 0 0,.int .i64 0]):=Ld (E.out.fr C L);have P:=Ld C;rw[<-u];clear u C b9 c' N O f50 f51 f20 f21;have N:j.cell? ⟨b5,0,none⟩=some (.slice none 0 0):=b.out.cell 0;have O:j.cell? ⟨b5,1,none⟩=some (.int .i64 0):=b.out.cell 1;have f50:j.frozen? ⟨b5,0,none⟩=false:=b.out.frozen 0;have f51:j.frozen? ⟨b5,1,none⟩=false:=b.out.frozen 1;have t:aZ b2 (.slice A n c) (.int .i64 2) j.drew:=aZ.of f.out;refine ah (aZ b2 (.slice A n c) (.int .i64 2)) [(true,0),(true,1),(false,2)] (by kernel_rfl) (by kernel_rfl) t (λY=>?_);have q0:∀p:HW (aZ b2 (.slice A n c) (.int .i64 2)),p.w.cell? ⟨b2,0,none⟩=some (.slice A n c):=λp=>p.h.1
   have q1:∀p:HW (aZ b2 (.slice A n c) (.int .i64 2)),p.w.cell? ⟨b2,1,none⟩=some (.int .i64 2):=λp=>p.h.2
   iterate 2 (refine af (o:=.mk ..) rfl (λK q=>?_);go_simp;refine q _ ?_;clear q K)
   refine aj (o:=.mk ..) rfl (λK q=>?_) (.inl rfl);go_simp;obtain⟨z,d⟩:=nM (((j.setCell ⟨b5,0,none⟩ (.slice A n c)).setCell ⟨b5,1,none⟩ (.int .i64 2)).drew:World);have i:Fr (λk=>k=b5) j z:=by rw[d];exact(((Fr.refl (λk=>k=b5) j).setCell (p:=⟨b5,0,none⟩) (λ_=>rfl) _).setCell (p:=⟨b5,1,none⟩) (λ_=>rfl) _).drew
   have g:ac z b5 194 #[(.slice A n c),(.int .i64 2)]:=by rw[d];exact bQ b.out (.slice A n c) (.int .i64 2)
   rw[<-d];refine q.out _ _ (λ_=>aZ.of (f.out.fr i B)) ?_;clear q K q0 q1;refine au ?_;have U:z.cell? ⟨b5,0,none⟩=some (.slice A n c):=g.cell 0;have r1:z.cell? ⟨b5,1,none⟩=some (.int .i64 2):=g.cell 1;have J:=Ld i;clear d i g t
   go_wp2_with fail;have l:Hid (aa w z):=Ld ((G.out.fr P.out (λk hk=>by have:=HZ.out;omega)).fr J.out (λk hk=>by have:=HZ.out;omega));refine bodyPost_ret (v:=.tuple #[.slice none 0 0,.agg #[.slice A n c,.int .i64 2]]) (by simp[results,results127,go_sem,U,r1]) rfl ⟨?_,l.out⟩;rw[F.out];exact⟨none,0,A,n,c,rfl,jJ _,Nat.le_refl _,⟨l.out.rd H.out.rd,H.out.byt,H.out.nc,H.out.cm⟩⟩
  ·have i':decide ((2:Int)<=(n:Int))=true:=decide_eq_true (by omega);have i6:2<=c:=by omega
   have Z:=fm (xs:=s.xs.take 2) (λx hx=>H.out.byt x (List.mem_of_mem_take hx));rw[List.length_take,V.out,Nat.min_eq_left (by omega)]at Z;have X:=Ld (λW (hN:aa w W)=>ib A 2 c (s.xs.take 2) W (Rd.take (hN.rd H.out.rd) (by omega)) (λx hx=>H.out.byt x (List.mem_of_mem_take hx)) (by omega));obtain⟨v,hv⟩:=nM (aU (s.xs.take 2));rw[<-hv]at Z X;have i4:v<65536:=Z
   have b3:Hid (r=if y<v\/n-2<v then([],⟨s.xs,2⟩)else(s.raw 2).2.raw v):=Ld (by
    rw[HR.out];unfold Rs.bytes;rw[hlf,if_neg c7,<-hv];unfold Rs.bad
    rw[if_pos HE.out.symm])
   have i7:(2:Int)<=(n:Int):=by omega
   clear Z hv
   by_cases hm:y<v
   ·have F:Hid (r=([],⟨s.xs,2⟩)):=Ld (by rw[b3.out,if_pos (.inl hm)]);have i0:decide (v<=y)=false:=decide_eq_false (by omega);clear hlf
    go_wp2_with fail;refine(X.out m G.out).mono ?_;rintro e g6 ⟨rfl,rfl⟩
    go_upto_region 8 with fail;obtain⟨j,u⟩:=nM (m.setCell ⟨b2,1,none⟩ (.int .i64 2):World);have C:Fr (λk=>k=b2) m j:=by rw[u];exact(Fr.refl (λk=>k=b2) m).setCell (p:=⟨b2,1,none⟩) (λ_=>rfl) _
    have f:Hid (ac j b2 194 #[.slice A n c,.int .i64 2]):=Ld (by
     have:=D.out.set 1 (.int .i64 2);rw[u]
     simpa using this)
    have b:Hid (ac j b5 194 #[.slice none 0 0,.int .i64 0]):=Ld (E.out.fr C L);have P:=Ld C;rw[<-u];clear u C b9 c' N O f50 f51 f20 f21;have N:j.cell? ⟨b5,0,none⟩=some (.slice none 0 0):=b.out.cell 0;have O:j.cell? ⟨b5,1,none⟩=some (.int .i64 0):=b.out.cell 1;have f50:j.frozen? ⟨b5,0,none⟩=false:=b.out.frozen 0;have f51:j.frozen? ⟨b5,1,none⟩=false:=b.out.frozen 1;have t:aZ b2 (.slice A n c) (.int .i64 2) j.drew:=aZ.of f.out;refine ah (aZ b2 (.slice A n c) (.int .i64 2)) [(true,0),(true,1),(false,2)] (by kernel_rfl) (by kernel_rfl) t (λY=>?_);have q0:∀p:HW (aZ b2 (.slice A n c) (.int .i64 2)),p.w.cell? ⟨b2,0,none⟩=some (.slice A n c):=λp=>p.h.1
    have q1:∀p:HW (aZ b2 (.slice A n c) (.int .i64 2)),p.w.cell? ⟨b2,1,none⟩=some (.int .i64 2):=λp=>p.h.2
    iterate 2 (refine af (o:=.mk ..) rfl (λK q=>?_);go_simp;refine q _ ?_;clear q K)
    refine aj (o:=.mk ..) rfl (λK q=>?_) (.inl rfl);go_simp;obtain⟨z,d⟩:=nM (((j.setCell ⟨b5,0,none⟩ (.slice A n c)).setCell ⟨b5,1,none⟩ (.int .i64 2)).drew:World);have i:Fr (λk=>k=b5) j z:=by rw[d];exact(((Fr.refl (λk=>k=b5) j).setCell (p:=⟨b5,0,none⟩) (λ_=>rfl) _).setCell (p:=⟨b5,1,none⟩) (λ_=>rfl) _).drew
    have g:ac z b5 194 #[(.slice A n c),(.int .i64 2)]:=by rw[d];exact bQ b.out (.slice A n c) (.int .i64 2)
    rw[<-d];refine q.out _ _ (λ_=>aZ.of (f.out.fr i B)) ?_;clear q K q0 q1;refine au ?_;have U:z.cell? ⟨b5,0,none⟩=some (.slice A n c):=g.cell 0;have r1:z.cell? ⟨b5,1,none⟩=some (.int .i64 2):=g.cell 1;have J:=Ld i;clear d i g t
    go_wp2_with fail;have l:Hid (aa w z):=Ld ((G.out.fr P.out (λk hk=>by have:=HZ.out;omega)).fr J.out (λk hk=>by have:=HZ.out;omega));refine bodyPost_ret (v:=.tuple #[.slice none 0 0,.agg #[.slice A n c,.int .i64 2]]) (by simp[results,results127,go_sem,U,r1]) rfl ⟨?_,l.out⟩;rw[F.out];exact⟨none,0,A,n,c,rfl,jJ _,Nat.le_refl _,⟨l.out.rd H.out.rd,H.out.byt,H.out.nc,H.out.cm⟩⟩
   ·have i0:decide (v<=y)=true:=decide_eq_true (by omega)
    by_cases f':n-2<v
    ·have F:Hid (r=([],⟨s.xs,2⟩)):=Ld (by rw[b3.out,if_pos (.inr f')]);have i1:decide ((v:Int)<=(n:Int)-2)=false:=decide_eq_false (by omega);clear hlf
     go_wp2_with fail;refine(X.out m G.out).mono ?_;rintro e g6 ⟨rfl,rfl⟩
     go_upto_region 8 with fail;obtain⟨j,u⟩:=nM (m.setCell ⟨b2,1,none⟩ (.int .i64 2):World);have C:Fr (λk=>k=b2) m j:=by rw[u];exact(Fr.refl (λk=>k=b2) m).setCell (p:=⟨b2,1,none⟩) (λ_=>rfl) _
     have f:Hid (ac j b2 194 #[.slice A n c,.int .i64 2]):=Ld (by
      have:=D.out.set 1 (.int .i64 2);rw[u]
      simpa using this)
     have b:Hid (ac j b5 194 #[.slice none 0 0,.int .i64 0]):=Ld (E.out.fr C L);have P:=Ld C;rw[<-u];clear u C b9 c' N O f50 f51 f20 f21;have N:j.cell? ⟨b5,0,none⟩=some (.slice none 0 0):=b.out.cell 0;have O:j.cell? ⟨b5,1,none⟩=some (.int .i64 0):=b.out.cell 1;have f50:j.frozen? ⟨b5,0,none⟩=false:=b.out.frozen 0;have f51:j.frozen? ⟨b5,1,none⟩=false:=b.out.frozen 1;have t:aZ b2 (.slice A n c) (.int .i64 2) j.drew:=aZ.of f.out;refine ah (aZ b2 (.slice A n c) (.int .i64 2)) [(true,0),(true,1),(false,2)] (by kernel_rfl) (by kernel_rfl) t (λY=>?_);have q0:∀p:HW (aZ b2 (.slice A n c) (.int .i64 2)),p.w.cell? ⟨b2,0,none⟩=some (.slice A n c):=λp=>p.h.1
     have q1:∀p:HW (aZ b2 (.slice A n c) (.int .i64 2)),p.w.cell? ⟨b2,1,none⟩=some (.int .i64 2):=λp=>p.h.2
     iterate 2 (refine af (o:=.mk ..) rfl (λK q=>?_);go_simp;refine q _ ?_;clear q K)
     refine aj (o:=.mk ..) rfl (λK q=>?_) (.inl rfl);go_simp;obtain⟨z,d⟩:=nM (((j.setCell ⟨b5,0,none⟩ (.slice A n c)).setCell ⟨b5,1,none⟩ (.int .i64 2)).drew:World);have i:Fr (λk=>k=b5) j z:=by rw[d];exact(((Fr.refl (λk=>k=b5) j).setCell (p:=⟨b5,0,none⟩) (λ_=>rfl) _).setCell (p:=⟨b5,1,none⟩) (λ_=>rfl) _).drew
     have g:ac z b5 194 #[(.slice A n c),(.int .i64 2)]:=by rw[d];exact bQ b.out (.slice A n c) (.int .i64 2)
     rw[<-d];refine q.out _ _ (λ_=>aZ.of (f.out.fr i B)) ?_;clear q K q0 q1;refine au ?_;have U:z.cell? ⟨b5,0,none⟩=some (.slice A n c):=g.cell 0;have r1:z.cell? ⟨b5,1,none⟩=some (.int .i64 2):=g.cell 1;have J:=Ld i;clear d i g t
     go_wp2_with fail;have l:Hid (aa w z):=Ld ((G.out.fr P.out (λk hk=>by have:=HZ.out;omega)).fr J.out (λk hk=>by have:=HZ.out;omega));refine bodyPost_ret (v:=.tuple #[.slice none 0 0,.agg #[.slice A n c,.int .i64 2]]) (by simp[results,results127,go_sem,U,r1]) rfl ⟨?_,l.out⟩;rw[F.out];exact⟨none,0,A,n,c,rfl,jJ _,Nat.le_refl _,⟨l.out.rd H.out.rd,H.out.byt,H.out.nc,H.out.cm⟩⟩
    ·have i1:decide ((v:Int)<=(n:Int)-2)=true:=decide_eq_true (by omega)
     have g4:s.raw 2=(s.xs.take 2,⟨s.xs.drop 2,0⟩):=by
      unfold Rs.raw;rw[hlf,if_neg c7,<-HE.out]
     have g5:(⟨s.xs.drop 2,0⟩:Rs).raw v=((s.xs.drop 2).take v,⟨(s.xs.drop 2).drop v,0⟩):=by
      have i2:(⟨s.xs.drop 2,0⟩:Rs).left=n-2:=by unfold Rs.left;rw[if_pos rfl];dsimp only;rw[List.length_drop,V.out]
      unfold Rs.raw;rw[i2,if_neg f']
     have F:Hid (r=((s.xs.drop 2).take v,⟨s.xs.drop (2+v),0⟩)):=Ld (by
      rw[b3.out,if_neg (by omega),g4];dsimp only
      rw[g5,List.drop_drop])
     have M:=mH (k:=2) H.out (by omega) 0;have c8:=mH (k:=2+v) H.out (by omega) 0;have b8:Hid (((s.xs.drop 2).take v).length=v):=Ld (by rw[List.length_take,List.length_drop,V.out];omega);have i5:IntKind.i64.wrap (2+(v:Int))=2+v:=IntWalk.i64_in _ (by omega);have i3:(2+(v:Int)).toNat=2+v:=by omega
     have c0:(0:Int)<=2+(v:Int):=by omega
     have c3:2+(v:Int)<=(n:Int):=by omega
     have c1:2+(v:Int)<=(c:Int):=by omega
     have g9:(2:Int)<=2+(v:Int):=by omega
     have b0:2+v<=n:=by omega
     have b':2+v<=c:=by omega
     have c9:2+v-2=v:=by omega
     clear hlf g4 g5
     go_wp2_with fail;refine(X.out m G.out).mono ?_;rintro e g6 ⟨rfl,rfl⟩
     go_wp2_with fail;have f:=D;have b:=E;have t:aZ b2 (.slice A n c) (.int .i64 0) m.drew:=aZ.of f.out;refine ah (aZ b2 (.slice A n c) (.int .i64 0)) [(true,0),(true,1),(true,2),(true,3),(true,4),(true,5),(true,6),(true,7),(true,8),(true,9),(true,10),(true,11),(false,12)] (by kernel_rfl) (by kernel_rfl) t (λY=>?_);have q0:∀p:HW (aZ b2 (.slice A n c) (.int .i64 0)),p.w.cell? ⟨b2,0,none⟩=some (.slice A n c):=λp=>p.h.1
     iterate 12 (refine af (o:=.mk ..) rfl (λK q=>?_);go_simp;refine q _ ?_;clear q K)
     refine aj (o:=.mk ..) rfl (λK q=>?_) (.inl rfl);go_simp
     have b1:Option.map (λx:Addr=>x.add 2) A=Option.map (λx:Addr=>(⟨x.block,x.off+2,none⟩:Addr)) A:=by
      congr 1
     rw[b1]at M;generalize (if c=2 then A else Option.map (λx:Addr=>(⟨x.block,x.off+2,none⟩:Addr)) A)=A1 at M⊢;generalize (if c=2+v then A else Option.map (λx=>x.add (2+v)) A)=A2 at c8⊢;have b7:=Ld M;have d':=Ld c8;obtain⟨z,d⟩:=nM (((m.setCell ⟨b5,0,none⟩ (.slice A2 (n-(2+v)) (c-(2+v)))).setCell ⟨b5,1,none⟩ (.int .i64 0)).drew:World);have i:Fr (λk=>k=b5) m z:=by rw[d];exact(((Fr.refl (λk=>k=b5) m).setCell (p:=⟨b5,0,none⟩) (λ_=>rfl) _).setCell (p:=⟨b5,1,none⟩) (λ_=>rfl) _).drew
     have g:ac z b5 194 #[.slice A2 (n-(2+v)) (c-(2+v)),.int .i64 0]:=by rw[d];exact bQ b.out _ _
     rw[<-d];refine q.out _ _ (λ_=>aZ.of (f.out.fr i B)) ?_;clear q K q0;refine au ?_;have U:z.cell? ⟨b5,0,none⟩=some (.slice A2 (n-(2+v)) (c-(2+v))):=g.cell 0;have r1:z.cell? ⟨b5,1,none⟩=some (.int .i64 0):=g.cell 1;have l:Hid (aa w z):=Ld (G.out.fr i (λk hk=>by have:=HZ.out;omega));obtain⟨n2,S⟩:=nM (n-(2+v));obtain⟨c2,R⟩:=nM (c-(2+v));rw[<-S,<-R]at U d';rw[<-S,<-R];have g7:Hid (v<=c-2):=Ld (by omega);have g8:Hid (v<=n-2):=Ld (by omega);clear d i g t c8 M b1 i5 i3 c0 c3 c1 g9 b0 b' c9 S R
     go_wp2_with fail;refine bodyPost_ret (v:=.tuple #[.slice A1 v (c-2),.agg #[.slice A2 n2 c2,.int .i64 0]]) (by simp[results,results127,go_sem,U,r1]) rfl ⟨?_,l.out⟩;rw[F.out];exact⟨A1,c-2,A2,n2,c2,by dsimp only;rw[b8.out];rfl,by dsimp only;rw[b8.out];exact l.out.rd (Rd.take b7.out.rd g8.out),by dsimp only;rw[b8.out];exact g7.out,d'.out.new l.out⟩
 ·skip
  have hz:((I:Int) != 0)=true:=by simp;omega
  have j1:((I:Int)==0)=false:=by simp;omega
  have j':decide ((I:Int)=0)=false:=decide_eq_false (by omega);have f:=D;have b:=E;have F:Hid (r=([],s)):=Ld (by rw[HR.out];exact ra (by rw[<-HE.out];exact h0) y)
  go_wp2_with fail;have t:aZ b2 (.slice A n c) (.int .i64 I) m.drew:=aZ.of f.out;refine ah (aZ b2 (.slice A n c) (.int .i64 I)) [(true,0),(true,1),(false,2)] (by kernel_rfl) (by kernel_rfl) t (λY=>?_);have q0:∀p:HW (aZ b2 (.slice A n c) (.int .i64 I)),p.w.cell? ⟨b2,0,none⟩=some (.slice A n c):=λp=>p.h.1
  have q1:∀p:HW (aZ b2 (.slice A n c) (.int .i64 I)),p.w.cell? ⟨b2,1,none⟩=some (.int .i64 I):=λp=>p.h.2
  iterate 2 (refine af (o:=.mk ..) rfl (λK q=>?_);go_simp;refine q _ ?_;clear q K)
  refine aj (o:=.mk ..) rfl (λK q=>?_) (.inl rfl);go_simp;obtain⟨z,d⟩:=nM (((m.setCell ⟨b5,0,none⟩ (.slice A n c)).setCell ⟨b5,1,none⟩ (.int .i64 I)).drew:World);have i:Fr (λk=>k=b5) m z:=by rw[d];exact(((Fr.refl (λk=>k=b5) m).setCell (p:=⟨b5,0,none⟩) (λ_=>rfl) _).setCell (p:=⟨b5,1,none⟩) (λ_=>rfl) _).drew
  have g:ac z b5 194 #[(.slice A n c),(.int .i64 I)]:=by rw[d];exact bQ b.out (.slice A n c) (.int .i64 I)
  rw[<-d];refine q.out _ _ (λ_=>aZ.of (f.out.fr i B)) ?_;clear q K q0 q1;refine au ?_;have U:z.cell? ⟨b5,0,none⟩=some (.slice A n c):=g.cell 0;have r1:z.cell? ⟨b5,1,none⟩=some (.int .i64 I):=g.cell 1;have J:=Ld i;clear d i g t
  go_wp2_with fail;have l:Hid (aa w z):=Ld (G.out.fr J.out (λk hk=>by have:=HZ.out;omega));refine bodyPost_ret (v:=.tuple #[.slice none 0 0,.agg #[.slice A n c,.int .i64 I]]) (by simp[results,results127,go_sem,U,r1]) rfl ⟨?_,l.out⟩;rw[F.out];exact⟨none,0,A,n,c,by rw[HE.out];rfl,jJ _,Nat.le_refl _,H.out.new l.out⟩
theorem Dx{p:Nat->Prop}{w:World}{A:Option Addr}{n c:Nat}{s:Rs}(h:mY p w A n c s):
    Calls prog 128 #[rV A n c s.e] w λe w'=>e=.returned (.int .i64 s.fin)/\aa w w':=by
 have d:=h.len;have g:=h.cm;have j:=h.nc;unfold rV Rs.fin;rw[d];obtain⟨f,b⟩:=nM (s.e);rw[<-b];clear h b d
 by_cases h0:f=0
 ·subst h0;rw[if_neg (by omega)]
  by_cases d:0<n
  ·have hd:decide ((0:Int)<(n:Int))=true:=decide_eq_true (by omega);rw[if_pos d]
   go_enter func128,ntmps128
   go_wp2_with fail;go_ret;exact⟨rfl,aa.al (aa.refl _) _⟩
  ·have hd:decide ((0:Int)<(n:Int))=false:=decide_eq_false (by omega);rw[if_neg d]
   go_enter func128,ntmps128
   go_wp2_with fail;go_ret;exact⟨rfl,aa.al (aa.refl _) _⟩
 ·have hz:((f:Int) != 0)=true:=by simp;omega
  have k:((f:Int)==0)=false:=by simp;omega
  have i:decide ((f:Int)=0)=false:=decide_eq_false (by omega);rw[if_pos h0]
  go_enter func128,ntmps128
  go_wp2_with fail;go_ret;exact⟨rfl,aa.al (aa.refl _) _⟩
end Go.Proofs.YtfchcdbfalgdlaaGreatDoor
namespace Go.Proofs.YtfchcdbfalgdlaaGreatDoor
open _root_.Go.Proofs.Tryz
open Go.RowKit Go.Maps Go.Sort
def ES(w:World)(base:Nat)(b:Value)(bs:List Int)(A:Option Addr)(n c:Nat)(w':World):Prop:=
 w'.ownsRow base 5 1 (.slice A n c) n (an bs)/\Fr (λk=>b.ownBlock=some k) w w'/\∀k,(Value.slice A n c).ownBlock=some k->b.ownBlock=some k\/w.heap.size<=k
theorem iR(xs ys:List Int):an (xs++ys)=an xs++an ys:=by simp[an]
theorem lS{base:Nat}{w:World}{p:Nat->Prop}(A:Option Addr)(n c:Nat)(bs:List Int)(hO:w.ownsRow base 5 1 (.slice A n c) n (an bs))(f:base<=w.heap.size)(B:Option Addr)(m d:Nat)(xs:List Int)(N:Rd p w 1 B m (an xs))(O:∀k,p k->k<base)(U:n+m<=100000000):
    Calls prog 132 #[.slice A n c,.slice B m d] w λe w'=>(∃I M,e=.returned (.slice I (n+2+m) M)/\ES w base (.slice A n c) (bs++bj 2 m++xs) I (n+2+m) M w'):=by
 have L:=Ld hO;have S:=Ld N;have R:=Ld O;have J:=Ld f;clear hO N O f
 go_enter func132,ntmps132
 go_wp2_with fail;refine(fw m 2 w (by omega) (by omega)).mono ?_;rintro e V ⟨rfl,t,s⟩;have D:=Ld t;have b:=Ld s;clear t s
 go_wp2_with (at_builtin;refine dM ⟨some 10,_,_,_,_,_⟩ ?_;refine dG ?_)
 refine⟨?_⟩;refine av (o:=⟨some 10,_,_,_,_,_⟩) kB _ rfl (.tmp 5) (.tmp 9) rfl base (.slice A n c) n (an bs) rfl (b.out.own L.out) _ 2 2 (an (bj 2 m)) rfl (Rd.own D.out rfl) (aR _) (by unfold maxLen;omega) (by omega) (Nat.le_trans J.out b.out.size) ?_;intro A2 d2 T u i l;have E:=Ld u;have g:=Ld i;have j:=Ld l;have G:Hid (Rd p T 1 B m (an xs)):=Ld ((b.out.rd S.out).fr i (λk y H=>by have:=R.out k y;have:=(am L.out k H).1;omega));clear u i l
 go_wp2_with (at_builtin;refine dM ⟨some 12,_,_,_,_,_⟩ ?_;refine dG ?_)
 refine⟨?_⟩;refine av (o:=⟨some 12,_,_,_,_,_⟩) kB _ rfl (.tmp 10) (.tmp 11) rfl base (.slice A2 (n+2) d2) (n+2) (an bs++an (bj 2 m)) rfl E.out _ m d (an xs) rfl G.out (aR _) (by unfold maxLen;omega) (by omega) (by have:=g.out.size;have:=b.out.size;have:=J.out;omega) ?_;intro P d4 X v r q;have F:=Ld v;have C:=Ld r;have z:=Ld q;clear v r q
 go_wp2_with fail;go_ret;refine⟨P,d4,rfl,?_,?_,?_⟩
 ·rw[iR,iR];exact F.out
 ·refine ((b.out.toFr _).trans g.out).trans' C.out (λk y H=> ?_);rcases j.out k H with h | h
  ·exact h
  ·have:=b.out.size;omega
 ·intro k y;rcases z.out k y with h | h
  ·rcases j.out k h with h | h
   ·exact .inl h
   ·exact .inr (Nat.le_trans b.out.size h)
  ·exact .inr (Nat.le_trans b.out.size (Nat.le_trans g.out.size h))
def mW(g o:Nat)(k v:Value)(w:World):Prop:=w.cell? ⟨g,o,none⟩=some k/\w.cell? ⟨g,o+1,none⟩=some v
theorem mW.fr{g o:Nat}{k v:Value}{w w':World}{S:Nat->Prop}(h:mW g o k v w)(hF:Fr S w w')(b:¬S g):mW g o k v w':=⟨hF.cell_some h.1 b,hF.cell_some h.2 b⟩
set_option maxHeartbeats 8000000 in
theorem jq(A:Option Addr)(n c:Nat)(L:List Ch)(w:World)(h:ou w A n L)(hn:n<=1000)(hs:∀c∈L,c.k.n<=16/\c.v.n<=16384):
    Calls prog 82 #[.slice A n c] w λe w'=>(∃S U,e=.returned (.slice S (bI L).length U)/\w'.ownsRow w.heap.size 5 1 (.slice S (bI L).length U) (bI L).length (an (bI L)))/\aa w w':=by
 have H:=Ld h;have HS:=Ld hs
 have g6:∀c∈L,(mq c).length<=40000:=λc hc=>by
  have h1:=ya (h.el c hc).k.len (h.el c hc).v.len;have:=hs c hc;omega
 have i0:=Ld g6;clear h hs g6
 go_enter func82,ntmps82
 go_wp2_with fail;refine(fw n 2 w (by omega) (by omega)).mono ?_;rintro e w1 ⟨rfl,g4,g3⟩;have c8:Hid (w1.ownsRow w.heap.size 5 1 (.slice (some ⟨w.heap.size,0,none⟩) 2 2) 2 (an (bj 2 n++(L.take 0).flatMap mq))):=Ld (by simpa using g4);have c7:=Ld g3;clear g4 g3
 go_wp2_with fail;go_loopw [3,4] (λb i wr=>∃(j m:Nat) (S:Option Addr) (U:Nat),j<=n/\i=.int .i64 j/\b=.slice S m U/\Hid (wr.ownsRow w.heap.size 5 1 (.slice S m U) m (an (bj 2 n++(L.take j).flatMap mq)))/\Hid (aa w wr)) (λb i _=>n-(intOf i).toNat)
 case atStart=>exact⟨0,2,_,_,Nat.zero_le _,rfl,rfl,c8,c7⟩
 case round=>
  obtain⟨j,m,S,U,hj,rfl,rfl,J,HN⟩:=hrel;clear c8 c7;obtain⟨bs,X⟩:=nM (bj 2 n++(L.take j).flatMap mq);rw[<-X]at J
  have hm:m<=50000000:=by
   have h1:=J.out.1;rw[ak,X,List.length_append,aw]at h1;have:=uz i0.out j (by rw[H.out.len];exact hj);omega
  have b':=Ld X;clear X
  by_cases g8:j<n
  ·as_aux_lemma=>
   obtain⟨r,o,hl,rfl,g7,-,Y⟩:=eZ (f:=Ch.cells) (L:=L) (λ_=>rfl) (by omega) (HN.out.rd H.out.rd) g8;have c0:wr.cell? ⟨r,o+j*3,none⟩=some (.slice L[j].k.A L[j].k.n L[j].k.c):=Y 0 _ rfl;have c1:wr.cell? ⟨r,o+j*3+1,none⟩=some (.slice L[j].v.A L[j].v.n L[j].v.c):=Y 1 _ rfl;have c2:wr.cell? ⟨r,o+j*3+2,none⟩=some (.bool L[j].d):=Y 2 _ rfl;have b8:=H.out.el L[j] (List.getElem_mem _);have i':=HS.out L[j] (List.getElem_mem _);have c4:=nu hl;generalize L[j]=x at c0 c1 c2 b8 i' c4;obtain⟨⟨B,kn,C,ks⟩,⟨E,vn,F,vs⟩,d⟩:=x;dsimp only at c0 c1 c2 i';have b0:=Ld b8;have f':=Ld c4;have i5:(0:Int)<=(j:Int):=by omega
   have i6:(j:Int)<(n:Int):=by omega
   have i4:j<n:=g8;have G:Hid (r<w.heap.size):=Ld g7;clear Y hl b8 c4 g7;have V:mW r (o+j*3) (.slice B kn C) (.slice E vn F) wr.drew:=⟨c0,c1⟩
   have T:Hid (mW r (o+j*3) (.slice B kn C) (.slice E vn F) wr):=Ld ⟨c0,c1⟩
   cases d
   ·go_wp2_with fail;refine ah (mW r (o+j*3) (.slice B kn C) (.slice E vn F)) [(true,0),(true,3),(true,4),(true,5),(true,6),(true,7),(true,9),(true,10),(true,11),(true,12),(true,13),(false,1),(false,2),(false,8),(false,14),(true,15)] (by kernel_rfl) (by kernel_rfl) V (λc3=>?_);have q0:∀p:HW (mW r (o+j*3) (.slice B kn C) (.slice E vn F)),p.w.cell? ⟨r,o+j*3,none⟩=some (.slice B kn C):=λp=>p.h.1
    have q1:∀p:HW (mW r (o+j*3) (.slice B kn C) (.slice E vn F)),p.w.cell? ⟨r,o+j*3+1,none⟩=some (.slice E vn F):=λp=>p.h.2
    iterate 11 (refine af (o:=.mk ..) rfl (λK g=>?_);go_simp;refine g _ ?_;clear g K)
    clear q0 q1 c0 c1 c2 V;refine aj (o:=.mk ..) rfl (λK g=>?_) (.inl rfl);refine nF kB rfl (.const (.int .u8 1)) rfl (.int .u8 1) (by rfl) rfl ?_;intro gb w3 N O b9;simp only[Act.put,bC,bD,bF];have q:Hid (aa wr w3):=Ld (aa.tr (aa.dr (aa.refl _)) O);have Z:=Ld N;refine g.out _ _ (λ_=>T.out.fr (q.out.toFr ic) (λx=>x)) ?_;clear g K N O b9;refine aj (o:=.mk ..) rfl (λK g=>?_) (.inl rfl);refine ce kB _ (by rfl) (.tmp 29) (.tmp 30) (by rfl) w.heap.size (.slice S m U) m (an bs) (by rfl) (q.out.own J.out) (some ⟨gb,0,none⟩) 1 1 (an [1]) (by rfl) (Rd.ofBlk (p:=λ_=>True) Z.out 1 1 rfl trivial) (aR _) (by unfold maxLen;omega) (by omega) (Nat.le_trans HN.out.size q.out.size) ?_;intro A4 d4 w4 z u b1;simp only[Act.put,bC,bD,bF];rw[<-iR]at z;have t:=Ld z;have s:Hid (aa w w4):=Ld ((HN.out.tr q.out).fr u (λk l=>(am J.out k l).1));have M:Hid (mW r (o+j*3) (.slice B kn C) (.slice E vn F) w4):=Ld ((T.out.fr (q.out.toFr ic) (λx=>x)).fr u (λl=>by have:=(am J.out _ l).1;have:=G.out;omega));refine g.out _ _ (λ_=>M.out) ?_;clear g K z u b1;refine aj (o:=.mk ..) rfl (λK g=>?_) (.inl rfl);go_simp;refine(lS A4 (m+1) d4 (bs++[1]) t.out s.out.size B kn C ks (s.out.rd b0.out.k.rd) (λk l=>l) (by omega)).mono ?_;rintro e w5 ⟨A5,c5,rfl,P,y,b3⟩;have D:=Ld P;have I:Hid (aa w w5):=Ld (s.out.fr y (λk l=>(am t.out k l).1));have d':Hid (mW r (o+j*3) (.slice B kn C) (.slice E vn F) w5):=Ld (M.out.fr y (λl=>by have:=(am t.out _ l).1;have:=G.out;omega));refine g.out _ _ (λ_=>d'.out) ?_;clear g K P y b3;refine aj (o:=.mk ..) rfl (λK g=>?_) (.inl rfl);go_simp;refine(lS A5 (m+1+2+kn) c5 _ D.out I.out.size E vn F vs (I.out.rd b0.out.v.rd) (λk l=>l) (by omega)).mono ?_;rintro e w6 ⟨A6,c6,rfl,g5,b7,i3⟩;have c9:=Ld g5;have i2:Hid (aa w w6):=Ld (I.out.fr b7 (λk l=>(am D.out k l).1));refine g.out _ _ (λ_=>d'.out.fr b7 (λl=>by have:=(am D.out _ l).1;have:=G.out;omega)) ?_;clear g K g5 b7 i3;refine af (o:=.mk ..) rfl (λK g=>?_);go_simp;refine g _ ?_;clear g K c3;refine au ?_;obtain⟨m6,R⟩:=nM (m+1+2+kn+2+vn);rw[<-R]at c9⊢;clear R
    go_wp2_with fail;go_roundw
    case rel=>
     refine⟨j+1,m6,A6,c6,by omega,by go_num,rfl,?_,i2⟩;rw[f'.out];have:=c9.out;rw[b'.out]at this;refine Ld ?_
     simpa[mq,List.append_assoc]using this
    case measure=>simp[intOf];omega
   ·go_wp2_with fail;refine ah (mW r (o+j*3) (.slice B kn C) (.slice E vn F)) [(true,0),(true,3),(true,4),(true,5),(true,6),(true,7),(false,1),(false,2),(false,8),(true,9)] (by kernel_rfl) (by kernel_rfl) V (λc3=>?_);have q0:∀p:HW (mW r (o+j*3) (.slice B kn C) (.slice E vn F)),p.w.cell? ⟨r,o+j*3,none⟩=some (.slice B kn C):=λp=>p.h.1
    iterate 6 (refine af (o:=.mk ..) rfl (λK g=>?_);go_simp;refine g _ ?_;clear g K)
    clear q0 c0 c1 c2 V;refine aj (o:=.mk ..) rfl (λK g=>?_) (.inl rfl);refine nF kB rfl (.const (.int .u8 0)) rfl (.int .u8 0) (by rfl) rfl ?_;intro gb w3 N O b9;simp only[Act.put,bC,bD,bF];have q:Hid (aa wr w3):=Ld (aa.tr (aa.dr (aa.refl _)) O);have Z:=Ld N;refine g.out _ _ (λ_=>T.out.fr (q.out.toFr ic) (λx=>x)) ?_;clear g K N O b9;refine aj (o:=.mk ..) rfl (λK g=>?_) (.inl rfl);refine ce kB _ (by rfl) (.tmp 20) (.tmp 21) (by rfl) w.heap.size (.slice S m U) m (an bs) (by rfl) (q.out.own J.out) (some ⟨gb,0,none⟩) 1 1 (an [0]) (by rfl) (Rd.ofBlk (p:=λ_=>True) Z.out 1 1 rfl trivial) (aR _) (by unfold maxLen;omega) (by omega) (Nat.le_trans HN.out.size q.out.size) ?_;intro A4 d4 w4 z u b1;simp only[Act.put,bC,bD,bF];rw[<-iR]at z;have t:=Ld z;have s:Hid (aa w w4):=Ld ((HN.out.tr q.out).fr u (λk l=>(am J.out k l).1));have M:Hid (mW r (o+j*3) (.slice B kn C) (.slice E vn F) w4):=Ld ((T.out.fr (q.out.toFr ic) (λx=>x)).fr u (λl=>by have:=(am J.out _ l).1;have:=G.out;omega));refine g.out _ _ (λ_=>M.out) ?_;clear g K z u b1;refine aj (o:=.mk ..) rfl (λK g=>?_) (.inl rfl);go_simp;refine(lS A4 (m+1) d4 (bs++[0]) t.out s.out.size B kn C ks (s.out.rd b0.out.k.rd) (λk l=>l) (by omega)).mono ?_;rintro e w5 ⟨A5,c5,rfl,P,y,b3⟩;have D:=Ld P;have I:Hid (aa w w5):=Ld (s.out.fr y (λk l=>(am t.out k l).1));refine g.out _ _ (λ_=>M.out.fr y (λl=>by have:=(am t.out _ l).1;have:=G.out;omega)) ?_;clear g K P y b3;refine af (o:=.mk ..) rfl (λK g=>?_);go_simp;refine g _ ?_;clear g K c3;refine au ?_;obtain⟨m6,R⟩:=nM (m+1+2+kn);rw[<-R]at D⊢;clear R
    go_wp2_with fail;go_roundw
    case rel=>
     refine⟨j+1,m6,A5,c5,by omega,by go_num,rfl,?_,I⟩;rw[f'.out];have:=D.out;rw[b'.out]at this;refine Ld ?_
     simpa[mq,List.append_assoc]using this
    case measure=>simp[intOf];omega
  ·as_aux_lemma=>
   obtain rfl:j=n:=by omega
   have hp:bs=bI L:=by
    rw[b'.out];unfold bI;rw[<-H.out.len,List.take_length]
   rw[hp]at J;have g9:m=(bI L).length:=by have:=J.out.1;rw[ak]at this;omega
   have i1:=Ld g9;clear hp g9
   go_wp2_with fail;go_ret;rw[<-i1.out];exact⟨⟨S,U,rfl,J.out⟩,HN.out⟩
theorem ni:aY prog 76 153 3 56:=aY.mk' (z:=.agg GK.cells.toArray) underlying76 (by kernel_rfl) rfl (by decide)
theorem Gr:aY prog 144 76 1 24:=aY.mk' (z:=.slice none 0 0) underlying144 (by kernel_rfl) rfl (by decide)
theorem BX{L:List Ch}(hl:ko L)(hd:∀c∈L,c.d=false):(bI L).length=2+(L.map iD).sum:=by
 unfold bI;rw[List.length_append,aw]
 congr 1
 induction L with
 |nil=>rfl
 |cons c L d=>
  have h1:=hl c (List.mem_cons_self ..);have h2:=hd c (List.mem_cons_self ..);rw[List.flatMap_cons,List.length_append,List.map_cons,List.sum_cons,d (λx b=>hl x (List.mem_cons_of_mem _ b)) (λx b=>hd x (List.mem_cons_of_mem _ b))]
  congr 1
  unfold mq iD;rw[h2];simp[aw,h1.1,h1.2];omega
theorem gZ{P:Program}{t e:TypeId}{size bytes:Nat}(E:aY P t e size bytes)(w:World){i:Array Oper}{o:Oper}{a:Act}{K:Act->World->Prop}{Q:Exit->Act->World->Prop}{F:Prop}(B:Region.wanted o (yielded i a.tmps)=true)(s x:Operand)
    (r:o.op=.call {callee:=.builtin .append,args:= #[s,x],argTypes:= #[t,t]})
    (base:Nat) (v:Value) (n:Nat) (xs:List Value) (z:a.eval s=v) (g:w.ownsRow base e size v n xs)
    {p:Nat->Prop} (X:Option Addr) (m c:Nat) (b:List Value) (C:a.eval x=.slice X m c) (y:Rd p w size X m b) (h1:∀u∈b,u.oneCell'=true)
    (q:n+m<=maxLen) (d:(n+m)*bytes<=140737488355328) (f:base<=w.heap.size)
    (h:∀j l w',w'.ownsRow base e size (.slice j (n+m) l) (n+m) (xs++b)->Fr (λk=>v.ownBlock=some k) w w'->
     (∀k,(Value.slice j (n+m) l).ownBlock=some k->v.ownBlock=some k\/w.heap.size<=k)->K (a.put o.dst (.slice j (n+m) l)) w'):
    if Region.wanted o (yielded i a.tmps)=true then Oper.wp P o a w K Q else F:=by
 rw[if_pos B];exact ud E w s x r base v n xs z g X m c b C y h1 q d f h
theorem lI(L:List Ch):∀u∈L.flatMap Ch.cells,u.oneCell'=true:=by
 intro u hu;obtain⟨c,-,b⟩:=List.mem_flatMap.1 hu;exact cF c u b
theorem yD{w:World}{base g size:Nat}{t:TypeId}{cs:Array Value}(h:ac w g t cs)(b:cs.size=size)(c:base<=g):w.ownsRow base t size (.slice (some ⟨g,0,none⟩) 1 1) 1 cs.toList:=
 ⟨by simp[b],.inr ⟨g,1,cs,rfl,c,h,Nat.le_refl _,by unfold maxLen;omega,by omega,by rw[List.take_of_length_le];simp[b]⟩⟩
def vP(c kn b o:Nat)(row k v d:Value)(w:World):Prop:=w.cell? ⟨c,kn,none⟩=some row/\w.cell? ⟨b,o,none⟩=some k/\w.cell? ⟨b,o+1,none⟩=some v/\w.cell? ⟨b,o+2,none⟩=some d
def GI(w:World)(L:List Ch)(j:Nat)(s:Value)(wr:World):Prop:=
 aa w wr/\((j=0/\s=.slice none 0 0)\/∃(g n c:Nat) (C:List Sl) (l:Sl) (lo:Nat),s=.slice (some ⟨g,0,none⟩) n c/\iV 76 153 (λ_=>True) w.heap.size lo wr (some ⟨g,0,none⟩) n c C l/\
  mP iD (L.take j)=some (C.map Sl.L,l.L)/\l.L.length<=600/\(∀y∈l.L,y∈L)/\n<=j)
def pq (L:List Ch) (j:Nat) (y:Ch):Bool:=match mP iD (L.take j) with
 |none=>false
 |some (_,l)=>decide (l.length<600/\(l.map iD).sum+iD y<=8190)
theorem tF(A:Option Addr)(n c:Nat)(L:List Ch)(w:World)(h:ou w A n L)(hn:n<=1000000)(hY:∀y∈L,oR y):
    Calls prog 80 #[.slice A n c] w λe w'=>(∃(A':Option Addr) (n' c':Nat) (R:List Sl),e=.returned (.slice A' n' c')/\(AA w' A' n' R/\iZ w.heap.size w' A' n' R)/\R.map Sl.L=jt (mP iD L))/\aa w w':=by
 have H:=Ld h;have HY:=Ld hY;have hll:L.length=n:=h.len;have HLO:=Ld h.lens;clear h hY
 go_enter func80,ntmps80
 go_wp2_with fail;go_loopw [3,4] (λs i wr=>∃(j:Nat),j<=n/\i=.int .i64 j/\(∃(aV:Option Addr) (nV cV:Nat),s=.slice aV nV cV/\nV<=j)/\Hid (GI w L j s wr)) (λs i _=>n-(intOf i).toNat)
 case atStart=>exact⟨0,Nat.zero_le _,rfl,⟨none,0,0,rfl,Nat.zero_le _⟩,Ld ⟨aa.refl w,.inl ⟨rfl,rfl⟩⟩⟩
 case round=>
  obtain⟨j,hj,rfl,⟨aV,nV,cV,rfl,hnV⟩,HI⟩:=hrel
  by_cases hlt:j<n
  ·obtain ⟨gA,o,hl,rfl,hgA,-,hrg⟩:=eZ (f:=Ch.cells) (L:=L) (λ_=>rfl) (by omega) (HI.out.1.rd H.out.rd) hlt;have c0:wr.cell? ⟨gA,o+j*3,none⟩=some (.slice L[j].k.A L[j].k.n L[j].k.c):=hrg 0 _ rfl;have c1:wr.cell? ⟨gA,o+j*3+1,none⟩=some (.slice L[j].v.A L[j].v.n L[j].v.c):=hrg 1 _ rfl;have c2:wr.cell? ⟨gA,o+j*3+2,none⟩=some (.bool L[j].d):=hrg 2 _ rfl;have hin:=(H.out.el L[j] (List.getElem_mem _)).new HI.out.1;have hys:=HY.out L[j] (List.getElem_mem _);have hlo:=HLO.out L[j] (List.getElem_mem _);have hst:L.take (j+1)=L.take j++ [L[j]]:=List.take_succ_eq_append_getElem hl;have hmem:L[j]∈L:=List.getElem_mem _;generalize L[j]=y at c0 c1 c2 hin hys hlo hst hmem;have HIN:=Ld hin;have HYS:=Ld hys;have HLY:=Ld hlo;have HST:=Ld hst;have HME:=Ld hmem;have hj0:(0:Int)<=(j:Int):=by omega
   have hjn:(j:Int)<(n:Int):=by omega
   clear hin hys hlo hst hmem hrg
   go_wp2_with fail;obtain⟨k5,hk5⟩:=nM ((nV:Int)-1:Int);rw[<-hk5];have HK5:=Ld hk5;clear hk5;refine ER (λa w'=>∃(v15 v16 v17 v18 v19 v20 v21 v22 v23 v24 v25 v26 v27 v28 v29 v30 v31 v32 v33 v34 v35 v36 v37 v38 v39 v40:Value),a={tmps:= #[.slice (some ⟨gA,o,none⟩) n c,undef,.slice none 0 0,.slice aV nV cV,.int .i64 (j:Nat),.int .i64 k5,.int .i64 (j:Nat),.slice (some ⟨gA,o,none⟩) n c,.int .i64 (n:Nat),.bool true,u10,u11,.slice aV nV cV,.int .i64 (nV:Nat),.int .i64 k5,v15,v16,v17,v18,v19,v20,v21,v22,v23,v24,v25,v26,v27,v28,v29,v30,v31,v32,v33,v34,v35,v36,v37,v38,v39,v40,.bool (pq L j y),u42,u43,u44,u45,u46,u47,u48,u49,u50,u51,u52,u53,u54,u55,u56,u57,u58,u59,u60,u61,u62,undef],defers:=[]}/\Hid (aa wr w')) ?next ?reg
   case reg=>
    intro K' hK';have HK':=Ld hK';clear hK';rcases HI.out.2 with⟨hj00,hv0⟩|⟨gO,nO,cO,C,l,lo,hv0,hNs,hsp,hl6,hlm,hns⟩
    ·injection hv0 with e1 e2 e3;subst e1 e2 e3 hj00;have hk5':k5= -1:=by rw [HK5.out];rfl
     subst hk5';have hf:pq L 0 y=false:=by simp[pq,mP]
     rw[hf]at HK';have hS0:(λw'=>aa wr w') wr.drew:=aa.dr (aa.refl wr);refine bu (λw'=>aa wr w') (.take 0 (.take 1 (.take 2 (.take 3 (.take 4 (.take 5 (.take 6 (.take 7 (.take 8 (.take 9 (.take 10 (.take 12 (.take 13 (.take 14 (.take 15 (.take 17 (.take 18 (.take 19 (.take 20 (.two 11 (.two 16 (.act 21 (.act 22 (.act 23 (.take 24 (.take 25 (.take 26 .done)))))) 21 (.act 16 (.act 22 (.act 23 (.take 24 (.take 25 (.take 26 .done))))))) 21 (.act 11 (.act 16 (.act 22 (.act 23 (.take 24 (.take 25 (.take 26 .done))))))))))))))))))))))))))) (by kernel_rfl) (by kernel_rfl) hS0 (λhne=>?_)
     iterate 19 (refine ay (o:=.mk ..) rfl (λK hK=>?_);go_simp;refine hK _ ?_;clear hK K)
     refine⟨?_,?_⟩
     ·refine dJ (o:=.mk ..) rfl (λK hK=>?_) (.inr hS0);go_simp;refine hK.out _ _ hS0 ?_;clear hK K;refine⟨?_,?_⟩
      ·refine dJ (o:=.mk ..) rfl (λK hK=>?_) (.inr hS0);go_simp;refine hK.out _ _ hS0 ?_;clear hK K;refine aC (o:=.mk ..) rfl (λK hK=>?_) (.inr hS0);go_simp;refine hK.out _ _ hS0 ?_;clear hK K;refine aC (o:=.mk ..) rfl (λK hK=>?_) (.inr hS0);go_simp;refine hK.out _ _ hS0 ?_;clear hK K;refine aC (o:=.mk ..) rfl (λK hK=>?_) (.inr hS0);go_simp;refine hK.out _ _ hS0 ?_;clear hK K
       iterate 3 (refine ay (o:=.mk ..) rfl (λK hK=>?_);go_simp;refine hK _ ?_;clear hK K)
       clear hne;refine aO ?_;exact HK'.out _ _ ⟨_,_,_,_,_,_,_,_,_,_,_,_,_,_,_,_,_,_,_,_,_,_,_,_,_,_,rfl,Ld hS0⟩
      ·refine dJ (o:=.mk ..) rfl (λK hK=>?_) (.inr hS0);go_simp;refine hK.out _ _ hS0 ?_;clear hK K;refine aC (o:=.mk ..) rfl (λK hK=>?_) (.inr hS0);go_simp;refine hK.out _ _ hS0 ?_;clear hK K;refine aC (o:=.mk ..) rfl (λK hK=>?_) (.inr hS0);go_simp;refine hK.out _ _ hS0 ?_;clear hK K;refine aC (o:=.mk ..) rfl (λK hK=>?_) (.inr hS0);go_simp;refine hK.out _ _ hS0 ?_;clear hK K
       iterate 3 (refine ay (o:=.mk ..) rfl (λK hK=>?_);go_simp;refine hK _ ?_;clear hK K)
       clear hne;refine aO ?_;exact HK'.out _ _ ⟨_,_,_,_,_,_,_,_,_,_,_,_,_,_,_,_,_,_,_,_,_,_,_,_,_,_,rfl,Ld hS0⟩
     ·refine dJ (o:=.mk ..) rfl (λK hK=>?_) (.inr hS0);go_simp;refine hK.out _ _ hS0 ?_;clear hK K;refine aC (o:=.mk ..) rfl (λK hK=>?_) (.inr hS0);go_simp;refine hK.out _ _ hS0 ?_;clear hK K;refine aC (o:=.mk ..) rfl (λK hK=>?_) (.inr hS0);go_simp;refine hK.out _ _ hS0 ?_;clear hK K;refine aC (o:=.mk ..) rfl (λK hK=>?_) (.inr hS0);go_simp;refine hK.out _ _ hS0 ?_;clear hK K;refine aC (o:=.mk ..) rfl (λK hK=>?_) (.inr hS0);go_simp;refine hK.out _ _ hS0 ?_;clear hK K
      iterate 3 (refine ay (o:=.mk ..) rfl (λK hK=>?_);go_simp;refine hK _ ?_;clear hK K)
      clear hne;refine aO ?_;exact HK'.out _ _ ⟨_,_,_,_,_,_,_,_,_,_,_,_,_,_,_,_,_,_,_,_,_,_,_,_,_,_,rfl,Ld hS0⟩
    ·injection hv0 with e1 e2 e3;have hnn:=hNs.nn;obtain ⟨kn,hkn⟩:∃kn,nO=kn+1:=⟨C.length,hnn⟩
     subst e1 e2 e3 hkn;have hk5':k5=(kn:Int):=by rw[HK5.out];omega
     subst hk5';have HNS:=Ld hNs;have hll:l.L.length=l.n:=hNs.ll;have cR:wr.cell? ⟨gO,kn,none⟩=some (.slice l.A l.n l.c):=hNs.lastCell rfl;have hk0:(0:Int)<=(kn:Int):=by omega
     have hk1:(kn:Int)<((kn:Int)+1):=by omega
     have hd1:decide ((0:Int)<=(kn:Int))=true:=decide_eq_true (by omega);have hfe:pq L j y=decide (l.L.length<600/\(l.L.map iD).sum+iD y<=8190):=by unfold pq;rw[hsp]
     clear hNs hsp hnn
     by_cases hrow:l.n<600
     ·have hd3:decide ((l.n:Int)<600)=true:=decide_eq_true (by omega);obtain⟨pl,hpl⟩:=nM ((bI (l.L++[y])).length)
      have hmem:∀z∈l.L++[y],z∈L:=λz hz=>by
       rcases List.mem_append.1 hz with hz|hz
       ·exact hlm z hz
       ·rw[List.mem_singleton.1 hz];exact HME.out
      have HEL:Hid (∀z∈l.L++[y],z.In (λb=>b<w.heap.size) wr):=Ld (λz hz=>(H.out.el z (hmem z hz)).new HI.out.1);have HSZ:Hid (∀z∈l.L++[y],oR z):=Ld (λz hz=>HY.out z (hmem z hz))
      have hpl2:pl=2+((l.L.map iD).sum+iD y):=by
       rw[hpl,BX (λz hz=>HLO.out z (hmem z hz)) (λz hz=>(HSZ.out z hz).1)];simp
      have hdm:decide ((pl:Int)<=8192)=pq L j y:=by
       rw[hfe]
       by_cases hh:(l.L.map iD).sum+iD y<=8190
       ·rw[decide_eq_true (by omega),decide_eq_true ⟨by omega,hh⟩]
       ·rw[decide_eq_false (by omega),decide_eq_false (λh=>hh h.2)]
      have HPL:Hid ((bI (l.L++[y])).length=pl):=Ld hpl.symm;have HLL:Hid (l.L.length=l.n):=Ld hll;have hS0:(λw'=>aa wr w') wr.drew:=aa.dr (aa.refl wr);clear hpl hpl2 hfe hmem hlm hll;refine bu (λw'=>aa wr w') (.take 0 (.take 1 (.take 2 (.take 3 (.take 4 (.take 5 (.take 6 (.take 7 (.take 8 (.take 9 (.take 10 (.take 12 (.take 13 (.take 14 (.take 15 (.take 17 (.take 18 (.take 19 (.take 20 (.two 11 (.two 16 (.act 21 (.act 22 (.act 23 (.take 24 (.take 25 (.take 26 .done)))))) 21 (.act 16 (.act 22 (.act 23 (.take 24 (.take 25 (.take 26 .done))))))) 21 (.act 11 (.act 16 (.act 22 (.act 23 (.take 24 (.take 25 (.take 26 .done))))))))))))))))))))))))))) (by kernel_rfl) (by kernel_rfl) hS0 (λhne=>?_);have q0:∀p:HW (λw'=>aa wr w'),p.w.cell? ⟨gA,o+j*3,none⟩=some (.slice y.k.A y.k.n y.k.c):=λp=>p.h.cell_ c0
      have q1:∀p:HW (λw'=>aa wr w'),p.w.cell? ⟨gA,o+j*3+1,none⟩=some (.slice y.v.A y.v.n y.v.c):=λp=>p.h.cell_ c1
      have q2:∀p:HW (λw'=>aa wr w'),p.w.cell? ⟨gA,o+j*3+2,none⟩=some (.bool y.d):=λp=>p.h.cell_ c2
      have qR:∀p:HW (λw'=>aa wr w'),p.w.cell? ⟨gO,kn,none⟩=some (.slice l.A l.n l.c):=λp=>p.h.cell_ cR
      iterate 19 (refine ay (o:=.mk ..) rfl (λK hK=>?_);go_simp;refine hK _ ?_;clear hK K)
      clear q0 q1 q2 qR cR c0 c1 c2 hS0;refine⟨?_,?_⟩
      ·refine dJ (o:=.mk ..) rfl (λK hK=>?_) (.inl (by rfl));refine vD ni (by rfl) (by rfl) ?_;intro g1 wp1 hB hN hz;simp only[Act.put,bC,bD,bF,Nat.zero_add];have HNwp1:Hid (aa wr wp1):=Ld (aa.tr (aa.dr (aa.refl _)) hN);have HO11wp1:Hid (wp1.ownsRow wr.heap.size 153 3 (.slice (some ⟨g1,0,none⟩) 0 0) 0 []):=Ld (dQ hB (by have:=(aa.refl wr).size;exact Nat.le_trans this hz));have HZ11:Hid (g1<wp1.heap.size):=Ld hB.lt;refine hK.out _ _ HNwp1.out ?_;clear hK K hB hN hz;refine⟨?_,?_⟩
       ·as_aux_lemma=>
         refine dJ (o:=.mk ..) rfl (λK hK=>?_) (.inl (by rfl));refine gZ ni _ (by rfl) (.tmp 26) (.tmp 30) (by rfl) wr.heap.size (.slice (some ⟨g1,0,none⟩) 0 0) 0 [] (by rfl) HO11wp1.out l.A l.n l.c (l.L.flatMap Ch.cells) (by rfl) (HNwp1.out.rd (Rd.own HNS.out.last rfl)) (lI l.L) (by unfold maxLen;omega) (by omega) HNwp1.out.size ?_;intro A1 d1 wp2 hO hF hA;simp only[Act.put,bC,bD,bF,Nat.zero_add];rw[Nat.zero_add,List.nil_append]at hO;have HNwp2:Hid (aa wr wp2):=Ld (HNwp1.out.fr hF (λk hk=>(am HO11wp1.out k hk).1));have HO16wp2:=Ld hO;refine hK.out _ _ HNwp2.out ?_;clear hK K hO hF hA;refine aC (o:=.mk ..) rfl (λK hK=>?_) (.inl (by rfl));refine kO ni (by decide) (by rfl) (.tmp 35) rfl #[.slice y.k.A y.k.n y.k.c,.slice y.v.A y.v.n y.v.c,.bool y.d] (by rfl) rfl ?_;intro g2 wp3 hB hN hz;simp only[Act.put,bC,bD,bF,Nat.zero_add];have HNwp3:Hid (aa wr wp3):=Ld (HNwp2.out.tr hN);have HB21wp3:=Ld hB;have HO16wp3:=Ld (hN.own HO16wp2.out);refine hK.out _ _ HNwp3.out ?_;clear hK K hB hN hz;refine aC (o:=.mk ..) rfl (λK hK=>?_) (.inl (by rfl));refine gZ ni _ (by rfl) (.tmp 31) (.tmp 36) (by rfl) wr.heap.size (.slice A1 l.n d1) l.n (l.L.flatMap Ch.cells) (by rfl) HO16wp3.out (some ⟨g2,0,none⟩) 1 1 y.cells (by rfl) (Rd.ofBlk (p:=λ_=>True) (t:=153) (cs:= #[.slice y.k.A y.k.n y.k.c,.slice y.v.A y.v.n y.v.c,.bool y.d]) HB21wp3.out 3 1 rfl trivial) (cF y) (by unfold maxLen;omega) (by omega) HNwp3.out.size ?_;intro A2 d2 wp4 hO hF hA;simp only[Act.put,bC,bD,bF,Nat.zero_add];have HNwp4:Hid (aa wr wp4):=Ld (HNwp3.out.fr hF (λk hk=>(am HO16wp3.out k hk).1));have HO22wp4:=Ld hO;refine hK.out _ _ HNwp4.out ?_;clear hK K hO hF hA;refine aC (o:=.mk ..) rfl (λK hK=>?_) (.inl (by rfl));go_simp;refine(jq A2 (l.n+1) d2 (l.L++[y]) wp4 ⟨dS (Rd.own (by rw[List.flatMap_append];simpa using HO22wp4.out) rfl),by simp;exact HLL.out,λz hz=>Ch.In.szs ((HEL.out z hz).new HNwp4.out)⟩ (by omega) (λz hz=>⟨(HSZ.out z hz).2.1,(HSZ.out z hz).2.2⟩)).mono ?_;rintro e wp5 ⟨⟨A3,d3,rfl,hO⟩,hN⟩;dsimp only;rw[HPL.out];have HNwp5:Hid (aa wr wp5):=Ld (HNwp4.out.tr hN);refine hK.out _ _ HNwp5.out ?_;clear hK K hO hN
         iterate 3 (refine ay (o:=.mk ..) rfl (λK hK=>?_);go_simp;refine hK _ ?_;clear hK K)
         clear hne;refine aO ?_;exact HK'.out _ _ ⟨_,_,_,_,_,_,_,_,_,_,_,_,_,_,_,_,_,_,_,_,_,_,_,_,_,_,rfl,HNwp5⟩
       ·as_aux_lemma=>
         refine dJ (o:=.mk ..) rfl (λK hK=>?_) (.inl (by rfl));refine kO ni (by decide) (by rfl) (.tmp 35) rfl #[.slice y.k.A y.k.n y.k.c,.slice y.v.A y.v.n y.v.c,.bool y.d] (by rfl) rfl ?_;intro g2 wp2 hB hN hz;simp only[Act.put,bC,bD,bF,Nat.zero_add];have HNwp2:Hid (aa wr wp2):=Ld (HNwp1.out.tr hN);have HB21wp2:=Ld hB;have HO11wp2:=Ld (hN.own HO11wp1.out);have HNE:Hid (g2≠g1):=Ld (by have:=HZ11.out;omega);refine hK.out _ _ HNwp2.out ?_;clear hK K hB hN hz;refine aC (o:=.mk ..) rfl (λK hK=>?_) (.inl (by rfl));refine gZ ni _ (by rfl) (.tmp 26) (.tmp 30) (by rfl) wr.heap.size (.slice (some ⟨g1,0,none⟩) 0 0) 0 [] (by rfl) HO11wp2.out l.A l.n l.c (l.L.flatMap Ch.cells) (by rfl) (HNwp2.out.rd (Rd.own HNS.out.last rfl)) (lI l.L) (by unfold maxLen;omega) (by omega) HNwp2.out.size ?_;intro A1 d1 wp3 hO hF hA;simp only[Act.put,bC,bD,bF,Nat.zero_add];rw[Nat.zero_add,List.nil_append]at hO;have HNwp3:Hid (aa wr wp3):=Ld (HNwp2.out.fr hF (λk hk=>(am HO11wp2.out k hk).1));have HO16wp3:=Ld hO;have HB21wp3:=Ld (HB21wp2.out.fr hF (λe=>HNE.out ((show g1=g2 from by simpa[Value.ownBlock]using e).symm)));refine hK.out _ _ HNwp3.out ?_;clear hK K hO hF hA;refine aC (o:=.mk ..) rfl (λK hK=>?_) (.inl (by rfl));refine gZ ni _ (by rfl) (.tmp 31) (.tmp 36) (by rfl) wr.heap.size (.slice A1 l.n d1) l.n (l.L.flatMap Ch.cells) (by rfl) HO16wp3.out (some ⟨g2,0,none⟩) 1 1 y.cells (by rfl) (Rd.ofBlk (p:=λ_=>True) (t:=153) (cs:= #[.slice y.k.A y.k.n y.k.c,.slice y.v.A y.v.n y.v.c,.bool y.d]) HB21wp3.out 3 1 rfl trivial) (cF y) (by unfold maxLen;omega) (by omega) HNwp3.out.size ?_;intro A2 d2 wp4 hO hF hA;simp only[Act.put,bC,bD,bF,Nat.zero_add];have HNwp4:Hid (aa wr wp4):=Ld (HNwp3.out.fr hF (λk hk=>(am HO16wp3.out k hk).1));have HO22wp4:=Ld hO;refine hK.out _ _ HNwp4.out ?_;clear hK K hO hF hA;refine aC (o:=.mk ..) rfl (λK hK=>?_) (.inl (by rfl));go_simp;refine(jq A2 (l.n+1) d2 (l.L++[y]) wp4 ⟨dS (Rd.own (by rw[List.flatMap_append];simpa using HO22wp4.out) rfl),by simp;exact HLL.out,λz hz=>Ch.In.szs ((HEL.out z hz).new HNwp4.out)⟩ (by omega) (λz hz=>⟨(HSZ.out z hz).2.1,(HSZ.out z hz).2.2⟩)).mono ?_;rintro e wp5 ⟨⟨A3,d3,rfl,hO⟩,hN⟩;dsimp only;rw[HPL.out];have HNwp5:Hid (aa wr wp5):=Ld (HNwp4.out.tr hN);refine hK.out _ _ HNwp5.out ?_;clear hK K hO hN
         iterate 3 (refine ay (o:=.mk ..) rfl (λK hK=>?_);go_simp;refine hK _ ?_;clear hK K)
         clear hne;refine aO ?_;exact HK'.out _ _ ⟨_,_,_,_,_,_,_,_,_,_,_,_,_,_,_,_,_,_,_,_,_,_,_,_,_,_,rfl,HNwp5⟩
      ·as_aux_lemma=>
        refine dJ (o:=.mk ..) rfl (λK hK=>?_) (.inl (by rfl));refine kO ni (by decide) (by rfl) (.tmp 35) rfl #[.slice y.k.A y.k.n y.k.c,.slice y.v.A y.v.n y.v.c,.bool y.d] (by rfl) rfl ?_;intro g2 wp1 hB hN hz;simp only[Act.put,bC,bD,bF,Nat.zero_add];have HNwp1:Hid (aa wr wp1):=Ld (aa.tr (aa.dr (aa.refl _)) hN);have HB21wp1:=Ld hB;refine hK.out _ _ HNwp1.out ?_;clear hK K hB hN hz;refine aC (o:=.mk ..) rfl (λK hK=>?_) (.inl (by rfl));refine vD ni (by rfl) (by rfl) ?_;intro g1 wp2 hB hN hz;simp only[Act.put,bC,bD,bF,Nat.zero_add];have HNwp2:Hid (aa wr wp2):=Ld (HNwp1.out.tr hN);have HO11wp2:Hid (wp2.ownsRow wr.heap.size 153 3 (.slice (some ⟨g1,0,none⟩) 0 0) 0 []):=Ld (dQ hB (by have:=HNwp1.out.size;exact Nat.le_trans this hz));have HZ11:Hid (g1<wp2.heap.size):=Ld hB.lt;have HB21wp2:=Ld (hN.blk HB21wp1.out);have HNE:Hid (g2≠g1):=Ld (by have:=HB21wp1.out.lt;omega);refine hK.out _ _ HNwp2.out ?_;clear hK K hB hN hz;refine aC (o:=.mk ..) rfl (λK hK=>?_) (.inl (by rfl));refine gZ ni _ (by rfl) (.tmp 26) (.tmp 30) (by rfl) wr.heap.size (.slice (some ⟨g1,0,none⟩) 0 0) 0 [] (by rfl) HO11wp2.out l.A l.n l.c (l.L.flatMap Ch.cells) (by rfl) (HNwp2.out.rd (Rd.own HNS.out.last rfl)) (lI l.L) (by unfold maxLen;omega) (by omega) HNwp2.out.size ?_;intro A1 d1 wp3 hO hF hA;simp only[Act.put,bC,bD,bF,Nat.zero_add];rw[Nat.zero_add,List.nil_append]at hO;have HNwp3:Hid (aa wr wp3):=Ld (HNwp2.out.fr hF (λk hk=>(am HO11wp2.out k hk).1));have HO16wp3:=Ld hO;have HB21wp3:=Ld (HB21wp2.out.fr hF (λe=>HNE.out ((show g1=g2 from by simpa[Value.ownBlock]using e).symm)));refine hK.out _ _ HNwp3.out ?_;clear hK K hO hF hA;refine aC (o:=.mk ..) rfl (λK hK=>?_) (.inl (by rfl));refine gZ ni _ (by rfl) (.tmp 31) (.tmp 36) (by rfl) wr.heap.size (.slice A1 l.n d1) l.n (l.L.flatMap Ch.cells) (by rfl) HO16wp3.out (some ⟨g2,0,none⟩) 1 1 y.cells (by rfl) (Rd.ofBlk (p:=λ_=>True) (t:=153) (cs:= #[.slice y.k.A y.k.n y.k.c,.slice y.v.A y.v.n y.v.c,.bool y.d]) HB21wp3.out 3 1 rfl trivial) (cF y) (by unfold maxLen;omega) (by omega) HNwp3.out.size ?_;intro A2 d2 wp4 hO hF hA;simp only[Act.put,bC,bD,bF,Nat.zero_add];have HNwp4:Hid (aa wr wp4):=Ld (HNwp3.out.fr hF (λk hk=>(am HO16wp3.out k hk).1));have HO22wp4:=Ld hO;refine hK.out _ _ HNwp4.out ?_;clear hK K hO hF hA;refine aC (o:=.mk ..) rfl (λK hK=>?_) (.inl (by rfl));go_simp;refine(jq A2 (l.n+1) d2 (l.L++[y]) wp4 ⟨dS (Rd.own (by rw[List.flatMap_append];simpa using HO22wp4.out) rfl),by simp;exact HLL.out,λz hz=>Ch.In.szs ((HEL.out z hz).new HNwp4.out)⟩ (by omega) (λz hz=>⟨(HSZ.out z hz).2.1,(HSZ.out z hz).2.2⟩)).mono ?_;rintro e wp5 ⟨⟨A3,d3,rfl,hO⟩,hN⟩;dsimp only;rw[HPL.out];have HNwp5:Hid (aa wr wp5):=Ld (HNwp4.out.tr hN);refine hK.out _ _ HNwp5.out ?_;clear hK K hO hN
        iterate 3 (refine ay (o:=.mk ..) rfl (λK hK=>?_);go_simp;refine hK _ ?_;clear hK K)
        clear hne;refine aO ?_;exact HK'.out _ _ ⟨_,_,_,_,_,_,_,_,_,_,_,_,_,_,_,_,_,_,_,_,_,_,_,_,_,_,rfl,HNwp5⟩
     ·have hd3:decide ((l.n:Int)<600)=false:=decide_eq_false (by omega);have hf:pq L j y=false:=by rw [hfe];exact decide_eq_false (λh=>by omega)
      rw[hf]at HK';clear hfe hf;have hS0:(λw'=>aa wr w') wr.drew:=aa.dr (aa.refl wr);refine bu (λw'=>aa wr w') (.take 0 (.take 1 (.take 2 (.take 3 (.take 4 (.take 5 (.take 6 (.take 7 (.take 8 (.take 9 (.take 10 (.take 12 (.take 13 (.take 14 (.take 15 (.take 17 (.take 18 (.take 19 (.take 20 (.two 11 (.two 16 (.act 21 (.act 22 (.act 23 (.take 24 (.take 25 (.take 26 .done)))))) 21 (.act 16 (.act 22 (.act 23 (.take 24 (.take 25 (.take 26 .done))))))) 21 (.act 11 (.act 16 (.act 22 (.act 23 (.take 24 (.take 25 (.take 26 .done))))))))))))))))))))))))))) (by kernel_rfl) (by kernel_rfl) hS0 (λhne=>?_);have qR:∀p:HW (λw'=>aa wr w'),p.w.cell? ⟨gO,kn,none⟩=some (.slice l.A l.n l.c):=λp=>p.h.cell_ cR
      iterate 19 (refine ay (o:=.mk ..) rfl (λK hK=>?_);go_simp;refine hK _ ?_;clear hK K)
      refine⟨?_,?_⟩
      ·refine dJ (o:=.mk ..) rfl (λK hK=>?_) (.inr hS0);go_simp;refine hK.out _ _ hS0 ?_;clear hK K;refine⟨?_,?_⟩
       ·refine dJ (o:=.mk ..) rfl (λK hK=>?_) (.inr hS0);go_simp;refine hK.out _ _ hS0 ?_;clear hK K;refine aC (o:=.mk ..) rfl (λK hK=>?_) (.inr hS0);go_simp;refine hK.out _ _ hS0 ?_;clear hK K;refine aC (o:=.mk ..) rfl (λK hK=>?_) (.inr hS0);go_simp;refine hK.out _ _ hS0 ?_;clear hK K;refine aC (o:=.mk ..) rfl (λK hK=>?_) (.inr hS0);go_simp;refine hK.out _ _ hS0 ?_;clear hK K
        iterate 3 (refine ay (o:=.mk ..) rfl (λK hK=>?_);go_simp;refine hK _ ?_;clear hK K)
        clear hne;refine aO ?_;exact HK'.out _ _ ⟨_,_,_,_,_,_,_,_,_,_,_,_,_,_,_,_,_,_,_,_,_,_,_,_,_,_,rfl,Ld hS0⟩
       ·refine dJ (o:=.mk ..) rfl (λK hK=>?_) (.inr hS0);go_simp;refine hK.out _ _ hS0 ?_;clear hK K;refine aC (o:=.mk ..) rfl (λK hK=>?_) (.inr hS0);go_simp;refine hK.out _ _ hS0 ?_;clear hK K;refine aC (o:=.mk ..) rfl (λK hK=>?_) (.inr hS0);go_simp;refine hK.out _ _ hS0 ?_;clear hK K;refine aC (o:=.mk ..) rfl (λK hK=>?_) (.inr hS0);go_simp;refine hK.out _ _ hS0 ?_;clear hK K
        iterate 3 (refine ay (o:=.mk ..) rfl (λK hK=>?_);go_simp;refine hK _ ?_;clear hK K)
        clear hne;refine aO ?_;exact HK'.out _ _ ⟨_,_,_,_,_,_,_,_,_,_,_,_,_,_,_,_,_,_,_,_,_,_,_,_,_,_,rfl,Ld hS0⟩
      ·refine dJ (o:=.mk ..) rfl (λK hK=>?_) (.inr hS0);go_simp;refine hK.out _ _ hS0 ?_;clear hK K;refine aC (o:=.mk ..) rfl (λK hK=>?_) (.inr hS0);go_simp;refine hK.out _ _ hS0 ?_;clear hK K;refine aC (o:=.mk ..) rfl (λK hK=>?_) (.inr hS0);go_simp;refine hK.out _ _ hS0 ?_;clear hK K;refine aC (o:=.mk ..) rfl (λK hK=>?_) (.inr hS0);go_simp;refine hK.out _ _ hS0 ?_;clear hK K;refine aC (o:=.mk ..) rfl (λK hK=>?_) (.inr hS0);go_simp;refine hK.out _ _ hS0 ?_;clear hK K
       iterate 3 (refine ay (o:=.mk ..) rfl (λK hK=>?_);go_simp;refine hK _ ?_;clear hK K)
       clear hne;refine aO ?_;exact HK'.out _ _ ⟨_,_,_,_,_,_,_,_,_,_,_,_,_,_,_,_,_,_,_,_,_,_,_,_,_,_,rfl,Ld hS0⟩
   case next=>
    rintro a w6 ⟨v15,v16,v17,v18,v19,v20,v21,v22,v23,v24,v25,v26,v27,v28,v29,v30,v31,v32,v33,v34,v35,v36,v37,v38,v39,v40,rfl,HN6⟩;dsimp only;have HNW:Hid (aa w w6):=Ld (HI.out.1.tr HN6.out);have e0:w6.cell? ⟨gA,o+j*3,none⟩=some (.slice y.k.A y.k.n y.k.c):=HN6.out.cell_ c0;have e1:w6.cell? ⟨gA,o+j*3+1,none⟩=some (.slice y.v.A y.v.n y.v.c):=HN6.out.cell_ c1;have e2:w6.cell? ⟨gA,o+j*3+2,none⟩=some (.bool y.d):=HN6.out.cell_ c2;have HGA:Hid (gA<w.heap.size):=Ld hgA;clear c0 c1 c2
    cases hf:pq L j y
    ·rcases HI.out.2 with ⟨hj00,hv0⟩ | ⟨gO,nO,cO,C,l,lo,hv0,hNs,hsp,hl6,hlm,hns⟩
     ·injection hv0 with e1' e2' e3';subst e1' e2' e3';have HJ0:=Ld hj00;clear hj00
      go_wp2_with (at_builtin;refine dM ⟨some 62,_,_,_,_,_⟩ ?_;refine dG ?_)
      refine⟨?_⟩;refine av (o:=⟨some 62,_,_,_,_,_⟩) Gr _ rfl (.tmp 55) (.tmp 61) rfl w.heap.size (.slice none 0 0) 0 [] rfl (World.ownsRow_nil _ _ _ _) _ 1 1 [.slice (some ⟨w6.heap.size,0,none⟩) 1 1] rfl (Rd.ofBlk (p:=λ_=>True) (t:=76) (cs:= #[.slice (some ⟨w6.heap.size,0,none⟩) 1 1]) (ac.new' _ _ _ (by simp)) 1 1 rfl trivial) (by intro u hu;obtain rfl:=List.mem_singleton.1 hu;rfl) (by unfold maxLen;omega) (by omega) (by have:=HNW.out.size;simp;omega) ?_;intro A8 d8 w8 hO8 hF8 hA8;have hBy:ac ((w6.alloc (.cells #[.slice y.k.A y.k.n y.k.c,.slice y.v.A y.v.n y.v.c,.bool y.d] 153)).alloc (.cells #[.slice (some ⟨w6.heap.size,0,none⟩) 1 1] 76)) w6.heap.size 153 #[.slice y.k.A y.k.n y.k.c,.slice y.v.A y.v.n y.v.c,.bool y.d]:=(ac.new w6 _ _).alloc _;have hN67:aa w6 ((w6.alloc (.cells #[.slice y.k.A y.k.n y.k.c,.slice y.v.A y.v.n y.v.c,.bool y.d] 153)).alloc (.cells #[.slice (some ⟨w6.heap.size,0,none⟩) 1 1] 76)):=aa.al (aa.al (aa.refl _) _) _;obtain⟨w7,hw7⟩:=nM ((w6.alloc (.cells #[.slice y.k.A y.k.n y.k.c,.slice y.v.A y.v.n y.v.c,.bool y.d] 153)).alloc (.cells #[.slice (some ⟨w6.heap.size,0,none⟩) 1 1] 76));rw[<-hw7]at hF8 hA8 hBy hN67;clear hw7;obtain⟨g8,c8,hsl,-,-⟩:=dv hO8 (by omega);have hAe:A8=some ⟨g8,0,none⟩:=by injection hsl
      subst hAe;have hO1:=yD hBy rfl (Nat.le_refl w6.heap.size);have hN78:aa w7 w8:=aa.fr (aa.refl _) hF8 (λk hk=>by cases hk);have hg8:w7.heap.size<=g8:=(hA8 g8 rfl).elim (λe=>by cases e) id
      have hnst:iV 76 153 (λ_=>True) w.heap.size w6.heap.size w8 (some ⟨g8,0,none⟩) 1 d8 [] ⟨some ⟨w6.heap.size,0,none⟩,1,1,[y]⟩:=iV.first (by decide) (λ_ _=>trivial) (by simpa[Sl.cells]using hO8) (W0:=w7) (by simpa[Ch.cells]using hO1) HNW.out.size (Nat.le_trans hN67.size hN78.size) hN78 rfl (λz hz=>by
       rw[List.mem_singleton.1 hz];refine((HIN.out.new ((HN6.out.tr hN67).tr hN78)).imp (λk hk=>⟨trivial,λe=>?_,λe=>?_⟩))
       ·have e:g8=k:=by simpa [Value.ownBlock] using e
        have:=HNW.out.size;have:=hN67.size;omega
       ·have e:w6.heap.size=k:=by simpa [Value.ownBlock] using e
        have:=HNW.out.size;omega)
      have HI9:Hid (GI w L (j+1) (.slice (some ⟨g8,0,none⟩) 1 d8) w8):=Ld ⟨(HNW.out.tr hN67).tr hN78,.inr ⟨g8,1,d8,[],_,_,rfl,hnst,by
          rw[HST.out,HJ0.out]
          simp[mP,oL],by simp,λz hz=>by rw[List.mem_singleton.1 hz];exact HME.out,by omega⟩⟩
      clear hnst hN78 hg8 hO1 hO8 hF8 hA8 hBy hN67
      go_wp2_with fail;go_roundw
      case rel=>exact⟨j+1,by omega,by go_num,⟨_,_,_,rfl,by omega⟩,HI9⟩
      case measure=>simp[intOf];omega
     ·injection hv0 with e1' e2' e3';have hnn:=hNs.nn;obtain ⟨kn,hkn⟩:∃kn,nO=kn+1:=⟨C.length,hnn⟩
      subst e1' e2' e3' hkn;have hk5':k5=(kn:Int):=by rw[HK5.out];omega
      subst hk5';have hll:l.L.length=l.n:=hNs.ll
      have hfe:¬(l.L.length<600/\(l.L.map iD).sum+iD y<=8190):=by
       unfold pq at hf;rw[hsp]at hf
       simpa using hf
      have HFE:=Ld hfe;have HNS:Hid (iV 76 153 (λ_=>True) w.heap.size lo w6 (some ⟨gO,0,none⟩) (kn+1) cV C l):=Ld (hNs.new HN6.out);have HSP:=Ld hsp;clear hNs hsp hfe hnn hll hl6 hf hlm
      go_wp2_with (at_builtin;refine dM ⟨some 62,_,_,_,_,_⟩ ?_;refine dG ?_)
      refine⟨?_⟩;refine av (o:=⟨some 62,_,_,_,_,_⟩) Gr _ rfl (.tmp 55) (.tmp 61) rfl w.heap.size (.slice (some ⟨gO,0,none⟩) (kn+1) cV) (kn+1) ((C++[l]).flatMap Sl.cells) rfl (aa.own (aa.al (aa.al (aa.refl _) _) _) HNS.out.out) _ 1 1 [.slice (some ⟨w6.heap.size,0,none⟩) 1 1] rfl (Rd.ofBlk (p:=λ_=>True) (t:=76) (cs:= #[.slice (some ⟨w6.heap.size,0,none⟩) 1 1]) (ac.new' _ _ _ (by simp)) 1 1 rfl trivial) (by intro u hu;obtain rfl:=List.mem_singleton.1 hu;rfl) (by unfold maxLen;omega) (by omega) (by have:=HNW.out.size;simp;omega) ?_;intro A8 d8 w8 hO8 hF8 hA8;have hBy:ac ((w6.alloc (.cells #[.slice y.k.A y.k.n y.k.c,.slice y.v.A y.v.n y.v.c,.bool y.d] 153)).alloc (.cells #[.slice (some ⟨w6.heap.size,0,none⟩) 1 1] 76)) w6.heap.size 153 #[.slice y.k.A y.k.n y.k.c,.slice y.v.A y.v.n y.v.c,.bool y.d]:=(ac.new w6 _ _).alloc _;have hN67:aa w6 ((w6.alloc (.cells #[.slice y.k.A y.k.n y.k.c,.slice y.v.A y.v.n y.v.c,.bool y.d] 153)).alloc (.cells #[.slice (some ⟨w6.heap.size,0,none⟩) 1 1] 76)):=aa.al (aa.al (aa.refl _) _) _;obtain⟨w7,hw7⟩:=nM ((w6.alloc (.cells #[.slice y.k.A y.k.n y.k.c,.slice y.v.A y.v.n y.v.c,.bool y.d] 153)).alloc (.cells #[.slice (some ⟨w6.heap.size,0,none⟩) 1 1] 76));rw[<-hw7]at hF8 hA8 hBy hN67;clear hw7;obtain⟨g8,c8,hsl,-,-⟩:=dv hO8 (by omega);have hAe:A8=some ⟨g8,0,none⟩:=by injection hsl
      subst hAe;have hO1:=yD hBy rfl (Nat.le_refl w6.heap.size);have hF68:Fr (λk=>(Value.slice (some ⟨gO,0,none⟩) (kn+1) cV).ownBlock=some k) w6 w8:=(hN67.toFr _).trans hF8;have hgO:=(am HNS.out.out gO rfl)
      have hg8 : g8 = gO \/ w7.heap.size <= g8 := (hA8 g8 rfl).imp (λe => by have : gO = g8 := (by simpa [Value.ownBlock] using e); exact this.symm) id
      have hO1':w8.ownsRow w6.heap.size 153 3 (.slice (some ⟨w6.heap.size,0,none⟩) 1 1) 1 ([y].flatMap Ch.cells):=by
       refine bg (by simpa[Ch.cells]using hO1) hF8 (λk hk hs=>?_);have e1:w6.heap.size=k:=by simpa[Value.ownBlock]using hk
       have e2:gO=k:=by simpa[Value.ownBlock]using hs
       omega
      have hnst:iV 76 153 (λ_=>True) w.heap.size w6.heap.size w8 (some ⟨g8,0,none⟩) (kn+1+1) d8 (C++[l]) ⟨some ⟨w6.heap.size,0,none⟩,1,1,[y]⟩:=HNS.out.open_ (Nat.le_refl _) hF68.size (by simpa[Sl.cells]using hO8) hF68 (λk hk=>(hA8 k hk).imp id (λh=>Nat.le_trans hN67.size h)) hO1' rfl (λz hz=>by
       rw[List.mem_singleton.1 hz];refine((((HIN.out.new HN6.out).imp (q:=λk=>k<w.heap.size) (λk hk=>hk)).frq hF68 (λk hk hs=>?_)).imp (λk hk=>⟨trivial,λe=>?_,λe=>?_⟩))
       ·have e2:gO=k:=by simpa [Value.ownBlock] using hs
        omega
       ·have e:g8=k:=by simpa [Value.ownBlock] using e
        have:=HNW.out.size;have:=hN67.size;omega
       ·have e:w6.heap.size=k:=by simpa [Value.ownBlock] using e
        have:=HNW.out.size;omega)
      have HI9 : Hid (GI w L (j + 1) (.slice (some ⟨g8, 0, none⟩) (kn + 1 + 1) d8) w8) := Ld ⟨HNW.out.fr hF68 (λk hk => by
          have e2:gO=k:=by simpa[Value.ownBlock]using hk
          omega),.inr ⟨g8,kn+1+1,d8,C++[l],_,_,rfl,hnst,by
          rw[HST.out,kN,HSP.out];unfold oL;dsimp only;rw[if_neg HFE.out]
          simp,by simp,λz hz=>by rw[List.mem_singleton.1 hz];exact HME.out,by omega⟩⟩
      clear hnst hg8 hO1 hO1' hO8 hF8 hA8 hBy hN67 hF68 hgO
      go_wp2_with fail;go_roundw
      case rel=>exact⟨j+1,by omega,by go_num,⟨_,_,_,rfl,by omega⟩,HI9⟩
      case measure=>simp[intOf];omega
    ·rcases HI.out.2 with ⟨hj00,hv0⟩ | ⟨gO,nO,cO,C,l,lo,hv0,hNs,hsp,hl6,hlm,hns⟩
     ·subst hj00;simp[pq,mP]at hf
     ·injection hv0 with e1' e2' e3';have hnn:=hNs.nn;obtain ⟨kn,hkn⟩:∃kn,nO=kn+1:=⟨C.length,hnn⟩
      subst e1' e2' e3' hkn;have hk5':k5=(kn:Int):=by rw[HK5.out];omega
      subst hk5';have hll:l.L.length=l.n:=hNs.ll
      have hfe:l.L.length<600/\(l.L.map iD).sum+iD y<=8190:=by
       unfold pq at hf;rw[hsp]at hf
       simpa using hf
      have HFE:=Ld hfe;have HNS:Hid (iV 76 153 (λ_=>True) w.heap.size lo w6 (some ⟨gO,0,none⟩) (kn+1) cV C l):=Ld (hNs.new HN6.out);have HSP:=Ld hsp;have HLM:=Ld hlm;have cR:w6.cell? ⟨gO,kn,none⟩=some (.slice l.A l.n l.c):=HNS.out.lastCell rfl;have hk0:(0:Int)<=(kn:Int):=by omega
      have hk1:(kn:Int)<((kn:Int)+1):=by omega
      have hl60:l.n<600:=by omega
      have hS0:(vP gO kn gA (o+j*3) (.slice l.A l.n l.c) (.slice y.k.A y.k.n y.k.c) (.slice y.v.A y.v.n y.v.c) (.bool y.d)) w6.drew:=⟨cR,e0,e1,e2⟩
      have HS0:Hid ((vP gO kn gA (o+j*3) (.slice l.A l.n l.c) (.slice y.k.A y.k.n y.k.c) (.slice y.v.A y.v.n y.v.c) (.bool y.d)) w6):=Ld ⟨cR,e0,e1,e2⟩;clear hNs hsp hlm hfe hnn hll hl6 hf
      go_wp2_with fail;refine fi (vP gO kn gA (o+j*3) (.slice l.A l.n l.c) (.slice y.k.A y.k.n y.k.c) (.slice y.v.A y.v.n y.v.c) (.bool y.d)) 13 [(true,0),(true,1),(true,2),(true,3),(true,4),(true,5),(true,6),(true,7),(true,8),(true,9),(false,10),(false,11),(true,12),(false,13)] (by kernel_rfl) (by kernel_rfl) hS0 (λhne=>?_);have qr:∀p:HW (vP gO kn gA (o+j*3) (.slice l.A l.n l.c) (.slice y.k.A y.k.n y.k.c) (.slice y.v.A y.v.n y.v.c) (.bool y.d)),p.w.cell? ⟨gO,kn,none⟩=some (.slice l.A l.n l.c):=λp=>p.h.1
      have qa:∀p:HW (vP gO kn gA (o+j*3) (.slice l.A l.n l.c) (.slice y.k.A y.k.n y.k.c) (.slice y.v.A y.v.n y.v.c) (.bool y.d)),p.w.cell? ⟨gA,o+j*3,none⟩=some _:=λp=>p.h.2.1
      have qb:∀p:HW (vP gO kn gA (o+j*3) (.slice l.A l.n l.c) (.slice y.k.A y.k.n y.k.c) (.slice y.v.A y.v.n y.v.c) (.bool y.d)),p.w.cell? ⟨gA,o+j*3+1,none⟩=some _:=λp=>p.h.2.2.1
      have qc:∀p:HW (vP gO kn gA (o+j*3) (.slice l.A l.n l.c) (.slice y.k.A y.k.n y.k.c) (.slice y.v.A y.v.n y.v.c) (.bool y.d)),p.w.cell? ⟨gA,o+j*3+2,none⟩=some _:=λp=>p.h.2.2.2
      iterate 10 (refine af (o:=.mk ..) rfl (λK hK=>?_);go_simp;refine hK _ ?_;clear hK K)
      clear e0 e1 e2;refine aj (o:=.mk ..) rfl (λK hK=>?_) (.inl rfl);refine kO ni (by decide) (by rfl) (.tmp 51) rfl #[.slice y.k.A y.k.n y.k.c,.slice y.v.A y.v.n y.v.c,.bool y.d] (by rfl) rfl ?_;intro gb w7 hB7 hN7 hl7;simp only[Act.put,bC,bD,bF];have HN7:Hid (aa w6 w7):=Ld (aa.tr (aa.dr (aa.refl _)) hN7);have HB7:=Ld hB7;refine hK.out _ _ (λ_=>⟨HN7.out.cell_ HS0.out.1,HN7.out.cell_ HS0.out.2.1,HN7.out.cell_ HS0.out.2.2.1,HN7.out.cell_ HS0.out.2.2.2⟩) ?_;clear hK K hB7 hN7 hl7;refine aj (o:=.mk ..) rfl (λK hK=>?_) (.inl rfl);refine ce ni _ (by rfl) (.tmp 47) (.tmp 52) (by rfl) lo (.slice l.A l.n l.c) l.n (l.L.flatMap Ch.cells) (by rfl) (HN7.out.own HNS.out.last) (some ⟨gb,0,none⟩) 1 1 y.cells (by rfl) (Rd.ofBlk (p:=λ_=>True) (t:=153) (cs:= #[.slice y.k.A y.k.n y.k.c,.slice y.v.A y.v.n y.v.c,.bool y.d]) HB7.out 3 1 rfl trivial) (cF y) (by unfold maxLen;omega) (by omega) (Nat.le_trans HNS.out.los HN7.out.size) ?_;intro A' c' w8 hO8 hF8 hA8;simp only[Act.put,bC,bD,bF];have HO8:=Ld hO8;have HF8:Hid (Fr (λk=>(Value.slice l.A l.n l.c).ownBlock=some k) w6 w8):=Ld ((HN7.out.toFr _).trans hF8);have HA8:Hid (∀k,(Value.slice A' (l.n+1) c').ownBlock=some k->(Value.slice l.A l.n l.c).ownBlock=some k\/w6.heap.size<=k):=Ld (λk hk=>(hA8 k hk).imp id (λh=>Nat.le_trans HN7.out.size h));have hng:¬(Value.slice l.A l.n l.c).ownBlock=some gO:=io HNS.out.out HNS.out.last HNS.out.ne rfl;have hna:¬(Value.slice l.A l.n l.c).ownBlock=some gA:=λe=>by have:=(am HNS.out.last gA e).1;have:=HNS.out.blo;have:=HGA.out;omega
      have c8:w8.cell? ⟨gO,kn,none⟩=some (.slice l.A l.n l.c):=HF8.out.cell_some HS0.out.1 hng;refine hK.out _ _ (λ_=>⟨c8,HF8.out.cell_some HS0.out.2.1 hna,HF8.out.cell_some HS0.out.2.2.1 hna,HF8.out.cell_some HS0.out.2.2.2 hna⟩) ?_;clear hK K hO8 hF8 hA8;refine af (o:=.mk ..) rfl (λK hK=>?_);go_simp;refine hK _ ?_;clear hK K;refine aj (o:=.mk ..) rfl (λK hK=>?_) (.inl rfl)
      have f8:w8.frozen? ⟨gO,kn,none⟩=false:=by
       rw[HF8.out.frozen (p:=⟨gO,kn,none⟩) ((am HNS.out.out gO rfl).2) hng];exact HNS.out.lastFrozen kn
      clear qr qa qb qc;go_simp;refine hK.out _ _ (λh=>absurd rfl h) ?_;clear hK K hne;refine au ?_;have hnst:=HNS.out.push HO8.out HF8.out HA8.out (y:=y) (((HIN.out.new HN6.out).lts).imp (λk hk=>⟨trivial,λe=>by have:=(am HNS.out.out gO rfl).1;omega,λe=>by have:=(am HNS.out.last k e).1;have:=HNS.out.blo;omega⟩)) (i:=kn) rfl;have hF9:Fr (λk=>k=gO) w8 (w8.setCell ⟨gO,kn,none⟩ (.slice A' (l.n+1) c')):=(Fr.refl (λk=>k=gO) w8).setCell (p:=⟨gO,kn,none⟩) (λ_=>rfl) _
      have HI9:Hid (GI w L (j+1) (.slice (some ⟨gO,0,none⟩) (kn+1) cV) (w8.setCell ⟨gO,kn,none⟩ (.slice A' (l.n+1) c'))):=Ld ⟨(HNW.out.fr HF8.out (λk hk=>Nat.le_trans HNS.out.blo (am HNS.out.last k hk).1)).fr hF9 (λk hk=>by rw[hk];exact(am HNS.out.out gO rfl).1),.inr ⟨gO,kn+1,cV,C,_,lo,rfl,hnst,by
          rw[HST.out,kN,HSP.out];unfold oL;dsimp only;rw[if_pos HFE.out],by have:=HFE.out.1;simp;omega,λz hz=>by
          rcases List.mem_append.1 hz with hz|hz
          ·exact HLM.out z hz
          ·rw[List.mem_singleton.1 hz];exact HME.out,by omega⟩⟩
      clear hnst hF9 c8 f8 hng hna hS0
      go_wp2_with fail;go_roundw
      case rel=>exact⟨j+1,by omega,by go_num,⟨_,_,_,rfl,by omega⟩,HI9⟩
      case measure=>simp[intOf];omega
  ·go_wp2_with fail;go_ret;have hjn:j=n:=by omega
   obtain⟨A',n',c',R,hs,hbt,hR⟩:∃(A':Option Addr) (n' c':Nat) (R:List Sl),Value.slice aV nV cV=.slice A' n' c'/\(AA wr A' n' R/\iZ w.heap.size wr A' n' R)/\R.map Sl.L=jt (mP iD L):=by
    have ht:L.take j=L:=List.take_of_length_le (by omega);rcases HI.out.2 with⟨hj00,hv0⟩|⟨gO,nO,cO,C,l,lo,hv0,hNs,hsp,hl6,hlm,hns⟩
    ·refine⟨none,0,0,[],hv0,⟨AA.nil wr,iZ.nil _ wr⟩,?_⟩;have:L=[]:=List.eq_nil_of_length_eq_zero (by omega);rw[this];rfl
    ·refine⟨_,_,_,_,hv0,⟨hNs.bts,hNs.btsL⟩,?_⟩;rw[<-ht,hsp];simp[jt]
   injection hs with h1 h2 h3;subst h1 h2 h3;exact⟨⟨_,_,_,_,rfl,hbt,hR⟩,HI.out.1⟩
attribute [local go_sem] Oper.semAt_some
def EV(b5:Nat)(b:World)(s:List (List Int×Fm))(W:World):Prop:=Fr (λj=>b5<=j) b W/\ac W b5 3 #[.int .i64 s.length]
theorem EV.new{b5:Nat}{d:World}{s:List (List Int×Fm)}{W b:World}(h:EV b5 d s W)(c:aa W b):EV b5 d s b:=⟨h.1.trans (c.toFr _),c.blk h.2⟩
theorem EV.puts{b5 B:Nat}{d:World}{s:List (List Int×Fm)}{W b:World}(h:EV b5 d s W)(hz:b5<=B)(c:eN B W b):EV b5 d s b:=⟨h.1.trans (c.fr (λj f=>Nat.le_trans hz f)),c.blk h.2⟩
theorem Gm{L:List Ch}{E:gh}(h:cl L=aI (dy E)){k:Nat}{e:List Int×Fm}(l:(st E)[k]?=some e):∃f:k<L.length,L[k].k.xs=e.1/\L[k].v.xs=e.2.xs:=by
 have h2:(dy (st E))[k]?=some (e.1,e.2.xs):=by
  unfold dy;rw[List.getElem?_map,l];rfl
 rw[ye,<-h]at h2;unfold cl at h2;rw[List.getElem?_map]at h2;obtain⟨c,j,d⟩:=Option.map_eq_some_iff.1 h2;obtain⟨f,b⟩:=List.getElem?_eq_some_iff.1 j;injection d with g i;exact⟨f,by rw[b,g],by rw[b,i]⟩
theorem Fv{X:Nat->Prop}{w:World}{base g b m:Nat}{E:gh}(h:dI X w base g b m E)(hm:m<=1000000)(hE:E.length<=1000000)(A:Option Addr)(n c:Nat)(L:List Ch)(hL:ou w A n L)(hl:∀c∈L,c.k.n<=16/\c.v.n<=16384)(T:cl L=aI (dy E)):
    Calls prog 84 #[.pointer (some ⟨g,0,none⟩),.slice A n c] w λe w'=>e=.returned (.bool true)/\aa w w':=by
 have H:=Ld h;have HL:=Ld hL;have HS:=Ld hl;have HC:=Ld T
 have hn:n=E.length:=by
  have:=congrArg List.length T;unfold cl at this;rw[List.length_map,(dU _).length_eq,du]at this;rw[<-hL.len,this]
 have HN:=Ld hn
 have hX:∀j,X j->j<w.heap.size:=λj hj=>by
  obtain⟨_,cs,fz,hx⟩:=h.xs j hj;exact(Array.getElem?_eq_some_iff.1 hx).1
 have HX:=Ld hX;have i7:n<=1000000:=by omega
 clear h hL hl T hX hn;refine(callsIn_wide (n:=3)).1 ?_;refine callsIn_of_wp_marks func84 rfl trivial ?_ rfl;refine wpIn_wide.2 ?_;simp only[ntmps84,List.size_toArray,List.length_cons,List.length_nil,Nat.reduceAdd,Nat.reduceSub,Array.replicate_succ,Array.replicate_zero,List.push_toArray,List.append_toArray,List.nil_append,List.cons_append]
 go_upto_region 2 with fail;obtain⟨V,t⟩:=nM (((w.alloc (.cells #[.slice A n c] 77)).alloc (.cells #[.bool false] 4)).alloc (.cells #[.int .i64 0] 3):World);obtain⟨b3,N⟩:=nM (w.heap.size);obtain⟨b4,O⟩:=nM (w.heap.size+1);obtain⟨b5,b1⟩:=nM (w.heap.size+1+1);have G:Hid (aa w V):=Ld (by rw[t];exact aa.al (aa.al (aa.al (aa.refl _) _) _) _);have c':Hid (ac V b3 77 #[.slice A n c]):=Ld (by rw[t,N];exact((ac.new _ _ _).alloc _).alloc _);have g5:Hid (ac V b4 4 #[.bool false]):=Ld (by rw[t,O];exact(ac.new' _ _ _ (by simp)).alloc _);have c0:Hid (ac V b5 3 #[.int .i64 0]):=Ld (by rw[t,b1];exact ac.new' _ _ _ (by simp));have Y:Hid (b3=w.heap.size/\b4=w.heap.size+1/\b5=w.heap.size+2):=Ld ⟨N,O,by omega⟩;rw[<-t,<-b1,<-O,<-N];clear t N O b1
 go_wp2_with fail;refine(sF (some ⟨g,0,none⟩) V).mono ?_;rintro e w2 ⟨rfl,b9⟩;have d:Hid (aa V w2):=Ld (by rw[b9];exact aa.al (aa.refl _) _);have hg:=H.out.blk.lt;have hb:=H.out.blt;have g9:=c0.out.lt;have i2:=Y.out
 have g8:=Ld (mZ (H.out.new (G.out.tr d.out)) hm hE (λj=>j=b5) V.heap.size (by rw[b9];exact ac.new V _ _) (λj hj=>by
  subst hj;have:=d.out.size
  exact⟨by omega,by omega,by omega,λhx=>by have:=HX.out _ hx;omega,by omega⟩))
 have S:Hid (ac w2 b5 3 #[.int .i64 0]):=Ld (d.out.blk c0.out);have c1:Hid (b5<w2.heap.size):=Ld (S.out.lt);clear b9 hg hb g9 i2
 go_wp2_with fail
 refine lu rfl (enters_of func114 (by kernel_rfl) rfl) (λx:List Int×Fm=> #[.string (strOfNums x.1),x.2.val]) (λ_=>rfl) g8.out (λx W J hg hp=>hg.puts hp) (λh k=>h.tr k) (λW J hp=>Kk.puts hp)
  (EV b5 w2) (λs A B h hN=>h.new hN) (λs A B h hp=>h.puts (Nat.le_of_lt c1.out) hp) ⟨Fr.refl _ _,S.out⟩ ?a1 ?assign ?body ?done
 case assign=>
  intro l x W K hK
  gi_wp2
  exact hK
 case body=>
  rintro l pre x W i0 ⟨hF,u⟩ hG ⟨e0,c7,g3,g4,i1⟩;obtain⟨c9,P,R⟩:=Gm HC.out c7;rw[<-g3]at P;rw[<-g4]at R;have r:Hid (aa w W):=Ld ((G.out.tr d.out).fr hF (λk hk=>by have:=Y.out;omega));have i:ac W b3 77 #[.slice A n c]:=(d.out.blk c'.out).fr hF (by have:=Y.out;omega);have c5:W.cell? ⟨b5,0,none⟩=some (.int .i64 (pre.length:Nat)):=u.cell 0;have f5:W.frozen? ⟨b5,0,none⟩=false:=u.frozen 0;have c3:W.cell? ⟨b3,0,none⟩=some (.slice A n c):=i.cell 0;have b0:=HL.out.new r.out;have d':pre.length<n:=by rw[<-HL.out.len];exact c9
  obtain⟨gA,oA,hl,hA,-,-,b8⟩:=eZ (f:=Ch.cells) (L:=L) (λ_=>rfl) (by omega) b0.rd d';have v0:W.cell? ⟨gA,oA+pre.length*3,none⟩=some (.slice L[pre.length].k.A L[pre.length].k.n L[pre.length].k.c):=b8 0 _ rfl;have v1:W.cell? ⟨gA,oA+pre.length*3+1,none⟩=some (.slice L[pre.length].v.A L[pre.length].v.n L[pre.length].v.c):=b8 1 _ rfl;have F:=b0.el L[pre.length] (List.getElem_mem _);generalize L[pre.length]=y at P R v0 v1 F;obtain⟨⟨kA,kn,kc,ks⟩,⟨vA,vn,vc,vs⟩,dd⟩:=y;dsimp only at P R v0 v1;subst P R;obtain⟨k,hk⟩:=nM (pre.length);rw[<-hk]at c5 v0 v1 d';have HB:=Ld u;have HF:=Ld hF;have HK:=Ld hk;have C:=eI (c:=kc) F.k.rd;dsimp only at C;obtain⟨xk,xA,xn,xc,xs⟩:=x;dsimp only at C hG F v0 v1;have b7:=zf xA vA xn vn xc vc xs xs W (Rd.own hG.1 rfl) F.v.rd hG.2.1 hG.2.1;have f':decide (xs=xs)=true:=by simp
  rw[f']at b7;have g6:=Ld b7;simp only[Fm.val];generalize strOfNums xk=sk at C⊢;have i6:(0:Int)<=(k:Int):=by omega
  have i':(k:Int)<(n:Int):=by omega
  have i4:decide ((n:Int)<=(k:Int))=false:=decide_eq_false (by omega);have i5:decide (n<=k)=false:=decide_eq_false (by omega);clear b7 u hF hG g3 g4 i1 c7 hk F b8 b0 hl i f' c9 i0;subst hA
  gi_wp2
  refine⟨trivial,?_⟩;refine(CallsIn.inRound l (callsIn_wide.2 g6.out)).mono ?_;rintro e W4 ⟨rfl,rfl⟩
  gi_wp2
  have b':Fr (λj=>j=b5) W (W.setCell ⟨b5,0,none⟩ (.int .i64 (k+1))):=(Fr.refl (λj=>j=b5) W).setCell (p:=⟨b5,0,none⟩) (λ_=>rfl) _;refine⟨iE.fr b' (λk o u hs=>by have:=c1.out;omega),Kk.fr b',HF.out.trans (b'.mono (λk _ hs=>by omega)),?_⟩;have hs:=HB.out.set 0 (.int .i64 (k+1));rw[List.length_append,List.length_singleton,<-HK.out]
  simpa using hs
 case done=>
  rintro D fs W hD c8 ⟨hF,u⟩ c6;have r:Hid (aa w W):=Ld ((G.out.tr d.out).fr hF (λk hk=>by have:=Y.out;omega));have g7:=Ld c6
  have U:fs.length=n:=by
   have:=congrArg List.length c8;rw[List.length_map,du,tS]at this;rw[this,HN.out]
  rw[U]at u;have i:ac W b3 77 #[.slice A n c]:=(d.out.blk c'.out).fr hF (by have:=Y.out;omega);have q:Hid (ac W b4 4 #[.bool false]):=Ld ((d.out.blk g5.out).fr hF (by have:=Y.out;omega));have k5:=cell_regrown (show W.cell? ⟨b5,0,none⟩=some (.int .i64 (n:Nat))from u.cell 0);have k3:=cell_regrown (show W.cell? ⟨b3,0,none⟩=some (.slice A n c)from i.cell 0);obtain⟨z,hz⟩:=nM (fM (dy E));have cA:=cn (w:=W) (v:=.int .i64 n) (f:=66) (args:= #[.pointer (some ⟨g,0,none⟩)]) (λJ hN=>(DF (H.out.new (r.out.tr hN)) hm hE).mono λe w h=>⟨by rw[HN.out];exact h.1,h.2⟩);have cB:=cn (w:=W) (v:=.int .i64 z) (f:=134) (args:= #[.pointer (some ⟨g,0,none⟩)]) (λJ hN=>(tQ (H.out.new (r.out.tr hN)) hm hE).mono λe w h=>⟨by rw[hz];exact h.1,h.2⟩);have cC:=cn (w:=W) (v:=.int .i64 z) (f:=135) (args:= #[.slice A n c]) (λJ hN=>(Af A n c L J (HL.out.new (r.out.tr hN)).rd HL.out.len (by omega) HS.out).mono λe w h=>⟨by rw[hz,<-Ag HC.out (λc T=>⟨(HL.out.el c T).k.len,(HL.out.el c T).v.len⟩)];exact h.1,h.2⟩);have i3:=Ld hF;clear hF u i c8 U hz c6;dsimp only
  go_wp2_with fail;refine dY 17 (by kernel_rfl) (by kernel_rfl) ?_;simp only[List.take_succ_cons,List.take_zero,List.drop_succ_cons,List.drop_zero]
  repeat(quiet_step (first|exact cA _ _|exact cB _ _|exact cC _ _))
  refine wpQuiet_nil ?_;intro Z M;have I:Hid (aa W Z):=Ld M;have c4:Z.cell? ⟨b4,0,none⟩=some (.bool false):=(M.blk q.out).cell 0;have f4:Z.frozen? ⟨b4,0,none⟩=false:=(M.blk q.out).frozen 0;clear k5 k3 cA cB cC M
  go_wp2_with fail;have hF:Fr (λj=>j=b4) Z (Z.setCell ⟨b4,0,none⟩ (.bool true)):=(Fr.refl (λj=>j=b4) Z).setCell (p:=⟨b4,0,none⟩) (λ_=>rfl) _;have u:ac (Z.setCell ⟨b4,0,none⟩ (.bool true)) b4 4 #[.bool true]:=(I.out.blk q.out).set 0 _;refine eS [D] _ (((dm.cons (dm.nil w2.heap.size W) (λ_ h=>by cases h) hD g7.out).new I.out).fr hF (λD hD=>?_)) (λJ hS=>⟨.bool true,?_,rfl,?_⟩)
  ·subst hD;exact iN (I.out.blk q.out)
  ·have T:J.cell? ⟨b4,0,none⟩=some (.bool true):=by
    have h1:J.heap[b4]?=_:=hS.cells b4 _ u rfl;exact(show ac J b4 4 #[.bool true]from h1).cell 0
   simp[results,results84,go_sem,T]
  ·have hz:w.heap.size<=w2.heap.size:=(G.out.tr d.out).size;exact(aa.fr (r.out.tr I.out) hF (λk hk=>by have:=Y.out;omega)).trans (hS.below.mono hz)
theorem wI{P:Nat->Prop}{w W:World}{x:Int}(c:aa (w.alloc (.cells #[.int .u8 x] 5 (1,2))) W)(d:P w.heap.size):Rd P W 1 (some ⟨w.heap.size,0,none⟩) 1 (an [x]):=by
 have f:(w.alloc (.cells #[.int .u8 x] 5 (1,2))).heap[w.heap.size]?=some (.cells #[.int .u8 x] 5 (1,2)):=by
  show(w.heap.push _)[w.heap.size]?=_;simp
 have b:W.heap[w.heap.size]?=some (.cells #[.int .u8 x] 5 (1,2)):=(c.block _ (by simp)).trans f;refine⟨rfl,λ_=>⟨_,rfl,d,(Array.getElem?_eq_some_iff.1 b).1,λj u hu=>?_⟩⟩
 have:j=0:=by
  have:=(List.getElem?_eq_some_iff.1 hu).1;simp[an]at this;omega
 subst this;simp[an]at hu;subst hu;simp[World.cell?,Addr.add,b]
theorem lR{q:Nat->Prop}{w:World}{s n:Nat}{A:Option Addr}{xs:List Value}{P:Program}{v:TypeId}{b m:Nat}{f:Lit->Option Value}(h:Rd q w s A n xs)(o:aJ w P v b m f)(t:0<s):Rd (λk=>q k/\k≠b) w s A n xs:=by
 refine⟨h.1,λj=>?_⟩;obtain⟨g,e,r,p,i⟩:=h.2 j;refine⟨g,e,⟨r,λc=>?_⟩,p,i⟩;have hl:0<xs.length:=by rw[h.1];exact Nat.mul_pos j t
 have h0:=i 0 _ (List.getElem?_eq_getElem hl);obtain⟨D,⟨l,clock,u,_⟩,_⟩:=o;have d:w.heap[(g.add 0).block]?=some (.map l clock):=by rw[eO,c];exact u
 simp[World.cell?,d]at h0
theorem yf(T:CT)(L:List Ch):(po T L).length<=T.length+L.length:=by
 unfold po
 induction L generalizing T with
 |nil=>simp
 |cons c L b=>
  rw[List.foldl_cons,List.length_cons];have:=b (doC T c);have:=Fl T c;omega
def GL(c:Ch):List Int×List Int:=(c.k.xs,c.v.xs)
def CZ(e:List Int×List Int):Nat:=5+e.1.length+e.2.length
theorem zg{T:CT}{k:List Int}(h:k∉T.map Prod.fst):lH T k=T:=by
 unfold lH;rw[List.filter_eq_self];intro e c;simp only[decide_eq_true_eq];exact λb=>h (b▸List.mem_map_of_mem c)
theorem BY{Q:Ch->Prop}{L:List Ch}{c:Ch}(h:∀x∈L,Q x)(d:c.d=false->Q c):∀x∈jI gv c L,Q x:=by
 intro x b
 cases hd:c.d
 ·rcases uU gv c L x b with h1 | h1
  ·exact h x h1
  ·rw[h1];exact d hd
 ·rw[tC,hd]at b;exact h x (List.mem_filter.1 b).1
theorem rp{R:List Sl}{P:List Ch}(h:R.map Sl.L=jt (mP iD P)):R.flatMap Sl.L=P:=by
 rw[List.flatMap_def,h,jv]
theorem oG{α:Type}:∀(b:List (List α)),(∀l∈b,1<=l.length)->b.length<=b.flatten.length
 | [],_=>Nat.le_refl _
 |l::b,h=>by
  have h1:=h l (List.mem_cons_self ..);have h2:=oG b (λx c=>h x (List.mem_cons_of_mem _ c));rw[List.flatten_cons,List.length_append,List.length_cons];omega
end Go.Proofs.YtfchcdbfalgdlaaGreatDoor
