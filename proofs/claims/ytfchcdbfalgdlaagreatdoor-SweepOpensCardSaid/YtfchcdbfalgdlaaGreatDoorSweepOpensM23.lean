/- Texts of one proof. No condition but each one's own. -/
import Derived.Test.YtfchcdbfalgdlaaGreatDoorSweepOpensM22
import Derived.Test.YtfchcdbfalgdlaaGreatDoorSweepOpensM10
import Derived.Lib.SlBytesConst
set_option maxHeartbeats 4000000
set_option maxRecDepth 100000
set_option linter.unusedVariables false
set_option linter.unusedSimpArgs false
namespace Go.Proofs.YtfchcdbfalgdlaaGreatDoor
open _root_.Go.Proofs.Tryz
open Go.RowKit Go.Maps
theorem pV{s:Rs}(h:s.e≠0)(m:Nat):s.bytes m=([],s):=by
 have hl:s.left=0:=by unfold Rs.left;rw[if_neg h]
 unfold Rs.bytes;rw[hl,if_pos (by omega)];unfold Rs.bad;rw[if_neg h]
set_option maxHeartbeats 8000000 in
theorem my{p:Nat→Prop}{w:World}{A:Option Addr}{n c:Nat}{s:Rs}(h:ml p w A n c s)(y:Nat)(g3:y≤1000000):
    Calls prog 127 #[rV A n c s.e,.int .i64 y] w fun e w'=>sL p (s.bytes y) e w'∧aa w w':=by
 have H:=Ld h;have hn:=h.len;have V:=Ld hn;have i9:=h.cm;have j0:=h.nc;unfold rV;obtain⟨r,hr⟩:=nM (s.bytes y);rw[←hr];have HR:=Ld hr;obtain⟨I,c6⟩:=nM (s.e);rw[←c6];have HE:=Ld c6;clear h hr c6 hn
 go_enter func127,ntmps127
 go_upto_region 1 with fail
 obtain⟨m,T⟩:=nM ((w.alloc (.cells #[.slice A n c,.int .i64 I] 194)).alloc (.cells #[.slice none 0 0,.int .i64 0] 194):World);obtain⟨b2,c4⟩:=nM (w.heap.size);obtain⟨b5,c5⟩:=nM (w.heap.size+1);have G:Hid (aa w m):=Ld (by rw[T];exact aa.al (aa.al (aa.refl _) _) _);have D:Hid (ab m b2 194 #[.slice A n c,.int .i64 I]):=Ld (by rw[T,c4];exact(ab.new _ _ _).alloc _);have E:Hid (ab m b5 194 #[.slice none 0 0,.int .i64 0]):=Ld (by rw[T,c5];exact ab.new' _ _ _ (by simp));have HZ:Hid (w.heap.size≤b2∧w.heap.size≤b5):=Ld ⟨by omega,by omega⟩;have B:b2≠b5:=by omega
 rw[←T,←c5,←c4];clear T c4 c5;have b9:m.cell? ⟨b2,0,none⟩=some (.slice A n c):=D.out.cell 0;have c':m.cell? ⟨b2,1,none⟩=some (.int .i64 I):=D.out.cell 1;have N:m.cell? ⟨b5,0,none⟩=some (.slice none 0 0):=E.out.cell 0;have O:m.cell? ⟨b5,1,none⟩=some (.int .i64 0):=E.out.cell 1;have f50:m.frozen? ⟨b5,0,none⟩=false:=E.out.frozen 0;have f51:m.frozen? ⟨b5,1,none⟩=false:=E.out.frozen 1;have f20:m.frozen? ⟨b2,0,none⟩=false:=D.out.frozen 0;have f21:m.frozen? ⟨b2,1,none⟩=false:=D.out.frozen 1;have L:¬b5=b2:=fun e=>B e.symm
 by_cases h0:I=0
 ·subst h0;have hlf:s.left=n:=by unfold Rs.left;rw [if_pos HE.out.symm,V.out]
  by_cases c7:n<2
  ·have F:Hid (r=([],⟨s.xs,2⟩)):=Ld (by
    rw[HR.out];unfold Rs.bytes;rw[hlf,if_pos c7];unfold Rs.bad
    rw[if_pos HE.out.symm])
   have i':decide ((2:Int)≤(n:Int))=false:=decide_eq_false (by omega);clear hlf
   go_upto_region 8 with fail
   obtain⟨j,u⟩:=nM (m.setCell ⟨b2,1,none⟩ (.int .i64 2):World);have C:Fr (fun k=>k=b2) m j:=by rw[u];exact(Fr.refl (fun k=>k=b2) m).setCell (p:=⟨b2,1,none⟩) (fun _=>rfl) _
   have f:Hid (ab j b2 194 #[.slice A n c,.int .i64 2]):=Ld (by
    have:=D.out.set 1 (.int .i64 2);rw[u]
    simpa using this)
   have b:Hid (ab j b5 194 #[.slice none 0 0,.int .i64 0]):=Ld (E.out.fr C L);have P:=Ld C;rw[←u];clear u C b9 c' N O f50 f51 f20 f21;have N:j.cell? ⟨b5,0,none⟩=some (.slice none 0 0):=b.out.cell 0;have O:j.cell? ⟨b5,1,none⟩=some (.int .i64 0):=b.out.cell 1;have f50:j.frozen? ⟨b5,0,none⟩=false:=b.out.frozen 0;have f51:j.frozen? ⟨b5,1,none⟩=false:=b.out.frozen 1;have t:aT b2 (.slice A n c) (.int .i64 2) j.drew:=aT.of f.out;refine ag (aT b2 (.slice A n c) (.int .i64 2)) [(true,0),(true,1),(false,2)] (by kernel_rfl) (by kernel_rfl) t (fun Y=>?_);have q0:∀p:HW (aT b2 (.slice A n c) (.int .i64 2)),p.w.cell? ⟨b2,0,none⟩=some (.slice A n c):=fun p=>p.h.1
   have q1:∀p:HW (aT b2 (.slice A n c) (.int .i64 2)),p.w.cell? ⟨b2,1,none⟩=some (.int .i64 2):=fun p=>p.h.2
   iterate 2 (refine ae (o:=.mk ..) rfl (fun K q=>?_);go_simp;refine q _ ?_;clear q K)
   refine aj (o:=.mk ..) rfl (fun K q=>?_) (.inl rfl);go_simp;obtain⟨z,d⟩:=nM (((j.setCell ⟨b5,0,none⟩ (.slice A n c)).setCell ⟨b5,1,none⟩ (.int .i64 2)).drew:World);have i:Fr (fun k=>k=b5) j z:=by rw[d];exact(((Fr.refl (fun k=>k=b5) j).setCell (p:=⟨b5,0,none⟩) (fun _=>rfl) _).setCell (p:=⟨b5,1,none⟩) (fun _=>rfl) _).drew
   have g:ab z b5 194 #[(.slice A n c),(.int .i64 2)]:=by rw[d];exact bF b.out (.slice A n c) (.int .i64 2)
   rw[←d];refine q.out _ _ (fun _=>aT.of (f.out.fr i B)) ?_;clear q K q0 q1;refine ao ?_;have U:z.cell? ⟨b5,0,none⟩=some (.slice A n c):=g.cell 0;have r1:z.cell? ⟨b5,1,none⟩=some (.int .i64 2):=g.cell 1;have J:=Ld i;clear d i g t
   go_wp2_with fail
   have l:Hid (aa w z):=Ld ((G.out.fr P.out (fun k hk=>by have:=HZ.out;omega)).fr J.out (fun k hk=>by have:=HZ.out;omega));refine bodyPost_ret (v:=.tuple #[.slice none 0 0,.agg #[.slice A n c,.int .i64 2]]) (by simp[results,results127,go_sem,U,r1]) rfl ⟨?_,l.out⟩;rw[F.out];exact⟨none,0,A,n,c,rfl,ji _,Nat.le_refl _,⟨l.out.rd H.out.rd,H.out.byt,H.out.nc,H.out.cm⟩⟩
  ·have i':decide ((2:Int)≤(n:Int))=true:=decide_eq_true (by omega);have i6:2≤c:=by omega
   have Z:=eC (xs:=s.xs.take 2) (fun x hx=>H.out.byt x (List.mem_of_mem_take hx));rw[List.length_take,V.out,Nat.min_eq_left (by omega)]at Z;have X:=Ld (fun W (hN:aa w W)=>gG A 2 c (s.xs.take 2) W (Rd.take (hN.rd H.out.rd) (by omega)) (fun x hx=>H.out.byt x (List.mem_of_mem_take hx)) (by omega));obtain⟨v,hv⟩:=nM (aQ (s.xs.take 2));rw[←hv]at Z X;have i4:v<65536:=Z
   have b3:Hid (r=if y<v∨n-2<v then([],⟨s.xs,2⟩)else(s.raw 2).2.raw v):=Ld (by
    rw[HR.out];unfold Rs.bytes;rw[hlf,if_neg c7,←hv];unfold Rs.bad
    rw[if_pos HE.out.symm])
   have i7:(2:Int)≤(n:Int):=by omega
   clear Z hv
   by_cases hm:y<v
   ·have F:Hid (r=([],⟨s.xs,2⟩)):=Ld (by rw[b3.out,if_pos (.inl hm)]);have i0:decide (v≤y)=false:=decide_eq_false (by omega);clear hlf
    go_wp2_with fail
    refine(X.out m G.out).mono ?_;rintro e g6 ⟨rfl,rfl⟩
    go_upto_region 8 with fail
    obtain⟨j,u⟩:=nM (m.setCell ⟨b2,1,none⟩ (.int .i64 2):World);have C:Fr (fun k=>k=b2) m j:=by rw[u];exact(Fr.refl (fun k=>k=b2) m).setCell (p:=⟨b2,1,none⟩) (fun _=>rfl) _
    have f:Hid (ab j b2 194 #[.slice A n c,.int .i64 2]):=Ld (by
     have:=D.out.set 1 (.int .i64 2);rw[u]
     simpa using this)
    have b:Hid (ab j b5 194 #[.slice none 0 0,.int .i64 0]):=Ld (E.out.fr C L);have P:=Ld C;rw[←u];clear u C b9 c' N O f50 f51 f20 f21;have N:j.cell? ⟨b5,0,none⟩=some (.slice none 0 0):=b.out.cell 0;have O:j.cell? ⟨b5,1,none⟩=some (.int .i64 0):=b.out.cell 1;have f50:j.frozen? ⟨b5,0,none⟩=false:=b.out.frozen 0;have f51:j.frozen? ⟨b5,1,none⟩=false:=b.out.frozen 1;have t:aT b2 (.slice A n c) (.int .i64 2) j.drew:=aT.of f.out;refine ag (aT b2 (.slice A n c) (.int .i64 2)) [(true,0),(true,1),(false,2)] (by kernel_rfl) (by kernel_rfl) t (fun Y=>?_);have q0:∀p:HW (aT b2 (.slice A n c) (.int .i64 2)),p.w.cell? ⟨b2,0,none⟩=some (.slice A n c):=fun p=>p.h.1
    have q1:∀p:HW (aT b2 (.slice A n c) (.int .i64 2)),p.w.cell? ⟨b2,1,none⟩=some (.int .i64 2):=fun p=>p.h.2
    iterate 2 (refine ae (o:=.mk ..) rfl (fun K q=>?_);go_simp;refine q _ ?_;clear q K)
    refine aj (o:=.mk ..) rfl (fun K q=>?_) (.inl rfl);go_simp;obtain⟨z,d⟩:=nM (((j.setCell ⟨b5,0,none⟩ (.slice A n c)).setCell ⟨b5,1,none⟩ (.int .i64 2)).drew:World);have i:Fr (fun k=>k=b5) j z:=by rw[d];exact(((Fr.refl (fun k=>k=b5) j).setCell (p:=⟨b5,0,none⟩) (fun _=>rfl) _).setCell (p:=⟨b5,1,none⟩) (fun _=>rfl) _).drew
    have g:ab z b5 194 #[(.slice A n c),(.int .i64 2)]:=by rw[d];exact bF b.out (.slice A n c) (.int .i64 2)
    rw[←d];refine q.out _ _ (fun _=>aT.of (f.out.fr i B)) ?_;clear q K q0 q1;refine ao ?_;have U:z.cell? ⟨b5,0,none⟩=some (.slice A n c):=g.cell 0;have r1:z.cell? ⟨b5,1,none⟩=some (.int .i64 2):=g.cell 1;have J:=Ld i;clear d i g t
    go_wp2_with fail
    have l:Hid (aa w z):=Ld ((G.out.fr P.out (fun k hk=>by have:=HZ.out;omega)).fr J.out (fun k hk=>by have:=HZ.out;omega));refine bodyPost_ret (v:=.tuple #[.slice none 0 0,.agg #[.slice A n c,.int .i64 2]]) (by simp[results,results127,go_sem,U,r1]) rfl ⟨?_,l.out⟩;rw[F.out];exact⟨none,0,A,n,c,rfl,ji _,Nat.le_refl _,⟨l.out.rd H.out.rd,H.out.byt,H.out.nc,H.out.cm⟩⟩
   ·have i0:decide (v≤y)=true:=decide_eq_true (by omega)
    by_cases f':n-2<v
    ·have F:Hid (r=([],⟨s.xs,2⟩)):=Ld (by rw[b3.out,if_pos (.inr f')]);have i1:decide ((v:Int)≤(n:Int)-2)=false:=decide_eq_false (by omega);clear hlf
     go_wp2_with fail
     refine(X.out m G.out).mono ?_;rintro e g6 ⟨rfl,rfl⟩
     go_upto_region 8 with fail
     obtain⟨j,u⟩:=nM (m.setCell ⟨b2,1,none⟩ (.int .i64 2):World);have C:Fr (fun k=>k=b2) m j:=by rw[u];exact(Fr.refl (fun k=>k=b2) m).setCell (p:=⟨b2,1,none⟩) (fun _=>rfl) _
     have f:Hid (ab j b2 194 #[.slice A n c,.int .i64 2]):=Ld (by
      have:=D.out.set 1 (.int .i64 2);rw[u]
      simpa using this)
     have b:Hid (ab j b5 194 #[.slice none 0 0,.int .i64 0]):=Ld (E.out.fr C L);have P:=Ld C;rw[←u];clear u C b9 c' N O f50 f51 f20 f21;have N:j.cell? ⟨b5,0,none⟩=some (.slice none 0 0):=b.out.cell 0;have O:j.cell? ⟨b5,1,none⟩=some (.int .i64 0):=b.out.cell 1;have f50:j.frozen? ⟨b5,0,none⟩=false:=b.out.frozen 0;have f51:j.frozen? ⟨b5,1,none⟩=false:=b.out.frozen 1;have t:aT b2 (.slice A n c) (.int .i64 2) j.drew:=aT.of f.out;refine ag (aT b2 (.slice A n c) (.int .i64 2)) [(true,0),(true,1),(false,2)] (by kernel_rfl) (by kernel_rfl) t (fun Y=>?_);have q0:∀p:HW (aT b2 (.slice A n c) (.int .i64 2)),p.w.cell? ⟨b2,0,none⟩=some (.slice A n c):=fun p=>p.h.1
     have q1:∀p:HW (aT b2 (.slice A n c) (.int .i64 2)),p.w.cell? ⟨b2,1,none⟩=some (.int .i64 2):=fun p=>p.h.2
     iterate 2 (refine ae (o:=.mk ..) rfl (fun K q=>?_);go_simp;refine q _ ?_;clear q K)
     refine aj (o:=.mk ..) rfl (fun K q=>?_) (.inl rfl);go_simp;obtain⟨z,d⟩:=nM (((j.setCell ⟨b5,0,none⟩ (.slice A n c)).setCell ⟨b5,1,none⟩ (.int .i64 2)).drew:World);have i:Fr (fun k=>k=b5) j z:=by rw[d];exact(((Fr.refl (fun k=>k=b5) j).setCell (p:=⟨b5,0,none⟩) (fun _=>rfl) _).setCell (p:=⟨b5,1,none⟩) (fun _=>rfl) _).drew
     have g:ab z b5 194 #[(.slice A n c),(.int .i64 2)]:=by rw[d];exact bF b.out (.slice A n c) (.int .i64 2)
     rw[←d];refine q.out _ _ (fun _=>aT.of (f.out.fr i B)) ?_;clear q K q0 q1;refine ao ?_;have U:z.cell? ⟨b5,0,none⟩=some (.slice A n c):=g.cell 0;have r1:z.cell? ⟨b5,1,none⟩=some (.int .i64 2):=g.cell 1;have J:=Ld i;clear d i g t
     go_wp2_with fail
     have l:Hid (aa w z):=Ld ((G.out.fr P.out (fun k hk=>by have:=HZ.out;omega)).fr J.out (fun k hk=>by have:=HZ.out;omega));refine bodyPost_ret (v:=.tuple #[.slice none 0 0,.agg #[.slice A n c,.int .i64 2]]) (by simp[results,results127,go_sem,U,r1]) rfl ⟨?_,l.out⟩;rw[F.out];exact⟨none,0,A,n,c,rfl,ji _,Nat.le_refl _,⟨l.out.rd H.out.rd,H.out.byt,H.out.nc,H.out.cm⟩⟩
    ·have i1:decide ((v:Int)≤(n:Int)-2)=true:=decide_eq_true (by omega)
     have g4:s.raw 2=(s.xs.take 2,⟨s.xs.drop 2,0⟩):=by
      unfold Rs.raw;rw[hlf,if_neg c7,←HE.out]
     have g5:(⟨s.xs.drop 2,0⟩:Rs).raw v=((s.xs.drop 2).take v,⟨(s.xs.drop 2).drop v,0⟩):=by
      have i2:(⟨s.xs.drop 2,0⟩:Rs).left=n-2:=by unfold Rs.left;rw[if_pos rfl];dsimp only;rw[List.length_drop,V.out]
      unfold Rs.raw;rw[i2,if_neg f']
     have F:Hid (r=((s.xs.drop 2).take v,⟨s.xs.drop (2+v),0⟩)):=Ld (by
      rw[b3.out,if_neg (by omega),g4];dsimp only
      rw[g5,List.drop_drop])
     have M:=lN (k:=2) H.out (by omega) 0;have c8:=lN (k:=2+v) H.out (by omega) 0;have b8:Hid (((s.xs.drop 2).take v).length=v):=Ld (by rw[List.length_take,List.length_drop,V.out];omega);have i5:IntKind.i64.wrap (2+(v:Int))=2+v:=IntWalk.i64_in _ (by omega);have i3:(2+(v:Int)).toNat=2+v:=by omega
     have c0:(0:Int)≤2+(v:Int):=by omega
     have c3:2+(v:Int)≤(n:Int):=by omega
     have c1:2+(v:Int)≤(c:Int):=by omega
     have g9:(2:Int)≤2+(v:Int):=by omega
     have b0:2+v≤n:=by omega
     have b':2+v≤c:=by omega
     have c9:2+v-2=v:=by omega
     clear hlf g4 g5
     go_wp2_with fail
     refine(X.out m G.out).mono ?_;rintro e g6 ⟨rfl,rfl⟩
     go_wp2_with fail
     have f:=D;have b:=E;have t:aT b2 (.slice A n c) (.int .i64 0) m.drew:=aT.of f.out;refine ag (aT b2 (.slice A n c) (.int .i64 0)) [(true,0),(true,1),(true,2),(true,3),(true,4),(true,5),(true,6),(true,7),(true,8),(true,9),(true,10),(true,11),(false,12)] (by kernel_rfl) (by kernel_rfl) t (fun Y=>?_);have q0:∀p:HW (aT b2 (.slice A n c) (.int .i64 0)),p.w.cell? ⟨b2,0,none⟩=some (.slice A n c):=fun p=>p.h.1
     iterate 12 (refine ae (o:=.mk ..) rfl (fun K q=>?_);go_simp;refine q _ ?_;clear q K)
     refine aj (o:=.mk ..) rfl (fun K q=>?_) (.inl rfl);go_simp
     have b1:Option.map (fun x:Addr=>x.add 2) A=Option.map (fun x:Addr=>(⟨x.block,x.off+2,none⟩:Addr)) A:=by
      congr 1
     rw[b1]at M;generalize (if c=2 then A else Option.map (fun x:Addr=>(⟨x.block,x.off+2,none⟩:Addr)) A)=A1 at M⊢;generalize (if c=2+v then A else Option.map (fun x=>x.add (2+v)) A)=A2 at c8⊢;have b7:=Ld M;have d':=Ld c8;obtain⟨z,d⟩:=nM (((m.setCell ⟨b5,0,none⟩ (.slice A2 (n-(2+v)) (c-(2+v)))).setCell ⟨b5,1,none⟩ (.int .i64 0)).drew:World);have i:Fr (fun k=>k=b5) m z:=by rw[d];exact(((Fr.refl (fun k=>k=b5) m).setCell (p:=⟨b5,0,none⟩) (fun _=>rfl) _).setCell (p:=⟨b5,1,none⟩) (fun _=>rfl) _).drew
     have g:ab z b5 194 #[.slice A2 (n-(2+v)) (c-(2+v)),.int .i64 0]:=by rw[d];exact bF b.out _ _
     rw[←d];refine q.out _ _ (fun _=>aT.of (f.out.fr i B)) ?_;clear q K q0;refine ao ?_;have U:z.cell? ⟨b5,0,none⟩=some (.slice A2 (n-(2+v)) (c-(2+v))):=g.cell 0;have r1:z.cell? ⟨b5,1,none⟩=some (.int .i64 0):=g.cell 1;have l:Hid (aa w z):=Ld (G.out.fr i (fun k hk=>by have:=HZ.out;omega));obtain⟨n2,S⟩:=nM (n-(2+v));obtain⟨c2,R⟩:=nM (c-(2+v));rw[←S,←R]at U d';rw[←S,←R];have g7:Hid (v≤c-2):=Ld (by omega);have g8:Hid (v≤n-2):=Ld (by omega);clear d i g t c8 M b1 i5 i3 c0 c3 c1 g9 b0 b' c9 S R
     go_wp2_with fail
     refine bodyPost_ret (v:=.tuple #[.slice A1 v (c-2),.agg #[.slice A2 n2 c2,.int .i64 0]]) (by simp[results,results127,go_sem,U,r1]) rfl ⟨?_,l.out⟩;rw[F.out];exact⟨A1,c-2,A2,n2,c2,by dsimp only;rw[b8.out];rfl,by dsimp only;rw[b8.out];exact l.out.rd (Rd.take b7.out.rd g8.out),by dsimp only;rw[b8.out];exact g7.out,d'.out.new l.out⟩
 ·skip
  have hz:((I:Int) != 0)=true:=by simp;omega
  have j1:((I:Int)==0)=false:=by simp;omega
  have j':decide ((I:Int)=0)=false:=decide_eq_false (by omega);have f:=D;have b:=E;have F:Hid (r=([],s)):=Ld (by rw[HR.out];exact pV (by rw[←HE.out];exact h0) y)
  go_wp2_with fail
  have t:aT b2 (.slice A n c) (.int .i64 I) m.drew:=aT.of f.out;refine ag (aT b2 (.slice A n c) (.int .i64 I)) [(true,0),(true,1),(false,2)] (by kernel_rfl) (by kernel_rfl) t (fun Y=>?_);have q0:∀p:HW (aT b2 (.slice A n c) (.int .i64 I)),p.w.cell? ⟨b2,0,none⟩=some (.slice A n c):=fun p=>p.h.1
  have q1:∀p:HW (aT b2 (.slice A n c) (.int .i64 I)),p.w.cell? ⟨b2,1,none⟩=some (.int .i64 I):=fun p=>p.h.2
  iterate 2 (refine ae (o:=.mk ..) rfl (fun K q=>?_);go_simp;refine q _ ?_;clear q K)
  refine aj (o:=.mk ..) rfl (fun K q=>?_) (.inl rfl);go_simp;obtain⟨z,d⟩:=nM (((m.setCell ⟨b5,0,none⟩ (.slice A n c)).setCell ⟨b5,1,none⟩ (.int .i64 I)).drew:World);have i:Fr (fun k=>k=b5) m z:=by rw[d];exact(((Fr.refl (fun k=>k=b5) m).setCell (p:=⟨b5,0,none⟩) (fun _=>rfl) _).setCell (p:=⟨b5,1,none⟩) (fun _=>rfl) _).drew
  have g:ab z b5 194 #[(.slice A n c),(.int .i64 I)]:=by rw[d];exact bF b.out (.slice A n c) (.int .i64 I)
  rw[←d];refine q.out _ _ (fun _=>aT.of (f.out.fr i B)) ?_;clear q K q0 q1;refine ao ?_;have U:z.cell? ⟨b5,0,none⟩=some (.slice A n c):=g.cell 0;have r1:z.cell? ⟨b5,1,none⟩=some (.int .i64 I):=g.cell 1;have J:=Ld i;clear d i g t
  go_wp2_with fail
  have l:Hid (aa w z):=Ld (G.out.fr J.out (fun k hk=>by have:=HZ.out;omega));refine bodyPost_ret (v:=.tuple #[.slice none 0 0,.agg #[.slice A n c,.int .i64 I]]) (by simp[results,results127,go_sem,U,r1]) rfl ⟨?_,l.out⟩;rw[F.out];exact⟨none,0,A,n,c,by rw[HE.out];rfl,ji _,Nat.le_refl _,H.out.new l.out⟩
theorem Bw{p:Nat→Prop}{w:World}{A:Option Addr}{n c:Nat}{s:Rs}(h:ml p w A n c s):
    Calls prog 128 #[rV A n c s.e] w fun e w'=>e=.returned (.int .i64 s.fin)∧aa w w':=by
 have d:=h.len;have g:=h.cm;have j:=h.nc;unfold rV Rs.fin;rw[d];obtain⟨f,b⟩:=nM (s.e);rw[←b];clear h b d
 by_cases h0:f=0
 ·subst h0;rw[if_neg (by omega)]
  by_cases d:0<n
  ·have hd:decide ((0:Int)<(n:Int))=true:=decide_eq_true (by omega);rw[if_pos d]
   go_enter func128,ntmps128
   go_wp2_with fail
   go_ret;exact⟨rfl,aa.al (aa.refl _) _⟩
  ·have hd:decide ((0:Int)<(n:Int))=false:=decide_eq_false (by omega);rw[if_neg d]
   go_enter func128,ntmps128
   go_wp2_with fail
   go_ret;exact⟨rfl,aa.al (aa.refl _) _⟩
 ·have l:((f:Int) != 0)=true:=by simp;omega
  have k:((f:Int)==0)=false:=by simp;omega
  have i:decide ((f:Int)=0)=false:=decide_eq_false (by omega);rw[if_pos h0]
  go_enter func128,ntmps128
  go_wp2_with fail
  go_ret;exact⟨rfl,aa.al (aa.refl _) _⟩
end Go.Proofs.YtfchcdbfalgdlaaGreatDoor
namespace Go.Proofs.YtfchcdbfalgdlaaGreatDoor
open _root_.Go.Proofs.Tryz
open Go.RowKit Go.Maps Go.Sort
def CY(w:World)(base:Nat)(b:Value)(bs:List Int)(A:Option Addr)(n c:Nat)(w':World):Prop:=
 w'.ownsRow base 5 1 (.slice A n c) n (am bs)∧Fr (fun k=>b.ownBlock=some k) w w'∧∀k,(Value.slice A n c).ownBlock=some k→b.ownBlock=some k∨w.heap.size≤k
theorem iv(xs ys:List Int):am (xs++ys)=am xs++am ys:=by simp[am]
theorem lh{base:Nat}{w:World}{p:Nat→Prop}(A:Option Addr)(n c:Nat)(bs:List Int)(hO:w.ownsRow base 5 1 (.slice A n c) n (am bs))(f:base≤w.heap.size)(B:Option Addr)(m d:Nat)(xs:List Int)(N:Rd p w 1 B m (am xs))(O:∀k,p k→k<base)(U:n+m≤100000000):
    Calls prog 132 #[.slice A n c,.slice B m d] w fun e w'=>(∃I M,e=.returned (.slice I (n+2+m) M)∧CY w base (.slice A n c) (bs++aY 2 m++xs) I (n+2+m) M w'):=by
 have L:=Ld hO;have S:=Ld N;have R:=Ld O;have J:=Ld f;clear hO N O f
 go_enter func132,ntmps132
 go_wp2_with fail
 refine(eT m 2 w (by omega) (by omega)).mono ?_;rintro e V ⟨rfl,t,s⟩;have D:=Ld t;have b:=Ld s;clear t s
 go_wp2_with (at_builtin;refine dH ⟨some 10,_,_,_,_,_⟩ ?_;refine dC ?_)
 refine⟨?_⟩;refine aq (o:=⟨some 10,_,_,_,_,_⟩) jJ _ rfl (.tmp 5) (.tmp 9) rfl base (.slice A n c) n (am bs) rfl (b.out.own L.out) _ 2 2 (am (aY 2 m)) rfl (Rd.own D.out rfl) (aM _) (by unfold maxLen;omega) (by omega) (Nat.le_trans J.out b.out.size) ?_;intro A2 d2 T u i l;have E:=Ld u;have g:=Ld i;have j:=Ld l;have G:Hid (Rd p T 1 B m (am xs)):=Ld ((b.out.rd S.out).fr i (fun k y H=>by have:=R.out k y;have:=(ak L.out k H).1;omega));clear u i l
 go_wp2_with (at_builtin;refine dH ⟨some 12,_,_,_,_,_⟩ ?_;refine dC ?_)
 refine⟨?_⟩;refine aq (o:=⟨some 12,_,_,_,_,_⟩) jJ _ rfl (.tmp 10) (.tmp 11) rfl base (.slice A2 (n+2) d2) (n+2) (am bs++am (aY 2 m)) rfl E.out _ m d (am xs) rfl G.out (aM _) (by unfold maxLen;omega) (by omega) (by have:=g.out.size;have:=b.out.size;have:=J.out;omega) ?_;intro P d4 X v r q;have F:=Ld v;have C:=Ld r;have z:=Ld q;clear v r q
 go_wp2_with fail
 go_ret;refine⟨P,d4,rfl,?_,?_,?_⟩
 ·rw[iv,iv];exact F.out
 ·refine ((b.out.toFr _).trans g.out).trans' C.out (fun k y H=> ?_);rcases j.out k H with h | h
  ·exact h
  ·have:=b.out.size;omega
 ·intro k y;rcases z.out k y with h | h
  ·rcases j.out k h with h | h
   ·exact .inl h
   ·exact .inr (Nat.le_trans b.out.size h)
  ·exact .inr (Nat.le_trans b.out.size (Nat.le_trans g.out.size h))
def mh(g o:Nat)(k v:Value)(w:World):Prop:=w.cell? ⟨g,o,none⟩=some k∧w.cell? ⟨g,o+1,none⟩=some v
theorem mh.fr{g o:Nat}{k v:Value}{w w':World}{S:Nat→Prop}(h:mh g o k v w)(hF:Fr S w w')(b:¬S g):mh g o k v w':=⟨hF.cell_some h.1 b,hF.cell_some h.2 b⟩
set_option maxHeartbeats 8000000 in
theorem lQ(A:Option Addr)(n c:Nat)(L:List Ch)(w:World)(h:px w A n L)(hn:n≤1000)(hs:∀c∈L,c.k.n≤16∧c.v.n≤16384):
    Calls prog 82 #[.slice A n c] w fun e w'=>(∃U X,e=.returned (.slice U (bR L).length X)∧w'.ownsRow w.heap.size 5 1 (.slice U (bR L).length X) (bR L).length (am (bR L)))∧aa w w':=by
 have H:=Ld h;have HS:=Ld hs
 have g8:∀c∈L,(lB c).length≤40000:=fun c hc=>by
  have h1:=vW (h.el c hc).k.len (h.el c hc).v.len;have:=hs c hc;omega
 have i2:=Ld g8;clear h hs g8
 go_enter func82,ntmps82
 go_wp2_with fail
 refine(eT n 2 w (by omega) (by omega)).mono ?_;rintro e w1 ⟨rfl,g6,g5⟩;have d':Hid (w1.ownsRow w.heap.size 5 1 (.slice (some ⟨w.heap.size,0,none⟩) 2 2) 2 (am (aY 2 n++(L.take 0).flatMap lB))):=Ld (by simpa using g6);have c9:=Ld g5;clear g6 g5
 go_wp2_with fail
 go_loopw [3,4] (fun b i wr=>∃(j m:Nat) (U:Option Addr) (X:Nat),j≤n∧i=.int .i64 j∧b=.slice U m X∧Hid (wr.ownsRow w.heap.size 5 1 (.slice U m X) m (am (aY 2 n++(L.take j).flatMap lB)))∧Hid (aa w wr)) (fun b i _=>n-(intOf i).toNat)
 case atStart=>exact⟨0,2,_,_,Nat.zero_le _,rfl,rfl,d',c9⟩
 case round=>
  obtain⟨j,m,U,X,hj,rfl,rfl,N,HN⟩:=hrel;clear d' c9;obtain⟨bs,Z⟩:=nM (aY 2 n++(L.take j).flatMap lB);rw[←Z]at N
  have hm:m≤50000000:=by
   have h1:=N.out.1;rw[ah,Z,List.length_append,av]at h1;have:=ta i2.out j (by rw[H.out.len];exact hj);omega
  have b1:=Ld Z;clear Z
  by_cases i':j<n
  ·as_aux_lemma=>
   obtain⟨r,o,hl,rfl,g9,-,b'⟩:=iD (f:=Ch.cells) (L:=L) (fun _=>rfl) (by omega) (HN.out.rd H.out.rd) i';have c0:wr.cell? ⟨r,o+j*3,none⟩=some (.slice L[j].k.A L[j].k.n L[j].k.c):=b' 0 _ rfl;have c1:wr.cell? ⟨r,o+j*3+1,none⟩=some (.slice L[j].v.A L[j].v.n L[j].v.c):=b' 1 _ rfl;have c2:wr.cell? ⟨r,o+j*3+2,none⟩=some (.bool L[j].d):=b' 2 _ rfl;have c3:=H.out.el L[j] (List.getElem_mem _);have i1:=HS.out L[j] (List.getElem_mem _);have c8:=mD hl;generalize L[j]=x at c0 c1 c2 c3 i1 c8;obtain⟨⟨C,s,D,ks⟩,⟨G,F,I,vs⟩,d⟩:=x;dsimp only at c0 c1 c2 i1;have b3:=Ld c3;have g4:=Ld c8;have i7:(0:Int)≤(j:Int):=by omega
   have i9:(j:Int)<(n:Int):=by omega
   have i6:j<n:=i';have J:Hid (r<w.heap.size):=Ld g9;clear b' hl c3 c8 g9;have Y:mh r (o+j*3) (.slice C s D) (.slice G F I) wr.drew:=⟨c0,c1⟩
   have V:Hid (mh r (o+j*3) (.slice C s D) (.slice G F I) wr):=Ld ⟨c0,c1⟩
   cases d
   ·go_wp2_with fail
    refine ag (mh r (o+j*3) (.slice C s D) (.slice G F I)) [(true,0),(true,3),(true,4),(true,5),(true,6),(true,7),(true,9),(true,10),(true,11),(true,12),(true,13),(false,1),(false,2),(false,8),(false,14),(true,15)] (by kernel_rfl) (by kernel_rfl) Y (fun c7=>?_);have q0:∀p:HW (mh r (o+j*3) (.slice C s D) (.slice G F I)),p.w.cell? ⟨r,o+j*3,none⟩=some (.slice C s D):=fun p=>p.h.1
    have q1:∀p:HW (mh r (o+j*3) (.slice C s D) (.slice G F I)),p.w.cell? ⟨r,o+j*3+1,none⟩=some (.slice G F I):=fun p=>p.h.2
    iterate 11 (refine ae (o:=.mk ..) rfl (fun K g=>?_);go_simp;refine g _ ?_;clear g K)
    clear q0 q1 c0 c1 c2 Y;refine aj (o:=.mk ..) rfl (fun K g=>?_) (.inl rfl);refine mJ jJ rfl (.const (.int .u8 1)) rfl (.int .u8 1) (by rfl) rfl ?_;intro gb w3 P R c4;simp only[Act.put,bK,bM,bO];have q:Hid (aa wr w3):=Ld (aa.tr (aa.dr (aa.refl _)) R);have b0:=Ld P;refine g.out _ _ (fun _=>V.out.fr (q.out.toFr ia) (fun x=>x)) ?_;clear g K P R c4;refine aj (o:=.mk ..) rfl (fun K g=>?_) (.inl rfl);refine cq jJ _ (by rfl) (.tmp 29) (.tmp 30) (by rfl) w.heap.size (.slice U m X) m (am bs) (by rfl) (q.out.own N.out) (some ⟨gb,0,none⟩) 1 1 (am [1]) (by rfl) (Rd.ofBlk (p:=fun _=>True) b0.out 1 1 rfl trivial) (aM _) (by unfold maxLen;omega) (by omega) (Nat.le_trans HN.out.size q.out.size) ?_;intro A4 d4 w4 B y b7;simp only[Act.put,bK,bM,bO];rw[←iv]at B;have u:=Ld B;have t:Hid (aa w w4):=Ld ((HN.out.tr q.out).fr y (fun k l=>(ak N.out k l).1));have O:Hid (mh r (o+j*3) (.slice C s D) (.slice G F I) w4):=Ld ((V.out.fr (q.out.toFr ia) (fun x=>x)).fr y (fun l=>by have:=(ak N.out _ l).1;have:=J.out;omega));refine g.out _ _ (fun _=>O.out) ?_;clear g K B y b7;refine aj (o:=.mk ..) rfl (fun K g=>?_) (.inl rfl);go_simp;refine(lh A4 (m+1) d4 (bs++[1]) u.out t.out.size C s D ks (t.out.rd b3.out.k.rd) (fun k l=>l) (by omega)).mono ?_;rintro e w5 ⟨A5,c5,rfl,S,z,b8⟩;have E:=Ld S;have M:Hid (aa w w5):=Ld (t.out.fr z (fun k l=>(ak u.out k l).1));have g3:Hid (mh r (o+j*3) (.slice C s D) (.slice G F I) w5):=Ld (O.out.fr z (fun l=>by have:=(ak u.out _ l).1;have:=J.out;omega));refine g.out _ _ (fun _=>g3.out) ?_;clear g K S z b8;refine aj (o:=.mk ..) rfl (fun K g=>?_) (.inl rfl);go_simp;refine(lh A5 (m+1+2+s) c5 _ E.out M.out.size G F I vs (M.out.rd b3.out.v.rd) (fun k l=>l) (by omega)).mono ?_;rintro e w6 ⟨A6,c6,rfl,g7,b9,i5⟩;have f':=Ld g7;have i4:Hid (aa w w6):=Ld (M.out.fr b9 (fun k l=>(ak E.out k l).1));refine g.out _ _ (fun _=>g3.out.fr b9 (fun l=>by have:=(ak E.out _ l).1;have:=J.out;omega)) ?_;clear g K g7 b9 i5;refine ae (o:=.mk ..) rfl (fun K g=>?_);go_simp;refine g _ ?_;clear g K c7;refine ao ?_;obtain⟨m6,T⟩:=nM (m+1+2+s+2+F);rw[←T]at f'⊢;clear T
    go_wp2_with fail
    go_roundw
    case rel=>
     refine⟨j+1,m6,A6,c6,by omega,by go_num,rfl,?_,i4⟩;rw[g4.out];have:=f'.out;rw[b1.out]at this;refine Ld ?_
     simpa[lB,List.append_assoc]using this
    case measure=>simp[intOf];omega
   ·go_wp2_with fail
    refine ag (mh r (o+j*3) (.slice C s D) (.slice G F I)) [(true,0),(true,3),(true,4),(true,5),(true,6),(true,7),(false,1),(false,2),(false,8),(true,9)] (by kernel_rfl) (by kernel_rfl) Y (fun c7=>?_);have q0:∀p:HW (mh r (o+j*3) (.slice C s D) (.slice G F I)),p.w.cell? ⟨r,o+j*3,none⟩=some (.slice C s D):=fun p=>p.h.1
    iterate 6 (refine ae (o:=.mk ..) rfl (fun K g=>?_);go_simp;refine g _ ?_;clear g K)
    clear q0 c0 c1 c2 Y;refine aj (o:=.mk ..) rfl (fun K g=>?_) (.inl rfl);refine mJ jJ rfl (.const (.int .u8 0)) rfl (.int .u8 0) (by rfl) rfl ?_;intro gb w3 P R c4;simp only[Act.put,bK,bM,bO];have q:Hid (aa wr w3):=Ld (aa.tr (aa.dr (aa.refl _)) R);have b0:=Ld P;refine g.out _ _ (fun _=>V.out.fr (q.out.toFr ia) (fun x=>x)) ?_;clear g K P R c4;refine aj (o:=.mk ..) rfl (fun K g=>?_) (.inl rfl);refine cq jJ _ (by rfl) (.tmp 20) (.tmp 21) (by rfl) w.heap.size (.slice U m X) m (am bs) (by rfl) (q.out.own N.out) (some ⟨gb,0,none⟩) 1 1 (am [0]) (by rfl) (Rd.ofBlk (p:=fun _=>True) b0.out 1 1 rfl trivial) (aM _) (by unfold maxLen;omega) (by omega) (Nat.le_trans HN.out.size q.out.size) ?_;intro A4 d4 w4 B y b7;simp only[Act.put,bK,bM,bO];rw[←iv]at B;have u:=Ld B;have t:Hid (aa w w4):=Ld ((HN.out.tr q.out).fr y (fun k l=>(ak N.out k l).1));have O:Hid (mh r (o+j*3) (.slice C s D) (.slice G F I) w4):=Ld ((V.out.fr (q.out.toFr ia) (fun x=>x)).fr y (fun l=>by have:=(ak N.out _ l).1;have:=J.out;omega));refine g.out _ _ (fun _=>O.out) ?_;clear g K B y b7;refine aj (o:=.mk ..) rfl (fun K g=>?_) (.inl rfl);go_simp;refine(lh A4 (m+1) d4 (bs++[0]) u.out t.out.size C s D ks (t.out.rd b3.out.k.rd) (fun k l=>l) (by omega)).mono ?_;rintro e w5 ⟨A5,c5,rfl,S,z,b8⟩;have E:=Ld S;have M:Hid (aa w w5):=Ld (t.out.fr z (fun k l=>(ak u.out k l).1));refine g.out _ _ (fun _=>O.out.fr z (fun l=>by have:=(ak u.out _ l).1;have:=J.out;omega)) ?_;clear g K S z b8;refine ae (o:=.mk ..) rfl (fun K g=>?_);go_simp;refine g _ ?_;clear g K c7;refine ao ?_;obtain⟨m6,T⟩:=nM (m+1+2+s);rw[←T]at E⊢;clear T
    go_wp2_with fail
    go_roundw
    case rel=>
     refine⟨j+1,m6,A5,c5,by omega,by go_num,rfl,?_,M⟩;rw[g4.out];have:=E.out;rw[b1.out]at this;refine Ld ?_
     simpa[lB,List.append_assoc]using this
    case measure=>simp[intOf];omega
  ·as_aux_lemma=>
   obtain rfl:j=n:=by omega
   have hp:bs=bR L:=by
    rw[b1.out];unfold bR;rw[←H.out.len,List.take_length]
   rw[hp]at N;have i0:m=(bR L).length:=by have:=N.out.1;rw[ah]at this;omega
   have i3:=Ld i0;clear hp i0
   go_wp2_with fail
   go_ret;rw[←i3.out];exact⟨⟨U,X,rfl,N.out⟩,HN.out⟩
theorem mv:aW prog 76 153 3 56:=aW.mk' (z:=.agg EZ.cells.toArray) underlying76 (by kernel_rfl) rfl (by decide)
theorem ED:aW prog 144 76 1 24:=aW.mk' (z:=.slice none 0 0) underlying144 (by kernel_rfl) rfl (by decide)
theorem Ab{L:List Ch}(hl:jB L)(hd:∀c∈L,c.d=false):(bR L).length=2+(L.map ib).sum:=by
 unfold bR;rw[List.length_append,av]
 congr 1
 induction L with
 |nil=>rfl
 |cons c L d=>
  have h1:=hl c (List.mem_cons_self ..);have h2:=hd c (List.mem_cons_self ..);rw[List.flatMap_cons,List.length_append,List.map_cons,List.sum_cons,d (fun x b=>hl x (List.mem_cons_of_mem _ b)) (fun x b=>hd x (List.mem_cons_of_mem _ b))]
  congr 1
  unfold lB ib;rw[h2];simp[av,h1.1,h1.2];omega
theorem gE{P:Program}{t e:TypeId}{size bytes:Nat}(E:aW P t e size bytes)(w:World){i:Array Oper}{o:Oper}{a:Act}{K:Act→World→Prop}{Q:Exit→Act→World→Prop}{F:Prop}(B:Region.wanted o (yielded i a.tmps)=true)(s x:Operand)
    (r:o.op=.call {callee:=.builtin .append,args:= #[s,x],argTypes:= #[t,t]})
    (base:Nat) (v:Value) (n:Nat) (xs:List Value) (z:a.eval s=v) (g:w.ownsRow base e size v n xs)
    {p:Nat→Prop} (X:Option Addr) (m c:Nat) (b:List Value) (C:a.eval x=.slice X m c) (y:Rd p w size X m b) (h1:∀u∈b,u.oneCell'=true)
    (q:n+m≤maxLen) (d:(n+m)*bytes≤140737488355328) (f:base≤w.heap.size)
    (h:∀j l w',w'.ownsRow base e size (.slice j (n+m) l) (n+m) (xs++b)→Fr (fun k=>v.ownBlock=some k) w w'→
     (∀k,(Value.slice j (n+m) l).ownBlock=some k→v.ownBlock=some k∨w.heap.size≤k)→K (a.put o.dst (.slice j (n+m) l)) w'):
    if Region.wanted o (yielded i a.tmps)=true then Oper.wp P o a w K Q else F:=by
 rw[if_pos B];exact sE E w s x r base v n xs z g X m c b C y h1 q d f h
theorem kT(L:List Ch):∀u∈L.flatMap Ch.cells,u.oneCell'=true:=by
 intro u hu;obtain⟨c,-,b⟩:=List.mem_flatMap.1 hu;exact ch c u b
theorem wK{w:World}{base g size:Nat}{t:TypeId}{cs:Array Value}(h:ab w g t cs)(b:cs.size=size)(c:base≤g):w.ownsRow base t size (.slice (some ⟨g,0,none⟩) 1 1) 1 cs.toList:=
 ⟨by simp[b],.inr ⟨g,1,cs,rfl,c,h,Nat.le_refl _,by unfold maxLen;omega,by omega,by rw[List.take_of_length_le];simp[b]⟩⟩
def uk(c f b o:Nat)(row k v d:Value)(w:World):Prop:=w.cell? ⟨c,f,none⟩=some row∧w.cell? ⟨b,o,none⟩=some k∧w.cell? ⟨b,o+1,none⟩=some v∧w.cell? ⟨b,o+2,none⟩=some d
def EX(w:World)(L:List Ch)(j:Nat)(s:Value)(wr:World):Prop:=
 aa w wr∧((j=0∧s=.slice none 0 0)∨∃(g n c:Nat) (C:List Sl) (l:Sl) (lo:Nat),s=.slice (some ⟨g,0,none⟩) n c∧iC 76 153 (fun _=>True) w.heap.size lo wr (some ⟨g,0,none⟩) n c C l∧
  lX ib (L.take j)=some (C.map Sl.L,l.L)∧l.L.length≤600∧(∀y∈l.L,y∈L)∧n≤j)
def oc (L:List Ch) (j:Nat) (y:Ch):Bool:=match lX ib (L.take j) with
 |none=>false
 |some (_,l)=>decide (l.length<600∧(l.map ib).sum+ib y≤8190)
theorem rT(A:Option Addr)(n c:Nat)(L:List Ch)(w:World)(h:px w A n L)(hn:n≤1000000)(hY:∀y∈L,vO y):
    Calls prog 80 #[.slice A n c] w fun e w'=>(∃(A':Option Addr) (n' c':Nat) (R:List Sl),e=.returned (.slice A' n' c')∧(yK w' A' n' R∧iG w.heap.size w' A' n' R)∧R.map Sl.L=iV (lX ib L))∧aa w w':=by
 have H:=Ld h;have HY:=Ld hY;have hll:L.length=n:=h.len;have HLO:=Ld h.lens;clear h hY
 go_enter func80,ntmps80
 go_wp2_with fail
 go_loopw [3,4] (fun s i wr=>∃(j:Nat),j≤n∧i=.int .i64 j∧(∃(aV:Option Addr) (nV cV:Nat),s=.slice aV nV cV∧nV≤j)∧Hid (EX w L j s wr)) (fun s i _=>n-(intOf i).toNat)
 case atStart=>exact⟨0,Nat.zero_le _,rfl,⟨none,0,0,rfl,Nat.zero_le _⟩,Ld ⟨aa.refl w,.inl ⟨rfl,rfl⟩⟩⟩
 case round=>
  obtain⟨j,hj,rfl,⟨aV,nV,cV,rfl,hnV⟩,HI⟩:=hrel
  by_cases hlt:j<n
  ·obtain ⟨gA,o,hl,rfl,hgA,-,hrg⟩:=iD (f:=Ch.cells) (L:=L) (fun _=>rfl) (by omega) (HI.out.1.rd H.out.rd) hlt;have c0:wr.cell? ⟨gA,o+j*3,none⟩=some (.slice L[j].k.A L[j].k.n L[j].k.c):=hrg 0 _ rfl;have c1:wr.cell? ⟨gA,o+j*3+1,none⟩=some (.slice L[j].v.A L[j].v.n L[j].v.c):=hrg 1 _ rfl;have c2:wr.cell? ⟨gA,o+j*3+2,none⟩=some (.bool L[j].d):=hrg 2 _ rfl;have hin:=(H.out.el L[j] (List.getElem_mem _)).new HI.out.1;have hys:=HY.out L[j] (List.getElem_mem _);have hlo:=HLO.out L[j] (List.getElem_mem _);have hst:L.take (j+1)=L.take j++ [L[j]]:=List.take_succ_eq_append_getElem hl;have hmem:L[j]∈L:=List.getElem_mem _;generalize L[j]=y at c0 c1 c2 hin hys hlo hst hmem;have HIN:=Ld hin;have HYS:=Ld hys;have HLY:=Ld hlo;have HST:=Ld hst;have HME:=Ld hmem;have hj0:(0:Int)≤(j:Int):=by omega
   have hjn:(j:Int)<(n:Int):=by omega
   clear hin hys hlo hst hmem hrg
   go_wp2_with fail
   obtain⟨k5,hk5⟩:=nM ((nV:Int)-1:Int);rw[←hk5];have HK5:=Ld hk5;clear hk5;refine CX (fun a w'=>∃(v15 v16 v17 v18 v19 v20 v21 v22 v23 v24 v25 v26 v27 v28 v29 v30 v31 v32 v33 v34 v35 v36 v37 v38 v39 v40:Value),a={tmps:= #[.slice (some ⟨gA,o,none⟩) n c,undef,.slice none 0 0,.slice aV nV cV,.int .i64 (j:Nat),.int .i64 k5,.int .i64 (j:Nat),.slice (some ⟨gA,o,none⟩) n c,.int .i64 (n:Nat),.bool true,u10,u11,.slice aV nV cV,.int .i64 (nV:Nat),.int .i64 k5,v15,v16,v17,v18,v19,v20,v21,v22,v23,v24,v25,v26,v27,v28,v29,v30,v31,v32,v33,v34,v35,v36,v37,v38,v39,v40,.bool (oc L j y),u42,u43,u44,u45,u46,u47,u48,u49,u50,u51,u52,u53,u54,u55,u56,u57,u58,u59,u60,u61,u62,undef],defers:=[]}∧Hid (aa wr w')) ?next ?reg
   case reg=>
    intro K' hK';have HK':=Ld hK';clear hK';rcases HI.out.2 with⟨hj00,hv0⟩|⟨gO,nO,cO,C,l,lo,hv0,hNs,hsp,hl6,hlm,hns⟩
    ·injection hv0 with e1 e2 e3;subst e1 e2 e3 hj00;have hk5':k5= -1:=by rw [HK5.out];rfl
     subst hk5';have hf:oc L 0 y=false:=by simp[oc,lX]
     rw[hf]at HK';have hS0:(fun w'=>aa wr w') wr.drew:=aa.dr (aa.refl wr);refine cD (fun w'=>aa wr w') (.take 0 (.take 1 (.take 2 (.take 3 (.take 4 (.take 5 (.take 6 (.take 7 (.take 8 (.take 9 (.take 10 (.take 12 (.take 13 (.take 14 (.take 15 (.take 17 (.take 18 (.take 19 (.take 20 (.two 11 (.two 16 (.act 21 (.act 22 (.act 23 (.take 24 (.take 25 (.take 26 .done)))))) 21 (.act 16 (.act 22 (.act 23 (.take 24 (.take 25 (.take 26 .done))))))) 21 (.act 11 (.act 16 (.act 22 (.act 23 (.take 24 (.take 25 (.take 26 .done))))))))))))))))))))))))))) (by kernel_rfl) (by kernel_rfl) hS0 (fun hne=>?_)
     iterate 19 (refine aB (o:=.mk ..) rfl (fun K hK=>?_);go_simp;refine hK _ ?_;clear hK K)
     refine⟨?_,?_⟩
     ·refine dX (o:=.mk ..) rfl (fun K hK=>?_) (.inr hS0);go_simp;refine hK.out _ _ hS0 ?_;clear hK K;refine⟨?_,?_⟩
      ·refine dX (o:=.mk ..) rfl (fun K hK=>?_) (.inr hS0);go_simp;refine hK.out _ _ hS0 ?_;clear hK K;refine aE (o:=.mk ..) rfl (fun K hK=>?_) (.inr hS0);go_simp;refine hK.out _ _ hS0 ?_;clear hK K;refine aE (o:=.mk ..) rfl (fun K hK=>?_) (.inr hS0);go_simp;refine hK.out _ _ hS0 ?_;clear hK K;refine aE (o:=.mk ..) rfl (fun K hK=>?_) (.inr hS0);go_simp;refine hK.out _ _ hS0 ?_;clear hK K
       iterate 3 (refine aB (o:=.mk ..) rfl (fun K hK=>?_);go_simp;refine hK _ ?_;clear hK K)
       clear hne;refine bq ?_;exact HK'.out _ _ ⟨_,_,_,_,_,_,_,_,_,_,_,_,_,_,_,_,_,_,_,_,_,_,_,_,_,_,rfl,Ld hS0⟩
      ·refine dX (o:=.mk ..) rfl (fun K hK=>?_) (.inr hS0);go_simp;refine hK.out _ _ hS0 ?_;clear hK K;refine aE (o:=.mk ..) rfl (fun K hK=>?_) (.inr hS0);go_simp;refine hK.out _ _ hS0 ?_;clear hK K;refine aE (o:=.mk ..) rfl (fun K hK=>?_) (.inr hS0);go_simp;refine hK.out _ _ hS0 ?_;clear hK K;refine aE (o:=.mk ..) rfl (fun K hK=>?_) (.inr hS0);go_simp;refine hK.out _ _ hS0 ?_;clear hK K
       iterate 3 (refine aB (o:=.mk ..) rfl (fun K hK=>?_);go_simp;refine hK _ ?_;clear hK K)
       clear hne;refine bq ?_;exact HK'.out _ _ ⟨_,_,_,_,_,_,_,_,_,_,_,_,_,_,_,_,_,_,_,_,_,_,_,_,_,_,rfl,Ld hS0⟩
     ·refine dX (o:=.mk ..) rfl (fun K hK=>?_) (.inr hS0);go_simp;refine hK.out _ _ hS0 ?_;clear hK K;refine aE (o:=.mk ..) rfl (fun K hK=>?_) (.inr hS0);go_simp;refine hK.out _ _ hS0 ?_;clear hK K;refine aE (o:=.mk ..) rfl (fun K hK=>?_) (.inr hS0);go_simp;refine hK.out _ _ hS0 ?_;clear hK K;refine aE (o:=.mk ..) rfl (fun K hK=>?_) (.inr hS0);go_simp;refine hK.out _ _ hS0 ?_;clear hK K;refine aE (o:=.mk ..) rfl (fun K hK=>?_) (.inr hS0);go_simp;refine hK.out _ _ hS0 ?_;clear hK K
      iterate 3 (refine aB (o:=.mk ..) rfl (fun K hK=>?_);go_simp;refine hK _ ?_;clear hK K)
      clear hne;refine bq ?_;exact HK'.out _ _ ⟨_,_,_,_,_,_,_,_,_,_,_,_,_,_,_,_,_,_,_,_,_,_,_,_,_,_,rfl,Ld hS0⟩
    ·injection hv0 with e1 e2 e3;have hnn:=hNs.nn;obtain ⟨kn,hkn⟩:∃kn,nO=kn+1:=⟨C.length,hnn⟩
     subst e1 e2 e3 hkn;have hk5':k5=(kn:Int):=by rw[HK5.out];omega
     subst hk5';have HNS:=Ld hNs;have hll:l.L.length=l.n:=hNs.ll;have cR:wr.cell? ⟨gO,kn,none⟩=some (.slice l.A l.n l.c):=hNs.lastCell rfl;have hk0:(0:Int)≤(kn:Int):=by omega
     have hk1:(kn:Int)<((kn:Int)+1):=by omega
     have hd1:decide ((0:Int)≤(kn:Int))=true:=decide_eq_true (by omega);have hfe:oc L j y=decide (l.L.length<600∧(l.L.map ib).sum+ib y≤8190):=by unfold oc;rw[hsp]
     clear hNs hsp hnn
     by_cases hrow:l.n<600
     ·have hd3:decide ((l.n:Int)<600)=true:=decide_eq_true (by omega);obtain⟨pl,hpl⟩:=nM ((bR (l.L++[y])).length)
      have hmem:∀z∈l.L++[y],z∈L:=fun z hz=>by
       rcases List.mem_append.1 hz with hz|hz
       ·exact hlm z hz
       ·rw[List.mem_singleton.1 hz];exact HME.out
      have HEL:Hid (∀z∈l.L++[y],z.In (fun b=>b<w.heap.size) wr):=Ld (fun z hz=>(H.out.el z (hmem z hz)).new HI.out.1);have HSZ:Hid (∀z∈l.L++[y],vO z):=Ld (fun z hz=>HY.out z (hmem z hz))
      have hpl2:pl=2+((l.L.map ib).sum+ib y):=by
       rw[hpl,Ab (fun z hz=>HLO.out z (hmem z hz)) (fun z hz=>(HSZ.out z hz).1)];simp
      have hdm:decide ((pl:Int)≤8192)=oc L j y:=by
       rw[hfe]
       by_cases hh:(l.L.map ib).sum+ib y≤8190
       ·rw[decide_eq_true (by omega),decide_eq_true ⟨by omega,hh⟩]
       ·rw[decide_eq_false (by omega),decide_eq_false (fun h=>hh h.2)]
      have HPL:Hid ((bR (l.L++[y])).length=pl):=Ld hpl.symm;have HLL:Hid (l.L.length=l.n):=Ld hll;have hS0:(fun w'=>aa wr w') wr.drew:=aa.dr (aa.refl wr);clear hpl hpl2 hfe hmem hlm hll;refine cD (fun w'=>aa wr w') (.take 0 (.take 1 (.take 2 (.take 3 (.take 4 (.take 5 (.take 6 (.take 7 (.take 8 (.take 9 (.take 10 (.take 12 (.take 13 (.take 14 (.take 15 (.take 17 (.take 18 (.take 19 (.take 20 (.two 11 (.two 16 (.act 21 (.act 22 (.act 23 (.take 24 (.take 25 (.take 26 .done)))))) 21 (.act 16 (.act 22 (.act 23 (.take 24 (.take 25 (.take 26 .done))))))) 21 (.act 11 (.act 16 (.act 22 (.act 23 (.take 24 (.take 25 (.take 26 .done))))))))))))))))))))))))))) (by kernel_rfl) (by kernel_rfl) hS0 (fun hne=>?_);have q0:∀p:HW (fun w'=>aa wr w'),p.w.cell? ⟨gA,o+j*3,none⟩=some (.slice y.k.A y.k.n y.k.c):=fun p=>p.h.cell_ c0
      have q1:∀p:HW (fun w'=>aa wr w'),p.w.cell? ⟨gA,o+j*3+1,none⟩=some (.slice y.v.A y.v.n y.v.c):=fun p=>p.h.cell_ c1
      have q2:∀p:HW (fun w'=>aa wr w'),p.w.cell? ⟨gA,o+j*3+2,none⟩=some (.bool y.d):=fun p=>p.h.cell_ c2
      have qR:∀p:HW (fun w'=>aa wr w'),p.w.cell? ⟨gO,kn,none⟩=some (.slice l.A l.n l.c):=fun p=>p.h.cell_ cR
      iterate 19 (refine aB (o:=.mk ..) rfl (fun K hK=>?_);go_simp;refine hK _ ?_;clear hK K)
      clear q0 q1 q2 qR cR c0 c1 c2 hS0;refine⟨?_,?_⟩
      ·refine dX (o:=.mk ..) rfl (fun K hK=>?_) (.inl (by rfl));refine ub mv (by rfl) (by rfl) ?_;intro g1 wp1 hB hN hz;simp only[Act.put,bK,bM,bO,Nat.zero_add];have HNwp1:Hid (aa wr wp1):=Ld (aa.tr (aa.dr (aa.refl _)) hN);have HO11wp1:Hid (wp1.ownsRow wr.heap.size 153 3 (.slice (some ⟨g1,0,none⟩) 0 0) 0 []):=Ld (eA hB (by have:=(aa.refl wr).size;exact Nat.le_trans this hz));have HZ11:Hid (g1<wp1.heap.size):=Ld hB.lt;refine hK.out _ _ HNwp1.out ?_;clear hK K hB hN hz;refine⟨?_,?_⟩
       ·as_aux_lemma=>
         refine dX (o:=.mk ..) rfl (fun K hK=>?_) (.inl (by rfl));refine gE mv _ (by rfl) (.tmp 26) (.tmp 30) (by rfl) wr.heap.size (.slice (some ⟨g1,0,none⟩) 0 0) 0 [] (by rfl) HO11wp1.out l.A l.n l.c (l.L.flatMap Ch.cells) (by rfl) (HNwp1.out.rd (Rd.own HNS.out.last rfl)) (kT l.L) (by unfold maxLen;omega) (by omega) HNwp1.out.size ?_;intro A1 d1 wp2 hO hF hA;simp only[Act.put,bK,bM,bO,Nat.zero_add];rw[Nat.zero_add,List.nil_append]at hO;have HNwp2:Hid (aa wr wp2):=Ld (HNwp1.out.fr hF (fun k hk=>(ak HO11wp1.out k hk).1));have HO16wp2:=Ld hO;refine hK.out _ _ HNwp2.out ?_;clear hK K hO hF hA;refine aE (o:=.mk ..) rfl (fun K hK=>?_) (.inl (by rfl));refine jU mv (by decide) (by rfl) (.tmp 35) rfl #[.slice y.k.A y.k.n y.k.c,.slice y.v.A y.v.n y.v.c,.bool y.d] (by rfl) rfl ?_;intro g2 wp3 hB hN hz;simp only[Act.put,bK,bM,bO,Nat.zero_add];have HNwp3:Hid (aa wr wp3):=Ld (HNwp2.out.tr hN);have HB21wp3:=Ld hB;have HO16wp3:=Ld (hN.own HO16wp2.out);refine hK.out _ _ HNwp3.out ?_;clear hK K hB hN hz;refine aE (o:=.mk ..) rfl (fun K hK=>?_) (.inl (by rfl));refine gE mv _ (by rfl) (.tmp 31) (.tmp 36) (by rfl) wr.heap.size (.slice A1 l.n d1) l.n (l.L.flatMap Ch.cells) (by rfl) HO16wp3.out (some ⟨g2,0,none⟩) 1 1 y.cells (by rfl) (Rd.ofBlk (p:=fun _=>True) (t:=153) (cs:= #[.slice y.k.A y.k.n y.k.c,.slice y.v.A y.v.n y.v.c,.bool y.d]) HB21wp3.out 3 1 rfl trivial) (ch y) (by unfold maxLen;omega) (by omega) HNwp3.out.size ?_;intro A2 d2 wp4 hO hF hA;simp only[Act.put,bK,bM,bO,Nat.zero_add];have HNwp4:Hid (aa wr wp4):=Ld (HNwp3.out.fr hF (fun k hk=>(ak HO16wp3.out k hk).1));have HO22wp4:=Ld hO;refine hK.out _ _ HNwp4.out ?_;clear hK K hO hF hA;refine aE (o:=.mk ..) rfl (fun K hK=>?_) (.inl (by rfl));go_simp;refine(lQ A2 (l.n+1) d2 (l.L++[y]) wp4 ⟨dw (Rd.own (by rw[List.flatMap_append];simpa using HO22wp4.out) rfl),by simp;exact HLL.out,fun z hz=>Ch.In.szs ((HEL.out z hz).new HNwp4.out)⟩ (by omega) (fun z hz=>⟨(HSZ.out z hz).2.1,(HSZ.out z hz).2.2⟩)).mono ?_;rintro e wp5 ⟨⟨A3,d3,rfl,hO⟩,hN⟩;dsimp only;rw[HPL.out];have HNwp5:Hid (aa wr wp5):=Ld (HNwp4.out.tr hN);refine hK.out _ _ HNwp5.out ?_;clear hK K hO hN
         iterate 3 (refine aB (o:=.mk ..) rfl (fun K hK=>?_);go_simp;refine hK _ ?_;clear hK K)
         clear hne;refine bq ?_;exact HK'.out _ _ ⟨_,_,_,_,_,_,_,_,_,_,_,_,_,_,_,_,_,_,_,_,_,_,_,_,_,_,rfl,HNwp5⟩
       ·as_aux_lemma=>
         refine dX (o:=.mk ..) rfl (fun K hK=>?_) (.inl (by rfl));refine jU mv (by decide) (by rfl) (.tmp 35) rfl #[.slice y.k.A y.k.n y.k.c,.slice y.v.A y.v.n y.v.c,.bool y.d] (by rfl) rfl ?_;intro g2 wp2 hB hN hz;simp only[Act.put,bK,bM,bO,Nat.zero_add];have HNwp2:Hid (aa wr wp2):=Ld (HNwp1.out.tr hN);have HB21wp2:=Ld hB;have HO11wp2:=Ld (hN.own HO11wp1.out);have HNE:Hid (g2≠g1):=Ld (by have:=HZ11.out;omega);refine hK.out _ _ HNwp2.out ?_;clear hK K hB hN hz;refine aE (o:=.mk ..) rfl (fun K hK=>?_) (.inl (by rfl));refine gE mv _ (by rfl) (.tmp 26) (.tmp 30) (by rfl) wr.heap.size (.slice (some ⟨g1,0,none⟩) 0 0) 0 [] (by rfl) HO11wp2.out l.A l.n l.c (l.L.flatMap Ch.cells) (by rfl) (HNwp2.out.rd (Rd.own HNS.out.last rfl)) (kT l.L) (by unfold maxLen;omega) (by omega) HNwp2.out.size ?_;intro A1 d1 wp3 hO hF hA;simp only[Act.put,bK,bM,bO,Nat.zero_add];rw[Nat.zero_add,List.nil_append]at hO;have HNwp3:Hid (aa wr wp3):=Ld (HNwp2.out.fr hF (fun k hk=>(ak HO11wp2.out k hk).1));have HO16wp3:=Ld hO;have HB21wp3:=Ld (HB21wp2.out.fr hF (fun e=>HNE.out ((show g1=g2 from by simpa[Value.ownBlock]using e).symm)));refine hK.out _ _ HNwp3.out ?_;clear hK K hO hF hA;refine aE (o:=.mk ..) rfl (fun K hK=>?_) (.inl (by rfl));refine gE mv _ (by rfl) (.tmp 31) (.tmp 36) (by rfl) wr.heap.size (.slice A1 l.n d1) l.n (l.L.flatMap Ch.cells) (by rfl) HO16wp3.out (some ⟨g2,0,none⟩) 1 1 y.cells (by rfl) (Rd.ofBlk (p:=fun _=>True) (t:=153) (cs:= #[.slice y.k.A y.k.n y.k.c,.slice y.v.A y.v.n y.v.c,.bool y.d]) HB21wp3.out 3 1 rfl trivial) (ch y) (by unfold maxLen;omega) (by omega) HNwp3.out.size ?_;intro A2 d2 wp4 hO hF hA;simp only[Act.put,bK,bM,bO,Nat.zero_add];have HNwp4:Hid (aa wr wp4):=Ld (HNwp3.out.fr hF (fun k hk=>(ak HO16wp3.out k hk).1));have HO22wp4:=Ld hO;refine hK.out _ _ HNwp4.out ?_;clear hK K hO hF hA;refine aE (o:=.mk ..) rfl (fun K hK=>?_) (.inl (by rfl));go_simp;refine(lQ A2 (l.n+1) d2 (l.L++[y]) wp4 ⟨dw (Rd.own (by rw[List.flatMap_append];simpa using HO22wp4.out) rfl),by simp;exact HLL.out,fun z hz=>Ch.In.szs ((HEL.out z hz).new HNwp4.out)⟩ (by omega) (fun z hz=>⟨(HSZ.out z hz).2.1,(HSZ.out z hz).2.2⟩)).mono ?_;rintro e wp5 ⟨⟨A3,d3,rfl,hO⟩,hN⟩;dsimp only;rw[HPL.out];have HNwp5:Hid (aa wr wp5):=Ld (HNwp4.out.tr hN);refine hK.out _ _ HNwp5.out ?_;clear hK K hO hN
         iterate 3 (refine aB (o:=.mk ..) rfl (fun K hK=>?_);go_simp;refine hK _ ?_;clear hK K)
         clear hne;refine bq ?_;exact HK'.out _ _ ⟨_,_,_,_,_,_,_,_,_,_,_,_,_,_,_,_,_,_,_,_,_,_,_,_,_,_,rfl,HNwp5⟩
      ·as_aux_lemma=>
        refine dX (o:=.mk ..) rfl (fun K hK=>?_) (.inl (by rfl));refine jU mv (by decide) (by rfl) (.tmp 35) rfl #[.slice y.k.A y.k.n y.k.c,.slice y.v.A y.v.n y.v.c,.bool y.d] (by rfl) rfl ?_;intro g2 wp1 hB hN hz;simp only[Act.put,bK,bM,bO,Nat.zero_add];have HNwp1:Hid (aa wr wp1):=Ld (aa.tr (aa.dr (aa.refl _)) hN);have HB21wp1:=Ld hB;refine hK.out _ _ HNwp1.out ?_;clear hK K hB hN hz;refine aE (o:=.mk ..) rfl (fun K hK=>?_) (.inl (by rfl));refine ub mv (by rfl) (by rfl) ?_;intro g1 wp2 hB hN hz;simp only[Act.put,bK,bM,bO,Nat.zero_add];have HNwp2:Hid (aa wr wp2):=Ld (HNwp1.out.tr hN);have HO11wp2:Hid (wp2.ownsRow wr.heap.size 153 3 (.slice (some ⟨g1,0,none⟩) 0 0) 0 []):=Ld (eA hB (by have:=HNwp1.out.size;exact Nat.le_trans this hz));have HZ11:Hid (g1<wp2.heap.size):=Ld hB.lt;have HB21wp2:=Ld (hN.blk HB21wp1.out);have HNE:Hid (g2≠g1):=Ld (by have:=HB21wp1.out.lt;omega);refine hK.out _ _ HNwp2.out ?_;clear hK K hB hN hz;refine aE (o:=.mk ..) rfl (fun K hK=>?_) (.inl (by rfl));refine gE mv _ (by rfl) (.tmp 26) (.tmp 30) (by rfl) wr.heap.size (.slice (some ⟨g1,0,none⟩) 0 0) 0 [] (by rfl) HO11wp2.out l.A l.n l.c (l.L.flatMap Ch.cells) (by rfl) (HNwp2.out.rd (Rd.own HNS.out.last rfl)) (kT l.L) (by unfold maxLen;omega) (by omega) HNwp2.out.size ?_;intro A1 d1 wp3 hO hF hA;simp only[Act.put,bK,bM,bO,Nat.zero_add];rw[Nat.zero_add,List.nil_append]at hO;have HNwp3:Hid (aa wr wp3):=Ld (HNwp2.out.fr hF (fun k hk=>(ak HO11wp2.out k hk).1));have HO16wp3:=Ld hO;have HB21wp3:=Ld (HB21wp2.out.fr hF (fun e=>HNE.out ((show g1=g2 from by simpa[Value.ownBlock]using e).symm)));refine hK.out _ _ HNwp3.out ?_;clear hK K hO hF hA;refine aE (o:=.mk ..) rfl (fun K hK=>?_) (.inl (by rfl));refine gE mv _ (by rfl) (.tmp 31) (.tmp 36) (by rfl) wr.heap.size (.slice A1 l.n d1) l.n (l.L.flatMap Ch.cells) (by rfl) HO16wp3.out (some ⟨g2,0,none⟩) 1 1 y.cells (by rfl) (Rd.ofBlk (p:=fun _=>True) (t:=153) (cs:= #[.slice y.k.A y.k.n y.k.c,.slice y.v.A y.v.n y.v.c,.bool y.d]) HB21wp3.out 3 1 rfl trivial) (ch y) (by unfold maxLen;omega) (by omega) HNwp3.out.size ?_;intro A2 d2 wp4 hO hF hA;simp only[Act.put,bK,bM,bO,Nat.zero_add];have HNwp4:Hid (aa wr wp4):=Ld (HNwp3.out.fr hF (fun k hk=>(ak HO16wp3.out k hk).1));have HO22wp4:=Ld hO;refine hK.out _ _ HNwp4.out ?_;clear hK K hO hF hA;refine aE (o:=.mk ..) rfl (fun K hK=>?_) (.inl (by rfl));go_simp;refine(lQ A2 (l.n+1) d2 (l.L++[y]) wp4 ⟨dw (Rd.own (by rw[List.flatMap_append];simpa using HO22wp4.out) rfl),by simp;exact HLL.out,fun z hz=>Ch.In.szs ((HEL.out z hz).new HNwp4.out)⟩ (by omega) (fun z hz=>⟨(HSZ.out z hz).2.1,(HSZ.out z hz).2.2⟩)).mono ?_;rintro e wp5 ⟨⟨A3,d3,rfl,hO⟩,hN⟩;dsimp only;rw[HPL.out];have HNwp5:Hid (aa wr wp5):=Ld (HNwp4.out.tr hN);refine hK.out _ _ HNwp5.out ?_;clear hK K hO hN
        iterate 3 (refine aB (o:=.mk ..) rfl (fun K hK=>?_);go_simp;refine hK _ ?_;clear hK K)
        clear hne;refine bq ?_;exact HK'.out _ _ ⟨_,_,_,_,_,_,_,_,_,_,_,_,_,_,_,_,_,_,_,_,_,_,_,_,_,_,rfl,HNwp5⟩
     ·have hd3:decide ((l.n:Int)<600)=false:=decide_eq_false (by omega);have hf:oc L j y=false:=by rw [hfe];exact decide_eq_false (fun h=>by omega)
      rw[hf]at HK';clear hfe hf;have hS0:(fun w'=>aa wr w') wr.drew:=aa.dr (aa.refl wr);refine cD (fun w'=>aa wr w') (.take 0 (.take 1 (.take 2 (.take 3 (.take 4 (.take 5 (.take 6 (.take 7 (.take 8 (.take 9 (.take 10 (.take 12 (.take 13 (.take 14 (.take 15 (.take 17 (.take 18 (.take 19 (.take 20 (.two 11 (.two 16 (.act 21 (.act 22 (.act 23 (.take 24 (.take 25 (.take 26 .done)))))) 21 (.act 16 (.act 22 (.act 23 (.take 24 (.take 25 (.take 26 .done))))))) 21 (.act 11 (.act 16 (.act 22 (.act 23 (.take 24 (.take 25 (.take 26 .done))))))))))))))))))))))))))) (by kernel_rfl) (by kernel_rfl) hS0 (fun hne=>?_);have qR:∀p:HW (fun w'=>aa wr w'),p.w.cell? ⟨gO,kn,none⟩=some (.slice l.A l.n l.c):=fun p=>p.h.cell_ cR
      iterate 19 (refine aB (o:=.mk ..) rfl (fun K hK=>?_);go_simp;refine hK _ ?_;clear hK K)
      refine⟨?_,?_⟩
      ·refine dX (o:=.mk ..) rfl (fun K hK=>?_) (.inr hS0);go_simp;refine hK.out _ _ hS0 ?_;clear hK K;refine⟨?_,?_⟩
       ·refine dX (o:=.mk ..) rfl (fun K hK=>?_) (.inr hS0);go_simp;refine hK.out _ _ hS0 ?_;clear hK K;refine aE (o:=.mk ..) rfl (fun K hK=>?_) (.inr hS0);go_simp;refine hK.out _ _ hS0 ?_;clear hK K;refine aE (o:=.mk ..) rfl (fun K hK=>?_) (.inr hS0);go_simp;refine hK.out _ _ hS0 ?_;clear hK K;refine aE (o:=.mk ..) rfl (fun K hK=>?_) (.inr hS0);go_simp;refine hK.out _ _ hS0 ?_;clear hK K
        iterate 3 (refine aB (o:=.mk ..) rfl (fun K hK=>?_);go_simp;refine hK _ ?_;clear hK K)
        clear hne;refine bq ?_;exact HK'.out _ _ ⟨_,_,_,_,_,_,_,_,_,_,_,_,_,_,_,_,_,_,_,_,_,_,_,_,_,_,rfl,Ld hS0⟩
       ·refine dX (o:=.mk ..) rfl (fun K hK=>?_) (.inr hS0);go_simp;refine hK.out _ _ hS0 ?_;clear hK K;refine aE (o:=.mk ..) rfl (fun K hK=>?_) (.inr hS0);go_simp;refine hK.out _ _ hS0 ?_;clear hK K;refine aE (o:=.mk ..) rfl (fun K hK=>?_) (.inr hS0);go_simp;refine hK.out _ _ hS0 ?_;clear hK K;refine aE (o:=.mk ..) rfl (fun K hK=>?_) (.inr hS0);go_simp;refine hK.out _ _ hS0 ?_;clear hK K
        iterate 3 (refine aB (o:=.mk ..) rfl (fun K hK=>?_);go_simp;refine hK _ ?_;clear hK K)
        clear hne;refine bq ?_;exact HK'.out _ _ ⟨_,_,_,_,_,_,_,_,_,_,_,_,_,_,_,_,_,_,_,_,_,_,_,_,_,_,rfl,Ld hS0⟩
      ·refine dX (o:=.mk ..) rfl (fun K hK=>?_) (.inr hS0);go_simp;refine hK.out _ _ hS0 ?_;clear hK K;refine aE (o:=.mk ..) rfl (fun K hK=>?_) (.inr hS0);go_simp;refine hK.out _ _ hS0 ?_;clear hK K;refine aE (o:=.mk ..) rfl (fun K hK=>?_) (.inr hS0);go_simp;refine hK.out _ _ hS0 ?_;clear hK K;refine aE (o:=.mk ..) rfl (fun K hK=>?_) (.inr hS0);go_simp;refine hK.out _ _ hS0 ?_;clear hK K;refine aE (o:=.mk ..) rfl (fun K hK=>?_) (.inr hS0);go_simp;refine hK.out _ _ hS0 ?_;clear hK K
       iterate 3 (refine aB (o:=.mk ..) rfl (fun K hK=>?_);go_simp;refine hK _ ?_;clear hK K)
       clear hne;refine bq ?_;exact HK'.out _ _ ⟨_,_,_,_,_,_,_,_,_,_,_,_,_,_,_,_,_,_,_,_,_,_,_,_,_,_,rfl,Ld hS0⟩
   case next=>
    rintro a w6 ⟨v15,v16,v17,v18,v19,v20,v21,v22,v23,v24,v25,v26,v27,v28,v29,v30,v31,v32,v33,v34,v35,v36,v37,v38,v39,v40,rfl,HN6⟩;dsimp only;have HNW:Hid (aa w w6):=Ld (HI.out.1.tr HN6.out);have e0:w6.cell? ⟨gA,o+j*3,none⟩=some (.slice y.k.A y.k.n y.k.c):=HN6.out.cell_ c0;have e1:w6.cell? ⟨gA,o+j*3+1,none⟩=some (.slice y.v.A y.v.n y.v.c):=HN6.out.cell_ c1;have e2:w6.cell? ⟨gA,o+j*3+2,none⟩=some (.bool y.d):=HN6.out.cell_ c2;have HGA:Hid (gA<w.heap.size):=Ld hgA;clear c0 c1 c2
    cases hf:oc L j y
    ·rcases HI.out.2 with ⟨hj00,hv0⟩ | ⟨gO,nO,cO,C,l,lo,hv0,hNs,hsp,hl6,hlm,hns⟩
     ·injection hv0 with e1' e2' e3';subst e1' e2' e3';have HJ0:=Ld hj00;clear hj00
      go_wp2_with (at_builtin;refine dH ⟨some 62,_,_,_,_,_⟩ ?_;refine dC ?_)
      refine⟨?_⟩;refine aq (o:=⟨some 62,_,_,_,_,_⟩) ED _ rfl (.tmp 55) (.tmp 61) rfl w.heap.size (.slice none 0 0) 0 [] rfl (World.ownsRow_nil _ _ _ _) _ 1 1 [.slice (some ⟨w6.heap.size,0,none⟩) 1 1] rfl (Rd.ofBlk (p:=fun _=>True) (t:=76) (cs:= #[.slice (some ⟨w6.heap.size,0,none⟩) 1 1]) (ab.new' _ _ _ (by simp)) 1 1 rfl trivial) (by intro u hu;obtain rfl:=List.mem_singleton.1 hu;rfl) (by unfold maxLen;omega) (by omega) (by have:=HNW.out.size;simp;omega) ?_;intro A8 d8 w8 hO8 hF8 hA8;have hBy:ab ((w6.alloc (.cells #[.slice y.k.A y.k.n y.k.c,.slice y.v.A y.v.n y.v.c,.bool y.d] 153)).alloc (.cells #[.slice (some ⟨w6.heap.size,0,none⟩) 1 1] 76)) w6.heap.size 153 #[.slice y.k.A y.k.n y.k.c,.slice y.v.A y.v.n y.v.c,.bool y.d]:=(ab.new w6 _ _).alloc _;have hN67:aa w6 ((w6.alloc (.cells #[.slice y.k.A y.k.n y.k.c,.slice y.v.A y.v.n y.v.c,.bool y.d] 153)).alloc (.cells #[.slice (some ⟨w6.heap.size,0,none⟩) 1 1] 76)):=aa.al (aa.al (aa.refl _) _) _;obtain⟨w7,hw7⟩:=nM ((w6.alloc (.cells #[.slice y.k.A y.k.n y.k.c,.slice y.v.A y.v.n y.v.c,.bool y.d] 153)).alloc (.cells #[.slice (some ⟨w6.heap.size,0,none⟩) 1 1] 76));rw[←hw7]at hF8 hA8 hBy hN67;clear hw7;obtain⟨g8,c8,hsl,-,-⟩:=dh hO8 (by omega);have hAe:A8=some ⟨g8,0,none⟩:=by injection hsl
      subst hAe;have hO1:=wK hBy rfl (Nat.le_refl w6.heap.size);have hN78:aa w7 w8:=aa.fr (aa.refl _) hF8 (fun k hk=>by cases hk);have hg8:w7.heap.size≤g8:=(hA8 g8 rfl).elim (fun e=>by cases e) id
      have hnst:iC 76 153 (fun _=>True) w.heap.size w6.heap.size w8 (some ⟨g8,0,none⟩) 1 d8 [] ⟨some ⟨w6.heap.size,0,none⟩,1,1,[y]⟩:=iC.first (by decide) (fun _ _=>trivial) (by simpa[Sl.cells]using hO8) (W0:=w7) (by simpa[Ch.cells]using hO1) HNW.out.size (Nat.le_trans hN67.size hN78.size) hN78 rfl (fun z hz=>by
       rw[List.mem_singleton.1 hz];refine((HIN.out.new ((HN6.out.tr hN67).tr hN78)).imp (fun k hk=>⟨trivial,fun e=>?_,fun e=>?_⟩))
       ·have e:g8=k:=by simpa [Value.ownBlock] using e
        have:=HNW.out.size;have:=hN67.size;omega
       ·have e:w6.heap.size=k:=by simpa [Value.ownBlock] using e
        have:=HNW.out.size;omega)
      have HI9:Hid (EX w L (j+1) (.slice (some ⟨g8,0,none⟩) 1 d8) w8):=Ld ⟨(HNW.out.tr hN67).tr hN78,.inr ⟨g8,1,d8,[],_,_,rfl,hnst,by
          rw[HST.out,HJ0.out]
          simp[lX,nD],by simp,fun z hz=>by rw[List.mem_singleton.1 hz];exact HME.out,by omega⟩⟩
      clear hnst hN78 hg8 hO1 hO8 hF8 hA8 hBy hN67
      go_wp2_with fail
      go_roundw
      case rel=>exact⟨j+1,by omega,by go_num,⟨_,_,_,rfl,by omega⟩,HI9⟩
      case measure=>simp[intOf];omega
     ·injection hv0 with e1' e2' e3';have hnn:=hNs.nn;obtain ⟨kn,hkn⟩:∃kn,nO=kn+1:=⟨C.length,hnn⟩
      subst e1' e2' e3' hkn;have hk5':k5=(kn:Int):=by rw[HK5.out];omega
      subst hk5';have hll:l.L.length=l.n:=hNs.ll
      have hfe:¬(l.L.length<600∧(l.L.map ib).sum+ib y≤8190):=by
       unfold oc at hf;rw[hsp]at hf
       simpa using hf
      have HFE:=Ld hfe;have HNS:Hid (iC 76 153 (fun _=>True) w.heap.size lo w6 (some ⟨gO,0,none⟩) (kn+1) cV C l):=Ld (hNs.new HN6.out);have HSP:=Ld hsp;clear hNs hsp hfe hnn hll hl6 hf hlm
      go_wp2_with (at_builtin;refine dH ⟨some 62,_,_,_,_,_⟩ ?_;refine dC ?_)
      refine⟨?_⟩;refine aq (o:=⟨some 62,_,_,_,_,_⟩) ED _ rfl (.tmp 55) (.tmp 61) rfl w.heap.size (.slice (some ⟨gO,0,none⟩) (kn+1) cV) (kn+1) ((C++[l]).flatMap Sl.cells) rfl (aa.own (aa.al (aa.al (aa.refl _) _) _) HNS.out.out) _ 1 1 [.slice (some ⟨w6.heap.size,0,none⟩) 1 1] rfl (Rd.ofBlk (p:=fun _=>True) (t:=76) (cs:= #[.slice (some ⟨w6.heap.size,0,none⟩) 1 1]) (ab.new' _ _ _ (by simp)) 1 1 rfl trivial) (by intro u hu;obtain rfl:=List.mem_singleton.1 hu;rfl) (by unfold maxLen;omega) (by omega) (by have:=HNW.out.size;simp;omega) ?_;intro A8 d8 w8 hO8 hF8 hA8;have hBy:ab ((w6.alloc (.cells #[.slice y.k.A y.k.n y.k.c,.slice y.v.A y.v.n y.v.c,.bool y.d] 153)).alloc (.cells #[.slice (some ⟨w6.heap.size,0,none⟩) 1 1] 76)) w6.heap.size 153 #[.slice y.k.A y.k.n y.k.c,.slice y.v.A y.v.n y.v.c,.bool y.d]:=(ab.new w6 _ _).alloc _;have hN67:aa w6 ((w6.alloc (.cells #[.slice y.k.A y.k.n y.k.c,.slice y.v.A y.v.n y.v.c,.bool y.d] 153)).alloc (.cells #[.slice (some ⟨w6.heap.size,0,none⟩) 1 1] 76)):=aa.al (aa.al (aa.refl _) _) _;obtain⟨w7,hw7⟩:=nM ((w6.alloc (.cells #[.slice y.k.A y.k.n y.k.c,.slice y.v.A y.v.n y.v.c,.bool y.d] 153)).alloc (.cells #[.slice (some ⟨w6.heap.size,0,none⟩) 1 1] 76));rw[←hw7]at hF8 hA8 hBy hN67;clear hw7;obtain⟨g8,c8,hsl,-,-⟩:=dh hO8 (by omega);have hAe:A8=some ⟨g8,0,none⟩:=by injection hsl
      subst hAe;have hO1:=wK hBy rfl (Nat.le_refl w6.heap.size);have hF68:Fr (fun k=>(Value.slice (some ⟨gO,0,none⟩) (kn+1) cV).ownBlock=some k) w6 w8:=(hN67.toFr _).trans hF8;have hgO:=(ak HNS.out.out gO rfl)
      have hg8 : g8 = gO ∨ w7.heap.size ≤ g8 := (hA8 g8 rfl).imp (fun e => by have : gO = g8 := by simpa [Value.ownBlock] using e
                                                                              exact this.symm) id
      have hO1':w8.ownsRow w6.heap.size 153 3 (.slice (some ⟨w6.heap.size,0,none⟩) 1 1) 1 ([y].flatMap Ch.cells):=by
       refine bD (by simpa[Ch.cells]using hO1) hF8 (fun k hk hs=>?_);have e1:w6.heap.size=k:=by simpa[Value.ownBlock]using hk
       have e2:gO=k:=by simpa[Value.ownBlock]using hs
       omega
      have hnst:iC 76 153 (fun _=>True) w.heap.size w6.heap.size w8 (some ⟨g8,0,none⟩) (kn+1+1) d8 (C++[l]) ⟨some ⟨w6.heap.size,0,none⟩,1,1,[y]⟩:=HNS.out.open_ (Nat.le_refl _) hF68.size (by simpa[Sl.cells]using hO8) hF68 (fun k hk=>(hA8 k hk).imp id (fun h=>Nat.le_trans hN67.size h)) hO1' rfl (fun z hz=>by
       rw[List.mem_singleton.1 hz];refine((((HIN.out.new HN6.out).imp (q:=fun k=>k<w.heap.size) (fun k hk=>hk)).frq hF68 (fun k hk hs=>?_)).imp (fun k hk=>⟨trivial,fun e=>?_,fun e=>?_⟩))
       ·have e2:gO=k:=by simpa [Value.ownBlock] using hs
        omega
       ·have e:g8=k:=by simpa [Value.ownBlock] using e
        have:=HNW.out.size;have:=hN67.size;omega
       ·have e:w6.heap.size=k:=by simpa [Value.ownBlock] using e
        have:=HNW.out.size;omega)
      have HI9 : Hid (EX w L (j + 1) (.slice (some ⟨g8, 0, none⟩) (kn + 1 + 1) d8) w8) := Ld ⟨HNW.out.fr hF68 (fun k hk => by
          have e2:gO=k:=by simpa[Value.ownBlock]using hk
          omega),.inr ⟨g8,kn+1+1,d8,C++[l],_,_,rfl,hnst,by
          rw[HST.out,jT,HSP.out];unfold nD;dsimp only;rw[if_neg HFE.out]
          simp,by simp,fun z hz=>by rw[List.mem_singleton.1 hz];exact HME.out,by omega⟩⟩
      clear hnst hg8 hO1 hO1' hO8 hF8 hA8 hBy hN67 hF68 hgO
      go_wp2_with fail
      go_roundw
      case rel=>exact⟨j+1,by omega,by go_num,⟨_,_,_,rfl,by omega⟩,HI9⟩
      case measure=>simp[intOf];omega
    ·rcases HI.out.2 with ⟨hj00,hv0⟩ | ⟨gO,nO,cO,C,l,lo,hv0,hNs,hsp,hl6,hlm,hns⟩
     ·subst hj00;simp[oc,lX]at hf
     ·injection hv0 with e1' e2' e3';have hnn:=hNs.nn;obtain ⟨kn,hkn⟩:∃kn,nO=kn+1:=⟨C.length,hnn⟩
      subst e1' e2' e3' hkn;have hk5':k5=(kn:Int):=by rw[HK5.out];omega
      subst hk5';have hll:l.L.length=l.n:=hNs.ll
      have hfe:l.L.length<600∧(l.L.map ib).sum+ib y≤8190:=by
       unfold oc at hf;rw[hsp]at hf
       simpa using hf
      have HFE:=Ld hfe;have HNS:Hid (iC 76 153 (fun _=>True) w.heap.size lo w6 (some ⟨gO,0,none⟩) (kn+1) cV C l):=Ld (hNs.new HN6.out);have HSP:=Ld hsp;have HLM:=Ld hlm;have cR:w6.cell? ⟨gO,kn,none⟩=some (.slice l.A l.n l.c):=HNS.out.lastCell rfl;have hk0:(0:Int)≤(kn:Int):=by omega
      have hk1:(kn:Int)<((kn:Int)+1):=by omega
      have hl60:l.n<600:=by omega
      have hS0:(uk gO kn gA (o+j*3) (.slice l.A l.n l.c) (.slice y.k.A y.k.n y.k.c) (.slice y.v.A y.v.n y.v.c) (.bool y.d)) w6.drew:=⟨cR,e0,e1,e2⟩
      have HS0:Hid ((uk gO kn gA (o+j*3) (.slice l.A l.n l.c) (.slice y.k.A y.k.n y.k.c) (.slice y.v.A y.v.n y.v.c) (.bool y.d)) w6):=Ld ⟨cR,e0,e1,e2⟩;clear hNs hsp hlm hfe hnn hll hl6 hf
      go_wp2_with fail
      refine fU (uk gO kn gA (o+j*3) (.slice l.A l.n l.c) (.slice y.k.A y.k.n y.k.c) (.slice y.v.A y.v.n y.v.c) (.bool y.d)) 13 [(true,0),(true,1),(true,2),(true,3),(true,4),(true,5),(true,6),(true,7),(true,8),(true,9),(false,10),(false,11),(true,12),(false,13)] (by kernel_rfl) (by kernel_rfl) hS0 (fun hne=>?_);have qr:∀p:HW (uk gO kn gA (o+j*3) (.slice l.A l.n l.c) (.slice y.k.A y.k.n y.k.c) (.slice y.v.A y.v.n y.v.c) (.bool y.d)),p.w.cell? ⟨gO,kn,none⟩=some (.slice l.A l.n l.c):=fun p=>p.h.1
      have qa:∀p:HW (uk gO kn gA (o+j*3) (.slice l.A l.n l.c) (.slice y.k.A y.k.n y.k.c) (.slice y.v.A y.v.n y.v.c) (.bool y.d)),p.w.cell? ⟨gA,o+j*3,none⟩=some _:=fun p=>p.h.2.1
      have qb:∀p:HW (uk gO kn gA (o+j*3) (.slice l.A l.n l.c) (.slice y.k.A y.k.n y.k.c) (.slice y.v.A y.v.n y.v.c) (.bool y.d)),p.w.cell? ⟨gA,o+j*3+1,none⟩=some _:=fun p=>p.h.2.2.1
      have qc:∀p:HW (uk gO kn gA (o+j*3) (.slice l.A l.n l.c) (.slice y.k.A y.k.n y.k.c) (.slice y.v.A y.v.n y.v.c) (.bool y.d)),p.w.cell? ⟨gA,o+j*3+2,none⟩=some _:=fun p=>p.h.2.2.2
      iterate 10 (refine ae (o:=.mk ..) rfl (fun K hK=>?_);go_simp;refine hK _ ?_;clear hK K)
      clear e0 e1 e2;refine aj (o:=.mk ..) rfl (fun K hK=>?_) (.inl rfl);refine jU mv (by decide) (by rfl) (.tmp 51) rfl #[.slice y.k.A y.k.n y.k.c,.slice y.v.A y.v.n y.v.c,.bool y.d] (by rfl) rfl ?_;intro gb w7 hB7 hN7 hl7;simp only[Act.put,bK,bM,bO];have HN7:Hid (aa w6 w7):=Ld (aa.tr (aa.dr (aa.refl _)) hN7);have HB7:=Ld hB7;refine hK.out _ _ (fun _=>⟨HN7.out.cell_ HS0.out.1,HN7.out.cell_ HS0.out.2.1,HN7.out.cell_ HS0.out.2.2.1,HN7.out.cell_ HS0.out.2.2.2⟩) ?_;clear hK K hB7 hN7 hl7;refine aj (o:=.mk ..) rfl (fun K hK=>?_) (.inl rfl);refine cq mv _ (by rfl) (.tmp 47) (.tmp 52) (by rfl) lo (.slice l.A l.n l.c) l.n (l.L.flatMap Ch.cells) (by rfl) (HN7.out.own HNS.out.last) (some ⟨gb,0,none⟩) 1 1 y.cells (by rfl) (Rd.ofBlk (p:=fun _=>True) (t:=153) (cs:= #[.slice y.k.A y.k.n y.k.c,.slice y.v.A y.v.n y.v.c,.bool y.d]) HB7.out 3 1 rfl trivial) (ch y) (by unfold maxLen;omega) (by omega) (Nat.le_trans HNS.out.los HN7.out.size) ?_;intro A' c' w8 hO8 hF8 hA8;simp only[Act.put,bK,bM,bO];have HO8:=Ld hO8;have HF8:Hid (Fr (fun k=>(Value.slice l.A l.n l.c).ownBlock=some k) w6 w8):=Ld ((HN7.out.toFr _).trans hF8);have HA8:Hid (∀k,(Value.slice A' (l.n+1) c').ownBlock=some k→(Value.slice l.A l.n l.c).ownBlock=some k∨w6.heap.size≤k):=Ld (fun k hk=>(hA8 k hk).imp id (fun h=>Nat.le_trans HN7.out.size h));have hng:¬(Value.slice l.A l.n l.c).ownBlock=some gO:=gQ HNS.out.out HNS.out.last HNS.out.ne rfl;have hna:¬(Value.slice l.A l.n l.c).ownBlock=some gA:=fun e=>by have:=(ak HNS.out.last gA e).1;have:=HNS.out.blo;have:=HGA.out;omega
      have c8:w8.cell? ⟨gO,kn,none⟩=some (.slice l.A l.n l.c):=HF8.out.cell_some HS0.out.1 hng;refine hK.out _ _ (fun _=>⟨c8,HF8.out.cell_some HS0.out.2.1 hna,HF8.out.cell_some HS0.out.2.2.1 hna,HF8.out.cell_some HS0.out.2.2.2 hna⟩) ?_;clear hK K hO8 hF8 hA8;refine ae (o:=.mk ..) rfl (fun K hK=>?_);go_simp;refine hK _ ?_;clear hK K;refine aj (o:=.mk ..) rfl (fun K hK=>?_) (.inl rfl)
      have f8:w8.frozen? ⟨gO,kn,none⟩=false:=by
       rw[HF8.out.frozen (p:=⟨gO,kn,none⟩) ((ak HNS.out.out gO rfl).2) hng];exact HNS.out.lastFrozen kn
      clear qr qa qb qc;go_simp;refine hK.out _ _ (fun h=>absurd rfl h) ?_;clear hK K hne;refine ao ?_;have hnst:=HNS.out.push HO8.out HF8.out HA8.out (y:=y) (((HIN.out.new HN6.out).lts).imp (fun k hk=>⟨trivial,fun e=>by have:=(ak HNS.out.out gO rfl).1;omega,fun e=>by have:=(ak HNS.out.last k e).1;have:=HNS.out.blo;omega⟩)) (i:=kn) rfl;have hF9:Fr (fun k=>k=gO) w8 (w8.setCell ⟨gO,kn,none⟩ (.slice A' (l.n+1) c')):=(Fr.refl (fun k=>k=gO) w8).setCell (p:=⟨gO,kn,none⟩) (fun _=>rfl) _
      have HI9:Hid (EX w L (j+1) (.slice (some ⟨gO,0,none⟩) (kn+1) cV) (w8.setCell ⟨gO,kn,none⟩ (.slice A' (l.n+1) c'))):=Ld ⟨(HNW.out.fr HF8.out (fun k hk=>Nat.le_trans HNS.out.blo (ak HNS.out.last k hk).1)).fr hF9 (fun k hk=>by rw[hk];exact(ak HNS.out.out gO rfl).1),.inr ⟨gO,kn+1,cV,C,_,lo,rfl,hnst,by
          rw[HST.out,jT,HSP.out];unfold nD;dsimp only;rw[if_pos HFE.out],by have:=HFE.out.1;simp;omega,fun z hz=>by
          rcases List.mem_append.1 hz with hz|hz
          ·exact HLM.out z hz
          ·rw[List.mem_singleton.1 hz];exact HME.out,by omega⟩⟩
      clear hnst hF9 c8 f8 hng hna hS0
      go_wp2_with fail
      go_roundw
      case rel=>exact⟨j+1,by omega,by go_num,⟨_,_,_,rfl,by omega⟩,HI9⟩
      case measure=>simp[intOf];omega
  ·go_wp2_with fail
   go_ret;have hjn:j=n:=by omega
   obtain⟨A',n',c',R,hs,hbt,hR⟩:∃(A':Option Addr) (n' c':Nat) (R:List Sl),Value.slice aV nV cV=.slice A' n' c'∧(yK wr A' n' R∧iG w.heap.size wr A' n' R)∧R.map Sl.L=iV (lX ib L):=by
    have ht:L.take j=L:=List.take_of_length_le (by omega);rcases HI.out.2 with⟨hj00,hv0⟩|⟨gO,nO,cO,C,l,lo,hv0,hNs,hsp,hl6,hlm,hns⟩
    ·refine⟨none,0,0,[],hv0,⟨yK.nil wr,iG.nil _ wr⟩,?_⟩;have:L=[]:=List.eq_nil_of_length_eq_zero (by omega);rw[this];rfl
    ·refine⟨_,_,_,_,hv0,⟨hNs.bts,hNs.btsL⟩,?_⟩;rw[←ht,hsp];simp[iV]
   injection hs with h1 h2 h3;subst h1 h2 h3;exact⟨⟨_,_,_,_,rfl,hbt,hR⟩,HI.out.1⟩
attribute [local go_sem] Oper.semAt_some
def Da(b5:Nat)(b:World)(s:List (List Int×Fm))(W:World):Prop:=Fr (fun j=>b5≤j) b W∧ab W b5 3 #[.int .i64 s.length]
theorem Da.new{b5:Nat}{d:World}{s:List (List Int×Fm)}{W b:World}(h:Da b5 d s W)(c:aa W b):Da b5 d s b:=⟨h.1.trans (c.toFr _),c.blk h.2⟩
theorem Da.puts{b5 B:Nat}{d:World}{s:List (List Int×Fm)}{W b:World}(h:Da b5 d s W)(g:b5≤B)(c:et B W b):Da b5 d s b:=⟨h.1.trans (c.fr (fun j f=>Nat.le_trans g f)),c.blk h.2⟩
theorem Ey{L:List Ch}{E:fi}(h:cl L=aZ (cY E)){k:Nat}{e:List Int×Fm}(l:(st E)[k]?=some e):∃f:k<L.length,L[k].k.xs=e.1∧L[k].v.xs=e.2.xs:=by
 have h2:(cY (st E))[k]?=some (e.1,e.2.xs):=by
  unfold cY;rw[List.getElem?_map,l];rfl
 rw[vX,←h]at h2;unfold cl at h2;rw[List.getElem?_map]at h2;obtain⟨c,j,d⟩:=Option.map_eq_some_iff.1 h2;obtain⟨f,b⟩:=List.getElem?_eq_some_iff.1 j;injection d with g i;exact⟨f,by rw[b,g],by rw[b,i]⟩
theorem DB{X:Nat→Prop}{w:World}{base g b m:Nat}{E:fi}(h:dl X w base g b m E)(hm:m≤1000000)(hE:E.length≤1000000)(A:Option Addr)(n c:Nat)(L:List Ch)(hL:px w A n L)(hl:∀c∈L,c.k.n≤16∧c.v.n≤16384)(T:cl L=aZ (cY E)):
    Calls prog 84 #[.pointer (some ⟨g,0,none⟩),.slice A n c] w fun e w'=>e=.returned (.bool true)∧aa w w':=by
 have H:=Ld h;have HL:=Ld hL;have HS:=Ld hl;have HC:=Ld T
 have hn:n=E.length:=by
  have:=congrArg List.length T;unfold cl at this;rw[List.length_map,(ei _).length_eq,eH]at this;rw[←hL.len,this]
 have HN:=Ld hn
 have hX:∀j,X j→j<w.heap.size:=fun j hj=>by
  obtain⟨_,cs,fz,hx⟩:=h.xs j hj;exact(Array.getElem?_eq_some_iff.1 hx).1
 have HX:=Ld hX;have i7:n≤1000000:=by omega
 clear h hL hl T hX hn;refine(callsIn_wide (n:=3)).1 ?_;refine callsIn_of_wp_marks func84 rfl trivial ?_ rfl;refine wpIn_wide.2 ?_;simp only[ntmps84,List.size_toArray,List.length_cons,List.length_nil,Nat.reduceAdd,Nat.reduceSub,Array.replicate_succ,Array.replicate_zero,List.push_toArray,List.append_toArray,List.nil_append,List.cons_append]
 go_upto_region 2 with fail
 obtain⟨V,t⟩:=nM (((w.alloc (.cells #[.slice A n c] 77)).alloc (.cells #[.bool false] 4)).alloc (.cells #[.int .i64 0] 3):World);obtain⟨b3,N⟩:=nM (w.heap.size);obtain⟨b4,O⟩:=nM (w.heap.size+1);obtain⟨b5,b1⟩:=nM (w.heap.size+1+1);have G:Hid (aa w V):=Ld (by rw[t];exact aa.al (aa.al (aa.al (aa.refl _) _) _) _);have c':Hid (ab V b3 77 #[.slice A n c]):=Ld (by rw[t,N];exact((ab.new _ _ _).alloc _).alloc _);have g5:Hid (ab V b4 4 #[.bool false]):=Ld (by rw[t,O];exact(ab.new' _ _ _ (by simp)).alloc _);have c0:Hid (ab V b5 3 #[.int .i64 0]):=Ld (by rw[t,b1];exact ab.new' _ _ _ (by simp));have Y:Hid (b3=w.heap.size∧b4=w.heap.size+1∧b5=w.heap.size+2):=Ld ⟨N,O,by omega⟩;rw[←t,←b1,←O,←N];clear t N O b1
 go_wp2_with fail
 refine(qZ (some ⟨g,0,none⟩) V).mono ?_;rintro e w2 ⟨rfl,b9⟩;have d:Hid (aa V w2):=Ld (by rw[b9];exact aa.al (aa.refl _) _);have hg:=H.out.blk.lt;have hb:=H.out.blt;have g9:=c0.out.lt;have i2:=Y.out
 have g8:=Ld (mo (H.out.new (G.out.tr d.out)) hm hE (fun j=>j=b5) V.heap.size (by rw[b9];exact ab.new V _ _) (fun j hj=>by
  subst hj;have:=d.out.size
  exact⟨by omega,by omega,by omega,fun hx=>by have:=HX.out _ hx;omega,by omega⟩))
 have S:Hid (ab w2 b5 3 #[.int .i64 0]):=Ld (d.out.blk c0.out);have c1:Hid (b5<w2.heap.size):=Ld (S.out.lt);clear b9 hg hb g9 i2
 go_wp2_with fail
 refine kC rfl (enters_of func114 (by kernel_rfl) rfl) (fun x:List Int×Fm=> #[.string (strOfNums x.1),x.2.val]) (fun _=>rfl) g8.out (fun x W J hg hp=>hg.puts hp) (fun h k=>h.tr k) (fun W J hp=>Kk.puts hp)
  (Da b5 w2) (fun s A B h hN=>h.new hN) (fun s A B h hp=>h.puts (Nat.le_of_lt c1.out) hp) ⟨Fr.refl _ _,S.out⟩ ?a1 ?assign ?body ?done
 case assign=>
  intro l x W K hK
  gi_wp2
  exact hK
 case body=>
  rintro l pre x W i0 ⟨hF,u⟩ hG ⟨e0,c7,g3,g4,i1⟩;obtain⟨c9,P,R⟩:=Ey HC.out c7;rw[←g3]at P;rw[←g4]at R;have r:Hid (aa w W):=Ld ((G.out.tr d.out).fr hF (fun k hk=>by have:=Y.out;omega));have i:ab W b3 77 #[.slice A n c]:=(d.out.blk c'.out).fr hF (by have:=Y.out;omega);have c5:W.cell? ⟨b5,0,none⟩=some (.int .i64 (pre.length:Nat)):=u.cell 0;have f5:W.frozen? ⟨b5,0,none⟩=false:=u.frozen 0;have c3:W.cell? ⟨b3,0,none⟩=some (.slice A n c):=i.cell 0;have b0:=HL.out.new r.out;have d':pre.length<n:=by rw[←HL.out.len];exact c9
  obtain⟨gA,oA,hl,hA,-,-,b8⟩:=iD (f:=Ch.cells) (L:=L) (fun _=>rfl) (by omega) b0.rd d';have v0:W.cell? ⟨gA,oA+pre.length*3,none⟩=some (.slice L[pre.length].k.A L[pre.length].k.n L[pre.length].k.c):=b8 0 _ rfl;have v1:W.cell? ⟨gA,oA+pre.length*3+1,none⟩=some (.slice L[pre.length].v.A L[pre.length].v.n L[pre.length].v.c):=b8 1 _ rfl;have F:=b0.el L[pre.length] (List.getElem_mem _);generalize L[pre.length]=y at P R v0 v1 F;obtain⟨⟨kA,kn,kc,ks⟩,⟨vA,vn,vc,vs⟩,dd⟩:=y;dsimp only at P R v0 v1;subst P R;obtain⟨k,hk⟩:=nM (pre.length);rw[←hk]at c5 v0 v1 d';have HB:=Ld u;have HF:=Ld hF;have HK:=Ld hk;have C:=eh (c:=kc) F.k.rd;dsimp only at C;obtain⟨xk,xA,xn,xc,xs⟩:=x;dsimp only at C hG F v0 v1;have b7:=xr xA vA xn vn xc vc xs xs W (Rd.own hG.1 rfl) F.v.rd hG.2.1 hG.2.1;have f':decide (xs=xs)=true:=by simp
  rw[f']at b7;have g6:=Ld b7;simp only[Fm.val];generalize strOfNums xk=sk at C⊢;have i6:(0:Int)≤(k:Int):=by omega
  have i':(k:Int)<(n:Int):=by omega
  have i4:decide ((n:Int)≤(k:Int))=false:=decide_eq_false (by omega);have i5:decide (n≤k)=false:=decide_eq_false (by omega);clear b7 u hF hG g3 g4 i1 c7 hk F b8 b0 hl i f' c9 i0;subst hA
  gi_wp2
  refine⟨trivial,?_⟩;refine(CallsIn.inRound l (callsIn_wide.2 g6.out)).mono ?_;rintro e W4 ⟨rfl,rfl⟩
  gi_wp2
  have b':Fr (fun j=>j=b5) W (W.setCell ⟨b5,0,none⟩ (.int .i64 (k+1))):=(Fr.refl (fun j=>j=b5) W).setCell (p:=⟨b5,0,none⟩) (fun _=>rfl) _;refine⟨ic.fr b' (fun k o u hs=>by have:=c1.out;omega),Kk.fr b',HF.out.trans (b'.mono (fun k _ hs=>by omega)),?_⟩;have hs:=HB.out.set 0 (.int .i64 (k+1));rw[List.length_append,List.length_singleton,←HK.out]
  simpa using hs
 case done=>
  rintro D fs W hD c8 ⟨hF,u⟩ c6;have r:Hid (aa w W):=Ld ((G.out.tr d.out).fr hF (fun k hk=>by have:=Y.out;omega));have g7:=Ld c6
  have U:fs.length=n:=by
   have:=congrArg List.length c8;rw[List.length_map,eH,sq]at this;rw[this,HN.out]
  rw[U]at u;have i:ab W b3 77 #[.slice A n c]:=(d.out.blk c'.out).fr hF (by have:=Y.out;omega);have q:Hid (ab W b4 4 #[.bool false]):=Ld ((d.out.blk g5.out).fr hF (by have:=Y.out;omega));have k5:=cell_regrown (show W.cell? ⟨b5,0,none⟩=some (.int .i64 (n:Nat))from u.cell 0);have k3:=cell_regrown (show W.cell? ⟨b3,0,none⟩=some (.slice A n c)from i.cell 0);obtain⟨z,hz⟩:=nM (fp (cY E));have cA:=bV (w:=W) (v:=.int .i64 n) (f:=66) (args:= #[.pointer (some ⟨g,0,none⟩)]) (fun J hN=>(BI (H.out.new (r.out.tr hN)) hm hE).mono fun e w h=>⟨by rw[HN.out];exact h.1,h.2⟩);have cB:=bV (w:=W) (v:=.int .i64 z) (f:=134) (args:= #[.pointer (some ⟨g,0,none⟩)]) (fun J hN=>(sl (H.out.new (r.out.tr hN)) hm hE).mono fun e w h=>⟨by rw[hz];exact h.1,h.2⟩);have cC:=bV (w:=W) (v:=.int .i64 z) (f:=135) (args:= #[.slice A n c]) (fun J hN=>(yo A n c L J (HL.out.new (r.out.tr hN)).rd HL.out.len (by omega) HS.out).mono fun e w h=>⟨by rw[hz,←yq HC.out (fun c T=>⟨(HL.out.el c T).k.len,(HL.out.el c T).v.len⟩)];exact h.1,h.2⟩);have i3:=Ld hF;clear hF u i c8 U hz c6;dsimp only
  go_wp2_with fail
  refine dE 17 (by kernel_rfl) (by kernel_rfl) ?_;simp only[List.take_succ_cons,List.take_zero,List.drop_succ_cons,List.drop_zero]
  repeat(quiet_step (first|exact cA _ _|exact cB _ _|exact cC _ _))
  refine wpQuiet_nil ?_;intro Z M;have I:Hid (aa W Z):=Ld M;have c4:Z.cell? ⟨b4,0,none⟩=some (.bool false):=(M.blk q.out).cell 0;have f4:Z.frozen? ⟨b4,0,none⟩=false:=(M.blk q.out).frozen 0;clear k5 k3 cA cB cC M
  go_wp2_with fail
  have hF:Fr (fun j=>j=b4) Z (Z.setCell ⟨b4,0,none⟩ (.bool true)):=(Fr.refl (fun j=>j=b4) Z).setCell (p:=⟨b4,0,none⟩) (fun _=>rfl) _;have u:ab (Z.setCell ⟨b4,0,none⟩ (.bool true)) b4 4 #[.bool true]:=(I.out.blk q.out).set 0 _;refine ez [D] _ (((dc.cons (dc.nil w2.heap.size W) (fun _ h=>by cases h) hD g7.out).new I.out).fr hF (fun D hD=>?_)) (fun J hS=>⟨.bool true,?_,rfl,?_⟩)
  ·subst hD;exact iq (I.out.blk q.out)
  ·have T:J.cell? ⟨b4,0,none⟩=some (.bool true):=by
    have h1:J.heap[b4]?=_:=hS.cells b4 _ u rfl;exact(show ab J b4 4 #[.bool true]from h1).cell 0
   simp[results,results84,go_sem,T]
  ·have hz:w.heap.size≤w2.heap.size:=(G.out.tr d.out).size;exact(aa.fr (r.out.tr I.out) hF (fun k hk=>by have:=Y.out;omega)).trans (hS.below.mono hz)
theorem uM{P:Nat→Prop}{w W:World}{x:Int}(c:aa (w.alloc (.cells #[.int .u8 x] 5 (1,2))) W)(d:P w.heap.size):Rd P W 1 (some ⟨w.heap.size,0,none⟩) 1 (am [x]):=by
 have f:(w.alloc (.cells #[.int .u8 x] 5 (1,2))).heap[w.heap.size]?=some (.cells #[.int .u8 x] 5 (1,2)):=by
  show(w.heap.push _)[w.heap.size]?=_;simp
 have b:W.heap[w.heap.size]?=some (.cells #[.int .u8 x] 5 (1,2)):=(c.block _ (by simp)).trans f;refine⟨rfl,fun _=>⟨_,rfl,d,(Array.getElem?_eq_some_iff.1 b).1,fun j u hu=>?_⟩⟩
 have:j=0:=by
  have:=(List.getElem?_eq_some_iff.1 hu).1;simp[am]at this;omega
 subst this;simp[am]at hu;subst hu;simp[World.cell?,Addr.add,b]
theorem ld{q:Nat→Prop}{w:World}{s n:Nat}{A:Option Addr}{xs:List Value}{P:Program}{v:TypeId}{b m:Nat}{f:Lit→Option Value}(h:Rd q w s A n xs)(o:aH w P v b m f)(t:0<s):Rd (fun k=>q k∧k≠b) w s A n xs:=by
 refine⟨h.1,fun j=>?_⟩;obtain⟨g,e,r,p,i⟩:=h.2 j;refine⟨g,e,⟨r,fun c=>?_⟩,p,i⟩;have hl:0<xs.length:=by rw[h.1];exact Nat.mul_pos j t
 have h0:=i 0 _ (List.getElem?_eq_getElem hl);obtain⟨D,⟨l,clock,u,_⟩,_⟩:=o;have d:w.heap[(g.add 0).block]?=some (.map l clock):=by rw[eu,c];exact u
 simp[World.cell?,d]at h0
theorem EG{X:Nat→Prop}{w:World}{base g b m:Nat}{E:fi}(h:dl X w base g b m E):Kn (cY E):=BG h.nd (fun e c=>(h.el e c).1)
theorem vY(T:CT)(L:List Ch):(nY T L).length≤T.length+L.length:=by
 unfold nY
 induction L generalizing T with
 |nil=>simp
 |cons c L b=>
  rw[List.foldl_cons,List.length_cons];have:=b (doC T c);have:=Dv T c;omega
def Fa(c:Ch):List Int×List Int:=(c.k.xs,c.v.xs)
def Bb(e:List Int×List Int):Nat:=5+e.1.length+e.2.length
theorem xt{T:CT}{k:List Int}(h:k∉T.map Prod.fst):kS T k=T:=by
 unfold kS;rw[List.filter_eq_self];intro e c;simp only[decide_eq_true_eq];exact fun b=>h (b▸List.mem_map_of_mem c)
theorem Ae{Q:Ch→Prop}{L:List Ch}{c:Ch}(h:∀x∈L,Q x)(d:c.d=false→Q c):∀x∈jh fO c L,Q x:=by
 intro x b
 cases hd:c.d
 ·rcases tG fO c L x b with h1 | h1
  ·exact h x h1
  ·rw[h1];exact d hd
 ·rw[rQ,hd]at b;exact h x (List.mem_filter.1 b).1
theorem qg{R:List Sl}{P:List Ch}(h:R.map Sl.L=iV (lX ib P)):R.flatMap Sl.L=P:=by
 rw[List.flatMap_def,h,iW]
theorem nB{α:Type}:∀(b:List (List α)),(∀l∈b,1≤l.length)→b.length≤b.flatten.length
 | [],_=>Nat.le_refl _
 |l::b,h=>by
  have h1:=h l (List.mem_cons_self ..);have h2:=nB b (fun x c=>h x (List.mem_cons_of_mem _ c));rw[List.flatten_cons,List.length_append,List.length_cons];omega
end Go.Proofs.YtfchcdbfalgdlaaGreatDoor
