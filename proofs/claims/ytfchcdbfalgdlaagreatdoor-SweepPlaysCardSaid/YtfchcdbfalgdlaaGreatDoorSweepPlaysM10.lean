/- Texts of one proof. No condition but each one's own. -/
import Derived.Test.YtfchcdbfalgdlaaGreatDoorSweepPlaysM8
import Derived.Test.YtfchcdbfalgdlaaGreatDoorSweepPlaysM9
set_option maxHeartbeats 4000000
set_option maxRecDepth 100000
set_option linter.unusedVariables false
set_option linter.unusedSimpArgs false
namespace Go.Proofs.YtfchcdbfalgdlaaGreatDoor
open _root_.Go.Proofs.Tryz
open Go.RowKit Go.Sort
theorem Cc{xs:List Int}{k:Nat}(h:k<=xs.length):(Rs.mk xs 0).raw k=(xs.take k,⟨xs.drop k,0⟩):=by
 have hl:(Rs.mk xs 0).left=xs.length:=if_pos rfl;unfold Rs.raw;rw[hl,if_neg (by omega)]
theorem pL{xs:List Int}{k:Nat}(h:k<=xs.length):(Rs.mk xs 0).num k=(aU (xs.take k),⟨xs.drop k,0⟩):=by
 unfold Rs.num;rw[Cc h]
structure vS(s:List Int)(gen place kind:Nat):Prop where
 g:aU (s.take 4)=gen
 p:aU ((s.drop 4).take 4)=place
 k:aU ((s.drop 8).take 1)=kind
def dp(r:Option (List Int))(B:Nat)(e:Ending)(w':World):Prop:=
 match r with
 |none=>e=.returned (.tuple #[.slice none 0 0,.bool false])
 |some f=>∃A c,e=.returned (.tuple #[.slice A f.length c,.bool true])/\w'.ownsRow B 5 1 (.slice A f.length c) f.length (an f)
theorem uN{w:World}{b gd n:Nat}{l:LG}(h:Lg w b gd l n)(place kind:Nat)(f:l.size<=place)(d:n<=16384):
    Calls prog 142 #[.pointer (some ⟨b,0,none⟩),.int .i64 place,.int .i64 kind] w λe w'=>dp none w.heap.size e w'/\w=w':=by
 have c2:=h.c2;have c:(l.size:Int)<=(place:Int):=by omega
 clear h
 go_enter func142,ntmps142
 go_wp2_with fail;go_ret2;exact⟨rfl,rfl⟩
theorem yE{w:World}{y gd base bs bf:Nat}{v:Value}{p:DP}{l:LG}(h:Lg w y gd l p.size)(hD:Dk w base gd bs bf v p)(place kind:Nat)(hp:place<l.size)(I:kind<=2)(s:List Int)(hs:s=p.rget ((l.first+place:Nat):Int)):
    Calls prog 142 #[.pointer (some ⟨y,0,none⟩),.int .i64 place,.int .i64 kind] w λe w'=>(vS s l.gen place kind->dp (some (s.drop 9)) w.heap.size e w')/\(¬vS s l.gen place kind->dp none w.heap.size e w')/\aa w w':=by
 have i6:=Ld h;have HD:=Ld hD;have j1:=hD.ok.s2;have c6:=h.ok.fit;have b0:=h.ok.gen;have HS:Hid (aS s):=Ld (by rw[hs];exact hD.ok.rget _);obtain⟨a,ha⟩:=nM (l.first+place);have e1:(l.first:Int)+(place:Int)=(a:Int):=by omega
 have e2:IntKind.i64.wrap (a:Int)=(a:Int):=IntWalk.i64_in _ (by omega);have f':Hid (p.rcode (a:Int)=0):=Ld (by unfold DP.rcode DP.within;rw[decide_eq_true (by omega),if_pos rfl]);have g3:Hid (p.rget (a:Int)=s):=Ld (by rw[hs,ha]);obtain⟨fs,i0⟩:=nM (l.first);obtain⟨sz,b3⟩:=nM (l.size);obtain⟨gen,i1⟩:=nM (l.gen);have c0:=h.c0;have c1:=h.c1;have c2:=h.c2;have c3:=h.c3;rw[<-i0]at c1 e1;have j0:sz<=16384:=by omega
 rw[<-b3]at c2 hp;rw[<-i1]at c3 b0⊢;have q0:∀p:HW (aa w),p.w.cell? ⟨y,0,none⟩=some (.pointer (some ⟨gd,0,none⟩)):=λp=>p.h.cell_ c0
 have q1:∀p:HW (aa w),p.w.cell? ⟨y,1,none⟩=some (.int .i64 fs):=λp=>p.h.cell_ c1
 have i5:=Ld c3;have b7:(ag s).size=64:=by rw[aq,HS.out.1]
 have O:=Ld b7;clear b7 h hD hs ha i0 b3 i1 c0 c1 c3 c6;have i9:(place:Int)<(sz:Int):=by omega
 go_enter func142,ntmps142
 go_wp2_with fail;apply lr (α:=Nat) (λb S=>aa w S/\ac S b 68 (ag s))
 case h1=>
  intro K' g6;refine bu (aa w) (.take 0 (.take 1 (.take 2 (.take 3 (.take 4 (.take 5 (.take 6 (.take 7 (.take 8 (.take 9 (.two 10 (.take 11 (.take 12 (.take 13 (.act 14 (.act 15 (.take 16 .done)))))) 14 (.act 10 (.take 11 (.take 12 (.take 13 (.act 15 (.take 16 .done))))))))))))))))) (by kernel_rfl) (by kernel_rfl) (aa.dr (aa.refl w)) (λR=>?_)
  iterate 10 (refine ay (o:=.mk ..) rfl (λK d=>?_);go_simp;refine d _ ?_;clear d K)
  refine⟨?_,?_⟩
  ·refine dJ (o:=.mk ..) rfl (λK d=>?_) (.inl rfl);go_simp;refine(kF (HD.out.new (aa.dr (aa.refl w))) (a:Int)).mono ?_;rintro e w1 ⟨rfl,L⟩;rw[g3.out,f'.out,cg];have F:Hid (aa w w1):=Ld (aa.tr (aa.dr (aa.refl w)) L);clear L;go_simp;refine d.out _ _ F.out ?_;clear d K
   iterate 3 (refine ay (o:=.mk ..) rfl (λK d=>?_);go_simp;refine d _ ?_;clear d K)
   refine ep (o:=.mk ..) rfl rfl rfl bO ?_;intro b8 w2 Z Y P;have c4:Hid (w.heap.size<=b8):=Ld (by have:=F.out.size;omega);refine⟨F.out.tr P,?_⟩;clear Z;simp only[Act.put,bC,bD,bF];refine cL (o:=.mk ..) (cs:=ag s) rfl rfl (.tmp 8) (.tmp 29) rfl (by rw[O.out];rfl) rfl rfl Y (by rw[O.out];rfl) (bH _) ?_;intro S J t;have E:aa w S:=(F.out.tr P).fr t (λk I=>by have:=c4.out;omega);refine⟨E,?_⟩;simp only[Act.put,bC,bD,bF];refine ay (o:=.mk ..) rfl (λK d=>?_);go_simp;refine d _ ?_;clear d K;refine aO ?_;exact g6.out b8 S ⟨E,J⟩
  ·refine ep (o:=.mk ..) rfl rfl rfl bO ?_;intro b8 w2 Z Y P;have c5:Hid (aa w w2):=Ld ((aa.dr (aa.refl w)).tr P);have i3:=Ld Y;have c4:Hid (w.heap.size<=b8):=Ld (by rw[Z];exact Nat.le_refl _);refine⟨c5.out,?_⟩;clear Z Y P;simp only[Act.put,bC,bD,bF];refine aC (o:=.mk ..) rfl (λK d=>?_) (.inl rfl);go_simp;refine(kF (HD.out.new c5.out) (a:Int)).mono ?_;rintro e w1 ⟨rfl,L⟩;rw[g3.out,f'.out,cg];have i2:=Ld (L.blk i3.out);have F:Hid (aa w w1):=Ld (c5.out.tr L);clear L;go_simp;refine d.out _ _ F.out ?_;clear d K
   iterate 3 (refine ay (o:=.mk ..) rfl (λK d=>?_);go_simp;refine d _ ?_;clear d K)
   refine cL (o:=.mk ..) (cs:=ag s) rfl rfl (.tmp 8) (.tmp 29) rfl (by rw[O.out];rfl) rfl rfl i2.out (by rw[O.out];rfl) (bH _) ?_;intro S J t;have E:aa w S:=F.out.fr t (λk I=>by have:=c4.out;omega);refine⟨E,?_⟩;simp only[Act.put,bC,bD,bF];refine ay (o:=.mk ..) rfl (λK d=>?_);go_simp;refine d _ ?_;clear d K;refine aO ?_;exact g6.out b8 S ⟨E,J⟩
 case h2=>
  rintro b8 S ⟨E,J⟩;have d':=Ld E;have i4:=Ld J;clear E J q0 q1 e1 e2 c2
  go_wp2_with fail
  have g8:Rd (λ_=>True) S 1 (some ⟨b8,0,none⟩) 64 (an s):=by
   have h:=Rd.ofBlk (p:=λ_=>True) i4.out 1 64 (by rw[O.out]) trivial
   rwa[eu]at h
  refine(jg (some ⟨b8,0,none⟩) 64 64 s S g8 HS.out.2 (by omega)).mono ?_;rintro e w4 ⟨r,rfl,g9,g7,hr⟩;have V:=Ld g9;have M:Hid (aa w w4):=Ld (d'.out.tr g7);have n:Hid (w.heap.size<=r):=Ld (by have:=d'.out.size;omega);have C:Hid (y≠r):=Ld (by have:=i6.out.blk.lt;have:=n.out;omega);clear g8 g9 g7 hr;have D:Hid (w4.cell? ⟨y,3,none⟩=some (.int .u32 gen)):=Ld (M.out.cell_ i5.out);have m:Hid (s.length=64):=Ld HS.out.1;have q3:∀p:HW (iU ⟨y,3,none⟩ (.int .u32 gen)),p.w.cell? ⟨y,3,none⟩=some (.int .u32 gen):=iU.all _ _;have x1:=pL (xs:=s) (k:=4) (by rw[m.out];decide);have x2:=pL (xs:=s.drop 4) (k:=4) (by rw[List.length_drop,m.out];decide);have x3:=pL (xs:=s.drop 8) (k:=1) (by rw[List.length_drop,m.out];decide);have X1:=Ld x1;have X2:Hid ((Rs.mk (s.drop 4) 0).num 4=(aU ((s.drop 4).take 4),⟨s.drop 8,0⟩)):=Ld (by rw[x2,List.drop_drop]);have X3:Hid ((Rs.mk (s.drop 8) 0).num 1=(aU ((s.drop 8).take 1),⟨s.drop 9,0⟩)):=Ld (by rw[x3,List.drop_drop])
  have i':aU (s.take 4)<18446744073709551616:=by
   have:=fm (xs:=s.take 4) (λx hx=>HS.out.2 x (List.mem_of_mem_take hx));rw[List.length_take,m.out]at this;exact Nat.lt_of_lt_of_le this (by decide)
  clear x1 x2 x3;obtain⟨v1,c7⟩:=nM (aU (s.take 4));obtain⟨v2,c8⟩:=nM (aU ((s.drop 4).take 4));obtain⟨v3,c9⟩:=nM (aU ((s.drop 8).take 1));have HV:Hid (v1=aU (s.take 4)/\v2=aU ((s.drop 4).take 4)/\v3=aU ((s.drop 8).take 1)):=Ld ⟨c7,c8,c9⟩;rw[<-c7]at X1 i';rw[<-c8]at X2;rw[<-c9]at X3;clear c7 c8 c9 i';have k1:IntKind.u64.wrap (place:Int)=(place:Int):=by rw[IntKind.wrap_u64];omega
  have kg:IntKind.u64.wrap (gen:Int)=(gen:Int):=by rw[IntKind.wrap_u64];omega
  have k2:IntKind.u64.wrap (kind:Int)=(kind:Int):=by rw[IntKind.wrap_u64];omega
  have b1:(gen:Int)<4294967296:=by omega
  have j':s.length=64:=m.out
  by_cases t1:v1=gen
  ·have d1:(v1:Int)=(gen:Int):=by omega
   by_cases t2:v2=place
   ·have d2:(v2:Int)=(place:Int):=by omega
    by_cases t3:v3=kind
    ·have d3:(v3:Int)=(kind:Int):=by omega
     have x9:=Cc (xs:=s.drop 9) (k:=55) (by rw[List.length_drop,m.out];decide);have X:(s.drop 9).length=55:=by rw[List.length_drop,m.out]
     have g4:(s.drop 9).take 55=s.drop 9:=List.take_of_length_le (by rw[X];exact Nat.le_refl _);have f55:(s.drop 9).drop 55=[]:=List.drop_of_length_le (by rw[X];exact Nat.le_refl _);have X9:Hid ((Rs.mk (s.drop 9) 0).raw 55=(s.drop 9,⟨[],0⟩)):=Ld (by rw[x9,g4,f55]);have b9:=Ld X;clear X g4 f55;clear x9
     go_wp2_with fail;refine ah (iU ⟨y,3,none⟩ (.int .u32 gen)) [(true,0),(true,2),(true,3),(true,4),(true,5),(true,6),(false,1),(true,7),(true,8),(true,9),(true,11),(true,12),(false,10),(true,13),(true,14),(true,15),(true,16),(true,18),(true,19),(false,17),(true,20),(true,21)] (by kernel_rfl) (by kernel_rfl) ((aa.dr (aa.refl _)).cell_ D.out) (λR=>?_)
     iterate 6 (refine af (o:=.mk ..) rfl (λK d=>?_);go_simp;refine d _ ?_;clear d K)
     refine aj (o:=.mk ..) rfl (λK d=>?_) (.inl rfl);go_simp;refine(dw (V.out.new (aa.dr (aa.refl _))) 4 (by omega)).mono ?_;rintro e T ⟨rfl,f,i⟩;rw[X1.out]at f⊢;have j:Hid (T.cell? ⟨y,3,none⟩=some (.int .u32 gen)):=Ld (i.cell_some ((aa.dr (aa.refl w4)).cell_ D.out) C.out);have G:Hid (aa w T):=Ld ((aa.dr M.out).fr i (λk I=>by have:=n.out;omega));have z:=Ld f;clear f i;go_simp;refine d.out _ _ (λ_=>j.out) ?_;clear d K
     iterate 5 (refine af (o:=.mk ..) rfl (λK d=>?_);go_simp;refine d _ ?_;clear d K)
     refine aj (o:=.mk ..) rfl (λK d=>?_) (.inl rfl);go_simp;refine(dw z.out 4 (by omega)).mono ?_;rintro e w6 ⟨rfl,g,q⟩;rw[X2.out]at g⊢;have B:Hid (w6.cell? ⟨y,3,none⟩=some (.int .u32 gen)):=Ld (q.cell_some j.out C.out);have N:Hid (aa w w6):=Ld (G.out.fr q (λk I=>by have:=n.out;omega));have H:=Ld g;clear g q;go_simp;refine d.out _ _ (λ_=>B.out) ?_;clear d K
     iterate 6 (refine af (o:=.mk ..) rfl (λK d=>?_);go_simp;refine d _ ?_;clear d K)
     refine aj (o:=.mk ..) rfl (λK d=>?_) (.inl rfl);go_simp;refine(dw H.out 1 (by omega)).mono ?_;rintro e w7 ⟨rfl,u,t⟩;rw[X3.out]at u⊢;have c':Hid (w7.cell? ⟨y,3,none⟩=some (.int .u32 gen)):=Ld (t.cell_some B.out C.out);have U:Hid (aa w w7):=Ld (N.out.fr t (λk I=>by have:=n.out;omega));have b':=Ld u;clear u t;go_simp;refine d.out _ _ (λ_=>c'.out) ?_;clear d K
     iterate 2 (refine af (o:=.mk ..) rfl (λK d=>?_);go_simp;refine d _ ?_;clear d K)
     refine au ?_
     go_wp2_with fail;refine(kJ b'.out 55 (by omega)).mono ?_;rintro e w8 ⟨⟨A,c,rfl,hO⟩,-,g5⟩;rw[X9.out]at hO⊢;dsimp only at hO⊢;rw[b9.out]at hO⊢;have HO:=Ld hO;have i7:Hid (aa w w8):=Ld (U.out.fr g5 (λk I=>by have:=n.out;omega));clear hO g5
     go_wp2_with fail;go_ret2;exact⟨λ_=>⟨A,c,by rw[b9.out];rfl,by rw[b9.out];exact im HO.out (λk I=>by have:=(am HO.out k I).1;have:=U.out.size;omega)⟩,λh=>absurd ⟨by have:=HV.out;omega,by have:=HV.out;omega,by have:=HV.out;omega⟩ h,i7.out⟩
    ·have d3:¬((v3:Int)=(kind:Int)):=by omega
     go_wp2_with fail;refine ah (iU ⟨y,3,none⟩ (.int .u32 gen)) [(true,0),(true,2),(true,3),(true,4),(true,5),(true,6),(false,1),(true,7),(true,8),(true,9),(true,11),(true,12),(false,10),(true,13),(true,14),(true,15),(true,16),(true,18),(true,19),(false,17),(true,20),(true,21)] (by kernel_rfl) (by kernel_rfl) ((aa.dr (aa.refl _)).cell_ D.out) (λR=>?_)
     iterate 6 (refine af (o:=.mk ..) rfl (λK d=>?_);go_simp;refine d _ ?_;clear d K)
     refine aj (o:=.mk ..) rfl (λK d=>?_) (.inl rfl);go_simp;refine(dw (V.out.new (aa.dr (aa.refl _))) 4 (by omega)).mono ?_;rintro e T ⟨rfl,f,i⟩;rw[X1.out]at f⊢;have j:Hid (T.cell? ⟨y,3,none⟩=some (.int .u32 gen)):=Ld (i.cell_some ((aa.dr (aa.refl w4)).cell_ D.out) C.out);have G:Hid (aa w T):=Ld ((aa.dr M.out).fr i (λk I=>by have:=n.out;omega));have z:=Ld f;clear f i;go_simp;refine d.out _ _ (λ_=>j.out) ?_;clear d K
     iterate 5 (refine af (o:=.mk ..) rfl (λK d=>?_);go_simp;refine d _ ?_;clear d K)
     refine aj (o:=.mk ..) rfl (λK d=>?_) (.inl rfl);go_simp;refine(dw z.out 4 (by omega)).mono ?_;rintro e w6 ⟨rfl,g,q⟩;rw[X2.out]at g⊢;have B:Hid (w6.cell? ⟨y,3,none⟩=some (.int .u32 gen)):=Ld (q.cell_some j.out C.out);have N:Hid (aa w w6):=Ld (G.out.fr q (λk I=>by have:=n.out;omega));have H:=Ld g;clear g q;go_simp;refine d.out _ _ (λ_=>B.out) ?_;clear d K
     iterate 6 (refine af (o:=.mk ..) rfl (λK d=>?_);go_simp;refine d _ ?_;clear d K)
     refine aj (o:=.mk ..) rfl (λK d=>?_) (.inl rfl);go_simp;refine(dw H.out 1 (by omega)).mono ?_;rintro e w7 ⟨rfl,u,t⟩;rw[X3.out]at u⊢;have c':Hid (w7.cell? ⟨y,3,none⟩=some (.int .u32 gen)):=Ld (t.cell_some B.out C.out);have U:Hid (aa w w7):=Ld (N.out.fr t (λk I=>by have:=n.out;omega));have b':=Ld u;clear u t;go_simp;refine d.out _ _ (λ_=>c'.out) ?_;clear d K
     iterate 2 (refine af (o:=.mk ..) rfl (λK d=>?_);go_simp;refine d _ ?_;clear d K)
     refine au ?_;have T3:=Ld t3;clear t1 t2 d1 d2 k1 k2 kg q3 R j' b1 b0 i9 t3
     go_wp2_with fail;go_ret2;exact⟨λh=>absurd h (λh=>by have:=HV.out;have:=h.k;have:=T3.out;omega),λ_=>rfl,U.out⟩
   ·have d2:¬((v2:Int)=(place:Int)):=by omega
    go_wp2_with fail;refine ah (iU ⟨y,3,none⟩ (.int .u32 gen)) [(true,0),(true,2),(true,3),(true,4),(true,5),(true,6),(false,1),(true,7),(true,8),(true,9),(true,11),(true,12),(false,10),(true,13),(true,14),(true,15),(true,16),(true,18),(true,19),(false,17),(true,20),(true,21)] (by kernel_rfl) (by kernel_rfl) ((aa.dr (aa.refl _)).cell_ D.out) (λR=>?_)
    iterate 6 (refine af (o:=.mk ..) rfl (λK d=>?_);go_simp;refine d _ ?_;clear d K)
    refine aj (o:=.mk ..) rfl (λK d=>?_) (.inl rfl);go_simp;refine(dw (V.out.new (aa.dr (aa.refl _))) 4 (by omega)).mono ?_;rintro e T ⟨rfl,f,i⟩;rw[X1.out]at f⊢;have j:Hid (T.cell? ⟨y,3,none⟩=some (.int .u32 gen)):=Ld (i.cell_some ((aa.dr (aa.refl w4)).cell_ D.out) C.out);have G:Hid (aa w T):=Ld ((aa.dr M.out).fr i (λk I=>by have:=n.out;omega));have z:=Ld f;clear f i;go_simp;refine d.out _ _ (λ_=>j.out) ?_;clear d K
    iterate 5 (refine af (o:=.mk ..) rfl (λK d=>?_);go_simp;refine d _ ?_;clear d K)
    refine aj (o:=.mk ..) rfl (λK d=>?_) (.inl rfl);go_simp;refine(dw z.out 4 (by omega)).mono ?_;rintro e w6 ⟨rfl,g,q⟩;rw[X2.out]at g⊢;have B:Hid (w6.cell? ⟨y,3,none⟩=some (.int .u32 gen)):=Ld (q.cell_some j.out C.out);have N:Hid (aa w w6):=Ld (G.out.fr q (λk I=>by have:=n.out;omega));have H:=Ld g;clear g q;go_simp;refine d.out _ _ (λ_=>B.out) ?_;clear d K
    iterate 6 (refine af (o:=.mk ..) rfl (λK d=>?_);go_simp;refine d _ ?_;clear d K)
    refine aj (o:=.mk ..) rfl (λK d=>?_) (.inr B.out);go_simp;refine d.out _ _ (λ_=>B.out) ?_;clear d K
    iterate 2 (refine af (o:=.mk ..) rfl (λK d=>?_);go_simp;refine d _ ?_;clear d K)
    refine au ?_
    go_wp2_with fail;go_ret2;exact⟨λh=>absurd h (λh=>by have:=HV.out;have:=h.p;omega),λ_=>rfl,N.out⟩
  ·have d1:¬((v1:Int)=(gen:Int)):=by omega
   go_wp2_with fail;refine ah (iU ⟨y,3,none⟩ (.int .u32 gen)) [(true,0),(true,2),(true,3),(true,4),(true,5),(true,6),(false,1),(true,7),(true,8),(true,9),(true,11),(true,12),(false,10),(true,13),(true,14),(true,15),(true,16),(true,18),(true,19),(false,17),(true,20),(true,21)] (by kernel_rfl) (by kernel_rfl) ((aa.dr (aa.refl _)).cell_ D.out) (λR=>?_)
   iterate 6 (refine af (o:=.mk ..) rfl (λK d=>?_);go_simp;refine d _ ?_;clear d K)
   refine aj (o:=.mk ..) rfl (λK d=>?_) (.inl rfl);go_simp;refine(dw (V.out.new (aa.dr (aa.refl _))) 4 (by omega)).mono ?_;rintro e T ⟨rfl,f,i⟩;rw[X1.out]at f⊢;have j:Hid (T.cell? ⟨y,3,none⟩=some (.int .u32 gen)):=Ld (i.cell_some ((aa.dr (aa.refl w4)).cell_ D.out) C.out);have G:Hid (aa w T):=Ld ((aa.dr M.out).fr i (λk I=>by have:=n.out;omega));have z:=Ld f;clear f i;go_simp;refine d.out _ _ (λ_=>j.out) ?_;clear d K
   iterate 5 (refine af (o:=.mk ..) rfl (λK d=>?_);go_simp;refine d _ ?_;clear d K)
   refine aj (o:=.mk ..) rfl (λK d=>?_) (.inr j.out);go_simp;refine d.out _ _ (λ_=>j.out) ?_;clear d K
   iterate 6 (refine af (o:=.mk ..) rfl (λK d=>?_);go_simp;refine d _ ?_;clear d K)
   refine aj (o:=.mk ..) rfl (λK d=>?_) (.inr j.out);go_simp;refine d.out _ _ (λ_=>j.out) ?_;clear d K
   iterate 2 (refine af (o:=.mk ..) rfl (λK d=>?_);go_simp;refine d _ ?_;clear d K)
   refine au ?_
   go_wp2_with fail;go_ret2;exact⟨λh=>absurd h (λh=>by have:=HV.out;have:=h.g;omega),λ_=>rfl,G.out⟩
end Go.Proofs.YtfchcdbfalgdlaaGreatDoor
