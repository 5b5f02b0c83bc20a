/- Texts of one proof. No condition but each one's own. -/
import Derived.Test.YtfchcdbfalgdlaaGreatDoorSweepPlaysM31
import Derived.Test.YtfchcdbfalgdlaaGreatDoorSweepPlaysM32
set_option maxHeartbeats 4000000
set_option maxRecDepth 100000
set_option linter.unusedVariables false
set_option linter.unusedSimpArgs false
namespace Go.Proofs.YtfchcdbfalgdlaaGreatDoor
open _root_.Go.Proofs.Tryz
open Go.RowKit Go.Sort
def bT:List TypeId:=[65,75,79,68]
theorem cI:gg prog 65 5:=⟨⟨_,underlying65,rfl⟩,by kernel_rfl⟩
theorem fR:gg prog 75 6:=⟨⟨_,underlying75,rfl⟩,by kernel_rfl⟩
theorem jy.R{X:Array Value}(h:jy 5 X):gg prog 65 X.size:=by rw[h.sz];exact cI
theorem bq(p:DP)(tot:Nat)(X:Array Value){n:Nat}:kh n bT (λw=>bE w p tot X):=⟨λ_ _ d h=>h.new d,λ_ _ _ _ _ ht _ f hF h=>h.st f hF (by rintro rfl;revert ht;decide)⟩
theorem dL(l:LG)(Y:Array Value){n:Nat}:kh n bT (λw=>fZ w l Y):=⟨λ_ _ d h=>h.new d,λ_ _ _ _ _ ht _ f hF h=>h.st f hF (by rintro rfl;revert ht;decide)⟩
theorem yN{w:World}{p:DP}{tot:Nat}{X:Array Value}(h:bE w p tot X)(ht:tot<=50000)(g:Nat)(hg:g<4294967296)(hL:cX 3 1 w):
    Calls prog 75 #[.agg X,.int .u32 g] w λe w'=>∃X',e=.returned (.tuple #[.agg X',.int .i64 (bU p g).2])/\bE w' (bU p g).1 (tot+1) X'/\aa w w':=by
 obtain⟨a,U⟩:=nm (g%2);obtain⟨k,F⟩:=nm (p.doWrite ((g%2:Nat):Int) (dx g));obtain⟨J,E⟩:=nm (p.wcode ((g%2:Nat):Int));have I:Hid (bU p g=if J≠0 then(k,J)else(k.doSync,k.scode)):=Ld (by rw[F,E];rfl);have HM:Hid (∀w',aa w w'->Calls prog 120 #[.int .u32 g] w' λe j=>e=.returned (.agg (ag (dx g)))/\aa w' j):=Ld λw' z=>pU g hg w' (hL.new z)
 have O:Hid (∀w',bE w' p tot X->Calls prog 32 #[.agg X,.int .i64 (a:Int),.agg (ag (dx g))] w' λe j=>∃X',e=.returned (.tuple #[.agg X',.int .i64 J])/\bE j k (tot+1) X'/\aa w' j):=Ld λw' hd=>by
  rw[F,E,U];exact qg hd (by omega) _ (WalkArith.wf_i64 (by omega)) (fN g)
 have N:Hid (∀w' X,bE w' k (tot+1) X->Calls prog 72 #[.agg X] w' λe j=>∃X',e=.returned (.tuple #[.agg X',.int .i64 k.scode])/\bE j k.doSync (tot+1) X'/\aa w' j):=Ld λw' X hd=>oH hd (by omega)
 have e3:Int.tmod (g:Int) 2=(a:Int):=by rw[U,Int.tmod_eq_emod_of_nonneg (by omega)];omega
 have e9:IntKind.u32.wrap (a:Int)=(a:Int):=by rw[IntKind.wrap_u32];omega
 have b0:IntKind.i64.wrap (a:Int)=(a:Int):=IntWalk.i64_in _ (by omega);have S:=Ld h.row;have d:Hid (Bx prog bT w w [] (λw=>bE w p tot X)):=Ld (Bx.start h (bq _ _ _));clear h ht hg hL U F E;obtain⟨P2,M⟩:=nm (bU p g);rw[<-M]at I⊢;clear M
 go_enter func75,ntmps75
 go_upto_region 1 with (first
  |(refine wh d.out rfl rfl rfl (by decide) S.out.R ?_;intro w1 b2 f;clear d;have d:=Ld f;clear f)
  |(refine vW d.out rfl rfl (Z:=.agg CY) rfl (by decide) ⟨_,underlying65,rfl⟩ ?_;intro w1 b4 f;clear d;have d:=Ld f;clear f))
 refine iB (λw'=>Bx prog bT w w' _ (λw=>bE w p tot X)) [.take 0,.pur 1,.pur 2,.pur 3,.pur 4,.act 5,.act 6,.pur 7,.pur 8,.pur 9] 10 [(true,11)] (by kernel_rfl) (by kernel_rfl) (d.out.new (aa.dr (aa.refl _))) ?_;refine mB 0 (λ_ h=>h) rfl rfl rfl rfl rfl rfl S.out.R ?_;simp only[Act.put,bC,bD,bF]
 iterate 4 (refine jk (o:=.mk ..) rfl (λK i=>?_);go_simp;refine i _ ?_;clear i K)
 refine jj (o:=.mk ..) rfl rfl (λK i=>?_);go_simp;refine(HM.out _ (d.out.nw.tr (aa.dr (aa.refl _)))).mono ?_;rintro e w3 ⟨rfl,z⟩;have r:=Ld (d.out.new ((aa.dr (aa.refl _)).tr z));go_simp;refine i.out _ _ r.out ?_;clear i K z d;refine jj (o:=.mk ..) rfl rfl (λK i=>?_);go_simp;refine(O.out _ r.out.r).mono ?_;rintro e w4 ⟨X1,rfl,D,z⟩;have G:=Ld (r.out.new z);have d:=Ld ((r.out.call z D (bq _ _ _)).rel (R':=λw=>bE w k (tot+1) X1) (λh=>h.2) (bq _ _ _));have u:=Ld D.row;go_simp;refine i.out _ _ G.out ?_;clear i K z r G D
 iterate 3 (refine jk (o:=.mk ..) rfl (λK i=>?_);go_simp;refine i _ ?_;clear i K)
 refine np (o:=.mk ..) rfl (λK i=>?_);refine vF 0 d.out rfl rfl rfl rfl rfl rfl (u.out.sz.trans S.out.sz.symm) u.out.al ?_;intro w5 f;simp only[bD,bF,List.nil_append,List.cons_append]at f;clear d;have d:=Ld f;simp only[Act.put,bC,bD,bF];refine i.out _ _ ?_;clear i K f;have V:Nonempty (HW λ_:World=>True):=⟨⟨w5,trivial⟩⟩
 refine af (o:=.mk ..) rfl (λK i=>?_);go_simp;refine i _ ?_;clear i K;refine au ?_;clear V
 by_cases h0:J=0
 ·have s:Hid (P2=(k.doSync,k.scode)):=Ld (I.out.trans (if_neg (by simpa using h0)));clear I;subst h0
  go_wp2_with (first
   |(refine be 0 d.out rfl rfl rfl rfl rfl ?_)
   |(go_at_call 72;refine(N.out _ _ d.out.r).mono ?_;rintro e w6 ⟨X2,rfl,D,z⟩;have C:=Ld D.row;have H:=Ld ((d.out.call z D (bq _ _ _)).rel (R':=λw=>bE w k.doSync (tot+1) X2) (λh=>h.2) (bq _ _ _));clear d D z;have d:=H;clear H)
   |(refine qm 1 d.out rfl rfl rfl rfl rfl rfl C.out.sz C.out.al ?_;intro w7 f;simp only[bD,bF]at f;clear d;have d:=Ld f;clear f))
  exact bodyPost_ret (aE rfl _ _ _ _ _ rfl (d.out.blk 1 rfl) underlying65 rfl (by rw[C.out.sz];kernel_rfl)) rfl ⟨_,by rw[s.out];rfl,by rw[s.out];exact d.out.r,d.out.nw⟩
 ·have s:Hid (P2=(k,J)):=Ld (I.out.trans (if_pos h0));clear I
  go_wp2_with (first
   |(refine be 0 d.out rfl rfl rfl rfl rfl ?_)
   |(refine qm 1 d.out rfl rfl rfl rfl rfl rfl u.out.sz u.out.al ?_;intro w7 f;simp only[bD,bF]at f;clear d;have d:=Ld f;clear f))
  exact bodyPost_ret (aE rfl _ _ _ _ _ rfl (d.out.blk 1 rfl) underlying65 rfl (by rw[u.out.sz];kernel_rfl)) rfl ⟨_,by rw[s.out];rfl,by rw[s.out];exact d.out.r,d.out.nw⟩
theorem GA(s:List Int)(h:aS s):gg prog 68 (ag s).size:=by
 rw[aq,h.1];exact⟨⟨_,underlying68,rfl⟩,by kernel_rfl⟩
theorem rF(p:DP)(k:Nat)(r:k<2){s m:List Int}{x:Nat}(i:s=p.rget (k:Int))(j:x=aU (s.take 4))(hm:m=dx x):
    ∃(d:Bool) (z:Int) (v:Nat),d=decide (s=m)/\Int.tmod (x:Int) 2=z/\v=iW p k/\((d=true/\z=(k:Int)/\v=x)\/(d=true/\z=1-(k:Int)/\v=0)\/(d=false/\v=0)):=by
 refine⟨_,_,_,rfl,rfl,rfl,?_⟩;have e:Int.tmod (x:Int) 2=((x%2:Nat):Int):=by rw[Int.tmod_eq_emod_of_nonneg (by omega)];omega
 rw[e];have f:iW p k=if s=m/\x%2=k then x else 0:=by subst hm j i;rfl
 rw[f]
 by_cases h1:s=m
 ·by_cases h2:x%2=k
  ·exact .inl ⟨decide_eq_true h1,by rw[h2],if_pos ⟨h1,h2⟩⟩
  ·exact .inr (.inl ⟨decide_eq_true h1,by omega,if_neg (λh=>h2 h.2)⟩)
 ·exact .inr (.inr ⟨decide_eq_false h1,if_neg (λh=>h1 h.1)⟩)
theorem rS{w:World}{p:DP}{tot:Nat}{X:Array Value}(h:bE w p tot X)(ht:tot<=50000)(h2:2<=p.size)(hL:cX 3 1 w):
    Calls prog 76 #[.agg X] w λe w'=>e=.returned (.int .u32 (jC p))/\aa w w':=by
 obtain⟨s0,E⟩:=nm (p.rget ((0:Nat):Int));obtain⟨s1,F⟩:=nm (p.rget ((1:Nat):Int));obtain⟨x0,G⟩:=nm (aU (s0.take 4));obtain⟨x1,H⟩:=nm (aU (s1.take 4));obtain⟨m0,C⟩:=nm (dx x0);obtain⟨m1,D⟩:=nm (dx x1);obtain⟨d0,z0,v0,b7,c',j,H0⟩:=rF p 0 (by decide) E G C;obtain⟨d1,z1,v1,b8,c0,k,H1⟩:=rF p 1 (by decide) F H D;have U:aS s0:=by rw[E];exact h.ok.rget _
 have V:aS s1:=by rw[F];exact h.ok.rget _
 have I:=Ld U;have J:=Ld V
 have lt:∀s:List Int,aS s->aU (s.take 4)<4294967296:=λs hs=>by
  have h1:=fm (xs:=s.take 4) (λx hx=>hs.2 x (List.mem_of_mem_take hx));rw[List.length_take,hs.1]at h1;exact h1
 have X0:x0<4294967296:=by rw[G];exact lt s0 U
 have X1:x1<4294967296:=by rw[H];exact lt s1 V
 have e0:IntKind.u32.wrap (x0:Int)=(x0:Int):=by rw[IntKind.wrap_u32];omega
 have e1:IntKind.u32.wrap (x1:Int)=(x1:Int):=by rw[IntKind.wrap_u32];omega
 have HC:Hid (jC p=max v0 v1):=Ld (by rw[j,k];rfl);have q0:∀w,(Op.equalIn 10000 68 (.agg (ag s0)) (.agg (ag m0))).run prog w=.ok d0 w:=λw=>by rw[b7];exact gJ (P:=prog) 9998 underlying68 underlying5 (sizeOf5) U.1 (by rw[C];exact(fN _).1) U.2 (by rw[C];exact(fN _).2) w
 have q1:∀w,(Op.equalIn 10000 68 (.agg (ag s1)) (.agg (ag m1))).run prog w=.ok d1 w:=λw=>by rw[b8];exact gJ (P:=prog) 9998 underlying68 underlying5 (sizeOf5) V.1 (by rw[D];exact(fN _).1) V.2 (by rw[D];exact(fN _).2) w
 have HM:Hid (∀w',aa w w'->(Calls prog 120 #[.int .u32 x0] w' λe r=>e=.returned (.agg (ag m0))/\aa w' r)/\Calls prog 120 #[.int .u32 x1] w' λe r=>e=.returned (.agg (ag m1))/\aa w' r):=Ld λw' u=>⟨by rw[C];exact pU x0 X0 w' (hL.new u),by rw[D];exact pU x1 X1 w' (hL.new u)⟩
 have HX:=Ld h.row;have d:Hid (Bx prog bT w w [] (λw=>bE w p tot X)):=Ld (Bx.start h (bq _ _ _));have HH:=Ld (And.intro H0 H1)
 have HR:Hid (∀w',bE w' p tot X->(Calls prog 121 #[.agg X,.int .i64 0] w' λe r=>e=.returned (.tuple #[.agg (ag s0),.int .i64 0])/\aa w' r)/\Calls prog 121 #[.agg X,.int .i64 1] w' λe r=>e=.returned (.tuple #[.agg (ag s1),.int .i64 0])/\aa w' r):=Ld λw' hd=>by
  have r0:p.rcode ((0:Nat):Int)=0:=by unfold DP.rcode DP.within;rw[decide_eq_true (by omega),if_pos rfl]
  have r1:p.rcode ((1:Nat):Int)=0:=by unfold DP.rcode DP.within;rw[decide_eq_true (by omega),if_pos rfl]
  have h0:=yO hd (by omega) ((0:Nat):Int) (by decide);have h1:=yO hd (by omega) ((1:Nat):Int) (by decide);rw[r0,<-E]at h0;rw[r1,<-F]at h1;exact⟨h0,h1⟩
 have M:Hid (aU (s0.take 4)=x0/\aU (s1.take 4)=x1):=Ld ⟨G.symm,H.symm⟩;have N:Hid ((ag s0).size=64/\(ag s1).size=64):=Ld ⟨by rw[aq,U.1],by rw[aq,V.1]⟩;rw[HC.out];obtain⟨vm,S⟩:=nm (max v0 v1);rw[<-S];have b9:=Ld S;clear h ht h2 hL E F G H C D b7 b8 j k H0 H1 U V X0 X1 lt HC S
 go_enter func76,ntmps76
 go_upto_region 5 with (first
  |(refine wh d.out rfl rfl rfl (by decide) HX.out.R ?_;intro w1 b1 f;clear d;have d:=Ld f;clear f)
  |(refine be 0 d.out rfl rfl rfl rfl rfl ?_)
  |(go_at_call 121;(first|(with_reducible refine(HR.out _ d.out.r).1.mono ?_)|(with_reducible refine(HR.out _ d.out.r).2.mono ?_));rintro e w2 ⟨rfl,u⟩;replace d:=Ld (d.out.new u);clear u)
  |(refine vW d.out rfl rfl (Z:=.agg (ag az)) bO (by decide) ⟨_,underlying68,rfl⟩ ?_;intro w1 b3 f;clear d;have d:=Ld f;clear f)
  |(refine qm 1 d.out rfl rfl rfl rfl rfl rfl N.out.1 (bH _) ?_;intro w1 f;simp only[bD,bF,List.nil_append,List.cons_append]at f;clear d;have d:=Ld f;clear f)
  |(refine qm 2 d.out rfl rfl rfl rfl rfl rfl N.out.2 (bH _) ?_;intro w1 f;simp only[bD,bF,List.nil_append,List.cons_append]at f;clear d;have d:=Ld f;clear f)
  | (go_at_call 122; first
      |(have hv:=ib _ 4 64 (s0.take 4) _ (Rd.take (ov (d.out.blk 1 rfl) I.out.1) (by omega)) (λx hx=>I.out.2 x (List.mem_of_mem_take hx)) (by omega);with_reducible refine hv.mono ?_;clear hv;rintro e w2 ⟨rfl,rfl⟩;rw[M.out.1])
      |(have hv:=ib _ 4 64 (s1.take 4) _ (Rd.take (ov (d.out.blk 2 rfl) J.out.1) (by omega)) (λx hx=>J.out.2 x (List.mem_of_mem_take hx)) (by omega);with_reducible refine hv.mono ?_;clear hv;rintro e w2 ⟨rfl,rfl⟩;rw[M.out.2])))
 have b0:Hid (((d0=true/\z0=0/\v0=x0)\/(d0=true/\z0=1/\v0=0)\/(d0=false/\v0=0))/\((d1=true/\z1=1/\v1=x1)\/(d1=true/\z1=0/\v1=0)\/(d1=false/\v1=0))):=Ld HH.out;clear HH M N HR;obtain⟨h0,h1⟩:=b0.out;clear b0;rcases h0 with⟨rfl,rfl,j⟩|⟨rfl,rfl,j⟩|⟨rfl,j⟩<;>rcases h1 with⟨rfl,rfl,k⟩|⟨rfl,rfl,k⟩|⟨rfl,k⟩
 all_goals as_aux_lemma=>
  have HV:=Ld (And.intro j k);clear j k;refine ah (λw'=>Bx prog bT w w' _ (λw=>bE w p tot X)) [(true,0),(true,1),(false,2),(true,3),(true,4),(true,5),(true,6),(true,7),(true,8)] (by kernel_rfl) (by kernel_rfl) (d.out.new (aa.dr (aa.refl _))) (λO=>?_);refine tq 1 (λ_ h=>h) rfl rfl rfl rfl rfl rfl (GA _ I.out) ?_;simp only[Act.put,bC,bD,bF];refine af (o:=.mk ..) rfl (λK i=>?_);go_simp;refine i _ ?_;clear i K;refine aj (o:=.mk ..) rfl (λK i=>?_) (.inl rfl);go_simp;refine(HM.out _ (d.out.nw.tr (aa.dr (aa.refl _)))).1.mono ?_;rintro e w3 ⟨rfl,u⟩;have f:=d.out.new ((aa.dr (aa.refl _)).tr u);go_simp;refine i.out _ _ (λ_=>f) ?_;clear i K u d;have d:=Ld f;clear f
  iterate 6 (refine af (o:=.mk ..) rfl (λK i=>?_);go_simp;refine i _ ?_;clear i K)
  refine au ?_;clear O
  go_upto_region 7 with fail;refine ah (λw'=>Bx prog bT w w' _ (λw=>bE w p tot X)) [(true,0),(true,1),(false,2),(true,3),(true,4),(true,5),(true,6),(true,7),(true,8)] (by kernel_rfl) (by kernel_rfl) (d.out.new (aa.dr (aa.refl _))) (λO=>?_);refine tq 2 (λ_ h=>h) rfl rfl rfl rfl rfl rfl (GA _ J.out) ?_;simp only[Act.put,bC,bD,bF];refine af (o:=.mk ..) rfl (λK i=>?_);go_simp;refine i _ ?_;clear i K;refine aj (o:=.mk ..) rfl (λK i=>?_) (.inl rfl);go_simp;refine(HM.out _ (d.out.nw.tr (aa.dr (aa.refl _)))).2.mono ?_;rintro e w4 ⟨rfl,u⟩;have f:=d.out.new ((aa.dr (aa.refl _)).tr u);go_simp;refine i.out _ _ (λ_=>f) ?_;clear i K u d;have d:=Ld f;clear f
  iterate 6 (refine af (o:=.mk ..) rfl (λK i=>?_);go_simp;refine i _ ?_;clear i K)
  refine au ?_;clear O
  go_wp2_with fail;go_ret;refine⟨?_,d.out.nw⟩;have h1:=HV.out;have h2:=b9.out;refine congrArg (λz:Int=>Ending.returned (.int .u32 z)) (?_:(_:Int)=(vm:Int));omega
def FY(x:Array Value)(off:Nat)(X:Array Value):Prop:=∀j v,X[j]?=some v->x[off+j]?=some v
def ju(x:Array Value)(off:Nat)(X:Array Value):Array Value:=(splice x.toList off X.toList).toArray
section
variable {P:Program}{T:List TypeId}{w0 w:World}{L:List nP}{R:World->Prop}{B:nP}{ops:Array Oper}{rest:List Oper}{o:Oper}{a:Act}{Q:Exit->Act->World->Prop}{t:TypeId}{x y:Operand}{X Z:Array Value}{off:Nat}
theorem DE(i:Nat)(H:Bx P T w0 w L R)(s:o.op=.load t x)(C:Region.wanted o (yielded ops a.tmps)=true)(hi:L[i]?=some B)(D:a.eval x=.pointer (some ⟨B.b,off,none⟩))(u:gg P t X.size)(r:FY B.x off X)
    (h:wpList P ops Q rest (a.put o.dst (.agg X)) w):wpList P ops Q (o::rest) a w:=by
 obtain⟨⟨d,h2,f⟩,k⟩:=u;refine dH (cs:=X.toList) C x s D (λj v z=>?_) h2 f k h;rw[(H.blk i hi).cell];exact r j v (by simpa using z)
theorem Ep(i:Nat)(H:Bx P T w0 w L R)(f:o.op=.store t x y)(r:Region.wanted o (yielded ops a.tmps)=true)(hi:L[i]?=some B)(s:a.eval x=.pointer (some ⟨B.b,off,none⟩))(u:a.eval y=.agg X)(j:(P.info? t).map (·.size)=some X.size)(hl:off+X.size<=B.x.size)(h1:X.all (·.oneCell')=true)(hz:ju B.x off X=Z)
    (h:∀w',Bx P T w0 w' (L.set i ⟨B.b,B.t,Z⟩) R->wpList P ops Q rest (a.put o.dst undef) w'):wpList P ops Q (o::rest) a w:=by
 subst hz;refine fW (cur:=B.x.toList) (cells:=X.toList) r x y f s (by simpa using u) (by simpa using H.blk i hi) (by simpa using hl) j (λv k=>?_) λw' d hF=>h w' (H.set hi d ?_ hF)
 ·exact(Array.all_eq_true_iff_forall_mem.1 h1) v (by simpa using k)
 ·simp[ju,splice];omega
theorem EQ{n:Nat}(i:Nat)(H:Bx P T w0 w L R)(hi:L[i]?=some B)(ht:B.t=t)(d:jy n X)(f:gg P t n):X.size=B.x.size:=by
 have h1:=(H.bx.at hi).2.2.symm.trans (ht▸f).2;injection h1 with h1;exact d.sz.trans h1.symm
theorem eK(i:Nat){n:Nat}{K:Act->World->Prop}{F:Prop}(H:Bx P T w0 w L R)(u:o.op=.store t x y)(C:Region.wanted o (yielded ops a.tmps)=true)(hi:L[i]?=some B)(D:a.eval x=.pointer (some ⟨B.b,0,none⟩))(ht:B.t=t)(E:a.eval y=.agg X)(j:jy n X)(z:gg P t n)
    (h:∀w',Hid (Bx P T w0 w' (L.set i ⟨B.b,B.t,X⟩) R)->Hid (Fr (λk=>k=B.b) w w')->K (a.put o.dst undef) w'):if Region.wanted o (yielded ops a.tmps)=true then Oper.wp P o a w K Q else F:=by
 have hz:=EQ i H hi ht j z;subst ht;obtain⟨f,⟨d,h2,G⟩,r⟩:=H.bx.at hi;exact cZ C x y u (by rw[hz];exact r) D E f hz.symm j.al λw' s hF=>h w' (Ld (H.set hi s hz hF)) (Ld hF)
theorem Bx.cell(h:Bx P T w0 w L R)(i:Nat)(hi:L[i]?=some B)(k:Nat){v:Value}(d:B.x[k]?=some v):w.cell? ⟨B.b,k,none⟩=some v:=by rw[(h.blk i hi).cell,d]
theorem xD{l:List Value}{off:Nat}(h:off<l.length)(v:Value):splice l off [v]=l.set off v:=by
 unfold splice;rw[List.set_eq_take_append_cons_drop,if_pos h];simp
theorem lE{w:World}{g off:Nat}{T ty:TypeId}{v:Value}{cur:Array Value}(u:v.cells= #[v])(h1:v.oneCell'=true)(d:ac w g T cur)(hl:off<cur.size)(hi:(P.info? ty).map (·.size)=some 1):
    ∃w',(Instr.storeAt ty (.pointer (some ⟨g,off,none⟩)) v).run P w=.ok () w'/\ac w' g T (ju cur off #[v])/\Fr (λk=>k=g) w w':=by
 have j:w.cell? ⟨g,off,none⟩=some cur[off]:=by rw[d.cell off];simp[hl]
 have r:=d.frozen off;have f:=d.set off v
 have e:cur.setIfInBounds off v=ju cur off #[v]:=by
  unfold ju;rw[show(#[v]:Array Value).toList=[v]from rfl,xD (by simpa using hl),<-bC]
 rw[e]at f;refine⟨w.setCell ⟨g,off,none⟩ v,?_,f,(Fr.refl (λk=>k=g) w).setCell (p:=⟨g,off,none⟩) (λ_=>rfl) _⟩
 cases hq:P.info? ty with
 |none=>simp[hq]at hi
 |some i=>
  have hz:i.size=1:=by simpa[hq]using hi
  simp only[Instr.storeAt,Instr.sureAddr,storeVar,u];have s:=λm=>run_store P w ⟨g,off,none⟩ v m h1
  simp[sizeOf,typeInfo,hq,hz,j,r,s,go_sem]
theorem Eo(i:Nat){v:Value}(H:Bx P T w0 w L R)(j:o.op=.store t x y)(s:Region.wanted o (yielded ops a.tmps)=true)(hi:L[i]?=some B)(u:a.eval x=.pointer (some ⟨B.b,off,none⟩))(z:a.eval y=v)(r:v.cells= #[v])(h1:v.oneCell'=true)(k:(P.info? t).map (·.size)=some 1)(hl:off<B.x.size)(hz:ju B.x off #[v]=Z)
    (h:∀w',Bx P T w0 w' (L.set i ⟨B.b,B.t,Z⟩) R->wpList P ops Q rest (a.put o.dst undef) w'):wpList P ops Q (o::rest) a w:=by
 subst hz;refine cH s λK f=>?_
 obtain⟨w',d,C,D⟩:=lE (P:=P) r h1 (H.blk i hi) hl k;unfold Oper.wp execOp;simp only[j,u,z,Sem.run_bind,d,Result.andThen_ok,Sem.run_pure];exact f _ _ (h w' (H.set hi C (by simp[ju,splice];omega) D))
theorem mL{w:World}{p:Addr}{v:Value}{d:TypeDesc}(hu:P.underlying t=some d)(hd:d.isRow=false)(i:w.cell? p=some v):(Instr.loadAt t (.pointer (some p))).run P w=.ok v w:=by
 have f:(underlying t).run P w=.ok d w:=by simp[underlying,go_sem,hu]
 cases d<;>first|(simp[TypeDesc.isRow]at hd;done)|simp[Instr.loadAt,Instr.sureAddr,loadVar,isAgg,f,i,go_sem]
theorem aM(i:Nat){v:Value}{d:TypeDesc}(H:Bx P T w0 w L R)(j:o.op=.load t x)(r:Region.wanted o (yielded ops a.tmps)=true)(hi:L[i]?=some B)(s:a.eval x=.pointer (some ⟨B.b,off,none⟩))(hu:P.underlying t=some d)(hd:d.isRow=false)(k:B.x[off]?=some v)
    (h:wpList P ops Q rest (a.put o.dst v) w):wpList P ops Q (o::rest) a w:=by
 refine cH r λK f=>?_
 unfold Oper.wp execOp;simp only[j,s,Sem.run_bind,mL hu hd (H.cell i hi off k),Result.andThen_ok,Sem.run_pure];exact f _ _ h
theorem mg.init{B:nP}:∀{L:List nP},mg P w (L++[B])->mg P w L
 | [],_=>trivial
 |C::L,h=>⟨h.1,λD d=>h.2.1 D (List.mem_append_left _ d),mg.init h.2.2⟩
theorem Bx.init(h:Bx P T w0 w (L++[B]) R):Bx P T w0 w L R:=⟨h.bx.init,λC d=>h.ty C (List.mem_append_left _ d),h.nw,h.r,h.sb⟩
theorem gg.sz{n m:Nat}(h:gg P t n)(d:gg P t m):n=m:=by
 have:=h.2.symm.trans d.2;injection this
theorem aX(i:Nat){n:Nat}(H:Bx P T w0 w L R)(j:o.op=.store t x y)(r:Region.wanted o (yielded ops a.tmps)=true)(hi:L[i]?=some B)(s:a.eval x=.pointer (some ⟨B.b,0,none⟩))(ht:B.t=t)(u:a.eval y=.agg X)(d:jy n X)(k:gg P t n)
    (h:∀w',Hid (Bx P T w0 w' (L.set i ⟨B.b,B.t,X⟩) R)->wpList P ops Q rest (a.put o.dst undef) w'):wpList P ops Q (o::rest) a w:=
 qm i H j r hi s ht u (d.sz.trans (gg.sz k (ht▸(H.bx.at hi).2))) d.al λw' f=>h w' (Ld f)
theorem bP{Y:Array Value}{n:Nat}(H:Bx P T w0 w L R)(k:o.op=.alloc t)(j:o.guard=none)(r:gg P t n)(f:(P.info? t).map (λi=>(i.zero,i.size))=some (some (.agg Y),Y.size))(ht:t∈T)
    (h:∀w' b,Hid (Bx P T w0 w' (L++[⟨b,t,Y⟩]) R)->wpList P ops Q rest (a.put o.dst (.pointer (some ⟨b,0,none⟩))) w'):wpList P ops Q (o::rest) a w:=
 vW H (Z:=.agg Y) k j f ht r.1 λw' b d=>h w' b (Ld d)
theorem dK{n:Nat}(H:Bx P T w0 w L R)(j:o.op=.box t x)(i:o.guard=none)(r:a.eval x=.agg X)(k:gg P t n)(f:jy n X)(ht:t∈T)
    (h:∀w' b,Hid (Bx P T w0 w' (L++[⟨b,t,X⟩]) R)->wpList P ops Q rest (a.put o.dst (.pointer (some ⟨b,0,none⟩))) w'):wpList P ops Q (o::rest) a w:=
 wh H j i r ht (by rw[f.sz];exact k) λw' b d=>h w' b (Ld d)
theorem pE(i:Nat){n:Nat}(H:Bx P T w0 w L R)(f:o.op=.load t x)(r:Region.wanted o (yielded ops a.tmps)=true)(hi:L[i]?=some B)(s:a.eval x=.pointer (some ⟨B.b,off,none⟩))(d:jy n X)(k:gg P t n)(j:FY B.x off X)
    (h:wpList P ops Q rest (a.put o.dst (.agg X)) w):wpList P ops Q (o::rest) a w:=
 DE i H f r hi s (by rw[d.sz];exact k) j h
theorem qn(i:Nat){n:Nat}(H:Bx P T w0 w L R)(j:o.op=.store t x y)(r:Region.wanted o (yielded ops a.tmps)=true)(hi:L[i]?=some B)(s:a.eval x=.pointer (some ⟨B.b,off,none⟩))(u:a.eval y=.agg X)(d:jy n X)(k:gg P t n)(hl:off+n<=B.x.size)(hz:ju B.x off X=Z)
    (h:∀w',Hid (Bx P T w0 w' (L.set i ⟨B.b,B.t,Z⟩) R)->wpList P ops Q rest (a.put o.dst undef) w'):wpList P ops Q (o::rest) a w:=
 Ep i H j r hi s u (by rw[d.sz];exact k.2) (by rw[d.sz];exact hl) d.al hz λw' f=>h w' (Ld f)
theorem og(i:Nat){v:Value}(H:Bx P T w0 w L R)(f:o.op=.store t x y)(r:Region.wanted o (yielded ops a.tmps)=true)(hi:L[i]?=some B)(s:a.eval x=.pointer (some ⟨B.b,off,none⟩))(u:a.eval y=v)(k:v.cells= #[v])(h1:v.oneCell'=true)(j:(P.info? t).map (·.size)=some 1)(hl:off<B.x.size)(hz:ju B.x off #[v]=Z)
    (h:∀w',Hid (Bx P T w0 w' (L.set i ⟨B.b,B.t,Z⟩) R)->wpList P ops Q rest (a.put o.dst undef) w'):wpList P ops Q (o::rest) a w:=
 Eo i H f r hi s u k h1 j hl hz λw' d=>h w' (Ld d)
end
def eE(X Y:Array Value)(t g b:Value):Array Value:=X++Y++ #[t,g,b]
theorem jy.five{X:Array Value}(h:jy 5 X):∃a b c d e,X= #[a,b,c,d,e]:=by
 obtain⟨l⟩:=X;have:=h.sz
 match l,this with
 | [a,b,c,d,e],_=>exact⟨a,b,c,d,e,rfl⟩
theorem jy.six{X:Array Value}(h:jy 6 X):∃a b c d e f,X= #[a,b,c,d,e,f]:=by
 obtain⟨l⟩:=X;have:=h.sz
 match l,this with
 | [a,b,c,d,e,f],_=>exact⟨a,b,c,d,e,f,rfl⟩
section
variable {X Y X' Y':Array Value}{t g b t' g' b':Value}
structure bi(X Y:Array Value):Prop where
 x:jy 5 X
 y:jy 6 Y
theorem bi.size(h:bi X Y):(eE X Y t g b).size=14:=by simp[eE,h.x.sz,h.y.sz]
theorem bi.all(h:bi X Y)(h1:t.oneCell'=true)(h2:g.oneCell'=true)(d:b.oneCell'=true):(eE X Y t g b).all (·.oneCell')=true:=by
 unfold eE;rw[Array.all_append,Array.all_append,h.x.al,h.y.al];simp[h1,h2,d]
theorem bi.d(h:bi X Y):FY (eE X Y t g b) 0 X:=λj v d=>by
 obtain⟨a1,f,i,k,r,rfl⟩:=h.x.five;obtain⟨s,b2,u,b4,b5,b6,rfl⟩:=h.y.six;have:=(Array.getElem?_eq_some_iff.1 d).1
 match j,this with
 | 0,_=>exact d
 | 1,_=>exact d
 | 2,_=>exact d
 | 3,_=>exact d
 | 4,_=>exact d
theorem bi.l(h:bi X Y):FY (eE X Y t g b) 5 Y:=λj v d=>by
 obtain⟨a1,f,i,k,r,rfl⟩:=h.x.five;obtain⟨s,b2,u,b4,b5,b6,rfl⟩:=h.y.six;have:=(Array.getElem?_eq_some_iff.1 d).1
 match j,this with
 | 0,_=>exact d
 | 1,_=>exact d
 | 2,_=>exact d
 | 3,_=>exact d
 | 4,_=>exact d
 | 5,_=>exact d
theorem bi.setD(h:bi X Y)(d:jy 5 X'):ju (eE X Y t g b) 0 X'=eE X' Y t g b:=by
 obtain⟨a1,f,i,j,k,rfl⟩:=h.x.five;obtain⟨r,b2,s,b4,b5,b6,rfl⟩:=h.y.six;obtain⟨u,c2,z,C,D,rfl⟩:=d.five;rfl
theorem bi.setL(h:bi X Y)(d:jy 6 Y'):ju (eE X Y t g b) 5 Y'=eE X Y' t g b:=by
 obtain⟨a1,f,i,j,k,rfl⟩:=h.x.five;obtain⟨r,b2,s,b4,b5,b6,rfl⟩:=h.y.six;obtain⟨u,c2,z,C,D,E,rfl⟩:=d.six;rfl
theorem bi.c(h:bi X Y):(eE X Y t g b)[11]?=some t/\(eE X Y t g b)[12]?=some g/\(eE X Y t g b)[13]?=some b:=by
 obtain⟨a1,d,f,i,j,rfl⟩:=h.x.five;obtain⟨k,b2,r,b4,b5,b6,rfl⟩:=h.y.six;exact⟨rfl,rfl,rfl⟩
theorem bi.set(h:bi X Y)(v:Value):ju (eE X Y t g b) 11 #[v]=eE X Y v g b/\ju (eE X Y t g b) 12 #[v]=eE X Y t v b/\ju (eE X Y t g b) 13 #[v]=eE X Y t g v:=by
 obtain⟨a1,d,f,i,j,rfl⟩:=h.x.five;obtain⟨k,b2,r,b4,b5,b6,rfl⟩:=h.y.six;exact⟨rfl,rfl,rfl⟩
theorem bi.row(h:bi X Y)(h1:t.oneCell'=true)(h2:g.oneCell'=true)(d:b.oneCell'=true):jy 14 (eE X Y t g b):=⟨h.size,h.all h1 h2 d⟩
end
theorem ca:gg prog 79 14:=⟨⟨_,underlying79,rfl⟩,by kernel_rfl⟩
def GB:Array Value:=eE CY qL (.slice none 0 0) (.int .u32 0) (.bool false)
theorem zR:(prog.info? 65).map (λi=>(i.zero,i.size))=some (some (.agg CY),CY.size):=by kernel_rfl
theorem zL:(prog.info? 75).map (λi=>(i.zero,i.size))=some (some (.agg qL),qL.size):=by kernel_rfl
theorem zS:(prog.info? 79).map (λi=>(i.zero,i.size))=some (some (.agg GB),GB.size):=by kernel_rfl
theorem GX:prog.built 68 []=some (ag az):=by kernel_rfl
def gm(q:DP)(tot:Nat)(c:Int)(w:World)(e:Ending)(w':World):Prop:=∃X',e=.returned (.tuple #[.agg X',.int .i64 c])/\bE w' q tot X'/\aa w w'
section
variable {w0 w w':World}{L:List nP}{R R2:World->Prop}{q:DP}{tot:Nat}{c:Int}{e:Ending}
theorem Bx.dks(h:Bx prog bT w0 w L R)(r:gm q tot c w e w')(k:∀w,R w->R2 w)(h2:kh w0.heap.size bT R2):∃X',e=.returned (.tuple #[.agg X',.int .i64 c])/\Hid (jy 5 X')/\Hid (Bx prog bT w0 w' L (λw=>bE w q tot X'/\R2 w)):=by
 obtain⟨X',j,d,i⟩:=r;exact⟨X',j,Ld d.row,Ld ((h.call i d (bq _ _ _)).rel (λf=>⟨f.2,k _ f.1⟩) ((bq _ _ _).and h2))⟩
end
section
variable {P:Program}{T:List TypeId}{w0 w:World}{L:List nP}{R:World->Prop}{Q:Exit->Act->World->Prop}{id:Nat}{a:Act}{l:List Oper}{o0 o1 o2 o3:Oper}{tA tB:TypeId}{x0 x1 x2 x3 y2 y3:Operand}{BA BB BC BD:nP}{n m:Nat}
theorem ue(tail:List (Bool×Nat))(f kb d z:Nat)(H:Bx P T w0 w L R)(hm:P.follows .mixedOrders=true)
    (hB:(Region.noSelect l.toArray&&decide (((true,0)::(true,1)::(false,2)::(false,3)::tail).length=l.toArray.size)&&lC .any l.toArray ((true,0)::(true,1)::(false,2)::(false,3)::tail) (Array.replicate l.toArray.size false))=true)
    (e0:l.toArray[0]?=some o0) (e1:l.toArray[1]?=some o1) (e2:l.toArray[2]?=some o2) (e3:l.toArray[3]?=some o3)
    (p0:o0.op=.load tA x0) (p1:o1.op=.load tB x1) (p2:o2.op=.store tA x2 y2) (p3:o3.op=.store tB x3 y3)
    (hA:L[f]?=some BA) (hb:L[kb]?=some BB) (hC:L[d]?=some BC) (hD:(L.set d ⟨BC.b,BC.t,BA.x⟩)[z]?=some BD) (F:(L.set d ⟨BC.b,BC.t,BA.x⟩)[f]?=some BA) (J:(L.set d ⟨BC.b,BC.t,BA.x⟩)[kb]?=some BB) (G:((L.set d ⟨BC.b,BC.t,BA.x⟩).set z ⟨BD.b,BD.t,BB.x⟩)[f]?=some BA) (M:((L.set d ⟨BC.b,BC.t,BA.x⟩).set z ⟨BD.b,BD.t,BB.x⟩)[kb]?=some BB)
    (i0:Region.wanted o0 (yielded l.toArray a.tmps)=true) (v0:a.eval x0=.pointer (some ⟨BA.b,0,none⟩))
    (i1:Region.wanted o1 (yielded l.toArray (a.put o0.dst (.agg BA.x)).tmps)=true) (v1:(a.put o0.dst (.agg BA.x)).eval x1=.pointer (some ⟨BB.b,0,none⟩))
    (U:Region.wanted o2 (yielded l.toArray ((a.put o0.dst (.agg BA.x)).put o1.dst (.agg BB.x)).tmps)=true) (v2:((a.put o0.dst (.agg BA.x)).put o1.dst (.agg BB.x)).eval x2=.pointer (some ⟨BC.b,0,none⟩)) (u2:((a.put o0.dst (.agg BA.x)).put o1.dst (.agg BB.x)).eval y2=.agg BA.x)
    (V:Region.wanted o3 (yielded l.toArray (((a.put o0.dst (.agg BA.x)).put o1.dst (.agg BB.x)).put o2.dst undef).tmps)=true) (v3:(((a.put o0.dst (.agg BA.x)).put o1.dst (.agg BB.x)).put o2.dst undef).eval x3=.pointer (some ⟨BD.b,0,none⟩)) (u3:(((a.put o0.dst (.agg BA.x)).put o1.dst (.agg BB.x)).put o2.dst undef).eval y3=.agg BB.x)
    (b0:BA.t=tA) (b1:BB.t=tB) (O:BC.t=tA) (S:BD.t=tB) (rA:jy n BA.x) (rB:jy m BB.x) (qA:gg P tA n) (qB:gg P tB m)
    (h:Nonempty (HW λw:World=>ac w BA.b BA.t BA.x/\ac w BB.b BB.t BB.x)->∀w',Hid (Bx P T w0 w' ((L.set d ⟨BC.b,BC.t,BA.x⟩).set z ⟨BD.b,BD.t,BB.x⟩) R)->dc P l.toArray (λw=>ac w BA.b BA.t BA.x/\ac w BB.b BB.t BB.x) l.toArray.size (fa Q) tail ((((a.put o0.dst (.agg BA.x)).put o1.dst (.agg BB.x)).put o2.dst undef).put o3.dst undef) w'):(Code.region id l.toArray true).wp P Q a w:=by
 have E:=H.new (aa.dr (aa.refl w));obtain⟨⟨dA,i,j⟩,k⟩:=qA;obtain⟨⟨dB,r,s⟩,u⟩:=qB;refine ah (λw=>ac w BA.b BA.t BA.x/\ac w BB.b BB.t BB.x) ((true,0)::(true,1)::(false,2)::(false,3)::tail) hm hB ⟨E.blk f hA,E.blk kb hb⟩ (λN=>?_);refine bM (cs:=BA.x.toList) e0 i0 x0 p0 v0 (λw' h=>h.1.rangeOf) i j (by rw[Array.length_toList,rA.sz];exact k) ?_;refine bM (cs:=BB.x.toList) e1 i1 x1 p1 v1 (λw' h=>h.2.rangeOf) r s (by rw[Array.length_toList,rB.sz];exact u) ?_;refine aj e2 (λK I=>?_) (.inl U);refine eK d E p2 U hC v2 O u2 rA ⟨⟨dA,i,j⟩,k⟩ ?_;intro w1 C _;refine I.out _ _ (λ_=>⟨C.out.blk f F,C.out.blk kb J⟩) ?_;refine aj e3 (λK I=>?_) (.inl V);refine eK z C.out p3 V hD v3 S u3 rB ⟨⟨dB,r,s⟩,u⟩ ?_;intro w2 D _;exact I.out _ _ (λ_=>⟨D.out.blk f G,D.out.blk kb M⟩) (h N w2 D)
end
def AI(p:DP)(a b c tot:Nat)(w:World)(e:Ending)(w':World):Prop:=
 ∃X' Y',e=.returned (.tuple #[.agg X',.agg Y',.int .i64 (aB p (bZ a b c)).2])/\bE w' (aB p (bZ a b c)).1 (tot+b) X'/\jy 6 Y'/\((aB p (bZ a b c)).2=0->fZ w' (bZ a b c) Y')/\aa w w'
theorem vi{w:World}{p:DP}{tot:Nat}{X:Array Value}(h:bE w p tot X)(ht:tot<=50000)(a b c:Nat)(hb:1<=b)(i:a+b<=p.size)(S:c<4294967296)(E:c≠0):
    Calls prog 74 #[.agg X,.int .i64 a,.int .i64 b,.int .u32 c] w (AI p a b c tot w):=by
 have I:=h.ok.s2;have HX:=Ld h.row;have HS:=Ld h.size
 have s:Hid (∀B cc W,aa w W->Calls prog 119 #[.agg X,.agg #[.int .i64 a,.int .i64 b,.int .i64 0,.int .u32 c,.slice B 16 cc,.bool false]] W (gm (aB p (bZ a b c)).1 (tot+b) (aB p (bZ a b c)).2 W)):=Ld λB cc W hN=>by
  obtain⟨r,A1,c1,A2,c2,rfl,hr,hm,h1⟩:=h.ex;have h0:=nA r A1 c1 A2 c2 B cc (hr.new hN) hm h.ok (by omega) (fv i S);refine h0.mono ?_;rintro e w' ⟨r',E1,f1,E2,f2,he,b8,b0,c5,V⟩;exact⟨_,he,⟨(iS h.ok (fv i S) E).1,r',E1,f1,E2,f2,rfl,b8,b0,by have:(bZ a b c).size=b:=rfl;omega⟩,V⟩
 have U:Hid (∀W B,ei 5 W 1 B 16 (an (List.replicate 16 0))->fZ W (bZ a b c) #[.int .i64 a,.int .i64 b,.int .i64 0,.int .u32 c,.slice B 16 16,.bool false]):=Ld λW B hr=>⟨B,16,rfl,hr,(λx hx=>by have:=List.eq_of_mem_replicate hx;omega),S,by show a<=_;omega,by show b<=_;omega,by show 0<=_;omega⟩
 have d:Hid (Bx prog bT w w [] (λw=>bE w p tot X)):=Ld (Bx.start h (bq _ _ _));obtain⟨F,hF⟩:=nm (AI p a b c tot w);rw[<-hF];obtain⟨q,hq⟩:=nm (aB p (bZ a b c)).1;obtain⟨z,j⟩:=nm (aB p (bZ a b c)).2
 have HF:Hid (∀X' Y' w',bE w' q (tot+b) X'->jy 6 Y'->(z=0->fZ w' (bZ a b c) Y')->aa w w'->F (.returned (.tuple #[.agg X',.agg Y',.int .i64 z])) w'):=Ld λX' Y' w' h1 h2 h3 h4=>by
  rw[hF,j];exact⟨X',Y',rfl,hq▸h1,h2,λh=>h3 (j.trans h),h4⟩
 rw[<-hq,<-j]at s;obtain⟨n,H⟩:=nm p.size;rw[<-H]at HS i I;obtain⟨m,hm⟩:=nm (n-a);have h5:(n:Int)-(a:Int)=(m:Int):=by omega
 have h6:(b:Int)<=(m:Int):=by omega
 have h7:(m:Int)<=16384:=by omega
 have c0:(a:Int)<(n:Int):=by omega
 have c':1<=(b:Int):=by omega
 have b9:0<=(a:Int):=by omega
 have c4:((c:Int)==0)=false:=by simp;omega
 have c3:¬(c:Int)=0:=by omega
 have n1:¬n<=a:=by omega
 have n2:¬m<b:=by omega
 have n3:¬b<1:=by omega
 have n4:¬b=0:=by omega
 have n5:¬c=0:=by omega
 clear h ht hb i S E I H hm hq j hF;obtain⟨i0,hi,J,M,N⟩:=info_parts ym;have O:=Ld (And.intro hi (And.intro J (And.intro M N)));clear hi J M N
 go_enter func74,ntmps74
 go_upto_region 5 with (first
  |(refine dK d.out rfl rfl rfl cI HX.out (by decide) ?_;clear d;intro C b1 d)
  |(refine bP d.out rfl rfl cI zR (by decide) ?_;clear d;intro C b2 d)
  |(refine bP d.out rfl rfl fR zL (by decide) ?_;clear d;intro C b3 d)
  |(refine eP 3 rfl ?_;refine aM 0 d.out rfl rfl rfl rfl underlying3 rfl HS.out ?_)
  |((with_reducible refine dM ⟨some 42,.makeSlice _ _ _,_,_,_,_⟩ ?_);refine wpList_make_full _ rfl _ _ 33 rfl _ 5 i0 (.int .u8 0) 1 underlying33 O.out.1 O.out.2.1 O.out.2.2.1 .i64 .i64 16 16 16 rfl rfl rfl rfl (by rw[O.out.2.2.2];omega) (by unfold maxLen;omega) (Nat.le_refl _) ?_;intro w4 D G;have h1:=oE 16;have u:=D;rw[h1]at u;replace d:=Ld ((d.out.call ((aa.refl _).fr ((Fr.refl ic _).grown G (λ_ _ h=>by cases h)) (λk h=>h.elim)) (U.out _ _ (ei.own u rfl)) (dL _ _)));clear D u G h1)
  |(refine eP 65 rfl ?_;refine be 0 d.out rfl rfl rfl rfl rfl ?_)
  |(refine eP 75 rfl ?_;refine be 3 d.out rfl rfl rfl rfl rfl ?_)
  |(go_at_call 119;refine(s.out _ _ _ d.out.nw).mono ?_;intro e w3 hs;have hb:=d.out.dks hs (λ_ h=>h.2) (dL _ _);clear d hs;obtain⟨X1,rfl,f,d⟩:=hb)
  |(refine gc 75 rfl ?_;refine aX 3 d.out rfl rfl rfl rfl rfl rfl ⟨rfl,by simp[Value.oneCell']⟩ fR ?_;clear d;intro C d)
  |(refine gc 65 rfl ?_;refine aX 0 d.out rfl rfl rfl rfl rfl rfl f.out cI ?_;clear d;intro C d))
 by_cases hz:z=0
 ·subst hz
  go_upto_region 7 with fail;refine ue [(true,4)] 0 3 1 2 d.out (by kernel_rfl) (by kernel_rfl) rfl rfl rfl rfl rfl rfl rfl rfl rfl rfl rfl rfl rfl rfl rfl rfl rfl rfl rfl rfl rfl rfl rfl rfl rfl rfl rfl rfl rfl rfl f.out ⟨rfl,by simp[Value.oneCell']⟩ cI fR ?_;clear d;intro b7 w5 d;simp only[Act.put,bC,bD,bF];refine af (o:=.mk ..) rfl (λK hK=>?_);go_simp;refine hK _ ?_;clear hK K;refine au ?_;clear b7
  go_wp2_with fail;refine bodyPost_ret (et rfl _ _ _ _ _ _ _ _ rfl (d.out.blk 1 rfl) underlying65 rfl (by rw[f.out.sz];kernel_rfl) rfl (d.out.blk 2 rfl) underlying75 rfl (by kernel_rfl)) rfl ?_;exact HF.out _ _ _ d.out.r.1 ⟨rfl,by simp[Value.oneCell']⟩ (λ_=>d.out.r.2) d.out.nw
 ·have c6:(z==0)=false:=by simpa using hz
  go_wp2_with (first
   |(refine eP 65 rfl ?_;refine be 0 d.out rfl rfl rfl rfl rfl ?_)
   |(refine gc 65 rfl ?_;refine aX 1 d.out rfl rfl rfl rfl rfl rfl f.out cI ?_;clear d;intro C d)
   |(refine gc 75 rfl ?_;refine aX 2 d.out rfl rfl rfl rfl rfl rfl kH fR ?_;clear d;intro C d))
  refine bodyPost_ret (et rfl _ _ _ _ _ _ _ _ rfl (d.out.blk 1 rfl) underlying65 rfl (by rw[f.out.sz];kernel_rfl) rfl (d.out.blk 2 rfl) underlying75 rfl (by kernel_rfl)) rfl ?_;exact HF.out _ _ _ d.out.r.1 kH (λh=>absurd h hz) d.out.nw
def bL:List TypeId:=[65,75]
theorem nB(p:DP)(tot:Nat)(X:Array Value){n:Nat}:kh n bL (λw=>bE w p tot X):=⟨λ_ _ d h=>h.new d,λ_ _ _ _ _ ht _ f hF h=>h.st f hF (by rintro rfl;revert ht;decide)⟩
theorem CE(l:LG)(Y:Array Value){n:Nat}:kh n bL (λw=>fZ w l Y):=⟨λ_ _ d h=>h.new d,λ_ _ _ _ _ ht _ f hF h=>h.st f hF (by rintro rfl;revert ht;decide)⟩
theorem xF(A:Option Addr)(n:Nat)(xs:List Value){k:Nat}:kh k bL (λw=>ei 68 w 64 A n xs):=⟨λ_ _ d h=>h.new d,λ_ _ b t _ ht _ f hF h=>h.fr hF (λj i=>by rw[show j=b from i];exact aK.not_blk f (by rintro rfl;revert ht;decide))⟩
def sB(r:DP×LG×Int)(tot:Nat)(w:World)(e:Ending)(w':World):Prop:=∃X' Y',e=.returned (.tuple #[.agg X',.agg Y',.int .i64 r.2.2])/\bE w' r.1 tot X'/\fZ w' r.2.1 Y'/\aa w w'
theorem uf{p:DP}{l:LG}{b:List Int}{k:Nat}(h:(writeN p l b k).2≠0):∀j,k<=j->writeN p l b j=writeN p l b k:=λj f=>by
 induction j with
 |zero=>rw[show k=0 by omega]
 |succ j d=>
  by_cases e:k=j+1
  ·rw[e]
  ·have h1:=d (by omega);show(if(writeN p l b j).2≠0 then _ else _)=_;rw[h1,if_pos h]
theorem Bx.addN{P:Program}{T:List TypeId}{w0 w w':World}{L:List nP}{R:World->Prop}{b:Nat}{t:TypeId}{x:Array Value}(h:Bx P T w0 w L R)(f:aa w w')(i:ac w' b t x)(hl:w.heap.size<=b)(ht:t∈T)(j:gg P t x.size):Bx P T w0 w' (L++[⟨b,t,x⟩]) R:=by
 have h1:=h.new f;refine⟨mg.add i j h1.bx λB d=>Nat.ne_of_lt (Nat.lt_of_lt_of_le (h.bx.lt B d) hl),λB d=>?_,h1.nw,h1.r,h1.sb⟩;rcases List.mem_append.1 d with d|d
 ·exact h.ty B d
 ·rw[List.mem_singleton.1 d];exact⟨ht,Nat.le_trans h.nw.size hl⟩
theorem Ei{Y:Array Value}{v u:Value}(h:Y[2]?=some v)(hz:Y.size=6):(ju Y 4 #[u])[2]?=some v:=by
 obtain⟨l⟩:=Y
 match l,hz with
 | [a,b,c,d,e,f],_=>exact h
theorem CC{Y:Array Value}{u:Value}(hz:Y.size=6):(ju Y 4 #[u]).size=6:=by
 obtain⟨l⟩:=Y
 match l,hz with
 | [a,b,c,d,e,f],_=>rfl
structure GR(w:World)(b3 b4 b6 b7:Nat)(p:DP)(l:LG)(x:List Int)(tot:Nat)(Y:Array Value)(C:Option Addr)(K:Nat)(k:Nat)(wr:World):Prop where
 ex:∃X,Bx prog bL w wr [⟨b3,65,X⟩,⟨b4,75,Y⟩,⟨b6,65,CY⟩,⟨b7,75,qL⟩] (λw=>bE w (writeN p l x k).1 (tot+k) X/\ei 68 w 64 C K (iu l x K))/\jy 5 X/\(writeN p l x k).2=0
theorem DY{q:Nat->Prop}{w:World}{p:DP}{tot:Nat}{X Y:Array Value}{l:LG}(h:bE w p tot X)(H:fZ w l Y)(hl:l.Ok p.size)(B:Option Addr)(n d:Nat)(x:List Int)(hR:Rd q w 1 B n (an x))(hn:n<=maxLen)(u:aA n=0\/l.broken=true\/l.size-l.used<aA n):
    Calls prog 81 #[.agg X,.agg Y,.slice B n d] w (sB (p,l,if aA n=0 then 2 else if l.broken=true then 10 else 8) tot w):=by
 have E:=Ld h.row;have F:=Ld H.row;have r:Hid (∀W,Calls prog 86 #[.int .i64 n] W λe w'=>e=.returned (.int .i64 (aA n:Nat))/\W=w'):=Ld λW=>by rw[<-jM];exact fS (n:Int) W
 have G:=iO n;obtain⟨z,hs⟩:=nm (aA n);rw[<-hs]at r u G⊢;have hu:=hl.used;have hf:=hl.fit;have hz:=h.ok.s2;have f:Hid (Bx prog bL w w [] (λw=>bE w p tot X/\fZ w l Y)):=Ld (Bx.start ⟨h,H⟩ ((nB _ _ _).and (CE _ _)));obtain⟨sz,C⟩:=nm l.size;obtain⟨O,D⟩:=nm l.used;obtain⟨br,s⟩:=nm l.broken
 have k:Hid (Y[1]?=some (.int .i64 sz)/\Y[2]?=some (.int .i64 O)/\Y[5]?=some (.bool br)):=Ld (by
  obtain⟨A,c,rfl,-⟩:=H.ex;rw[C,D,s]
  exact⟨rfl,rfl,rfl⟩)
 obtain⟨t,ht⟩:=nm (O+z);have e1:(O:Int)+(z:Int)=(t:Int):=by omega
 have e2:IntKind.i64.wrap (t:Int)=(t:Int):=IntWalk.i64_in _ (by omega);rw[<-C,<-D,<-s]at u;rw[<-s];obtain⟨I,i⟩:=nm (if z=0 then(2:Int)else if br=true then 10 else 8);rw[<-i]
 have M:(z=0/\I=2)\/(z≠0/\br=true/\I=10)\/(z≠0/\br=false/\sz<t/\I=8):=by
  by_cases h0:z=0
  ·exact .inl ⟨h0,by rw[i,if_pos h0]⟩
  ·cases br with
   |true=>exact .inr (.inl ⟨h0,rfl,by rw[i,if_neg h0,if_pos rfl]⟩)
   |false=>exact .inr (.inr ⟨h0,rfl,by rcases u with h1|h1|h1;exact absurd h1 h0;cases h1;omega,by rw[i,if_neg h0,if_neg (by simp)]⟩)
 clear h H hl hR u G hu hf hz C D s ht hs i;rcases M with⟨rfl,rfl⟩|⟨h0,rfl,rfl⟩|⟨h0,rfl,h1,rfl⟩
 focus
  go_enter func81,ntmps81
  go_upto_region 3 with (first
   |(refine dK f.out rfl rfl rfl cI E.out (by decide) ?_;clear f;intro j S f)
   |(refine dK f.out rfl rfl rfl fR F.out (by decide) ?_;clear f;intro j b4 f)
   |(refine bP f.out rfl rfl cI zR (by decide) ?_;clear f;intro j b6 f)
   |(refine bP f.out rfl rfl fR zL (by decide) ?_;clear f;intro j U f)
   |(go_at_call 86;refine(r.out _).mono ?_;rintro e w2 ⟨rfl,rfl⟩)
   |(refine eP 4 rfl ?_;refine aM 1 f.out rfl rfl rfl rfl underlying4 rfl k.out.2.2 ?_)
   |(refine eP 3 rfl ?_;first|(refine aM 1 f.out rfl rfl rfl rfl underlying3 rfl k.out.1 ?_)|(refine aM 1 f.out rfl rfl rfl rfl underlying3 rfl k.out.2.1 ?_)))
 rotate_left
 focus
  have J:((z:Int)==0)=false:=by simp;omega
  go_enter func81,ntmps81
  go_upto_region 5 with (first
   |(refine dK f.out rfl rfl rfl cI E.out (by decide) ?_;clear f;intro j S f)
   |(refine dK f.out rfl rfl rfl fR F.out (by decide) ?_;clear f;intro j b4 f)
   |(refine bP f.out rfl rfl cI zR (by decide) ?_;clear f;intro j b6 f)
   |(refine bP f.out rfl rfl fR zL (by decide) ?_;clear f;intro j U f)
   |(go_at_call 86;refine(r.out _).mono ?_;rintro e w2 ⟨rfl,rfl⟩)
   |(refine eP 4 rfl ?_;refine aM 1 f.out rfl rfl rfl rfl underlying4 rfl k.out.2.2 ?_)
   |(refine eP 3 rfl ?_;first|(refine aM 1 f.out rfl rfl rfl rfl underlying3 rfl k.out.1 ?_)|(refine aM 1 f.out rfl rfl rfl rfl underlying3 rfl k.out.2.1 ?_)))
 rotate_left
 focus
  have J:((z:Int)==0)=false:=by simp;omega
  have b0:(sz:Int)<(t:Int):=by omega
  go_enter func81,ntmps81
  go_upto_region 7 with (first
   |(refine dK f.out rfl rfl rfl cI E.out (by decide) ?_;clear f;intro j S f)
   |(refine dK f.out rfl rfl rfl fR F.out (by decide) ?_;clear f;intro j b4 f)
   |(refine bP f.out rfl rfl cI zR (by decide) ?_;clear f;intro j b6 f)
   |(refine bP f.out rfl rfl fR zL (by decide) ?_;clear f;intro j U f)
   |(go_at_call 86;refine(r.out _).mono ?_;rintro e w2 ⟨rfl,rfl⟩)
   |(refine eP 4 rfl ?_;refine aM 1 f.out rfl rfl rfl rfl underlying4 rfl k.out.2.2 ?_)
   |(refine eP 3 rfl ?_;first|(refine aM 1 f.out rfl rfl rfl rfl underlying3 rfl k.out.1 ?_)|(refine aM 1 f.out rfl rfl rfl rfl underlying3 rfl k.out.2.1 ?_)))
 all_goals
  refine ue [(true,4)] 0 1 2 3 f.out (by kernel_rfl) (by kernel_rfl) rfl rfl rfl rfl rfl rfl rfl rfl rfl rfl rfl rfl rfl rfl rfl rfl rfl rfl rfl rfl rfl rfl rfl rfl rfl rfl rfl rfl rfl rfl E.out F.out cI fR ?_;clear f;intro N w5 f;simp only[Act.put,bC,bD,bF];refine af (o:=.mk ..) rfl (λK V=>?_);go_simp;refine V _ ?_;clear V K;refine au ?_;clear N
  go_wp2_with fail;refine bodyPost_ret (et rfl _ _ _ _ _ _ _ _ rfl (f.out.blk 2 rfl) underlying65 rfl (by rw[E.out.sz];kernel_rfl) rfl (f.out.blk 3 rfl) underlying75 rfl (by rw[F.out.sz];kernel_rfl)) rfl ?_;exact⟨_,_,rfl,f.out.r.1,f.out.r.2,f.out.nw⟩
theorem wR{q:Nat->Prop}{w:World}{p:DP}{tot:Nat}{X Y:Array Value}{l:LG}(h:bE w p tot X)(ht:tot<=50000)(hy:fZ w l Y)(hl:l.Ok p.size)(hL:cX 3 1 w)(B:Option Addr)(n d:Nat)(x:List Int)(hR:Rd q w 1 B n (an x))(hb:ba x)(hn:n<=maxLen):
    Calls prog 81 #[.agg X,.agg Y,.slice B n d] w (sB (aD p l x) (tot+l.size) w):=by
 have c7:x.length=n:=by have:=hR.1;rw[ak]at this;omega
 by_cases c1:aA n=0\/l.broken=true\/l.size-l.used<aA n
 ·refine(DY h hy hl B n d x hR hn c1).mono ?_;rintro e w' ⟨X',Y',he,hd,hg,z⟩
  have e1:aD p l x=(p,l,if aA n=0 then 2 else if l.broken=true then 10 else 8):=by
   unfold aD;rw[c7]
   by_cases h0:aA n=0
   ·rw[if_pos h0,if_pos h0]
   ·rw[if_neg h0,if_neg h0]
    by_cases h1:l.broken=true
    ·rw[if_pos h1,if_pos h1]
    ·rw[if_neg h1,if_neg h1,if_pos ((c1.resolve_left h0).resolve_left h1)]
  rw[e1];exact⟨X',Y',he,hd.up (by omega),hg,z⟩
 have h0:aA n≠0:=λe=>c1 (.inl e)
 have i3:l.broken=false:=by
  cases hb:l.broken with
  |false=>rfl
  |true=>exact absurd (.inr (.inl hb)) c1
 have j':¬l.size-l.used<aA n:=λe=>c1 (.inr (.inr e))
 have g9:aD p l x=if(writeN p l x (aA n)).2≠0 then((writeN p l x (aA n)).1,{l with broken:=true},(writeN p l x (aA n)).2)else((writeN p l x (aA n)).1,l.step x,0):=by
  unfold aD;rw[c7,if_neg h0,if_neg (by rw[i3];decide),if_neg j']
 obtain⟨l1,l2,k1⟩:=eo h0;have f':=iO n;have hu:=hl.used;have hf:=hl.fit;have hz:=h.ok.s2;obtain⟨A,c,hY,hI⟩:=hy.ex;have O:=hI.num;have HX:=Ld h.row;have HY:=Ld hy.row;have g6:Hid (∀W,Calls prog 86 #[.int .i64 n] W λe w'=>e=.returned (.int .i64 (aA n:Nat))/\W=w'):=Ld λW=>by rw[<-jM];exact fS (n:Int) W
 have k5:Hid (∀k,k<=aA n->(writeN p l x k).1.Ok/\(writeN p l x k).1.size=p.size):=Ld λk hk=>⟨nN h.ok hl hb k (by omega),fI p l x k⟩
 have k6:Hid (∀k,aS (l.sec x k)):=Ld λk=>LG.sec_ok l hb k
 have g3:Hid (∀W,aa w W->Calls prog 130 #[.agg Y,.slice B n d] W λe w'=>∃C cc,e=.returned (.slice C (aA n) cc)/\ei 68 w' 64 C (aA n) (iu l x (aA n))/\aa W w'):=Ld λW z=>by
  rw[hY];refine(pT l A c B n d x (hL.new z) (hI.new z) (z.rd hR) hb (by omega) (aA n) k1).mono ?_;rintro e w' ⟨⟨C,cc,he,hO⟩,i'⟩;exact⟨C,cc,he,ei.own hO rfl,i'⟩
 have j6:Hid (∀W,aa w W->Calls prog 124 #[.slice A 16 c,.int .u32 l.gen,.slice B n d] W λe w'=>∃J S,e=.returned (.slice J 16 S)/\ei 5 w' 1 J 16 (an (fT l.tag l.gen x))/\aa W w'):=Ld λW z=>by
  refine(pY A c l.tag l.gen B n d x W (hL.new z) (hI.new z).tag hI.byt (z.rd hR) hb hI.gen (by omega)).mono ?_;rintro e w' ⟨⟨J,S,he,hO⟩,i'⟩;exact⟨J,S,he,ei.own hO rfl,i'⟩
 have l5:=Ld hy
 have g4:Hid (∀W J S,ei 5 W 1 J 16 (an (fT l.tag l.gen x))->fZ W (l.step x) (ju (ju Y 4 #[.slice J 16 S]) 2 #[.int .i64 ((l.used+aA n:Nat):Int)])):=Ld λW J S hr=>by
  refine⟨J,S,?_,hr,iw _ _ _,hI.gen,O.1,O.2.1,?_⟩
  ·rw[hY,<-c7];rfl
  ·show l.used+aA x.length<=100000;rw[c7];omega
 have j4:Hid (∀W,aa w W->fZ W {l with broken:=true} (ju Y 5 #[.bool true])):=Ld λW z=>by
  refine⟨A,c,by rw[hY];rfl,(hI.new z).tag,hI.byt,hI.gen,hI.num⟩
 obtain⟨D,hs⟩:=nm (aA n);rw[<-hs]at g6 g3 g4 k5 g9 h0 j' f';obtain⟨fs,i5⟩:=nm l.first;obtain⟨sz,j0⟩:=nm l.size;obtain⟨us,j1⟩:=nm l.used;obtain⟨gn,i6⟩:=nm l.gen
 have HC:Hid (Y[0]?=some (.int .i64 fs)/\Y[1]?=some (.int .i64 sz)/\Y[2]?=some (.int .i64 us)/\Y[3]?=some (.int .u32 gn)/\Y[4]?=some (.slice A 16 c)/\Y[5]?=some (.bool false)/\Y.size=6):=Ld (by
  rw[hY,i5,j0,j1,i6,<-i3]
  exact⟨rfl,rfl,rfl,rfl,rfl,rfl,rfl⟩)
 have f:Hid (Bx prog bL w w [] (λw=>bE w p tot X)):=Ld (Bx.start h (nB _ _ _));obtain⟨t,k2⟩:=nm (us+D);have e1:(us:Int)+(D:Int)=(t:Int):=by omega
 have e2:IntKind.i64.wrap (t:Int)=(t:Int):=IntWalk.i64_in _ (by omega);have e3:¬(sz:Int)<(t:Int):=by omega
 have l7:((D:Int)==0)=false:=by simp;omega
 have H:Hid (fs+us+D<=40000/\D<=sz/\tot<=50000/\D<=1193/\fs=l.first/\us=l.used/\t=us+D/\sz=l.size):=Ld ⟨by omega,by omega,ht,f',i5,j1,k2,j0⟩;rw[<-i6]at j6 g4;obtain⟨F,hF⟩:=nm (sB (aD p l x) (tot+l.size) w);rw[<-hF];have HF:=Ld hF;have j2:=Ld g9;clear h ht hy hl hL hR hb hn c7 c1 h0 i3 j' g9 l1 l2 k1 f' hu hf hz hY hI O hs i5 j0 j1 i6 k2 hF
 go_enter func81,ntmps81
 go_upto_region 9 with (first
  |(refine dK f.out rfl rfl rfl cI HX.out (by decide) ?_;clear f;intro w1 b3 f)
  |(refine dK f.out rfl rfl rfl fR HY.out (by decide) ?_;clear f;intro w1 b4 f)
  |(refine bP f.out rfl rfl cI zR (by decide) ?_;clear f;intro w1 b6 f)
  |(refine bP f.out rfl rfl fR zL (by decide) ?_;clear f;intro w1 b7 f)
  |(go_at_call 86;refine(g6.out _).mono ?_;rintro e w2 ⟨rfl,rfl⟩)
  |(refine eP 4 rfl ?_;refine aM 1 f.out rfl rfl rfl rfl underlying4 rfl HC.out.2.2.2.2.2.1 ?_)
  |(refine eP 3 rfl ?_;first|(refine aM 1 f.out rfl rfl rfl rfl underlying3 rfl HC.out.2.1 ?_)|(refine aM 1 f.out rfl rfl rfl rfl underlying3 rfl HC.out.2.2.1 ?_))
  |(refine eP 75 rfl ?_;refine be 1 f.out rfl rfl rfl rfl rfl ?_)
  |(go_at_call 130;refine(g3.out _ f.out.nw).mono ?_;rintro e w3 ⟨C,cc,rfl,hC,z⟩;replace f:=Ld ((f.out.call z hC (xF _ _ _)));clear z hC))
 have j3:Hid (GR w b3 b4 b6 b7 p l x tot Y C D 0 w3):=Ld ⟨⟨X,f.out,HX.out,rfl⟩⟩;clear f HX g3 g6
 go_wp2_with fail;go_loopw [11,12,13] (λi _ _ wr=>∃(k:Nat),k<=D/\i=.int .i64 k/\Hid (GR w b3 b4 b6 b7 p l x tot Y C D k wr)) (λi _ _ _=>D-(intOf i).toNat)
 case atStart=>exact⟨0,Nat.zero_le _,rfl,j3⟩
 case round=>
  clear j3;obtain⟨k,hk,rfl,HI⟩:=hrel;obtain⟨X1,hB,k',k3⟩:=HI.out.ex;have f:=Ld hB;have c9:=Ld k';have j7:=Ld k3;clear HI hB k' k3;have f':=H.out.2.2.2.1
  by_cases i7:k<D
  ·have c8:=Ld i7;have l':(k:Int)<(D:Int):=by omega
   have m':(0:Int)<=(k:Int):=by omega
   have i1:¬((k:Int)<0):=by omega
   obtain⟨gC,oC,rfl,-,-,k0⟩:=Rd.out f.out.r.2 (by omega) (by omega);obtain⟨sj,d'⟩:=nm (l.sec x k);have c6:Hid (aS sj):=Ld (by rw[d'];exact k6.out k)
   have j5:Hid (∀w',aa wr w'->w'.rangeAt gC (oC+k*64) (an sj)):=Ld λw' z i v hv=>by
    have hi:i<64:=by
     have:=(List.getElem?_eq_some_iff.1 hv).1
     rwa[ak,c6.out.1]at this
    rw[FU c6.out hi]at hv;injection hv with hv;subst hv;rw[Nat.add_assoc];refine z.cell_ (k0 (k*64+i) _ ?_);rw[d'];exact qh l x hi i7
   have O:=H.out;obtain⟨a1,k8⟩:=nm (fs+us);obtain⟨a,ha⟩:=nm (a1+k);have e4:(fs:Int)+(us:Int)=(a1:Int):=by omega
   have e5:IntKind.i64.wrap (a1:Int)=(a1:Int):=IntWalk.i64_in _ (by omega);have e6:(a1:Int)+(k:Int)=(a:Int):=by omega
   have e7:IntKind.i64.wrap (a:Int)=(a:Int):=IntWalk.i64_in _ (by omega);obtain⟨pn,i9⟩:=nm ((writeN p l x k).1.doWrite (a:Int) sj);obtain⟨ck,i4⟩:=nm ((writeN p l x k).1.wcode (a:Int))
   have c5:Hid (writeN p l x (k+1)=(pn,ck)):=Ld (by
    rw[jw j7.out,<-d',i9,i4,show l.first+l.used+k=a by omega])
   have g7:Hid (∀W,bE W (writeN p l x k).1 (tot+k) X1->Calls prog 32 #[.agg X1,.int .i64 (a:Int),.agg (ag sj)] W (gm pn (tot+(k+1)) ck W)):=Ld λW hd=>by
    rw[i9,i4];exact qg hd (by omega) _ (WalkArith.wf_i64 (by omega)) c6.out
   have q0:∀p':HW (aa wr),p'.w.cell? ⟨b4,0,none⟩=some (.int .i64 fs):=λp'=>(f.out.new p'.h).cell 1 rfl 0 HC.out.1
   have q2:∀p':HW (aa wr),p'.w.cell? ⟨b4,2,none⟩=some (.int .i64 us):=λp'=>(f.out.new p'.h).cell 1 rfl 2 HC.out.2.2.1
   clear k0 d' O k8 ha i9 i4
   go_wp2_with fail;apply lr (α:=Nat×Array Value) (λy w4=>Bx prog bL w w4 [⟨b3,65,X1⟩,⟨b4,75,Y⟩,⟨b6,65,CY⟩,⟨b7,75,qL⟩,⟨y.1,65,y.2⟩] (λw=>bE w pn (tot+(k+1)) y.2/\ei 68 w 64 (some ⟨gC,oC,none⟩) D (iu l x D))/\jy 5 y.2)
   case h1=>
    intro K' j9;refine bu (aa wr) (.take 0 (.take 1 (.take 2 (.take 3 (.take 4 (.take 5 (.take 6 (.take 7 (.take 8 (.take 9 (.take 10 (.take 11 (.two 12 (.take 13 (.take 14 (.take 15 (.act 16 (.act 17 (.take 18 .done)))))) 16 (.act 12 (.take 13 (.take 14 (.take 15 (.act 17 (.take 18 .done))))))))))))))))))) (by kernel_rfl) (by kernel_rfl) (aa.dr (aa.refl wr)) (λc0=>?_);refine ew (o:=.mk ..) (cs:=X1.toList) rfl rfl _ rfl rfl (λw' h=>((f.out.new h).blk 0 rfl).rangeOf) underlying65 rfl (by rw[Array.length_toList,c9.out.sz];rfl) ?_
    iterate 10 (refine ay (o:=.mk ..) rfl (λK u=>?_);go_simp;refine u _ ?_;clear u K)
    refine ew (o:=.mk ..) (cs:=an sj) rfl rfl _ rfl rfl (λw' h=>j5.out w' h) underlying68 rfl (by rw[ak,c6.out.1];rfl) ?_;simp only[Act.put,bC,bD,bF];refine⟨?_,?_⟩
    ·refine dJ (o:=.mk ..) rfl (λK u=>?_) (.inl rfl);go_simp;refine(g7.out _ (f.out.new (aa.dr (aa.refl _))).r.1).mono ?_;rintro e w4 ⟨X2,rfl,hD,z⟩;have M:Hid (aa wr w4):=Ld ((aa.dr (aa.refl _)).tr z);have s:=Ld hD.row;have b9:=Ld (((f.out.new (aa.dr (aa.refl _))).call z hD (nB _ _ _)).rel (R':=(λw=>bE w pn (tot+(k+1)) X2/\ei 68 w 64 (some ⟨gC,oC,none⟩) D (iu l x D))) (λh=>⟨h.2,h.1.2⟩) ((nB _ _ _).and (xF _ _ _)));clear z hD;go_simp;refine u.out _ _ M.out ?_;clear u K
     iterate 3 (refine ay (o:=.mk ..) rfl (λK u=>?_);go_simp;refine u _ ?_;clear u K)
     refine dW (o:=.mk ..) rfl rfl rfl rR ?_;intro G w5 E N b8;have U:=Ld (b9.out.addN b8 N (Nat.le_of_eq E.symm) (by decide) cI);have V:Hid (aa wr w5/\wr.heap.size<=G):=Ld ⟨M.out.tr b8,by rw[E];exact M.out.size⟩;refine⟨V.out.1,?_⟩;clear E N b8 b9 M;simp only[Act.put,bC,bD,bF];refine cL (o:=.mk ..) (cs:=X2) rfl rfl (.tmp 12) (.tmp 57) rfl (by rw[s.out.sz];rfl) rfl rfl (U.out.blk 4 rfl) (by rw[s.out.sz];rfl) s.out.al ?_;intro w6 I b1;have c3:=Ld (U.out.set (i:=4) rfl I (by rw[s.out.sz];rfl) b1);refine⟨V.out.1.fr b1 (λj hj=>by rw[show j=G from hj];exact V.out.2),?_⟩;clear I b1 U V;simp only[Act.put,bC,bD,bF];refine ay (o:=.mk ..) rfl (λK u=>?_);go_simp;refine u _ ?_;clear u K;refine aO ?_;have hz:=And.intro c3.out s.out;clear c3 s;obtain⟨y,y1,y2⟩:∃y:Nat×Array Value,G=y.1/\X2=y.2:=⟨(G,X2),rfl,rfl⟩
     subst y1 y2;exact j9.out y w6 hz
    ·refine ep (o:=.mk ..) rfl rfl rfl rR ?_;intro G w5 E N b8;have g5:Hid (aa wr w5):=Ld ((aa.dr (aa.refl _)).tr b8);have U:=Ld ((f.out.new (aa.dr (aa.refl _))).addN b8 N (Nat.le_of_eq E.symm) (by decide) cI);have V:Hid (wr.heap.size<=G):=Ld (by rw[E];exact(aa.dr (aa.refl wr)).size);refine⟨g5.out,?_⟩;clear E N b8;simp only[Act.put,bC,bD,bF];refine aC (o:=.mk ..) rfl (λK u=>?_) (.inl rfl);go_simp;refine(g7.out _ U.out.r.1).mono ?_;rintro e w4 ⟨X2,rfl,hD,z⟩;have M:Hid (aa wr w4):=Ld (g5.out.tr z);have s:=Ld hD.row;have b9:=Ld ((U.out.call z hD (nB _ _ _)).rel (R':=(λw=>bE w pn (tot+(k+1)) X2/\ei 68 w 64 (some ⟨gC,oC,none⟩) D (iu l x D))) (λh=>⟨h.2,h.1.2⟩) ((nB _ _ _).and (xF _ _ _)));clear z hD g5 U;go_simp;refine u.out _ _ M.out ?_;clear u K
     iterate 3 (refine ay (o:=.mk ..) rfl (λK u=>?_);go_simp;refine u _ ?_;clear u K)
     refine cL (o:=.mk ..) (cs:=X2) rfl rfl (.tmp 12) (.tmp 57) rfl (by rw[s.out.sz];rfl) rfl rfl (b9.out.blk 4 rfl) (by rw[s.out.sz];rfl) s.out.al ?_;intro w6 I b1;have c3:=Ld (b9.out.set (i:=4) rfl I (by rw[s.out.sz];rfl) b1);refine⟨M.out.fr b1 (λj hj=>by rw[show j=G from hj];exact V.out),?_⟩;clear I b1 b9 V M;simp only[Act.put,bC,bD,bF];refine ay (o:=.mk ..) rfl (λK u=>?_);go_simp;refine u _ ?_;clear u K;refine aO ?_;have hz:=And.intro c3.out s.out;clear c3 s;obtain⟨y,y1,y2⟩:∃y:Nat×Array Value,G=y.1/\X2=y.2:=⟨(G,X2),rfl,rfl⟩
     subst y1 y2;exact j9.out y w6 hz
   case h2=>
    rintro⟨G,X2⟩ w6 ⟨I,i0⟩;dsimp only at I i0;have f:=Ld I;have s:=Ld i0;clear I i0 c9 q0 q2 g7 j5 c6 e4 e5 e6 e7
    by_cases hc:ck=0
    ·subst hc
     go_wp2_with (first
      |(refine eP 65 rfl ?_;refine be 4 f.out rfl rfl rfl rfl rfl ?_)
      |(refine gc 65 rfl ?_;refine aX 0 f.out rfl rfl rfl rfl rfl rfl s.out cI ?_;clear f;intro w7 f))
     have k4:Hid (GR w b3 b4 b6 b7 p l x tot Y (some ⟨gC,oC,none⟩) D (k+1) w7):=Ld ⟨⟨X2,by rw[c5.out];exact f.out.init,s.out,by rw[c5.out]⟩⟩;clear f s c5;go_roundw
     case rel=>exact⟨k+1,c8.out,by go_num,k4⟩
     case measure=>simp[intOf];have:=c8.out;omega
    ·have l8:(ck==0)=false:=by simpa using hc
     go_upto_region 16 with (first
      |(refine eP 65 rfl ?_;refine be 4 f.out rfl rfl rfl rfl rfl ?_)
      |(refine gc 65 rfl ?_;refine aX 0 f.out rfl rfl rfl rfl rfl rfl s.out cI ?_;clear f;intro w7 f)
      |(refine gc 4 rfl ?_;refine og 1 (v:=.bool true) (Z:=ju Y 5 #[.bool true]) f.out rfl rfl rfl rfl rfl rfl rfl (by kernel_rfl) (by rw[HC.out.2.2.2.2.2.2];decide) rfl ?_;clear f;intro w8 f))
     have b0:=j4.out w8 f.out.nw;have g8:=Ld b0.row;have b0:=Ld b0;refine ah (λw=>ac w b3 65 X2/\ac w b4 75 (ju Y 5 #[.bool true])) [(true,0),(true,1),(true,2),(false,3),(false,4),(true,5)] (by kernel_rfl) (by kernel_rfl) ⟨(f.out.new (aa.dr (aa.refl _))).blk 0 rfl,(f.out.new (aa.dr (aa.refl _))).blk 1 rfl⟩ (λc0=>?_);refine bM (o:=.mk ..) (cs:=X2.toList) rfl rfl _ rfl rfl (λw' h=>h.1.rangeOf) underlying65 rfl (by rw[Array.length_toList,s.out.sz];rfl) ?_;refine bM (o:=.mk ..) (cs:=(ju Y 5 #[.bool true]).toList) rfl rfl _ rfl rfl (λw' h=>h.2.rangeOf) underlying75 rfl (by rw[Array.length_toList,g8.out.sz];rfl) ?_;simp only[Act.put,bC,bD,bF];refine af (o:=.mk ..) rfl (λK u=>?_);go_simp;refine u _ ?_;clear u K;refine aj (o:=.mk ..) rfl (λK u=>?_) (.inl rfl);refine eK 2 (f.out.new (aa.dr (aa.refl _))) rfl rfl rfl rfl rfl rfl s.out cI ?_;clear f;intro w9 f _;simp only[Act.put,bC,bD,bF];refine u.out _ _ (λ_=>⟨f.out.blk 0 rfl,f.out.blk 1 rfl⟩) ?_;clear u K;refine aj (o:=.mk ..) rfl (λK u=>?_) (.inl rfl);refine eK 3 f.out rfl rfl rfl rfl rfl rfl g8.out fR ?_;clear f;intro l4 f _;simp only[Act.put,bC,bD,bF];refine u.out _ _ (λ_=>⟨f.out.blk 0 rfl,f.out.blk 1 rfl⟩) ?_;clear u K;refine af (o:=.mk ..) rfl (λK u=>?_);go_simp;refine u _ ?_;clear u K;refine au ?_;clear c0
     go_wp2_with fail;refine bodyPost_ret (et rfl _ _ _ _ _ _ _ _ rfl (f.out.blk 2 rfl) underlying65 rfl (by rw[s.out.sz];kernel_rfl) rfl (f.out.blk 3 rfl) underlying75 rfl (by rw[g8.out.sz];kernel_rfl)) rfl ?_
     have l3:writeN p l x D=(pn,ck):=by
      rw[<-c5.out];exact uf (by rw[c5.out];exact hc) D c8.out
     rw[HF.out,j2.out,l3,if_pos hc];exact⟨_,_,rfl,f.out.r.1.up (by have:=H.out;have:=c8.out;omega),j4.out _ f.out.nw,f.out.nw⟩
  ·have l9:¬(k:Int)<(D:Int):=by omega
   have k9:k=D:=by omega
   subst k9;clear i7;have e8:(us:Int)+(k:Int)=(t:Int):=e1
   go_upto_region 19 with (first
    |(refine eP 33 rfl ?_;refine aM 1 f.out rfl rfl rfl rfl underlying33 rfl HC.out.2.2.2.2.1 ?_)
    |(refine eP 44 rfl ?_;refine aM 1 f.out rfl rfl rfl rfl underlying44 rfl HC.out.2.2.2.1 ?_)
    |(go_at_call 124;refine(j6.out _ f.out.nw).mono ?_;rintro e w7 ⟨J,S,rfl,hT,z⟩;replace f:=Ld ((f.out.call (R':=λw=>fZ w (l.step x) (ju (ju Y 4 #[.slice J 16 S]) 2 #[.int .i64 ((l.used+k:Nat):Int)])) z (g4.out _ _ _ hT) (CE _ _)));clear z hT)
    |(refine gc 33 rfl ?_;refine og 1 (v:=.slice J 16 S) (Z:=ju Y 4 #[.slice J 16 S]) f.out rfl rfl rfl rfl rfl rfl rfl (by kernel_rfl) (by rw[HC.out.2.2.2.2.2.2];decide) rfl ?_;clear f;intro w8 f)
    |(refine eP 3 rfl ?_;refine aM 1 f.out rfl rfl rfl rfl underlying3 rfl (Ei HC.out.2.2.1 HC.out.2.2.2.2.2.2) ?_)
    |(refine gc 3 rfl ?_;refine og 1 (v:=.int .i64 (t:Int)) (Z:=ju (ju Y 4 #[.slice J 16 S]) 2 #[.int .i64 (t:Int)]) f.out rfl rfl rfl rfl rfl rfl rfl (by kernel_rfl) (by rw[CC HC.out.2.2.2.2.2.2];decide) rfl ?_;clear f;intro w9 f))
   have c4:=f.out.r.2;have i2:ju (ju Y 4 #[.slice J 16 S]) 2 #[.int .i64 ((l.used+k:Nat):Int)]=ju (ju Y 4 #[.slice J 16 S]) 2 #[.int .i64 (t:Int)]:=by rw[H.out.2.2.2.2.2.2.1,H.out.2.2.2.2.2.1]
   have j8:Hid (jy 6 (ju (ju Y 4 #[.slice J 16 S]) 2 #[.int .i64 (t:Int)])):=Ld (by rw[<-i2];exact c4.row);have k7:=Ld i2;clear c4 i2;refine ue [(true,4)] 0 1 2 3 f.out (by kernel_rfl) (by kernel_rfl) rfl rfl rfl rfl rfl rfl rfl rfl rfl rfl rfl rfl rfl rfl rfl rfl rfl rfl rfl rfl rfl rfl rfl rfl rfl rfl rfl rfl rfl rfl c9.out j8.out cI fR ?_;clear f;intro c0 l4 f;have c0:Nonempty (HW λw:World=>ac w b3 65 X1/\ac w b4 75 (ju (ju Y 4 #[.slice J 16 S]) 2 #[.int .i64 (t:Int)])):=c0;simp only[Act.put,bC,bD,bF];refine af (o:=.mk ..) rfl (λK u=>?_);go_simp;refine u _ ?_;clear u K;refine au ?_;clear c0
   go_wp2_with fail;refine bodyPost_ret (et rfl _ _ _ _ _ _ _ _ rfl (f.out.blk 2 rfl) underlying65 rfl (by rw[c9.out.sz];kernel_rfl) rfl (f.out.blk 3 rfl) underlying75 rfl (by rw[j8.out.sz];kernel_rfl)) rfl ?_;rw[HF.out,j2.out,if_neg (by rw[j7.out];simp)];refine⟨_,_,rfl,f.out.r.1.1.up (by have:=H.out;omega),?_,f.out.nw⟩;have h1:=f.out.r.2;rw[k7.out]at h1;exact h1
end Go.Proofs.YtfchcdbfalgdlaaGreatDoor
namespace Go.Proofs.YtfchcdbfalgdlaaGreatDoor
open _root_.Go.Proofs.Tryz
open Go.RowKit Go.Sort Go.Maps
def GU(w:World)(A:Option Addr)(L:List (List Int)):Prop:=∀i l,L[i]?=some l->∃g o d f,A=some ⟨g,o,none⟩/\w.cell? ⟨g,o+i,none⟩=some (.slice d l.length f)/\ba l/\Rd (λ_=>True) w 1 d l.length (an l)
theorem eB.rowB{B:Nat}{w:World}{A:Option Addr}{n c:Nat}{L:List (List Int)}(h:eB B w (.slice A n c) L)(z:n=L.length):GU w A L:=by
 obtain⟨E,C,u⟩:=h.row;intro i l hl;have hi:=(List.getElem?_eq_some_iff.1 hl).1;obtain⟨g,o,r,-,-,s⟩:=(Rd.own C (by rw[z])).out (by omega) (by omega);obtain⟨d,f,h1,h2,D,j,k⟩:=u i l hl;exact⟨g,o,d,f,r,s i _ h1,j,k.imp (λ_ _=>trivial)⟩
theorem tN{p:DP}(i:p.Ok)(l:LG):∀k,∀b∈(runs p l k).2,b.length<=65536
 | 0,b,f=>by cases f
 |k+1,b,f=>by
  cases hn:nextL p (runs p l k).1 with
  |none=>rw[js hn 1]at f;exact tN i l k b f
  |some d=>
   rw[fG hn]at f;rcases List.mem_append.1 f with h|h
   ·exact tN i l k b h
   ·obtain rfl:=List.mem_singleton.1 h;obtain⟨h1,rfl⟩:=pK hn;rw[LG.body_len i h1.pos];exact(eo h1.pos).2.1
theorem lP:∀(K d:List (List Int)) (T:CT),bR T (K++d)=(bR T K).bind λt=>bR t d
 | [],_,_=>rfl
 |b::K,d,T=>by
  have e:∀X,bR T (b::X)=match eG b with|some L=>bR (doPs T L) X|none=>none:=λ_=>rfl
  rw[List.cons_append,e,e]
  cases eG b with
  |none=>rfl
  |some L=>exact lP K d _
theorem pN{K:List (List Int)}{T t:CT}{i:Nat}{l:List Int}(h:bR T (K.take i)=some t)(hl:K[i]?=some l)(d:eG l=none):bR T K=none:=by
 have e:K=K.take i++l::K.drop (i+1):=by
  have hi:=(List.getElem?_eq_some_iff.1 hl)
  rw[<-hi.2,List.getElem_cons_drop,List.take_append_drop]
 rw[e,lP,h];show bR t (l::_)=none;unfold bR;rw[d]
theorem rP{K:List (List Int)}{T t:CT}{i:Nat}{l:List Int}{L:List PC}(h:bR T (K.take i)=some t)(hl:K[i]?=some l)(d:eG l=some L):bR T (K.take (i+1))=some (doPs t L):=by
 rw[List.take_add_one,hl,lP,h];show bR t [l]=_;unfold bR;rw[d];rfl
theorem uM{l:List Int}{L:List PC}(h:eG l=some L):dN L=true:=by
 unfold eG at h;split at h
 ·next d=>injection h with h;rw[<-h];exact d.2
 ·cases h
theorem ou.off{w:World}{A:Option Addr}{n:Nat}{L:List Ch}{P:Program}{r:TypeId}{b m:Nat}{f:Lit->Option Value}(h:ou w A n L)(j:aJ w P r b m f):Rd (λk=>k≠b) w 3 A n (L.flatMap Ch.cells)/\∀c∈L,c.In (λk=>k≠b) w:=
 ⟨(lR h.rd j (by decide)).imp (λ_ d=>d.2),λc i=>⟨⟨(lR (h.el c i).k.rd j (by decide)).imp (λ_ d=>d.2),(h.el c i).k.byt⟩,⟨(lR (h.el c i).v.rd j (by decide)).imp (λ_ d=>d.2),(h.el c i).v.byt⟩⟩⟩
def oS(W w:World)(gd bs bf mm:Nat)(r:DP×Int×Option SW)(e:Ending)(w':World):Prop:=
 match r.2.2 with
 |some s=>∃d bt,e=.returned (.tuple #[.pointer (some ⟨d,0,none⟩),.nilIface])/\dO W w' d gd bs bf bt s mm/\w.heap.size<=d/\w.heap.size<=bt/\dZ (iY bs bf bs) W w w'
 |none=>e=.returned (.tuple #[.pointer none,dP r.2.1])/\dZ (iY bs bf bs) W w w'
section
variable {W w:World}{gd bs bf:Nat}{v:Value}{p:DP}
theorem vv {base:Nat} (f:Dk w base gd bs bf v p) (h:p.size<4):Calls prog 9 #[.pointer (some ⟨gd,0,none⟩)] w λe w'=>e= .returned (.tuple #[.pointer none,dP 1])/\w=w':=by
 have d:=Ld (mv f);rw[if_pos h,bK (by decide)]at d;rw[bK (by decide)];clear f h
 go_enter func9,ntmps9
 go_wp2_with fail;refine d.out.mono ?_;rintro e i ⟨rfl,rfl⟩
 go_wp2_with fail;go_ret2;exact⟨rfl,rfl⟩
theorem Ak(hD:Dk w W.heap.size gd bs bf v p)(hN:aa W w)(hL:dC 4 2 W)(hu:Up p)(h4:4<=p.size)(hr:(runL p (aW p.size (jC p))).2.length<=1600):
    Calls prog 9 #[.pointer (some ⟨gd,0,none⟩)] w (oS W w gd bs bf (600*(runL p (aW p.size (jC p))).2.length) (opnS p)):=by
 have HF:=Ld (mv hD);rw[if_neg (by omega),cg]at HF;have HC:=Ld (wk hD (by omega) (hL.new hN));have u:jC p<4294967296:=by rw[<-pj];exact mr hD.ok 2
 have b9:=Ld (λw1 (h:aa w w1)=>nt (hD.new h) (by omega) (jC p) u);have HD:=Ld hD;have HL:=Ld hL;have HN:=Ld hN;obtain⟨g,hg⟩:=nm (jC p);obtain⟨R,hR⟩:=nm (opnS p);obtain⟨rr,U⟩:=nm (runL p (aW p.size g));have HR:Hid (R=if g=0 then(p,(2:Int),(none:Option SW))else match bR [] rr.2 with|some t=>((aB p rr.1).1,0,some (⟨(aB p rr.1).1,rr.1,t,g,false⟩:SW))|none=>((aB p rr.1).1,2,none)):=Ld (by rw[hR];unfold opnS;rw[if_neg (by omega),<-hg,U];rfl);rw[<-hR];rw[<-hg]at HC b9 u hr⊢;rw[<-U]at hr⊢;have HG:=Ld u;have c3:=Ld U;have c1:=Ld hr;have HU:=Ld hu;have H4:=Ld h4;clear hD hL hN hu h4 u hg hR U hr
 go_enter func9,ntmps9
 go_wp2_with fail;refine HF.out.mono ?_;rintro e w1 ⟨rfl,rfl⟩;clear HF
 go_wp2_with fail;refine HC.out.mono ?_;rintro e w1 ⟨rfl,g9⟩;have d:=Ld g9;clear g9 HC
 by_cases h0:g=0
 ·have C:=Ld (HR.out.trans (if_pos h0));subst h0
  go_wp2_with fail;go_ret2;unfold oS;rw[C.out];exact⟨by rw[bK (show(2:Int)≠0 by decide)];rfl,dZ.new d.out⟩
 have C:=Ld (HR.out.trans (if_neg h0));have k1:¬(g:Int)=0:=by omega
 have H0:=Ld h0;clear h0 HR
 go_wp2_with fail;refine(b9.out w1 d.out).mono ?_;rintro e w2 ⟨rfl,rfl⟩;clear b9;have z:=fk (g:=g) H4.out;obtain⟨fs,O⟩:=nm (gj g p.size);obtain⟨hl,G⟩:=nm (hlf p.size);have j1:Hid (aW p.size g=bZ fs hl g):=Ld (by rw[O,G];rfl);have M:=Ld (zJ (HD.out.new d.out) ((HL.out.new HN.out).new d.out) fs hl g (by rw[G];exact z.1) (by rw[G,O];exact z.2.1) HG.out H0.out);rw[<-j1.out,<-c3.out]at M;have I:=cu HD.out.ok (l:=aW p.size g) (fv z.2.1 HG.out) ((aW p.size g).size+1);have I:rr.1.Ok p.size:=by rw[c3.out];exact I.1
 have N:=Ld (HU.out.wipe I.fit I.used);rw[<-O,<-G];have j9:Hid (∀b∈rr.2,b.length<=65536):=Ld (by rw[c3.out];exact tN HD.out.ok _ _);obtain⟨x,hx⟩:=nm (aB p rr.1);rw[<-hx]at M N C;clear O G z I hx k1
 go_wp2_with fail;refine M.out.mono ?_;intro e V hs;unfold mh at hs;rw[if_pos N.out.1]at hs;obtain⟨gl,A,c,v3,rfl,k4,i5,H,hT⟩:=hs;have b1:Hid (dZ (iY bs bf bs) W w V):=Ld ((dZ.new d.out).tr (dZ.of hT.fr (sS (HD.out.new d.out) (.inl rfl) (.inr (.inl rfl)))));have j0:Hid (Dk V W.heap.size gd bs bf v3 x.1):=Ld hT.dk;have j2:=Ld i5;have s:Hid (w.heap.size<=V.heap.size/\w.heap.size<=gl/\W.heap.size<=w.heap.size/\bs<w.heap.size/\bf<w.heap.size):=Ld ⟨b1.out.size,by have:=d.out.size;omega,HN.out.size,(HD.out.ours bs (.inr (.inl rfl))).2,(HD.out.ours bf (.inr (.inr (.inl rfl)))).2⟩;obtain⟨n,hn⟩:=nm rr.2.length;rw[<-hn]at H c1⊢;have c0:=Ld (H.rowB hn);have b8:=Ld hn;clear k4 i5 H hT M hn d
 go_wp2_with fail;refine(DM W.heap.size V (by have:=s.out;omega)).mono ?_;rintro e w4 ⟨gt,bt,rfl,i2,i',k5,i3⟩;have g8:=Ld i2;have b3:=Ld i';have J:Hid (V.heap.size<=bt):=Ld i3;clear i2 i' k5 i3
 go_upto_region 14 with fail;refine fX λw5 c9=>?_
 obtain⟨gs,S⟩:=nm w4.heap.size;have f':Hid (ac w5 gs 102 #[.pointer (some ⟨gd,0,none⟩),.pointer (some ⟨gl,0,none⟩),.pointer (some ⟨gt,0,none⟩),.int .u32 g,.bool false]):=Ld (by rw[c9.out,S];exact ac.new _ _ _);have b7:Hid (aa w4 w5):=Ld (by rw[c9.out];exact(aa.refl _).al _);have g3:Hid (V.heap.size<=gs):=Ld (by rw[S];exact b3.out.size);rw[<-S];clear c9 S
 go_wp2_with fail;go_loopw [13,14,15,16,61] (λ_ _ _ _ i wr=>∃(k:Nat) (X:Nat->Prop) (m:Nat) (E:gh),k<=n/\i=.int .i64 k/\Hid (aa V wr)/\Hid (ac wr gs 102 #[.pointer (some ⟨gd,0,none⟩),.pointer (some ⟨gl,0,none⟩),.pointer (some ⟨gt,0,none⟩),.int .u32 g,.bool false])/\Hid (dI X wr W.heap.size gt bt m E)/\Hid (bR [] (rr.2.take k)=some (dy E))/\Hid (m<=600*k/\E.length<=600*k)) (λ_ _ _ _ i _=>n-(intOf i).toNat)
 case atStart=>exact⟨0,λ_=>False,0,[],Nat.zero_le _,rfl,Ld (b3.out.tr b7.out),f',Ld (g8.out.new b7.out),Ld rfl,Ld ⟨Nat.le_refl _,Nat.le_refl _⟩⟩
 case round=>
  clear f' g8 b3 b7;obtain⟨k,X,m,E,hk,rfl,HW,HB,HT,HP,HM⟩:=hrel
  by_cases c6:k<n
  ·have g5:=Ld c6;have l1:=c1.out;have k7:(k:Int)<(n:Int):=by omega
   have l':(0:Int)<=(k:Int):=by omega
   obtain⟨l,hl⟩:∃l,rr.2[k]?=some l:=⟨_,List.getElem?_eq_getElem (by rw[<-b8.out];exact c6)⟩
   obtain⟨ga,o,A',c',hA,F,i4,i9⟩:=c0.out k l hl;subst hA;have k3:=HW.out.cell_ F;have g6:=Ld (zO A' l.length c' l wr (HW.out.rd i9) i4 (by have:=j9.out l (List.mem_of_getElem? hl);omega));have g4:=Ld hl;clear hl F i4 i9
   go_wp2_with fail;refine g6.out.mono ?_;rintro e w6 ⟨hs,i0⟩;have r:=Ld i0;clear g6 i0 k3;rcases hs with⟨hp,rfl⟩|⟨A7,n7,c7,L,hp,rfl,D⟩
   ·have j8:=Ld (pN HP.out g4.out hp);clear hp
    go_wp2_with fail;go_ret2;unfold oS;rw[C.out,j8.out];exact⟨by rw[bK (show(2:Int)≠0 by decide)];rfl,b1.out.tr (dZ.new (HW.out.tr r.out))⟩
   ·have g7:=Ld (rP HP.out g4.out hp);have c8:bY L=true:=by rw [<-fE D.lens];exact uM hp
    have j6:=Ld (dt c8);obtain⟨f,hf,-⟩:=(HT.out.new r.out).map;obtain⟨i6,i7⟩:=D.off hf;have d':=Ld (qW (P:=λk=>k≠bt) (HT.out.new r.out) A7 n7 c7 L i6 D.len i7 (λk hk=>hk) c8 (by have:=HM.out;have:=c1.out;omega));have j4:Hid (n7=L.length):=Ld D.len.symm;have k8:w6.cell? ⟨gs,2,none⟩=some (.pointer (some ⟨gt,0,none⟩)):=(r.out.blk HB.out).cell 2;have b0:=Ld (r.out.blk HB.out);have k0:Hid (aa V w6):=Ld (HW.out.tr r.out);clear hp c8 hf D HP i6 i7 HB HW
    go_wp2_with fail;refine d'.out.mono ?_;rintro e w8 ⟨rfl,X8,E8,i1,c5,c4,k2⟩;have j5:Hid (aa V w8):=Ld (k0.out.fr c4 (λj hj=>by have:=J.out;omega))
    have j':=Ld (b0.out.fr c4 (λe=>absurd e (λe=>by
     obtain⟨f,hf,-⟩:=(HT.out.new r.out).map;rw[e]at b0
     exact aK.not_map hf ⟨_,_,b0.out⟩)))
    have k':=Ld i1;have j7:Hid (bR [] (rr.2.take (k+1))=some (dy E8)):=Ld (by rw[g7.out,c5,ox])
    have j3:Hid (m+n7<=600*(k+1)/\E8.length<=600*(k+1)):=Ld (by
     have h1:=congrArg List.length c5;have h2:=yf (dy E) L;rw[du]at h1 h2;have:=HM.out;have:=j4.out;have:=j6.out.2.1
     omega)
    clear i1 c5 c4 k2 d' g7
    go_wp2_with fail;go_roundw
    case rel=>exact⟨k+1,X8,m+n7,E8,g5.out,by go_num,j5,j',k',j7,j3⟩
    case measure=>simp[intOf];have:=g5.out;omega
  ·have k9:¬(k:Int)<(n:Int):=by omega
   have k6:k=n:=by omega
   subst k6;clear c6
   go_wp2_with fail;go_ret2;unfold oS;rw[C.out];rw[b8.out,List.take_length]at HP;rw[HP.out];refine⟨gs,bt,rfl,⟨gl,gt,v3,X,m,E,HB.out,j0.out.new HW.out,?_,HT.out,⟨by have:=s.out;have:=g3.out;omega,by have:=s.out;omega⟩,⟨by have:=s.out;have:=J.out;omega,by have:=s.out;have:=J.out;omega⟩,rfl,by rw[<-b8.out];exact HM.out,HG.out,?_⟩,by have:=s.out;have:=g3.out;omega,by have:=s.out;have:=J.out;omega,b1.out.tr (dZ.new HW.out)⟩
   ·show Lg wr gl gd rr.1 x.1.size;rw[N.out.2.2];exact j2.out.new HW.out
   ·show 4<=x.1.size;rw[N.out.2.2];exact H4.out
end
end Go.Proofs.YtfchcdbfalgdlaaGreatDoor
