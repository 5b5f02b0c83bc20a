/- Texts of one proof. No condition but each one's own. -/
import Derived.Test.YtfchcdbfalgdlaaGreatDoorSweepOpensM31
import Derived.Test.YtfchcdbfalgdlaaGreatDoorSweepOpensM32
set_option maxHeartbeats 4000000
set_option maxRecDepth 100000
set_option linter.unusedVariables false
set_option linter.unusedSimpArgs false
namespace Go.Proofs.YtfchcdbfalgdlaaGreatDoor
open _root_.Go.Proofs.Tryz
open Go.RowKit Go.Sort
def bT:List TypeId:=[65,75,79,68]
theorem cH:fh prog 65 5:=⟨⟨_,underlying65,rfl⟩,by kernel_rfl⟩
theorem ig:fh prog 75 6:=⟨⟨_,underlying75,rfl⟩,by kernel_rfl⟩
theorem iL.R{X:Array Value}(h:iL 5 X):fh prog 65 X.size:=by rw[h.sz];exact cH
theorem bN(p:DP)(tot:Nat)(X:Array Value){n:Nat}:kQ n bT (fun w=>bQ w p tot X):=⟨fun _ _ d h=>h.new d,fun _ _ _ _ _ ht _ f hF h=>h.st f hF (by rintro rfl;revert ht;decide)⟩
theorem gW(l:LG)(Y:Array Value){n:Nat}:kQ n bT (fun w=>iE w l Y):=⟨fun _ _ d h=>h.new d,fun _ _ _ _ _ ht _ f hF h=>h.st f hF (by rintro rfl;revert ht;decide)⟩
theorem wR{w:World}{p:DP}{tot:Nat}{X:Array Value}(h:bQ w p tot X)(ht:tot≤50000)(g:Nat)(hg:g<4294967296)(hL:cM 3 1 w):
    Calls prog 75 #[.agg X,.int .u32 g] w fun e w'=>∃X',e=.returned (.tuple #[.agg X',.int .i64 (bS p g).2])∧bQ w' (bS p g).1 (tot+1) X'∧aa w w':=by
 obtain⟨a,U⟩:=nm (g%2);obtain⟨k,F⟩:=nm (p.doWrite ((g%2:Nat):Int) (dj g));obtain⟨J,E⟩:=nm (p.wcode ((g%2:Nat):Int));have I:Hid (bS p g=if J≠0 then(k,J)else(k.doSync,k.scode)):=Ld (by rw[F,E];rfl);have HM:Hid (∀w',aa w w'→Calls prog 120 #[.int .u32 g] w' fun e j=>e=.returned (.agg (af (dj g)))∧aa w' j):=Ld fun w' z=>oN g hg w' (hL.new z)
 have O:Hid (∀w',bQ w' p tot X→Calls prog 32 #[.agg X,.int .i64 (a:Int),.agg (af (dj g))] w' fun e j=>∃X',e=.returned (.tuple #[.agg X',.int .i64 J])∧bQ j k (tot+1) X'∧aa w' j):=Ld fun w' hd=>by
  rw[F,E,U];exact lS hd (by omega) _ (WalkArith.wf_i64 (by omega)) (fq g)
 have N:Hid (∀w' X,bQ w' k (tot+1) X→Calls prog 72 #[.agg X] w' fun e j=>∃X',e=.returned (.tuple #[.agg X',.int .i64 k.scode])∧bQ j k.doSync (tot+1) X'∧aa w' j):=Ld fun w' X hd=>rY hd (by omega)
 have e3:Int.tmod (g:Int) 2=(a:Int):=by rw[U,Int.tmod_eq_emod_of_nonneg (by omega)];omega
 have e9:IntKind.u32.wrap (a:Int)=(a:Int):=by rw[IntKind.wrap_u32];omega
 have b0:IntKind.i64.wrap (a:Int)=(a:Int):=IntWalk.i64_in _ (by omega);have S:=Ld h.row;have d:Hid (Bx prog bT w w [] (fun w=>bQ w p tot X)):=Ld (Bx.start h (bN _ _ _));clear h ht hg hL U F E;obtain⟨P2,M⟩:=nm (bS p g);rw[←M]at I⊢;clear M
 go_enter func75,ntmps75
 go_upto_region 1 with (first
  |(refine uy d.out rfl rfl rfl (by decide) S.out.R ?_;intro w1 b2 f;clear d;have d:=Ld f;clear f)
  |(refine ut d.out rfl rfl (Z:=.agg Ba) rfl (by decide) ⟨_,underlying65,rfl⟩ ?_;intro w1 b4 f;clear d;have d:=Ld f;clear f))
 refine jZ (fun w'=>Bx prog bT w w' _ (fun w=>bQ w p tot X)) [.take 0,.pur 1,.pur 2,.pur 3,.pur 4,.act 5,.act 6,.pur 7,.pur 8,.pur 9] 10 [(true,11)] (by kernel_rfl) (by kernel_rfl) (d.out.new (aa.dr (aa.refl _))) ?_;refine ov 0 (fun _ h=>h) rfl rfl rfl rfl rfl rfl S.out.R ?_;simp only[Act.put,bK,bM,bO]
 iterate 4 (refine lI (o:=.mk ..) rfl (fun K i=>?_);go_simp;refine i _ ?_;clear i K)
 refine lH (o:=.mk ..) rfl rfl (fun K i=>?_);go_simp;refine(HM.out _ (d.out.nw.tr (aa.dr (aa.refl _)))).mono ?_;rintro e w3 ⟨rfl,z⟩;have r:=Ld (d.out.new ((aa.dr (aa.refl _)).tr z));go_simp;refine i.out _ _ r.out ?_;clear i K z d;refine lH (o:=.mk ..) rfl rfl (fun K i=>?_);go_simp;refine(O.out _ r.out.r).mono ?_;rintro e w4 ⟨X1,rfl,D,z⟩;have G:=Ld (r.out.new z);have d:=Ld ((r.out.call z D (bN _ _ _)).rel (R':=fun w=>bQ w k (tot+1) X1) (fun h=>h.2) (bN _ _ _));have u:=Ld D.row;go_simp;refine i.out _ _ G.out ?_;clear i K z r G D
 iterate 3 (refine lI (o:=.mk ..) rfl (fun K i=>?_);go_simp;refine i _ ?_;clear i K)
 refine qq (o:=.mk ..) rfl (fun K i=>?_);refine uc 0 d.out rfl rfl rfl rfl rfl rfl (u.out.sz.trans S.out.sz.symm) u.out.al ?_;intro w5 f;simp only[bM,bO,List.nil_append,List.cons_append]at f;clear d;have d:=Ld f;simp only[Act.put,bK,bM,bO];refine i.out _ _ ?_;clear i K f;have V:Nonempty (HW fun _:World=>True):=⟨⟨w5,trivial⟩⟩
 refine ae (o:=.mk ..) rfl (fun K i=>?_);go_simp;refine i _ ?_;clear i K;refine ao ?_;clear V
 by_cases h0:J=0
 ·have s:Hid (P2=(k.doSync,k.scode)):=Ld (I.out.trans (if_neg (by simpa using h0)));clear I;subst h0
  go_wp2_with (first
   |(refine bh 0 d.out rfl rfl rfl rfl rfl ?_)
   |(go_at_call 72;refine(N.out _ _ d.out.r).mono ?_;rintro e w6 ⟨X2,rfl,D,z⟩;have C:=Ld D.row;have H:=Ld ((d.out.call z D (bN _ _ _)).rel (R':=fun w=>bQ w k.doSync (tot+1) X2) (fun h=>h.2) (bN _ _ _));clear d D z;have d:=H;clear H)
   |(refine oZ 1 d.out rfl rfl rfl rfl rfl rfl C.out.sz C.out.al ?_;intro w7 f;simp only[bM,bO]at f;clear d;have d:=Ld f;clear f))
  exact bodyPost_ret (aI rfl _ _ _ _ _ rfl (d.out.blk 1 rfl) underlying65 rfl (by rw[C.out.sz];kernel_rfl)) rfl ⟨_,by rw[s.out];rfl,by rw[s.out];exact d.out.r,d.out.nw⟩
 ·have s:Hid (P2=(k,J)):=Ld (I.out.trans (if_pos h0));clear I
  go_wp2_with (first
   |(refine bh 0 d.out rfl rfl rfl rfl rfl ?_)
   |(refine oZ 1 d.out rfl rfl rfl rfl rfl rfl u.out.sz u.out.al ?_;intro w7 f;simp only[bM,bO]at f;clear d;have d:=Ld f;clear f))
  exact bodyPost_ret (aI rfl _ _ _ _ _ rfl (d.out.blk 1 rfl) underlying65 rfl (by rw[u.out.sz];kernel_rfl)) rfl ⟨_,by rw[s.out];rfl,by rw[s.out];exact d.out.r,d.out.nw⟩
theorem EO(s:List Int)(h:aJ s):fh prog 68 (af s).size:=by
 rw[au,h.1];exact⟨⟨_,underlying68,rfl⟩,by kernel_rfl⟩
theorem qo(p:DP)(k:Nat)(u:k<2){s m:List Int}{x:Nat}(j:s=p.rget (k:Int))(r:x=aQ (s.take 4))(i:m=dj x):
    ∃(d:Bool) (z:Int) (v:Nat),d=decide (s=m)∧Int.tmod (x:Int) 2=z∧v=gP p k∧((d=true∧z=(k:Int)∧v=x)∨(d=true∧z=1-(k:Int)∧v=0)∨(d=false∧v=0)):=by
 refine⟨_,_,_,rfl,rfl,rfl,?_⟩;have e:Int.tmod (x:Int) 2=((x%2:Nat):Int):=by rw[Int.tmod_eq_emod_of_nonneg (by omega)];omega
 rw[e];have f:gP p k=if s=m∧x%2=k then x else 0:=by subst i r j;rfl
 rw[f]
 by_cases h1:s=m
 ·by_cases h2:x%2=k
  ·exact .inl ⟨decide_eq_true h1,by rw[h2],if_pos ⟨h1,h2⟩⟩
  ·exact .inr (.inl ⟨decide_eq_true h1,by omega,if_neg (fun h=>h2 h.2)⟩)
 ·exact .inr (.inr ⟨decide_eq_false h1,if_neg (fun h=>h1 h.1)⟩)
theorem qz{w:World}{p:DP}{tot:Nat}{X:Array Value}(h:bQ w p tot X)(ht:tot≤50000)(h2:2≤p.size)(hL:cM 3 1 w):
    Calls prog 76 #[.agg X] w fun e w'=>e=.returned (.int .u32 (iF p))∧aa w w':=by
 obtain⟨s0,E⟩:=nm (p.rget ((0:Nat):Int));obtain⟨s1,F⟩:=nm (p.rget ((1:Nat):Int));obtain⟨x0,G⟩:=nm (aQ (s0.take 4));obtain⟨x1,H⟩:=nm (aQ (s1.take 4));obtain⟨m0,C⟩:=nm (dj x0);obtain⟨m1,D⟩:=nm (dj x1);obtain⟨d0,z0,v0,b7,c',j,H0⟩:=qo p 0 (by decide) E G C;obtain⟨d1,z1,v1,b8,c0,k,H1⟩:=qo p 1 (by decide) F H D;have U:aJ s0:=by rw[E];exact h.ok.rget _
 have V:aJ s1:=by rw[F];exact h.ok.rget _
 have I:=Ld U;have J:=Ld V
 have lt:∀s:List Int,aJ s→aQ (s.take 4)<4294967296:=fun s hs=>by
  have h1:=eC (xs:=s.take 4) (fun x hx=>hs.2 x (List.mem_of_mem_take hx));rw[List.length_take,hs.1]at h1;exact h1
 have X0:x0<4294967296:=by rw[G];exact lt s0 U
 have X1:x1<4294967296:=by rw[H];exact lt s1 V
 have e0:IntKind.u32.wrap (x0:Int)=(x0:Int):=by rw[IntKind.wrap_u32];omega
 have e1:IntKind.u32.wrap (x1:Int)=(x1:Int):=by rw[IntKind.wrap_u32];omega
 have HC:Hid (iF p=max v0 v1):=Ld (by rw[j,k];rfl);have q0:∀w,(Op.equalIn 10000 68 (.agg (af s0)) (.agg (af m0))).run prog w=.ok d0 w:=fun w=>by rw[b7];exact fY (P:=prog) 9998 underlying68 underlying5 (sizeOf5) U.1 (by rw[C];exact(fq _).1) U.2 (by rw[C];exact(fq _).2) w
 have q1:∀w,(Op.equalIn 10000 68 (.agg (af s1)) (.agg (af m1))).run prog w=.ok d1 w:=fun w=>by rw[b8];exact fY (P:=prog) 9998 underlying68 underlying5 (sizeOf5) V.1 (by rw[D];exact(fq _).1) V.2 (by rw[D];exact(fq _).2) w
 have HM:Hid (∀w',aa w w'→(Calls prog 120 #[.int .u32 x0] w' fun e r=>e=.returned (.agg (af m0))∧aa w' r)∧Calls prog 120 #[.int .u32 x1] w' fun e r=>e=.returned (.agg (af m1))∧aa w' r):=Ld fun w' u=>⟨by rw[C];exact oN x0 X0 w' (hL.new u),by rw[D];exact oN x1 X1 w' (hL.new u)⟩
 have HX:=Ld h.row;have d:Hid (Bx prog bT w w [] (fun w=>bQ w p tot X)):=Ld (Bx.start h (bN _ _ _));have HH:=Ld (And.intro H0 H1)
 have HR:Hid (∀w',bQ w' p tot X→(Calls prog 121 #[.agg X,.int .i64 0] w' fun e r=>e=.returned (.tuple #[.agg (af s0),.int .i64 0])∧aa w' r)∧Calls prog 121 #[.agg X,.int .i64 1] w' fun e r=>e=.returned (.tuple #[.agg (af s1),.int .i64 0])∧aa w' r):=Ld fun w' hd=>by
  have r0:p.rcode ((0:Nat):Int)=0:=by unfold DP.rcode DP.within;rw[decide_eq_true (by omega),if_pos rfl]
  have r1:p.rcode ((1:Nat):Int)=0:=by unfold DP.rcode DP.within;rw[decide_eq_true (by omega),if_pos rfl]
  have h0:=wS hd (by omega) ((0:Nat):Int) (by decide);have h1:=wS hd (by omega) ((1:Nat):Int) (by decide);rw[r0,←E]at h0;rw[r1,←F]at h1;exact⟨h0,h1⟩
 have M:Hid (aQ (s0.take 4)=x0∧aQ (s1.take 4)=x1):=Ld ⟨G.symm,H.symm⟩;have N:Hid ((af s0).size=64∧(af s1).size=64):=Ld ⟨by rw[au,U.1],by rw[au,V.1]⟩;rw[HC.out];obtain⟨vm,S⟩:=nm (max v0 v1);rw[←S];have b9:=Ld S;clear h ht h2 hL E F G H C D b7 b8 j k H0 H1 U V X0 X1 lt HC S
 go_enter func76,ntmps76
 go_upto_region 5 with (first
  |(refine uy d.out rfl rfl rfl (by decide) HX.out.R ?_;intro w1 b1 f;clear d;have d:=Ld f;clear f)
  |(refine bh 0 d.out rfl rfl rfl rfl rfl ?_)
  |(go_at_call 121;(first|(with_reducible refine(HR.out _ d.out.r).1.mono ?_)|(with_reducible refine(HR.out _ d.out.r).2.mono ?_));rintro e w2 ⟨rfl,u⟩;have f:=d.out.new u;clear d u;have d:=Ld f;clear f)
  |(refine ut d.out rfl rfl (Z:=.agg (af aw)) bE (by decide) ⟨_,underlying68,rfl⟩ ?_;intro w1 b3 f;clear d;have d:=Ld f;clear f)
  |(refine oZ 1 d.out rfl rfl rfl rfl rfl rfl N.out.1 (bw _) ?_;intro w1 f;simp only[bM,bO,List.nil_append,List.cons_append]at f;clear d;have d:=Ld f;clear f)
  |(refine oZ 2 d.out rfl rfl rfl rfl rfl rfl N.out.2 (bw _) ?_;intro w1 f;simp only[bM,bO,List.nil_append,List.cons_append]at f;clear d;have d:=Ld f;clear f)
  | (go_at_call 122; first
      |(have hv:=gG _ 4 64 (s0.take 4) _ (Rd.take (nl (d.out.blk 1 rfl) I.out.1) (by omega)) (fun x hx=>I.out.2 x (List.mem_of_mem_take hx)) (by omega);with_reducible refine hv.mono ?_;clear hv;rintro e w2 ⟨rfl,rfl⟩;rw[M.out.1])
      |(have hv:=gG _ 4 64 (s1.take 4) _ (Rd.take (nl (d.out.blk 2 rfl) J.out.1) (by omega)) (fun x hx=>J.out.2 x (List.mem_of_mem_take hx)) (by omega);with_reducible refine hv.mono ?_;clear hv;rintro e w2 ⟨rfl,rfl⟩;rw[M.out.2])))
 have b0:Hid (((d0=true∧z0=0∧v0=x0)∨(d0=true∧z0=1∧v0=0)∨(d0=false∧v0=0))∧((d1=true∧z1=1∧v1=x1)∨(d1=true∧z1=0∧v1=0)∨(d1=false∧v1=0))):=Ld HH.out;clear HH M N HR;obtain⟨h0,h1⟩:=b0.out;clear b0;rcases h0 with⟨rfl,rfl,j⟩|⟨rfl,rfl,j⟩|⟨rfl,j⟩<;>rcases h1 with⟨rfl,rfl,k⟩|⟨rfl,rfl,k⟩|⟨rfl,k⟩
 all_goals as_aux_lemma=>
  have HV:=Ld (And.intro j k);clear j k;refine ag (fun w'=>Bx prog bT w w' _ (fun w=>bQ w p tot X)) [(true,0),(true,1),(false,2),(true,3),(true,4),(true,5),(true,6),(true,7),(true,8)] (by kernel_rfl) (by kernel_rfl) (d.out.new (aa.dr (aa.refl _))) (fun O=>?_);refine rK 1 (fun _ h=>h) rfl rfl rfl rfl rfl rfl (EO _ I.out) ?_;simp only[Act.put,bK,bM,bO];refine ae (o:=.mk ..) rfl (fun K i=>?_);go_simp;refine i _ ?_;clear i K;refine aj (o:=.mk ..) rfl (fun K i=>?_) (.inl rfl);go_simp;refine(HM.out _ (d.out.nw.tr (aa.dr (aa.refl _)))).1.mono ?_;rintro e w3 ⟨rfl,u⟩;have f:=d.out.new ((aa.dr (aa.refl _)).tr u);go_simp;refine i.out _ _ (fun _=>f) ?_;clear i K u d;have d:=Ld f;clear f
  iterate 6 (refine ae (o:=.mk ..) rfl (fun K i=>?_);go_simp;refine i _ ?_;clear i K)
  refine ao ?_;clear O
  go_upto_region 7 with fail
  refine ag (fun w'=>Bx prog bT w w' _ (fun w=>bQ w p tot X)) [(true,0),(true,1),(false,2),(true,3),(true,4),(true,5),(true,6),(true,7),(true,8)] (by kernel_rfl) (by kernel_rfl) (d.out.new (aa.dr (aa.refl _))) (fun O=>?_);refine rK 2 (fun _ h=>h) rfl rfl rfl rfl rfl rfl (EO _ J.out) ?_;simp only[Act.put,bK,bM,bO];refine ae (o:=.mk ..) rfl (fun K i=>?_);go_simp;refine i _ ?_;clear i K;refine aj (o:=.mk ..) rfl (fun K i=>?_) (.inl rfl);go_simp;refine(HM.out _ (d.out.nw.tr (aa.dr (aa.refl _)))).2.mono ?_;rintro e w4 ⟨rfl,u⟩;have f:=d.out.new ((aa.dr (aa.refl _)).tr u);go_simp;refine i.out _ _ (fun _=>f) ?_;clear i K u d;have d:=Ld f;clear f
  iterate 6 (refine ae (o:=.mk ..) rfl (fun K i=>?_);go_simp;refine i _ ?_;clear i K)
  refine ao ?_;clear O
  go_wp2_with fail
  go_ret;refine⟨?_,d.out.nw⟩;have h1:=HV.out;have h2:=b9.out;refine congrArg (fun z:Int=>Ending.returned (.int .u32 z)) (?_:(_:Int)=(vm:Int));omega
def EW(x:Array Value)(off:Nat)(X:Array Value):Prop:=∀j v,X[j]?=some v→x[off+j]?=some v
def jy(x:Array Value)(off:Nat)(X:Array Value):Array Value:=(splice x.toList off X.toList).toArray
section
variable {P:Program}{T:List TypeId}{w0 w:World}{L:List mP}{R:World→Prop}{B:mP}{ops:Array Oper}{rest:List Oper}{o:Oper}{a:Act}{Q:Exit→Act→World→Prop}{t:TypeId}{x y:Operand}{X Z:Array Value}{off:Nat}
theorem BH(i:Nat)(H:Bx P T w0 w L R)(s:o.op=.load t x)(C:Region.wanted o (yielded ops a.tmps)=true)(hi:L[i]?=some B)(D:a.eval x=.pointer (some ⟨B.b,off,none⟩))(u:fh P t X.size)(r:EW B.x off X)
    (h:wpList P ops Q rest (a.put o.dst (.agg X)) w):wpList P ops Q (o::rest) a w:=by
 obtain⟨⟨d,h2,f⟩,k⟩:=u;refine cF (cs:=X.toList) C x s D (fun j v z=>?_) h2 f k h;rw[(H.blk i hi).cell];exact r j v (by simpa using z)
theorem Cw(i:Nat)(H:Bx P T w0 w L R)(f:o.op=.store t x y)(r:Region.wanted o (yielded ops a.tmps)=true)(hi:L[i]?=some B)(s:a.eval x=.pointer (some ⟨B.b,off,none⟩))(u:a.eval y=.agg X)(j:(P.info? t).map (·.size)=some X.size)(hl:off+X.size≤B.x.size)(h1:X.all (·.oneCell')=true)(z:jy B.x off X=Z)
    (h:∀w',Bx P T w0 w' (L.set i ⟨B.b,B.t,Z⟩) R→wpList P ops Q rest (a.put o.dst undef) w'):wpList P ops Q (o::rest) a w:=by
 subst z;refine fE (cur:=B.x.toList) (cells:=X.toList) r x y f s (by simpa using u) (by simpa using H.blk i hi) (by simpa using hl) j (fun v k=>?_) fun w' d hF=>h w' (H.set hi d ?_ hF)
 ·exact(Array.all_eq_true_iff_forall_mem.1 h1) v (by simpa using k)
 ·simp[jy,splice];omega
theorem CW{n:Nat}(i:Nat)(H:Bx P T w0 w L R)(hi:L[i]?=some B)(ht:B.t=t)(d:iL n X)(f:fh P t n):X.size=B.x.size:=by
 have h1:=(H.bx.at hi).2.2.symm.trans (ht▸f).2;injection h1 with h1;exact d.sz.trans h1.symm
theorem fb(i:Nat){n:Nat}{K:Act→World→Prop}{F:Prop}(H:Bx P T w0 w L R)(z:o.op=.store t x y)(D:Region.wanted o (yielded ops a.tmps)=true)(hi:L[i]?=some B)(E:a.eval x=.pointer (some ⟨B.b,0,none⟩))(ht:B.t=t)(G:a.eval y=.agg X)(r:iL n X)(C:fh P t n)
    (h:∀w',Hid (Bx P T w0 w' (L.set i ⟨B.b,B.t,X⟩) R)→Hid (Fr (fun k=>k=B.b) w w')→K (a.put o.dst undef) w'):if Region.wanted o (yielded ops a.tmps)=true then Oper.wp P o a w K Q else F:=by
 have j:=CW i H hi ht r C;subst ht;obtain⟨f,⟨d,h2,I⟩,s⟩:=H.bx.at hi;exact cu D x y z (by rw[j];exact s) E G f j.symm r.al fun w' u hF=>h w' (Ld (H.set hi u j hF)) (Ld hF)
theorem Bx.cell(h:Bx P T w0 w L R)(i:Nat)(hi:L[i]?=some B)(k:Nat){v:Value}(d:B.x[k]?=some v):w.cell? ⟨B.b,k,none⟩=some v:=by rw[(h.blk i hi).cell,d]
theorem vw{l:List Value}{off:Nat}(h:off<l.length)(v:Value):splice l off [v]=l.set off v:=by
 unfold splice;rw[List.set_eq_take_append_cons_drop,if_pos h];simp
theorem kM{w:World}{g off:Nat}{T ty:TypeId}{v:Value}{cur:Array Value}(u:v.cells= #[v])(h1:v.oneCell'=true)(d:ab w g T cur)(hl:off<cur.size)(hi:(P.info? ty).map (·.size)=some 1):
    ∃w',(Instr.storeAt ty (.pointer (some ⟨g,off,none⟩)) v).run P w=.ok () w'∧ab w' g T (jy cur off #[v])∧Fr (fun k=>k=g) w w':=by
 have j:w.cell? ⟨g,off,none⟩=some cur[off]:=by rw[d.cell off];simp[hl]
 have r:=d.frozen off;have f:=d.set off v
 have e:cur.setIfInBounds off v=jy cur off #[v]:=by
  unfold jy;rw[show(#[v]:Array Value).toList=[v]from rfl,vw (by simpa using hl),←bK]
 rw[e]at f;refine⟨w.setCell ⟨g,off,none⟩ v,?_,f,(Fr.refl (fun k=>k=g) w).setCell (p:=⟨g,off,none⟩) (fun _=>rfl) _⟩
 cases hq:P.info? ty with
 |none=>simp[hq]at hi
 |some i=>
  have z:i.size=1:=by simpa[hq]using hi
  simp only[Instr.storeAt,Instr.sureAddr,storeVar,u];have s:=fun m=>run_store P w ⟨g,off,none⟩ v m h1
  simp[sizeOf,typeInfo,hq,z,j,r,s,go_sem]
theorem Cv(i:Nat){v:Value}(H:Bx P T w0 w L R)(j:o.op=.store t x y)(s:Region.wanted o (yielded ops a.tmps)=true)(hi:L[i]?=some B)(u:a.eval x=.pointer (some ⟨B.b,off,none⟩))(z:a.eval y=v)(r:v.cells= #[v])(h1:v.oneCell'=true)(k:(P.info? t).map (·.size)=some 1)(hl:off<B.x.size)(C:jy B.x off #[v]=Z)
    (h:∀w',Bx P T w0 w' (L.set i ⟨B.b,B.t,Z⟩) R→wpList P ops Q rest (a.put o.dst undef) w'):wpList P ops Q (o::rest) a w:=by
 subst C;refine cw s fun K f=>?_
 obtain⟨w',d,D,E⟩:=kM (P:=P) r h1 (H.blk i hi) hl k;unfold Oper.wp execOp;simp only[j,u,z,Sem.run_bind,d,Result.andThen_ok,Sem.run_pure];exact f _ _ (h w' (H.set hi D (by simp[jy,splice];omega) E))
theorem sf{w:World}{p:Addr}{v:Value}{d:TypeDesc}(hu:P.underlying t=some d)(hd:d.isRow=false)(i:w.cell? p=some v):(Instr.loadAt t (.pointer (some p))).run P w=.ok v w:=by
 have f:(underlying t).run P w=.ok d w:=by simp[underlying,go_sem,hu]
 cases d<;>first|(simp[TypeDesc.isRow]at hd;done)|simp[Instr.loadAt,Instr.sureAddr,loadVar,isAgg,f,i,go_sem]
theorem aR(i:Nat){v:Value}{d:TypeDesc}(H:Bx P T w0 w L R)(j:o.op=.load t x)(r:Region.wanted o (yielded ops a.tmps)=true)(hi:L[i]?=some B)(s:a.eval x=.pointer (some ⟨B.b,off,none⟩))(hu:P.underlying t=some d)(hd:d.isRow=false)(k:B.x[off]?=some v)
    (h:wpList P ops Q rest (a.put o.dst v) w):wpList P ops Q (o::rest) a w:=by
 refine cw r fun K f=>?_
 unfold Oper.wp execOp;simp only[j,s,Sem.run_bind,sf hu hd (H.cell i hi off k),Result.andThen_ok,Sem.run_pure];exact f _ _ h
theorem lv.init{B:mP}:∀{L:List mP},lv P w (L++[B])→lv P w L
 | [],_=>trivial
 |C::L,h=>⟨h.1,fun D d=>h.2.1 D (List.mem_append_left _ d),lv.init h.2.2⟩
theorem Bx.init(h:Bx P T w0 w (L++[B]) R):Bx P T w0 w L R:=⟨h.bx.init,fun C d=>h.ty C (List.mem_append_left _ d),h.nw,h.r,h.sb⟩
theorem fh.sz{n m:Nat}(h:fh P t n)(d:fh P t m):n=m:=by
 have:=h.2.symm.trans d.2;injection this
theorem bj(i:Nat){n:Nat}(H:Bx P T w0 w L R)(j:o.op=.store t x y)(r:Region.wanted o (yielded ops a.tmps)=true)(hi:L[i]?=some B)(s:a.eval x=.pointer (some ⟨B.b,0,none⟩))(ht:B.t=t)(u:a.eval y=.agg X)(d:iL n X)(k:fh P t n)
    (h:∀w',Hid (Bx P T w0 w' (L.set i ⟨B.b,B.t,X⟩) R)→wpList P ops Q rest (a.put o.dst undef) w'):wpList P ops Q (o::rest) a w:=
 oZ i H j r hi s ht u (d.sz.trans (fh.sz k (ht▸(H.bx.at hi).2))) d.al fun w' f=>h w' (Ld f)
theorem bW{Y:Array Value}{n:Nat}(H:Bx P T w0 w L R)(k:o.op=.alloc t)(j:o.guard=none)(r:fh P t n)(f:(P.info? t).map (fun i=>(i.zero,i.size))=some (some (.agg Y),Y.size))(ht:t∈T)
    (h:∀w' b,Hid (Bx P T w0 w' (L++[⟨b,t,Y⟩]) R)→wpList P ops Q rest (a.put o.dst (.pointer (some ⟨b,0,none⟩))) w'):wpList P ops Q (o::rest) a w:=
 ut H (Z:=.agg Y) k j f ht r.1 fun w' b d=>h w' b (Ld d)
theorem dJ{n:Nat}(H:Bx P T w0 w L R)(j:o.op=.box t x)(i:o.guard=none)(r:a.eval x=.agg X)(k:fh P t n)(f:iL n X)(ht:t∈T)
    (h:∀w' b,Hid (Bx P T w0 w' (L++[⟨b,t,X⟩]) R)→wpList P ops Q rest (a.put o.dst (.pointer (some ⟨b,0,none⟩))) w'):wpList P ops Q (o::rest) a w:=
 uy H j i r ht (by rw[f.sz];exact k) fun w' b d=>h w' b (Ld d)
theorem EI(i:Nat){n:Nat}(H:Bx P T w0 w L R)(f:o.op=.load t x)(r:Region.wanted o (yielded ops a.tmps)=true)(hi:L[i]?=some B)(s:a.eval x=.pointer (some ⟨B.b,off,none⟩))(d:iL n X)(k:fh P t n)(j:EW B.x off X)
    (h:wpList P ops Q rest (a.put o.dst (.agg X)) w):wpList P ops Q (o::rest) a w:=
 BH i H f r hi s (by rw[d.sz];exact k) j h
theorem CV(i:Nat){n:Nat}(H:Bx P T w0 w L R)(j:o.op=.store t x y)(r:Region.wanted o (yielded ops a.tmps)=true)(hi:L[i]?=some B)(s:a.eval x=.pointer (some ⟨B.b,off,none⟩))(u:a.eval y=.agg X)(d:iL n X)(k:fh P t n)(hl:off+n≤B.x.size)(z:jy B.x off X=Z)
    (h:∀w',Hid (Bx P T w0 w' (L.set i ⟨B.b,B.t,Z⟩) R)→wpList P ops Q rest (a.put o.dst undef) w'):wpList P ops Q (o::rest) a w:=
 Cw i H j r hi s u (by rw[d.sz];exact k.2) (by rw[d.sz];exact hl) d.al z fun w' f=>h w' (Ld f)
theorem tZ(i:Nat){v:Value}(H:Bx P T w0 w L R)(f:o.op=.store t x y)(r:Region.wanted o (yielded ops a.tmps)=true)(hi:L[i]?=some B)(s:a.eval x=.pointer (some ⟨B.b,off,none⟩))(u:a.eval y=v)(k:v.cells= #[v])(h1:v.oneCell'=true)(j:(P.info? t).map (·.size)=some 1)(hl:off<B.x.size)(z:jy B.x off #[v]=Z)
    (h:∀w',Hid (Bx P T w0 w' (L.set i ⟨B.b,B.t,Z⟩) R)→wpList P ops Q rest (a.put o.dst undef) w'):wpList P ops Q (o::rest) a w:=
 Cv i H f r hi s u k h1 j hl z fun w' d=>h w' (Ld d)
end
def eM(X Y:Array Value)(t g b:Value):Array Value:=X++Y++ #[t,g,b]
theorem iL.five{X:Array Value}(h:iL 5 X):∃a b c d e,X= #[a,b,c,d,e]:=by
 obtain⟨l⟩:=X;have:=h.sz
 match l,this with
 | [a,b,c,d,e],_=>exact⟨a,b,c,d,e,rfl⟩
theorem iL.six{X:Array Value}(h:iL 6 X):∃a b c d e f,X= #[a,b,c,d,e,f]:=by
 obtain⟨l⟩:=X;have:=h.sz
 match l,this with
 | [a,b,c,d,e,f],_=>exact⟨a,b,c,d,e,f,rfl⟩
section
variable {X Y X' Y':Array Value}{t g b t' g' b':Value}
structure cG(X Y:Array Value):Prop where
 x:iL 5 X
 y:iL 6 Y
theorem cG.size(h:cG X Y):(eM X Y t g b).size=14:=by simp[eM,h.x.sz,h.y.sz]
theorem cG.all(h:cG X Y)(h1:t.oneCell'=true)(h2:g.oneCell'=true)(d:b.oneCell'=true):(eM X Y t g b).all (·.oneCell')=true:=by
 unfold eM;rw[Array.all_append,Array.all_append,h.x.al,h.y.al];simp[h1,h2,d]
theorem cG.d(h:cG X Y):EW (eM X Y t g b) 0 X:=fun j v d=>by
 obtain⟨a1,f,i,k,r,rfl⟩:=h.x.five;obtain⟨s,b2,u,b4,b5,b6,rfl⟩:=h.y.six;have:=(Array.getElem?_eq_some_iff.1 d).1
 match j,this with
 | 0,_=>exact d
 | 1,_=>exact d
 | 2,_=>exact d
 | 3,_=>exact d
 | 4,_=>exact d
theorem cG.l(h:cG X Y):EW (eM X Y t g b) 5 Y:=fun j v d=>by
 obtain⟨a1,f,i,k,r,rfl⟩:=h.x.five;obtain⟨s,b2,u,b4,b5,b6,rfl⟩:=h.y.six;have:=(Array.getElem?_eq_some_iff.1 d).1
 match j,this with
 | 0,_=>exact d
 | 1,_=>exact d
 | 2,_=>exact d
 | 3,_=>exact d
 | 4,_=>exact d
 | 5,_=>exact d
theorem cG.setD(h:cG X Y)(d:iL 5 X'):jy (eM X Y t g b) 0 X'=eM X' Y t g b:=by
 obtain⟨a1,f,i,j,k,rfl⟩:=h.x.five;obtain⟨r,b2,s,b4,b5,b6,rfl⟩:=h.y.six;obtain⟨u,c2,z,C,D,rfl⟩:=d.five;rfl
theorem cG.setL(h:cG X Y)(d:iL 6 Y'):jy (eM X Y t g b) 5 Y'=eM X Y' t g b:=by
 obtain⟨a1,f,i,j,k,rfl⟩:=h.x.five;obtain⟨r,b2,s,b4,b5,b6,rfl⟩:=h.y.six;obtain⟨u,c2,z,C,D,E,rfl⟩:=d.six;rfl
theorem cG.c(h:cG X Y):(eM X Y t g b)[11]?=some t∧(eM X Y t g b)[12]?=some g∧(eM X Y t g b)[13]?=some b:=by
 obtain⟨a1,d,f,i,j,rfl⟩:=h.x.five;obtain⟨k,b2,r,b4,b5,b6,rfl⟩:=h.y.six;exact⟨rfl,rfl,rfl⟩
theorem cG.set(h:cG X Y)(v:Value):jy (eM X Y t g b) 11 #[v]=eM X Y v g b∧jy (eM X Y t g b) 12 #[v]=eM X Y t v b∧jy (eM X Y t g b) 13 #[v]=eM X Y t g v:=by
 obtain⟨a1,d,f,i,j,rfl⟩:=h.x.five;obtain⟨k,b2,r,b4,b5,b6,rfl⟩:=h.y.six;exact⟨rfl,rfl,rfl⟩
theorem cG.row(h:cG X Y)(h1:t.oneCell'=true)(h2:g.oneCell'=true)(d:b.oneCell'=true):iL 14 (eM X Y t g b):=⟨h.size,h.all h1 h2 d⟩
end
theorem dx:fh prog 79 14:=⟨⟨_,underlying79,rfl⟩,by kernel_rfl⟩
def EP:Array Value:=eM Ba pH (.slice none 0 0) (.int .u32 0) (.bool false)
theorem zR:(prog.info? 65).map (fun i=>(i.zero,i.size))=some (some (.agg Ba),Ba.size):=by kernel_rfl
theorem zL:(prog.info? 75).map (fun i=>(i.zero,i.size))=some (some (.agg pH),pH.size):=by kernel_rfl
theorem zS:(prog.info? 79).map (fun i=>(i.zero,i.size))=some (some (.agg EP),EP.size):=by kernel_rfl
theorem Fp:prog.built 68 []=some (af aw):=by kernel_rfl
def fI(q:DP)(tot:Nat)(c:Int)(w:World)(e:Ending)(w':World):Prop:=∃X',e=.returned (.tuple #[.agg X',.int .i64 c])∧bQ w' q tot X'∧aa w w'
section
variable {w0 w w':World}{L:List mP}{R R2:World→Prop}{q:DP}{tot:Nat}{c:Int}{e:Ending}
theorem Bx.dks(h:Bx prog bT w0 w L R)(r:fI q tot c w e w')(k:∀w,R w→R2 w)(h2:kQ w0.heap.size bT R2):∃X',e=.returned (.tuple #[.agg X',.int .i64 c])∧Hid (iL 5 X')∧Hid (Bx prog bT w0 w' L (fun w=>bQ w q tot X'∧R2 w)):=by
 obtain⟨X',j,d,i⟩:=r;exact⟨X',j,Ld d.row,Ld ((h.call i d (bN _ _ _)).rel (fun f=>⟨f.2,k _ f.1⟩) ((bN _ _ _).and h2))⟩
end
section
variable {P:Program}{T:List TypeId}{w0 w:World}{L:List mP}{R:World→Prop}{Q:Exit→Act→World→Prop}{id:Nat}{a:Act}{l:List Oper}{o0 o1 o2 o3:Oper}{tA tB:TypeId}{x0 x1 x2 x3 y2 y3:Operand}{BA BB BC BD:mP}{n m:Nat}
theorem sF(tail:List (Bool×Nat))(f kb d z:Nat)(H:Bx P T w0 w L R)(hm:P.follows .mixedOrders=true)
    (hB:(Region.noSelect l.toArray&&decide (((true,0)::(true,1)::(false,2)::(false,3)::tail).length=l.toArray.size)&&kH .any l.toArray ((true,0)::(true,1)::(false,2)::(false,3)::tail) (Array.replicate l.toArray.size false))=true)
    (e0:l.toArray[0]?=some o0) (e1:l.toArray[1]?=some o1) (e2:l.toArray[2]?=some o2) (e3:l.toArray[3]?=some o3)
    (p0:o0.op=.load tA x0) (p1:o1.op=.load tB x1) (p2:o2.op=.store tA x2 y2) (p3:o3.op=.store tB x3 y3)
    (hA:L[f]?=some BA) (hb:L[kb]?=some BB) (hC:L[d]?=some BC) (hD:(L.set d ⟨BC.b,BC.t,BA.x⟩)[z]?=some BD) (F:(L.set d ⟨BC.b,BC.t,BA.x⟩)[f]?=some BA) (J:(L.set d ⟨BC.b,BC.t,BA.x⟩)[kb]?=some BB) (G:((L.set d ⟨BC.b,BC.t,BA.x⟩).set z ⟨BD.b,BD.t,BB.x⟩)[f]?=some BA) (M:((L.set d ⟨BC.b,BC.t,BA.x⟩).set z ⟨BD.b,BD.t,BB.x⟩)[kb]?=some BB)
    (i0:Region.wanted o0 (yielded l.toArray a.tmps)=true) (v0:a.eval x0=.pointer (some ⟨BA.b,0,none⟩))
    (i1:Region.wanted o1 (yielded l.toArray (a.put o0.dst (.agg BA.x)).tmps)=true) (v1:(a.put o0.dst (.agg BA.x)).eval x1=.pointer (some ⟨BB.b,0,none⟩))
    (U:Region.wanted o2 (yielded l.toArray ((a.put o0.dst (.agg BA.x)).put o1.dst (.agg BB.x)).tmps)=true) (v2:((a.put o0.dst (.agg BA.x)).put o1.dst (.agg BB.x)).eval x2=.pointer (some ⟨BC.b,0,none⟩)) (u2:((a.put o0.dst (.agg BA.x)).put o1.dst (.agg BB.x)).eval y2=.agg BA.x)
    (V:Region.wanted o3 (yielded l.toArray (((a.put o0.dst (.agg BA.x)).put o1.dst (.agg BB.x)).put o2.dst undef).tmps)=true) (v3:(((a.put o0.dst (.agg BA.x)).put o1.dst (.agg BB.x)).put o2.dst undef).eval x3=.pointer (some ⟨BD.b,0,none⟩)) (u3:(((a.put o0.dst (.agg BA.x)).put o1.dst (.agg BB.x)).put o2.dst undef).eval y3=.agg BB.x)
    (b0:BA.t=tA) (b1:BB.t=tB) (O:BC.t=tA) (S:BD.t=tB) (rA:iL n BA.x) (rB:iL m BB.x) (qA:fh P tA n) (qB:fh P tB m)
    (h:Nonempty (HW fun w:World=>ab w BA.b BA.t BA.x∧ab w BB.b BB.t BB.x)→∀w',Hid (Bx P T w0 w' ((L.set d ⟨BC.b,BC.t,BA.x⟩).set z ⟨BD.b,BD.t,BB.x⟩) R)→cL P l.toArray (fun w=>ab w BA.b BA.t BA.x∧ab w BB.b BB.t BB.x) l.toArray.size (eG Q) tail ((((a.put o0.dst (.agg BA.x)).put o1.dst (.agg BB.x)).put o2.dst undef).put o3.dst undef) w'):(Code.region id l.toArray true).wp P Q a w:=by
 have E:=H.new (aa.dr (aa.refl w));obtain⟨⟨dA,i,j⟩,k⟩:=qA;obtain⟨⟨dB,r,s⟩,u⟩:=qB;refine ag (fun w=>ab w BA.b BA.t BA.x∧ab w BB.b BB.t BB.x) ((true,0)::(true,1)::(false,2)::(false,3)::tail) hm hB ⟨E.blk f hA,E.blk kb hb⟩ (fun N=>?_);refine bH (cs:=BA.x.toList) e0 i0 x0 p0 v0 (fun w' h=>h.1.rangeOf) i j (by rw[Array.length_toList,rA.sz];exact k) ?_;refine bH (cs:=BB.x.toList) e1 i1 x1 p1 v1 (fun w' h=>h.2.rangeOf) r s (by rw[Array.length_toList,rB.sz];exact u) ?_;refine aj e2 (fun K I=>?_) (.inl U);refine fb d E p2 U hC v2 O u2 rA ⟨⟨dA,i,j⟩,k⟩ ?_;intro w1 C _;refine I.out _ _ (fun _=>⟨C.out.blk f F,C.out.blk kb J⟩) ?_;refine aj e3 (fun K I=>?_) (.inl V);refine fb z C.out p3 V hD v3 S u3 rB ⟨⟨dB,r,s⟩,u⟩ ?_;intro w2 D _;exact I.out _ _ (fun _=>⟨D.out.blk f G,D.out.blk kb M⟩) (h N w2 D)
end
def yQ(p:DP)(a b c tot:Nat)(w:World)(e:Ending)(w':World):Prop:=
 ∃X' Y',e=.returned (.tuple #[.agg X',.agg Y',.int .i64 (az p (bP a b c)).2])∧bQ w' (az p (bP a b c)).1 (tot+b) X'∧iL 6 Y'∧((az p (bP a b c)).2=0→iE w' (bP a b c) Y')∧aa w w'
theorem tN{w:World}{p:DP}{tot:Nat}{X:Array Value}(h:bQ w p tot X)(ht:tot≤50000)(a b c:Nat)(hb:1≤b)(i:a+b≤p.size)(S:c<4294967296)(E:c≠0):
    Calls prog 74 #[.agg X,.int .i64 a,.int .i64 b,.int .u32 c] w (yQ p a b c tot w):=by
 have I:=h.ok.s2;have HX:=Ld h.row;have HS:=Ld h.size
 have s:Hid (∀B cc W,aa w W→Calls prog 119 #[.agg X,.agg #[.int .i64 a,.int .i64 b,.int .i64 0,.int .u32 c,.slice B 16 cc,.bool false]] W (fI (az p (bP a b c)).1 (tot+b) (az p (bP a b c)).2 W)):=Ld fun B cc W hN=>by
  obtain⟨r,A1,c1,A2,c2,rfl,hr,hm,h1⟩:=h.ex;have h0:=mG r A1 c1 A2 c2 B cc (hr.new hN) hm h.ok (by omega) (eS i S);refine h0.mono ?_;rintro e w' ⟨r',E1,f1,E2,f2,he,b8,b0,c5,V⟩;exact⟨_,he,⟨(iw h.ok (eS i S) E).1,r',E1,f1,E2,f2,rfl,b8,b0,by have:(bP a b c).size=b:=rfl;omega⟩,V⟩
 have U:Hid (∀W B,fg 5 W 1 B 16 (am (List.replicate 16 0))→iE W (bP a b c) #[.int .i64 a,.int .i64 b,.int .i64 0,.int .u32 c,.slice B 16 16,.bool false]):=Ld fun W B hr=>⟨B,16,rfl,hr,(fun x hx=>by have:=List.eq_of_mem_replicate hx;omega),S,by show a≤_;omega,by show b≤_;omega,by show 0≤_;omega⟩
 have d:Hid (Bx prog bT w w [] (fun w=>bQ w p tot X)):=Ld (Bx.start h (bN _ _ _));obtain⟨F,hF⟩:=nm (yQ p a b c tot w);rw[←hF];obtain⟨q,hq⟩:=nm (az p (bP a b c)).1;obtain⟨z,j⟩:=nm (az p (bP a b c)).2
 have HF:Hid (∀X' Y' w',bQ w' q (tot+b) X'→iL 6 Y'→(z=0→iE w' (bP a b c) Y')→aa w w'→F (.returned (.tuple #[.agg X',.agg Y',.int .i64 z])) w'):=Ld fun X' Y' w' h1 h2 h3 h4=>by
  rw[hF,j];exact⟨X',Y',rfl,hq▸h1,h2,fun h=>h3 (j.trans h),h4⟩
 rw[←hq,←j]at s;obtain⟨n,H⟩:=nm p.size;rw[←H]at HS i I;obtain⟨m,hm⟩:=nm (n-a);have h5:(n:Int)-(a:Int)=(m:Int):=by omega
 have h6:(b:Int)≤(m:Int):=by omega
 have h7:(m:Int)≤16384:=by omega
 have c0:(a:Int)<(n:Int):=by omega
 have c':1≤(b:Int):=by omega
 have b9:0≤(a:Int):=by omega
 have c4:((c:Int)==0)=false:=by simp;omega
 have c3:¬(c:Int)=0:=by omega
 have n1:¬n≤a:=by omega
 have n2:¬m<b:=by omega
 have n3:¬b<1:=by omega
 have n4:¬b=0:=by omega
 have n5:¬c=0:=by omega
 clear h ht hb i S E I H hm hq j hF;obtain⟨i0,hi,J,M,N⟩:=info_parts wm;have O:=Ld (And.intro hi (And.intro J (And.intro M N)));clear hi J M N
 go_enter func74,ntmps74
 go_upto_region 5 with (first
  |(refine dJ d.out rfl rfl rfl cH HX.out (by decide) ?_;clear d;intro C b1 d)
  |(refine bW d.out rfl rfl cH zR (by decide) ?_;clear d;intro C b2 d)
  |(refine bW d.out rfl rfl ig zL (by decide) ?_;clear d;intro C b3 d)
  |((with_reducible refine aA ⟨_,.load 3 _,_,_,_,_⟩ ?_);refine aR 0 d.out rfl rfl rfl rfl underlying3 rfl HS.out ?_)
  |((with_reducible refine dH ⟨some 42,.makeSlice _ _ _,_,_,_,_⟩ ?_);refine wpList_make_full _ rfl _ _ 33 rfl _ 5 i0 (.int .u8 0) 1 underlying33 O.out.1 O.out.2.1 O.out.2.2.1 .i64 .i64 16 16 16 rfl rfl rfl rfl (by rw[O.out.2.2.2];omega) (by unfold maxLen;omega) (Nat.le_refl _) ?_;intro w4 D G;have h1:=nz 16;have u:=D;rw[h1]at u;have hB:=(d.out.call ((aa.refl _).fr ((Fr.refl ia _).grown G (fun _ _ h=>by cases h)) (fun k h=>h.elim)) (U.out _ _ (fg.own u rfl)) (gW _ _));clear d D u G h1;have d:=Ld hB;clear hB)
  |((with_reducible refine aA ⟨_,.load 65 _,_,_,_,_⟩ ?_);refine bh 0 d.out rfl rfl rfl rfl rfl ?_)
  |((with_reducible refine aA ⟨_,.load 75 _,_,_,_,_⟩ ?_);refine bh 3 d.out rfl rfl rfl rfl rfl ?_)
  |(go_at_call 119;refine(s.out _ _ _ d.out.nw).mono ?_;intro e w3 hs;have hb:=d.out.dks hs (fun _ h=>h.2) (gW _ _);clear d hs;obtain⟨X1,rfl,f,d⟩:=hb)
  |((with_reducible refine aA ⟨_,.store 75 _ _,_,_,_,_⟩ ?_);refine bj 3 d.out rfl rfl rfl rfl rfl rfl ⟨rfl,by simp[Value.oneCell']⟩ ig ?_;clear d;intro C d)
  |((with_reducible refine aA ⟨_,.store 65 _ _,_,_,_,_⟩ ?_);refine bj 0 d.out rfl rfl rfl rfl rfl rfl f.out cH ?_;clear d;intro C d))
 by_cases hz:z=0
 ·subst hz
  go_upto_region 7 with fail
  refine sF [(true,4)] 0 3 1 2 d.out (by kernel_rfl) (by kernel_rfl) rfl rfl rfl rfl rfl rfl rfl rfl rfl rfl rfl rfl rfl rfl rfl rfl rfl rfl rfl rfl rfl rfl rfl rfl rfl rfl rfl rfl rfl rfl f.out ⟨rfl,by simp[Value.oneCell']⟩ cH ig ?_;clear d;intro b7 w5 d;simp only[Act.put,bK,bM,bO];refine ae (o:=.mk ..) rfl (fun K hK=>?_);go_simp;refine hK _ ?_;clear hK K;refine ao ?_;clear b7
  go_wp2_with fail
  refine bodyPost_ret (dQ rfl _ _ _ _ _ _ _ _ rfl (d.out.blk 1 rfl) underlying65 rfl (by rw[f.out.sz];kernel_rfl) rfl (d.out.blk 2 rfl) underlying75 rfl (by kernel_rfl)) rfl ?_;exact HF.out _ _ _ d.out.r.1 ⟨rfl,by simp[Value.oneCell']⟩ (fun _=>d.out.r.2) d.out.nw
 ·have c6:(z==0)=false:=by simpa using hz
  go_wp2_with (first
   |((with_reducible refine aA ⟨_,.load 65 _,_,_,_,_⟩ ?_);refine bh 0 d.out rfl rfl rfl rfl rfl ?_)
   |((with_reducible refine aA ⟨_,.store 65 _ _,_,_,_,_⟩ ?_);refine bj 1 d.out rfl rfl rfl rfl rfl rfl f.out cH ?_;clear d;intro C d)
   |((with_reducible refine aA ⟨_,.store 75 _ _,_,_,_,_⟩ ?_);refine bj 2 d.out rfl rfl rfl rfl rfl rfl jR ig ?_;clear d;intro C d))
  refine bodyPost_ret (dQ rfl _ _ _ _ _ _ _ _ rfl (d.out.blk 1 rfl) underlying65 rfl (by rw[f.out.sz];kernel_rfl) rfl (d.out.blk 2 rfl) underlying75 rfl (by kernel_rfl)) rfl ?_;exact HF.out _ _ _ d.out.r.1 jR (fun h=>absurd h hz) d.out.nw
def bL:List TypeId:=[65,75]
theorem mH(p:DP)(tot:Nat)(X:Array Value){n:Nat}:kQ n bL (fun w=>bQ w p tot X):=⟨fun _ _ d h=>h.new d,fun _ _ _ _ _ ht _ f hF h=>h.st f hF (by rintro rfl;revert ht;decide)⟩
theorem AH(l:LG)(Y:Array Value){n:Nat}:kQ n bL (fun w=>iE w l Y):=⟨fun _ _ d h=>h.new d,fun _ _ _ _ _ ht _ f hF h=>h.st f hF (by rintro rfl;revert ht;decide)⟩
theorem vC(A:Option Addr)(n:Nat)(xs:List Value){k:Nat}:kQ k bL (fun w=>fg 68 w 64 A n xs):=⟨fun _ _ d h=>h.new d,fun _ _ b t _ ht _ f hF h=>h.fr hF (fun j i=>by rw[show j=b from i];exact aO.not_blk f (by rintro rfl;revert ht;decide))⟩
def qW(r:DP×LG×Int)(tot:Nat)(w:World)(e:Ending)(w':World):Prop:=∃X' Y',e=.returned (.tuple #[.agg X',.agg Y',.int .i64 r.2.2])∧bQ w' r.1 tot X'∧iE w' r.2.1 Y'∧aa w w'
theorem sG{p:DP}{l:LG}{b:List Int}{k:Nat}(h:(writeN p l b k).2≠0):∀j,k≤j→writeN p l b j=writeN p l b k:=fun j f=>by
 induction j with
 |zero=>rw[show k=0 by omega]
 |succ j d=>
  by_cases e:k=j+1
  ·rw[e]
  ·have h1:=d (by omega);show(if(writeN p l b j).2≠0 then _ else _)=_;rw[h1,if_pos h]
theorem Bx.addN{P:Program}{T:List TypeId}{w0 w w':World}{L:List mP}{R:World→Prop}{b:Nat}{t:TypeId}{x:Array Value}(h:Bx P T w0 w L R)(f:aa w w')(i:ab w' b t x)(hl:w.heap.size≤b)(ht:t∈T)(j:fh P t x.size):Bx P T w0 w' (L++[⟨b,t,x⟩]) R:=by
 have h1:=h.new f;refine⟨lv.add i j h1.bx fun B d=>Nat.ne_of_lt (Nat.lt_of_lt_of_le (h.bx.lt B d) hl),fun B d=>?_,h1.nw,h1.r,h1.sb⟩;rcases List.mem_append.1 d with d|d
 ·exact h.ty B d
 ·rw[List.mem_singleton.1 d];exact⟨ht,Nat.le_trans h.nw.size hl⟩
theorem Cp{Y:Array Value}{v u:Value}(h:Y[2]?=some v)(i:Y.size=6):(jy Y 4 #[u])[2]?=some v:=by
 obtain⟨l⟩:=Y
 match l,i with
 | [a,b,c,d,e,f],_=>exact h
theorem AE{Y:Array Value}{u:Value}(i:Y.size=6):(jy Y 4 #[u]).size=6:=by
 obtain⟨l⟩:=Y
 match l,i with
 | [a,b,c,d,e,f],_=>rfl
structure Fg(w:World)(b3 b4 b6 b7:Nat)(p:DP)(l:LG)(x:List Int)(tot:Nat)(Y:Array Value)(C:Option Addr)(K:Nat)(k:Nat)(wr:World):Prop where
 ex:∃X,Bx prog bL w wr [⟨b3,65,X⟩,⟨b4,75,Y⟩,⟨b6,65,Ba⟩,⟨b7,75,pH⟩] (fun w=>bQ w (writeN p l x k).1 (tot+k) X∧fg 68 w 64 C K (gU l x K))∧iL 5 X∧(writeN p l x k).2=0
theorem Cc{q:Nat→Prop}{w:World}{p:DP}{tot:Nat}{X Y:Array Value}{l:LG}(h:bQ w p tot X)(H:iE w l Y)(hl:l.Ok p.size)(B:Option Addr)(n d:Nat)(x:List Int)(hR:Rd q w 1 B n (am x))(hn:n≤maxLen)(u:ay n=0∨l.broken=true∨l.size-l.used<ay n):
    Calls prog 81 #[.agg X,.agg Y,.slice B n d] w (qW (p,l,if ay n=0 then 2 else if l.broken=true then 10 else 8) tot w):=by
 have E:=Ld h.row;have F:=Ld H.row;have r:Hid (∀W,Calls prog 86 #[.int .i64 n] W fun e w'=>e=.returned (.int .i64 (ay n:Nat))∧W=w'):=Ld fun W=>by rw[←jk];exact fy (n:Int) W
 have G:=it n;obtain⟨z,hs⟩:=nm (ay n);rw[←hs]at r u G⊢;have hu:=hl.used;have hf:=hl.fit;have hz:=h.ok.s2;have f:Hid (Bx prog bL w w [] (fun w=>bQ w p tot X∧iE w l Y)):=Ld (Bx.start ⟨h,H⟩ ((mH _ _ _).and (AH _ _)));obtain⟨sz,C⟩:=nm l.size;obtain⟨O,D⟩:=nm l.used;obtain⟨br,s⟩:=nm l.broken
 have k:Hid (Y[1]?=some (.int .i64 sz)∧Y[2]?=some (.int .i64 O)∧Y[5]?=some (.bool br)):=Ld (by
  obtain⟨A,c,rfl,-⟩:=H.ex;rw[C,D,s]
  exact⟨rfl,rfl,rfl⟩)
 obtain⟨t,ht⟩:=nm (O+z);have e1:(O:Int)+(z:Int)=(t:Int):=by omega
 have e2:IntKind.i64.wrap (t:Int)=(t:Int):=IntWalk.i64_in _ (by omega);rw[←C,←D,←s]at u;rw[←s];obtain⟨I,i⟩:=nm (if z=0 then(2:Int)else if br=true then 10 else 8);rw[←i]
 have M:(z=0∧I=2)∨(z≠0∧br=true∧I=10)∨(z≠0∧br=false∧sz<t∧I=8):=by
  by_cases h0:z=0
  ·exact .inl ⟨h0,by rw[i,if_pos h0]⟩
  ·cases br with
   |true=>exact .inr (.inl ⟨h0,rfl,by rw[i,if_neg h0,if_pos rfl]⟩)
   |false=>exact .inr (.inr ⟨h0,rfl,by rcases u with h1|h1|h1;exact absurd h1 h0;cases h1;omega,by rw[i,if_neg h0,if_neg (by simp)]⟩)
 clear h H hl hR u G hu hf hz C D s ht hs i;rcases M with⟨rfl,rfl⟩|⟨h0,rfl,rfl⟩|⟨h0,rfl,h1,rfl⟩
 focus
  go_enter func81,ntmps81
  go_upto_region 3 with (first
   |(refine dJ f.out rfl rfl rfl cH E.out (by decide) ?_;clear f;intro j S f)
   |(refine dJ f.out rfl rfl rfl ig F.out (by decide) ?_;clear f;intro j b4 f)
   |(refine bW f.out rfl rfl cH zR (by decide) ?_;clear f;intro j b6 f)
   |(refine bW f.out rfl rfl ig zL (by decide) ?_;clear f;intro j U f)
   |(go_at_call 86;refine(r.out _).mono ?_;rintro e w2 ⟨rfl,rfl⟩)
   |((with_reducible refine aA ⟨_,.load 4 _,_,_,_,_⟩ ?_);refine aR 1 f.out rfl rfl rfl rfl underlying4 rfl k.out.2.2 ?_)
   |((with_reducible refine aA ⟨_,.load 3 _,_,_,_,_⟩ ?_);first|(refine aR 1 f.out rfl rfl rfl rfl underlying3 rfl k.out.1 ?_)|(refine aR 1 f.out rfl rfl rfl rfl underlying3 rfl k.out.2.1 ?_)))
 rotate_left
 focus
  have J:((z:Int)==0)=false:=by simp;omega
  go_enter func81,ntmps81
  go_upto_region 5 with (first
   |(refine dJ f.out rfl rfl rfl cH E.out (by decide) ?_;clear f;intro j S f)
   |(refine dJ f.out rfl rfl rfl ig F.out (by decide) ?_;clear f;intro j b4 f)
   |(refine bW f.out rfl rfl cH zR (by decide) ?_;clear f;intro j b6 f)
   |(refine bW f.out rfl rfl ig zL (by decide) ?_;clear f;intro j U f)
   |(go_at_call 86;refine(r.out _).mono ?_;rintro e w2 ⟨rfl,rfl⟩)
   |((with_reducible refine aA ⟨_,.load 4 _,_,_,_,_⟩ ?_);refine aR 1 f.out rfl rfl rfl rfl underlying4 rfl k.out.2.2 ?_)
   |((with_reducible refine aA ⟨_,.load 3 _,_,_,_,_⟩ ?_);first|(refine aR 1 f.out rfl rfl rfl rfl underlying3 rfl k.out.1 ?_)|(refine aR 1 f.out rfl rfl rfl rfl underlying3 rfl k.out.2.1 ?_)))
 rotate_left
 focus
  have J:((z:Int)==0)=false:=by simp;omega
  have b0:(sz:Int)<(t:Int):=by omega
  go_enter func81,ntmps81
  go_upto_region 7 with (first
   |(refine dJ f.out rfl rfl rfl cH E.out (by decide) ?_;clear f;intro j S f)
   |(refine dJ f.out rfl rfl rfl ig F.out (by decide) ?_;clear f;intro j b4 f)
   |(refine bW f.out rfl rfl cH zR (by decide) ?_;clear f;intro j b6 f)
   |(refine bW f.out rfl rfl ig zL (by decide) ?_;clear f;intro j U f)
   |(go_at_call 86;refine(r.out _).mono ?_;rintro e w2 ⟨rfl,rfl⟩)
   |((with_reducible refine aA ⟨_,.load 4 _,_,_,_,_⟩ ?_);refine aR 1 f.out rfl rfl rfl rfl underlying4 rfl k.out.2.2 ?_)
   |((with_reducible refine aA ⟨_,.load 3 _,_,_,_,_⟩ ?_);first|(refine aR 1 f.out rfl rfl rfl rfl underlying3 rfl k.out.1 ?_)|(refine aR 1 f.out rfl rfl rfl rfl underlying3 rfl k.out.2.1 ?_)))
 all_goals
  refine sF [(true,4)] 0 1 2 3 f.out (by kernel_rfl) (by kernel_rfl) rfl rfl rfl rfl rfl rfl rfl rfl rfl rfl rfl rfl rfl rfl rfl rfl rfl rfl rfl rfl rfl rfl rfl rfl rfl rfl rfl rfl rfl rfl E.out F.out cH ig ?_;clear f;intro N w5 f;simp only[Act.put,bK,bM,bO];refine ae (o:=.mk ..) rfl (fun K V=>?_);go_simp;refine V _ ?_;clear V K;refine ao ?_;clear N
  go_wp2_with fail
  refine bodyPost_ret (dQ rfl _ _ _ _ _ _ _ _ rfl (f.out.blk 2 rfl) underlying65 rfl (by rw[E.out.sz];kernel_rfl) rfl (f.out.blk 3 rfl) underlying75 rfl (by rw[F.out.sz];kernel_rfl)) rfl ?_;exact⟨_,_,rfl,f.out.r.1,f.out.r.2,f.out.nw⟩
theorem DO{q:Nat→Prop}{w:World}{p:DP}{tot:Nat}{X Y:Array Value}{l:LG}(h:bQ w p tot X)(ht:tot≤50000)(hy:iE w l Y)(hl:l.Ok p.size)(hL:cM 3 1 w)(B:Option Addr)(n d:Nat)(x:List Int)(hR:Rd q w 1 B n (am x))(hb:aU x)(hn:n≤maxLen):
    Calls prog 81 #[.agg X,.agg Y,.slice B n d] w (qW (aD p l x) (tot+l.size) w):=by
 have c7:x.length=n:=by have:=hR.1;rw[ah]at this;omega
 by_cases c1:ay n=0∨l.broken=true∨l.size-l.used<ay n
 ·refine(Cc h hy hl B n d x hR hn c1).mono ?_;rintro e w' ⟨X',Y',he,hd,hg,z⟩
  have e1:aD p l x=(p,l,if ay n=0 then 2 else if l.broken=true then 10 else 8):=by
   unfold aD;rw[c7]
   by_cases h0:ay n=0
   ·rw[if_pos h0,if_pos h0]
   ·rw[if_neg h0,if_neg h0]
    by_cases h1:l.broken=true
    ·rw[if_pos h1,if_pos h1]
    ·rw[if_neg h1,if_neg h1,if_pos ((c1.resolve_left h0).resolve_left h1)]
  rw[e1];exact⟨X',Y',he,hd.up (by omega),hg,z⟩
 have h0:ay n≠0:=fun e=>c1 (.inl e)
 have i3:l.broken=false:=by
  cases hb:l.broken with
  |false=>rfl
  |true=>exact absurd (.inr (.inl hb)) c1
 have j':¬l.size-l.used<ay n:=fun e=>c1 (.inr (.inr e))
 have g9:aD p l x=if(writeN p l x (ay n)).2≠0 then((writeN p l x (ay n)).1,{l with broken:=true},(writeN p l x (ay n)).2)else((writeN p l x (ay n)).1,l.step x,0):=by
  unfold aD;rw[c7,if_neg h0,if_neg (by rw[i3];decide),if_neg j']
 obtain⟨l1,l2,k1⟩:=dO h0;have f':=it n;have hu:=hl.used;have hf:=hl.fit;have hz:=h.ok.s2;obtain⟨A,c,hY,hI⟩:=hy.ex;have O:=hI.num;have HX:=Ld h.row;have HY:=Ld hy.row;have g6:Hid (∀W,Calls prog 86 #[.int .i64 n] W fun e w'=>e=.returned (.int .i64 (ay n:Nat))∧W=w'):=Ld fun W=>by rw[←jk];exact fy (n:Int) W
 have k5:Hid (∀k,k≤ay n→(writeN p l x k).1.Ok∧(writeN p l x k).1.size=p.size):=Ld fun k hk=>⟨mO h.ok hl hb k (by omega),fe p l x k⟩
 have k6:Hid (∀k,aJ (l.sec x k)):=Ld fun k=>LG.sec_ok l hb k
 have g3:Hid (∀W,aa w W→Calls prog 130 #[.agg Y,.slice B n d] W fun e w'=>∃C cc,e=.returned (.slice C (ay n) cc)∧fg 68 w' 64 C (ay n) (gU l x (ay n))∧aa W w'):=Ld fun W z=>by
  rw[hY];refine(oM l A c B n d x (hL.new z) (hI.new z) (z.rd hR) hb (by omega) (ay n) k1).mono ?_;rintro e w' ⟨⟨C,cc,he,hO⟩,i'⟩;exact⟨C,cc,he,fg.own hO rfl,i'⟩
 have j6:Hid (∀W,aa w W→Calls prog 124 #[.slice A 16 c,.int .u32 l.gen,.slice B n d] W fun e w'=>∃J S,e=.returned (.slice J 16 S)∧fg 5 w' 1 J 16 (am (fA l.tag l.gen x))∧aa W w'):=Ld fun W z=>by
  refine(oR A c l.tag l.gen B n d x W (hL.new z) (hI.new z).tag hI.byt (z.rd hR) hb hI.gen (by omega)).mono ?_;rintro e w' ⟨⟨J,S,he,hO⟩,i'⟩;exact⟨J,S,he,fg.own hO rfl,i'⟩
 have l5:=Ld hy
 have g4:Hid (∀W J S,fg 5 W 1 J 16 (am (fA l.tag l.gen x))→iE W (l.step x) (jy (jy Y 4 #[.slice J 16 S]) 2 #[.int .i64 ((l.used+ay n:Nat):Int)])):=Ld fun W J S hr=>by
  refine⟨J,S,?_,hr,gX _ _ _,hI.gen,O.1,O.2.1,?_⟩
  ·rw[hY,←c7];rfl
  ·show l.used+ay x.length≤100000;rw[c7];omega
 have j4:Hid (∀W,aa w W→iE W {l with broken:=true} (jy Y 5 #[.bool true])):=Ld fun W z=>by
  refine⟨A,c,by rw[hY];rfl,(hI.new z).tag,hI.byt,hI.gen,hI.num⟩
 obtain⟨D,hs⟩:=nm (ay n);rw[←hs]at g6 g3 g4 k5 g9 h0 j' f';obtain⟨fs,i5⟩:=nm l.first;obtain⟨sz,j0⟩:=nm l.size;obtain⟨us,j1⟩:=nm l.used;obtain⟨gn,i6⟩:=nm l.gen
 have HC:Hid (Y[0]?=some (.int .i64 fs)∧Y[1]?=some (.int .i64 sz)∧Y[2]?=some (.int .i64 us)∧Y[3]?=some (.int .u32 gn)∧Y[4]?=some (.slice A 16 c)∧Y[5]?=some (.bool false)∧Y.size=6):=Ld (by
  rw[hY,i5,j0,j1,i6,←i3]
  exact⟨rfl,rfl,rfl,rfl,rfl,rfl,rfl⟩)
 have f:Hid (Bx prog bL w w [] (fun w=>bQ w p tot X)):=Ld (Bx.start h (mH _ _ _));obtain⟨t,k2⟩:=nm (us+D);have e1:(us:Int)+(D:Int)=(t:Int):=by omega
 have e2:IntKind.i64.wrap (t:Int)=(t:Int):=IntWalk.i64_in _ (by omega);have e3:¬(sz:Int)<(t:Int):=by omega
 have l7:((D:Int)==0)=false:=by simp;omega
 have H:Hid (fs+us+D≤40000∧D≤sz∧tot≤50000∧D≤1193∧fs=l.first∧us=l.used∧t=us+D∧sz=l.size):=Ld ⟨by omega,by omega,ht,f',i5,j1,k2,j0⟩;rw[←i6]at j6 g4;obtain⟨F,hF⟩:=nm (qW (aD p l x) (tot+l.size) w);rw[←hF];have HF:=Ld hF;have j2:=Ld g9;clear h ht hy hl hL hR hb hn c7 c1 h0 i3 j' g9 l1 l2 k1 f' hu hf hz hY hI O hs i5 j0 j1 i6 k2 hF
 go_enter func81,ntmps81
 go_upto_region 9 with (first
  |(refine dJ f.out rfl rfl rfl cH HX.out (by decide) ?_;clear f;intro w1 b3 f)
  |(refine dJ f.out rfl rfl rfl ig HY.out (by decide) ?_;clear f;intro w1 b4 f)
  |(refine bW f.out rfl rfl cH zR (by decide) ?_;clear f;intro w1 b6 f)
  |(refine bW f.out rfl rfl ig zL (by decide) ?_;clear f;intro w1 b7 f)
  |(go_at_call 86;refine(g6.out _).mono ?_;rintro e w2 ⟨rfl,rfl⟩)
  |((with_reducible refine aA ⟨_,.load 4 _,_,_,_,_⟩ ?_);refine aR 1 f.out rfl rfl rfl rfl underlying4 rfl HC.out.2.2.2.2.2.1 ?_)
  |((with_reducible refine aA ⟨_,.load 3 _,_,_,_,_⟩ ?_);first|(refine aR 1 f.out rfl rfl rfl rfl underlying3 rfl HC.out.2.1 ?_)|(refine aR 1 f.out rfl rfl rfl rfl underlying3 rfl HC.out.2.2.1 ?_))
  |((with_reducible refine aA ⟨_,.load 75 _,_,_,_,_⟩ ?_);refine bh 1 f.out rfl rfl rfl rfl rfl ?_)
  |(go_at_call 130;refine(g3.out _ f.out.nw).mono ?_;rintro e w3 ⟨C,cc,rfl,hC,z⟩;have hB:=(f.out.call z hC (vC _ _ _));clear f z hC;have f:=Ld hB;clear hB))
 have j3:Hid (Fg w b3 b4 b6 b7 p l x tot Y C D 0 w3):=Ld ⟨⟨X,f.out,HX.out,rfl⟩⟩;clear f HX g3 g6
 go_wp2_with fail
 go_loopw [11,12,13] (fun i _ _ wr=>∃(k:Nat),k≤D∧i=.int .i64 k∧Hid (Fg w b3 b4 b6 b7 p l x tot Y C D k wr)) (fun i _ _ _=>D-(intOf i).toNat)
 case atStart=>exact⟨0,Nat.zero_le _,rfl,j3⟩
 case round=>
  clear j3;obtain⟨k,hk,rfl,HI⟩:=hrel;obtain⟨X1,hB,k',k3⟩:=HI.out.ex;have f:=Ld hB;have c9:=Ld k';have j7:=Ld k3;clear HI hB k' k3;have f':=H.out.2.2.2.1
  by_cases i7:k<D
  ·have c8:=Ld i7;have l':(k:Int)<(D:Int):=by omega
   have m':(0:Int)≤(k:Int):=by omega
   have i1:¬((k:Int)<0):=by omega
   obtain⟨gC,oC,rfl,-,-,k0⟩:=Rd.out f.out.r.2 (by omega) (by omega);obtain⟨sj,d'⟩:=nm (l.sec x k);have c6:Hid (aJ sj):=Ld (by rw[d'];exact k6.out k)
   have j5:Hid (∀w',aa wr w'→w'.rangeAt gC (oC+k*64) (am sj)):=Ld fun w' z i v hv=>by
    have hi:i<64:=by
     have:=(List.getElem?_eq_some_iff.1 hv).1
     rwa[ah,c6.out.1]at this
    rw[Eg c6.out hi]at hv;injection hv with hv;subst hv;rw[Nat.add_assoc];refine z.cell_ (k0 (k*64+i) _ ?_);rw[d'];exact oV l x hi i7
   have O:=H.out;obtain⟨a1,k8⟩:=nm (fs+us);obtain⟨a,ha⟩:=nm (a1+k);have e4:(fs:Int)+(us:Int)=(a1:Int):=by omega
   have e5:IntKind.i64.wrap (a1:Int)=(a1:Int):=IntWalk.i64_in _ (by omega);have e6:(a1:Int)+(k:Int)=(a:Int):=by omega
   have e7:IntKind.i64.wrap (a:Int)=(a:Int):=IntWalk.i64_in _ (by omega);obtain⟨pn,i9⟩:=nm ((writeN p l x k).1.doWrite (a:Int) sj);obtain⟨ck,i4⟩:=nm ((writeN p l x k).1.wcode (a:Int))
   have c5:Hid (writeN p l x (k+1)=(pn,ck)):=Ld (by
    rw[iX j7.out,←d',i9,i4,show l.first+l.used+k=a by omega])
   have g7:Hid (∀W,bQ W (writeN p l x k).1 (tot+k) X1→Calls prog 32 #[.agg X1,.int .i64 (a:Int),.agg (af sj)] W (fI pn (tot+(k+1)) ck W)):=Ld fun W hd=>by
    rw[i9,i4];exact lS hd (by omega) _ (WalkArith.wf_i64 (by omega)) c6.out
   have q0:∀p':HW (aa wr),p'.w.cell? ⟨b4,0,none⟩=some (.int .i64 fs):=fun p'=>(f.out.new p'.h).cell 1 rfl 0 HC.out.1
   have q2:∀p':HW (aa wr),p'.w.cell? ⟨b4,2,none⟩=some (.int .i64 us):=fun p'=>(f.out.new p'.h).cell 1 rfl 2 HC.out.2.2.1
   clear k0 d' O k8 ha i9 i4
   go_wp2_with fail
   apply me (α:=Nat×Array Value) (fun y w4=>Bx prog bL w w4 [⟨b3,65,X1⟩,⟨b4,75,Y⟩,⟨b6,65,Ba⟩,⟨b7,75,pH⟩,⟨y.1,65,y.2⟩] (fun w=>bQ w pn (tot+(k+1)) y.2∧fg 68 w 64 (some ⟨gC,oC,none⟩) D (gU l x D))∧iL 5 y.2)
   case h1=>
    intro K' j9;refine cD (aa wr) (.take 0 (.take 1 (.take 2 (.take 3 (.take 4 (.take 5 (.take 6 (.take 7 (.take 8 (.take 9 (.take 10 (.take 11 (.two 12 (.take 13 (.take 14 (.take 15 (.act 16 (.act 17 (.take 18 .done)))))) 16 (.act 12 (.take 13 (.take 14 (.take 15 (.act 17 (.take 18 .done))))))))))))))))))) (by kernel_rfl) (by kernel_rfl) (aa.dr (aa.refl wr)) (fun c0=>?_);refine fS (o:=.mk ..) (cs:=X1.toList) rfl rfl _ rfl rfl (fun w' h=>((f.out.new h).blk 0 rfl).rangeOf) underlying65 rfl (by rw[Array.length_toList,c9.out.sz];rfl) ?_
    iterate 10 (refine aB (o:=.mk ..) rfl (fun K u=>?_);go_simp;refine u _ ?_;clear u K)
    refine fS (o:=.mk ..) (cs:=am sj) rfl rfl _ rfl rfl (fun w' h=>j5.out w' h) underlying68 rfl (by rw[ah,c6.out.1];rfl) ?_;simp only[Act.put,bK,bM,bO];refine⟨?_,?_⟩
    ·refine dX (o:=.mk ..) rfl (fun K u=>?_) (.inl rfl);go_simp;refine(g7.out _ (f.out.new (aa.dr (aa.refl _))).r.1).mono ?_;rintro e w4 ⟨X2,rfl,hD,z⟩;have M:Hid (aa wr w4):=Ld ((aa.dr (aa.refl _)).tr z);have s:=Ld hD.row;have b9:=Ld (((f.out.new (aa.dr (aa.refl _))).call z hD (mH _ _ _)).rel (R':=(fun w=>bQ w pn (tot+(k+1)) X2∧fg 68 w 64 (some ⟨gC,oC,none⟩) D (gU l x D))) (fun h=>⟨h.2,h.1.2⟩) ((mH _ _ _).and (vC _ _ _)));clear z hD;go_simp;refine u.out _ _ M.out ?_;clear u K
     iterate 3 (refine aB (o:=.mk ..) rfl (fun K u=>?_);go_simp;refine u _ ?_;clear u K)
     refine fB (o:=.mk ..) rfl rfl rfl Ad ?_;intro G w5 E N b8;have U:=Ld (b9.out.addN b8 N (Nat.le_of_eq E.symm) (by decide) cH);have V:Hid (aa wr w5∧wr.heap.size≤G):=Ld ⟨M.out.tr b8,by rw[E];exact M.out.size⟩;refine⟨V.out.1,?_⟩;clear E N b8 b9 M;simp only[Act.put,bK,bM,bO];refine dP (o:=.mk ..) (cs:=X2) rfl rfl (.tmp 12) (.tmp 57) rfl (by rw[s.out.sz];rfl) rfl rfl (U.out.blk 4 rfl) (by rw[s.out.sz];rfl) s.out.al ?_;intro w6 I b1;have c3:=Ld (U.out.set (i:=4) rfl I (by rw[s.out.sz];rfl) b1);refine⟨V.out.1.fr b1 (fun j hj=>by rw[show j=G from hj];exact V.out.2),?_⟩;clear I b1 U V;simp only[Act.put,bK,bM,bO];refine aB (o:=.mk ..) rfl (fun K u=>?_);go_simp;refine u _ ?_;clear u K;refine bq ?_;have hz:=And.intro c3.out s.out;clear c3 s;obtain⟨y,y1,y2⟩:∃y:Nat×Array Value,G=y.1∧X2=y.2:=⟨(G,X2),rfl,rfl⟩
     subst y1 y2;exact j9.out y w6 hz
    ·refine fL (o:=.mk ..) rfl rfl rfl Ad ?_;intro G w5 E N b8;have g5:Hid (aa wr w5):=Ld ((aa.dr (aa.refl _)).tr b8);have U:=Ld ((f.out.new (aa.dr (aa.refl _))).addN b8 N (Nat.le_of_eq E.symm) (by decide) cH);have V:Hid (wr.heap.size≤G):=Ld (by rw[E];exact(aa.dr (aa.refl wr)).size);refine⟨g5.out,?_⟩;clear E N b8;simp only[Act.put,bK,bM,bO];refine aE (o:=.mk ..) rfl (fun K u=>?_) (.inl rfl);go_simp;refine(g7.out _ U.out.r.1).mono ?_;rintro e w4 ⟨X2,rfl,hD,z⟩;have M:Hid (aa wr w4):=Ld (g5.out.tr z);have s:=Ld hD.row;have b9:=Ld ((U.out.call z hD (mH _ _ _)).rel (R':=(fun w=>bQ w pn (tot+(k+1)) X2∧fg 68 w 64 (some ⟨gC,oC,none⟩) D (gU l x D))) (fun h=>⟨h.2,h.1.2⟩) ((mH _ _ _).and (vC _ _ _)));clear z hD g5 U;go_simp;refine u.out _ _ M.out ?_;clear u K
     iterate 3 (refine aB (o:=.mk ..) rfl (fun K u=>?_);go_simp;refine u _ ?_;clear u K)
     refine dP (o:=.mk ..) (cs:=X2) rfl rfl (.tmp 12) (.tmp 57) rfl (by rw[s.out.sz];rfl) rfl rfl (b9.out.blk 4 rfl) (by rw[s.out.sz];rfl) s.out.al ?_;intro w6 I b1;have c3:=Ld (b9.out.set (i:=4) rfl I (by rw[s.out.sz];rfl) b1);refine⟨M.out.fr b1 (fun j hj=>by rw[show j=G from hj];exact V.out),?_⟩;clear I b1 b9 V M;simp only[Act.put,bK,bM,bO];refine aB (o:=.mk ..) rfl (fun K u=>?_);go_simp;refine u _ ?_;clear u K;refine bq ?_;have hz:=And.intro c3.out s.out;clear c3 s;obtain⟨y,y1,y2⟩:∃y:Nat×Array Value,G=y.1∧X2=y.2:=⟨(G,X2),rfl,rfl⟩
     subst y1 y2;exact j9.out y w6 hz
   case h2=>
    rintro⟨G,X2⟩ w6 ⟨I,i0⟩;dsimp only at I i0;have f:=Ld I;have s:=Ld i0;clear I i0 c9 q0 q2 g7 j5 c6 e4 e5 e6 e7
    by_cases hc:ck=0
    ·subst hc
     go_wp2_with (first
      |((with_reducible refine aA ⟨_,.load 65 _,_,_,_,_⟩ ?_);refine bh 4 f.out rfl rfl rfl rfl rfl ?_)
      |((with_reducible refine aA ⟨_,.store 65 _ _,_,_,_,_⟩ ?_);refine bj 0 f.out rfl rfl rfl rfl rfl rfl s.out cH ?_;clear f;intro w7 f))
     have k4:Hid (Fg w b3 b4 b6 b7 p l x tot Y (some ⟨gC,oC,none⟩) D (k+1) w7):=Ld ⟨⟨X2,by rw[c5.out];exact f.out.init,s.out,by rw[c5.out]⟩⟩;clear f s c5;go_roundw
     case rel=>exact⟨k+1,c8.out,by go_num,k4⟩
     case measure=>simp[intOf];have:=c8.out;omega
    ·have l8:(ck==0)=false:=by simpa using hc
     go_upto_region 16 with (first
      |((with_reducible refine aA ⟨_,.load 65 _,_,_,_,_⟩ ?_);refine bh 4 f.out rfl rfl rfl rfl rfl ?_)
      |((with_reducible refine aA ⟨_,.store 65 _ _,_,_,_,_⟩ ?_);refine bj 0 f.out rfl rfl rfl rfl rfl rfl s.out cH ?_;clear f;intro w7 f)
      |((with_reducible refine aA ⟨_,.store 4 _ _,_,_,_,_⟩ ?_);refine tZ 1 (v:=.bool true) (Z:=jy Y 5 #[.bool true]) f.out rfl rfl rfl rfl rfl rfl rfl (by kernel_rfl) (by rw[HC.out.2.2.2.2.2.2];decide) rfl ?_;clear f;intro w8 f))
     have b0:=j4.out w8 f.out.nw;have g8:=Ld b0.row;have b0:=Ld b0;refine ag (fun w=>ab w b3 65 X2∧ab w b4 75 (jy Y 5 #[.bool true])) [(true,0),(true,1),(true,2),(false,3),(false,4),(true,5)] (by kernel_rfl) (by kernel_rfl) ⟨(f.out.new (aa.dr (aa.refl _))).blk 0 rfl,(f.out.new (aa.dr (aa.refl _))).blk 1 rfl⟩ (fun c0=>?_);refine bH (o:=.mk ..) (cs:=X2.toList) rfl rfl _ rfl rfl (fun w' h=>h.1.rangeOf) underlying65 rfl (by rw[Array.length_toList,s.out.sz];rfl) ?_;refine bH (o:=.mk ..) (cs:=(jy Y 5 #[.bool true]).toList) rfl rfl _ rfl rfl (fun w' h=>h.2.rangeOf) underlying75 rfl (by rw[Array.length_toList,g8.out.sz];rfl) ?_;simp only[Act.put,bK,bM,bO];refine ae (o:=.mk ..) rfl (fun K u=>?_);go_simp;refine u _ ?_;clear u K;refine aj (o:=.mk ..) rfl (fun K u=>?_) (.inl rfl);refine fb 2 (f.out.new (aa.dr (aa.refl _))) rfl rfl rfl rfl rfl rfl s.out cH ?_;clear f;intro w9 f _;simp only[Act.put,bK,bM,bO];refine u.out _ _ (fun _=>⟨f.out.blk 0 rfl,f.out.blk 1 rfl⟩) ?_;clear u K;refine aj (o:=.mk ..) rfl (fun K u=>?_) (.inl rfl);refine fb 3 f.out rfl rfl rfl rfl rfl rfl g8.out ig ?_;clear f;intro l4 f _;simp only[Act.put,bK,bM,bO];refine u.out _ _ (fun _=>⟨f.out.blk 0 rfl,f.out.blk 1 rfl⟩) ?_;clear u K;refine ae (o:=.mk ..) rfl (fun K u=>?_);go_simp;refine u _ ?_;clear u K;refine ao ?_;clear c0
     go_wp2_with fail
     refine bodyPost_ret (dQ rfl _ _ _ _ _ _ _ _ rfl (f.out.blk 2 rfl) underlying65 rfl (by rw[s.out.sz];kernel_rfl) rfl (f.out.blk 3 rfl) underlying75 rfl (by rw[g8.out.sz];kernel_rfl)) rfl ?_
     have l3:writeN p l x D=(pn,ck):=by
      rw[←c5.out];exact sG (by rw[c5.out];exact hc) D c8.out
     rw[HF.out,j2.out,l3,if_pos hc];exact⟨_,_,rfl,f.out.r.1.up (by have:=H.out;have:=c8.out;omega),j4.out _ f.out.nw,f.out.nw⟩
  ·have l9:¬(k:Int)<(D:Int):=by omega
   have k9:k=D:=by omega
   subst k9;clear i7;have e8:(us:Int)+(k:Int)=(t:Int):=e1
   go_upto_region 19 with (first
    |((with_reducible refine aA ⟨_,.load 33 _,_,_,_,_⟩ ?_);refine aR 1 f.out rfl rfl rfl rfl underlying33 rfl HC.out.2.2.2.2.1 ?_)
    |((with_reducible refine aA ⟨_,.load 44 _,_,_,_,_⟩ ?_);refine aR 1 f.out rfl rfl rfl rfl underlying44 rfl HC.out.2.2.2.1 ?_)
    |(go_at_call 124;refine(j6.out _ f.out.nw).mono ?_;rintro e w7 ⟨J,S,rfl,hT,z⟩;have hB:=(f.out.call (R':=fun w=>iE w (l.step x) (jy (jy Y 4 #[.slice J 16 S]) 2 #[.int .i64 ((l.used+k:Nat):Int)])) z (g4.out _ _ _ hT) (AH _ _));clear f z hT;have f:=Ld hB;clear hB)
    |((with_reducible refine aA ⟨_,.store 33 _ _,_,_,_,_⟩ ?_);refine tZ 1 (v:=.slice J 16 S) (Z:=jy Y 4 #[.slice J 16 S]) f.out rfl rfl rfl rfl rfl rfl rfl (by kernel_rfl) (by rw[HC.out.2.2.2.2.2.2];decide) rfl ?_;clear f;intro w8 f)
    |((with_reducible refine aA ⟨_,.load 3 _,_,_,_,_⟩ ?_);refine aR 1 f.out rfl rfl rfl rfl underlying3 rfl (Cp HC.out.2.2.1 HC.out.2.2.2.2.2.2) ?_)
    |((with_reducible refine aA ⟨_,.store 3 _ _,_,_,_,_⟩ ?_);refine tZ 1 (v:=.int .i64 (t:Int)) (Z:=jy (jy Y 4 #[.slice J 16 S]) 2 #[.int .i64 (t:Int)]) f.out rfl rfl rfl rfl rfl rfl rfl (by kernel_rfl) (by rw[AE HC.out.2.2.2.2.2.2];decide) rfl ?_;clear f;intro w9 f))
   have c4:=f.out.r.2;have i2:jy (jy Y 4 #[.slice J 16 S]) 2 #[.int .i64 ((l.used+k:Nat):Int)]=jy (jy Y 4 #[.slice J 16 S]) 2 #[.int .i64 (t:Int)]:=by rw[H.out.2.2.2.2.2.2.1,H.out.2.2.2.2.2.1]
   have j8:Hid (iL 6 (jy (jy Y 4 #[.slice J 16 S]) 2 #[.int .i64 (t:Int)])):=Ld (by rw[←i2];exact c4.row);have k7:=Ld i2;clear c4 i2;refine sF [(true,4)] 0 1 2 3 f.out (by kernel_rfl) (by kernel_rfl) rfl rfl rfl rfl rfl rfl rfl rfl rfl rfl rfl rfl rfl rfl rfl rfl rfl rfl rfl rfl rfl rfl rfl rfl rfl rfl rfl rfl rfl rfl c9.out j8.out cH ig ?_;clear f;intro c0 l4 f;have c0:Nonempty (HW fun w:World=>ab w b3 65 X1∧ab w b4 75 (jy (jy Y 4 #[.slice J 16 S]) 2 #[.int .i64 (t:Int)])):=c0;simp only[Act.put,bK,bM,bO];refine ae (o:=.mk ..) rfl (fun K u=>?_);go_simp;refine u _ ?_;clear u K;refine ao ?_;clear c0
   go_wp2_with fail
   refine bodyPost_ret (dQ rfl _ _ _ _ _ _ _ _ rfl (f.out.blk 2 rfl) underlying65 rfl (by rw[c9.out.sz];kernel_rfl) rfl (f.out.blk 3 rfl) underlying75 rfl (by rw[j8.out.sz];kernel_rfl)) rfl ?_;rw[HF.out,j2.out,if_neg (by rw[j7.out];simp)];refine⟨_,_,rfl,f.out.r.1.1.up (by have:=H.out;omega),?_,f.out.nw⟩;have h1:=f.out.r.2;rw[k7.out]at h1;exact h1
end Go.Proofs.YtfchcdbfalgdlaaGreatDoor
namespace Go.Proofs.YtfchcdbfalgdlaaGreatDoor
open _root_.Go.Proofs.Tryz
open Go.RowKit Go.Sort Go.Maps
def Fj(w:World)(A:Option Addr)(L:List (List Int)):Prop:=∀i l,L[i]?=some l→∃g o d f,A=some ⟨g,o,none⟩∧w.cell? ⟨g,o+i,none⟩=some (.slice d l.length f)∧aU l∧Rd (fun _=>True) w 1 d l.length (am l)
theorem dW.rowB{B:Nat}{w:World}{A:Option Addr}{n c:Nat}{L:List (List Int)}(h:dW B w (.slice A n c) L)(z:n=L.length):Fj w A L:=by
 obtain⟨E,C,u⟩:=h.row;intro i l hl;have hi:=(List.getElem?_eq_some_iff.1 hl).1;obtain⟨g,o,r,-,-,s⟩:=(Rd.own C (by rw[z])).out (by omega) (by omega);obtain⟨d,f,h1,h2,D,j,k⟩:=u i l hl;exact⟨g,o,d,f,r,s i _ h1,j,k.imp (fun _ _=>trivial)⟩
theorem sg{p:DP}(i:p.Ok)(l:LG):∀k,∀b∈(runs p l k).2,b.length≤65536
 | 0,b,f=>by cases f
 |k+1,b,f=>by
  cases hn:nextL p (runs p l k).1 with
  |none=>rw[iU hn 1]at f;exact sg i l k b f
  |some d=>
   rw[fa hn]at f;rcases List.mem_append.1 f with h|h
   ·exact sg i l k b h
   ·obtain rfl:=List.mem_singleton.1 h;obtain⟨h1,rfl⟩:=ox hn;rw[LG.body_len i h1.pos];exact(dO h1.pos).2.1
theorem la:∀(K d:List (List Int)) (T:CT),bi T (K++d)=(bi T K).bind fun t=>bi t d
 | [],_,_=>rfl
 |b::K,d,T=>by
  have e:∀X,bi T (b::X)=match dL b with|some L=>bi (doPs T L) X|none=>none:=fun _=>rfl
  rw[List.cons_append,e,e]
  cases dL b with
  |none=>rfl
  |some L=>exact la K d _
theorem oF{K:List (List Int)}{T t:CT}{i:Nat}{l:List Int}(h:bi T (K.take i)=some t)(hl:K[i]?=some l)(d:dL l=none):bi T K=none:=by
 have e:K=K.take i++l::K.drop (i+1):=by
  have hi:=(List.getElem?_eq_some_iff.1 hl)
  rw[←hi.2,List.getElem_cons_drop,List.take_append_drop]
 rw[e,la,h];show bi t (l::_)=none;unfold bi;rw[d]
theorem qy{K:List (List Int)}{T t:CT}{i:Nat}{l:List Int}{L:List PC}(h:bi T (K.take i)=some t)(hl:K[i]?=some l)(d:dL l=some L):bi T (K.take (i+1))=some (doPs t L):=by
 rw[List.take_add_one,hl,la,h];show bi t [l]=_;unfold bi;rw[d];rfl
theorem oD{l:List Int}{L:List PC}(h:dL l=some L):dv L=true:=by
 unfold dL at h;split at h
 ·next d=>injection h with h;rw[←h];exact d.2
 ·cases h
theorem px.off{w:World}{A:Option Addr}{n:Nat}{L:List Ch}{P:Program}{r:TypeId}{b m:Nat}{f:Lit→Option Value}(h:px w A n L)(j:aH w P r b m f):Rd (fun k=>k≠b) w 3 A n (L.flatMap Ch.cells)∧∀c∈L,c.In (fun k=>k≠b) w:=
 ⟨(ld h.rd j (by decide)).imp (fun _ d=>d.2),fun c i=>⟨⟨(ld (h.el c i).k.rd j (by decide)).imp (fun _ d=>d.2),(h.el c i).k.byt⟩,⟨(ld (h.el c i).v.rd j (by decide)).imp (fun _ d=>d.2),(h.el c i).v.byt⟩⟩⟩
def mj(W w:World)(gd bs bf mm:Nat)(r:DP×Int×Option SW)(e:Ending)(w':World):Prop:=
 match r.2.2 with
 |some s=>∃d bt,e=.returned (.tuple #[.pointer (some ⟨d,0,none⟩),.nilIface])∧ea W w' d gd bs bf bt s mm∧w.heap.size≤d∧w.heap.size≤bt∧dI (iZ bs bf bs) W w w'
 |none=>e=.returned (.tuple #[.pointer none,dG r.2.1])∧dI (iZ bs bf bs) W w w'
section
variable {W w:World}{gd bs bf:Nat}{v:Value}{p:DP}
theorem tW {base:Nat} (f:Dk w base gd bs bf v p) (h:p.size<4):Calls prog 9 #[.pointer (some ⟨gd,0,none⟩)] w fun e w'=>e= .returned (.tuple #[.pointer none,dG 1])∧w=w':=by
 have d:=Ld (lD f);rw[if_pos h,bC (by decide)]at d;rw[bC (by decide)];clear f h
 go_enter func9,ntmps9
 go_wp2_with fail
 refine d.out.mono ?_;rintro e i ⟨rfl,rfl⟩
 go_wp2_with fail
 go_ret2
 exact⟨rfl,rfl⟩
theorem qL(hD:Dk w W.heap.size gd bs bf v p)(hN:aa W w)(hL:dp 4 2 W)(hu:Up p)(h4:4≤p.size)(hr:(runL p (aS p.size (iF p))).2.length≤1600):
    Calls prog 9 #[.pointer (some ⟨gd,0,none⟩)] w (mj W w gd bs bf (600*(runL p (aS p.size (iF p))).2.length) (opnS p)):=by
 have HF:=Ld (lD hD);rw[if_neg (by omega),bY]at HF;have HC:=Ld (uB hD (by omega) (hL.new hN));have u:iF p<4294967296:=by rw[←rl];exact np hD.ok 2
 have b9:=Ld (fun w1 (h:aa w w1)=>mC (hD.new h) (by omega) (iF p) u);have HD:=Ld hD;have HL:=Ld hL;have HN:=Ld hN;obtain⟨g,hg⟩:=nm (iF p);obtain⟨R,hR⟩:=nm (opnS p);obtain⟨rr,U⟩:=nm (runL p (aS p.size g));have HR:Hid (R=if g=0 then(p,(2:Int),(none:Option SW))else match bi [] rr.2 with|some t=>((az p rr.1).1,0,some (⟨(az p rr.1).1,rr.1,t,g,false⟩:SW))|none=>((az p rr.1).1,2,none)):=Ld (by rw[hR];unfold opnS;rw[if_neg (by omega),←hg,U];rfl);rw[←hR];rw[←hg]at HC b9 u hr⊢;rw[←U]at hr⊢;have HG:=Ld u;have c3:=Ld U;have c1:=Ld hr;have HU:=Ld hu;have H4:=Ld h4;clear hD hL hN hu h4 u hg hR U hr
 go_enter func9,ntmps9
 go_wp2_with fail
 refine HF.out.mono ?_;rintro e w1 ⟨rfl,rfl⟩;clear HF
 go_wp2_with fail
 refine HC.out.mono ?_;rintro e w1 ⟨rfl,g9⟩;have d:=Ld g9;clear g9 HC
 by_cases h0:g=0
 ·have C:=Ld (HR.out.trans (if_pos h0));subst h0
  go_wp2_with fail
  go_ret2
  unfold mj;rw[C.out];exact⟨by rw[bC (show(2:Int)≠0 by decide)];rfl,dI.new d.out⟩
 have C:=Ld (HR.out.trans (if_neg h0));have k1:¬(g:Int)=0:=by omega
 have H0:=Ld h0;clear h0 HR
 go_wp2_with fail
 refine(b9.out w1 d.out).mono ?_;rintro e w2 ⟨rfl,rfl⟩;clear b9;have z:=eO (g:=g) H4.out;obtain⟨fs,O⟩:=nm (fH g p.size);obtain⟨hl,G⟩:=nm (hlf p.size);have j1:Hid (aS p.size g=bP fs hl g):=Ld (by rw[O,G];rfl);have M:=Ld (xS (HD.out.new d.out) ((HL.out.new HN.out).new d.out) fs hl g (by rw[G];exact z.1) (by rw[G,O];exact z.2.1) HG.out H0.out);rw[←j1.out,←c3.out]at M;have I:=ca HD.out.ok (l:=aS p.size g) (eS z.2.1 HG.out) ((aS p.size g).size+1);have I:rr.1.Ok p.size:=by rw[c3.out];exact I.1
 have N:=Ld (HU.out.wipe I.fit I.used);rw[←O,←G];have j9:Hid (∀b∈rr.2,b.length≤65536):=Ld (by rw[c3.out];exact sg HD.out.ok _ _);obtain⟨x,hx⟩:=nm (az p rr.1);rw[←hx]at M N C;clear O G z I hx k1
 go_wp2_with fail
 refine M.out.mono ?_;intro e V hs;unfold lw at hs;rw[if_pos N.out.1]at hs;obtain⟨gl,A,c,v3,rfl,k4,i5,H,hT⟩:=hs;have b1:Hid (dI (iZ bs bf bs) W w V):=Ld ((dI.new d.out).tr (dI.of hT.fr (nX (HD.out.new d.out) (.inl rfl) (.inr (.inl rfl)))));have j0:Hid (Dk V W.heap.size gd bs bf v3 x.1):=Ld hT.dk;have j2:=Ld i5;have s:Hid (w.heap.size≤V.heap.size∧w.heap.size≤gl∧W.heap.size≤w.heap.size∧bs<w.heap.size∧bf<w.heap.size):=Ld ⟨b1.out.size,by have:=d.out.size;omega,HN.out.size,(HD.out.ours bs (.inr (.inl rfl))).2,(HD.out.ours bf (.inr (.inr (.inl rfl)))).2⟩;obtain⟨n,hn⟩:=nm rr.2.length;rw[←hn]at H c1⊢;have c0:=Ld (H.rowB hn);have b8:=Ld hn;clear k4 i5 H hT M hn d
 go_wp2_with fail
 refine(BO W.heap.size V (by have:=s.out;omega)).mono ?_;rintro e w4 ⟨gt,bt,rfl,i2,i',k5,i3⟩;have g8:=Ld i2;have b3:=Ld i';have J:Hid (V.heap.size≤bt):=Ld i3;clear i2 i' k5 i3
 go_upto_region 14 with fail
 refine fX fun w5 c9=>?_
 obtain⟨gs,S⟩:=nm w4.heap.size;have f':Hid (ab w5 gs 102 #[.pointer (some ⟨gd,0,none⟩),.pointer (some ⟨gl,0,none⟩),.pointer (some ⟨gt,0,none⟩),.int .u32 g,.bool false]):=Ld (by rw[c9.out,S];exact ab.new _ _ _);have b7:Hid (aa w4 w5):=Ld (by rw[c9.out];exact(aa.refl _).al _);have g3:Hid (V.heap.size≤gs):=Ld (by rw[S];exact b3.out.size);rw[←S];clear c9 S
 go_wp2_with fail
 go_loopw [13,14,15,16,61] (fun _ _ _ _ i wr=>∃(k:Nat) (X:Nat→Prop) (m:Nat) (E:fi),k≤n∧i=.int .i64 k∧Hid (aa V wr)∧Hid (ab wr gs 102 #[.pointer (some ⟨gd,0,none⟩),.pointer (some ⟨gl,0,none⟩),.pointer (some ⟨gt,0,none⟩),.int .u32 g,.bool false])∧Hid (dl X wr W.heap.size gt bt m E)∧Hid (bi [] (rr.2.take k)=some (cY E))∧Hid (m≤600*k∧E.length≤600*k)) (fun _ _ _ _ i _=>n-(intOf i).toNat)
 case atStart=>exact⟨0,fun _=>False,0,[],Nat.zero_le _,rfl,Ld (b3.out.tr b7.out),f',Ld (g8.out.new b7.out),Ld rfl,Ld ⟨Nat.le_refl _,Nat.le_refl _⟩⟩
 case round=>
  clear f' g8 b3 b7;obtain⟨k,X,m,E,hk,rfl,HW,HB,HT,HP,HM⟩:=hrel
  by_cases c6:k<n
  ·have g5:=Ld c6;have l1:=c1.out;have k7:(k:Int)<(n:Int):=by omega
   have l':(0:Int)≤(k:Int):=by omega
   obtain⟨l,hl⟩:∃l,rr.2[k]?=some l:=⟨_,List.getElem?_eq_getElem (by rw[←b8.out];exact c6)⟩
   obtain⟨ga,o,A',c',hA,F,i4,i9⟩:=c0.out k l hl;subst hA;have k3:=HW.out.cell_ F;have g6:=Ld (xY A' l.length c' l wr (HW.out.rd i9) i4 (by have:=j9.out l (List.mem_of_getElem? hl);omega));have g4:=Ld hl;clear hl F i4 i9
   go_wp2_with fail
   refine g6.out.mono ?_;rintro e w6 ⟨hs,i0⟩;have r:=Ld i0;clear g6 i0 k3;rcases hs with⟨hp,rfl⟩|⟨A7,n7,c7,L,hp,rfl,D⟩
   ·have j8:=Ld (oF HP.out g4.out hp);clear hp
    go_wp2_with fail
    go_ret2
    unfold mj;rw[C.out,j8.out];exact⟨by rw[bC (show(2:Int)≠0 by decide)];rfl,b1.out.tr (dI.new (HW.out.tr r.out))⟩
   ·have g7:=Ld (qy HP.out g4.out hp);have c8:dg L=true:=by rw [←gy D.lens];exact oD hp
    have j6:=Ld (dK c8);obtain⟨f,hf,-⟩:=(HT.out.new r.out).map;obtain⟨i6,i7⟩:=D.off hf;have d':=Ld (pR (P:=fun k=>k≠bt) (HT.out.new r.out) A7 n7 c7 L i6 D.len i7 (fun k hk=>hk) c8 (by have:=HM.out;have:=c1.out;omega));have j4:Hid (n7=L.length):=Ld D.len.symm;have k8:w6.cell? ⟨gs,2,none⟩=some (.pointer (some ⟨gt,0,none⟩)):=(r.out.blk HB.out).cell 2;have b0:=Ld (r.out.blk HB.out);have k0:Hid (aa V w6):=Ld (HW.out.tr r.out);clear hp c8 hf D HP i6 i7 HB HW
    go_wp2_with fail
    refine d'.out.mono ?_;rintro e w8 ⟨rfl,X8,E8,i1,c5,c4,k2⟩;have j5:Hid (aa V w8):=Ld (k0.out.fr c4 (fun j hj=>by have:=J.out;omega))
    have j':=Ld (b0.out.fr c4 (fun e=>absurd e (fun e=>by
     obtain⟨f,hf,-⟩:=(HT.out.new r.out).map;rw[e]at b0
     exact aO.not_map hf ⟨_,_,b0.out⟩)))
    have k':=Ld i1;have j7:Hid (bi [] (rr.2.take (k+1))=some (cY E8)):=Ld (by rw[g7.out,c5,rt])
    have j3:Hid (m+n7≤600*(k+1)∧E8.length≤600*(k+1)):=Ld (by
     have h1:=congrArg List.length c5;have h2:=vY (cY E) L;rw[eH]at h1 h2;have:=HM.out;have:=j4.out;have:=j6.out.2.1
     omega)
    clear i1 c5 c4 k2 d' g7
    go_wp2_with fail
    go_roundw
    case rel=>exact⟨k+1,X8,m+n7,E8,g5.out,by go_num,j5,j',k',j7,j3⟩
    case measure=>simp[intOf];have:=g5.out;omega
  ·have k9:¬(k:Int)<(n:Int):=by omega
   have k6:k=n:=by omega
   subst k6;clear c6
   go_wp2_with fail
   go_ret2
   unfold mj;rw[C.out];rw[b8.out,List.take_length]at HP;rw[HP.out];refine⟨gs,bt,rfl,⟨gl,gt,v3,X,m,E,HB.out,j0.out.new HW.out,?_,HT.out,⟨by have:=s.out;have:=g3.out;omega,by have:=s.out;omega⟩,⟨by have:=s.out;have:=J.out;omega,by have:=s.out;have:=J.out;omega⟩,rfl,by rw[←b8.out];exact HM.out,HG.out,?_⟩,by have:=s.out;have:=g3.out;omega,by have:=s.out;have:=J.out;omega,b1.out.tr (dI.new HW.out)⟩
   ·show Lg wr gl gd rr.1 x.1.size;rw[N.out.2.2];exact j2.out.new HW.out
   ·show 4≤x.1.size;rw[N.out.2.2];exact H4.out
end
end Go.Proofs.YtfchcdbfalgdlaaGreatDoor
