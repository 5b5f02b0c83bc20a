/- Texts of one proof. No condition but each one's own. -/
import Derived.Test.YtfchcdbfalgdlaaGreatDoorSweepPlaysM21
set_option maxHeartbeats 4000000
set_option maxRecDepth 100000
set_option linter.unusedVariables false
set_option linter.unusedSimpArgs false
namespace Go.Proofs.YtfchcdbfalgdlaaGreatDoor
open _root_.Go.Proofs.Tryz
open Go.RowKit
def AJ{α:Type}(R:List α->α->Prop)(P:Program)(i:Nat)(lb:Array Value)(c:α->Array Value)(Good:α->World->Prop)(g:World->World->Prop)(S:List α->Prop)(M:Nat)(w:World):Prop:=
 ∀(l:Nat) (J:List α->World->Prop) (d:World->Prop) (W:World),aa w W->(∀s A B,J s A->aa A B->J s B)->(∀A B,d A->aa A B->d B)->
  (∀pre x f,pre.length<M->J pre f->Good x f->R pre x->YieldAt Fence.wide 2 P l (c x) f λe b=>(e=.returned (.bool true)/\J (pre++[x]) b/\g f b)\/(e=.returned (.bool false)/\d b))->
  J [] W->CallsIn Fence.wide 2 P i (#[.func (.yield l) #[] #[]]++lb) W λe b=>(∃v,e=.returned v)/\((∃xs,S xs/\J xs b)\/d b)
theorem Au{α:Type}{R:List α->α->Prop}{P:Program}{g:Operand}{ps:Array Tmp}{assign body:Code}{Q:Exit->Act->World->Prop}{a:Act}{w:World}
    {U:Nat} {lb:Array Value} (hg:a.eval g=.func (.func U) #[] lb) (eg:∀args w,(callFunc U args).run P w=.ok (.enter U args) w)
    (d:α->Array Value) (c8:∀x,(d x).size=ps.size) {Good:α->World->Prop} {T:World->World->Prop} {S:List α->Prop} {M:Nat} (b1:AJ R P U lb d Good T S M w)
    (b9:∀x W k,Good x W->eN w.heap.size W k->Good x k) (Z:∀{A B C:World},T A B->T B C->T A C) (Y:∀W k,eN w.heap.size W k->T W k)
    (I:List α->World->Prop) (X:∀s A B,I s A->aa A B->I s B) (E:∀s A B,I s A->eN w.heap.size A B->I s B) (h0:I [] w) (y:World->Prop) (V:∀A B,y A->aa A B->y B) (u:∀A B,y A->eN w.heap.size A B->y B) (a1:α->Act)
    (i:∀(l:Nat) (x:α) (W:World) (K:Act->World->Prop),K (a1 x) W->assign.wpIn (Fence.wide.inRound l) 2 P (Exit.then K (λ_ _ _=>False)) {tmps:=(ps.zip (d x)).foldl (λt (p,v)=>t.setIfInBounds p v) a.tmps,defers:=[]} W)
    (H:∀(l:Nat) (pre:List α) (x:α) (W:World),pre.length<M->I pre W->Good x W->R pre x->body.wpIn (Fence.wide.inRound l) 2 P (λe _ k=>iE w.heap.size W k/\(e=.normal/\T W k/\I (pre++[x]) k\/e=.ret/\y k)) (a1 x) W)
    (J:∀(D:Nat) (xs:List α) (W:World),w.heap.size<=D->S xs->I xs W->W.heap[D]?=some (.deferred (some []))->Q .normal {a with defers:={target:=.collected D,args:= #[]}::a.defers} W)
    (b0:∀(D:Nat) (W:World),w.heap.size<=D->y W->W.heap[D]?=some (.deferred (some []))->Q .ret {a with defers:={target:=.collected D,args:= #[]}::a.defers} W):
    (Code.rangeFunc g ps assign body).wp P Q a w:=by
 refine(wpIn_wide (n:=3)).1 ?_;refine wpIn_rangeFunc λfn c3=>?_
 obtain⟨j,b⟩:∃j:LoopState->Option Code->Loop,j=λst pe=>{state:=st,pending:=pe,fn,tmps:=a.tmps,params:=ps,assign,body,defers:=w.heap.size}:=⟨_,rfl⟩
 obtain⟨O,q⟩:=nM ((w.alloc (.deferred (some []))).alloc (.loop (j .ready none)));have b8:aa w O:=by rw[q];exact aa.al (aa.al (aa.refl w) _) _
 have c4:O.heap[w.heap.size+1]?=some (.loop (j .ready none)):=by
  rw[q];have:=World.alloc_heap_new (w.alloc (.deferred (some []))) (.loop (j .ready none))
  rwa[World.size_alloc]at this
 have c0:O.heap[w.heap.size]?=some (.deferred (some [])):=by
  rw[q];exact(Below.heap_alloc _ _ _ (by simp)).trans (World.alloc_heap_new w _)
 refine⟨w.heap.size+1,[{target:=.collected w.heap.size,args:= #[]}],O,{target:=.fn (.func U) lb,args:= #[.func (.yield (w.heap.size+1)) #[] #[]]},O,U, #[.func (.yield (w.heap.size+1)) #[] #[]]++lb,O,?_,?_,λ_ _=>trivial,?_,λ_=>by decide,?_⟩
 ·rw[q,b];exact run_enterLoop_outer _ _ _ _ _
 ·simp only[resolve,hg];simp[go_sem]
 ·simp[invoke,go_sem,eg]
 have put:∀(W:World) (r r':Loop),W.heap[w.heap.size+1]?=some (.loop r)->eN w.heap.size W (W.putObj (w.heap.size+1) (.loop r')):=λW r r' h=>⟨_,_,_,by omega,h,rfl,rfl⟩
 refine(b1 (w.heap.size+1) (λpre W=>I pre W/\W.heap[w.heap.size+1]?=some (.loop (j .ready none))/\W.heap[w.heap.size]?=some (.deferred (some []))) (λW=>y W/\W.heap[w.heap.size+1]?=some (.loop (j .done (some .ret)))/\W.heap[w.heap.size]?=some (.deferred (some []))) O b8 ?_ ?_ ?_ ⟨X _ _ _ h0 b8,c4,c0⟩).mono ?_
 ·rintro s A B ⟨hi,hl,hd⟩ F;exact⟨X s A B hi F,(F.block _ (Array.getElem?_eq_some_iff.1 hl).1).trans hl,(F.block _ (Array.getElem?_eq_some_iff.1 hd).1).trans hd⟩
 ·rintro A B ⟨hi,hl,hd⟩ F;exact⟨V A B hi F,(F.block _ (Array.getElem?_eq_some_iff.1 hl).1).trans hl,(F.block _ (Array.getElem?_eq_some_iff.1 hd).1).trans hd⟩
 ·rintro pre x W c7 ⟨hi,hl,hd⟩ L c';have c6:=(Array.getElem?_eq_some_iff.1 hl).1;have hy:=run_yield (P:=P) (args:=d x) hl (by rw [b];exact c8 x);rw [b] at hy;refine ⟨fn,_,assign,body,hy,roundIn_of_wpIn c3 (i _ x W _ ⟨_,run_beginRound hl (by rw [b]),?_⟩)⟩;obtain ⟨z,o⟩:=nM (W.putObj (w.heap.size+1) (.loop {j .ready none with state:= .busy}));have G:eN w.heap.size W z:=by rw [o];exact put W _ _ hl
  have c5:z.heap[w.heap.size+1]?=some (.loop {j .ready none with state:=.busy}):=by rw[o];exact World.putObj_heap_same c6
  have c1:z.heap[w.heap.size]?=some (.deferred (some [])):=by rw[o];exact(World.putObj_heap_other (by omega)).trans hd
  rw[<-o];refine wpIn_mono (H _ pre x z c7 (E _ _ _ hi G) (b9 _ _ _ L G) c') ?_;rintro e a3 W3 ⟨b7,h3⟩;have f:=b7.rest _ _ (by omega) c5 rfl;have b3:=b7.rest _ _ (Nat.le_refl _) c1 rfl;rcases h3 with⟨rfl,b',N⟩|⟨rfl,N⟩
  ·have hr:=run_endRound (P:=P) none f;have m:=put W3 _ {j .ready none with state:=(if(none:Option Code).isNone then .ready else .done),pending:=none} f;refine⟨_,_,hr,.inl ⟨rfl,⟨E _ _ _ N m,?_,(World.putObj_heap_other (by omega)).trans b3⟩,Z (Y _ _ G) (Z b' (Y _ _ m))⟩⟩;rw[World.putObj_heap_same (Array.getElem?_eq_some_iff.1 f).1,b];rfl
  ·have hr:=run_endRound (P:=P) (some .ret) f;have m:=put W3 _ {j .ready none with state:=(if(some Code.ret:Option Code).isNone then .ready else .done),pending:=some .ret} f;refine⟨_,_,hr,.inr ⟨rfl,⟨u _ _ N m,?_,(World.putObj_heap_other (by omega)).trans b3⟩⟩⟩;rw[World.putObj_heap_same (Array.getElem?_eq_some_iff.1 f).1,b];rfl
 ·rintro e z ⟨⟨v,rfl⟩,h2⟩;rcases h2 with ⟨xs,hS,hi,hl,hd⟩ | ⟨hi,hl,hd⟩
  ·have c:=run_endLoop (P:=P) hl (by rw[b];simp);rw[b]at c;exact⟨none,_,c,J _ xs _ (Nat.le_refl _) hS (E _ _ _ hi (put z _ _ hl)) ((World.putObj_heap_other (by omega)).trans hd)⟩
  ·have c:=run_endLoop (P:=P) hl (by rw[b];simp);rw[b]at c;exact⟨some .ret,_,c,wpIn_ret (b0 _ _ (Nat.le_refl _) (u _ _ hi (put z _ _ hl)) ((World.putObj_heap_other (by omega)).trans hd))⟩
end Go.Proofs.YtfchcdbfalgdlaaGreatDoor
namespace Go.Proofs.YtfchcdbfalgdlaaGreatDoor
open _root_.Go.Proofs.Tryz
open Go.RowKit Go.Maps Go.Sort
attribute [local go_sem] Oper.semAt_some
theorem qF(g o N c size f b:Nat)(w:World)(T:ac w f 33 #[.slice (some ⟨g,o,none⟩) N c])(U:ac w b 3 #[.int .i64 (size:Int)])(h1:1<=size)(hs:size<=1000)(hN:N<=1000000000)(hc:N<=c)(b3:c<=maxLen):
    AJ (λpre k=>k=pre.length) prog 169 #[.pointer (some ⟨f,0,none⟩),.pointer (some ⟨b,0,none⟩)] (λk:Nat=> #[vM g o N size k]) (λ_ _=>True) (sy f b) (λxs=>xs=List.range (sK N size)) (sK N size) w:=by
 intro l J J' W hW hJ b1 hY h0;refine callsIn_wide.2 ?_;have HB:Hid (ac W f 33 #[.slice (some ⟨g,o,none⟩) N c]/\ac W b 3 #[.int .i64 (size:Int)]):=Ld ⟨hW.blk T,hW.blk U⟩;have HY:=Ld hY;have HJ:=Ld hJ;have H0:=Ld h0;clear hY hJ b1 hW T U h0;show Calls prog 169 #[.func (.yield l) #[] #[],.pointer (some ⟨f,0,none⟩),.pointer (some ⟨b,0,none⟩)] W _;unfold maxLen at b3
 go_enter func169,ntmps169
 go_wp2_with fail;go_loopw [4] (λix wr=>∃(k i:Nat),k<=sK N size/\Hid (i=k*size)/\ix=.int .i64 i/\i<=N+1000/\Hid (J (List.range k) wr)/\Hid (ac wr f 33 #[.slice (some ⟨g,o,none⟩) N c]/\ac wr b 3 #[.int .i64 (size:Int)])) (λix _=>(N:Int).toNat+1000-(intOf ix).toNat)
 case atStart=>exact⟨0,0,Nat.zero_le _,Ld (by omega),rfl,by omega,H0,HB⟩
 case round=>
  clear H0 HB;obtain⟨k,i,hk,P,rfl,hi,H,u⟩:=hrel;have R:wr.cell? ⟨f,0,none⟩=some (.slice (some ⟨g,o,none⟩) N c):=u.out.1.cell 0;have c2:wr.cell? ⟨b,0,none⟩=some (.int .i64 (size:Int)):=u.out.2.cell 0;have c0:(0:Int)<=(i:Int):=by omega
  by_cases b9:i<N
  ·have D:Hid (k<sK N size):=Ld ((nh h1).2 (by rw [<-P.out];exact b9));have c':¬c=i:=by omega
   have c3:i<=N:=by omega
   obtain⟨r,Z⟩:=nM (N-i);have c4:N-i=r:=Z.symm;have Y:i+r=N:=by omega
   have q1:=cell_regrown R;have q2:=cell_regrown c2
   by_cases c5:size<=r
   ·obtain ⟨j,X⟩:=nM (i+size);have d1:(size:Int)<=(r:Int):=by omega
    have d2:¬((r:Int)<(size:Int)):=by omega
    have m1:min (size:Int) (r:Int)=(size:Int):=by omega
    have e1:(i:Int)+(size:Int)=(j:Int):=by omega
    have e2:j-i=size:=by omega
    have e3:¬j=i:=by omega
    have e4:i<=j:=by omega
    have e5:(j:Int)<=(c:Int):=by omega
    have F:Hid (vM g o N size k=.slice (some ⟨g,o+i,none⟩) size size):=Ld (by unfold vM;rw[<-P.out,Nat.min_eq_left (by omega)]);have b7:j<=N:=by omega
    have G:Hid (j=(k+1)*size):=Ld (by rw[X,P.out,Nat.succ_mul]);clear X Z Y
    go_wp2_with fail;refine wp_region_quiet_below (by kernel_rfl) (by kernel_rfl) ?_
    repeat(quiet_step (fail))
    refine wpQuiet_nil ?_;intro _ L;obtain⟨⟨S,C⟩,p⟩:=L;obtain⟨E,t⟩:=nM (grow (redrawn wr S) C);have d:Hid (aa wr E):=Ld (by rw[t];exact below_regrown _ S C);rw[p,<-t];clear p t q1 q2;have y:E.cell? ⟨f,0,none⟩=some (.slice (some ⟨g,o,none⟩) N c):=d.out.cell_ R;have z:E.cell? ⟨b,0,none⟩=some (.int .i64 (size:Int)):=d.out.cell_ c2;clear R c2
    go_upto_region 4 with fail;refine(wpIn_wide (n:=3)).1 ?_;obtain⟨fn,tmps,b',bo,M,V⟩:=HY.out (List.range k) k E (by rw[List.length_range];exact D.out) (HJ.out _ _ _ H.out d.out) trivial (by rw[List.length_range]);rw[F.out]at M;have I:=Ld V;clear V
    gi_wp2
    refine I.out.mono ?_;rintro e O B;rcases B with⟨rfl,m,s⟩|⟨rfl,m⟩
    rotate_left
    ·have q:=Ld m;clear m I M y z
     gi_wp2
     try go_wp2_with fail
     refine bodyPost_ret (results_none rfl _ _ _) rfl ?_;exact⟨⟨_,rfl⟩,.inr q.out⟩
    have q:=Ld m;have v:Hid (ac O f 33 #[.slice (some ⟨g,o,none⟩) N c]/\ac O b 3 #[.int .i64 (size:Int)]):=Ld ⟨s.1.trans (d.out.blk u.out.1),s.2.trans (d.out.blk u.out.2)⟩;have b0:O.cell? ⟨b,0,none⟩=some (.int .i64 (size:Int)):=v.out.2.cell 0;clear m s I M y z
    gi_wp2
    try go_wp2_with fail
    go_roundw
    case rel=>exact⟨k+1,j,D.out,G,rfl,by omega,Ld (by rw[List.range_succ];exact q.out),v⟩
    case measure=>simp[intOf];omega
   ·obtain ⟨j,X⟩:=nM (i+size);have d1:¬(size:Int)<=(r:Int):=by omega
    have d2:(r:Int)<(size:Int):=by omega
    have m1:min (size:Int) (r:Int)=(r:Int):=by omega
    have e1:(i:Int)+(size:Int)=(j:Int):=by omega
    have e2:(i:Int)+(r:Int)=(N:Int):=by omega
    have e3:¬N=i:=by omega
    have e5:(N:Int)<=(c:Int):=by omega
    have F:Hid (vM g o N size k=.slice (some ⟨g,o+i,none⟩) r r):=Ld (by unfold vM;rw[<-P.out,<-Z,Nat.min_eq_right (by omega)]);have b7:j<=N+1000:=by omega
    have G:Hid (j=(k+1)*size):=Ld (by rw[X,P.out,Nat.succ_mul]);clear X Z Y
    go_wp2_with fail;refine wp_region_quiet_below (by kernel_rfl) (by kernel_rfl) ?_
    repeat(quiet_step (fail))
    refine wpQuiet_nil ?_;intro _ L;obtain⟨⟨S,C⟩,p⟩:=L;obtain⟨E,t⟩:=nM (grow (redrawn wr S) C);have d:Hid (aa wr E):=Ld (by rw[t];exact below_regrown _ S C);rw[p,<-t];clear p t q1 q2;have y:E.cell? ⟨f,0,none⟩=some (.slice (some ⟨g,o,none⟩) N c):=d.out.cell_ R;have z:E.cell? ⟨b,0,none⟩=some (.int .i64 (size:Int)):=d.out.cell_ c2;clear R c2
    go_upto_region 4 with fail;refine(wpIn_wide (n:=3)).1 ?_;obtain⟨fn,tmps,b',bo,M,V⟩:=HY.out (List.range k) k E (by rw[List.length_range];exact D.out) (HJ.out _ _ _ H.out d.out) trivial (by rw[List.length_range]);rw[F.out]at M;have I:=Ld V;clear V
    gi_wp2
    refine I.out.mono ?_;rintro e O B;rcases B with⟨rfl,m,s⟩|⟨rfl,m⟩
    rotate_left
    ·have q:=Ld m;clear m I M y z
     gi_wp2
     try go_wp2_with fail
     refine bodyPost_ret (results_none rfl _ _ _) rfl ?_;exact⟨⟨_,rfl⟩,.inr q.out⟩
    have q:=Ld m;have v:Hid (ac O f 33 #[.slice (some ⟨g,o,none⟩) N c]/\ac O b 3 #[.int .i64 (size:Int)]):=Ld ⟨s.1.trans (d.out.blk u.out.1),s.2.trans (d.out.blk u.out.2)⟩;have b0:O.cell? ⟨b,0,none⟩=some (.int .i64 (size:Int)):=v.out.2.cell 0;clear m s I M y z
    gi_wp2
    try go_wp2_with fail
    go_roundw
    case rel=>exact⟨k+1,j,D.out,G,rfl,by omega,Ld (by rw[List.range_succ];exact q.out),v⟩
    case measure=>simp[intOf];omega
  ·have b8:k=sK N size:=by
    rcases Nat.lt_or_ge k (sK N size)with h|h
    ·have:=(nh (N:=N) h1).1 h;rw[<-P.out]at this;omega
    ·omega
   subst b8
   go_wp2_with fail;go_end0
   exact⟨⟨_,rfl⟩,.inl ⟨_,rfl,H.out⟩⟩
end Go.Proofs.YtfchcdbfalgdlaaGreatDoor
namespace Go.Proofs.YtfchcdbfalgdlaaGreatDoor
open _root_.Go.Proofs.Tryz
open Go.RowKit
theorem mc{F:Fence}{p:Nat}{P:Program}{d:Array Oper}{rest:List Oper}{o:Oper}{a:Act}{w:World}{Q:Exit->Act->World->Prop}{T:TypeId}{n:Nat}{m:Array Value}(k:o.guard=none)(l:o.op=.alloc T)(q:(P.info? T).map (λi=>(i.zero,i.size))=some (some (.agg m),n))
    (h:∀b w',b=w.heap.size->ac w' b T m->aa w w'->wpListIn F p P d Q rest (a.put o.dst (.pointer (some ⟨b,0,none⟩))) w'):wpListIn F p P d Q (o::rest) a w:=by
 obtain⟨r,s⟩:=zero_of_info q;refine wpListIn_plain k λK f=>?_
 have g:(Instr.alloc T true (.tuple #[])).run P w=.ok (.pointer (some ⟨w.heap.size,0,none⟩)) (w.alloc (.cells m T)):=by
  unfold Instr.alloc;simp[Sem.run_bind,r w,newVar,newRow,go_sem,Result.andThen,Value.cells]
 unfold Oper.wpIn;refine⟨?_,?_⟩
 ·simp[Oper.about,l]
 ·rw[Oper.semAt_plain F _ _ (by rw[l];intro c j;cases j)];simp only[execOp,l,g,Result.andThen_ok,Sem.run_bind,Sem.run_pure];exact f _ _ (h _ _ rfl (ac.new _ _ _) (aa.al (aa.refl _) _))
theorem me{F:Fence}{m:Nat}{P:Program}{b:Array Oper}{rest:List Oper}{o:Oper}{a:Act}{w:World}{Q:Exit->Act->World->Prop}{T:TypeId}{g:Nat}{cs0 cs:Array Value}(i:o.guard=none)(x y:Operand)(j:o.op=.store T x y)(hi:(P.info? T).map (·.size)=some cs.size)(n:a.eval x=.pointer (some ⟨g,0,none⟩))(p:a.eval y=.agg cs)(l:ac w g T cs0)(h0:cs0.size=cs.size)(h1:cs.all (·.oneCell')=true)
    (h:∀w',ac w' g T cs->Fr (λk=>k=g) w w'->wpListIn F m P b Q rest (a.put o.dst undef) w'):wpListIn F m P b Q (o::rest) a w:=by
 refine wpListIn_plain i λK d=>?_
 obtain⟨q,r⟩:=eJ (cs':=cs) l;unfold Oper.wpIn;refine⟨?_,?_⟩
 ·simp[Oper.about,j]
 ·rw[Oper.semAt_plain F _ _ (by rw[j];intro c f;cases f)];simp only[execOp,j,n,p,Instr.storeAt,Instr.sureAddr,Sem.run_bind,Sem.run_pure,Result.andThen_ok,run_storeVar_row w g T T cs0 cs l hi h0 h1];exact d _ _ (h _ q r)
end Go.Proofs.YtfchcdbfalgdlaaGreatDoor
