/- Texts of one proof. No condition but each one's own. -/
import Derived.Test.YtfchcdbfalgdlaaGreatDoorSweepPlaysM2
import Derived.Test.YtfchcdbfalgdlaaGreatDoorSweepPlaysM25
set_option maxHeartbeats 4000000
set_option maxRecDepth 100000
set_option linter.unusedVariables false
set_option linter.unusedSimpArgs false
namespace Go.Proofs.YtfchcdbfalgdlaaGreatDoor
open _root_.Go.Proofs.Tryz
open Go.RowKit
section
variable {P:Program}{md:Region.Mode}{ops:Array Oper}{Q:Exit->Act->World->Prop}{S:World->Prop}{last:Nat}
def qw(P:Program)(md:Region.Mode)(ops:Array Oper)(Q:Exit->Act->World->Prop)(S:World->Prop)(last:Nat):Nat->Array Bool->Act->World->Prop
 | 0,listed,a,w=>Region.ready md ops listed=[]/\Q .normal a w
 |b+1,listed,a,w=>
  (Region.ready md ops listed=[]->Q .normal a w)/\
  ∀i∈Region.ready md ops listed,wpOp P ops Q i (λc w'=>if i=last then wpAnyH P md ops Q (λ_=>True) b (listed.setIfInBounds i true) c w' else S w'/\qw P md ops Q S last b (listed.setIfInBounds i true) c w') a w
theorem qx:∀(b:Nat) (listed:Array Bool) (a:Act) (w:World),qw P md ops Q S last b listed a w->wpAny P md ops Q b listed a w
 | 0,_,_,_,h=>h
 | b + 1, _, _, _, h => ⟨h.1, λi hi => wpOp_mono (λd w' c => by
     by_cases e:i=last
     ·rw[if_pos e]at c;exact wpAny_of_held _ _ _ _ c
     ·rw[if_neg e]at c
      exact qx b _ d w' c.2) (h.2 i hi)⟩
theorem YieldsIf.all{oi:Oper}{v:Value}{a:Act}(h:YieldsIf P ops (λ_=>True) oi v a):YieldsIf P ops S oi v a:=h.imp (λh=>⟨h.1,λw _=>h.2 w trivial⟩) id
theorem gR{i:Nat}{oi:Oper}{v:Value}(hi:ops[i]?=some oi)(l:∀(j:Nat) (o:Oper) cs b,ops[j]?=some o->o.op≠.select cs b)
    (V:∀c a w,Q (.panic c) (a.put oi.dst v) w->Q (.panic c) a w) (G:i≠last):
    ∀(f:Nat) (listed:Array Bool) (a:Act) (w:World),(jO md ops last i=true\/YieldsIf P ops (λ_=>True) oi v a)->
     (∀j z,ops[j]?=some z->j≠i->listed.getD j true=false->(∀e∈z.after,Region.binds md e=true->e.on≠i)->oi.apart ops z=true)->
     i∈Region.ready md ops listed->YieldsIf P ops S oi v a->S w->
     qw P md ops Q S last f (listed.setIfInBounds i true) (a.put oi.dst v) w->qw P md ops Q S last (f+1) listed a w:=by
 intro f
 induction f with
 |zero=>
  intro listed a w _ _ y O hS H;refine⟨λh=>(by rw[h]at y;cases y),λj N=>?_⟩
  by_cases d:j=i
  ·subst d;exact O.wpOp hi hS (by rw[if_neg G];exact⟨hS,H⟩)
  ·have:=ready_mono N d;rw[H.1]at this
   cases this
 |succ f Z=>
  intro listed a w hl m y O hS H;refine⟨λh=>(by rw[h]at y;cases y),λj N=>?_⟩
  by_cases d:j=i
  ·subst d;exact O.wpOp hi hS (by rw[if_neg G];exact⟨hS,H⟩)
  ·have h1:=H.2 j (ready_mono N d);obtain⟨s,z,q,E⟩:=mem_ready.1 N
   have t:∀e∈z.after,Region.binds md e=true->e.on≠i:=λe he F heq=>by
    have h1:=E e he F;have h0:=(mem_ready.1 y).1;rw[heq]at h1;rcases Nat.lt_or_ge i listed.size with U|U
    ·simp[U]at h0 h1;rw[h0]at h1;cases h1
    ·simp[Array.getElem?_eq_none U]at h1
   have g:∀k ok,ops[k]?=some ok->k≠i->(listed.setIfInBounds j true).getD k true=false->
       (∀e∈ok.after,Region.binds md e=true->e.on≠i)->oi.apart ops ok=true:=λk ok hk X J Y=>by
    refine m k ok hk X ?_ Y
    by_cases I:j=k
    ·subst I;exact s
    ·rw[getD_set_ne true I]at J;exact J
   rcases hl with p|D
   ·have u:j≠last:=λe=>by
     subst e;simp only[jO,q,Array.any_eq_true]at p;obtain⟨n,hn,F⟩:=p;simp only[Bool.and_eq_true,beq_iff_eq]at F;exact t _ (Array.getElem_mem hn) F.1 F.2
    have h2:=wpOp_putIf q (m j z q d s t) (λcs b=>l i oi cs b hi) (λcs b=>l j z cs b q) V O h1;refine wpOp_mono (λM w' C=>?_) h2;have r:=C.2;rw[if_neg u]at r⊢;refine⟨r.1,Z (listed.setIfInBounds j true) M w' (.inl p) g (ready_mono y (Ne.symm d)) C.1 r.1 ?_⟩;rw[Array.setIfInBounds_comm _ _ d];exact r.2
   ·have h2:=wpOp_putIf q (m j z q d s t) (λcs b=>l i oi cs b hi) (λcs b=>l j z cs b q) V D h1;refine wpOp_mono (λM w' C=>?_) h2;have r:=C.2
    by_cases u:j=last
    ·rw[if_pos u]at r⊢;refine wpAnyH_first hi l V f (listed.setIfInBounds j true) M w' g (ready_mono y (Ne.symm d)) C.1 trivial ?_;rw[Array.setIfInBounds_comm _ _ d];exact r
    ·rw[if_neg u]at r⊢;refine⟨r.1,Z (listed.setIfInBounds j true) M w' (.inr C.1) g (ready_mono y (Ne.symm d)) (YieldsIf.all C.1) r.1 ?_⟩;rw[Array.setIfInBounds_comm _ _ d];exact r.2
inductive EF where
 |take (i:Nat)
 |act (i:Nat)
 |pur (i:Nat)
def mA(md:Region.Mode)(ops:Array Oper)(last:Nat)(b:List (Bool×Nat)):List EF->Array Bool->Bool
 | [],listed=>decide (Region.ready md ops listed=[last])&&lC md ops b (listed.setIfInBounds last true)
 | .take i::c,listed=>(Region.ready md ops listed).contains i&&Region.free md ops listed i&&jO md ops last i&&decide (i≠last)&&mA md ops last b c (listed.setIfInBounds i true)
 | .pur i::c,listed=>(Region.ready md ops listed).contains i&&Region.free md ops listed i&&decide (i≠last)&&mA md ops last b c (listed.setIfInBounds i true)
 | .act i::c,listed=>decide (Region.ready md ops listed=[i])&&decide (i≠last)&&mA md ops last b c (listed.setIfInBounds i true)
def eD(P:Program)(ops:Array Oper)(S:World->Prop)(last:Nat)(b:List (Bool×Nat))(Q:Exit->Act->World->Prop):List EF->Act->World->Prop
 | [],a,w=>∃o,ops[last]?=some o/\(if Region.wanted o (yielded ops a.tmps)=true then o.wp P a w (λd w'=>dc P ops (λ_=>True) ops.size Q b d w') Q else dc P ops (λ_=>True) ops.size Q b (a.put o.dst undef) w)
 | .take i::c,a,w=>∃o,ops[i]?=some o/\(if Region.wanted o (yielded ops a.tmps)=true then ∃v,(∀p:HW S,(execOp a.eval o).run P p.w=.ok (.value v) p.w)/\eD P ops S last b Q c (a.put o.dst v) w else eD P ops S last b Q c (a.put o.dst undef) w)
 | .pur i::c,a,w=>∃o,ops[i]?=some o/\(if Region.wanted o (yielded ops a.tmps)=true then ∃v,(∀f:World,(execOp a.eval o).run P f=.ok (.value v) f)/\eD P ops S last b Q c (a.put o.dst v) w else eD P ops S last b Q c (a.put o.dst undef) w)
 | .act i::c,a,w=>∃o,ops[i]?=some o/\(if Region.wanted o (yielded ops a.tmps)=true then o.wp P a w (λd w'=>S w'/\eD P ops S last b Q c d w') Q else S w/\eD P ops S last b Q c (a.put o.dst undef) w)
theorem qz{i:Nat}{o:Oper}{a:Act}{w:World}{R:Act->World->Prop}(c:ops[i]?=some o)(h:if Region.wanted o (yielded ops a.tmps)=true then o.wp P a w R Q else R (a.put o.dst undef) w):wpOp P ops Q i R a w:=by
 unfold wpOp;simp only[c]
 by_cases b:Region.wanted o (yielded ops a.tmps)=true
 ·rw[if_pos b]at h;simp only[b,if_true];exact .inl h
 ·rw[if_neg b]at h;simp only[b];exact h
theorem EN{o:Oper}{a:Act}{w:World}{R R':Act->World->Prop}(c:∀a w,R a w->R' a w)(h:if Region.wanted o (yielded ops a.tmps)=true then o.wp P a w R Q else R (a.put o.dst undef) w):if Region.wanted o (yielded ops a.tmps)=true then o.wp P a w R' Q else R' (a.put o.dst undef) w:=by
 split
 ·next b=>rw[if_pos b]at h;exact Oper.wp_mono c h
 ·next b=>rw[if_neg b]at h;exact c _ _ h
theorem eA{l:List (Bool×Nat)}(n:Region.noSelect ops=true)(m:∀c a d v w,Q (.panic c) (a.put d v) w->Q (.panic c) a w):∀(g:List EF) (listed:Array Bool) (a:Act) (w:World),mA md ops last l g listed=true->S w->eD P ops S last l Q g a w->qw P md ops Q S last (g.length+(l.length+1)) listed a w
 | [],listed,a,w,b,hS,h=>by
  simp only[mA,Bool.and_eq_true,decide_eq_true_eq]at b;obtain⟨o,f,h⟩:=h;rw[List.length_nil,Nat.zero_add];refine⟨λh0=>(by rw[b.1]at h0;cases h0),λj r=>?_⟩;rw[b.1,List.mem_singleton]at r;subst r;exact qz f (EN (λa w h=>by rw[if_pos rfl];exact ey rfl n m l _ _ _ b.2 trivial h) h)
 | .act i::g,listed,a,w,b,hS,h=>by
  simp only[mA,Bool.and_eq_true,decide_eq_true_eq]at b;obtain⟨⟨h1,h2⟩,t⟩:=b;obtain⟨o,f,h⟩:=h;rw[List.length_cons,Nat.add_right_comm];refine⟨λh0=>(by rw[h1]at h0;cases h0),λj r=>?_⟩;rw[h1,List.mem_singleton]at r;subst r;refine qz f (EN (R:=λy w'=>S w'/\eD P ops S last l Q g y w') (λa w h=>by rw[if_neg h2];exact⟨h.1,eA n m g _ _ _ t h.1 h.2⟩) h)
 | .take i::g,listed,a,w,b,hS,h=>by
  simp only[mA,Bool.and_eq_true,decide_eq_true_eq]at b;obtain⟨⟨⟨⟨h1,h2⟩,t⟩,p⟩,q⟩:=b;obtain⟨o,f,h⟩:=h;rw[List.length_cons,Nat.add_right_comm]
  by_cases k:Region.wanted o (yielded ops a.tmps)=true
  ·rw[if_pos k]at h;obtain⟨v,u,h⟩:=h;exact gR f (Region.noSelect_spec n) (λc a w=>m c a _ _ w) p _ listed a w (.inl t) (Region.free_spec f h2) (by simpa using h1) (.inl ⟨k,λw k=>u ⟨w,k⟩⟩) hS (eA n m g _ _ _ q hS h)
  ·rw[if_neg k]at h;exact gR f (Region.noSelect_spec n) (λc a w=>m c a _ _ w) p _ listed a w (.inl t) (Region.free_spec f h2) (by simpa using h1) (.inr ⟨by simpa using k,rfl⟩) hS (eA n m g _ _ _ q hS h)
 | .pur i::g,listed,a,w,b,hS,h=>by
  simp only[mA,Bool.and_eq_true,decide_eq_true_eq]at b;obtain⟨⟨⟨h1,h2⟩,p⟩,q⟩:=b;obtain⟨o,f,h⟩:=h;rw[List.length_cons,Nat.add_right_comm]
  by_cases k:Region.wanted o (yielded ops a.tmps)=true
  ·rw[if_pos k]at h;obtain⟨v,u,h⟩:=h;have s:YieldsIf P ops (λ_=>True) o v a:=.inl ⟨k,λw _=>u w⟩;exact gR f (Region.noSelect_spec n) (λc a w=>m c a _ _ w) p _ listed a w (.inr s) (Region.free_spec f h2) (by simpa using h1) (YieldsIf.all s) hS (eA n m g _ _ _ q hS h)
  ·rw[if_neg k]at h;have s:YieldsIf P ops (λ_=>True) o undef a:=.inr ⟨by simpa using k,rfl⟩;exact gR f (Region.noSelect_spec n) (λc a w=>m c a _ _ w) p _ listed a w (.inr s) (Region.free_spec f h2) (by simpa using h1) (YieldsIf.all s) hS (eA n m g _ _ _ q hS h)
theorem iB{id:Nat}{a:Act}{w:World}{l:List Oper}(S:World->Prop)(c:List EF)(last:Nat)(b:List (Bool×Nat))(hm:P.follows .mixedOrders=true)
    (d:(Region.noSelect l.toArray&&decide (c.length+(b.length+1)=l.toArray.size)&&mA .any l.toArray last b c (Array.replicate l.toArray.size false))=true) (hS:S w.drew)
    (h:eD P l.toArray S last b (fa Q) c a w.drew):(Code.region id l.toArray true).wp P Q a w:=by
 simp only[Bool.and_eq_true,decide_eq_true_eq]at d;obtain⟨⟨h1,h2⟩,f⟩:=d;refine wp_mono (Q:=fa Q) (wp_region_any hm (qx (S:=S) (last:=last) _ _ _ _ ?_)) fa.imp;have:=eA (Q:=fa Q) h1 (λ_ _ _ _ _ h=>h) c _ _ _ f hS h
 rwa[h2]at this
theorem rG{i:Nat}{o:Oper}{c:List EF}{b:List (Bool×Nat)}{a:Act}{w:World}(d:ops[i]?=some o)
    (h:∀K:Act->Prop,(∀a,eD P ops S last b Q c a w->K a)->if Region.wanted o (yielded ops a.tmps)=true then ∃v,(∀p:HW S,(execOp a.eval o).run P p.w=.ok (.value v) p.w)/\K (a.put o.dst v)else K (a.put o.dst undef)):eD P ops S last b Q (.take i::c) a w:=
 ⟨o,d,h _ λ_ h=>h⟩
theorem jk{i:Nat}{o:Oper}{c:List EF}{b:List (Bool×Nat)}{a:Act}{w:World}(f:ops[i]?=some o)
    (h:∀K:Act->Prop,(∀a,eD P ops S last b Q c a w->K a)->if Region.wanted o (yielded ops a.tmps)=true then ∃v,(∀d:World,(execOp a.eval o).run P d=.ok (.value v) d)/\K (a.put o.dst v)else K (a.put o.dst undef)):eD P ops S last b Q (.pur i::c) a w:=
 ⟨o,f,h _ λ_ h=>h⟩
theorem jj{i:Nat}{o:Oper}{c:List EF}{b:List (Bool×Nat)}{a:Act}{w:World}(d:ops[i]?=some o)(f:Region.wanted o (yielded ops a.tmps)=true)
    (h:∀K:Act->World->Prop,Hid (∀a w,S w->eD P ops S last b Q c a w->K a w)->o.wp P a w K Q):eD P ops S last b Q (.act i::c) a w:=
 ⟨o,d,by rw[if_pos f];exact h _ (Ld λ_ _ h1 h2=>⟨h1,h2⟩)⟩
theorem np{o:Oper}{b:List (Bool×Nat)}{a:Act}{w:World}(c:ops[last]?=some o)
    (h:∀K:Act->World->Prop,Hid (∀a w,dc P ops (λ_=>True) ops.size Q b a w->K a w)->if Region.wanted o (yielded ops a.tmps)=true then o.wp P a w K Q else K (a.put o.dst undef) w):eD P ops S last b Q [] a w:=
 ⟨o,c,h _ (Ld λ_ _ h=>h)⟩
end
structure nP where
 b:Nat
 t:TypeId
 x:Array Value
def gg(P:Program)(t:TypeId)(n:Nat):Prop:=(∃d,P.underlying t=some d/\d.isRow=true)/\(P.info? t).map (·.size)=some n
def mg(P:Program)(w:World):List nP->Prop
 | []=>True
 |B::L=>(ac w B.b B.t B.x/\gg P B.t B.x.size)/\(∀C∈L,C.b≠B.b)/\mg P w L
structure kh(n:Nat)(T:List TypeId)(R:World->Prop):Prop where
 new:∀w w',aa w w'->R w->R w'
 st:∀w w' b t x,t∈T->n<=b->ac w b t x->Fr (λk=>k=b) w w'->R w->R w'
structure Bx(P:Program)(T:List TypeId)(w0 w:World)(L:List nP)(R:World->Prop):Prop where
 bx:mg P w L
 ty:∀B∈L,B.t∈T/\w0.heap.size<=B.b
 nw:aa w0 w
 r:R w
 sb:kh w0.heap.size T R
section
variable {P:Program}{T:List TypeId}{w0 w w':World}{L:List nP}{R R':World->Prop}{B:nP}
theorem kh.and{n:Nat}(h:kh n T R)(d:kh n T R'):kh n T (λw=>R w/\R' w):=⟨λw w' f c=>⟨h.new w w' f c.1,d.new w w' f c.2⟩,λw w' b t x ht i g hF c=>⟨h.st w w' b t x ht i g hF c.1,d.st w w' b t x ht i g hF c.2⟩⟩
theorem kh.triv{n:Nat}:kh n T (λ_=>True):=⟨λ_ _ _ _=>trivial,λ_ _ _ _ _ _ _ _ _ _=>trivial⟩
theorem mg.at:∀{L:List nP} {i:Nat},mg P w L->L[i]?=some B->ac w B.b B.t B.x/\gg P B.t B.x.size
 |C::L,0,h,hi=>by
  obtain rfl:C=B:=by simpa using hi
  exact h.1
 |C::L,i+1,h,hi=>mg.at h.2.2 (i:=i) (by simpa using hi)
theorem mg.fr{S:Nat->Prop}(hF:Fr S w w'):∀{L:List nP},mg P w L->(∀B∈L,¬S B.b)->mg P w' L
 | [],_,_=>trivial
 |B::L,h,hS=>⟨⟨h.1.1.fr hF (hS B (List.mem_cons_self ..)),h.1.2⟩,h.2.1,mg.fr hF h.2.2 λC b=>hS C (List.mem_cons_of_mem _ b)⟩
theorem mg.set{y:Array Value}:∀{L:List nP} {i:Nat},mg P w L->L[i]?=some B->ac w' B.b B.t y->y.size=B.x.size->Fr (λk=>k=B.b) w w'->mg P w' (L.set i ⟨B.b,B.t,y⟩)
 |C::L,0,h,hi,c,d,hF=>by
  obtain rfl:C=B:=by simpa using hi
  exact⟨⟨c,by rw[d];exact h.1.2⟩,h.2.1,mg.fr hF h.2.2 λD b=>h.2.1 D b⟩
 |C::L,i+1,h,hi,c,d,hF=>by
  have hm:B∈L:=List.mem_of_getElem? (i:=i) (by simpa using hi);refine⟨⟨h.1.1.fr hF (λe=>h.2.1 B hm e.symm),h.1.2⟩,λD b=>?_,mg.set h.2.2 (i:=i) (by simpa using hi) c d hF⟩;rcases List.mem_or_eq_of_mem_set b with b|rfl
  ·exact h.2.1 D b
  ·exact h.2.1 B hm
theorem mg.add{b:Nat}{t:TypeId}{x:Array Value}(d:ac w b t x)(g:gg P t x.size):∀{L:List nP},mg P w L->(∀B∈L,B.b≠b)->mg P w (L++[⟨b,t,x⟩])
 | [],_,_=>⟨⟨d,g⟩,(λ_ h=>nomatch h),trivial⟩
 | B :: L, h, f => ⟨h.1, λC c => by
     rcases List.mem_append.1 c with c|c
     ·exact h.2.1 C c
     ·rw[List.mem_singleton.1 c]
      exact(f B (List.mem_cons_self ..)).symm,mg.add d g h.2.2 λC c=>f C (List.mem_cons_of_mem _ c)⟩
theorem mg.lt:∀{L:List nP},mg P w L->∀B∈L,B.b<w.heap.size
 |C::L,h,B,b=>by
  rcases List.mem_cons.1 b with rfl|b
  ·exact h.1.1.lt
  ·exact mg.lt h.2.2 B b
theorem Bx.start(h:R w)(b:kh w.heap.size T R):Bx P T w w [] R:=⟨trivial,(λ_ h=>nomatch h),aa.refl w,h,b⟩
theorem Bx.new(h:Bx P T w0 w L R)(b:aa w w'):Bx P T w0 w' L R:=⟨h.bx.fr (b.toFr ic) (λ_ _ x=>x.elim),h.ty,h.nw.tr b,h.sb.new _ _ b h.r,h.sb⟩
theorem Bx.call(h:Bx P T w0 w L R)(b:aa w w')(c:R' w')(d:kh w0.heap.size T R'):Bx P T w0 w' L (λw=>R w/\R' w):=⟨(h.new b).bx,h.ty,h.nw.tr b,⟨h.sb.new _ _ b h.r,c⟩,h.sb.and d⟩
theorem Bx.rel(h:Bx P T w0 w L R)(b:R w->R' w)(c:kh w0.heap.size T R'):Bx P T w0 w L R':=⟨h.bx,h.ty,h.nw,b h.r,c⟩
theorem Bx.set{i:Nat}{y:Array Value}(h:Bx P T w0 w L R)(hi:L[i]?=some B)(c:ac w' B.b B.t y)(f:y.size=B.x.size)(hF:Fr (λk=>k=B.b) w w'):Bx P T w0 w' (L.set i ⟨B.b,B.t,y⟩) R:=
 have hm:=List.mem_of_getElem? hi
 ⟨h.bx.set hi c f hF,λC b=>by
  rcases List.mem_or_eq_of_mem_set b with b|rfl
  ·exact h.ty C b
  ·exact h.ty B hm,h.nw.fr hF (λk d=>by rw[show k=B.b from d];exact(h.ty B hm).2),h.sb.st _ _ _ _ _ (h.ty B hm).1 (h.ty B hm).2 (h.bx.at hi).1 hF h.r,h.sb⟩
theorem Bx.add{t:TypeId}{x:Array Value}(h:Bx P T w0 w L R)(ht:t∈T)(d:gg P t x.size):Bx P T w0 (w.alloc (.cells x t)) (L++[⟨w.heap.size,t,x⟩]) R:=by
 have c:aa w (w.alloc (.cells x t)):=(aa.refl w).al _;have h1:=h.new c;refine⟨mg.add (ac.new _ _ _) d h1.bx λB b=>Nat.ne_of_lt (h.bx.lt B b),λB b=>?_,h1.nw,h1.r,h1.sb⟩;rcases List.mem_append.1 b with b|b
 ·exact h.ty B b
 ·rw[List.mem_singleton.1 b];exact⟨ht,h.nw.size⟩
theorem Bx.blk(h:Bx P T w0 w L R)(i:Nat)(hi:L[i]?=some B):ac w B.b B.t B.x:=(h.bx.at hi).1
end
section
variable {P:Program}{T:List TypeId}{w0 w:World}{L:List nP}{R:World->Prop}{B:nP}{ops:Array Oper}{rest:List Oper}{o o2:Oper}{a:Act}{Q:Exit->Act->World->Prop}
theorem be(i:Nat)(H:Bx P T w0 w L R){t:TypeId}{x:Operand}(f:o.op=.load t x)(g:Region.wanted o (yielded ops a.tmps)=true)(hi:L[i]?=some B)(j:a.eval x=.pointer (some ⟨B.b,0,none⟩))(ht:B.t=t)
    (h:wpList P ops Q rest (a.put o.dst (.agg B.x)) w):wpList P ops Q (o::rest) a w:=by
 subst ht;obtain⟨h1,⟨d,h2,b⟩,c⟩:=H.bx.at hi;exact ae g x f h2 b c j h1 h
theorem qm(i:Nat)(H:Bx P T w0 w L R){t:TypeId}{x y:Operand}{X:Array Value}(g:o.op=.store t x y)(j:Region.wanted o (yielded ops a.tmps)=true)(hi:L[i]?=some B)(k:a.eval x=.pointer (some ⟨B.b,0,none⟩))(ht:B.t=t)(l:a.eval y=.agg X)(hz:X.size=B.x.size)(h1:X.all (·.oneCell')=true)
    (h:∀w',Bx P T w0 w' (L.set i ⟨B.b,B.t,X⟩) R->wpList P ops Q rest (a.put o.dst undef) w'):wpList P ops Q (o::rest) a w:=by
 subst ht;obtain⟨b,⟨d,h2,m⟩,c⟩:=H.bx.at hi;exact ao j x y g (by rw[hz];exact c) k l b hz.symm h1 λw' f hF=>h w' (H.set hi f hz hF)
theorem vW(H:Bx P T w0 w L R){t:TypeId}{Z:Value}(k:o.op=.alloc t)(j:o.guard=none)(g:(P.info? t).map (λi=>(i.zero,i.size))=some (some Z,Z.cells.size))(ht:t∈T)(hu:∃d,P.underlying t=some d/\d.isRow=true)
    (h:∀w' b,Bx P T w0 w' (L++[⟨b,t,Z.cells⟩]) R->wpList P ops Q rest (a.put o.dst (.pointer (some ⟨b,0,none⟩))) w'):wpList P ops Q (o::rest) a w:=by
 obtain⟨l,m⟩:=zero_of_info g;refine wpList_plain j λn c=>?_
 have f:(Instr.alloc t true (.tuple #[])).run P w=.ok (.pointer (some ⟨w.heap.size,0,none⟩)) (w.alloc (.cells Z.cells t)):=by
  unfold Instr.alloc;simp[Sem.run_bind,l w,newVar,newRow,go_sem,Result.andThen]
 unfold Oper.wp;simp only[execOp,k,f,Result.andThen_ok,Sem.run_bind,Sem.run_pure];exact c _ _ (h _ _ (H.add ht ⟨hu,m⟩))
theorem wh(H:Bx P T w0 w L R){t:TypeId}{x:Operand}{X:Array Value}(g:o.op=.box t x)(f:o.guard=none)(j:a.eval x=.agg X)(ht:t∈T)(i:gg P t X.size)
    (h:∀w' b,Bx P T w0 w' (L++[⟨b,t,X⟩]) R->wpList P ops Q rest (a.put o.dst (.pointer (some ⟨b,0,none⟩))) w'):wpList P ops Q (o::rest) a w:=by
 refine wpList_plain f λk c=>?_
 have d:(Instr.box t (.agg X)).run P w=.ok (.pointer (some ⟨w.heap.size,0,none⟩)) (w.alloc (.cells X t)):=by
  unfold Instr.box;simp[Sem.run_bind,newVar,newRow,go_sem,Result.andThen,Value.cells]
 unfold Oper.wp;simp only[execOp,g,j,d,Result.andThen_ok,Sem.run_bind,Sem.run_pure];exact c _ _ (h _ _ (H.add ht i))
theorem mB(k:Nat){S:World->Prop}{last i:Nat}{f:List EF}{b:List (Bool×Nat)}{t:TypeId}{x:Operand}(hS:∀w',S w'->Bx P T w0 w' L R)(c:ops[i]?=some o)(n:o.op=.load t x)(q:Region.wanted o (yielded ops a.tmps)=true)(hi:L[k]?=some B)(r:a.eval x=.pointer (some ⟨B.b,0,none⟩))(ht:B.t=t)(l:gg P B.t B.x.size)
    (h:eD P ops S last b Q f (a.put o.dst (.agg B.x)) w):eD P ops S last b Q (.take i::f) a w:=
 ⟨o,c,by
  subst ht;rw[if_pos q];obtain⟨⟨d,h2,g⟩,j⟩:=l;refine⟨_,λp=>?_,h⟩;unfold execOp;have m:=(hS _ p.h).blk k hi
  simp only[n,r,Instr.loadAt,Instr.sureAddr,Sem.run_bind,Sem.run_pure,Result.andThen_ok,run_loadVar_row p.w B.b B.t B.t B.x (0,0) _ m h2 (by cases d<;>first|rfl|(simp[TypeDesc.isRow]at g)) j]⟩
theorem tq(k:Nat){S:World->Prop}{last i:Nat}{c:List (Bool×Nat)}{t:TypeId}{x:Operand}(hS:∀w',S w'->Bx P T w0 w' L R)(b:ops[i]?=some o)(m:o.op=.load t x)(n:Region.wanted o (yielded ops a.tmps)=true)(hi:L[k]?=some B)(q:a.eval x=.pointer (some ⟨B.b,0,none⟩))(ht:B.t=t)(j:gg P B.t B.x.size)
    (h:dc P ops S last Q c (a.put o.dst (.agg B.x)) w):dc P ops S last Q ((true,i)::c) a w:=
 ⟨o,b,by
  subst ht;rw[if_pos n];obtain⟨⟨d,h2,f⟩,g⟩:=j;refine⟨_,λp=>?_,h⟩;unfold execOp;have l:=(hS _ p.h).blk k hi
  simp only[m,q,Instr.loadAt,Instr.sureAddr,Sem.run_bind,Sem.run_pure,Result.andThen_ok,run_loadVar_row p.w B.b B.t B.t B.x (0,0) _ l h2 (by cases d<;>first|rfl|(simp[TypeDesc.isRow]at f)) g]⟩
theorem vF(i:Nat){K:Act->World->Prop}{F:Prop}(H:Bx P T w0 w L R){t:TypeId}{x y:Operand}{X:Array Value}(g:o.op=.store t x y)(j:Region.wanted o (yielded ops a.tmps)=true)(hi:L[i]?=some B)(k:a.eval x=.pointer (some ⟨B.b,0,none⟩))(ht:B.t=t)(l:a.eval y=.agg X)(hz:X.size=B.x.size)(h1:X.all (·.oneCell')=true)
    (h:∀w',Bx P T w0 w' (L.set i ⟨B.b,B.t,X⟩) R->K (a.put o.dst undef) w'):if Region.wanted o (yielded ops a.tmps)=true then Oper.wp P o a w K Q else F:=by
 subst ht;obtain⟨b,⟨d,h2,m⟩,c⟩:=H.bx.at hi;exact cZ j x y g (by rw[hz];exact c) k l b hz.symm h1 λw' f hF=>h w' (H.set hi f hz hF)
end
end Go.Proofs.YtfchcdbfalgdlaaGreatDoor
