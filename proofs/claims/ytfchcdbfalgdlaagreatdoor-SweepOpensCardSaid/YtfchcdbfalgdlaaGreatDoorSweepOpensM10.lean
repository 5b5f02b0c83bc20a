/- Texts of one proof. No condition but each one's own. -/
import Derived.Test.YtfchcdbfalgdlaaGreatDoorSweepOpensM2
set_option maxHeartbeats 4000000
set_option maxRecDepth 100000
set_option linter.unusedVariables false
set_option linter.unusedSimpArgs false
namespace Go.Proofs.YtfchcdbfalgdlaaGreatDoor
open _root_.Go.Proofs.Tryz
open Go.RowKit
inductive Tr where
 |done
 |take (i:Nat) (t:Tr)
 |act (i:Nat) (t:Tr)
 |two (i:Nat) (t:Tr) (j:Nat) (u:Tr)
def Tr.len:Tr→Nat
 | .done=>0
 | .take _ t=>t.len+1
 | .act _ t=>t.len+1
 | .two _ t _ _=>t.len+1
section
variable {P:Program}{md:Region.Mode}{ops:Array Oper}{Q:Exit→Act→World→Prop}{S:World→Prop}
def kN(md:Region.Mode)(ops:Array Oper):Tr→Array Bool→Bool
 | .done,listed=>(Region.ready md ops listed).isEmpty
 | .take i t,listed=>(Region.ready md ops listed).contains i&&Region.free md ops listed i&&kN md ops t (listed.setIfInBounds i true)
 | .act i t,listed=>decide (Region.ready md ops listed=[i])&&kN md ops t (listed.setIfInBounds i true)
 | .two i t j u,listed=>decide (Region.ready md ops listed=[i,j])&&decide (t.len=u.len)&&kN md ops t (listed.setIfInBounds i true)&&kN md ops u (listed.setIfInBounds j true)
def nI(P:Program)(ops:Array Oper)(S:World→Prop)(Q:Exit→Act→World→Prop)(i:Nat)(R:Act→World→Prop)(a:Act)(w:World):Prop:=
 ∃o,ops[i]?=some o∧(if Region.wanted o (yielded ops a.tmps)=true then o.wp P a w (fun b w'=>S w'∧R b w') Q else R (a.put o.dst undef) w)
def ep(P:Program)(ops:Array Oper)(S:World→Prop)(Q:Exit→Act→World→Prop):Tr→Act→World→Prop
 | .done,a,w=>Q .normal a w
 | .take i t,a,w=>∃o,ops[i]?=some o∧(if Region.wanted o (yielded ops a.tmps)=true then ∃v,(∀p:HW S,(execOp a.eval o).run P p.w=.ok (.value v) p.w)∧ep P ops S Q t (a.put o.dst v) w else ep P ops S Q t (a.put o.dst undef) w)
 | .act i t,a,w=>nI P ops S Q i (ep P ops S Q t) a w
 | .two i t j u,a,w=>nI P ops S Q i (ep P ops S Q t) a w∧nI P ops S Q j (ep P ops S Q u) a w
theorem nK{i:Nat}{R R':Act→World→Prop}{a:Act}{w:World}(h:nI P ops S Q i R a w)(hS:S w)(f:∀b w',S w'→R b w'→R' b w'):wpOp P ops Q i (fun b w'=>S w'∧R' b w') a w:=by
 obtain⟨o,g,h⟩:=h;unfold wpOp;simp only[g]
 by_cases c:Region.wanted o (yielded ops a.tmps)=true
 ·rw[if_pos c]at h;simp only[c,if_true];exact .inl (Oper.wp_mono (fun b w' d=>⟨d.1,f _ _ d.1 d.2⟩) h)
 ·rw[if_neg c]at h;simp only[c];exact⟨hS,f _ _ hS h⟩
theorem eo(q:Region.noSelect ops=true)(m:∀c a d v w,Q (.panic c) (a.put d v) w→Q (.panic c) a w):∀(t:Tr) (listed:Array Bool) (a:Act) (w:World),kN md ops t listed=true→S w→ep P ops S Q t a w→wpAnyH P md ops Q S t.len listed a w
 | .done,listed,a,w,f,_,h=>⟨by simpa[kN]using f,h⟩
 | .take i t,listed,a,w,f,n,h=>by
  simp only[kN,Bool.and_eq_true]at f;obtain⟨⟨h1,h2⟩,C⟩:=f;obtain⟨o,z,h⟩:=h
  have key:∀v,YieldsIf P ops S o v a→ep P ops S Q t (a.put o.dst v) w→wpAnyH P md ops Q S (Tr.take i t).len listed a w:=fun v E h=>
   wpAnyH_first z (Region.noSelect_spec q) (fun c a w=>m c a _ _ w) _ listed a w (Region.free_spec z h2) (by simpa using h1) E n (eo q m t _ _ _ C n h)
  by_cases g:Region.wanted o (yielded ops a.tmps)=true
  ·rw[if_pos g]at h;obtain⟨v,D,h⟩:=h;exact key v (.inl ⟨g,fun w g=>D ⟨w,g⟩⟩) h
  ·rw[if_neg g]at h;exact key undef (.inr ⟨by simpa using g,rfl⟩) h
 | .act i t,listed,a,w,f,hS,h=>by
  simp only[kN,Bool.and_eq_true,decide_eq_true_eq]at f;obtain⟨h1,s⟩:=f;refine⟨fun h0=>(by rw[h1]at h0;cases h0),fun j y=>?_⟩;rw[h1,List.mem_singleton]at y;subst y;exact nK h hS (fun r w' b l=>eo q m t _ _ _ s b l)
 | .two i t j u,listed,a,w,f,hS,h=>by
  simp only[kN,Bool.and_eq_true,decide_eq_true_eq]at f;obtain⟨⟨⟨h1,h2⟩,s⟩,B⟩:=f;refine⟨fun h0=>(by rw[h1]at h0;cases h0),fun k p=>?_⟩;rw[h1]at p;rcases List.mem_cons.1 p with rfl|p
  ·exact nK h.1 hS (fun r w' b l=>eo q m t _ _ _ s b l)
  ·rw[List.mem_singleton]at p;subst p;refine nK h.2 hS (fun r w' b l=>?_);show wpAnyH P md ops Q S t.len _ r w';rw[h2];exact eo q m u _ _ _ B b l
theorem cD{id:Nat}{a:Act}{w:World}{l:List Oper}(S:World→Prop)(t:Tr)(d:P.follows .mixedOrders=true)
    (b:(Region.noSelect l.toArray&&decide (t.len=l.toArray.size)&&kN .any l.toArray t (Array.replicate l.toArray.size false))=true) (hS:S w.drew)
    (h:Nonempty (HW S)→ep P l.toArray S (eG Q) t a w.drew):(Code.region id l.toArray true).wp P Q a w:=by
 simp only[Bool.and_eq_true,decide_eq_true_eq]at b;obtain⟨⟨h1,h2⟩,c⟩:=b;refine wp_mono (Q:=eG Q) (wp_region_held (S:=S) d ?_) eG.imp;have:=eo (Q:=eG Q) h1 (fun _ _ _ _ _ h=>h) t _ _ _ c hS (h ⟨⟨_,hS⟩⟩)
 rwa[h2]at this
theorem aB{i:Nat}{o:Oper}{t:Tr}{a:Act}{w:World}(b:ops[i]?=some o)
    (h:∀K:Act→Prop,(∀a,ep P ops S Q t a w→K a)→if Region.wanted o (yielded ops a.tmps)=true then ∃v,(∀p:HW S,(execOp a.eval o).run P p.w=.ok (.value v) p.w)∧K (a.put o.dst v)else K (a.put o.dst undef)):ep P ops S Q (.take i t) a w:=
 ⟨o,b,h _ fun _ h=>h⟩
theorem dX{i:Nat}{o:Oper}{R:Act→World→Prop}{a:Act}{w:World}(d:ops[i]?=some o)
    (h:∀K:Act→World→Prop,Hid (∀a w,S w→R a w→K a w)→if Region.wanted o (yielded ops a.tmps)=true then o.wp P a w K Q else K (a.put o.dst undef) w) (hS:Region.wanted o (yielded ops a.tmps)=true∨S w):nI P ops S Q i R a w:=by
 refine⟨o,d,?_⟩;have:=h (fun c w'=>S w'∧R c w') (Ld fun a w h1 h2=>⟨h1,h2⟩)
 by_cases b:Region.wanted o (yielded ops a.tmps)=true
 ·rw[if_pos b]at this⊢;exact this
 ·rw[if_neg b]at this⊢;exact this.2
theorem aE{i:Nat}{o:Oper}{t:Tr}{a:Act}{w:World}(b:ops[i]?=some o)
    (h:∀K:Act→World→Prop,Hid (∀a w,S w→ep P ops S Q t a w→K a w)→if Region.wanted o (yielded ops a.tmps)=true then o.wp P a w K Q else K (a.put o.dst undef) w) (hS:Region.wanted o (yielded ops a.tmps)=true∨S w):ep P ops S Q (.act i t) a w:=
 dX b h hS
theorem bq{a:Act}{w:World}(h:Q .normal a w):ep P ops S (eG Q) .done a w:=h
end
theorem me{α:Type}{P:Program}{c:Code}{Q:Exit→Act→World→Prop}{a:Act}{w:World}(R:α→World→Prop){F:α→Act}
    (h1:∀b:Act→World→Prop,Hid (∀x w',R x w'→b (F x) w')→c.wp P (Exit.then b fun _ _ _=>False) a w)
    (h2:∀x w',R x w'→Q .normal (F x) w'):c.wp P Q a w:=
 CX (fun d w'=>∃x,d=F x∧R x w') (fun d w' ⟨x,e,h⟩=>e▸h2 x w' h) (fun b f=>h1 b (Ld fun x w' h=>f _ _ ⟨x,rfl,h⟩))
section
variable {P:Program}{ops:Array Oper}{Q:Exit→Act→World→Prop}{S:World→Prop}
theorem fL{i:Nat}{o:Oper}{R:Act→World→Prop}{a:Act}{w:World}{T:TypeId}{n:Nat}{Z:Value}(f:ops[i]?=some o)(j:Region.wanted o (yielded ops a.tmps)=true)(c:o.op=.alloc T)(d:(P.info? T).map (fun i=>(i.zero,i.size))=some (some Z,n))
    (h:∀g w',g=w.heap.size→ab w' g T Z.cells→aa w w'→S w'∧R (a.put o.dst (.pointer (some ⟨g,0,none⟩))) w'):nI P ops S Q i R a w:=by
 refine⟨o,f,?_⟩;rw[if_pos j];obtain⟨k,l⟩:=zero_of_info d
 have b:(Instr.alloc T true (.tuple #[])).run P w=.ok (.pointer (some ⟨w.heap.size,0,none⟩)) (w.alloc (.cells Z.cells T)):=by
  unfold Instr.alloc;simp[Sem.run_bind,k w,newVar,newRow,go_sem,Result.andThen]
 unfold Oper.wp;simp only[execOp,c,b,Result.andThen_ok,Sem.run_bind,Sem.run_pure];exact h _ _ rfl (ab.new _ _ _) (aa.al (aa.refl _) _)
theorem fB{i:Nat}{o:Oper}{t:Tr}{a:Act}{w:World}{T:TypeId}{n:Nat}{Z:Value}(d:ops[i]?=some o)(f:Region.wanted o (yielded ops a.tmps)=true)(b:o.op=.alloc T)(c:(P.info? T).map (fun i=>(i.zero,i.size))=some (some Z,n))
    (h:∀g w',g=w.heap.size→ab w' g T Z.cells→aa w w'→S w'∧ep P ops S Q t (a.put o.dst (.pointer (some ⟨g,0,none⟩))) w'):ep P ops S Q (.act i t) a w:=
 fL d f b c h
theorem dP{i:Nat}{o:Oper}{R:Act→World→Prop}{a:Act}{w:World}{T:TypeId}{g:Nat}{b cs:Array Value}(f:ops[i]?=some o)(j:Region.wanted o (yielded ops a.tmps)=true)(x y:Operand)(c:o.op=.store T x y)(hi:(P.info? T).map (·.size)=some cs.size)(l:a.eval x=.pointer (some ⟨g,0,none⟩))(m:a.eval y=.agg cs)(d:ab w g T b)(h0:b.size=cs.size)(h1:cs.all (·.oneCell')=true)
    (h:∀w',ab w' g T cs→Fr (fun k=>k=g) w w'→S w'∧R (a.put o.dst undef) w'):nI P ops S Q i R a w:=by
 refine⟨o,f,?_⟩;obtain⟨n,p⟩:=ej (cs':=cs) d;rw[if_pos j];unfold Oper.wp execOp;simp only[c,l,m,Instr.storeAt,Instr.sureAddr,Sem.run_bind,Sem.run_pure,Result.andThen_ok,run_storeVar_row w g T T b cs d (by rw[hi]) (by omega) h1];exact h _ n p
theorem fS{i:Nat}{o:Oper}{t:Tr}{a:Act}{w:World}{T:TypeId}{d:TypeDesc}{b off:Nat}{cs:List Value}(g:ops[i]?=some o)(j:Region.wanted o (yielded ops a.tmps)=true)(x:Operand)(c:o.op=.load T x)(k:a.eval x=.pointer (some ⟨b,off,none⟩))
    (f:∀w',S w'→w'.rangeAt b off cs) (hu:P.underlying T=some d) (hd:d.isRow=true) (hi:(P.info? T).map (·.size)=some cs.length)
    (h:ep P ops S Q t (a.put o.dst (.agg cs.toArray)) w):ep P ops S Q (.take i t) a w:=
 ⟨o,g,by
  rw[if_pos j];refine⟨_,fun p=>?_,h⟩;unfold execOp
  simp only[c,k,Instr.loadAt,Instr.sureAddr,Sem.run_bind,Sem.run_pure,Result.andThen_ok,run_loadVar_mid p.w b off T cs d (f _ p.h) hu hd hi]⟩
end
end Go.Proofs.YtfchcdbfalgdlaaGreatDoor
