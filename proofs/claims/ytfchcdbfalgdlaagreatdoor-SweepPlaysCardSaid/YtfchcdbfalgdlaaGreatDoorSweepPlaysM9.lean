/- Texts of one proof. No condition but each one's own. -/
import Derived.Test.YtfchcdbfalgdlaaGreatDoorSweepPlaysM2
set_option maxHeartbeats 4000000
set_option maxRecDepth 100000
set_option linter.unusedVariables false
set_option linter.unusedSimpArgs false
namespace Go.Proofs.YtfchcdbfalgdlaaGreatDoor
open _root_.Go.Proofs.Tryz
open Go.RowKit
inductive Tr where
 |done
 |take (i:Nat) (t:Tr)
 |act (i:Nat) (t:Tr)
 |two (i:Nat) (t:Tr) (j:Nat) (u:Tr)
def Tr.len:Tr->Nat
 | .done=>0
 | .take _ t=>t.len+1
 | .act _ t=>t.len+1
 | .two _ t _ _=>t.len+1
section
variable {P:Program}{md:Region.Mode}{ops:Array Oper}{Q:Exit->Act->World->Prop}{S:World->Prop}
def lF(md:Region.Mode)(ops:Array Oper):Tr->Array Bool->Bool
 | .done,listed=>(Region.ready md ops listed).isEmpty
 | .take i t,listed=>(Region.ready md ops listed).contains i&&Region.free md ops listed i&&lF md ops t (listed.setIfInBounds i true)
 | .act i t,listed=>decide (Region.ready md ops listed=[i])&&lF md ops t (listed.setIfInBounds i true)
 | .two i t j u,listed=>decide (Region.ready md ops listed=[i,j])&&decide (t.len=u.len)&&lF md ops t (listed.setIfInBounds i true)&&lF md ops u (listed.setIfInBounds j true)
def oQ(P:Program)(ops:Array Oper)(S:World->Prop)(Q:Exit->Act->World->Prop)(i:Nat)(R:Act->World->Prop)(a:Act)(w:World):Prop:=
 ∃o,ops[i]?=some o/\(if Region.wanted o (yielded ops a.tmps)=true then o.wp P a w (λb w'=>S w'/\R b w') Q else R (a.put o.dst undef) w)
def eM(P:Program)(ops:Array Oper)(S:World->Prop)(Q:Exit->Act->World->Prop):Tr->Act->World->Prop
 | .done,a,w=>Q .normal a w
 | .take i t,a,w=>∃o,ops[i]?=some o/\(if Region.wanted o (yielded ops a.tmps)=true then ∃v,(∀p:HW S,(execOp a.eval o).run P p.w=.ok (.value v) p.w)/\eM P ops S Q t (a.put o.dst v) w else eM P ops S Q t (a.put o.dst undef) w)
 | .act i t,a,w=>oQ P ops S Q i (eM P ops S Q t) a w
 | .two i t j u,a,w=>oQ P ops S Q i (eM P ops S Q t) a w/\oQ P ops S Q j (eM P ops S Q u) a w
theorem oT{i:Nat}{R R':Act->World->Prop}{a:Act}{w:World}(h:oQ P ops S Q i R a w)(hS:S w)(f:∀b w',S w'->R b w'->R' b w'):wpOp P ops Q i (λb w'=>S w'/\R' b w') a w:=by
 obtain⟨o,g,h⟩:=h;unfold wpOp;simp only[g]
 by_cases c:Region.wanted o (yielded ops a.tmps)=true
 ·rw[if_pos c]at h;simp only[c,if_true];exact .inl (Oper.wp_mono (λb w' d=>⟨d.1,f _ _ d.1 d.2⟩) h)
 ·rw[if_neg c]at h;simp only[c];exact⟨hS,f _ _ hS h⟩
theorem eL(q:Region.noSelect ops=true)(m:∀c a d v w,Q (.panic c) (a.put d v) w->Q (.panic c) a w):∀(t:Tr) (listed:Array Bool) (a:Act) (w:World),lF md ops t listed=true->S w->eM P ops S Q t a w->wpAnyH P md ops Q S t.len listed a w
 | .done,listed,a,w,f,_,h=>⟨by simpa[lF]using f,h⟩
 | .take i t,listed,a,w,f,n,h=>by
  simp only[lF,Bool.and_eq_true]at f;obtain⟨⟨h1,h2⟩,C⟩:=f;obtain⟨o,z,h⟩:=h
  have key:∀v,YieldsIf P ops S o v a->eM P ops S Q t (a.put o.dst v) w->wpAnyH P md ops Q S (Tr.take i t).len listed a w:=λv E h=>
   wpAnyH_first z (Region.noSelect_spec q) (λc a w=>m c a _ _ w) _ listed a w (Region.free_spec z h2) (by simpa using h1) E n (eL q m t _ _ _ C n h)
  by_cases g:Region.wanted o (yielded ops a.tmps)=true
  ·rw[if_pos g]at h;obtain⟨v,D,h⟩:=h;exact key v (.inl ⟨g,λw g=>D ⟨w,g⟩⟩) h
  ·rw[if_neg g]at h;exact key undef (.inr ⟨by simpa using g,rfl⟩) h
 | .act i t,listed,a,w,f,hS,h=>by
  simp only[lF,Bool.and_eq_true,decide_eq_true_eq]at f;obtain⟨h1,s⟩:=f;refine⟨λh0=>(by rw[h1]at h0;cases h0),λj y=>?_⟩;rw[h1,List.mem_singleton]at y;subst y;exact oT h hS (λr w' b l=>eL q m t _ _ _ s b l)
 | .two i t j u,listed,a,w,f,hS,h=>by
  simp only[lF,Bool.and_eq_true,decide_eq_true_eq]at f;obtain⟨⟨⟨h1,h2⟩,s⟩,B⟩:=f;refine⟨λh0=>(by rw[h1]at h0;cases h0),λk p=>?_⟩;rw[h1]at p;rcases List.mem_cons.1 p with rfl|p
  ·exact oT h.1 hS (λr w' b l=>eL q m t _ _ _ s b l)
  ·rw[List.mem_singleton]at p;subst p;refine oT h.2 hS (λr w' b l=>?_);show wpAnyH P md ops Q S t.len _ r w';rw[h2];exact eL q m u _ _ _ B b l
theorem bu{id:Nat}{a:Act}{w:World}{l:List Oper}(S:World->Prop)(t:Tr)(hm:P.follows .mixedOrders=true)
    (b:(Region.noSelect l.toArray&&decide (t.len=l.toArray.size)&&lF .any l.toArray t (Array.replicate l.toArray.size false))=true) (hS:S w.drew)
    (h:Nonempty (HW S)->eM P l.toArray S (fa Q) t a w.drew):(Code.region id l.toArray true).wp P Q a w:=by
 simp only[Bool.and_eq_true,decide_eq_true_eq]at b;obtain⟨⟨h1,h2⟩,c⟩:=b;refine wp_mono (Q:=fa Q) (wp_region_held (S:=S) hm ?_) fa.imp;have:=eL (Q:=fa Q) h1 (λ_ _ _ _ _ h=>h) t _ _ _ c hS (h ⟨⟨_,hS⟩⟩)
 rwa[h2]at this
theorem ay{i:Nat}{o:Oper}{t:Tr}{a:Act}{w:World}(b:ops[i]?=some o)
    (h:∀K:Act->Prop,(∀a,eM P ops S Q t a w->K a)->if Region.wanted o (yielded ops a.tmps)=true then ∃v,(∀p:HW S,(execOp a.eval o).run P p.w=.ok (.value v) p.w)/\K (a.put o.dst v)else K (a.put o.dst undef)):eM P ops S Q (.take i t) a w:=
 ⟨o,b,h _ λ_ h=>h⟩
theorem dJ{i:Nat}{o:Oper}{R:Act->World->Prop}{a:Act}{w:World}(d:ops[i]?=some o)
    (h:∀K:Act->World->Prop,Hid (∀a w,S w->R a w->K a w)->if Region.wanted o (yielded ops a.tmps)=true then o.wp P a w K Q else K (a.put o.dst undef) w) (hS:Region.wanted o (yielded ops a.tmps)=true\/S w):oQ P ops S Q i R a w:=by
 refine⟨o,d,?_⟩;have:=h (λc w'=>S w'/\R c w') (Ld λa w h1 h2=>⟨h1,h2⟩)
 by_cases b:Region.wanted o (yielded ops a.tmps)=true
 ·rw[if_pos b]at this⊢;exact this
 ·rw[if_neg b]at this⊢;exact this.2
theorem aC{i:Nat}{o:Oper}{t:Tr}{a:Act}{w:World}(b:ops[i]?=some o)
    (h:∀K:Act->World->Prop,Hid (∀a w,S w->eM P ops S Q t a w->K a w)->if Region.wanted o (yielded ops a.tmps)=true then o.wp P a w K Q else K (a.put o.dst undef) w) (hS:Region.wanted o (yielded ops a.tmps)=true\/S w):eM P ops S Q (.act i t) a w:=
 dJ b h hS
theorem aO{a:Act}{w:World}(h:Q .normal a w):eM P ops S (fa Q) .done a w:=h
end
theorem lr{α:Type}{P:Program}{c:Code}{Q:Exit->Act->World->Prop}{a:Act}{w:World}(R:α->World->Prop){F:α->Act}
    (h1:∀b:Act->World->Prop,Hid (∀x w',R x w'->b (F x) w')->c.wp P (Exit.then b λ_ _ _=>False) a w)
    (h2:∀x w',R x w'->Q .normal (F x) w'):c.wp P Q a w:=
 ER (λd w'=>∃x,d=F x/\R x w') (λd w' ⟨x,e,h⟩=>e▸h2 x w' h) (λb f=>h1 b (Ld λx w' h=>f _ _ ⟨x,rfl,h⟩))
section
variable {P:Program}{ops:Array Oper}{Q:Exit->Act->World->Prop}{S:World->Prop}
theorem ep{i:Nat}{o:Oper}{R:Act->World->Prop}{a:Act}{w:World}{T:TypeId}{n:Nat}{Z:Value}(f:ops[i]?=some o)(j:Region.wanted o (yielded ops a.tmps)=true)(c:o.op=.alloc T)(d:(P.info? T).map (λi=>(i.zero,i.size))=some (some Z,n))
    (h:∀g w',g=w.heap.size->ac w' g T Z.cells->aa w w'->S w'/\R (a.put o.dst (.pointer (some ⟨g,0,none⟩))) w'):oQ P ops S Q i R a w:=by
 refine⟨o,f,?_⟩;rw[if_pos j];obtain⟨k,l⟩:=zero_of_info d
 have b:(Instr.alloc T true (.tuple #[])).run P w=.ok (.pointer (some ⟨w.heap.size,0,none⟩)) (w.alloc (.cells Z.cells T)):=by
  unfold Instr.alloc;simp[Sem.run_bind,k w,newVar,newRow,go_sem,Result.andThen]
 unfold Oper.wp;simp only[execOp,c,b,Result.andThen_ok,Sem.run_bind,Sem.run_pure];exact h _ _ rfl (ac.new _ _ _) (aa.al (aa.refl _) _)
theorem dW{i:Nat}{o:Oper}{t:Tr}{a:Act}{w:World}{T:TypeId}{n:Nat}{Z:Value}(d:ops[i]?=some o)(f:Region.wanted o (yielded ops a.tmps)=true)(b:o.op=.alloc T)(c:(P.info? T).map (λi=>(i.zero,i.size))=some (some Z,n))
    (h:∀g w',g=w.heap.size->ac w' g T Z.cells->aa w w'->S w'/\eM P ops S Q t (a.put o.dst (.pointer (some ⟨g,0,none⟩))) w'):eM P ops S Q (.act i t) a w:=
 ep d f b c h
theorem cL{i:Nat}{o:Oper}{R:Act->World->Prop}{a:Act}{w:World}{T:TypeId}{g:Nat}{cs0 cs:Array Value}(d:ops[i]?=some o)(f:Region.wanted o (yielded ops a.tmps)=true)(x y:Operand)(b:o.op=.store T x y)(hi:(P.info? T).map (·.size)=some cs.size)(j:a.eval x=.pointer (some ⟨g,0,none⟩))(l:a.eval y=.agg cs)(c:ac w g T cs0)(h0:cs0.size=cs.size)(h1:cs.all (·.oneCell')=true)
    (h:∀w',ac w' g T cs->Fr (λk=>k=g) w w'->S w'/\R (a.put o.dst undef) w'):oQ P ops S Q i R a w:=by
 refine⟨o,d,?_⟩;obtain⟨m,n⟩:=eJ (cs':=cs) c;rw[if_pos f];unfold Oper.wp execOp;simp only[b,j,l,Instr.storeAt,Instr.sureAddr,Sem.run_bind,Sem.run_pure,Result.andThen_ok,run_storeVar_row w g T T cs0 cs c (by rw[hi]) (by omega) h1];exact h _ m n
theorem ew{i:Nat}{o:Oper}{t:Tr}{a:Act}{w:World}{T:TypeId}{d:TypeDesc}{b off:Nat}{cs:List Value}(g:ops[i]?=some o)(j:Region.wanted o (yielded ops a.tmps)=true)(x:Operand)(c:o.op=.load T x)(k:a.eval x=.pointer (some ⟨b,off,none⟩))
    (f:∀w',S w'->w'.rangeAt b off cs) (hu:P.underlying T=some d) (hd:d.isRow=true) (hi:(P.info? T).map (·.size)=some cs.length)
    (h:eM P ops S Q t (a.put o.dst (.agg cs.toArray)) w):eM P ops S Q (.take i t) a w:=
 ⟨o,g,by
  rw[if_pos j];refine⟨_,λp=>?_,h⟩;unfold execOp
  simp only[c,k,Instr.loadAt,Instr.sureAddr,Sem.run_bind,Sem.run_pure,Result.andThen_ok,run_loadVar_mid p.w b off T cs d (f _ p.h) hu hd hi]⟩
end
end Go.Proofs.YtfchcdbfalgdlaaGreatDoor
