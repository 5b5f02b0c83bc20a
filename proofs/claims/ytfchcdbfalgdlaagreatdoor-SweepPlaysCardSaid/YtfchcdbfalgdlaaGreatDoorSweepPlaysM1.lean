/- Texts of one proof. No condition but each one's own. -/
import Derived.WalkKit
import Derived.ProofKit
import Derived.Deep.AppendLies
import Derived.Deep.Draws
import Derived.Maps.AppendAt
import Derived.Laws.AppendOwnNone
import Derived.Lib.Hide
import Derived.WalkSpells
import Derived.WalkLawsBesides
import Derived.Deep.LoopGhost
import Derived.Deep.QuietTactic
import Derived.BigQuiet
import Derived.Deep.RegionWith
import Derived.Deep.RegionHeld3
import Derived.Deep.RegionLaw
import Derived.BigGuardPart
import Derived.Deep.Light
import Derived.Deep.DeepCutAuto
import Derived.Deep.DeepMust
import Derived.Lib.QuietBelowIn
import Derived.Sort.QuietTacIn
import Derived.RangeFuncCalls
import Derived.StillTail
import Derived.Test.YtfchcdbfalgdlaaGreatDoorRows
import Derived.OrdersHeld
import Derived.Laws.BytesArg
import Derived.Deep.WholeRow
import Derived.Deep.MidRow
import Derived.Stop.BytesEq
import Derived.RangeFuncNested
import Derived.RangeFuncBound
set_option maxHeartbeats 4000000
set_option maxRecDepth 100000
set_option linter.unusedVariables false
set_option linter.unusedSimpArgs false
namespace Go.Proofs.YtfchcdbfalgdlaaGreatDoor
open _root_.Go.Proofs.Tryz
open Go.RowKit
theorem Ld{p:Prop}(h:p):Hid p:=Lib.hid h
theorem nM{α:Sort _}(x:α):∃y,y=x:=⟨x,rfl⟩
theorem bC{α:Type _}(l:List α)(i:Nat)(a:α):l.toArray.setIfInBounds i a=(l.set i a).toArray:=List.setIfInBounds_toArray ..
theorem bD{α:Type _}{a b:α}{l:List α}:(a::l).set 0 b=b::l:=List.set_cons_zero
theorem bF{α:Type _}{a b:α}{l:List α}{n:Nat}:(a::l).set (n+1) b=a::l.set n b:=List.set_cons_succ
structure GP(p:Prop):Prop where
 out:p
theorem dG{p:Prop}(h:GP p):p:=h.out
structure Fr(S:Nat->Prop)(w w':World):Prop where
 os:w'.os=w.os
 tape:w'.tape=w.tape
 output:w'.output=w.output
 size:w.heap.size<=w'.heap.size
 block:∀k,k<w.heap.size->¬S k->w'.heap[k]?=w.heap[k]?
def ic:Nat->Prop:=λ_=>False
section
variable {S T:Nat->Prop}{w w' w'':World}
theorem Fr.refl(S:Nat->Prop)(w:World):Fr S w w:=⟨rfl,rfl,rfl,Nat.le_refl _,λ_ _ _=>rfl⟩
theorem Fr.trans' (h:Fr S w w')(k:Fr T w' w'')(d:∀b,b<w.heap.size->T b->S b):Fr S w w'':=
 ⟨k.os.trans h.os,k.tape.trans h.tape,k.output.trans h.output,Nat.le_trans h.size k.size,λi hi c=>
  (k.block i (Nat.lt_of_lt_of_le hi h.size) (λht=>c (d i hi ht))).trans (h.block i hi c)⟩
theorem Fr.trans(h:Fr S w w')(k:Fr S w' w''):Fr S w w'':=h.trans' k λ_ _ x=>x
theorem Fr.mono(h:Fr S w w')(hS:∀b,b<w.heap.size->S b->T b):Fr T w w':=
 ⟨h.os,h.tape,h.output,h.size,λi hi c=>h.block i hi λx=>c (hS i hi x)⟩
theorem Fr.drew(h:Fr S w w'):Fr S w w'.drew:=⟨h.os,h.tape,h.output,h.size,h.block⟩
theorem Fr.drewN(h:Fr S w w')(n:Nat):Fr S w (w'.drewN n):=⟨h.os,h.tape,h.output,h.size,h.block⟩
theorem Fr.ofDrew(h:Fr S w.drew w'):Fr S w w':=⟨h.os,h.tape,h.output,h.size,h.block⟩
theorem Fr.alloc(h:Fr S w w')(o:Obj):Fr S w (w'.alloc o):=
 h.trans ⟨rfl,rfl,rfl,by simp,λk b _=>Below.heap_alloc _ _ _ b⟩
theorem Fr.setCell(h:Fr S w w'){p:Addr}(d:p.block<w.heap.size->S p.block)(u:Value):Fr S w (w'.setCell p u):=
 h.trans' (T:=λk=>k=p.block) ⟨rfl,rfl,rfl,by simp[World.setCell],λk _ f=>Below.heap_setCell _ _ _ _ f⟩ λb c e=>by subst e;exact d c
theorem Fr.grown{row:Option Nat}(h:Fr S w w')(b:w'.grownBy w'' row)(d:∀k,k<w.heap.size->row=some k->S k):Fr S w w'':=
 h.trans' (T:=λk=>row=some k) ⟨b.os,b.tape,b.output,b.size,λk c f=>b.block k c λe=>f e.symm⟩ d
theorem Fr.cell(h:Fr S w w'){p:Addr}(b:p.block<w.heap.size)(c:¬S p.block):w'.cell? p=w.cell? p:=World.cell?_of_block (w:=w) (h.block p.block b c)
theorem Fr.frozen(h:Fr S w w'){p:Addr}(b:p.block<w.heap.size)(c:¬S p.block):w'.frozen? p=w.frozen? p:=World.frozen?_of_block (w:=w) (h.block p.block b c)
theorem Fr.cell_some(h:Fr S w w'){p:Addr}{v:Value}(b:w.cell? p=some v)(c:¬S p.block):w'.cell? p=some v:=(h.cell (World.block_lt_of_cell? w p b) c).trans b
end
def ac(w:World)(g:Nat)(t:TypeId)(cs:Array Value):Prop:=w.heap[g]?=some (.cells cs t (0,0))
section
variable {w w':World}{g:Nat}{t:TypeId}{cs:Array Value}
theorem ac.lt(h:ac w g t cs):g<w.heap.size:=lt_of_block h
theorem ac.cell(h:ac w g t cs)(i:Nat):w.cell? ⟨g,i,none⟩=cs[i]? :=cell_of_row w g i cs t (0,0) h
theorem ac.frozen(h:ac w g t cs)(i:Nat):w.frozen? ⟨g,i,none⟩=false:=frozen_of_row w g i cs t h
theorem ac.new(w:World)(t:TypeId)(cs:Array Value):ac (w.alloc (.cells cs t)) w.heap.size t cs:=heap_alloc_new w _
theorem ac.set(h:ac w g t cs)(i:Nat)(u:Value):ac (w.setCell ⟨g,i,none⟩ u) g t (cs.setIfInBounds i u):=heap_setCell_same w g i cs t u h
theorem ac.fr{S:Nat->Prop}(h:ac w g t cs)(b:Fr S w w')(c:¬S g):ac w' g t cs:=(b.block g h.lt c).trans h
theorem ac.far(h:ac w g t cs){p:Addr}(b:g≠p.block)(u:Value):ac (w.setCell p u) g t cs:=(Below.heap_setCell w p u g b).trans h
theorem ac.alloc(h:ac w g t cs)(o:Obj):ac (w.alloc o) g t cs:=(Below.heap_alloc w o g h.lt).trans h
theorem ac.ne_{g':Nat}{d:TypeId}{cs':Array Value}(h:ac w g t cs)(b:ac w g' d cs')(c:t≠d):g≠g':=by
 rintro rfl;unfold ac at h b;rw[h]at b;injection b with b;injection b with _ ht;exact c ht
end
section
variable {w w':World}{base:Nat}{e:TypeId}{size n:Nat}{v:Value}{xs:List Value}
theorem bm{g:Nat}{t:TypeId}{cs:Array Value}(h:w.ownsRow base e size v n xs)(d:ac w g t cs)(b:e≠t):v.ownBlock≠some g:=by
 rcases h.2 with⟨rfl,_⟩|⟨g',cap,cur,rfl,_,f,_⟩
 ·simp[Value.ownBlock]
 ·intro c;have:g'=g:=by simpa [Value.ownBlock] using c
  subst this;exact ac.ne_ (t:=e) f d b rfl
theorem bg{S:Nat->Prop}(h:w.ownsRow base e size v n xs)(d:Fr S w w')(i:∀k,v.ownBlock=some k->¬S k):w'.ownsRow base e size v n xs:=by
 refine⟨h.1,?_⟩;rcases h.2 with h0|⟨g,cap,cur,rfl,c,b,f⟩
 ·exact .inl h0
 ·exact .inr ⟨g,cap,cur,rfl,c,(d.block g (lt_of_block b) (i g rfl)).trans b,f⟩
theorem im{b:Nat}(h:w.ownsRow base e size v n xs)(c:∀k,v.ownBlock=some k->b<=k):w.ownsRow b e size v n xs:=by
 refine⟨h.1,?_⟩;rcases h.2 with h0|⟨g,cap,cur,rfl,_,d,f⟩
 ·exact .inl h0
 ·exact .inr ⟨g,cap,cur,rfl,c g rfl,d,f⟩
theorem am(h:w.ownsRow base e size v n xs):∀k,v.ownBlock=some k->base<=k/\k<w.heap.size:=h.lt
theorem dv(h:w.ownsRow base e size v n xs)(b:0<n):∃g cap,v=.slice (some ⟨g,0,none⟩) n cap/\n<=cap/\cap<=maxLen:=by
 rcases h.2 with⟨_,h0⟩|⟨g,cap,cur,rfl,_,_,h1,h2,_⟩
 ·omega
 ·exact⟨g,cap,rfl,h1,h2⟩
theorem eT(h:w.ownsRow base e size v n xs):∃A cap,v=.slice A n cap/\n<=cap/\cap<=maxLen/\(A=none->n=0/\cap=0)/\∀a,A=some a->a=⟨a.block,0,none⟩:=by
 rcases h.2 with⟨rfl,rfl⟩|⟨g,cap,cur,rfl,_,_,h1,h2,_⟩
 ·exact⟨none,0,rfl,Nat.le_refl _,Nat.zero_le _,λ_=>⟨rfl,rfl⟩,λa b=>by cases b⟩
 ·exact⟨_,cap,rfl,h1,h2,(by intro h;cases h),(by intro a b;injection b with b;subst b;rfl)⟩
end
theorem eO(a:Addr)(n:Nat):(a.add n).block=a.block:=by unfold Addr.add;split<;>rfl
theorem uk(a:Addr)(i j:Nat):(a.add i).add j=a.add (i+j):=by
 unfold Addr.add
 by_cases hi:i=0<;>by_cases b:j=0<;>simp[hi,b,Nat.add_assoc]
theorem gM(g j:Nat):(⟨g,0,none⟩:Addr).add j=⟨g,j,none⟩:=by
 unfold Addr.add
 by_cases b:j=0<;>simp[b]
def Rd(p:Nat->Prop)(w:World)(size:Nat)(A:Option Addr)(n:Nat)(xs:List Value):Prop:=
 xs.length=n*size/\(0<n->∃b,A=some b/\p b.block/\b.block<w.heap.size/\∀j u,xs[j]?=some u->w.cell? (b.add j)=some u)
section
variable {p q S:Nat->Prop}{w w':World}{size n:Nat}{A:Option Addr}{xs:List Value}
theorem Rd.nil:Rd p w size A 0 []:=⟨by simp,λh=>absurd h (by omega)⟩
theorem Rd.out(h:Rd p w size A n xs)(d:0<n)(m:0<size):∃g o,A=some ⟨g,o,none⟩/\p g/\g<w.heap.size/\∀j u,xs[j]?=some u->w.cell? ⟨g,o+j,none⟩=some u:=by
 obtain⟨⟨g,o,f⟩,e,l,i,c⟩:=h.2 d;have hl:0<xs.length:=by rw[h.1];exact Nat.mul_pos d m
 have h0:=c 0 _ (List.getElem?_eq_getElem hl)
 have b:f=none:=by
  cases f with
  |none=>rfl
  |some x=>
   simp only[Addr.add,if_true,World.cell?]at h0;split at h0<;>simp at h0
 subst b;refine⟨g,o,e,l,i,λj u hu=>?_⟩;have:=c j u hu;unfold Addr.add at this;split at this
 ·next k=>subst k;exact this
 ·exact this
theorem Rd.fr(h:Rd p w size A n xs)(d:Fr S w w')(m:∀k,p k->¬S k):Rd p w' size A n xs:=
 ⟨h.1,λl=>by
  obtain⟨b,e,f,c,i⟩:=h.2 l
  exact⟨b,e,f,Nat.lt_of_lt_of_le c d.size,λj u hu=>by
   have:=i j u hu
   rwa[<-d.cell (p:=b.add j) (by rw[eO];exact c) (by rw[eO];exact m _ f)]at this⟩⟩
theorem Rd.imp(h:Rd p w size A n xs)(f:∀k,p k->q k):Rd q w size A n xs:=
 ⟨h.1,λc=>by obtain⟨b,e,d,r⟩:=h.2 c;exact⟨b,e,f _ d,r⟩⟩
theorem Rd.own{base:Nat}{e:TypeId}{v:Value}(h:w.ownsRow base e size v n xs){c:Nat}(i:v=.slice A n c):Rd (λk=>v.ownBlock=some k) w size A n xs:=by
 refine⟨h.1,λf=>?_⟩;obtain⟨g,cap,b,_⟩:=dv h f;subst b;injection i with d;subst d;exact⟨_,rfl,rfl,(am h g rfl).2,h.cells (g:=g) rfl⟩
theorem Rd.drop(h:Rd p w size A n xs){k cap:Nat}(l:k<=n)(i:n<=cap):Rd p w size (if cap=k then A else A.map (·.add (k*size))) (n-k) (xs.drop (k*size)):=by
 refine⟨by rw[List.length_drop,h.1,Nat.sub_mul],λm=>?_⟩;obtain⟨c,rfl,f,d,b⟩:=h.2 (by omega);rw[if_neg (by omega)];refine⟨c.add (k*size),rfl,by rw[eO];exact f,by rw[eO];exact d,λj u hu=>?_⟩;rw[uk];exact b _ u (by rw[<-hu,List.getElem?_drop])
end
structure aY(P:Program)(t e:TypeId)(size bytes:Nat):Prop where
 ht:P.underlying t=some (.slice e)
 info:∃i z,P.info? e=some i/\i.zero=some z/\i.size=size/\i.bytes=bytes/\z.cells.size=size
 pos:0<size
theorem aY.mk' {P:Program}{t e:TypeId}{z:Value}{size bytes:Nat}(ht:P.underlying t=some (.slice e))(h:(P.info? e).map (λi=>(i.zero,i.size,i.bytes))=some (some z,size,bytes))
    (hz:z.cells.size=size) (d:0<size):aY P t e size bytes:=by
 obtain⟨i,h1,h2,b,c⟩:=info_parts h;exact⟨ht,⟨i,z,h1,h2,b,c,hz⟩,d⟩
theorem lW{P:Program}(w:World)(base:Nat)(t ty e:TypeId)(i:TypeInfo)(size:Nat)(ht:P.underlying t=some (.slice e))(hi:P.info? e=some i)
    (v:Value) (n:Nat) (xs:List Value) (b:w.ownsRow base e size v n xs) (c:Nat):(Builtin.append_ #[t,t] ty #[v,.slice none 0 c]).run P w=.ok v w:=by
 rcases b.2 with⟨rfl,rfl⟩|⟨g,cap,cur,rfl,_,_,d,_⟩
 ·simp[Builtin.append_,run_underlying ht,sizeOf,typeInfo,hi,Builtin.lenOf,Builtin.firstCells]
 ·simp[Builtin.append_,run_underlying ht,sizeOf,typeInfo,hi,Builtin.lenOf,Builtin.firstCells,d,storeCells]
theorem yP{P:Program}{t e:TypeId}{size bytes:Nat}(E:aY P t e size bytes)(w:World)(base:Nat)(ty:TypeId)
    (v:Value) (n:Nat) (xs:List Value) (d:w.ownsRow base e size v n xs)
    {p:Nat->Prop} (X:Option Addr) (m c:Nat) (b:List Value) (L:Rd p w size X m b) (h1:∀u∈b,u.oneCell'=true)
    (O:n+m<=maxLen) (l:(n+m)*bytes<=140737488355328) (y:base<=w.heap.size):
    ∃I J w',(Builtin.append_ #[t,t] ty #[v,.slice X m c]).run P w=.ok (.slice I (n+m) J) w'/\w'.ownsRow base e size (.slice I (n+m) J) (n+m) (xs++b)/\
     Fr (λk=>v.ownBlock=some k) w w'/\(∀k,(Value.slice I (n+m) J).ownBlock=some k->v.ownBlock=some k\/w.heap.size<=k):=by
 obtain⟨i,z,hi,hz,D,R,V⟩:=E.info
 have key:∃G w',(Builtin.append_ #[t,t] ty #[v,.slice X m c]).run P w=.ok G w'/\w'.ownsRow base e size G (n+m) (xs++b)/\w.grownBy w' v.ownBlock/\
     (G.ownBlock=v.ownBlock\/G.ownBlock=some w.heap.size):=by
  rcases X with _|M
  ·have hm:m=0:=by
    rcases Nat.eq_zero_or_pos m with h0|h0
    ·exact h0
    ·obtain⟨M,h,_⟩:=L.2 h0
     cases h
   subst hm;have U:b=[]:=List.eq_nil_of_length_eq_zero (by simpa using L.1);subst U;exact⟨v,w,lW w base t ty e i size E.ht hi v n xs d c,by simpa using d,World.grownBy.refl w _,.inl rfl⟩
  ·have r:∀j u,b[j]?=some u->w.cell? (M.add j)=some u:=by
    intro j u hu;rcases Nat.eq_zero_or_pos m with h0|h0
    ·subst h0;have U:b=[]:=List.eq_nil_of_length_eq_zero (by simpa using L.1);subst U;simp at hu
    ·obtain⟨Y,h,_,_,Z⟩:=L.2 h0;injection h with h;subst h;exact Z j u hu
   obtain⟨G,w',f,h2,N,_,s⟩:=run_append_own_at (P:=P) w base t ty e i z size bytes E.ht hi hz D R V E.pos v n xs d M m c b L.1 r h1 O l y;exact⟨G,w',f,h2,N,s⟩
 obtain⟨G,w',f,h2,N,s⟩:=key;obtain⟨I,J,rfl,_⟩:=eT h2;refine⟨I,J,w',f,h2,(Fr.refl _ _).grown N (λk _ H=>H),λk H=>?_⟩;rcases s with s|s
 ·exact .inl (by rw[<-s];exact H)
 ·rw[s]at H;injection H with H;exact .inr (by omega)
theorem ud{P:Program}{t e:TypeId}{size bytes:Nat}(E:aY P t e size bytes)(w:World){o:Oper}{a:Act}{K:Act->World->Prop}{Q:Exit->Act->World->Prop}(s x:Operand)
    (G:o.op=.call {callee:=.builtin .append,args:= #[s,x],argTypes:= #[t,t]})
    (base:Nat) (v:Value) (n:Nat) (xs:List Value) (I:a.eval s=v) (l:w.ownsRow base e size v n xs)
    {p:Nat->Prop} (X:Option Addr) (m c:Nat) (b:List Value) (J:a.eval x=.slice X m c) (H:Rd p w size X m b) (h1:∀u∈b,u.oneCell'=true)
    (y:n+m<=maxLen) (d:(n+m)*bytes<=140737488355328) (f:base<=w.heap.size)
    (h:∀i j w',w'.ownsRow base e size (.slice i (n+m) j) (n+m) (xs++b)->Fr (λk=>v.ownBlock=some k) w w'->
     (∀k,(Value.slice i (n+m) j).ownBlock=some k->v.ownBlock=some k\/w.heap.size<=k)->K (a.put o.dst (.slice i (n+m) j)) w'):o.wp P a w K Q:=by
 obtain⟨i,j,w',r,h2,z,D⟩:=yP E w base o.type v n xs l X m c b H h1 y d f;unfold Oper.wp execOp;simp only[G,resolve,invoke,builtin,Sem.run_bind,Sem.run_pure,Result.andThen_ok,List.map_toArray,List.map_cons,List.map_nil,I,J,r];exact h i j w' h2 z D
theorem av{P:Program}{t e:TypeId}{size bytes:Nat}(E:aY P t e size bytes)(w:World){ops:Array Oper}{rest:List Oper}{o:Oper}{a:Act}{Q:Exit->Act->World->Prop}(y:o.guard=none)(s x:Operand)
    (H:o.op=.call {callee:=.builtin .append,args:= #[s,x],argTypes:= #[t,t]})
    (base:Nat) (v:Value) (n:Nat) (xs:List Value) (J:a.eval s=v) (l:w.ownsRow base e size v n xs)
    {p:Nat->Prop} (X:Option Addr) (m c:Nat) (b:List Value) (L:a.eval x=.slice X m c) (I:Rd p w size X m b) (h1:∀u∈b,u.oneCell'=true)
    (r:n+m<=maxLen) (d:(n+m)*bytes<=140737488355328) (f:base<=w.heap.size)
    (h:∀i j w',w'.ownsRow base e size (.slice i (n+m) j) (n+m) (xs++b)->Fr (λk=>v.ownBlock=some k) w w'->
     (∀k,(Value.slice i (n+m) j).ownBlock=some k->v.ownBlock=some k\/w.heap.size<=k)->wpList P ops Q rest (a.put o.dst (.slice i (n+m) j)) w'):wpList P ops Q (o::rest) a w:=
 wpList_plain y λ_ G=>ud E w s x H base v n xs J l X m c b L I h1 r d f λi j w' h2 z D=>G _ _ (h i j w' h2 z D)
theorem ce{P:Program}{t e:TypeId}{size bytes:Nat}(E:aY P t e size bytes)(w:World){ops:Array Oper}{o:Oper}{a:Act}{K:Act->World->Prop}{Q:Exit->Act->World->Prop}{F:Prop}(y:o.guard=none)(s x:Operand)
    (z:o.op=.call {callee:=.builtin .append,args:= #[s,x],argTypes:= #[t,t]})
    (base:Nat) (v:Value) (n:Nat) (xs:List Value) (G:a.eval s=v) (i:w.ownsRow base e size v n xs)
    {p:Nat->Prop} (X:Option Addr) (m c:Nat) (b:List Value) (I:a.eval x=.slice X m c) (D:Rd p w size X m b) (h1:∀u∈b,u.oneCell'=true)
    (r:n+m<=maxLen) (d:(n+m)*bytes<=140737488355328) (f:base<=w.heap.size)
    (h:∀j l w',w'.ownsRow base e size (.slice j (n+m) l) (n+m) (xs++b)->Fr (λk=>v.ownBlock=some k) w w'->
     (∀k,(Value.slice j (n+m) l).ownBlock=some k->v.ownBlock=some k\/w.heap.size<=k)->K (a.put o.dst (.slice j (n+m) l)) w'):
    if Region.wanted o (yielded ops a.tmps)=true then Oper.wp P o a w K Q else F:=by
 have H:Region.wanted o (yielded ops a.tmps)=true:=by simp[Region.wanted,y]
 rw[if_pos H];exact ud E w s x z base v n xs G i X m c b I D h1 r d f h
theorem Rd.new{p:Nat->Prop}(w:World)(cs:Array Value)(t:TypeId)(size m:Nat)(hm:cs.size=m*size)(b:p w.heap.size):Rd p (w.alloc (.cells cs t)) size (some ⟨w.heap.size,0,none⟩) m cs.toList:=
 ⟨by simpa using hm,λ_=>⟨_,rfl,b,by simp,λj u hu=>by rw[gM];rw[(ac.new w t cs).cell j];simpa using hu⟩⟩
theorem Rd.ofBlk{p:Nat->Prop}{w:World}{g:Nat}{cs:Array Value}{t:TypeId}(h:ac w g t cs)(size m:Nat)(hm:cs.size=m*size)(b:p g):Rd p w size (some ⟨g,0,none⟩) m cs.toList:=
 ⟨by simpa using hm,λ_=>⟨_,rfl,b,h.lt,λj u hu=>by rw[gM];rw[h.cell j];simpa using hu⟩⟩
abbrev aa(w w':World):Prop:=Below w.heap.size w w'
section
variable {w w' w'':World}
theorem aa.refl(w:World):aa w w:=Below.refl _ _
theorem aa.tr(h:aa w w')(k:aa w' w''):aa w w'':=Below.trans h (Below.mono k h.size)
theorem aa.al(h:aa w w')(o:Obj):aa w (w'.alloc o):=Below.alloc h h.size o
theorem aa.dr(h:aa w w'):aa w w'.drew:=h.drew
theorem aa.dn(h:aa w w')(n:Nat):aa w (w'.drewN n):=⟨h.os,h.tape,h.output,h.size,h.block⟩
theorem aa.fr{S:Nat->Prop}(h:aa w w')(b:Fr S w' w'')(hS:∀k,S k->w.heap.size<=k):aa w w'':=
 ⟨b.os.trans h.os,b.tape.trans h.tape,b.output.trans h.output,Nat.le_trans h.size b.size,λi hi=>
  (b.block i (Nat.lt_of_lt_of_le hi h.size) (λc=>by have:=hS i c;omega)).trans (h.block i hi)⟩
theorem aa.toFr(S:Nat->Prop)(h:aa w w'):Fr S w w':=⟨h.os,h.tape,h.output,h.size,λk b _=>h.block k b⟩
theorem aa.cell_(h:aa w w'){p:Addr}{v:Value}(b:w.cell? p=some v):w'.cell? p=some v:=
 (World.cell?_of_block (w:=w) (h.block p.block (World.block_lt_of_cell? w p b))).trans b
theorem aa.blk(h:aa w w'){g:Nat}{t:TypeId}{cs:Array Value}(b:ac w g t cs):ac w' g t cs:=(h.block g b.lt).trans b
theorem aa.own(h:aa w w'){base e size n:Nat}{v:Value}{xs:List Value}(b:w.ownsRow base e size v n xs):w'.ownsRow base e size v n xs:=
 bg b (h.toFr ic) (λ_ _ x=>x)
theorem aa.rd(h:aa w w'){p:Nat->Prop}{size n:Nat}{A:Option Addr}{xs:List Value}(b:Rd p w size A n xs):Rd p w' size A n xs:=
 b.fr (h.toFr ic) (λ_ _ x=>x)
end
theorem ac.drew{w:World}{g:Nat}{t:TypeId}{cs:Array Value}(h:ac w g t cs):ac w.drew g t cs:=h
theorem ac.drewN{w:World}{g:Nat}{t:TypeId}{cs:Array Value}(h:ac w g t cs)(n:Nat):ac (w.drewN n) g t cs:=h
theorem ac.new' {g:Nat}(w:World)(t:TypeId)(cs:Array Value)(h:g=w.heap.size):ac (w.alloc (.cells cs t)) g t cs:=h▸ac.new w t cs
theorem bQ{w:World}{g:Nat}{t:TypeId}{a b:Value}(h:ac w g t #[a,b])(X Y:Value):ac ((w.setCell ⟨g,0,none⟩ X).setCell ⟨g,1,none⟩ Y) g t #[X,Y]:=by
 have:=(h.set 0 X).set 1 Y
 simpa using this
theorem dQ{P:Nat}{w:World}{g:Nat}{t:TypeId}{size:Nat}(h:ac w g t #[])(b:P<=g):w.ownsRow P t size (.slice (some ⟨g,0,none⟩) 0 0) 0 []:=
 ⟨by simp,.inr ⟨g,0, #[],rfl,b,h,Nat.le_refl _,Nat.zero_le _,by simp,by simp⟩⟩
end Go.Proofs.YtfchcdbfalgdlaaGreatDoor
namespace Go.Proofs.YtfchcdbfalgdlaaGreatDoor
open _root_.Go.Proofs.Tryz
open Go.RowKit Go.Sort
def iM(o:Oper):Bool:=match o.op with| .defer _=>false|_=>true
theorem tw{o:Oper}(h:iM o=true):∀c,o.op≠.defer c:=by
 intro c e;unfold iM at h;rw[e]at h
 cases h
section
variable {F:Fence}{n:Nat}{P:Program}{ops:Array Oper}{md:Region.Mode}{Q:Exit->Act->World->Prop}
theorem qP(r:Nat)(b:F.round=none){o:Oper}{a:Act}{w:World}{K:Act->World->Prop}(hd:iM o=true)(h:o.wpIn F n P a w K Q):o.wpIn (F.inRound r) n P a w K Q:=by
 unfold Oper.wpIn at*;refine⟨h.1,?_⟩;have h2:=h.2;rw[b,Oper.semAt_none]at h2;rw[Oper.semAt_eq _ _ _ (tw hd)];exact h2
theorem gD(r:Nat)(c:F.round=none)(hd:∀(i:Nat) (o:Oper),ops[i]?=some o->iM o=true):∀(b:Nat) (listed:Array Bool) (a:Act) (w:World),wpAnyIn F n P md ops Q b listed a w->wpAnyIn (F.inRound r) n P md ops Q b listed a w
 | 0,_,_,_,h=>h
 |b+1,listed,a,w,h=>by
  refine⟨h.1,λi hi=>?_⟩;have h1:=wpOpIn_mono (λa w=>gD r c hd b _ a w) (h.2 i hi);unfold wpOpIn at h1⊢
  cases ho:ops[i]? with
  |none=>simpa[ho]using h1
  |some o=>
   simp only[ho]at h1⊢
   by_cases d:Region.wanted o (yielded ops a.tmps)=true
   ·rw[if_pos d]at h1⊢;exact qP r c (hd i o ho) h1
   ·rw[if_neg d]at h1⊢;exact h1
theorem de{id:Nat}{a:Act}{w:World}{l:List Oper}(r:Nat)(c:F.round=none)(hm:P.follows .mixedOrders=true)(k:Region.lexB .any l.toArray=true)(hd:l.all iM=true)
    (h:wpQuietIn F n P l.toArray (λw'=>∃p:Regrown,w'=grow (redrawn w p.d) p.os) (λd=>∀w',(∃p:Regrown,w'=grow (redrawn w p.d) p.os)->Q .normal d w') l a):(Code.region id l.toArray true).wpIn (F.inRound r) n P Q a w:=by
 have b:=k;simp only[Region.lexB,Bool.and_eq_true]at b;refine wpIn_region_any hm (gD r c ?_ _ _ _ _ (wpAnyIn_of_quiet (C:=λw'=>∃p:Regrown,w'=grow (redrawn w p.d) p.os) (Q:=λd=>∀w',(∃p:Regrown,w'=grow (redrawn w p.d) p.os)->Q .normal d w') c (λ_ w' j h=>h w' j) _ _ _ _ ⟨⟨w.drawn+1, #[]⟩,by rw[grow_empty];rfl⟩ ?_))
 ·intro i o m;have f:l[i]? =some o:=by simpa using m
  exact List.all_eq_true.1 hd o (List.mem_of_getElem? f)
 ·have:=wpAnyQIn_lex (F:=F) (n:=n) (C:=λw'=>∃p:Regrown,w'=grow (redrawn w p.d) p.os) (md:=.any) b.1 l 0 (Array.replicate l.toArray.size false) a (by simp) (by simpa using b.2) h
  simpa using this
end
theorem cn{P:Program}{f:FuncId}{args:Array Value}{w:World}{v:Value}(h:∀W,aa w W->Calls P f args W λe w'=>e=.returned v/\aa W w'):
    ∀d os,Calls P f args (grow (redrawn w d) os) λe w''=>e=.returned v/\∃p:Regrown,w''=grow (redrawn w p.d) p.os:=
 λd os=>Calls.regrown_of (h _ (below_regrown w d os))
theorem oq{P:Program}{f:FuncId}{args:Array Value}{w:World}{v:Value}{n:Nat}(h:∀W,aa w W->Calls P f args W λe w'=>e=.returned v/\aa W w'):
    ∀d os,CallsIn Fence.wide n P f args (grow (redrawn w d) os) λe w''=>e=.returned v/\∃p:Regrown,w''=grow (redrawn w p.d) p.os:=
 λd os=>callsIn_wide.2 (cn h d os)
section
variable {P:Program}{ops:Array Oper}{md:Region.Mode}{C:World->Prop}
def mT(P:Program)(md:Region.Mode)(ops:Array Oper)(C:World->Prop)(n:Nat)(L:Array Bool->Act->Prop):Nat->Array Bool->Act->Prop
 | 0,listed,a=>L listed a
 |f+1,listed,a=>Region.ready md ops listed≠ []/\∀i∈Region.ready md ops listed,i<n/\qOp P ops C i (mT P md ops C n L f (listed.setIfInBounds i true)) a
theorem kS{n g:Nat}{L:Array Bool->Act->Prop}{Q':Exit->Act->World->Prop}(d:∀listed a w,C w->L listed a->wpAny P md ops Q' g listed a w):
    ∀(f:Nat) (listed:Array Bool) (a:Act) (w:World),C w->mT P md ops C n L f listed a->wpAny P md ops Q' (f+g) listed a w
 | 0,listed,a,w,b,h=>by rw[Nat.zero_add];exact d _ _ _ b h
 |f+1,listed,a,w,b,h=>by
  rw[show f+1+g=(f+g)+1 by omega];exact⟨λh0=>absurd h0 h.1,λi hi=>wpOp_of_qOp b (λj w' c k=>kS d f _ j w' c k) (h.2 i hi).2⟩
theorem qO{n i:Nat}{oi:Oper}{v:Value}{L:Array Bool->Act->Prop}(hi:ops[i]?=some oi)(y:∀(j:Nat) (o:Oper) cs b,ops[j]?=some o->o.op≠.select cs b)
    (Z:Region.sinkB md ops n=true) (X:Region.chainB md ops n=true) (Y:n<ops.size) (J:i<n)
    (z:∀listed a,L listed a->∀j∈Region.ready md ops listed,n<=j):
    ∀(f:Nat) (listed:Array Bool) (a:Act),HeadInv md ops n listed->
     (∀j G,ops[j]?=some G->j≠i->listed.getD j true=false->(∀e∈G.after,Region.binds md e=true->e.on≠i)->oi.apart ops G=true)->
     i∈Region.ready md ops listed->YieldsIn P ops C oi v a->
     mT P md ops C n L f (listed.setIfInBounds i true) (a.put oi.dst v)->mT P md ops C n L (f+1) listed a:=by
 intro f
 induction f with
 |zero=>
  intro listed a inv _ u O H;have d:=(mem_ready.1 u).1;refine⟨λh=>(by rw[h]at u;cases u),λj D=>?_⟩
  have r:j<n:=by
   rcases Nat.lt_or_ge j n with h|h
   ·exact h
   ·exact absurd D (tail_waits Z X Y inv _ i rfl J d j h)
  refine⟨r,?_⟩
  by_cases c:j=i
  ·subst c;exact O.qOp hi H
  ·have:=z _ _ H j (ready_mono D c);omega
 |succ f ih=>
  intro listed a inv l u O H;have d:=(mem_ready.1 u).1;refine⟨λh=>(by rw[h]at u;cases u),λj D=>?_⟩
  have r:j<n:=by
   rcases Nat.lt_or_ge j n with h|h
   ·exact h
   ·exact absurd D (tail_waits Z X Y inv _ i rfl J d j h)
  refine⟨r,?_⟩
  by_cases c:j=i
  ·subst c;exact O.qOp hi H
  ·have h1:=(H.2 j (ready_mono D c)).2;obtain⟨s,G,E,I⟩:=mem_ready.1 D
   have N:∀e∈G.after,Region.binds md e=true->e.on≠i:=λe he hb heq=>by
    have h1:=I e he hb;rw[heq,getD_both d]at h1
    cases h1
   have h2:=qOp_put E (l j G E c s N) (λcs b=>y i oi cs b hi) (λcs b=>y j G cs b E) O h1
   have m:∀k ok,ops[k]?=some ok->k≠i->(listed.setIfInBounds j true).getD k true=false->
       (∀e∈ok.after,Region.binds md e=true->e.on≠i)->oi.apart ops ok=true:=λk ok hk R d U=>by
    refine l k ok hk R ?_ U
    by_cases M:j=k
    ·subst M;exact s
    ·rw[getD_set_ne true M]at d;exact d
   refine qOp_mono (λa' V=>ih (listed.setIfInBounds j true) a' (inv.set D r) m (ready_mono u (Ne.symm c)) V.1 ?_) h2;rw[Array.setIfInBounds_comm _ _ c];exact V.2
theorem oh{n g:Nat}{r:Act->Prop}(c:Region.noSelect ops=true)(E:Region.sinkB md ops n=true)(z:Region.chainB md ops n=true)(D:n<ops.size):
    ∀(l:List Oper) (k:Nat) (listed:Array Bool) (a:Act),(∀j,j<l.length->l[j]?=ops[k+j]?)->k+l.length=n->HeadInv md ops n listed->
    Region.lexHead md ops g l.length k listed=true->wpQuiet P ops C r l a->
    mT P md ops C n (λb y=>Region.seqB md ops g n b=true/\r y) l.length listed a
 | [],k,listed,a,_,m,_,i,h=>by
  have:k=n:=by simpa using m
  subst this;exact⟨by simpa[Region.lexHead]using i,h⟩
 |o::l,k,listed,a,hl,m,inv,i,h=>by
  have h0:ops[k]?=some o:=by simpa using(hl 0 (by simp)).symm
  simp only[List.length_cons,Region.lexHead,Bool.and_eq_true]at i;obtain⟨⟨J,I⟩,s⟩:=i;have d:k<n:=by simp only[List.length_cons]at m;omega
  have f:k∈Region.ready md ops listed:=by simpa using J
  have u:qOp P ops C k (wpQuiet P ops C r l) a:=by unfold qOp;simp only[h0];exact h
  obtain⟨v,L,G⟩:=yieldsIn_of_qOp h0 u
  exact qO h0 (Region.noSelect_spec c) E z D d (λb y H=>seqB_ready H.1) l.length listed a inv (Region.free_spec h0 I) f L
   (oh c E z D l (k+1) _ _ (λj M=>by have:=hl (j+1) (by simp;omega);simpa[Nat.add_assoc,Nat.add_comm 1 j]using this) (by simp only[List.length_cons]at m;omega) (inv.set f d) s G)
theorem dY{id:Nat}{Q:Exit->Act->World->Prop}{a:Act}{w:World}{l:List Oper}(n:Nat)(hm:P.follows .mixedOrders=true)(s:Region.lexTailB .any l.toArray n=true)
    (h:wpQuiet P l.toArray (λw'=>∃p:Regrown,w'=grow (redrawn w p.d) p.os) (λk=>∀w',aa w w'->wpList P l.toArray Q (l.drop n) k w') (l.take n) a):(Code.region id l.toArray true).wp P Q a w:=by
 simp only[Region.lexTailB,Bool.and_eq_true,decide_eq_true_eq]at s;obtain⟨⟨⟨⟨f,z⟩,I⟩,E⟩,d⟩:=s;have G:n<l.length:=by simpa using z
 have b:(l.take n).length=n:=by rw[List.length_take];omega
 have c:(l.drop n).length=l.toArray.size-n:=by simp
 have i:HeadInv .any l.toArray n (Array.replicate l.toArray.size false):=
  ⟨by simp,λj J _ hl=>(by rw[getD_replicate_false]at hl;cases hl),λt _ ht=>getD_in (by simpa using ht) (getD_replicate_false _ _)⟩
 have H:=oh (md:=.any) (g:=l.toArray.size-n) f I E z (l.take n) 0 _ a (λj y=>by
  have m:j<n:=by rw[b]at y;exact y
  simp[m]) (by simpa using b) i (by rw[b];exact d) h
 refine wp_region_any hm ?_
 have:=kS (Q':=Q) (g:=l.toArray.size-n) (C:=λw'=>∃p:Regrown,w'=grow (redrawn w p.d) p.os) (λlisted k w' r u=>by
  have D:aa w w':=by
   obtain⟨p,rfl⟩:=r;exact below_regrown w p.d p.os
  have:=wpAny_of_seq (md:=.any) (Q':=Q) (l.drop n) n listed k w' (λj=>by simp[List.getElem?_drop]) (by rw[c];exact u.1) (u.2 w' D)
  rwa[c]at this) _ _ _ _ ⟨⟨w.drawn+1, #[]⟩,by rw[grow_empty]<;>rfl⟩ H
 rw[b,show n+(l.toArray.size-n)=l.toArray.size by omega]at this;exact this
end
end Go.Proofs.YtfchcdbfalgdlaaGreatDoor
namespace Go.Proofs.YtfchcdbfalgdlaaGreatDoor
open _root_.Go.Proofs.Tryz
open Go.RowKit
def eH(x:Int)(k:Nat):Int:=bits .or .u32 (x/2^k) (x*2^(32-k)%4294967296)
theorem Gh(k:Nat)(b:1<=k/\k<=31):bits .and .u64 (18446744073709551616-(k:Int)) 31=32-(k:Int):=by
 have h:∀k:Fin 32,1<=k.val->bits .and .u64 (18446744073709551616-(k.val:Int)) 31=32-(k.val:Int):=by decide
 exact h ⟨k,by omega⟩ b.1
theorem Cp (x:Int) (k:Nat) (w:World) (d:0<=x/\x<4294967296) (c:1<=k/\k<=31):Calls prog 188 #[.int .u32 x,.int .i64 (-(k:Int))] w λe w'=>e= .returned (.int .u32 (bits .or .u32 (x*2^(32-k)%4294967296) (x/2^k)))/\w=w':=by
 have h1:IntKind.u64.wrap (-(k:Int))=18446744073709551616-(k:Int):=by
  unfold IntKind.wrap;simp[IntKind.bits,IntKind.signed];omega
 have h2:=Gh k c
 go_enter func188,ntmps188
 go_wp2_with fail;have b:32-(32-k)=k:=by omega
 go_ret;rw[b];exact⟨rfl,rfl⟩
theorem sI(k:IntKind)(a b:Int):bits .or k a b=bits .or k b a:=by
 unfold bits;simp only[BitVec.or_comm]
theorem kQ (x:Int) (k:Nat) (w:World) (c:0<=x/\x<4294967296) (b:1<=k/\k<=31):Calls prog 175 #[.int .u32 x,.int .i64 (k:Int)] w λe w'=>e= .returned (.int .u32 (eH x k))/\w=w':=by
 go_enter func175,ntmps175
 go_wp2_with fail;refine(Cp x k w c b).mono ?_;rintro e w' ⟨rfl,rfl⟩
 go_wp2_with fail;go_ret;rw[sI];exact⟨rfl,rfl⟩
theorem fF (x:Int) (k:Nat) (w:World) (c:0<=x/\x<4294967296) (b:1<=k/\k<=31):Calls prog 173 #[.int .u32 x,.int .i64 (k:Int)] w λe w'=>e= .returned (.int .u32 (eH x k))/\w=w':=by
 go_enter func173,ntmps173
 go_wp2_with fail;go_ret;exact⟨rfl,rfl⟩
end Go.Proofs.YtfchcdbfalgdlaaGreatDoor
namespace Go.Proofs.YtfchcdbfalgdlaaGreatDoor
open _root_.Go.Proofs.Tryz
def aL(n i:Nat):Nat:=n/256^i%256
def bj(size n:Nat):List Int:=(List.range size).map λj=>((aL n (size-1-j):Nat):Int)
theorem aw(size n:Nat):(bj size n).length=size:=by simp[bj]
theorem qZ(n i:Nat):aL n i<256:=Nat.mod_lt _ (by decide)
theorem eQ(size n:Nat):∀x∈bj size n,0<=x/\x<256:=by
 intro x b;obtain⟨j,_,rfl⟩:=List.mem_map.1 b;have:=qZ n (size-1-j);omega
theorem un(size n:Nat):bj (size+1) n=bj size (n/256)++[((n%256:Nat):Int)]:=by
 unfold bj;rw[List.range_succ,List.map_append,List.map_singleton]
 congr 1
 ·refine List.map_congr_left λj b=> ?_
  have b:=List.mem_range.1 b;have e:size+1-1-j=(size-1-j)+1:=by omega
  rw[e];unfold aL;rw[Nat.pow_succ,Nat.mul_comm,<-Nat.div_div_eq_div_mul]
 ·simp[aL]
theorem xX(size n j:Nat)(h:j<(bj size n).length):(bj size n)[j]=((aL n (size-1-j):Nat):Int):=by simp[bj]
theorem oY(size n i:Nat)(hi:i<size):(bj size n).take (size-i)=(bj size n).take (size-(i+1))++[((aL n i:Nat):Int)]:=by
 have hl:size-(i+1)<(bj size n).length:=by rw[aw];omega
 have:=List.take_succ_eq_append_getElem hl;rw[show size-(i+1)+1=size-i by omega]at this;rw[this,xX,show size-1-(size-(i+1))=i by omega]
def aU(xs:List Int):Nat:=xs.foldl (λn x=>n*256+x.toNat) 0
theorem sl(xs:List Int)(x:Int):aU (xs++[x])=aU xs*256+x.toNat:=by simp[aU]
theorem lk{xs:List Int}{k:Nat}(h:k<xs.length):aU (xs.take (k+1))=aU (xs.take k)*256+(xs[k]).toNat:=by
 rw[List.take_succ_eq_append_getElem h,sl]
theorem fm{xs:List Int}(h:∀x∈xs,0<=x/\x<256):aU xs<256^xs.length:=by
 suffices h2:∀k,k<=xs.length->aU (xs.take k)<256^k by
  have:=h2 xs.length (Nat.le_refl _)
  rwa[List.take_length]at this
 intro k
 induction k with
 |zero=>intro _;simp[aU]
 |succ k b=>
  intro c;have:=b (by omega);rw[lk (by omega),Nat.pow_succ];have:=h xs[k] (List.getElem_mem _);omega
theorem iA(size n:Nat)(h:n<256^size):aU (bj size n)=n:=by
 induction size generalizing n with
 |zero=>simp at h;subst h;rfl
 |succ s b=>
  rw[un,sl,b _ (by rw[Nat.pow_succ]at h;omega)];omega
theorem uo(xs:List Int)(h:∀x∈xs,0<=x/\x<256):bj xs.length (aU xs)=xs:=by
 suffices h2:∀k,k<=xs.length->bj k (aU (xs.take k))=xs.take k by
  have:=h2 xs.length (Nat.le_refl _)
  rwa[List.take_length]at this
 intro k
 induction k with
 |zero=>intro _;rfl
 |succ k b=>
  intro c;have d:=h xs[k] (List.getElem_mem _);rw[lk (by omega),un,List.take_succ_eq_append_getElem (by omega)]
  congr 1
  ·rw[show(aU (xs.take k)*256+(xs[k]).toNat)/256=aU (xs.take k) by omega];exact b (by omega)
  ·congr 1
   omega
structure Rs where
 xs:List Int
 e:Nat
def Rs.left(s:Rs):Nat:=if s.e=0 then s.xs.length else 0
def Rs.bad(s:Rs)(code:Nat):Rs:=if s.e=0 then⟨s.xs,code⟩else s
def Rs.raw(s:Rs)(n:Nat):List Int×Rs:=if s.left<n then([],s.bad 2)else(s.xs.take n,⟨s.xs.drop n,s.e⟩)
def Rs.num(s:Rs)(size:Nat):Nat×Rs:=(aU (s.raw size).1,(s.raw size).2)
def Rs.bytes(s:Rs)(b:Nat):List Int×Rs:=
 if s.left<2 then([],s.bad 2)
 else if b<aU (s.xs.take 2)\/s.left-2<aU (s.xs.take 2)then([],s.bad 2)
 else(s.raw 2).2.raw (aU (s.xs.take 2))
def Rs.flag(s:Rs):Bool×Rs:=
 if s.left<1\/1<s.xs.headD 0 then(false,s.bad 2)else(decide ((s.num 1).1=1),(s.num 1).2)
def Rs.fin(s:Rs):Nat:=if s.e≠0 then s.e else if 0<s.xs.length then 2 else 0
end Go.Proofs.YtfchcdbfalgdlaaGreatDoor
namespace Go.Proofs.YtfchcdbfalgdlaaGreatDoor
open _root_.Go.Proofs.Tryz
open Go.RowKit
section
variable {P:Program}{md:Region.Mode}{ops:Array Oper}{Q:Exit->Act->World->Prop}{S:World->Prop}{last:Nat}
def fV(P:Program)(md:Region.Mode)(ops:Array Oper)(Q:Exit->Act->World->Prop)(S:World->Prop)(last:Nat):Nat->Array Bool->Act->World->Prop
 | 0,listed,a,w=>Region.ready md ops listed=[]/\Q .normal a w
 |b+1,listed,a,w=>
  (Region.ready md ops listed=[]->Q .normal a w)/\
  ∀i∈Region.ready md ops listed,wpOp P ops Q i (λc w'=>(i≠last->S w')/\fV P md ops Q S last b (listed.setIfInBounds i true) c w') a w
theorem ma:∀(b:Nat) (listed:Array Bool) (a:Act) (w:World),fV P md ops Q S last b listed a w->wpAny P md ops Q b listed a w
 | 0,_,_,_,h=>h
 |b+1,_,_,_,h=>⟨h.1,λi hi=>wpOp_mono (λc w' d=>ma b _ c w' d.2) (h.2 i hi)⟩
def jO(md:Region.Mode)(ops:Array Oper)(k i:Nat):Bool:=match ops[k]? with|some o=>o.after.any (λe=>Region.binds md e&&e.on==i)|none=>false
theorem uc{i:Nat}{oi:Oper}{v:Value}(hi:ops[i]?=some oi)(z:∀(j:Nat) (o:Oper) cs b,ops[j]?=some o->o.op≠.select cs b)
    (Z:∀c a w,Q (.panic c) (a.put oi.dst v) w->Q (.panic c) a w) (m:jO md ops last i=true):
    ∀(d:Nat) (listed:Array Bool) (a:Act) (w:World),
     (∀j E,ops[j]?=some E->j≠i->listed.getD j true=false->(∀e∈E.after,Region.binds md e=true->e.on≠i)->oi.apart ops E=true)->
     i∈Region.ready md ops listed->YieldsIf P ops S oi v a->S w->
     fV P md ops Q S last d (listed.setIfInBounds i true) (a.put oi.dst v) w->fV P md ops Q S last (d+1) listed a w:=by
 intro d
 induction d with
 |zero=>
  intro listed a w _ D O hS H;refine⟨λh=>(by rw[h]at D;cases D),λj N=>?_⟩
  by_cases f:j=i
  ·subst f;exact O.wpOp hi hS ⟨λ_=>hS,H⟩
  ·have:=ready_mono N f;rw[H.1]at this
   cases this
 |succ d ih=>
  intro listed a w l D O hS H;refine⟨λh=>(by rw[h]at D;cases D),λj N=>?_⟩
  by_cases f:j=i
  ·subst f;exact O.wpOp hi hS ⟨λ_=>hS,H⟩
  ·have h1:=H.2 j (ready_mono N f);obtain⟨u,E,s,G⟩:=mem_ready.1 N
   have y:∀e∈E.after,Region.binds md e=true->e.on≠i:=λe he I heq=>by
    have h1:=G e he I;have h0:=(mem_ready.1 D).1;rw[heq]at h1;rcases Nat.lt_or_ge i listed.size with R|R
    ·simp[R]at h0 h1;rw[h0]at h1;cases h1
    ·simp[Array.getElem?_eq_none R]at h1
   have U:j≠last:=λe=>by
    subst e;simp only[jO,s,Array.any_eq_true]at m;obtain⟨n,hn,I⟩:=m;simp only[Bool.and_eq_true,beq_iff_eq]at I;exact y _ (Array.getElem_mem hn) I.1 I.2
   have h2:=wpOp_putIf s (l j E s f u y) (λcs b=>z i oi cs b hi) (λcs b=>z j E cs b s) Z O h1
   have r:∀k ok,ops[k]?=some ok->k≠i->(listed.setIfInBounds j true).getD k true=false->
       (∀e∈ok.after,Region.binds md e=true->e.on≠i)->oi.apart ops ok=true:=λk ok hk V L X=>by
    refine l k ok hk V ?_ X
    by_cases J:j=k
    ·subst J;exact u
    ·rw[getD_set_ne true J]at L;exact L
   refine wpOp_mono (λY w' M=>⟨M.2.1,ih (listed.setIfInBounds j true) Y w' r (ready_mono D (Ne.symm f)) M.1 (M.2.1 U) ?_⟩) h2;rw[Array.setIfInBounds_comm _ _ f];exact M.2.2
theorem aG{i:Nat}{oi:Oper}{v:Value}{b:Nat}{listed:Array Bool}{a:Act}{w:World}(hi:ops[i]?=some oi)
    (k:Region.noSelect ops=true) (f:Region.free md ops listed i=true) (j:(Region.ready md ops listed).contains i=true) (hl:jO md ops last i=true)
    (d:∀c a w,Q (.panic c) (a.put oi.dst v) w->Q (.panic c) a w) (l:YieldsIf P ops S oi v a) (hS:S w)
    (h:fV P md ops Q S last b (listed.setIfInBounds i true) (a.put oi.dst v) w):fV P md ops Q S last (b+1) listed a w:=
 uc hi (Region.noSelect_spec k) d hl b listed a w (Region.free_spec hi f) (by simpa using j) l hS h
def dl(P:Program)(md:Region.Mode)(ops:Array Oper)(Q:Exit->Act->World->Prop)(S:World->Prop)(last b:Nat)(listed:Array Bool)(a:Act)(w:World)(rs:List Nat):Prop:=
 ∀i∈rs,wpOp P ops Q i (λc w'=>(i≠last->S w')/\fV P md ops Q S last b (listed.setIfInBounds i true) c w') a w
theorem dl.nil{b:Nat}{listed:Array Bool}{a:Act}{w:World}:dl P md ops Q S last b listed a w []:=λi hi=>by cases hi
theorem dl.cons{b:Nat}{listed:Array Bool}{a:Act}{w:World}{i:Nat}{o:Oper}{rs:List Nat}(l:ops[i]?=some o)
    (h:∀c:Act->World->Prop,Hid (∀a w,(i≠last->S w)->fV P md ops Q S last b (listed.setIfInBounds i true) a w->c a w)->if Region.wanted o (yielded ops a.tmps)=true then Oper.wp P o a w c Q else c (a.put o.dst undef) w)
    (m:dl P md ops Q S last b listed a w rs):dl P md ops Q S last b listed a w (i::rs):=λj d=>by
 rcases List.mem_cons.1 d with rfl|d
 ·have:=h (λk w'=>(j≠last->S w')/\fV P md ops Q S last b (listed.setIfInBounds j true) k w') (Ld λk w' h1 h2=>⟨h1,h2⟩);unfold wpOp;rw[l];simp only;split
  ·next f=>rw[if_pos f]at this;exact .inl this
  ·next f=>rw[if_neg f]at this;exact this
 ·exact m j d
theorem aF{rs:List Nat}{b:Nat}{listed:Array Bool}{a:Act}{w:World}(d:Region.ready md ops listed=rs)(c:rs≠ [])(h:dl P md ops Q S last b listed a w rs):fV P md ops Q S last (b+1) listed a w:=
 ⟨λh0=>absurd (d▸h0) c,d▸h⟩
theorem fH{listed:Array Bool}{a:Act}{w:World}(c:Region.ready md ops listed=[])(h:Q .normal a w):∀b,fV P md ops Q S last b listed a w
 | 0=>⟨c,h⟩
 |_+1=>⟨λ_=>h,by rw[c];simp⟩
theorem iT{id:Nat}{a:Act}{w:World}(S:World->Prop)(last:Nat)(hm:P.follows .mixedOrders=true)
    (h:fV P .any ops Q S last ops.size (Array.replicate ops.size false) a w.drew):(Code.region id ops true).wp P Q a w:=
 wp_region_any hm (ma _ _ _ _ h)
end
structure HW(S:World->Prop) where
 w:World
 h:S w
section
variable {P:Program}{md:Region.Mode}{ops:Array Oper}{Q:Exit->Act->World->Prop}{S:World->Prop}{last:Nat}
def uG(md:Region.Mode)(ops:Array Oper)(last:Nat):List (Bool×Nat)->Array Bool->Bool
 | [],listed=>(Region.ready md ops listed).isEmpty
 |(true,i)::b,listed=>(Region.ready md ops listed).contains i&&Region.free md ops listed i&&(jO md ops last i||decide (Region.ready md ops listed=[i]))&&decide (i≠last)&&uG md ops last b (listed.setIfInBounds i true)
 |(false,i)::b,listed=>decide (Region.ready md ops listed=[i])&&(decide (i≠last)||b.isEmpty)&&uG md ops last b (listed.setIfInBounds i true)
def dc(P:Program)(ops:Array Oper)(S:World->Prop)(last:Nat)(Q:Exit->Act->World->Prop):List (Bool×Nat)->Act->World->Prop
 | [],a,w=>Q .normal a w
 |(true,i)::b,a,w=>∃o,ops[i]?=some o/\(if Region.wanted o (yielded ops a.tmps)=true then ∃v,(∀p:HW S,(execOp a.eval o).run P p.w=.ok (.value v) p.w)/\dc P ops S last Q b (a.put o.dst v) w else dc P ops S last Q b (a.put o.dst undef) w)
 |(false,i)::b,a,w=>∃o,ops[i]?=some o/\(if Region.wanted o (yielded ops a.tmps)=true then o.wp P a w (λc w'=>(i≠last->S w')/\dc P ops S last Q b c w') Q else dc P ops S last Q b (a.put o.dst undef) w)
theorem ez(s:Region.noSelect ops=true)(r:∀c a d v w,Q (.panic c) (a.put d v) w->Q (.panic c) a w):∀(b:List (Bool×Nat)) (listed:Array Bool) (a:Act) (w:World),uG md ops last b listed=true->(b≠ []->S w)->dc P ops S last Q b a w->fV P md ops Q S last b.length listed a w
 | [],listed,a,w,m,_,h=>fH (by simpa[uG]using m) h _
 |(true,i)::b,listed,a,w,m,hS,h=>by
  simp only[uG,Bool.and_eq_true]at m;obtain⟨⟨⟨⟨h1,h2⟩,k⟩,-⟩,E⟩:=m;obtain⟨o,u,h⟩:=h;have f:=hS (by simp)
  have key:∀v,YieldsIf P ops S o v a->dc P ops S last Q b (a.put o.dst v) w->fV P md ops Q S last ((true,i)::b).length listed a w:=λv I h=>by
   rw[Bool.or_eq_true,decide_eq_true_eq]at k;rcases k with k|k
   ·exact aG u s h2 h1 k (λc a w=>r c a _ _ w) I f (ez s r b _ _ _ E (λ_=>f) h)
   ·refine aF (rs:=[i]) k (by simp) ?_;intro j H;rw[List.mem_singleton]at H;subst H;exact I.wpOp u f ⟨λ_=>f,ez s r b _ _ _ E (λ_=>f) h⟩
  by_cases l:Region.wanted o (yielded ops a.tmps)=true
  ·rw[if_pos l]at h;obtain⟨v,L,h⟩:=h;exact key v (.inl ⟨l,λw l=>L ⟨w,l⟩⟩) h
  ·rw[if_neg l]at h;exact key undef (.inr ⟨by simpa using l,rfl⟩) h
 |(false,i)::b,listed,a,w,m,hS,h=>by
  simp only[uG,Bool.and_eq_true,Bool.or_eq_true,decide_eq_true_eq]at m;obtain⟨⟨h1,h2⟩,k⟩:=m;obtain⟨o,u,h⟩:=h
  have z:∀w',(i≠last->S w')->b≠ []->S w':=λw' h D=>by
   rcases h2 with h2|h2
   ·exact h h2
   ·exact absurd (List.isEmpty_iff.1 h2) D
  refine aF (rs:=[i]) h1 (by simp) (dl.cons u (λM G=>?_) dl.nil)
  by_cases l:Region.wanted o (yielded ops a.tmps)=true
  ·rw[if_pos l]at h⊢;exact Oper.wp_mono (λJ w' y=>G.out J w' y.1 (ez s r b _ _ _ k (z w' y.1) y.2)) h
  ·rw[if_neg l]at h⊢;exact G.out _ _ (λ_=>hS (by simp)) (ez s r b _ _ _ k (λ_=>hS (by simp)) h)
def fa(Q:Exit->Act->World->Prop)(e:Exit)(a:Act)(w:World):Prop:=match e with| .panic _=>False|e=>Q e a w
theorem fa.imp{Q:Exit->Act->World->Prop}(e:Exit)(a:Act)(w:World)(h:fa Q e a w):Q e a w:=by
 cases e<;>first|exact h|exact h.elim
theorem fi{id:Nat}{a:Act}{w:World}{l:List Oper}(S:World->Prop)(last:Nat)(b:List (Bool×Nat))(hm:P.follows .mixedOrders=true)
    (c:(Region.noSelect l.toArray&&decide (b.length=l.toArray.size)&&uG .any l.toArray last b (Array.replicate l.toArray.size false))=true) (hS:S w.drew)
    (h:Nonempty (HW S)->dc P l.toArray S last (fa Q) b a w.drew):(Code.region id l.toArray true).wp P Q a w:=by
 simp only[Bool.and_eq_true,decide_eq_true_eq]at c;obtain⟨⟨h1,h2⟩,d⟩:=c;refine wp_mono (Q:=fa Q) (iT S last hm ?_) fa.imp;have:=ez (Q:=fa Q) h1 (λ_ _ _ _ _ h=>h) b _ _ _ d (λ_=>hS) (h ⟨⟨_,hS⟩⟩)
 rwa[h2]at this
def lC(md:Region.Mode)(ops:Array Oper):List (Bool×Nat)->Array Bool->Bool
 | [],listed=>(Region.ready md ops listed).isEmpty
 |(true,i)::b,listed=>(Region.ready md ops listed).contains i&&Region.free md ops listed i&&lC md ops b (listed.setIfInBounds i true)
 |(false,i)::b,listed=>decide (Region.ready md ops listed=[i])&&lC md ops b (listed.setIfInBounds i true)
theorem ey(hl:last=ops.size)(u:Region.noSelect ops=true)(s:∀c a d v w,Q (.panic c) (a.put d v) w->Q (.panic c) a w):∀(f:List (Bool×Nat)) (listed:Array Bool) (a:Act) (w:World),lC md ops f listed=true->S w->dc P ops S last Q f a w->wpAnyH P md ops Q S f.length listed a w
 | [],listed,a,w,k,_,h=>⟨by simpa[lC]using k,h⟩
 |(true,i)::f,listed,a,w,k,l,h=>by
  simp only[lC,Bool.and_eq_true]at k;obtain⟨⟨h1,h2⟩,E⟩:=k;obtain⟨o,r,h⟩:=h
  have key:∀v,YieldsIf P ops S o v a->dc P ops S last Q f (a.put o.dst v) w->wpAnyH P md ops Q S ((true,i)::f).length listed a w:=λv H h=>
   wpAnyH_first r (Region.noSelect_spec u) (λc a w=>s c a _ _ w) _ listed a w (Region.free_spec r h2) (by simpa using h1) H l (ey hl u s f _ _ _ E l h)
  by_cases b:Region.wanted o (yielded ops a.tmps)=true
  ·rw[if_pos b]at h;obtain⟨v,G,h⟩:=h;exact key v (.inl ⟨b,λw b=>G ⟨w,b⟩⟩) h
  ·rw[if_neg b]at h;exact key undef (.inr ⟨by simpa using b,rfl⟩) h
 |(false,i)::f,listed,a,w,k,hS,h=>by
  simp only[lC,Bool.and_eq_true,decide_eq_true_eq]at k;obtain⟨h1,z⟩:=k;obtain⟨o,r,h⟩:=h
  have m:i≠last:=by
   have:=(Array.getElem?_eq_some_iff.1 r).1;omega
  refine⟨λh0=>(by rw[h1]at h0;cases h0),λj D=>?_⟩;rw[h1,List.mem_singleton]at D;subst D;unfold wpOp;simp only[r]
  by_cases b:Region.wanted o (yielded ops a.tmps)=true
  ·rw[if_pos b]at h;simp only[b,if_true];exact .inl (Oper.wp_mono (λI w' y=>⟨y.1 m,ey hl u s f _ _ _ z (y.1 m) y.2⟩) h)
  ·rw[if_neg b]at h;simp only[b];exact⟨hS,ey hl u s f _ _ _ z hS h⟩
theorem ah{id:Nat}{a:Act}{w:World}{l:List Oper}(S:World->Prop)(b:List (Bool×Nat))(hm:P.follows .mixedOrders=true)
    (c:(Region.noSelect l.toArray&&decide (b.length=l.toArray.size)&&lC .any l.toArray b (Array.replicate l.toArray.size false))=true) (hS:S w.drew)
    (h:Nonempty (HW S)->dc P l.toArray S l.toArray.size (fa Q) b a w.drew):(Code.region id l.toArray true).wp P Q a w:=by
 simp only[Bool.and_eq_true,decide_eq_true_eq]at c;obtain⟨⟨h1,h2⟩,d⟩:=c;refine wp_mono (Q:=fa Q) (wp_region_held (S:=S) hm ?_) fa.imp;have:=ey (Q:=fa Q) rfl h1 (λ_ _ _ _ _ h=>h) b _ _ _ d hS (h ⟨⟨_,hS⟩⟩)
 rwa[h2]at this
theorem af{i:Nat}{o:Oper}{b:List (Bool×Nat)}{a:Act}{w:World}(c:ops[i]?=some o)
    (h:∀K:Act->Prop,(∀a,dc P ops S last Q b a w->K a)->if Region.wanted o (yielded ops a.tmps)=true then ∃v,(∀p:HW S,(execOp a.eval o).run P p.w=.ok (.value v) p.w)/\K (a.put o.dst v)else K (a.put o.dst undef)):dc P ops S last Q ((true,i)::b) a w:=
 ⟨o,c,h _ λ_ h=>h⟩
theorem aj{i:Nat}{o:Oper}{b:List (Bool×Nat)}{a:Act}{w:World}(f:ops[i]?=some o)
    (h:∀K:Act->World->Prop,Hid (∀a w,(i≠last->S w)->dc P ops S last Q b a w->K a w)->if Region.wanted o (yielded ops a.tmps)=true then o.wp P a w K Q else K (a.put o.dst undef) w) (hS:Region.wanted o (yielded ops a.tmps)=true\/S w):dc P ops S last Q ((false,i)::b) a w:=by
 refine⟨o,f,?_⟩;have:=h (λd w'=>(i≠last->S w')/\dc P ops S last Q b d w') (Ld λa w h1 h2=>⟨h1,h2⟩)
 by_cases c:Region.wanted o (yielded ops a.tmps)=true
 ·rw[if_pos c]at this⊢;exact this
 ·rw[if_neg c]at this⊢;exact this.2
def iU(a:Addr)(v:Value)(w:World):Prop:=w.cell? a=some v
theorem iU.all(a:Addr)(v:Value)(p:HW (iU a v)):p.w.cell? a=some v:=p.h
theorem au{a:Act}{w:World}(h:Q .normal a w):dc P ops S last (fa Q) [] a w:=h
end
def an(xs:List Int):List Value:=xs.map (Value.int .u8)
theorem ak(xs:List Int):(an xs).length=xs.length:=by simp[an]
theorem aR(xs:List Int):∀u∈an xs,u.oneCell'=true:=by
 intro u hu;simp only[an,List.mem_map]at hu;obtain⟨x,_,rfl⟩:=hu;rfl
def ba(xs:List Int):Prop:=∀x∈xs,0<=x/\x<256
theorem kB:aY prog 33 5 1 1:=aY.mk' (z:=.int .u8 0) underlying33 (by kernel_rfl) rfl (by decide)
theorem tX{xs ys:List Int}(b:ba xs)(c:ba ys):((strOfNums xs).toList==(strOfNums ys).toList)=decide (xs=ys):=by
 rw[ByteArray.toList_eq,ByteArray.toList_eq,strOfNums_data,strOfNums_data,Bool.eq_iff_iff,decide_eq_true_iff,beq_iff_eq];constructor
 ·intro h2
  induction xs generalizing ys with
  |nil=>cases ys<;>simp at h2⊢
  |cons x xs k=>
   cases ys with
   |nil=>simp at h2
   |cons y ys=>
    simp only[List.map_cons,List.cons.injEq]at h2;obtain⟨d,f⟩:=b x (by simp);obtain⟨i,j⟩:=c y (by simp)
    have e:x=y:=by
     have:=congrArg UInt8.toNat h2.1;simp[UInt8.toNat_ofNat']at this;omega
    rw[e,k (λz hz=>b z (by simp[hz])) (λz hz=>c z (by simp[hz])) h2.2]
 ·rintro rfl;rfl
theorem eI{p:Nat->Prop}{w:World}{A:Option Addr}{n c:Nat}{xs:List Int}(h:Rd p w 1 A n (an xs)):(convert 33 9 (.slice A n c)).run prog w=.ok (.string (strOfNums xs)) w:=by
 have hl:xs.length=n:=by have:=h.1;rw[ak]at this;omega
 rcases Nat.eq_zero_or_pos n with h0|h0
 ·subst h0;have hz:xs= []:=List.eq_nil_of_length_eq_zero hl;subst hz;rcases A with _ | d
  ·exact run_convert_bytes_nil w 33 5 underlying33 underlying5 0 c 9 underlying9
  ·rw[run_convert_bytes_string w 33 9 5 _ 0 c underlying33 underlying5 underlying9,run_bytesToString w d 0 c [] rfl];rfl
 ·obtain ⟨g,o,rfl,-,-,f⟩:=h.out h0 (by omega);refine run_convert_bytes_arg w 33 5 underlying33 underlying5 g o n c xs hl (λi hi=> ?_) 9 underlying9;refine f i _ ?_;have b:i<xs.length:=by omega
  simp[an,b]
theorem zf{p q:Nat->Prop}(A B:Option Addr)(n m c d:Nat)(xs ys:List Int)(w:World)(i:Rd p w 1 A n (an xs))(j:Rd q w 1 B m (an ys))(bx:ba xs)(b:ba ys):
    Calls prog 133 #[.slice A n c,.slice B m d] w λe w'=>e=.returned (.bool (decide (xs=ys)))/\w=w':=by
 have h1:=eI (c:=c) i;have h2:=eI (c:=d) j;have f:=tX bx b;generalize strOfNums xs=s1 at h1 f;generalize strOfNums ys=s2 at h2 f;generalize decide (xs=ys)=r at f⊢;clear i j bx b
 go_enter func133,ntmps133
 go_wp2_with fail;go_ret;exact⟨rfl,rfl⟩
theorem oX(A:Option Addr)(n c:Nat)(xs:List Int)(w:World)(hO:Rd (λb=>b<w.heap.size) w 1 A n (an xs))(H:n<=1000000):
    Calls prog 102 #[.slice A n c] w λe w'=>(∃s u,e=.returned (.slice s n u)/\w'.ownsRow w.heap.size 5 1 (.slice s n u) n (an xs))/\aa w w':=by
 have z:=Ld hO;rcases A with _|l
 ·have h0:n=0:=by
   rcases Nat.eq_zero_or_pos n with h|h
   ·exact h
   ·obtain⟨l,D,_⟩:=hO.2 h
    cases D
  subst h0;have hz:xs=[]:=List.eq_nil_of_length_eq_zero (by have:=hO.1;rw[ak]at this;omega);subst hz;clear hO;have r:=λw=>Lib.run_eql_slice_nil (P:=prog) w 33 5 none 0 c 0 0 underlying33
  go_enter func102,ntmps102
  go_wp2_with fail;go_ret;exact⟨⟨none,0,rfl,World.ownsRow_nil _ _ _ _⟩,aa.refl w⟩
 ·clear hO;have r:=λw=>Lib.run_eql_slice_nil (P:=prog) w 33 5 (some l) n c 0 0 underlying33
  go_enter func102,ntmps102
  go_wp2_with (at_builtin;refine av kB _ rfl (.tmp 5) (.tmp 6) rfl w.heap.size (.slice (some ⟨w.heap.size,0,none⟩) 0 0) 0 [] rfl (dQ (ac.new w 5 #[]) (Nat.le_refl _)) (some l) n c (an xs) rfl (aa.rd (aa.al (aa.refl w) _) z.out) (aR xs) (by unfold maxLen;omega) (by omega) (by simp) ?_;intro y d1 G d f m;rw[Nat.zero_add];rw[Nat.zero_add,List.nil_append]at d;have j:=Ld d;have i:Hid (aa w G):=Ld ((aa.al (aa.refl w) _).fr f (by intro k E;simp[Value.ownBlock]at E;omega));clear d f m)
  go_ret;exact⟨⟨y,d1,rfl,j.out⟩,i.out⟩
theorem iz(x:Int)(h0:0<=x)(h1:x<4294967296):IntKind.u32.wrap x=x:=by rw[IntKind.wrap_u32];omega
theorem EC{b c b2 d:Int}(h0:0<=b/\b<256)(h1:0<=c/\c<256)(h2:0<=b2/\b2<256)(l:0<=d/\d<256):
    bits .or .u32 (bits .or .u32 (bits .or .u32 (IntKind.u32.wrap (IntKind.u32.wrap b*16777216)) (IntKind.u32.wrap (IntKind.u32.wrap c*65536))) (IntKind.u32.wrap (IntKind.u32.wrap b2*256))) (IntKind.u32.wrap d)=((b*256+c)*256+b2)*256+d:=by
 have f:∀n:Int,0<=n->n<2^32->IntKind.u32.wrap n=n:=λn h0 h1=>iz n h0 (by omega)
 rw[iz b (by omega) (by omega),iz c (by omega) (by omega),iz b2 (by omega) (by omega),iz d (by omega) (by omega),iz (b*16777216) (by omega) (by omega),iz (c*65536) (by omega) (by omega),iz (b2*256) (by omega) (by omega)];have i:bits .or .u32 (b*16777216) (c*65536)=b*16777216+c*65536:=bits_join .u32 32 (by decide) f 24 _ _ (by omega) (by omega) (by omega) (by omega) (by omega) (by omega);have j:bits .or .u32 (b*16777216+c*65536) (b2*256)=b*16777216+c*65536+b2*256:=bits_join .u32 32 (by decide) f 16 _ _ (by omega) (by omega) (by omega) (by omega) (by omega) (by omega);have k:bits .or .u32 (b*16777216+c*65536+b2*256) d=b*16777216+c*65536+b2*256+d:=bits_join .u32 32 (by decide) f 8 _ _ (by omega) (by omega) (by omega) (by omega) (by omega) (by omega);rw[i,j,k];omega
theorem CU {p:Nat->Prop} (A:Option Addr) (n c:Nat) (xs:List Int) (d f b2 i:Int) (w:World) (h:Rd p w 1 A n (an xs)) (s:xs= [d,f,b2,i]) (j:ba xs):Calls prog 187 #[.slice A n c] w λe w'=>e= .returned (.int .u32 (((d*256+f)*256+b2)*256+i))/\aa w w':=by
 subst s;have m:n=4:=by have:=h.1;rw[ak]at this;simpa using this.symm
 subst m;obtain⟨g,o,rfl,-,-,b⟩:=h.out (by omega) (by omega);have u:∀p:HW (aa w),p.w.cell? ⟨g,o,none⟩=some (.int .u8 d):=λp=>p.h.cell_ (b 0 _ rfl)
 have y:∀p:HW (aa w),p.w.cell? ⟨g,o+1,none⟩=some (.int .u8 f):=λp=>p.h.cell_ (b 1 _ rfl)
 have c2:∀p:HW (aa w),p.w.cell? ⟨g,o+2,none⟩=some (.int .u8 b2):=λp=>p.h.cell_ (b 2 _ rfl)
 have z:∀p:HW (aa w),p.w.cell? ⟨g,o+3,none⟩=some (.int .u8 i):=λp=>p.h.cell_ (b 3 _ rfl)
 have h0:=j d (by simp);have h1:=j f (by simp);have h2:=j b2 (by simp);have l:=j i (by simp);clear b
 go_enter func187,ntmps187
 go_wp2_with fail;refine ah (aa w) [(true,0),(true,1),(true,2),(true,3),(true,4),(true,5),(true,6),(true,7),(true,8),(true,9),(true,10),(true,11),(true,12),(true,13),(true,14),(true,15),(true,16),(true,17),(true,18),(true,19),(true,20),(true,21),(true,22)] (by kernel_rfl) (by kernel_rfl) (aa.dr (aa.refl w)) (λr=>?_)
 iterate 23 (refine af (o:=.mk ..) rfl (λK k=>?_);go_simp;refine k _ ?_;clear k K)
 refine au ?_
 go_wp2_with fail;go_ret;rw[EC h0 h1 h2 l];exact⟨rfl,aa.dr (aa.refl w)⟩
section
variable {P:Program}{w:World}{ops:Array Oper}{rest:List Oper}{o o2:Oper}{a:Act}{Q:Exit->Act->World->Prop}
theorem eC(o:Oper)(h:wpList P ops Q (o::rest) a w):wpList P ops Q (o::rest) a w:=h
theorem eP(t:TypeId){x:Operand}(_:o.op=.load t x)(h:wpList P ops Q (o::rest) a w):wpList P ops Q (o::rest) a w:=h
theorem gc(t:TypeId){x y:Operand}(_:o.op=.store t x y)(h:wpList P ops Q (o::rest) a w):wpList P ops Q (o::rest) a w:=h
theorem cE(n:Nat)(_:o.dst=some n)(h:wpList P ops Q (o::rest) a w):wpList P ops Q (o::rest) a w:=h
theorem cH(c:Region.wanted o (yielded ops a.tmps)=true)(h:∀K:Act->World->Prop,(∀a w,wpList P ops Q rest a w->K a w)->o.wp P a w K Q):wpList P ops Q (o::rest) a w:=
 wpList_step λK b=>by rw[if_pos c];exact h K b
theorem eJ{g:Nat}{T:TypeId}{cs cs':Array Value}(b:ac w g T cs):ac (w.setRow g cs') g T cs'/\Fr (λk=>k=g) w (w.setRow g cs'):=
 ⟨setRow_heap w g cs cs' T (0,0) b,⟨rfl,rfl,rfl,by simp,λk _ c=>setRow_other w g k cs' c⟩⟩
theorem ae{T:TypeId}{d:TypeDesc}{g:Nat}{cs:Array Value}(i:Region.wanted o (yielded ops a.tmps)=true)(x:Operand)(f:o.op=.load T x)(hu:P.underlying T=some d)(hd:d.isRow=true)(hi:(P.info? T).map (·.size)=some cs.size)(j:a.eval x=.pointer (some ⟨g,0,none⟩))(c:ac w g T cs)
    (h:wpList P ops Q rest (a.put o.dst (.agg cs)) w):wpList P ops Q (o::rest) a w:=
 cH i λ_ b=>wp_load_row T x f g j T cs (0,0) _ c hu (by cases d<;>first|rfl|(simp[TypeDesc.isRow]at hd)) hi (b _ _ h)
theorem ao{T:TypeId}{g:Nat}{cs0 cs:Array Value}(f:Region.wanted o (yielded ops a.tmps)=true)(x y:Operand)(d:o.op=.store T x y)(hi:(P.info? T).map (·.size)=some cs.size)(i:a.eval x=.pointer (some ⟨g,0,none⟩))(j:a.eval y=.agg cs)(b:ac w g T cs0)(h0:cs0.size=cs.size)(h1:cs.all (·.oneCell')=true)
    (h:∀w',ac w' g T cs->Fr (λk=>k=g) w w'->wpList P ops Q rest (a.put o.dst undef) w'):wpList P ops Q (o::rest) a w:=
 cH f λK c=>by
  obtain⟨l,m⟩:=eJ (cs':=cs) b;unfold Oper.wp execOp;simp only[d,i,j,Instr.storeAt,Instr.sureAddr,Sem.run_bind,Sem.run_pure,Result.andThen_ok,run_storeVar_row w g T T cs0 cs b hi h0 h1];exact c _ _ (h _ l m)
end
def ag(s:List Int):Array Value:=(an s).toArray
theorem aq(s:List Int):(ag s).size=s.length:=by simp[ag,ak]
theorem bH(s:List Int):(ag s).all (·.oneCell')=true:=all_oneCell_toArray (aR s)
theorem eu(s:List Int):(ag s).toList=an s:=by simp[ag]
theorem EA{s t:List Int}(h:an s=an t):s=t:=by
 unfold an at h
 induction s generalizing t with
 | nil=>cases t with
  |nil=>rfl
  |cons y t=>simp at h
 | cons x s b=>cases t with
  |nil=>simp at h
  |cons y t=>
   simp only[List.map_cons,List.cons.injEq,Value.int.injEq,true_and]at h;rw[h.1,b h.2]
theorem Cv{s t:List Int}(h:ag s=ag t):s=t:=by
 unfold ag at h;exact EA (by simpa using h)
def at_(s:List Int)(i:Nat):Int:=s.getD i 0
theorem mM{s:List Int}{i:Nat}(h:i<s.length):(ag s)[i]?=some (.int .u8 (at_ s i)):=by
 simp[ag,an,at_,h]
section
variable {P:Program}{w:World}
open Extern.Stop (cell)
theorem li{s:List Int}(b:ba s):((s.map λx=>UInt8.ofNat x.toNat).map cell).toArray=ag s:=by
 unfold ag an;rw[List.map_map]
 congr 1
 apply List.map_congr_left;intro x c;obtain⟨h0,h1⟩:=b x c;simp only[Function.comp,cell]
 congr 1
 rw[UInt8.toNat_ofNat',Nat.mod_eq_of_lt (by omega)];simp only[Int.ofNat_eq_natCast];omega
theorem xZ{s t:List Int}(b:ba s)(ht:ba t):((s.map λx=>UInt8.ofNat x.toNat)==(t.map λx=>UInt8.ofNat x.toNat))=decide (s=t):=by
 rw[Bool.eq_iff_iff,beq_iff_eq,decide_eq_true_iff];constructor
 ·intro h;have:=congrArg (λl=>(List.map cell l).toArray) h;simp only[li b,li ht]at this;exact Cv this
 ·rintro rfl;rfl
theorem gJ(d:Nat){T e:TypeId}{n:Nat}(ht:P.underlying T=some (.array n e))(c:P.underlying e=some (.int .u8))(b:∀w,(sizeOf e).run P w=.ok 1 w){s t:List Int}(f:s.length=n)(h2:t.length=n)(bs:ba s)(bt:ba t)(w:World):
    (Op.equalIn (d+2) T (.agg (ag s)) (.agg (ag t))).run P w=.ok (decide (s=t)) w:=by
 have:=run_equalIn_bytes (P:=P) w d T e n ht c b (s.map λx=>UInt8.ofNat x.toNat) (t.map λx=>UInt8.ofNat x.toNat) (by simpa using f) (by simpa using h2);rw[li bs,li bt,xZ bs bt]at this;exact this
theorem ac.range{T:TypeId}{g:Nat}{s:List Int}(b:ac w g T (ag s)):w.rangeAt g 0 (an s):=λj v c=>by
 rw[Nat.zero_add,b.cell j]
 simpa[ag]using c
theorem ac.byte{T:TypeId}{g n:Nat}{s:List Int}(b:ac w g T (ag s))(h:s.length=n):∀i,i<n->w.cell? ⟨g,i,none⟩=some (.int .u8 (at_ s i)):=λi hi=>by rw[b.cell i,mM (by omega)]
theorem dj{fn:Func}{p q:Tmp}{ty e:TypeId}{n g:Nat}{s:List Int}(h:fn.results= #[.cell p ty,.tmp q])(tmps:Array Value)(w:World)(d:tmps.getD p undef=.pointer (some ⟨g,0,none⟩))(c:ac w g ty (ag s))
    (hu:P.underlying ty=some (.array n e)) (hi:(P.info? ty).map (·.size)=some n) (f:s.length=n):(results fn tmps).run P w=.ok (.tuple #[.agg (ag s),tmps.getD q undef]) w:=by
 have b:tmps[p]?.getD undef=.pointer (some ⟨g,0,none⟩):=by simpa using d
 simp[results,h,b,asAddr,run_loadVar_row w g ty ty (ag s) (0,0) _ c hu rfl (by rw[hi,aq,f])]
section
variable {ops:Array Oper}{rest:List Oper}{o o2:Oper}{a:Act}{Q:Exit->Act->World->Prop}
theorem fo{T e:TypeId}{n g:Nat}{s:List Int}(i:Region.wanted o (yielded ops a.tmps)=true)(x:Operand)(d:o.op=.load T x)(ht:P.underlying T=some (.array n e))(hi:(P.info? T).map (·.size)=some n)(j:a.eval x=.pointer (some ⟨g,0,none⟩))(c:ac w g T (ag s))(f:s.length=n)
    (h:wpList P ops Q rest (a.put o.dst (.agg (ag s))) w):wpList P ops Q (o::rest) a w:=
 cH i λ_ b=>wp_load_row T x d g j T (ag s) (0,0) _ c ht rfl (by rw[hi,aq,f]) (b _ _ h)
theorem bN{T:TypeId}{n g:Nat}{s s0:List Int}(i:Region.wanted o (yielded ops a.tmps)=true)(x y:Operand)(f:o.op=.store T x y)(hi:(P.info? T).map (·.size)=some n)(j:a.eval x=.pointer (some ⟨g,0,none⟩))(l:a.eval y=.agg (ag s))(b:ac w g T (ag s0))(h0:s0.length=n)(c:s.length=n)
    (h:∀w',ac w' g T (ag s)->Fr (λk=>k=g) w w'->wpList P ops Q rest (a.put o.dst undef) w'):wpList P ops Q (o::rest) a w:=
 cH i λK d=>by
  obtain⟨h1,h2⟩:=eJ (cs':=ag s) b;unfold Oper.wp execOp;simp only[f,j,l,Instr.storeAt,Instr.sureAddr,Sem.run_bind,Sem.run_pure,Result.andThen_ok,run_storeVar_row w g T T (ag s0) (ag s) b (by rw[hi,aq,c]) (by rw[aq,aq,h0,c]) (bH s)];exact d _ _ (h _ h1 h2)
theorem dX{T:TypeId}{n:Nat}{z:List Int}(f:o.guard=none)(j:o.op=.alloc T)(d:(P.info? T).map (λi=>(i.zero,i.size))=some (some (.agg (ag z)),n))
    (h:wpList P ops Q rest (a.put o.dst (.pointer (some ⟨w.heap.size,0,none⟩))) (w.alloc (.cells (ag z) T))):wpList P ops Q (o::rest) a w:=by
 obtain⟨k,m⟩:=zero_of_info d;refine wpList_plain f λl b=>?_
 have c:(Instr.alloc T true (.tuple #[])).run P w=.ok (.pointer (some ⟨w.heap.size,0,none⟩)) (w.alloc (.cells (ag z) T)):=by
  unfold Instr.alloc;simp[Sem.run_bind,k w,newVar,newRow,go_sem,Result.andThen]
 unfold Oper.wp;simp only[execOp,j,c,Result.andThen_ok,Sem.run_bind,Sem.run_pure];exact b _ _ h
theorem mU{T:TypeId}{n:Nat}{s z:List Int}{b:World}(i:o.guard=none)(x y:Operand)(j:o.op=.store T x y)(hi:(P.info? T).map (·.size)=some n)(hz:z.length=n)(f:s.length=n)
    (k:a.eval x=.pointer (some ⟨b.heap.size,0,none⟩)) (l:a.eval y=.agg (ag s))
    (h:wpList P ops Q rest (a.put o.dst undef) (b.alloc (.cells (ag s) T))):wpList P ops Q (o::rest) a (b.alloc (.cells (ag z) T)):=by
 refine wpList_plain i λm c=>?_
 unfold Oper.wp;have d:=run_storeAt_new (P:=P) b T (ag z) (ag s) (by rw[hi,aq,f]) (by rw[aq,aq,hz,f]) (bH s);simp only[execOp,j,k,l,d,Result.andThen_ok,Sem.run_bind,Sem.run_pure];exact c _ _ h
theorem qT{T:TypeId}{n:Nat}{C:Array Value}{Z:Value}(f:o.guard=none)(j:o2.guard=none)(s:o.op=.alloc T)(x y:Operand)(k:o2.op=.store T x y)(r:(P.info? T).map (λi=>(i.zero,i.size))=some (some Z,n))(hz:Z.cells.size=n)
    (u:(a.put o.dst (.pointer (some ⟨w.heap.size,0,none⟩))).eval x=.pointer (some ⟨w.heap.size,0,none⟩)) (z:(a.put o.dst (.pointer (some ⟨w.heap.size,0,none⟩))).eval y=.agg C) (m:C.size=n) (h1:C.all (·.oneCell')=true)
    (h:wpList P ops Q rest ((a.put o.dst (.pointer (some ⟨w.heap.size,0,none⟩))).put o2.dst undef) (w.alloc (.cells C T))):wpList P ops Q (o::o2::rest) a w:=by
 obtain⟨D,E⟩:=zero_of_info r;refine wpList_plain f λG b=>?_
 have d:(Instr.alloc T true (.tuple #[])).run P w=.ok (.pointer (some ⟨w.heap.size,0,none⟩)) (w.alloc (.cells Z.cells T)):=by
  unfold Instr.alloc;simp[Sem.run_bind,D w,newVar,newRow,go_sem,Result.andThen]
 unfold Oper.wp;simp only[execOp,s,d,Result.andThen_ok,Sem.run_bind,Sem.run_pure];refine b _ _ (wpList_plain j λH c=>?_);unfold Oper.wp;have l:=run_storeAt_new (P:=P) w T Z.cells C (by rw[E,m]) (by rw[hz,m]) h1;simp only[execOp,k,u,z,l,Result.andThen_ok,Sem.run_bind,Sem.run_pure];exact c _ _ h
theorem dH{T:TypeId}{d:TypeDesc}{b off:Nat}{cs:List Value}(j:Region.wanted o (yielded ops a.tmps)=true)(x:Operand)(i:o.op=.load T x)(k:a.eval x=.pointer (some ⟨b,off,none⟩))(f:w.rangeAt b off cs)(hu:P.underlying T=some d)(hd:d.isRow=true)(hi:(P.info? T).map (·.size)=some cs.length)
    (h:wpList P ops Q rest (a.put o.dst (.agg cs.toArray)) w):wpList P ops Q (o::rest) a w:=
 cH j λ_ c=>wp_load_mid T x i b off k cs d f hu hd hi (c _ _ h)
theorem aH{T:TypeId}{n:Nat}{s:List Int}{Z:Value}(f:o.guard=none)(j:o2.guard=none)(u:o.op=.alloc T)(x y:Operand)(k:o2.op=.store T x y)(r:(P.info? T).map (λi=>(i.zero,i.size))=some (some Z,n))(hz:Z.cells.size=n)
    (z:(a.put o.dst (.pointer (some ⟨w.heap.size,0,none⟩))).eval x=.pointer (some ⟨w.heap.size,0,none⟩)) (D:(a.put o.dst (.pointer (some ⟨w.heap.size,0,none⟩))).eval y=.agg (ag s)) (m:s.length=n)
    (h:wpList P ops Q rest ((a.put o.dst (.pointer (some ⟨w.heap.size,0,none⟩))).put o2.dst undef) (w.alloc (.cells (ag s) T))):wpList P ops Q (o::o2::rest) a w:=by
 obtain⟨E,G⟩:=zero_of_info r;refine wpList_plain f λH b=>?_
 have d:(Instr.alloc T true (.tuple #[])).run P w=.ok (.pointer (some ⟨w.heap.size,0,none⟩)) (w.alloc (.cells Z.cells T)):=by
  unfold Instr.alloc;simp[Sem.run_bind,E w,newVar,newRow,go_sem,Result.andThen]
 unfold Oper.wp;simp only[execOp,u,d,Result.andThen_ok,Sem.run_bind,Sem.run_pure];refine b _ _ (wpList_plain j λI c=>?_);unfold Oper.wp;have l:=run_storeAt_new (P:=P) w T Z.cells (ag s) (by rw[G,aq,m]) (by rw[hz,aq,m]) (bH s);simp only[execOp,k,z,D,l,Result.andThen_ok,Sem.run_bind,Sem.run_pure];exact c _ _ h
end
section
variable {ops:Array Oper}{o:Oper}{a:Act}{Q:Exit->Act->World->Prop}{K:Act->World->Prop}{F:Prop}
theorem cZ{T:TypeId}{g:Nat}{cs0 cs:Array Value}(d:Region.wanted o (yielded ops a.tmps)=true)(x y:Operand)(c:o.op=.store T x y)(hi:(P.info? T).map (·.size)=some cs.size)(f:a.eval x=.pointer (some ⟨g,0,none⟩))(i:a.eval y=.agg cs)(b:ac w g T cs0)(h0:cs0.size=cs.size)(h1:cs.all (·.oneCell')=true)
    (h:∀w',ac w' g T cs->Fr (λk=>k=g) w w'->K (a.put o.dst undef) w'):if Region.wanted o (yielded ops a.tmps)=true then Oper.wp P o a w K Q else F:=by
 rw[if_pos d];obtain⟨j,l⟩:=eJ (cs':=cs) b;unfold Oper.wp execOp;simp only[c,f,i,Instr.storeAt,Instr.sureAddr,Sem.run_bind,Sem.run_pure,Result.andThen_ok,run_storeVar_row w g T T cs0 cs b hi h0 h1];exact h _ j l
end
end
structure iE(B:Nat)(W W':World):Prop where
 size:W.heap.size<=W'.heap.size
 rest:∀(k:Nat) (o:Obj),B<=k->W.heap[k]?=some o->o.isCells=false->W'.heap[k]?=some o
section
variable {B:Nat}{A W W':World}
theorem iE.tr(h:iE B A W)(k:iE B W W'):iE B A W':=⟨Nat.le_trans h.size k.size,λi o hi c b=>k.rest i o hi (h.rest i o hi c b) b⟩
theorem iE.new(h:aa W W'):iE B W W':=⟨h.size,λk o _ b _=>(h.block k (Array.getElem?_eq_some_iff.1 b).1).trans b⟩
theorem iE.fr{S:Nat->Prop}(h:Fr S W W')(hS:∀k o,B<=k->S k->W.heap[k]?=some o->o.isCells=true):iE B W W':=
 ⟨h.size,λk o c b d=>(h.block k (Array.getElem?_eq_some_iff.1 b).1 (λf=>by have:=hS k o c f b;rw[d]at this;cases this)).trans b⟩
end
def vR{α:Type}(R:List α->α->Prop)(P:Program)(f:Nat)(lb:Array Value)(b:α->Array Value)(Good:α->World->Prop)(d:World->World->Prop)(S:List α->Prop)(M:Nat)(w:World):Prop:=
 ∀(l:Nat) (J:List α->World->Prop) (W:World),aa w W->(∀s A B,J s A->aa A B->J s B)->
  (∀pre x c,pre.length<M->J pre c->Good x c->R pre x->YieldAt Fence.wide 2 P l (b x) c λe W'=>e=.returned (.bool true)/\J (pre++[x]) W'/\d c W')->
  J [] W->CallsIn Fence.wide 2 P f (#[.func (.yield l) #[] #[]]++lb) W λe W'=>(∃v,e=.returned v)/\∃xs,S xs/\J xs W'
def eN(B:Nat)(W W':World):Prop:=∃l o o',B<=l/\W.heap[l]?=some o/\o.isCells=false/\W'=W.putObj l o'
theorem lu{α:Type}{R:List α->α->Prop}{P:Program}{g:Operand}{ps:Array Tmp}{assign body:Code}{Q:Exit->Act->World->Prop}{a:Act}{w:World}
    {N:Nat} {lb:Array Value} (hg:a.eval g=.func (.func N) #[] lb) (eg:∀args w,(callFunc N args).run P w=.ok (.enter N args) w)
    (c:α->Array Value) (c6:∀x,(c x).size=ps.size) {Good:α->World->Prop} {J:World->World->Prop} {S:List α->Prop} {M:Nat} (b':vR R P N lb c Good J S M w)
    (b1:∀x W W',Good x W->eN w.heap.size W W'->Good x W') (V:∀{A B C:World},J A B->J B C->J A C) (U:∀W W',eN w.heap.size W W'->J W W')
    (I:List α->World->Prop) (O:∀s A B,I s A->aa A B->I s B) (m:∀s A B,I s A->eN w.heap.size A B->I s B) (h0:I [] w) (a1:α->Act)
    (d:∀(l:Nat) (x:α) (W:World) (K:Act->World->Prop),K (a1 x) W->assign.wpIn (Fence.wide.inRound l) 2 P (Exit.then K (λ_ _ _=>False)) {tmps:=(ps.zip (c x)).foldl (λt (p,v)=>t.setIfInBounds p v) a.tmps,defers:=[]} W)
    (y:∀(l:Nat) (pre:List α) (x:α) (W:World),pre.length<M->I pre W->Good x W->R pre x->body.wpIn (Fence.wide.inRound l) 2 P (λe _ W'=>e=.normal/\iE w.heap.size W W'/\J W W'/\I (pre++[x]) W') (a1 x) W)
    (z:∀(D:Nat) (xs:List α) (W:World),w.heap.size<=D->S xs->I xs W->W.heap[D]?=some (.deferred (some []))->Q .normal {a with defers:={target:=.collected D,args:= #[]}::a.defers} W):
    (Code.rangeFunc g ps assign body).wp P Q a w:=by
 refine(wpIn_wide (n:=3)).1 ?_;refine wpIn_rangeFunc λfn c'=>?_
 obtain⟨j,b⟩:∃j:LoopState->Option Code->Loop,j=λst pe=>{state:=st,pending:=pe,fn,tmps:=a.tmps,params:=ps,assign,body,defers:=w.heap.size}:=⟨_,rfl⟩
 obtain⟨H,i⟩:=nM ((w.alloc (.deferred (some []))).alloc (.loop (j .ready none)));have b0:aa w H:=by rw[i];exact aa.al (aa.al (aa.refl w) _) _
 have c1:H.heap[w.heap.size+1]?=some (.loop (j .ready none)):=by
  rw[i];have:=World.alloc_heap_new (w.alloc (.deferred (some []))) (.loop (j .ready none))
  rwa[World.size_alloc]at this
 have b7:H.heap[w.heap.size]?=some (.deferred (some [])):=by
  rw[i];exact(Below.heap_alloc _ _ _ (by simp)).trans (World.alloc_heap_new w _)
 refine⟨w.heap.size+1,[{target:=.collected w.heap.size,args:= #[]}],H,{target:=.fn (.func N) lb,args:= #[.func (.yield (w.heap.size+1)) #[] #[]]},H,N, #[.func (.yield (w.heap.size+1)) #[] #[]]++lb,H,?_,?_,λ_ _=>trivial,?_,λ_=>by decide,?_⟩
 ·rw[i,b];exact run_enterLoop_outer _ _ _ _ _
 ·simp only[resolve,hg];simp[go_sem]
 ·simp[invoke,go_sem,eg]
 have put:∀(W:World) (r r':Loop),W.heap[w.heap.size+1]?=some (.loop r)->eN w.heap.size W (W.putObj (w.heap.size+1) (.loop r')):=λW r r' h=>⟨_,_,_,by omega,h,rfl,rfl⟩
 refine(b' (w.heap.size+1) (λpre W=>I pre W/\W.heap[w.heap.size+1]?=some (.loop (j .ready none))/\W.heap[w.heap.size]?=some (.deferred (some []))) H b0 ?_ ?_ ⟨O _ _ _ h0 b0,c1,b7⟩).mono ?_
 ·rintro s A B ⟨hi,hl,hd⟩ hN;exact⟨O s A B hi hN,(hN.block _ (Array.getElem?_eq_some_iff.1 hl).1).trans hl,(hN.block _ (Array.getElem?_eq_some_iff.1 hd).1).trans hd⟩
 ·rintro pre x W c5 ⟨hi,hl,hd⟩ E b3;have c4:=(Array.getElem?_eq_some_iff.1 hl).1;have hy:=run_yield (P:=P) (args:=c x) hl (by rw [b];exact c6 x);rw [b] at hy;refine ⟨fn,_,assign,body,hy,roundIn_of_wpIn c' (d _ x W _ ⟨_,run_beginRound hl (by rw [b]),?_⟩)⟩;obtain ⟨L,f⟩:=nM (W.putObj (w.heap.size+1) (.loop {j .ready none with state:= .busy}));have u:eN w.heap.size W L:=by rw [f];exact put W _ _ hl
  have c3:L.heap[w.heap.size+1]?=some (.loop {j .ready none with state:=.busy}):=by rw[f];exact World.putObj_heap_same c4
  have b8:L.heap[w.heap.size]?=some (.deferred (some [])):=by rw[f];exact(World.putObj_heap_other (by omega)).trans hd
  rw[<-f];refine wpIn_mono (y _ pre x L c5 (m _ _ _ hi u) (b1 _ _ _ E u) b3) ?_;rintro e a3 W3 ⟨rfl,Y,Z,c0⟩;have G:=Y.rest _ _ (by omega) c3 rfl;have b9:=Y.rest _ _ (Nat.le_refl _) b8 rfl;have hr:=run_endRound (P:=P) none G;have X:=put W3 _ {j .ready none with state:=(if(none:Option Code).isNone then .ready else .done),pending:=none} G;refine⟨_,_,hr,rfl,⟨m _ _ _ c0 X,?_,(World.putObj_heap_other (by omega)).trans b9⟩,V (U _ _ u) (V Z (U _ _ X))⟩;rw[World.putObj_heap_same (Array.getElem?_eq_some_iff.1 G).1,b];rfl
 ·rintro e L ⟨⟨v,rfl⟩,xs,hS,hi,hl,hd⟩;have k:=run_endLoop (P:=P) hl (by rw[b];simp);rw[b]at k;exact⟨none,_,k,z _ xs _ (Nat.le_refl _) hS (m _ _ _ hi (put L _ _ hl)) ((World.putObj_heap_other (by omega)).trans hd)⟩
def Hn(D:Nat):Deferred:={target:=.collected D,args:= #[]}
def dm(B:Nat)(Ds:List Nat)(W:World):Prop:=Ds.Nodup/\∀D∈Ds,B<=D/\W.heap[D]?=some (.deferred (some []))
section
variable {B:Nat}{Ds:List Nat}{W W':World}
theorem dm.nil(B:Nat)(W:World):dm B [] W:=⟨List.nodup_nil,λD h=>by cases h⟩
theorem dm.lt(h:dm B Ds W){D:Nat}(b:D∈Ds):D<W.heap.size:=(Array.getElem?_eq_some_iff.1 (h.2 D b).2).1
theorem dm.cons(h:dm B Ds W){D:Nat}(h0:∀k∈Ds,k<D)(c:B<=D)(hd:W.heap[D]?=some (.deferred (some []))):dm B (D::Ds) W:=
 ⟨List.nodup_cons.2 ⟨λhm=>by have:=h0 D hm;omega,h.1⟩,λk b=>by
  rcases List.mem_cons.1 b with rfl|b
  ·exact⟨c,hd⟩
  ·exact h.2 k b⟩
structure sD(B:Nat)(W W':World):Prop where
 below:Below B W W'
 cells:∀(k:Nat) (o:Obj),W.heap[k]?=some o->o.isCells=true->W'.heap[k]?=some o
theorem sD.refl(B:Nat)(W:World):sD B W W:=⟨Below.refl _ _,λ_ _ h _=>h⟩
theorem eS{F:Fence}{n:Nat}{P:Program}{fn:Func}{tmps:Array Value}{R:Ending->World->Prop}:∀(Ds:List Nat) (W:World),dm B Ds W->
    (∀W',sD B W W'->∃v,(results fn tmps).run P W'=.ok v W'/\R (.returned v) W')->LeavesInM F n P fn tmps R (Ds.map Hn) .returning W:=by
 intro Ds
 induction Ds with
 |nil=>exact λW _ h=>h W (sD.refl B W)
 |cons D Ds r=>
  intro W b h;have c:=b.2 D (by simp);have m:=b.lt (D:=D) (by simp);have l:=List.nodup_cons.1 b.1;refine⟨by simp,.inl ⟨D,_,rfl,run_takeDeferred c.2,r _ ⟨l.2,λk d=>⟨(b.2 k (by simp[d])).1,?_⟩⟩ ?_⟩⟩
  ·have f:k≠D:=λe=>l.1 (by rw [<-e];exact d)
   exact(World.putObj_heap_other f).trans (b.2 k (by simp[d])).2
  ·intro W' hS;refine h W' ⟨((Below.refl B W).grown (grownBy_putObj' W D (.deferred none)) (by omega) (λk e=>by cases e;exact c.1)).trans hS.below,λk o i j=>hS.cells k o ?_ j⟩;refine(World.putObj_heap_other (λe=>?_)).trans i;rw[e,c.2]at i
   cases i
   cases j
end
section
variable {B:Nat}{W W':World}
theorem eN.keep{k:Nat}{o:Obj}(h:eN B W W')(b:W.heap[k]?=some o)(d:o.isCells=true):W'.heap[k]?=some o:=by
 obtain⟨l,f,o',-,hl,c,rfl⟩:=h;refine(World.putObj_heap_other λe=>?_).trans b;rw[e,hl]at b;injection b with b;rw[b,d]at c
 cases c
theorem eN.blk{g:Nat}{t:TypeId}{cs:Array Value}(h:eN B W W')(b:ac W g t cs):ac W' g t cs:=h.keep b rfl
theorem eN.fr{S:Nat->Prop}(h:eN B W W')(hS:∀j,B<=j->S j):Fr S W W':=by
 obtain⟨l,f,o',b,hl,d,rfl⟩:=h;exact⟨rfl,rfl,rfl,by simp,λk _ c=>World.putObj_heap_other (λe=>c (e▸hS _ b))⟩
theorem eN.own{base e size n:Nat}{v:Value}{xs:List Value}(h:eN B W W')(b:W.ownsRow base e size v n xs):W'.ownsRow base e size v n xs:=by
 refine⟨b.1,?_⟩;rcases b.2 with h2|⟨g,cap,cur,rfl,c,d,rest⟩
 ·exact .inl h2
 ·exact .inr ⟨g,cap,cur,rfl,c,h.keep d rfl,rest⟩
theorem dm.fr{B:Nat}{Ds:List Nat}{S:Nat->Prop}(h:dm B Ds W)(hF:Fr S W W')(hS:∀D,S D->¬W.heap[D]?=some (.deferred (some []))):dm B Ds W':=
 ⟨h.1,λD b=>⟨(h.2 D b).1,(hF.block D (h.lt b) (λc=>hS D c (h.2 D b).2)).trans (h.2 D b).2⟩⟩
theorem dm.new{B:Nat}{Ds:List Nat}(h:dm B Ds W)(b:aa W W'):dm B Ds W':=h.fr (S:=ic) (b.toFr _) (λ_ x=>x.elim)
end
theorem iN{W:World}{k t:Nat}{cs:Array Value}(h:ac W k t cs):¬W.heap[k]?=some (.deferred (some [])):=by
 intro e;unfold ac at h;rw[h]at e
 cases e
theorem ER{P:Program}{c:Code}{Q:Exit->Act->World->Prop}{a:Act}{w:World}(R:Act->World->Prop)(h1:∀b w',R b w'->Q .normal b w')
    (h2:∀d:Act->World->Prop,(∀b w',R b w'->d b w')->c.wp P (Exit.then d λ_ _ _=>False) a w):c.wp P Q a w:=
 wp_mono (h2 (λa w=>Q .normal a w) h1) λe b w' f=>by
  cases e<;>first|exact f|exact f.elim
end Go.Proofs.YtfchcdbfalgdlaaGreatDoor
namespace Go.Proofs.YtfchcdbfalgdlaaGreatDoor
open _root_.Go.Proofs.Tryz
open Go.RowKit Go.Sort
def fY(a b:Int):Int:=bits .xor .u32 a b
def bS(a b:Int):Int:=IntKind.u32.wrap (a+b)
def GC(x:Int):Int:=fY (fY (eH x 7) (eH x 18)) (x/8)
def GD(y:Int):Int:=fY (fY (eH y 17) (eH y 19)) (y/1024)
def iG(s:List Int)(t:Nat):Int:=((at_ s (4*t)*256+at_ s (4*t+1))*256+at_ s (4*t+2))*256+at_ s (4*t+3)
def aP(s:List Int):Nat->List Int
 | 0=>[]
 |t+1=>aP s t++[if t<16 then iG s t else bS (bS (bS (at_ (aP s t) (t-16)) (GC (at_ (aP s t) (t-15)))) (at_ (aP s t) (t-7))) (GD (at_ (aP s t) (t-2)))]
theorem dV(s:List Int)(t:Nat):(aP s t).length=t:=by
 induction t with
 |zero=>rfl
 |succ t b=>simp[aP,b]
def aQ(n:Nat)(L:List Int):Array Value:=((L++List.replicate (n-L.length) 0).map λx=>Value.int .u32 x).toArray
theorem dh{n:Nat}{L:List Int}{i:Nat}(h:i<L.length):(aQ n L)[i]?=some (.int .u32 (at_ L i)):=by
 unfold aQ at_;rw[List.getElem?_toArray,List.getElem?_map,List.getElem?_append_left h,List.getElem?_eq_getElem h];simp[List.getD_eq_getElem?_getD,List.getElem?_eq_getElem h]
theorem qq{n:Nat}{L:List Int}{i:Nat}(h:i<n):∃v,(aQ n L)[i]?=some v:=by
 unfold aQ;rw[List.getElem?_toArray,List.getElem?_map];have:i<(L++List.replicate (n-L.length) (0:Int)).length:=by simp;omega
 rw[List.getElem?_eq_getElem this];exact⟨_,rfl⟩
theorem qt{n:Nat}{L:List Int}(v:Int)(h:L.length<n):(aQ n L).setIfInBounds L.length (.int .u32 v)=aQ n (L++[v]):=by
 unfold aQ;rw[bC]
 congr 1
 obtain⟨m,hm⟩:∃m,n-L.length=m+1:=⟨n-L.length-1,by omega⟩
 have h2:n-(L++[v]).length=m:=by simp;omega
 rw[hm,h2,List.map_append,List.set_append_right _ _ (by simp)];simp[List.replicate_succ]
theorem ia{n:Nat}{L:List Int}(h:L.length<=n):(aQ n L).size=n:=by
 simp[aQ];omega
theorem vG(n:Nat)(L:List Int):(aQ n L).all (·.oneCell')=true:=by
 rw[Array.all_eq_true_iff_forall_mem];intro x b;unfold aQ at b;rw[List.mem_toArray]at b;obtain⟨y,-,rfl⟩:=List.mem_map.1 b;rfl
theorem fL(a b:Int):0<=bS a b/\bS a b<4294967296:=by
 unfold bS;rw[IntKind.wrap_u32];omega
theorem tR{s:List Int}(f:s.length=64)(b:ba s)(t:Nat):∀i,0<=at_ (aP s t) i/\at_ (aP s t) i<4294967296:=by
 have key:∀i,0<=at_ s i/\at_ s i<256:=λi=>by
  unfold at_;rw[List.getD_eq_getElem?_getD]
  cases h:s[i]? with
  |none=>simp
  |some x=>exact b x (List.mem_of_getElem? h)
 induction t with
 |zero=>intro i;simp[aP,at_]
 |succ t c=>
  intro i
  have e:at_ (aP s (t+1)) i=if i<t then at_ (aP s t) i else if i=t then(if t<16 then iG s t else bS (bS (bS (at_ (aP s t) (t-16)) (GC (at_ (aP s t) (t-15)))) (at_ (aP s t) (t-7))) (GD (at_ (aP s t) (t-2))))else 0:=by
   have hl:=dV s t;show at_ (aP s t++[_]) i=_;unfold at_;rw[List.getD_eq_getElem?_getD]
   by_cases h:i<t
   ·rw[if_pos h,List.getElem?_append_left (by omega),List.getD_eq_getElem?_getD]
   ·rw[if_neg h,List.getElem?_append_right (by omega),hl]
    by_cases h2:i=t
    ·subst h2;simp
    ·rw[if_neg h2,List.getElem?_eq_none (by simp;omega)];rfl
  rw[e];split
  ·exact c i
  ·split
   ·split
    ·unfold iG;have h0:=key (4*t);have h1:=key (4*t+1);have h2:=key (4*t+2);have d:=key (4*t+3);omega
    ·exact fL _ _
   ·omega
theorem eh{fn:Func}{p:Tmp}{ty:TypeId}{P:Program}(h:fn.results= #[.cell p ty])(tmps:Array Value)(w:World)(g:Nat)(cs:Array Value)(d:TypeDesc)
    (c:tmps.getD p undef=.pointer (some ⟨g,0,none⟩)) (b:ac w g ty cs) (hu:P.underlying ty=some d) (hd:d.isRow=true) (hi:(P.info? ty).map (·.size)=some cs.size):
    (results fn tmps).run P w=.ok (.agg cs) w:=results_cell_row h tmps w g ty cs (0,0) d c b hu (by cases d<;>first|rfl|(simp[TypeDesc.isRow]at hd)) hi
theorem FO(d t:Nat)(h:t<16)(w:World):(Instr.sliceAt 67 (.pointer (some ⟨d,0,none⟩)) (some (.int .i64 (4*(t:Int)))) (some (.int .i64 (4*(t:Int)+4))) none).run prog w=.ok (.slice (some ⟨d,4*t,none⟩) 4 (64-4*t)) w:=by
 have b:(prog.arrayLen 67)=64:=by kernel_rfl
 have c:(prog.elem 67)=5:=by kernel_rfl
 have hu:prog.underlying 67=some (.array (prog.arrayLen 67) (prog.elem 67)):=by rw[b,c];exact underlying67
 have j:(sizeOf 5).run prog w=.ok 1 w:=by
  first|exact sizeOf5 w|simp[sizeOf5,go_sem]|kernel_rfl
 rw[run_sliceAt_array_lh (P:=prog) w 67 ⟨d,0,none⟩ hu .i64 .i64 (4*(t:Int)) (4*(t:Int)+4) (by omega) (by omega) (by rw[b];omega),c,b,j];have f:(4*(t:Int)).toNat=4*t:=by omega
 have i:(4*(t:Int)+4).toNat=4*t+4:=by omega
 simp only[Result.andThen_ok,slicedAt,f,i];rw[if_neg (by omega),gM,Nat.mul_one];simp
theorem xE (s:List Int) (w:World) (hs:s.length=64) (hb:ba s):Calls prog 174 #[.agg (ag s)] w λe w'=>e= .returned (.agg (aQ 64 (aP s 64)))/\aa w w':=by
 have HS:=Ld hs;have HB:=Ld hb;clear hs hb
 go_enter func174,ntmps174
 go_upto_region 2 with fail;have hz:(#[.int .u32 0,.int .u32 0,.int .u32 0,.int .u32 0,.int .u32 0,.int .u32 0,.int .u32 0,.int .u32 0,.int .u32 0,.int .u32 0,.int .u32 0,.int .u32 0,.int .u32 0,.int .u32 0,.int .u32 0,.int .u32 0,.int .u32 0,.int .u32 0,.int .u32 0,.int .u32 0,.int .u32 0,.int .u32 0,.int .u32 0,.int .u32 0,.int .u32 0,.int .u32 0,.int .u32 0,.int .u32 0,.int .u32 0,.int .u32 0,.int .u32 0,.int .u32 0,.int .u32 0,.int .u32 0,.int .u32 0,.int .u32 0,.int .u32 0,.int .u32 0,.int .u32 0,.int .u32 0,.int .u32 0,.int .u32 0,.int .u32 0,.int .u32 0,.int .u32 0,.int .u32 0,.int .u32 0,.int .u32 0,.int .u32 0,.int .u32 0,.int .u32 0,.int .u32 0,.int .u32 0,.int .u32 0,.int .u32 0,.int .u32 0,.int .u32 0,.int .u32 0,.int .u32 0,.int .u32 0,.int .u32 0,.int .u32 0,.int .u32 0,.int .u32 0]:Array Value)=aQ 64 []:=rfl;rw[hz];obtain⟨w1,z⟩:=nM (((w.alloc (.cells (ag s) 67)).alloc (.cells (aQ 64 []) 250)).alloc (.cells (aQ 64 []) 250):World);obtain⟨H,U⟩:=nM (w.heap.size);obtain⟨b2,V⟩:=nM (w.heap.size+1);obtain⟨b,X⟩:=nM (w.heap.size+1+1);have c9:Hid (aa w w1):=Ld (by rw[z];exact aa.al (aa.al (aa.al (aa.refl _) _) _) _);have j:Hid (ac w1 H 67 (ag s)):=Ld (by rw[z,U];exact((ac.new _ _ _).alloc _).alloc _);have m:Hid (ac w1 b2 250 (aQ 64 [])):=Ld (by rw[z,V,<-hz];exact(ac.new' _ _ _ (by simp)).alloc _);have c:Hid (ac w1 b 250 (aQ 64 [])):=Ld (by rw[z,X,<-hz];exact ac.new' _ _ _ (by simp));have HZ:Hid (H=w.heap.size/\b2=w.heap.size+1/\b=w.heap.size+2):=Ld ⟨U,V,X⟩;rw[<-z,<-X,<-V,<-U];clear z U V X hz
 go_wp2_with fail;go_loopw [7] (λi wr=>∃(t:Nat),t<=64/\i=.int .i64 t/\Hid (aa w wr)/\Hid (ac wr H 67 (ag s))/\Hid (ac wr b2 250 (aQ 64 []))/\Hid (ac wr b 250 (aQ 64 (aP s t)))) (λi _=>64-(intOf i).toNat)
 case atStart=>exact⟨0,Nat.zero_le _,rfl,c9,j,m,c⟩
 case round=>
  clear j m c c9;obtain⟨t,ht,rfl,HN,j,m,c⟩:=hrel
  by_cases Y:t<64
  ·have j':(0:Int)<=(t:Int):=by omega
   have j0:(t:Int)<64:=by omega
   by_cases c3:t<16
   ·have hd:decide ((t:Int)<16)=true:=decide_eq_true (by omega);have i4:=FO H t c3;have hg:∀i,i<64->wr.cell? ⟨H,i,none⟩=some (.int .u8 (at_ s i)):=j.out.byte HS.out
    have g7:Rd (λ_=>True) wr 1 (some ⟨H,4*t,none⟩) 4 (an [at_ s (4*t),at_ s (4*t+1),at_ s (4*t+2),at_ s (4*t+3)]):=by
     refine⟨rfl,λ_=>⟨_,rfl,trivial,j.out.lt,λi u hu=>?_⟩⟩;have hi:i<4:=(List.getElem?_eq_some_iff.1 hu).1
     have ha:(⟨H,4*t,none⟩:Addr).add i=⟨H,4*t+i,none⟩:=by
      unfold Addr.add;split
      ·next h0=>subst h0;rfl
      ·rfl
     rw[ha,hg _ (by omega)];rcases (by omega:i=0\/i=1\/i=2\/i=3)with rfl|rfl|rfl|rfl<;>exact hu
    have y:ba [at_ s (4*t),at_ s (4*t+1),at_ s (4*t+2),at_ s (4*t+3)]:=by
     have key:∀i,i<64->0<=at_ s i/\at_ s i<256:=λi hi=>by
      have hl:i<s.length:=by rw[HS.out];exact hi
      have e:at_ s i=s[i]:=by simp[at_,List.getD_eq_getElem?_getD,List.getElem?_eq_getElem hl]
      rw[e];exact HB.out _ (List.getElem_mem _)
     intro x hx;simp only[List.mem_cons,List.not_mem_nil,or_false]at hx;rcases hx with rfl|rfl|rfl|rfl<;>exact key _ (by omega)
    have HW:=Ld (CU (some ⟨H,4*t,none⟩) 4 (64-4*t) _ _ _ _ _ wr g7 rfl y);clear hg g7 y
    go_wp2_with fail;refine HW.out.mono ?_;rintro e w5 ⟨rfl,R⟩;have O:=Ld R;obtain⟨v,hv⟩:=qq (n:=64) (L:=aP s t) Y;have c5:w5.cell? ⟨b,t,none⟩=some v:=((R.blk c.out).cell t).trans hv;have f5:w5.frozen? ⟨b,t,none⟩=false:=(R.blk c.out).frozen t;have HF:Hid (Fr (λk=>k=b) w5 (w5.setCell ⟨b,t,none⟩ (.int .u32 (iG s t)))):=Ld ((Fr.refl (λk=>k=b) w5).setCell (p:=⟨b,t,none⟩) (λ_=>rfl) _);have c0:Hid (aa w (w5.setCell ⟨b,t,none⟩ (.int .u32 (iG s t)))):=Ld ((HN.out.tr O.out).fr HF.out (λk hk=>by have:=HZ.out;omega))
    have b8:Hid (ac (w5.setCell ⟨b,t,none⟩ (.int .u32 (iG s t))) b 250 (aQ 64 (aP s (t+1)))):=Ld (by
     have:=(O.out.blk c.out).set t (.int .u32 (iG s t));have h2:=qt (n:=64) (L:=aP s t) (iG s t) (by rw[dV];exact Y);rw[dV]at h2;rw[h2]at this
     simpa[aP,c3]using this)
    have E:Hid (ac (w5.setCell ⟨b,t,none⟩ (.int .u32 (iG s t))) H 67 (ag s)):=Ld ((O.out.blk j.out).fr HF.out (by have:=HZ.out;omega));have G:Hid (ac (w5.setCell ⟨b,t,none⟩ (.int .u32 (iG s t))) b2 250 (aQ 64 [])):=Ld ((O.out.blk m.out).fr HF.out (by have:=HZ.out;omega));clear R hv i4 HW;dsimp only;have g5:((at_ s (4*t)*256+at_ s (4*t+1))*256+at_ s (4*t+2))*256+at_ s (4*t+3)=iG s t:=rfl;rw[g5];clear g5
    go_wp2_with fail;go_roundw
    case rel=>exact⟨t+1,by omega,by go_num,c0,E,G,b8⟩
    case measure=>simp[intOf];omega
   ·have hd:decide ((t:Int)<16)=false:=decide_eq_false (by omega);obtain⟨M,b0⟩:=nM (at_ (aP s t) (t-15));obtain⟨N,b7⟩:=nM (at_ (aP s t) (t-2));obtain⟨f,c1⟩:∃i,i=t-15:=⟨_,rfl⟩
    obtain⟨i2,h2⟩:∃i,i=t-2:=⟨_,rfl⟩
    obtain⟨i16,b'⟩:∃i,i=t-16:=⟨_,rfl⟩
    obtain⟨D,h7⟩:∃i,i=t-7:=⟨_,rfl⟩
    have i6:((t:Int)-15)=(f:Int):=by omega
    have e2:((t:Int)-2)=(i2:Int):=by omega
    have i9:((t:Int)-16)=(i16:Int):=by omega
    have e7:((t:Int)-7)=(D:Int):=by omega
    have c6:(aP s t).length=t:=dV s t;have b9:Hid ((aQ 64 (aP s t))[f]?=some (.int .u32 M)):=Ld (by rw[b0,<-c1];exact dh (by omega));have g9:Hid ((aQ 64 (aP s t))[i2]?=some (.int .u32 N)):=Ld (by rw[b7,<-h2];exact dh (by omega));have c':Hid ((aQ 64 (aP s t))[i16]?=some (.int .u32 (at_ (aP s t) i16))):=Ld (dh (by omega));have i':Hid ((aQ 64 (aP s t))[D]?=some (.int .u32 (at_ (aP s t) D))):=Ld (dh (by omega));have c4:0<=M/\M<4294967296:=by rw[b0];exact tR HS.out HB.out t _
    have y:0<=N/\N<4294967296:=by rw[b7];exact tR HS.out HB.out t _
    have j1:(f:Int)<64:=by omega
    have l2:(i2:Int)<64:=by omega
    have j2:(i16:Int)<64:=by omega
    have l7:(D:Int)<64:=by omega
    have j3:IntKind.i64.wrap (f:Int)=(f:Int):=IntWalk.i64_in _ (by omega);have w2:IntKind.i64.wrap (i2:Int)=(i2:Int):=IntWalk.i64_in _ (by omega);have j4:IntKind.i64.wrap (i16:Int)=(i16:Int):=IntWalk.i64_in _ (by omega);have w7:IntKind.i64.wrap (D:Int)=(D:Int):=IntWalk.i64_in _ (by omega);have d':=Ld b0;have f':=Ld b7;have HI:Hid (f=t-15/\i2=t-2/\i16=t-16/\D=t-7):=Ld ⟨c1,h2,b',h7⟩;clear c6 b0 b7 c1 h2 b' h7
    go_wp2_with fail;refine ah (λw'=>ac w' b 250 (aQ 64 (aP s t))) [(true,0),(true,1),(true,2),(true,3),(true,4),(true,5),(true,6),(true,7),(true,8),(true,9)] (by kernel_rfl) (by kernel_rfl) c.out (λi3=>?_);have i5:∀p:HW (λw'=>ac w' b 250 (aQ 64 (aP s t))),p.w.cell? ⟨b,f,none⟩=some (.int .u32 M):=λp=>(p.h.cell f).trans b9.out
    have q2:∀p:HW (λw'=>ac w' b 250 (aQ 64 (aP s t))),p.w.cell? ⟨b,i2,none⟩=some (.int .u32 N):=λp=>(p.h.cell i2).trans g9.out
    iterate 10 (refine af (o:=.mk ..) rfl (λK hK=>?_);go_simp;refine hK _ ?_;clear hK K)
    clear i5 q2 i3;refine au ?_;have i1:=cell_regrown (show(wr.drew).cell? ⟨b,i16,none⟩=some (.int .u32 (at_ (aP s t) i16))from(c.out.drew.cell i16).trans c'.out);have c7:=cell_regrown (show(wr.drew).cell? ⟨b,D,none⟩=some (.int .u32 (at_ (aP s t) D))from(c.out.drew.cell D).trans i'.out)
    have cT:∀(x:Int) (k:Nat),(0<=x/\x<4294967296)->(1<=k/\k<=31)->∀d os,Calls prog 175 #[.int .u32 x,.int .i64 (k:Int)] (grow (redrawn wr.drew d) os) λe w''=>e= .returned (.int .u32 (eH x k))/\∃p:Regrown,w''=grow (redrawn wr.drew p.d) p.os:=
     λx k hx hk=>cn (λW _=>(kQ x k W hx hk).mono λe w' h=>⟨h.1,by rw[<-h.2];exact aa.refl _⟩)
    have t1:=cT M 7 c4 (by omega);have t2:=cT M 18 c4 (by omega);have t3:=cT N 17 y (by omega);have t4:=cT N 19 y (by omega);clear cT
    go_wp2_with fail;refine dY 29 (by kernel_rfl) (by kernel_rfl) ?_;simp only[List.take_succ_cons,List.take_zero,List.drop_succ_cons,List.drop_zero]
    repeat(quiet_step (first|exact t1 _ _|exact t2 _ _|exact t3 _ _|exact t4 _ _))
    refine wpQuiet_nil ?_;intro J g3;have r:Hid (aa wr J):=Ld (aa.tr (aa.dr (aa.refl wr)) g3);obtain⟨v,hv⟩:=qq (n:=64) (L:=aP s t) Y;have c5:J.cell? ⟨b,t,none⟩=some v:=((r.out.blk c.out).cell t).trans hv;have f5:J.frozen? ⟨b,t,none⟩=false:=(r.out.blk c.out).frozen t;obtain⟨val,l⟩:=nM ((bS (bS (bS (at_ (aP s t) i16) (GC M)) (at_ (aP s t) D)) (GD N)));have I:IntKind.u32.wrap (IntKind.u32.wrap (IntKind.u32.wrap (at_ (aP s t) i16+bits BinOp.xor .u32 (bits BinOp.xor .u32 (eH M 7) (eH M 18)) (M/8))+at_ (aP s t) D)+bits BinOp.xor .u32 (bits BinOp.xor .u32 (eH N 17) (eH N 19)) (N/1024))=val:=l.symm;rw[I];have HF:Hid (Fr (λk=>k=b) J (J.setCell ⟨b,t,none⟩ (.int .u32 val))):=Ld ((Fr.refl (λk=>k=b) J).setCell (p:=⟨b,t,none⟩) (λ_=>rfl) _);have c0:Hid (aa w (J.setCell ⟨b,t,none⟩ (.int .u32 val))):=Ld ((HN.out.tr r.out).fr HF.out (λk hk=>by have:=HZ.out;omega))
    have b8:Hid (ac (J.setCell ⟨b,t,none⟩ (.int .u32 val)) b 250 (aQ 64 (aP s (t+1)))):=Ld (by
     have:=(r.out.blk c.out).set t (.int .u32 val);have h2:=qt (n:=64) (L:=aP s t) val (by rw[dV];exact Y);rw[dV]at h2;rw[h2,l,d'.out,f'.out,HI.out.2.2.1,HI.out.2.2.2]at this;rw[l,d'.out,f'.out,HI.out.2.2.1,HI.out.2.2.2]
     simpa[aP,c3]using this)
    have E:Hid (ac (J.setCell ⟨b,t,none⟩ (.int .u32 val)) H 67 (ag s)):=Ld ((r.out.blk j.out).fr HF.out (by have:=HZ.out;omega));have G:Hid (ac (J.setCell ⟨b,t,none⟩ (.int .u32 val)) b2 250 (aQ 64 [])):=Ld ((r.out.blk m.out).fr HF.out (by have:=HZ.out;omega));clear g3 hv t1 t2 t3 t4 i1 c7 l I c4 y
    go_wp2_with fail;go_roundw
    case rel=>exact⟨t+1,by omega,by go_num,c0,E,G,b8⟩
    case measure=>simp[intOf];omega
  ·obtain rfl:t=64:=by omega
   have Z:(aQ 64 (aP s 64)).size=64:=ia (by rw[dV];exact Nat.le_refl _);have c8:(aQ 64 []).size=(aQ 64 (aP s 64)).size:=by rw[Z];exact ia (by simp)
   go_wp2_with (first
    |(refine cE 59 rfl ?_;refine ae rfl _ rfl underlying250 rfl (by rw[Z];rfl) rfl c.out ?_)
    |((with_reducible refine eC ⟨none,.store 250 (.tmp 2) _,_,_,_,_⟩ ?_);refine ao rfl (.tmp 2) (.tmp 59) rfl (by rw[Z];rfl) rfl rfl m.out c8 (vG _ _) ?_;intro w8 g4 g6;have g8:=Ld g4;have i0:=Ld g6;clear g4 g6))
   refine bodyPost_ret (v:=.agg (aQ 64 (aP s 64))) (eh rfl _ _ b2 _ _ rfl g8.out underlying250 rfl (by rw[Z];rfl)) rfl ⟨rfl,HN.out.fr i0.out (λk hk=>by have:=HZ.out;omega)⟩
end Go.Proofs.YtfchcdbfalgdlaaGreatDoor
