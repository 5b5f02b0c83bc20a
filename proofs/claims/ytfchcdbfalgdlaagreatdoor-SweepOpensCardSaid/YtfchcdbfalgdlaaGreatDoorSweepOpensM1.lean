/- Texts of one proof. No condition but each one's own. -/
import Derived.WalkKit
import Derived.ProofKit
import Derived.Deep.AppendLies
import Derived.Deep.Draws
import Derived.Maps.AppendAt
import Derived.Laws.AppendOwnNone
import Derived.Lib.Hide
import Derived.WalkSpells
import Derived.WalkLawsBesides
import Derived.Deep.LoopGhost
import Derived.Deep.QuietTactic
import Derived.BigQuiet
import Derived.Deep.RegionWith
import Derived.Deep.RegionHeld3
import Derived.Deep.RegionLaw
import Derived.BigGuardPart
import Derived.Deep.Light
import Derived.Deep.DeepCutAuto
import Derived.Deep.DeepMust
import Derived.Lib.QuietBelowIn
import Derived.Sort.QuietTacIn
import Derived.RangeFuncCalls
import Derived.StillTail
import Derived.Test.YtfchcdbfalgdlaaGreatDoorRows
import Derived.OrdersHeld
import Derived.Laws.BytesArg
import Derived.Deep.WholeRow
import Derived.Deep.MidRow
import Derived.Stop.BytesEq
import Derived.RangeFuncNested
import Derived.RangeFuncBound
set_option maxHeartbeats 4000000
set_option maxRecDepth 100000
set_option linter.unusedVariables false
set_option linter.unusedSimpArgs false
namespace Go.Proofs.YtfchcdbfalgdlaaGreatDoor
open _root_.Go.Proofs.Tryz
open Go.RowKit
theorem Ld{p:Prop}(h:p):Hid p:=Lib.hid h
theorem nM{α:Sort _}(x:α):∃y,y=x:=⟨x,rfl⟩
theorem bK{α:Type _}(l:List α)(i:Nat)(a:α):l.toArray.setIfInBounds i a=(l.set i a).toArray:=List.setIfInBounds_toArray ..
theorem bM{α:Type _}{a b:α}{l:List α}:(a::l).set 0 b=b::l:=List.set_cons_zero
theorem bO{α:Type _}{a b:α}{l:List α}{n:Nat}:(a::l).set (n+1) b=a::l.set n b:=List.set_cons_succ
structure Fe(p:Prop):Prop where
 out:p
theorem dC{p:Prop}(h:Fe p):p:=h.out
structure Fr(S:Nat→Prop)(w w':World):Prop where
 os:w'.os=w.os
 tape:w'.tape=w.tape
 output:w'.output=w.output
 size:w.heap.size≤w'.heap.size
 block:∀k,k<w.heap.size→¬S k→w'.heap[k]?=w.heap[k]?
def ia:Nat→Prop:=fun _=>False
section
variable {S T:Nat→Prop}{w w' w'':World}
theorem Fr.refl(S:Nat→Prop)(w:World):Fr S w w:=⟨rfl,rfl,rfl,Nat.le_refl _,fun _ _ _=>rfl⟩
theorem Fr.trans' (h:Fr S w w')(k:Fr T w' w'')(d:∀b,b<w.heap.size→T b→S b):Fr S w w'':=
 ⟨k.os.trans h.os,k.tape.trans h.tape,k.output.trans h.output,Nat.le_trans h.size k.size,fun i hi c=>
  (k.block i (Nat.lt_of_lt_of_le hi h.size) (fun ht=>c (d i hi ht))).trans (h.block i hi c)⟩
theorem Fr.trans(h:Fr S w w')(k:Fr S w' w''):Fr S w w'':=h.trans' k fun _ _ x=>x
theorem Fr.mono(h:Fr S w w')(hS:∀b,b<w.heap.size→S b→T b):Fr T w w':=
 ⟨h.os,h.tape,h.output,h.size,fun i hi c=>h.block i hi fun x=>c (hS i hi x)⟩
theorem Fr.drew(h:Fr S w w'):Fr S w w'.drew:=⟨h.os,h.tape,h.output,h.size,h.block⟩
theorem Fr.ofDrew(h:Fr S w.drew w'):Fr S w w':=⟨h.os,h.tape,h.output,h.size,h.block⟩
theorem Fr.alloc(h:Fr S w w')(o:Obj):Fr S w (w'.alloc o):=
 h.trans ⟨rfl,rfl,rfl,by simp,fun k b _=>Below.heap_alloc _ _ _ b⟩
theorem Fr.setCell(h:Fr S w w'){p:Addr}(d:p.block<w.heap.size→S p.block)(u:Value):Fr S w (w'.setCell p u):=
 h.trans' (T:=fun k=>k=p.block) ⟨rfl,rfl,rfl,by simp[World.setCell],fun k _ f=>Below.heap_setCell _ _ _ _ f⟩ fun b c e=>by subst e;exact d c
theorem Fr.grown{row:Option Nat}(h:Fr S w w')(b:w'.grownBy w'' row)(d:∀k,k<w.heap.size→row=some k→S k):Fr S w w'':=
 h.trans' (T:=fun k=>row=some k) ⟨b.os,b.tape,b.output,b.size,fun k c f=>b.block k c fun e=>f e.symm⟩ d
theorem Fr.cell(h:Fr S w w'){p:Addr}(b:p.block<w.heap.size)(c:¬S p.block):w'.cell? p=w.cell? p:=World.cell?_of_block (w:=w) (h.block p.block b c)
theorem Fr.frozen(h:Fr S w w'){p:Addr}(b:p.block<w.heap.size)(c:¬S p.block):w'.frozen? p=w.frozen? p:=World.frozen?_of_block (w:=w) (h.block p.block b c)
theorem Fr.cell_some(h:Fr S w w'){p:Addr}{v:Value}(b:w.cell? p=some v)(c:¬S p.block):w'.cell? p=some v:=(h.cell (World.block_lt_of_cell? w p b) c).trans b
end
def ab(w:World)(g:Nat)(t:TypeId)(cs:Array Value):Prop:=w.heap[g]?=some (.cells cs t (0,0))
section
variable {w w':World}{g:Nat}{t:TypeId}{cs:Array Value}
theorem ab.lt(h:ab w g t cs):g<w.heap.size:=lt_of_block h
theorem ab.cell(h:ab w g t cs)(i:Nat):w.cell? ⟨g,i,none⟩=cs[i]? :=cell_of_row w g i cs t (0,0) h
theorem ab.frozen(h:ab w g t cs)(i:Nat):w.frozen? ⟨g,i,none⟩=false:=frozen_of_row w g i cs t h
theorem ab.new(w:World)(t:TypeId)(cs:Array Value):ab (w.alloc (.cells cs t)) w.heap.size t cs:=heap_alloc_new w _
theorem ab.set(h:ab w g t cs)(i:Nat)(u:Value):ab (w.setCell ⟨g,i,none⟩ u) g t (cs.setIfInBounds i u):=heap_setCell_same w g i cs t u h
theorem ab.fr{S:Nat→Prop}(h:ab w g t cs)(b:Fr S w w')(c:¬S g):ab w' g t cs:=(b.block g h.lt c).trans h
theorem ab.far(h:ab w g t cs){p:Addr}(b:g≠p.block)(u:Value):ab (w.setCell p u) g t cs:=(Below.heap_setCell w p u g b).trans h
theorem ab.alloc(h:ab w g t cs)(o:Obj):ab (w.alloc o) g t cs:=(Below.heap_alloc w o g h.lt).trans h
theorem ab.ne_{g':Nat}{d:TypeId}{cs':Array Value}(h:ab w g t cs)(b:ab w g' d cs')(c:t≠d):g≠g':=by
 rintro rfl;unfold ab at h b;rw[h]at b;injection b with b;injection b with _ ht;exact c ht
end
section
variable {w w':World}{base:Nat}{e:TypeId}{size n:Nat}{v:Value}{xs:List Value}
theorem bG{g:Nat}{t:TypeId}{cs:Array Value}(h:w.ownsRow base e size v n xs)(d:ab w g t cs)(b:e≠t):v.ownBlock≠some g:=by
 rcases h.2 with⟨rfl,_⟩|⟨g',cap,cur,rfl,_,f,_⟩
 ·simp[Value.ownBlock]
 ·intro c;have:g'=g:=by simpa [Value.ownBlock] using c
  subst this;exact ab.ne_ (t:=e) f d b rfl
theorem bD{S:Nat→Prop}(h:w.ownsRow base e size v n xs)(d:Fr S w w')(i:∀k,v.ownBlock=some k→¬S k):w'.ownsRow base e size v n xs:=by
 refine⟨h.1,?_⟩;rcases h.2 with h0|⟨g,cap,cur,rfl,c,b,f⟩
 ·exact .inl h0
 ·exact .inr ⟨g,cap,cur,rfl,c,(d.block g (lt_of_block b) (i g rfl)).trans b,f⟩
theorem iR{b:Nat}(h:w.ownsRow base e size v n xs)(c:∀k,v.ownBlock=some k→b≤k):w.ownsRow b e size v n xs:=by
 refine⟨h.1,?_⟩;rcases h.2 with h0|⟨g,cap,cur,rfl,_,d,f⟩
 ·exact .inl h0
 ·exact .inr ⟨g,cap,cur,rfl,c g rfl,d,f⟩
theorem ak(h:w.ownsRow base e size v n xs):∀k,v.ownBlock=some k→base≤k∧k<w.heap.size:=h.lt
theorem dh(h:w.ownsRow base e size v n xs)(b:0<n):∃g cap,v=.slice (some ⟨g,0,none⟩) n cap∧n≤cap∧cap≤maxLen:=by
 rcases h.2 with⟨_,h0⟩|⟨g,cap,cur,rfl,_,_,h1,h2,_⟩
 ·omega
 ·exact⟨g,cap,rfl,h1,h2⟩
theorem gx(h:w.ownsRow base e size v n xs):∃A cap,v=.slice A n cap∧n≤cap∧cap≤maxLen∧(A=none→n=0∧cap=0)∧∀a,A=some a→a=⟨a.block,0,none⟩:=by
 rcases h.2 with⟨rfl,rfl⟩|⟨g,cap,cur,rfl,_,_,h1,h2,_⟩
 ·exact⟨none,0,rfl,Nat.le_refl _,Nat.zero_le _,fun _=>⟨rfl,rfl⟩,fun a b=>by cases b⟩
 ·exact⟨_,cap,rfl,h1,h2,(by intro h;cases h),(by intro a b;injection b with b;subst b;rfl)⟩
end
theorem eu(a:Addr)(n:Nat):(a.add n).block=a.block:=by unfold Addr.add;split<;>rfl
theorem sM(a:Addr)(i j:Nat):(a.add i).add j=a.add (i+j):=by
 unfold Addr.add
 by_cases hi:i=0<;>by_cases b:j=0<;>simp[hi,b,Nat.add_assoc]
theorem gg(g j:Nat):(⟨g,0,none⟩:Addr).add j=⟨g,j,none⟩:=by
 unfold Addr.add
 by_cases b:j=0<;>simp[b]
def Rd(p:Nat→Prop)(w:World)(size:Nat)(A:Option Addr)(n:Nat)(xs:List Value):Prop:=
 xs.length=n*size∧(0<n→∃b,A=some b∧p b.block∧b.block<w.heap.size∧∀j u,xs[j]?=some u→w.cell? (b.add j)=some u)
section
variable {p q S:Nat→Prop}{w w':World}{size n:Nat}{A:Option Addr}{xs:List Value}
theorem Rd.nil:Rd p w size A 0 []:=⟨by simp,fun h=>absurd h (by omega)⟩
theorem Rd.out(h:Rd p w size A n xs)(d:0<n)(m:0<size):∃g o,A=some ⟨g,o,none⟩∧p g∧g<w.heap.size∧∀j u,xs[j]?=some u→w.cell? ⟨g,o+j,none⟩=some u:=by
 obtain⟨⟨g,o,f⟩,e,l,i,c⟩:=h.2 d;have hl:0<xs.length:=by rw[h.1];exact Nat.mul_pos d m
 have h0:=c 0 _ (List.getElem?_eq_getElem hl)
 have b:f=none:=by
  cases f with
  |none=>rfl
  |some x=>
   simp only[Addr.add,if_true,World.cell?]at h0;split at h0<;>simp at h0
 subst b;refine⟨g,o,e,l,i,fun j u hu=>?_⟩;have:=c j u hu;unfold Addr.add at this;split at this
 ·next k=>subst k;exact this
 ·exact this
theorem Rd.fr(h:Rd p w size A n xs)(d:Fr S w w')(m:∀k,p k→¬S k):Rd p w' size A n xs:=
 ⟨h.1,fun l=>by
  obtain⟨b,e,f,c,i⟩:=h.2 l
  exact⟨b,e,f,Nat.lt_of_lt_of_le c d.size,fun j u hu=>by
   have:=i j u hu
   rwa[←d.cell (p:=b.add j) (by rw[eu];exact c) (by rw[eu];exact m _ f)]at this⟩⟩
theorem Rd.imp(h:Rd p w size A n xs)(f:∀k,p k→q k):Rd q w size A n xs:=
 ⟨h.1,fun c=>by obtain⟨b,e,d,r⟩:=h.2 c;exact⟨b,e,f _ d,r⟩⟩
theorem Rd.own{base:Nat}{e:TypeId}{v:Value}(h:w.ownsRow base e size v n xs){c:Nat}(i:v=.slice A n c):Rd (fun k=>v.ownBlock=some k) w size A n xs:=by
 refine⟨h.1,fun f=>?_⟩;obtain⟨g,cap,b,_⟩:=dh h f;subst b;injection i with d;subst d;exact⟨_,rfl,rfl,(ak h g rfl).2,h.cells (g:=g) rfl⟩
theorem Rd.drop(h:Rd p w size A n xs){k cap:Nat}(l:k≤n)(i:n≤cap):Rd p w size (if cap=k then A else A.map (·.add (k*size))) (n-k) (xs.drop (k*size)):=by
 refine⟨by rw[List.length_drop,h.1,Nat.sub_mul],fun m=>?_⟩;obtain⟨c,rfl,f,d,b⟩:=h.2 (by omega);rw[if_neg (by omega)];refine⟨c.add (k*size),rfl,by rw[eu];exact f,by rw[eu];exact d,fun j u hu=>?_⟩;rw[sM];exact b _ u (by rw[←hu,List.getElem?_drop])
end
structure aW(P:Program)(t e:TypeId)(size bytes:Nat):Prop where
 ht:P.underlying t=some (.slice e)
 info:∃i z,P.info? e=some i∧i.zero=some z∧i.size=size∧i.bytes=bytes∧z.cells.size=size
 pos:0<size
theorem aW.mk' {P:Program}{t e:TypeId}{z:Value}{size bytes:Nat}(ht:P.underlying t=some (.slice e))(h:(P.info? e).map (fun i=>(i.zero,i.size,i.bytes))=some (some z,size,bytes))
    (f:z.cells.size=size) (d:0<size):aW P t e size bytes:=by
 obtain⟨i,h1,h2,b,c⟩:=info_parts h;exact⟨ht,⟨i,z,h1,h2,b,c,f⟩,d⟩
theorem lj{P:Program}(w:World)(base:Nat)(t ty e:TypeId)(i:TypeInfo)(size:Nat)(ht:P.underlying t=some (.slice e))(hi:P.info? e=some i)
    (v:Value) (n:Nat) (xs:List Value) (b:w.ownsRow base e size v n xs) (c:Nat):(Builtin.append_ #[t,t] ty #[v,.slice none 0 c]).run P w=.ok v w:=by
 rcases b.2 with⟨rfl,rfl⟩|⟨g,cap,cur,rfl,_,_,d,_⟩
 ·simp[Builtin.append_,run_underlying ht,sizeOf,typeInfo,hi,Builtin.lenOf,Builtin.firstCells]
 ·simp[Builtin.append_,run_underlying ht,sizeOf,typeInfo,hi,Builtin.lenOf,Builtin.firstCells,d,storeCells]
theorem wT{P:Program}{t e:TypeId}{size bytes:Nat}(E:aW P t e size bytes)(w:World)(base:Nat)(ty:TypeId)
    (v:Value) (n:Nat) (xs:List Value) (d:w.ownsRow base e size v n xs)
    {p:Nat→Prop} (X:Option Addr) (m c:Nat) (b:List Value) (L:Rd p w size X m b) (h1:∀u∈b,u.oneCell'=true)
    (O:n+m≤maxLen) (l:(n+m)*bytes≤140737488355328) (y:base≤w.heap.size):
    ∃I J w',(Builtin.append_ #[t,t] ty #[v,.slice X m c]).run P w=.ok (.slice I (n+m) J) w'∧w'.ownsRow base e size (.slice I (n+m) J) (n+m) (xs++b)∧
     Fr (fun k=>v.ownBlock=some k) w w'∧(∀k,(Value.slice I (n+m) J).ownBlock=some k→v.ownBlock=some k∨w.heap.size≤k):=by
 obtain⟨i,z,hi,hz,D,R,V⟩:=E.info
 have key:∃G w',(Builtin.append_ #[t,t] ty #[v,.slice X m c]).run P w=.ok G w'∧w'.ownsRow base e size G (n+m) (xs++b)∧w.grownBy w' v.ownBlock∧
     (G.ownBlock=v.ownBlock∨G.ownBlock=some w.heap.size):=by
  rcases X with _|M
  ·have hm:m=0:=by
    rcases Nat.eq_zero_or_pos m with h0|h0
    ·exact h0
    ·obtain⟨M,h,_⟩:=L.2 h0
     cases h
   subst hm;have U:b=[]:=List.eq_nil_of_length_eq_zero (by simpa using L.1);subst U;exact⟨v,w,lj w base t ty e i size E.ht hi v n xs d c,by simpa using d,World.grownBy.refl w _,.inl rfl⟩
  ·have r:∀j u,b[j]?=some u→w.cell? (M.add j)=some u:=by
    intro j u hu;rcases Nat.eq_zero_or_pos m with h0|h0
    ·subst h0;have U:b=[]:=List.eq_nil_of_length_eq_zero (by simpa using L.1);subst U;simp at hu
    ·obtain⟨Y,h,_,_,Z⟩:=L.2 h0;injection h with h;subst h;exact Z j u hu
   obtain⟨G,w',f,h2,N,_,s⟩:=run_append_own_at (P:=P) w base t ty e i z size bytes E.ht hi hz D R V E.pos v n xs d M m c b L.1 r h1 O l y;exact⟨G,w',f,h2,N,s⟩
 obtain⟨G,w',f,h2,N,s⟩:=key;obtain⟨I,J,rfl,_⟩:=gx h2;refine⟨I,J,w',f,h2,(Fr.refl _ _).grown N (fun k _ H=>H),fun k H=>?_⟩;rcases s with s|s
 ·exact .inl (by rw[←s];exact H)
 ·rw[s]at H;injection H with H;exact .inr (by omega)
theorem sE{P:Program}{t e:TypeId}{size bytes:Nat}(E:aW P t e size bytes)(w:World){o:Oper}{a:Act}{K:Act→World→Prop}{Q:Exit→Act→World→Prop}(s x:Operand)
    (G:o.op=.call {callee:=.builtin .append,args:= #[s,x],argTypes:= #[t,t]})
    (base:Nat) (v:Value) (n:Nat) (xs:List Value) (I:a.eval s=v) (l:w.ownsRow base e size v n xs)
    {p:Nat→Prop} (X:Option Addr) (m c:Nat) (b:List Value) (J:a.eval x=.slice X m c) (H:Rd p w size X m b) (h1:∀u∈b,u.oneCell'=true)
    (y:n+m≤maxLen) (d:(n+m)*bytes≤140737488355328) (f:base≤w.heap.size)
    (h:∀i j w',w'.ownsRow base e size (.slice i (n+m) j) (n+m) (xs++b)→Fr (fun k=>v.ownBlock=some k) w w'→
     (∀k,(Value.slice i (n+m) j).ownBlock=some k→v.ownBlock=some k∨w.heap.size≤k)→K (a.put o.dst (.slice i (n+m) j)) w'):o.wp P a w K Q:=by
 obtain⟨i,j,w',r,h2,z,D⟩:=wT E w base o.type v n xs l X m c b H h1 y d f;unfold Oper.wp execOp;simp only[G,resolve,invoke,builtin,Sem.run_bind,Sem.run_pure,Result.andThen_ok,List.map_toArray,List.map_cons,List.map_nil,I,J,r];exact h i j w' h2 z D
theorem aq{P:Program}{t e:TypeId}{size bytes:Nat}(E:aW P t e size bytes)(w:World){ops:Array Oper}{rest:List Oper}{o:Oper}{a:Act}{Q:Exit→Act→World→Prop}(y:o.guard=none)(s x:Operand)
    (H:o.op=.call {callee:=.builtin .append,args:= #[s,x],argTypes:= #[t,t]})
    (base:Nat) (v:Value) (n:Nat) (xs:List Value) (J:a.eval s=v) (l:w.ownsRow base e size v n xs)
    {p:Nat→Prop} (X:Option Addr) (m c:Nat) (b:List Value) (L:a.eval x=.slice X m c) (I:Rd p w size X m b) (h1:∀u∈b,u.oneCell'=true)
    (r:n+m≤maxLen) (d:(n+m)*bytes≤140737488355328) (f:base≤w.heap.size)
    (h:∀i j w',w'.ownsRow base e size (.slice i (n+m) j) (n+m) (xs++b)→Fr (fun k=>v.ownBlock=some k) w w'→
     (∀k,(Value.slice i (n+m) j).ownBlock=some k→v.ownBlock=some k∨w.heap.size≤k)→wpList P ops Q rest (a.put o.dst (.slice i (n+m) j)) w'):wpList P ops Q (o::rest) a w:=
 wpList_plain y fun _ G=>sE E w s x H base v n xs J l X m c b L I h1 r d f fun i j w' h2 z D=>G _ _ (h i j w' h2 z D)
theorem cq{P:Program}{t e:TypeId}{size bytes:Nat}(E:aW P t e size bytes)(w:World){ops:Array Oper}{o:Oper}{a:Act}{K:Act→World→Prop}{Q:Exit→Act→World→Prop}{F:Prop}(y:o.guard=none)(s x:Operand)
    (z:o.op=.call {callee:=.builtin .append,args:= #[s,x],argTypes:= #[t,t]})
    (base:Nat) (v:Value) (n:Nat) (xs:List Value) (G:a.eval s=v) (i:w.ownsRow base e size v n xs)
    {p:Nat→Prop} (X:Option Addr) (m c:Nat) (b:List Value) (I:a.eval x=.slice X m c) (D:Rd p w size X m b) (h1:∀u∈b,u.oneCell'=true)
    (r:n+m≤maxLen) (d:(n+m)*bytes≤140737488355328) (f:base≤w.heap.size)
    (h:∀j l w',w'.ownsRow base e size (.slice j (n+m) l) (n+m) (xs++b)→Fr (fun k=>v.ownBlock=some k) w w'→
     (∀k,(Value.slice j (n+m) l).ownBlock=some k→v.ownBlock=some k∨w.heap.size≤k)→K (a.put o.dst (.slice j (n+m) l)) w'):
    if Region.wanted o (yielded ops a.tmps)=true then Oper.wp P o a w K Q else F:=by
 have H:Region.wanted o (yielded ops a.tmps)=true:=by simp[Region.wanted,y]
 rw[if_pos H];exact sE E w s x z base v n xs G i X m c b I D h1 r d f h
theorem Rd.new{p:Nat→Prop}(w:World)(cs:Array Value)(t:TypeId)(size m:Nat)(b:cs.size=m*size)(c:p w.heap.size):Rd p (w.alloc (.cells cs t)) size (some ⟨w.heap.size,0,none⟩) m cs.toList:=
 ⟨by simpa using b,fun _=>⟨_,rfl,c,by simp,fun j u hu=>by rw[gg];rw[(ab.new w t cs).cell j];simpa using hu⟩⟩
theorem Rd.ofBlk{p:Nat→Prop}{w:World}{g:Nat}{cs:Array Value}{t:TypeId}(h:ab w g t cs)(size m:Nat)(b:cs.size=m*size)(c:p g):Rd p w size (some ⟨g,0,none⟩) m cs.toList:=
 ⟨by simpa using b,fun _=>⟨_,rfl,c,h.lt,fun j u hu=>by rw[gg];rw[h.cell j];simpa using hu⟩⟩
abbrev aa(w w':World):Prop:=Below w.heap.size w w'
section
variable {w w' w'':World}
theorem aa.refl(w:World):aa w w:=Below.refl _ _
theorem aa.tr(h:aa w w')(k:aa w' w''):aa w w'':=Below.trans h (Below.mono k h.size)
theorem aa.al(h:aa w w')(o:Obj):aa w (w'.alloc o):=Below.alloc h h.size o
theorem aa.dr(h:aa w w'):aa w w'.drew:=h.drew
theorem aa.dn(h:aa w w')(n:Nat):aa w (w'.drewN n):=⟨h.os,h.tape,h.output,h.size,h.block⟩
theorem aa.fr{S:Nat→Prop}(h:aa w w')(b:Fr S w' w'')(hS:∀k,S k→w.heap.size≤k):aa w w'':=
 ⟨b.os.trans h.os,b.tape.trans h.tape,b.output.trans h.output,Nat.le_trans h.size b.size,fun i hi=>
  (b.block i (Nat.lt_of_lt_of_le hi h.size) (fun c=>by have:=hS i c;omega)).trans (h.block i hi)⟩
theorem aa.toFr(S:Nat→Prop)(h:aa w w'):Fr S w w':=⟨h.os,h.tape,h.output,h.size,fun k b _=>h.block k b⟩
theorem aa.cell_(h:aa w w'){p:Addr}{v:Value}(b:w.cell? p=some v):w'.cell? p=some v:=
 (World.cell?_of_block (w:=w) (h.block p.block (World.block_lt_of_cell? w p b))).trans b
theorem aa.blk(h:aa w w'){g:Nat}{t:TypeId}{cs:Array Value}(b:ab w g t cs):ab w' g t cs:=(h.block g b.lt).trans b
theorem aa.own(h:aa w w'){base e size n:Nat}{v:Value}{xs:List Value}(b:w.ownsRow base e size v n xs):w'.ownsRow base e size v n xs:=
 bD b (h.toFr ia) (fun _ _ x=>x)
theorem aa.rd(h:aa w w'){p:Nat→Prop}{size n:Nat}{A:Option Addr}{xs:List Value}(b:Rd p w size A n xs):Rd p w' size A n xs:=
 b.fr (h.toFr ia) (fun _ _ x=>x)
end
theorem ab.drew{w:World}{g:Nat}{t:TypeId}{cs:Array Value}(h:ab w g t cs):ab w.drew g t cs:=h
theorem ab.drewN{w:World}{g:Nat}{t:TypeId}{cs:Array Value}(h:ab w g t cs)(n:Nat):ab (w.drewN n) g t cs:=h
theorem ab.new' {g:Nat}(w:World)(t:TypeId)(cs:Array Value)(h:g=w.heap.size):ab (w.alloc (.cells cs t)) g t cs:=h▸ab.new w t cs
theorem bF{w:World}{g:Nat}{t:TypeId}{a b:Value}(h:ab w g t #[a,b])(X Y:Value):ab ((w.setCell ⟨g,0,none⟩ X).setCell ⟨g,1,none⟩ Y) g t #[X,Y]:=by
 have:=(h.set 0 X).set 1 Y
 simpa using this
theorem eA{P:Nat}{w:World}{g:Nat}{t:TypeId}{size:Nat}(h:ab w g t #[])(b:P≤g):w.ownsRow P t size (.slice (some ⟨g,0,none⟩) 0 0) 0 []:=
 ⟨by simp,.inr ⟨g,0, #[],rfl,b,h,Nat.le_refl _,Nat.zero_le _,by simp,by simp⟩⟩
end Go.Proofs.YtfchcdbfalgdlaaGreatDoor
namespace Go.Proofs.YtfchcdbfalgdlaaGreatDoor
open _root_.Go.Proofs.Tryz
open Go.RowKit Go.Sort
def ip(o:Oper):Bool:=match o.op with| .defer _=>false|_=>true
theorem rN{o:Oper}(h:ip o=true):∀c,o.op≠.defer c:=by
 intro c e;unfold ip at h;rw[e]at h
 cases h
section
variable {F:Fence}{n:Nat}{P:Program}{ops:Array Oper}{md:Region.Mode}{Q:Exit→Act→World→Prop}
theorem pL(r:Nat)(b:F.round=none){o:Oper}{a:Act}{w:World}{K:Act→World→Prop}(hd:ip o=true)(h:o.wpIn F n P a w K Q):o.wpIn (F.inRound r) n P a w K Q:=by
 unfold Oper.wpIn at*;refine⟨h.1,?_⟩;have h2:=h.2;rw[b,Oper.semAt_none]at h2;rw[Oper.semAt_eq _ _ _ (rN hd)];exact h2
theorem fR(r:Nat)(c:F.round=none)(hd:∀(i:Nat) (o:Oper),ops[i]?=some o→ip o=true):∀(b:Nat) (listed:Array Bool) (a:Act) (w:World),wpAnyIn F n P md ops Q b listed a w→wpAnyIn (F.inRound r) n P md ops Q b listed a w
 | 0,_,_,_,h=>h
 |b+1,listed,a,w,h=>by
  refine⟨h.1,fun i hi=>?_⟩;have h1:=wpOpIn_mono (fun a w=>fR r c hd b _ a w) (h.2 i hi);unfold wpOpIn at h1⊢
  cases ho:ops[i]? with
  |none=>simpa[ho]using h1
  |some o=>
   simp only[ho]at h1⊢
   by_cases d:Region.wanted o (yielded ops a.tmps)=true
   ·rw[if_pos d]at h1⊢;exact pL r c (hd i o ho) h1
   ·rw[if_neg d]at h1⊢;exact h1
theorem cE{id:Nat}{a:Act}{w:World}{l:List Oper}(r:Nat)(c:F.round=none)(m:P.follows .mixedOrders=true)(k:Region.lexB .any l.toArray=true)(hd:l.all ip=true)
    (h:wpQuietIn F n P l.toArray (fun w'=>∃p:Regrown,w'=grow (redrawn w p.d) p.os) (fun d=>∀w',(∃p:Regrown,w'=grow (redrawn w p.d) p.os)→Q .normal d w') l a):(Code.region id l.toArray true).wpIn (F.inRound r) n P Q a w:=by
 have b:=k;simp only[Region.lexB,Bool.and_eq_true]at b;refine wpIn_region_any m (fR r c ?_ _ _ _ _ (wpAnyIn_of_quiet (C:=fun w'=>∃p:Regrown,w'=grow (redrawn w p.d) p.os) (Q:=fun d=>∀w',(∃p:Regrown,w'=grow (redrawn w p.d) p.os)→Q .normal d w') c (fun _ w' j h=>h w' j) _ _ _ _ ⟨⟨w.drawn+1, #[]⟩,by rw[grow_empty];rfl⟩ ?_))
 ·intro i o s;have f:l[i]? =some o:=by simpa using s
  exact List.all_eq_true.1 hd o (List.mem_of_getElem? f)
 ·have:=wpAnyQIn_lex (F:=F) (n:=n) (C:=fun w'=>∃p:Regrown,w'=grow (redrawn w p.d) p.os) (md:=.any) b.1 l 0 (Array.replicate l.toArray.size false) a (by simp) (by simpa using b.2) h
  simpa using this
end
theorem bV{P:Program}{f:FuncId}{args:Array Value}{w:World}{v:Value}(h:∀W,aa w W→Calls P f args W fun e w'=>e=.returned v∧aa W w'):
    ∀d os,Calls P f args (grow (redrawn w d) os) fun e w''=>e=.returned v∧∃p:Regrown,w''=grow (redrawn w p.d) p.os:=
 fun d os=>Calls.regrown_of (h _ (below_regrown w d os))
theorem nh{P:Program}{f:FuncId}{args:Array Value}{w:World}{v:Value}{n:Nat}(h:∀W,aa w W→Calls P f args W fun e w'=>e=.returned v∧aa W w'):
    ∀d os,CallsIn Fence.wide n P f args (grow (redrawn w d) os) fun e w''=>e=.returned v∧∃p:Regrown,w''=grow (redrawn w p.d) p.os:=
 fun d os=>callsIn_wide.2 (bV h d os)
section
variable {P:Program}{ops:Array Oper}{md:Region.Mode}{C:World→Prop}
def ma(P:Program)(md:Region.Mode)(ops:Array Oper)(C:World→Prop)(n:Nat)(L:Array Bool→Act→Prop):Nat→Array Bool→Act→Prop
 | 0,listed,a=>L listed a
 |f+1,listed,a=>Region.ready md ops listed≠ []∧∀i∈Region.ready md ops listed,i<n∧qOp P ops C i (ma P md ops C n L f (listed.setIfInBounds i true)) a
theorem jX{n g:Nat}{L:Array Bool→Act→Prop}{Q':Exit→Act→World→Prop}(d:∀listed a w,C w→L listed a→wpAny P md ops Q' g listed a w):
    ∀(f:Nat) (listed:Array Bool) (a:Act) (w:World),C w→ma P md ops C n L f listed a→wpAny P md ops Q' (f+g) listed a w
 | 0,listed,a,w,b,h=>by rw[Nat.zero_add];exact d _ _ _ b h
 |f+1,listed,a,w,b,h=>by
  rw[show f+1+g=(f+g)+1 by omega];exact⟨fun h0=>absurd h0 h.1,fun i hi=>wpOp_of_qOp b (fun j w' c k=>jX d f _ j w' c k) (h.2 i hi).2⟩
theorem pK{n i:Nat}{oi:Oper}{v:Value}{L:Array Bool→Act→Prop}(hi:ops[i]?=some oi)(y:∀(j:Nat) (o:Oper) cs b,ops[j]?=some o→o.op≠.select cs b)
    (Z:Region.sinkB md ops n=true) (X:Region.chainB md ops n=true) (Y:n<ops.size) (J:i<n)
    (z:∀listed a,L listed a→∀j∈Region.ready md ops listed,n≤j):
    ∀(f:Nat) (listed:Array Bool) (a:Act),HeadInv md ops n listed→
     (∀j G,ops[j]?=some G→j≠i→listed.getD j true=false→(∀e∈G.after,Region.binds md e=true→e.on≠i)→oi.apart ops G=true)→
     i∈Region.ready md ops listed→YieldsIn P ops C oi v a→
     ma P md ops C n L f (listed.setIfInBounds i true) (a.put oi.dst v)→ma P md ops C n L (f+1) listed a:=by
 intro f
 induction f with
 |zero=>
  intro listed a inv _ u O H;have d:=(mem_ready.1 u).1;refine⟨fun h=>(by rw[h]at u;cases u),fun j D=>?_⟩
  have r:j<n:=by
   rcases Nat.lt_or_ge j n with h|h
   ·exact h
   ·exact absurd D (tail_waits Z X Y inv _ i rfl J d j h)
  refine⟨r,?_⟩
  by_cases c:j=i
  ·subst c;exact O.qOp hi H
  ·have:=z _ _ H j (ready_mono D c);omega
 |succ f ih=>
  intro listed a inv l u O H;have d:=(mem_ready.1 u).1;refine⟨fun h=>(by rw[h]at u;cases u),fun j D=>?_⟩
  have r:j<n:=by
   rcases Nat.lt_or_ge j n with h|h
   ·exact h
   ·exact absurd D (tail_waits Z X Y inv _ i rfl J d j h)
  refine⟨r,?_⟩
  by_cases c:j=i
  ·subst c;exact O.qOp hi H
  ·have h1:=(H.2 j (ready_mono D c)).2;obtain⟨s,G,E,I⟩:=mem_ready.1 D
   have N:∀e∈G.after,Region.binds md e=true→e.on≠i:=fun e he hb heq=>by
    have h1:=I e he hb;rw[heq,getD_both d]at h1
    cases h1
   have h2:=qOp_put E (l j G E c s N) (fun cs b=>y i oi cs b hi) (fun cs b=>y j G cs b E) O h1
   have m:∀k ok,ops[k]?=some ok→k≠i→(listed.setIfInBounds j true).getD k true=false→
       (∀e∈ok.after,Region.binds md e=true→e.on≠i)→oi.apart ops ok=true:=fun k ok hk R d U=>by
    refine l k ok hk R ?_ U
    by_cases M:j=k
    ·subst M;exact s
    ·rw[getD_set_ne true M]at d;exact d
   refine qOp_mono (fun a' V=>ih (listed.setIfInBounds j true) a' (inv.set D r) m (ready_mono u (Ne.symm c)) V.1 ?_) h2;rw[Array.setIfInBounds_comm _ _ c];exact V.2
theorem nb{n g:Nat}{r:Act→Prop}(c:Region.noSelect ops=true)(E:Region.sinkB md ops n=true)(z:Region.chainB md ops n=true)(D:n<ops.size):
    ∀(l:List Oper) (k:Nat) (listed:Array Bool) (a:Act),(∀j,j<l.length→l[j]?=ops[k+j]?)→k+l.length=n→HeadInv md ops n listed→
    Region.lexHead md ops g l.length k listed=true→wpQuiet P ops C r l a→
    ma P md ops C n (fun b y=>Region.seqB md ops g n b=true∧r y) l.length listed a
 | [],k,listed,a,_,m,_,i,h=>by
  have:k=n:=by simpa using m
  subst this;exact⟨by simpa[Region.lexHead]using i,h⟩
 |o::l,k,listed,a,hl,m,inv,i,h=>by
  have h0:ops[k]?=some o:=by simpa using(hl 0 (by simp)).symm
  simp only[List.length_cons,Region.lexHead,Bool.and_eq_true]at i;obtain⟨⟨J,I⟩,s⟩:=i;have d:k<n:=by simp only[List.length_cons]at m;omega
  have f:k∈Region.ready md ops listed:=by simpa using J
  have u:qOp P ops C k (wpQuiet P ops C r l) a:=by unfold qOp;simp only[h0];exact h
  obtain⟨v,L,G⟩:=yieldsIn_of_qOp h0 u
  exact pK h0 (Region.noSelect_spec c) E z D d (fun b y H=>seqB_ready H.1) l.length listed a inv (Region.free_spec h0 I) f L
   (nb c E z D l (k+1) _ _ (fun j M=>by have:=hl (j+1) (by simp;omega);simpa[Nat.add_assoc,Nat.add_comm 1 j]using this) (by simp only[List.length_cons]at m;omega) (inv.set f d) s G)
theorem dE{id:Nat}{Q:Exit→Act→World→Prop}{a:Act}{w:World}{l:List Oper}(n:Nat)(G:P.follows .mixedOrders=true)(s:Region.lexTailB .any l.toArray n=true)
    (h:wpQuiet P l.toArray (fun w'=>∃p:Regrown,w'=grow (redrawn w p.d) p.os) (fun k=>∀w',aa w w'→wpList P l.toArray Q (l.drop n) k w') (l.take n) a):(Code.region id l.toArray true).wp P Q a w:=by
 simp only[Region.lexTailB,Bool.and_eq_true,decide_eq_true_eq]at s;obtain⟨⟨⟨⟨f,z⟩,J⟩,E⟩,d⟩:=s;have I:n<l.length:=by simpa using z
 have b:(l.take n).length=n:=by rw[List.length_take];omega
 have c:(l.drop n).length=l.toArray.size-n:=by simp
 have i:HeadInv .any l.toArray n (Array.replicate l.toArray.size false):=
  ⟨by simp,fun j L _ hl=>(by rw[getD_replicate_false]at hl;cases hl),fun t _ ht=>getD_in (by simpa using ht) (getD_replicate_false _ _)⟩
 have H:=nb (md:=.any) (g:=l.toArray.size-n) f J E z (l.take n) 0 _ a (fun j y=>by
  have m:j<n:=by rw[b]at y;exact y
  simp[m]) (by simpa using b) i (by rw[b];exact d) h
 refine wp_region_any G ?_
 have:=jX (Q':=Q) (g:=l.toArray.size-n) (C:=fun w'=>∃p:Regrown,w'=grow (redrawn w p.d) p.os) (fun listed k w' r u=>by
  have D:aa w w':=by
   obtain⟨p,rfl⟩:=r;exact below_regrown w p.d p.os
  have:=wpAny_of_seq (md:=.any) (Q':=Q) (l.drop n) n listed k w' (fun j=>by simp[List.getElem?_drop]) (by rw[c];exact u.1) (u.2 w' D)
  rwa[c]at this) _ _ _ _ ⟨⟨w.drawn+1, #[]⟩,by rw[grow_empty]<;>rfl⟩ H
 rw[b,show n+(l.toArray.size-n)=l.toArray.size by omega]at this;exact this
end
end Go.Proofs.YtfchcdbfalgdlaaGreatDoor
namespace Go.Proofs.YtfchcdbfalgdlaaGreatDoor
open _root_.Go.Proofs.Tryz
open Go.RowKit
def ef(x:Int)(k:Nat):Int:=bits .or .u32 (x/2^k) (x*2^(32-k)%4294967296)
theorem Et(k:Nat)(b:1≤k∧k≤31):bits .and .u64 (18446744073709551616-(k:Int)) 31=32-(k:Int):=by
 have h:∀k:Fin 32,1≤k.val→bits .and .u64 (18446744073709551616-(k.val:Int)) 31=32-(k.val:Int):=by decide
 exact h ⟨k,by omega⟩ b.1
theorem Ap (x:Int) (k:Nat) (w:World) (d:0≤x∧x<4294967296) (c:1≤k∧k≤31):Calls prog 188 #[.int .u32 x,.int .i64 (-(k:Int))] w fun e w'=>e= .returned (.int .u32 (bits .or .u32 (x*2^(32-k)%4294967296) (x/2^k)))∧w=w':=by
 have h1:IntKind.u64.wrap (-(k:Int))=18446744073709551616-(k:Int):=by
  unfold IntKind.wrap;simp[IntKind.bits,IntKind.signed];omega
 have h2:=Et k c
 go_enter func188,ntmps188
 go_wp2_with fail
 have b:32-(32-k)=k:=by omega
 go_ret;rw[b];exact⟨rfl,rfl⟩
theorem rf(k:IntKind)(a b:Int):bits .or k a b=bits .or k b a:=by
 unfold bits;simp only[BitVec.or_comm]
theorem jW (x:Int) (k:Nat) (w:World) (c:0≤x∧x<4294967296) (b:1≤k∧k≤31):Calls prog 175 #[.int .u32 x,.int .i64 (k:Int)] w fun e w'=>e= .returned (.int .u32 (ef x k))∧w=w':=by
 go_enter func175,ntmps175
 go_wp2_with fail
 refine(Ap x k w c b).mono ?_;rintro e w' ⟨rfl,rfl⟩
 go_wp2_with fail
 go_ret;rw[rf];exact⟨rfl,rfl⟩
theorem eZ (x:Int) (k:Nat) (w:World) (c:0≤x∧x<4294967296) (b:1≤k∧k≤31):Calls prog 173 #[.int .u32 x,.int .i64 (k:Int)] w fun e w'=>e= .returned (.int .u32 (ef x k))∧w=w':=by
 go_enter func173,ntmps173
 go_wp2_with fail
 go_ret;exact⟨rfl,rfl⟩
end Go.Proofs.YtfchcdbfalgdlaaGreatDoor
namespace Go.Proofs.YtfchcdbfalgdlaaGreatDoor
open _root_.Go.Proofs.Tryz
def aK(n i:Nat):Nat:=n/256^i%256
def aY(size n:Nat):List Int:=(List.range size).map fun j=>((aK n (size-1-j):Nat):Int)
theorem av(size n:Nat):(aY size n).length=size:=by simp[aY]
theorem pU(n i:Nat):aK n i<256:=Nat.mod_lt _ (by decide)
theorem ew(size n:Nat):∀x∈aY size n,0≤x∧x<256:=by
 intro x b;obtain⟨j,_,rfl⟩:=List.mem_map.1 b;have:=pU n (size-1-j);omega
theorem sP(size n:Nat):aY (size+1) n=aY size (n/256)++[((n%256:Nat):Int)]:=by
 unfold aY;rw[List.range_succ,List.map_append,List.map_singleton]
 congr 1
 ·refine List.map_congr_left fun j b=> ?_
  have b:=List.mem_range.1 b;have e:size+1-1-j=(size-1-j)+1:=by omega
  rw[e];unfold aK;rw[Nat.pow_succ,Nat.mul_comm,←Nat.div_div_eq_div_mul]
 ·simp[aK]
theorem vT(size n j:Nat)(h:j<(aY size n).length):(aY size n)[j]=((aK n (size-1-j):Nat):Int):=by simp[aY]
theorem nP(size n i:Nat)(hi:i<size):(aY size n).take (size-i)=(aY size n).take (size-(i+1))++[((aK n i:Nat):Int)]:=by
 have hl:size-(i+1)<(aY size n).length:=by rw[av];omega
 have:=List.take_succ_eq_append_getElem hl;rw[show size-(i+1)+1=size-i by omega]at this;rw[this,vT,show size-1-(size-(i+1))=i by omega]
def aQ(xs:List Int):Nat:=xs.foldl (fun n x=>n*256+x.toNat) 0
theorem qP(xs:List Int)(x:Int):aQ (xs++[x])=aQ xs*256+x.toNat:=by simp[aQ]
theorem kw{xs:List Int}{k:Nat}(h:k<xs.length):aQ (xs.take (k+1))=aQ (xs.take k)*256+(xs[k]).toNat:=by
 rw[List.take_succ_eq_append_getElem h,qP]
theorem eC{xs:List Int}(h:∀x∈xs,0≤x∧x<256):aQ xs<256^xs.length:=by
 suffices h2:∀k,k≤xs.length→aQ (xs.take k)<256^k by
  have:=h2 xs.length (Nat.le_refl _)
  rwa[List.take_length]at this
 intro k
 induction k with
 |zero=>intro _;simp[aQ]
 |succ k b=>
  intro c;have:=b (by omega);rw[kw (by omega),Nat.pow_succ];have:=h xs[k] (List.getElem_mem _);omega
theorem gZ(size n:Nat)(h:n<256^size):aQ (aY size n)=n:=by
 induction size generalizing n with
 |zero=>simp at h;subst h;rfl
 |succ s b=>
  rw[sP,qP,b _ (by rw[Nat.pow_succ]at h;omega)];omega
theorem sQ(xs:List Int)(h:∀x∈xs,0≤x∧x<256):aY xs.length (aQ xs)=xs:=by
 suffices h2:∀k,k≤xs.length→aY k (aQ (xs.take k))=xs.take k by
  have:=h2 xs.length (Nat.le_refl _)
  rwa[List.take_length]at this
 intro k
 induction k with
 |zero=>intro _;rfl
 |succ k b=>
  intro c;have d:=h xs[k] (List.getElem_mem _);rw[kw (by omega),sP,List.take_succ_eq_append_getElem (by omega)]
  congr 1
  ·rw[show(aQ (xs.take k)*256+(xs[k]).toNat)/256=aQ (xs.take k) by omega];exact b (by omega)
  ·congr 1
   omega
structure Rs where
 xs:List Int
 e:Nat
def Rs.left(s:Rs):Nat:=if s.e=0 then s.xs.length else 0
def Rs.bad(s:Rs)(code:Nat):Rs:=if s.e=0 then⟨s.xs,code⟩else s
def Rs.raw(s:Rs)(n:Nat):List Int×Rs:=if s.left<n then([],s.bad 2)else(s.xs.take n,⟨s.xs.drop n,s.e⟩)
def Rs.num(s:Rs)(size:Nat):Nat×Rs:=(aQ (s.raw size).1,(s.raw size).2)
def Rs.bytes(s:Rs)(b:Nat):List Int×Rs:=
 if s.left<2 then([],s.bad 2)
 else if b<aQ (s.xs.take 2)∨s.left-2<aQ (s.xs.take 2)then([],s.bad 2)
 else(s.raw 2).2.raw (aQ (s.xs.take 2))
def Rs.flag(s:Rs):Bool×Rs:=
 if s.left<1∨1<s.xs.headD 0 then(false,s.bad 2)else(decide ((s.num 1).1=1),(s.num 1).2)
def Rs.fin(s:Rs):Nat:=if s.e≠0 then s.e else if 0<s.xs.length then 2 else 0
end Go.Proofs.YtfchcdbfalgdlaaGreatDoor
namespace Go.Proofs.YtfchcdbfalgdlaaGreatDoor
open _root_.Go.Proofs.Tryz
open Go.RowKit
section
variable {P:Program}{md:Region.Mode}{ops:Array Oper}{Q:Exit→Act→World→Prop}{S:World→Prop}{last:Nat}
def fD(P:Program)(md:Region.Mode)(ops:Array Oper)(Q:Exit→Act→World→Prop)(S:World→Prop)(last:Nat):Nat→Array Bool→Act→World→Prop
 | 0,listed,a,w=>Region.ready md ops listed=[]∧Q .normal a w
 |b+1,listed,a,w=>
  (Region.ready md ops listed=[]→Q .normal a w)∧
  ∀i∈Region.ready md ops listed,wpOp P ops Q i (fun c w'=>(i≠last→S w')∧fD P md ops Q S last b (listed.setIfInBounds i true) c w') a w
theorem lq:∀(b:Nat) (listed:Array Bool) (a:Act) (w:World),fD P md ops Q S last b listed a w→wpAny P md ops Q b listed a w
 | 0,_,_,_,h=>h
 |b+1,_,_,_,h=>⟨h.1,fun i hi=>wpOp_mono (fun c w' d=>lq b _ c w' d.2) (h.2 i hi)⟩
def jm(md:Region.Mode)(ops:Array Oper)(k i:Nat):Bool:=match ops[k]? with|some o=>o.after.any (fun e=>Region.binds md e&&e.on==i)|none=>false
theorem sD{i:Nat}{oi:Oper}{v:Value}(hi:ops[i]?=some oi)(z:∀(j:Nat) (o:Oper) cs b,ops[j]?=some o→o.op≠.select cs b)
    (Z:∀c a w,Q (.panic c) (a.put oi.dst v) w→Q (.panic c) a w) (m:jm md ops last i=true):
    ∀(d:Nat) (listed:Array Bool) (a:Act) (w:World),
     (∀j E,ops[j]?=some E→j≠i→listed.getD j true=false→(∀e∈E.after,Region.binds md e=true→e.on≠i)→oi.apart ops E=true)→
     i∈Region.ready md ops listed→YieldsIf P ops S oi v a→S w→
     fD P md ops Q S last d (listed.setIfInBounds i true) (a.put oi.dst v) w→fD P md ops Q S last (d+1) listed a w:=by
 intro d
 induction d with
 |zero=>
  intro listed a w _ D O hS H;refine⟨fun h=>(by rw[h]at D;cases D),fun j N=>?_⟩
  by_cases f:j=i
  ·subst f;exact O.wpOp hi hS ⟨fun _=>hS,H⟩
  ·have:=ready_mono N f;rw[H.1]at this
   cases this
 |succ d ih=>
  intro listed a w l D O hS H;refine⟨fun h=>(by rw[h]at D;cases D),fun j N=>?_⟩
  by_cases f:j=i
  ·subst f;exact O.wpOp hi hS ⟨fun _=>hS,H⟩
  ·have h1:=H.2 j (ready_mono N f);obtain⟨u,E,s,G⟩:=mem_ready.1 N
   have y:∀e∈E.after,Region.binds md e=true→e.on≠i:=fun e he I heq=>by
    have h1:=G e he I;have h0:=(mem_ready.1 D).1;rw[heq]at h1;rcases Nat.lt_or_ge i listed.size with R|R
    ·simp[R]at h0 h1;rw[h0]at h1;cases h1
    ·simp[Array.getElem?_eq_none R]at h1
   have U:j≠last:=fun e=>by
    subst e;simp only[jm,s,Array.any_eq_true]at m;obtain⟨n,hn,I⟩:=m;simp only[Bool.and_eq_true,beq_iff_eq]at I;exact y _ (Array.getElem_mem hn) I.1 I.2
   have h2:=wpOp_putIf s (l j E s f u y) (fun cs b=>z i oi cs b hi) (fun cs b=>z j E cs b s) Z O h1
   have r:∀k ok,ops[k]?=some ok→k≠i→(listed.setIfInBounds j true).getD k true=false→
       (∀e∈ok.after,Region.binds md e=true→e.on≠i)→oi.apart ops ok=true:=fun k ok hk V L X=>by
    refine l k ok hk V ?_ X
    by_cases J:j=k
    ·subst J;exact u
    ·rw[getD_set_ne true J]at L;exact L
   refine wpOp_mono (fun Y w' M=>⟨M.2.1,ih (listed.setIfInBounds j true) Y w' r (ready_mono D (Ne.symm f)) M.1 (M.2.1 U) ?_⟩) h2;rw[Array.setIfInBounds_comm _ _ f];exact M.2.2
theorem aF{i:Nat}{oi:Oper}{v:Value}{b:Nat}{listed:Array Bool}{a:Act}{w:World}(hi:ops[i]?=some oi)
    (k:Region.noSelect ops=true) (f:Region.free md ops listed i=true) (j:(Region.ready md ops listed).contains i=true) (hl:jm md ops last i=true)
    (d:∀c a w,Q (.panic c) (a.put oi.dst v) w→Q (.panic c) a w) (l:YieldsIf P ops S oi v a) (hS:S w)
    (h:fD P md ops Q S last b (listed.setIfInBounds i true) (a.put oi.dst v) w):fD P md ops Q S last (b+1) listed a w:=
 sD hi (Region.noSelect_spec k) d hl b listed a w (Region.free_spec hi f) (by simpa using j) l hS h
def cX(P:Program)(md:Region.Mode)(ops:Array Oper)(Q:Exit→Act→World→Prop)(S:World→Prop)(last b:Nat)(listed:Array Bool)(a:Act)(w:World)(rs:List Nat):Prop:=
 ∀i∈rs,wpOp P ops Q i (fun c w'=>(i≠last→S w')∧fD P md ops Q S last b (listed.setIfInBounds i true) c w') a w
theorem cX.nil{b:Nat}{listed:Array Bool}{a:Act}{w:World}:cX P md ops Q S last b listed a w []:=fun i hi=>by cases hi
theorem cX.cons{b:Nat}{listed:Array Bool}{a:Act}{w:World}{i:Nat}{o:Oper}{rs:List Nat}(l:ops[i]?=some o)
    (h:∀c:Act→World→Prop,Hid (∀a w,(i≠last→S w)→fD P md ops Q S last b (listed.setIfInBounds i true) a w→c a w)→if Region.wanted o (yielded ops a.tmps)=true then Oper.wp P o a w c Q else c (a.put o.dst undef) w)
    (m:cX P md ops Q S last b listed a w rs):cX P md ops Q S last b listed a w (i::rs):=fun j d=>by
 rcases List.mem_cons.1 d with rfl|d
 ·have:=h (fun k w'=>(j≠last→S w')∧fD P md ops Q S last b (listed.setIfInBounds j true) k w') (Ld fun k w' h1 h2=>⟨h1,h2⟩);unfold wpOp;rw[l];simp only;split
  ·next f=>rw[if_pos f]at this;exact .inl this
  ·next f=>rw[if_neg f]at this;exact this
 ·exact m j d
theorem aC{rs:List Nat}{b:Nat}{listed:Array Bool}{a:Act}{w:World}(d:Region.ready md ops listed=rs)(c:rs≠ [])(h:cX P md ops Q S last b listed a w rs):fD P md ops Q S last (b+1) listed a w:=
 ⟨fun h0=>absurd (d▸h0) c,d▸h⟩
theorem fc{listed:Array Bool}{a:Act}{w:World}(c:Region.ready md ops listed=[])(h:Q .normal a w):∀b,fD P md ops Q S last b listed a w
 | 0=>⟨c,h⟩
 |_+1=>⟨fun _=>h,by rw[c];simp⟩
theorem iz{id:Nat}{a:Act}{w:World}(S:World→Prop)(last:Nat)(b:P.follows .mixedOrders=true)
    (h:fD P .any ops Q S last ops.size (Array.replicate ops.size false) a w.drew):(Code.region id ops true).wp P Q a w:=
 wp_region_any b (lq _ _ _ _ h)
end
structure HW(S:World→Prop) where
 w:World
 h:S w
section
variable {P:Program}{md:Region.Mode}{ops:Array Oper}{Q:Exit→Act→World→Prop}{S:World→Prop}{last:Nat}
def tl(md:Region.Mode)(ops:Array Oper)(last:Nat):List (Bool×Nat)→Array Bool→Bool
 | [],listed=>(Region.ready md ops listed).isEmpty
 |(true,i)::b,listed=>(Region.ready md ops listed).contains i&&Region.free md ops listed i&&(jm md ops last i||decide (Region.ready md ops listed=[i]))&&decide (i≠last)&&tl md ops last b (listed.setIfInBounds i true)
 |(false,i)::b,listed=>decide (Region.ready md ops listed=[i])&&(decide (i≠last)||b.isEmpty)&&tl md ops last b (listed.setIfInBounds i true)
def cL(P:Program)(ops:Array Oper)(S:World→Prop)(last:Nat)(Q:Exit→Act→World→Prop):List (Bool×Nat)→Act→World→Prop
 | [],a,w=>Q .normal a w
 |(true,i)::b,a,w=>∃o,ops[i]?=some o∧(if Region.wanted o (yielded ops a.tmps)=true then ∃v,(∀p:HW S,(execOp a.eval o).run P p.w=.ok (.value v) p.w)∧cL P ops S last Q b (a.put o.dst v) w else cL P ops S last Q b (a.put o.dst undef) w)
 |(false,i)::b,a,w=>∃o,ops[i]?=some o∧(if Region.wanted o (yielded ops a.tmps)=true then o.wp P a w (fun c w'=>(i≠last→S w')∧cL P ops S last Q b c w') Q else cL P ops S last Q b (a.put o.dst undef) w)
theorem dU(s:Region.noSelect ops=true)(r:∀c a d v w,Q (.panic c) (a.put d v) w→Q (.panic c) a w):∀(b:List (Bool×Nat)) (listed:Array Bool) (a:Act) (w:World),tl md ops last b listed=true→(b≠ []→S w)→cL P ops S last Q b a w→fD P md ops Q S last b.length listed a w
 | [],listed,a,w,m,_,h=>fc (by simpa[tl]using m) h _
 |(true,i)::b,listed,a,w,m,hS,h=>by
  simp only[tl,Bool.and_eq_true]at m;obtain⟨⟨⟨⟨h1,h2⟩,k⟩,-⟩,E⟩:=m;obtain⟨o,u,h⟩:=h;have f:=hS (by simp)
  have key:∀v,YieldsIf P ops S o v a→cL P ops S last Q b (a.put o.dst v) w→fD P md ops Q S last ((true,i)::b).length listed a w:=fun v I h=>by
   rw[Bool.or_eq_true,decide_eq_true_eq]at k;rcases k with k|k
   ·exact aF u s h2 h1 k (fun c a w=>r c a _ _ w) I f (dU s r b _ _ _ E (fun _=>f) h)
   ·refine aC (rs:=[i]) k (by simp) ?_;intro j H;rw[List.mem_singleton]at H;subst H;exact I.wpOp u f ⟨fun _=>f,dU s r b _ _ _ E (fun _=>f) h⟩
  by_cases l:Region.wanted o (yielded ops a.tmps)=true
  ·rw[if_pos l]at h;obtain⟨v,L,h⟩:=h;exact key v (.inl ⟨l,fun w l=>L ⟨w,l⟩⟩) h
  ·rw[if_neg l]at h;exact key undef (.inr ⟨by simpa using l,rfl⟩) h
 |(false,i)::b,listed,a,w,m,hS,h=>by
  simp only[tl,Bool.and_eq_true,Bool.or_eq_true,decide_eq_true_eq]at m;obtain⟨⟨h1,h2⟩,k⟩:=m;obtain⟨o,u,h⟩:=h
  have z:∀w',(i≠last→S w')→b≠ []→S w':=fun w' h D=>by
   rcases h2 with h2|h2
   ·exact h h2
   ·exact absurd (List.isEmpty_iff.1 h2) D
  refine aC (rs:=[i]) h1 (by simp) (cX.cons u (fun M G=>?_) cX.nil)
  by_cases l:Region.wanted o (yielded ops a.tmps)=true
  ·rw[if_pos l]at h⊢;exact Oper.wp_mono (fun J w' y=>G.out J w' y.1 (dU s r b _ _ _ k (z w' y.1) y.2)) h
  ·rw[if_neg l]at h⊢;exact G.out _ _ (fun _=>hS (by simp)) (dU s r b _ _ _ k (fun _=>hS (by simp)) h)
def eG(Q:Exit→Act→World→Prop)(e:Exit)(a:Act)(w:World):Prop:=match e with| .panic _=>False|e=>Q e a w
theorem eG.imp{Q:Exit→Act→World→Prop}(e:Exit)(a:Act)(w:World)(h:eG Q e a w):Q e a w:=by
 cases e<;>first|exact h|exact h.elim
theorem fU{id:Nat}{a:Act}{w:World}{l:List Oper}(S:World→Prop)(last:Nat)(b:List (Bool×Nat))(f:P.follows .mixedOrders=true)
    (c:(Region.noSelect l.toArray&&decide (b.length=l.toArray.size)&&tl .any l.toArray last b (Array.replicate l.toArray.size false))=true) (hS:S w.drew)
    (h:Nonempty (HW S)→cL P l.toArray S last (eG Q) b a w.drew):(Code.region id l.toArray true).wp P Q a w:=by
 simp only[Bool.and_eq_true,decide_eq_true_eq]at c;obtain⟨⟨h1,h2⟩,d⟩:=c;refine wp_mono (Q:=eG Q) (iz S last f ?_) eG.imp;have:=dU (Q:=eG Q) h1 (fun _ _ _ _ _ h=>h) b _ _ _ d (fun _=>hS) (h ⟨⟨_,hS⟩⟩)
 rwa[h2]at this
def kH(md:Region.Mode)(ops:Array Oper):List (Bool×Nat)→Array Bool→Bool
 | [],listed=>(Region.ready md ops listed).isEmpty
 |(true,i)::b,listed=>(Region.ready md ops listed).contains i&&Region.free md ops listed i&&kH md ops b (listed.setIfInBounds i true)
 |(false,i)::b,listed=>decide (Region.ready md ops listed=[i])&&kH md ops b (listed.setIfInBounds i true)
theorem dS(hl:last=ops.size)(u:Region.noSelect ops=true)(s:∀c a d v w,Q (.panic c) (a.put d v) w→Q (.panic c) a w):∀(f:List (Bool×Nat)) (listed:Array Bool) (a:Act) (w:World),kH md ops f listed=true→S w→cL P ops S last Q f a w→wpAnyH P md ops Q S f.length listed a w
 | [],listed,a,w,k,_,h=>⟨by simpa[kH]using k,h⟩
 |(true,i)::f,listed,a,w,k,l,h=>by
  simp only[kH,Bool.and_eq_true]at k;obtain⟨⟨h1,h2⟩,E⟩:=k;obtain⟨o,r,h⟩:=h
  have key:∀v,YieldsIf P ops S o v a→cL P ops S last Q f (a.put o.dst v) w→wpAnyH P md ops Q S ((true,i)::f).length listed a w:=fun v H h=>
   wpAnyH_first r (Region.noSelect_spec u) (fun c a w=>s c a _ _ w) _ listed a w (Region.free_spec r h2) (by simpa using h1) H l (dS hl u s f _ _ _ E l h)
  by_cases b:Region.wanted o (yielded ops a.tmps)=true
  ·rw[if_pos b]at h;obtain⟨v,G,h⟩:=h;exact key v (.inl ⟨b,fun w b=>G ⟨w,b⟩⟩) h
  ·rw[if_neg b]at h;exact key undef (.inr ⟨by simpa using b,rfl⟩) h
 |(false,i)::f,listed,a,w,k,hS,h=>by
  simp only[kH,Bool.and_eq_true,decide_eq_true_eq]at k;obtain⟨h1,z⟩:=k;obtain⟨o,r,h⟩:=h
  have m:i≠last:=by
   have:=(Array.getElem?_eq_some_iff.1 r).1;omega
  refine⟨fun h0=>(by rw[h1]at h0;cases h0),fun j D=>?_⟩;rw[h1,List.mem_singleton]at D;subst D;unfold wpOp;simp only[r]
  by_cases b:Region.wanted o (yielded ops a.tmps)=true
  ·rw[if_pos b]at h;simp only[b,if_true];exact .inl (Oper.wp_mono (fun I w' y=>⟨y.1 m,dS hl u s f _ _ _ z (y.1 m) y.2⟩) h)
  ·rw[if_neg b]at h;simp only[b];exact⟨hS,dS hl u s f _ _ _ z hS h⟩
theorem ag{id:Nat}{a:Act}{w:World}{l:List Oper}(S:World→Prop)(b:List (Bool×Nat))(f:P.follows .mixedOrders=true)
    (c:(Region.noSelect l.toArray&&decide (b.length=l.toArray.size)&&kH .any l.toArray b (Array.replicate l.toArray.size false))=true) (hS:S w.drew)
    (h:Nonempty (HW S)→cL P l.toArray S l.toArray.size (eG Q) b a w.drew):(Code.region id l.toArray true).wp P Q a w:=by
 simp only[Bool.and_eq_true,decide_eq_true_eq]at c;obtain⟨⟨h1,h2⟩,d⟩:=c;refine wp_mono (Q:=eG Q) (wp_region_held (S:=S) f ?_) eG.imp;have:=dS (Q:=eG Q) rfl h1 (fun _ _ _ _ _ h=>h) b _ _ _ d hS (h ⟨⟨_,hS⟩⟩)
 rwa[h2]at this
theorem ae{i:Nat}{o:Oper}{b:List (Bool×Nat)}{a:Act}{w:World}(c:ops[i]?=some o)
    (h:∀K:Act→Prop,(∀a,cL P ops S last Q b a w→K a)→if Region.wanted o (yielded ops a.tmps)=true then ∃v,(∀p:HW S,(execOp a.eval o).run P p.w=.ok (.value v) p.w)∧K (a.put o.dst v)else K (a.put o.dst undef)):cL P ops S last Q ((true,i)::b) a w:=
 ⟨o,c,h _ fun _ h=>h⟩
theorem aj{i:Nat}{o:Oper}{b:List (Bool×Nat)}{a:Act}{w:World}(f:ops[i]?=some o)
    (h:∀K:Act→World→Prop,Hid (∀a w,(i≠last→S w)→cL P ops S last Q b a w→K a w)→if Region.wanted o (yielded ops a.tmps)=true then o.wp P a w K Q else K (a.put o.dst undef) w) (hS:Region.wanted o (yielded ops a.tmps)=true∨S w):cL P ops S last Q ((false,i)::b) a w:=by
 refine⟨o,f,?_⟩;have:=h (fun d w'=>(i≠last→S w')∧cL P ops S last Q b d w') (Ld fun a w h1 h2=>⟨h1,h2⟩)
 by_cases c:Region.wanted o (yielded ops a.tmps)=true
 ·rw[if_pos c]at this⊢;exact this
 ·rw[if_neg c]at this⊢;exact this.2
def iA(a:Addr)(v:Value)(w:World):Prop:=w.cell? a=some v
theorem iA.all(a:Addr)(v:Value)(p:HW (iA a v)):p.w.cell? a=some v:=p.h
theorem ao{a:Act}{w:World}(h:Q .normal a w):cL P ops S last (eG Q) [] a w:=h
end
def am(xs:List Int):List Value:=xs.map (Value.int .u8)
theorem ah(xs:List Int):(am xs).length=xs.length:=by simp[am]
theorem aM(xs:List Int):∀u∈am xs,u.oneCell'=true:=by
 intro u hu;simp only[am,List.mem_map]at hu;obtain⟨x,_,rfl⟩:=hu;rfl
def aU(xs:List Int):Prop:=∀x∈xs,0≤x∧x<256
theorem jJ:aW prog 33 5 1 1:=aW.mk' (z:=.int .u8 0) underlying33 (by kernel_rfl) rfl (by decide)
theorem sy{xs ys:List Int}(c:aU xs)(d:aU ys):((strOfNums xs).toList==(strOfNums ys).toList)=decide (xs=ys):=by
 rw[ByteArray.toList_eq,ByteArray.toList_eq,strOfNums_data,strOfNums_data,Bool.eq_iff_iff,decide_eq_true_iff,beq_iff_eq];constructor
 ·intro h2
  induction xs generalizing ys with
  |nil=>cases ys<;>simp at h2⊢
  |cons x xs l=>
   cases ys with
   |nil=>simp at h2
   |cons y ys=>
    simp only[List.map_cons,List.cons.injEq]at h2;obtain⟨f,i⟩:=c x (by simp);obtain⟨j,k⟩:=d y (by simp)
    have e:x=y:=by
     have:=congrArg UInt8.toNat h2.1;simp[UInt8.toNat_ofNat']at this;omega
    rw[e,l (fun z b=>c z (by simp[b])) (fun z b=>d z (by simp[b])) h2.2]
 ·rintro rfl;rfl
theorem eh{p:Nat→Prop}{w:World}{A:Option Addr}{n c:Nat}{xs:List Int}(h:Rd p w 1 A n (am xs)):(convert 33 9 (.slice A n c)).run prog w=.ok (.string (strOfNums xs)) w:=by
 have hl:xs.length=n:=by have:=h.1;rw[ah]at this;omega
 rcases Nat.eq_zero_or_pos n with h0|h0
 ·subst h0;have j:xs= []:=List.eq_nil_of_length_eq_zero hl;subst j;rcases A with _ | d
  ·exact run_convert_bytes_nil w 33 5 underlying33 underlying5 0 c 9 underlying9
  ·rw[run_convert_bytes_string w 33 9 5 _ 0 c underlying33 underlying5 underlying9,run_bytesToString w d 0 c [] rfl];rfl
 ·obtain ⟨g,o,rfl,-,-,f⟩:=h.out h0 (by omega);refine run_convert_bytes_arg w 33 5 underlying33 underlying5 g o n c xs hl (fun i hi=> ?_) 9 underlying9;refine f i _ ?_;have b:i<xs.length:=by omega
  simp[am,b]
theorem xr{p q:Nat→Prop}(A B:Option Addr)(n m c d:Nat)(xs ys:List Int)(w:World)(i:Rd p w 1 A n (am xs))(j:Rd q w 1 B m (am ys))(bx:aU xs)(b:aU ys):
    Calls prog 133 #[.slice A n c,.slice B m d] w fun e w'=>e=.returned (.bool (decide (xs=ys)))∧w=w':=by
 have h1:=eh (c:=c) i;have h2:=eh (c:=d) j;have f:=sy bx b;generalize strOfNums xs=s1 at h1 f;generalize strOfNums ys=s2 at h2 f;generalize decide (xs=ys)=r at f⊢;clear i j bx b
 go_enter func133,ntmps133
 go_wp2_with fail
 go_ret;exact⟨rfl,rfl⟩
theorem nN(A:Option Addr)(n c:Nat)(xs:List Int)(w:World)(hO:Rd (fun b=>b<w.heap.size) w 1 A n (am xs))(I:n≤1000000):
    Calls prog 102 #[.slice A n c] w fun e w'=>(∃s u,e=.returned (.slice s n u)∧w'.ownsRow w.heap.size 5 1 (.slice s n u) n (am xs))∧aa w w':=by
 have z:=Ld hO;rcases A with _|l
 ·have h0:n=0:=by
   rcases Nat.eq_zero_or_pos n with h|h
   ·exact h
   ·obtain⟨l,D,_⟩:=hO.2 h
    cases D
  subst h0;have G:xs=[]:=List.eq_nil_of_length_eq_zero (by have:=hO.1;rw[ah]at this;omega);subst G;clear hO;have r:=fun w=>Lib.run_eql_slice_nil (P:=prog) w 33 5 none 0 c 0 0 underlying33
  go_enter func102,ntmps102
  go_wp2_with fail
  go_ret;exact⟨⟨none,0,rfl,World.ownsRow_nil _ _ _ _⟩,aa.refl w⟩
 ·clear hO;have r:=fun w=>Lib.run_eql_slice_nil (P:=prog) w 33 5 (some l) n c 0 0 underlying33
  go_enter func102,ntmps102
  go_wp2_with (at_builtin;refine aq jJ _ rfl (.tmp 5) (.tmp 6) rfl w.heap.size (.slice (some ⟨w.heap.size,0,none⟩) 0 0) 0 [] rfl (eA (ab.new w 5 #[]) (Nat.le_refl _)) (some l) n c (am xs) rfl (aa.rd (aa.al (aa.refl w) _) z.out) (aM xs) (by unfold maxLen;omega) (by omega) (by simp) ?_;intro y d1 H d f m;rw[Nat.zero_add];rw[Nat.zero_add,List.nil_append]at d;have j:=Ld d;have i:Hid (aa w H):=Ld ((aa.al (aa.refl w) _).fr f (by intro k E;simp[Value.ownBlock]at E;omega));clear d f m)
  go_ret;exact⟨⟨y,d1,rfl,j.out⟩,i.out⟩
theorem gY(x:Int)(h0:0≤x)(h1:x<4294967296):IntKind.u32.wrap x=x:=by rw[IntKind.wrap_u32];omega
theorem CF{b c b2 d:Int}(h0:0≤b∧b<256)(h1:0≤c∧c<256)(h2:0≤b2∧b2<256)(l:0≤d∧d<256):
    bits .or .u32 (bits .or .u32 (bits .or .u32 (IntKind.u32.wrap (IntKind.u32.wrap b*16777216)) (IntKind.u32.wrap (IntKind.u32.wrap c*65536))) (IntKind.u32.wrap (IntKind.u32.wrap b2*256))) (IntKind.u32.wrap d)=((b*256+c)*256+b2)*256+d:=by
 have f:∀n:Int,0≤n→n<2^32→IntKind.u32.wrap n=n:=fun n h0 h1=>gY n h0 (by omega)
 rw[gY b (by omega) (by omega),gY c (by omega) (by omega),gY b2 (by omega) (by omega),gY d (by omega) (by omega),gY (b*16777216) (by omega) (by omega),gY (c*65536) (by omega) (by omega),gY (b2*256) (by omega) (by omega)];have i:bits .or .u32 (b*16777216) (c*65536)=b*16777216+c*65536:=bits_join .u32 32 (by decide) f 24 _ _ (by omega) (by omega) (by omega) (by omega) (by omega) (by omega);have j:bits .or .u32 (b*16777216+c*65536) (b2*256)=b*16777216+c*65536+b2*256:=bits_join .u32 32 (by decide) f 16 _ _ (by omega) (by omega) (by omega) (by omega) (by omega) (by omega);have k:bits .or .u32 (b*16777216+c*65536+b2*256) d=b*16777216+c*65536+b2*256+d:=bits_join .u32 32 (by decide) f 8 _ _ (by omega) (by omega) (by omega) (by omega) (by omega) (by omega);rw[i,j,k];omega
theorem AV {p:Nat→Prop} (A:Option Addr) (n c:Nat) (xs:List Int) (d f b2 i:Int) (w:World) (h:Rd p w 1 A n (am xs)) (s:xs= [d,f,b2,i]) (j:aU xs):Calls prog 187 #[.slice A n c] w fun e w'=>e= .returned (.int .u32 (((d*256+f)*256+b2)*256+i))∧aa w w':=by
 subst s;have m:n=4:=by have:=h.1;rw[ah]at this;simpa using this.symm
 subst m;obtain⟨g,o,rfl,-,-,b⟩:=h.out (by omega) (by omega);have u:∀p:HW (aa w),p.w.cell? ⟨g,o,none⟩=some (.int .u8 d):=fun p=>p.h.cell_ (b 0 _ rfl)
 have y:∀p:HW (aa w),p.w.cell? ⟨g,o+1,none⟩=some (.int .u8 f):=fun p=>p.h.cell_ (b 1 _ rfl)
 have c2:∀p:HW (aa w),p.w.cell? ⟨g,o+2,none⟩=some (.int .u8 b2):=fun p=>p.h.cell_ (b 2 _ rfl)
 have z:∀p:HW (aa w),p.w.cell? ⟨g,o+3,none⟩=some (.int .u8 i):=fun p=>p.h.cell_ (b 3 _ rfl)
 have h0:=j d (by simp);have h1:=j f (by simp);have h2:=j b2 (by simp);have l:=j i (by simp);clear b
 go_enter func187,ntmps187
 go_wp2_with fail
 refine ag (aa w) [(true,0),(true,1),(true,2),(true,3),(true,4),(true,5),(true,6),(true,7),(true,8),(true,9),(true,10),(true,11),(true,12),(true,13),(true,14),(true,15),(true,16),(true,17),(true,18),(true,19),(true,20),(true,21),(true,22)] (by kernel_rfl) (by kernel_rfl) (aa.dr (aa.refl w)) (fun r=>?_)
 iterate 23 (refine ae (o:=.mk ..) rfl (fun K k=>?_);go_simp;refine k _ ?_;clear k K)
 refine ao ?_
 go_wp2_with fail
 go_ret;rw[CF h0 h1 h2 l];exact⟨rfl,aa.dr (aa.refl w)⟩
section
variable {P:Program}{w:World}{ops:Array Oper}{rest:List Oper}{o o2:Oper}{a:Act}{Q:Exit→Act→World→Prop}
theorem aA(o:Oper)(h:wpList P ops Q (o::rest) a w):wpList P ops Q (o::rest) a w:=h
theorem cg(n:Nat)(_:o.dst=some n)(h:wpList P ops Q (o::rest) a w):wpList P ops Q (o::rest) a w:=h
theorem cw(c:Region.wanted o (yielded ops a.tmps)=true)(h:∀K:Act→World→Prop,(∀a w,wpList P ops Q rest a w→K a w)→o.wp P a w K Q):wpList P ops Q (o::rest) a w:=
 wpList_step fun K b=>by rw[if_pos c];exact h K b
theorem ej{g:Nat}{T:TypeId}{cs cs':Array Value}(b:ab w g T cs):ab (w.setRow g cs') g T cs'∧Fr (fun k=>k=g) w (w.setRow g cs'):=
 ⟨setRow_heap w g cs cs' T (0,0) b,⟨rfl,rfl,rfl,by simp,fun k _ c=>setRow_other w g k cs' c⟩⟩
theorem ac{T:TypeId}{d:TypeDesc}{g:Nat}{cs:Array Value}(i:Region.wanted o (yielded ops a.tmps)=true)(x:Operand)(f:o.op=.load T x)(hu:P.underlying T=some d)(hd:d.isRow=true)(hi:(P.info? T).map (·.size)=some cs.size)(j:a.eval x=.pointer (some ⟨g,0,none⟩))(c:ab w g T cs)
    (h:wpList P ops Q rest (a.put o.dst (.agg cs)) w):wpList P ops Q (o::rest) a w:=
 cw i fun _ b=>wp_load_row T x f g j T cs (0,0) _ c hu (by cases d<;>first|rfl|(simp[TypeDesc.isRow]at hd)) hi (b _ _ h)
theorem an{T:TypeId}{g:Nat}{b cs:Array Value}(i:Region.wanted o (yielded ops a.tmps)=true)(x y:Operand)(f:o.op=.store T x y)(hi:(P.info? T).map (·.size)=some cs.size)(j:a.eval x=.pointer (some ⟨g,0,none⟩))(l:a.eval y=.agg cs)(c:ab w g T b)(h0:b.size=cs.size)(h1:cs.all (·.oneCell')=true)
    (h:∀w',ab w' g T cs→Fr (fun k=>k=g) w w'→wpList P ops Q rest (a.put o.dst undef) w'):wpList P ops Q (o::rest) a w:=
 cw i fun K d=>by
  obtain⟨m,r⟩:=ej (cs':=cs) c;unfold Oper.wp execOp;simp only[f,j,l,Instr.storeAt,Instr.sureAddr,Sem.run_bind,Sem.run_pure,Result.andThen_ok,run_storeVar_row w g T T b cs c hi h0 h1];exact d _ _ (h _ m r)
end
def af(s:List Int):Array Value:=(am s).toArray
theorem au(s:List Int):(af s).size=s.length:=by simp[af,ah]
theorem bw(s:List Int):(af s).all (·.oneCell')=true:=all_oneCell_toArray (aM s)
theorem dR(s:List Int):(af s).toList=am s:=by simp[af]
theorem CE{s t:List Int}(h:am s=am t):s=t:=by
 unfold am at h
 induction s generalizing t with
 | nil=>cases t with
  |nil=>rfl
  |cons y t=>simp at h
 | cons x s b=>cases t with
  |nil=>simp at h
  |cons y t=>
   simp only[List.map_cons,List.cons.injEq,Value.int.injEq,true_and]at h;rw[h.1,b h.2]
theorem Ax{s t:List Int}(h:af s=af t):s=t:=by
 unfold af at h;exact CE (by simpa using h)
def at_(s:List Int)(i:Nat):Int:=s.getD i 0
theorem lT{s:List Int}{i:Nat}(h:i<s.length):(af s)[i]?=some (.int .u8 (at_ s i)):=by
 simp[af,am,at_,h]
section
variable {P:Program}{w:World}
open Extern.Stop (cell)
theorem kv{s:List Int}(b:aU s):((s.map fun x=>UInt8.ofNat x.toNat).map cell).toArray=af s:=by
 unfold af am;rw[List.map_map]
 congr 1
 apply List.map_congr_left;intro x c;obtain⟨h0,h1⟩:=b x c;simp only[Function.comp,cell]
 congr 1
 rw[UInt8.toNat_ofNat',Nat.mod_eq_of_lt (by omega)];simp only[Int.ofNat_eq_natCast];omega
theorem vV{s t:List Int}(b:aU s)(ht:aU t):((s.map fun x=>UInt8.ofNat x.toNat)==(t.map fun x=>UInt8.ofNat x.toNat))=decide (s=t):=by
 rw[Bool.eq_iff_iff,beq_iff_eq,decide_eq_true_iff];constructor
 ·intro h;have:=congrArg (fun l=>(List.map cell l).toArray) h;simp only[kv b,kv ht]at this;exact Ax this
 ·rintro rfl;rfl
theorem fY(d:Nat){T e:TypeId}{n:Nat}(ht:P.underlying T=some (.array n e))(c:P.underlying e=some (.int .u8))(b:∀w,(sizeOf e).run P w=.ok 1 w){s t:List Int}(f:s.length=n)(h2:t.length=n)(bs:aU s)(bt:aU t)(w:World):
    (Op.equalIn (d+2) T (.agg (af s)) (.agg (af t))).run P w=.ok (decide (s=t)) w:=by
 have:=run_equalIn_bytes (P:=P) w d T e n ht c b (s.map fun x=>UInt8.ofNat x.toNat) (t.map fun x=>UInt8.ofNat x.toNat) (by simpa using f) (by simpa using h2);rw[kv bs,kv bt,vV bs bt]at this;exact this
theorem ab.range{T:TypeId}{g:Nat}{s:List Int}(b:ab w g T (af s)):w.rangeAt g 0 (am s):=fun j v c=>by
 rw[Nat.zero_add,b.cell j]
 simpa[af]using c
theorem ab.byte{T:TypeId}{g n:Nat}{s:List Int}(b:ab w g T (af s))(h:s.length=n):∀i,i<n→w.cell? ⟨g,i,none⟩=some (.int .u8 (at_ s i)):=fun i hi=>by rw[b.cell i,lT (by omega)]
theorem cN{fn:Func}{p q:Tmp}{ty e:TypeId}{n g:Nat}{s:List Int}(h:fn.results= #[.cell p ty,.tmp q])(tmps:Array Value)(w:World)(d:tmps.getD p undef=.pointer (some ⟨g,0,none⟩))(c:ab w g ty (af s))
    (hu:P.underlying ty=some (.array n e)) (hi:(P.info? ty).map (·.size)=some n) (f:s.length=n):(results fn tmps).run P w=.ok (.tuple #[.agg (af s),tmps.getD q undef]) w:=by
 have b:tmps[p]?.getD undef=.pointer (some ⟨g,0,none⟩):=by simpa using d
 simp[results,h,b,asAddr,run_loadVar_row w g ty ty (af s) (0,0) _ c hu rfl (by rw[hi,au,f])]
section
variable {ops:Array Oper}{rest:List Oper}{o o2:Oper}{a:Act}{Q:Exit→Act→World→Prop}
theorem eP{T e:TypeId}{n g:Nat}{s:List Int}(i:Region.wanted o (yielded ops a.tmps)=true)(x:Operand)(d:o.op=.load T x)(ht:P.underlying T=some (.array n e))(hi:(P.info? T).map (·.size)=some n)(j:a.eval x=.pointer (some ⟨g,0,none⟩))(c:ab w g T (af s))(f:s.length=n)
    (h:wpList P ops Q rest (a.put o.dst (.agg (af s))) w):wpList P ops Q (o::rest) a w:=
 cw i fun _ b=>wp_load_row T x d g j T (af s) (0,0) _ c ht rfl (by rw[hi,au,f]) (b _ _ h)
theorem bu{T:TypeId}{n g:Nat}{s s0:List Int}(i:Region.wanted o (yielded ops a.tmps)=true)(x y:Operand)(f:o.op=.store T x y)(hi:(P.info? T).map (·.size)=some n)(j:a.eval x=.pointer (some ⟨g,0,none⟩))(l:a.eval y=.agg (af s))(b:ab w g T (af s0))(h0:s0.length=n)(c:s.length=n)
    (h:∀w',ab w' g T (af s)→Fr (fun k=>k=g) w w'→wpList P ops Q rest (a.put o.dst undef) w'):wpList P ops Q (o::rest) a w:=
 cw i fun K d=>by
  obtain⟨h1,h2⟩:=ej (cs':=af s) b;unfold Oper.wp execOp;simp only[f,j,l,Instr.storeAt,Instr.sureAddr,Sem.run_bind,Sem.run_pure,Result.andThen_ok,run_storeVar_row w g T T (af s0) (af s) b (by rw[hi,au,c]) (by rw[au,au,h0,c]) (bw s)];exact d _ _ (h _ h1 h2)
theorem dD{T:TypeId}{n:Nat}{z:List Int}(f:o.guard=none)(j:o.op=.alloc T)(d:(P.info? T).map (fun i=>(i.zero,i.size))=some (some (.agg (af z)),n))
    (h:wpList P ops Q rest (a.put o.dst (.pointer (some ⟨w.heap.size,0,none⟩))) (w.alloc (.cells (af z) T))):wpList P ops Q (o::rest) a w:=by
 obtain⟨k,m⟩:=zero_of_info d;refine wpList_plain f fun l b=>?_
 have c:(Instr.alloc T true (.tuple #[])).run P w=.ok (.pointer (some ⟨w.heap.size,0,none⟩)) (w.alloc (.cells (af z) T)):=by
  unfold Instr.alloc;simp[Sem.run_bind,k w,newVar,newRow,go_sem,Result.andThen]
 unfold Oper.wp;simp only[execOp,j,c,Result.andThen_ok,Sem.run_bind,Sem.run_pure];exact b _ _ h
theorem mc{T:TypeId}{n:Nat}{s z:List Int}{b:World}(i:o.guard=none)(x y:Operand)(j:o.op=.store T x y)(hi:(P.info? T).map (·.size)=some n)(m:z.length=n)(f:s.length=n)
    (k:a.eval x=.pointer (some ⟨b.heap.size,0,none⟩)) (l:a.eval y=.agg (af s))
    (h:wpList P ops Q rest (a.put o.dst undef) (b.alloc (.cells (af s) T))):wpList P ops Q (o::rest) a (b.alloc (.cells (af z) T)):=by
 refine wpList_plain i fun r c=>?_
 unfold Oper.wp;have d:=run_storeAt_new (P:=P) b T (af z) (af s) (by rw[hi,au,f]) (by rw[au,au,m,f]) (bw s);simp only[execOp,j,k,l,d,Result.andThen_ok,Sem.run_bind,Sem.run_pure];exact c _ _ h
theorem pO{T:TypeId}{n:Nat}{C:Array Value}{Z:Value}(f:o.guard=none)(j:o2.guard=none)(s:o.op=.alloc T)(x y:Operand)(k:o2.op=.store T x y)(r:(P.info? T).map (fun i=>(i.zero,i.size))=some (some Z,n))(D:Z.cells.size=n)
    (u:(a.put o.dst (.pointer (some ⟨w.heap.size,0,none⟩))).eval x=.pointer (some ⟨w.heap.size,0,none⟩)) (z:(a.put o.dst (.pointer (some ⟨w.heap.size,0,none⟩))).eval y=.agg C) (m:C.size=n) (h1:C.all (·.oneCell')=true)
    (h:wpList P ops Q rest ((a.put o.dst (.pointer (some ⟨w.heap.size,0,none⟩))).put o2.dst undef) (w.alloc (.cells C T))):wpList P ops Q (o::o2::rest) a w:=by
 obtain⟨E,G⟩:=zero_of_info r;refine wpList_plain f fun H b=>?_
 have d:(Instr.alloc T true (.tuple #[])).run P w=.ok (.pointer (some ⟨w.heap.size,0,none⟩)) (w.alloc (.cells Z.cells T)):=by
  unfold Instr.alloc;simp[Sem.run_bind,E w,newVar,newRow,go_sem,Result.andThen]
 unfold Oper.wp;simp only[execOp,s,d,Result.andThen_ok,Sem.run_bind,Sem.run_pure];refine b _ _ (wpList_plain j fun I c=>?_);unfold Oper.wp;have l:=run_storeAt_new (P:=P) w T Z.cells C (by rw[G,m]) (by rw[D,m]) h1;simp only[execOp,k,u,z,l,Result.andThen_ok,Sem.run_bind,Sem.run_pure];exact c _ _ h
theorem cF{T:TypeId}{d:TypeDesc}{b off:Nat}{cs:List Value}(j:Region.wanted o (yielded ops a.tmps)=true)(x:Operand)(i:o.op=.load T x)(k:a.eval x=.pointer (some ⟨b,off,none⟩))(f:w.rangeAt b off cs)(hu:P.underlying T=some d)(hd:d.isRow=true)(hi:(P.info? T).map (·.size)=some cs.length)
    (h:wpList P ops Q rest (a.put o.dst (.agg cs.toArray)) w):wpList P ops Q (o::rest) a w:=
 cw j fun _ c=>wp_load_mid T x i b off k cs d f hu hd hi (c _ _ h)
theorem aG{T:TypeId}{n:Nat}{s:List Int}{Z:Value}(f:o.guard=none)(j:o2.guard=none)(u:o.op=.alloc T)(x y:Operand)(k:o2.op=.store T x y)(r:(P.info? T).map (fun i=>(i.zero,i.size))=some (some Z,n))(E:Z.cells.size=n)
    (z:(a.put o.dst (.pointer (some ⟨w.heap.size,0,none⟩))).eval x=.pointer (some ⟨w.heap.size,0,none⟩)) (D:(a.put o.dst (.pointer (some ⟨w.heap.size,0,none⟩))).eval y=.agg (af s)) (m:s.length=n)
    (h:wpList P ops Q rest ((a.put o.dst (.pointer (some ⟨w.heap.size,0,none⟩))).put o2.dst undef) (w.alloc (.cells (af s) T))):wpList P ops Q (o::o2::rest) a w:=by
 obtain⟨G,H⟩:=zero_of_info r;refine wpList_plain f fun I b=>?_
 have d:(Instr.alloc T true (.tuple #[])).run P w=.ok (.pointer (some ⟨w.heap.size,0,none⟩)) (w.alloc (.cells Z.cells T)):=by
  unfold Instr.alloc;simp[Sem.run_bind,G w,newVar,newRow,go_sem,Result.andThen]
 unfold Oper.wp;simp only[execOp,u,d,Result.andThen_ok,Sem.run_bind,Sem.run_pure];refine b _ _ (wpList_plain j fun J c=>?_);unfold Oper.wp;have l:=run_storeAt_new (P:=P) w T Z.cells (af s) (by rw[H,au,m]) (by rw[E,au,m]) (bw s);simp only[execOp,k,z,D,l,Result.andThen_ok,Sem.run_bind,Sem.run_pure];exact c _ _ h
end
section
variable {ops:Array Oper}{o:Oper}{a:Act}{Q:Exit→Act→World→Prop}{K:Act→World→Prop}{F:Prop}
theorem cu{T:TypeId}{g:Nat}{b cs:Array Value}(f:Region.wanted o (yielded ops a.tmps)=true)(x y:Operand)(d:o.op=.store T x y)(hi:(P.info? T).map (·.size)=some cs.size)(i:a.eval x=.pointer (some ⟨g,0,none⟩))(j:a.eval y=.agg cs)(c:ab w g T b)(h0:b.size=cs.size)(h1:cs.all (·.oneCell')=true)
    (h:∀w',ab w' g T cs→Fr (fun k=>k=g) w w'→K (a.put o.dst undef) w'):if Region.wanted o (yielded ops a.tmps)=true then Oper.wp P o a w K Q else F:=by
 rw[if_pos f];obtain⟨l,m⟩:=ej (cs':=cs) c;unfold Oper.wp execOp;simp only[d,i,j,Instr.storeAt,Instr.sureAddr,Sem.run_bind,Sem.run_pure,Result.andThen_ok,run_storeVar_row w g T T b cs c hi h0 h1];exact h _ l m
end
end
structure ic(B:Nat)(W W':World):Prop where
 size:W.heap.size≤W'.heap.size
 rest:∀(k:Nat) (o:Obj),B≤k→W.heap[k]?=some o→o.isCells=false→W'.heap[k]?=some o
section
variable {B:Nat}{A W W':World}
theorem ic.tr(h:ic B A W)(k:ic B W W'):ic B A W':=⟨Nat.le_trans h.size k.size,fun i o hi c b=>k.rest i o hi (h.rest i o hi c b) b⟩
theorem ic.new(h:aa W W'):ic B W W':=⟨h.size,fun k o _ b _=>(h.block k (Array.getElem?_eq_some_iff.1 b).1).trans b⟩
theorem ic.fr{S:Nat→Prop}(h:Fr S W W')(hS:∀k o,B≤k→S k→W.heap[k]?=some o→o.isCells=true):ic B W W':=
 ⟨h.size,fun k o c b d=>(h.block k (Array.getElem?_eq_some_iff.1 b).1 (fun f=>by have:=hS k o c f b;rw[d]at this;cases this)).trans b⟩
end
def ul{α:Type}(R:List α→α→Prop)(P:Program)(f:Nat)(lb:Array Value)(b:α→Array Value)(Good:α→World→Prop)(d:World→World→Prop)(S:List α→Prop)(M:Nat)(w:World):Prop:=
 ∀(l:Nat) (J:List α→World→Prop) (W:World),aa w W→(∀s A B,J s A→aa A B→J s B)→
  (∀pre x c,pre.length<M→J pre c→Good x c→R pre x→YieldAt Fence.wide 2 P l (b x) c fun e W'=>e=.returned (.bool true)∧J (pre++[x]) W'∧d c W')→
  J [] W→CallsIn Fence.wide 2 P f (#[.func (.yield l) #[] #[]]++lb) W fun e W'=>(∃v,e=.returned v)∧∃xs,S xs∧J xs W'
def et(B:Nat)(W W':World):Prop:=∃l o o',B≤l∧W.heap[l]?=some o∧o.isCells=false∧W'=W.putObj l o'
theorem kC{α:Type}{R:List α→α→Prop}{P:Program}{g:Operand}{ps:Array Tmp}{assign body:Code}{Q:Exit→Act→World→Prop}{a:Act}{w:World}
    {N:Nat} {lb:Array Value} (hg:a.eval g=.func (.func N) #[] lb) (eg:∀args w,(callFunc N args).run P w=.ok (.enter N args) w)
    (c:α→Array Value) (c6:∀x,(c x).size=ps.size) {Good:α→World→Prop} {J:World→World→Prop} {S:List α→Prop} {M:Nat} (b':ul R P N lb c Good J S M w)
    (b1:∀x W W',Good x W→et w.heap.size W W'→Good x W') (V:∀{A B C:World},J A B→J B C→J A C) (U:∀W W',et w.heap.size W W'→J W W')
    (I:List α→World→Prop) (O:∀s A B,I s A→aa A B→I s B) (m:∀s A B,I s A→et w.heap.size A B→I s B) (h0:I [] w) (a1:α→Act)
    (d:∀(l:Nat) (x:α) (W:World) (K:Act→World→Prop),K (a1 x) W→assign.wpIn (Fence.wide.inRound l) 2 P (Exit.then K (fun _ _ _=>False)) {tmps:=(ps.zip (c x)).foldl (fun t (p,v)=>t.setIfInBounds p v) a.tmps,defers:=[]} W)
    (y:∀(l:Nat) (pre:List α) (x:α) (W:World),pre.length<M→I pre W→Good x W→R pre x→body.wpIn (Fence.wide.inRound l) 2 P (fun e _ W'=>e=.normal∧ic w.heap.size W W'∧J W W'∧I (pre++[x]) W') (a1 x) W)
    (z:∀(D:Nat) (xs:List α) (W:World),w.heap.size≤D→S xs→I xs W→W.heap[D]?=some (.deferred (some []))→Q .normal {a with defers:={target:=.collected D,args:= #[]}::a.defers} W):
    (Code.rangeFunc g ps assign body).wp P Q a w:=by
 refine(wpIn_wide (n:=3)).1 ?_;refine wpIn_rangeFunc fun fn c'=>?_
 obtain⟨j,b⟩:∃j:LoopState→Option Code→Loop,j=fun st pe=>{state:=st,pending:=pe,fn,tmps:=a.tmps,params:=ps,assign,body,defers:=w.heap.size}:=⟨_,rfl⟩
 obtain⟨H,i⟩:=nM ((w.alloc (.deferred (some []))).alloc (.loop (j .ready none)));have b0:aa w H:=by rw[i];exact aa.al (aa.al (aa.refl w) _) _
 have c1:H.heap[w.heap.size+1]?=some (.loop (j .ready none)):=by
  rw[i];have:=World.alloc_heap_new (w.alloc (.deferred (some []))) (.loop (j .ready none))
  rwa[World.size_alloc]at this
 have b7:H.heap[w.heap.size]?=some (.deferred (some [])):=by
  rw[i];exact(Below.heap_alloc _ _ _ (by simp)).trans (World.alloc_heap_new w _)
 refine⟨w.heap.size+1,[{target:=.collected w.heap.size,args:= #[]}],H,{target:=.fn (.func N) lb,args:= #[.func (.yield (w.heap.size+1)) #[] #[]]},H,N, #[.func (.yield (w.heap.size+1)) #[] #[]]++lb,H,?_,?_,fun _ _=>trivial,?_,fun _=>by decide,?_⟩
 ·rw[i,b];exact run_enterLoop_outer _ _ _ _ _
 ·simp only[resolve,hg];simp[go_sem]
 ·simp[invoke,go_sem,eg]
 have put:∀(W:World) (r r':Loop),W.heap[w.heap.size+1]?=some (.loop r)→et w.heap.size W (W.putObj (w.heap.size+1) (.loop r')):=fun W r r' h=>⟨_,_,_,by omega,h,rfl,rfl⟩
 refine(b' (w.heap.size+1) (fun pre W=>I pre W∧W.heap[w.heap.size+1]?=some (.loop (j .ready none))∧W.heap[w.heap.size]?=some (.deferred (some []))) H b0 ?_ ?_ ⟨O _ _ _ h0 b0,c1,b7⟩).mono ?_
 ·rintro s A B ⟨hi,hl,hd⟩ hN;exact⟨O s A B hi hN,(hN.block _ (Array.getElem?_eq_some_iff.1 hl).1).trans hl,(hN.block _ (Array.getElem?_eq_some_iff.1 hd).1).trans hd⟩
 ·rintro pre x W c5 ⟨hi,hl,hd⟩ E b3;have c4:=(Array.getElem?_eq_some_iff.1 hl).1;have hy:=run_yield (P:=P) (args:=c x) hl (by rw [b];exact c6 x);rw [b] at hy;refine ⟨fn,_,assign,body,hy,roundIn_of_wpIn c' (d _ x W _ ⟨_,run_beginRound hl (by rw [b]),?_⟩)⟩;obtain ⟨L,f⟩:=nM (W.putObj (w.heap.size+1) (.loop {j .ready none with state:= .busy}));have u:et w.heap.size W L:=by rw [f];exact put W _ _ hl
  have c3:L.heap[w.heap.size+1]?=some (.loop {j .ready none with state:=.busy}):=by rw[f];exact World.putObj_heap_same c4
  have b8:L.heap[w.heap.size]?=some (.deferred (some [])):=by rw[f];exact(World.putObj_heap_other (by omega)).trans hd
  rw[←f];refine wpIn_mono (y _ pre x L c5 (m _ _ _ hi u) (b1 _ _ _ E u) b3) ?_;rintro e a3 W3 ⟨rfl,Y,Z,c0⟩;have G:=Y.rest _ _ (by omega) c3 rfl;have b9:=Y.rest _ _ (Nat.le_refl _) b8 rfl;have hr:=run_endRound (P:=P) none G;have X:=put W3 _ {j .ready none with state:=(if(none:Option Code).isNone then .ready else .done),pending:=none} G;refine⟨_,_,hr,rfl,⟨m _ _ _ c0 X,?_,(World.putObj_heap_other (by omega)).trans b9⟩,V (U _ _ u) (V Z (U _ _ X))⟩;rw[World.putObj_heap_same (Array.getElem?_eq_some_iff.1 G).1,b];rfl
 ·rintro e L ⟨⟨v,rfl⟩,xs,hS,hi,hl,hd⟩;have k:=run_endLoop (P:=P) hl (by rw[b];simp);rw[b]at k;exact⟨none,_,k,z _ xs _ (Nat.le_refl _) hS (m _ _ _ hi (put L _ _ hl)) ((World.putObj_heap_other (by omega)).trans hd)⟩
def FH(D:Nat):Deferred:={target:=.collected D,args:= #[]}
def dc(B:Nat)(Ds:List Nat)(W:World):Prop:=Ds.Nodup∧∀D∈Ds,B≤D∧W.heap[D]?=some (.deferred (some []))
section
variable {B:Nat}{Ds:List Nat}{W W':World}
theorem dc.nil(B:Nat)(W:World):dc B [] W:=⟨List.nodup_nil,fun D h=>by cases h⟩
theorem dc.lt(h:dc B Ds W){D:Nat}(b:D∈Ds):D<W.heap.size:=(Array.getElem?_eq_some_iff.1 (h.2 D b).2).1
theorem dc.cons(h:dc B Ds W){D:Nat}(h0:∀k∈Ds,k<D)(c:B≤D)(hd:W.heap[D]?=some (.deferred (some []))):dc B (D::Ds) W:=
 ⟨List.nodup_cons.2 ⟨fun d=>by have:=h0 D d;omega,h.1⟩,fun k b=>by
  rcases List.mem_cons.1 b with rfl|b
  ·exact⟨c,hd⟩
  ·exact h.2 k b⟩
structure qY(B:Nat)(W W':World):Prop where
 below:Below B W W'
 cells:∀(k:Nat) (o:Obj),W.heap[k]?=some o→o.isCells=true→W'.heap[k]?=some o
theorem qY.refl(B:Nat)(W:World):qY B W W:=⟨Below.refl _ _,fun _ _ h _=>h⟩
theorem ez{F:Fence}{n:Nat}{P:Program}{fn:Func}{tmps:Array Value}{R:Ending→World→Prop}:∀(Ds:List Nat) (W:World),dc B Ds W→
    (∀W',qY B W W'→∃v,(results fn tmps).run P W'=.ok v W'∧R (.returned v) W')→LeavesInM F n P fn tmps R (Ds.map FH) .returning W:=by
 intro Ds
 induction Ds with
 |nil=>exact fun W _ h=>h W (qY.refl B W)
 |cons D Ds r=>
  intro W b h;have c:=b.2 D (by simp);have m:=b.lt (D:=D) (by simp);have l:=List.nodup_cons.1 b.1;refine⟨by simp,.inl ⟨D,_,rfl,run_takeDeferred c.2,r _ ⟨l.2,fun k d=>⟨(b.2 k (by simp[d])).1,?_⟩⟩ ?_⟩⟩
  ·have f:k≠D:=fun e=>l.1 (by rw [←e];exact d)
   exact(World.putObj_heap_other f).trans (b.2 k (by simp[d])).2
  ·intro W' hS;refine h W' ⟨((Below.refl B W).grown (grownBy_putObj' W D (.deferred none)) (by omega) (fun k e=>by cases e;exact c.1)).trans hS.below,fun k o i j=>hS.cells k o ?_ j⟩;refine(World.putObj_heap_other (fun e=>?_)).trans i;rw[e,c.2]at i
   cases i
   cases j
end
section
variable {B:Nat}{W W':World}
theorem et.keep{k:Nat}{o:Obj}(h:et B W W')(b:W.heap[k]?=some o)(d:o.isCells=true):W'.heap[k]?=some o:=by
 obtain⟨l,f,o',-,hl,c,rfl⟩:=h;refine(World.putObj_heap_other fun e=>?_).trans b;rw[e,hl]at b;injection b with b;rw[b,d]at c
 cases c
theorem et.blk{g:Nat}{t:TypeId}{cs:Array Value}(h:et B W W')(b:ab W g t cs):ab W' g t cs:=h.keep b rfl
theorem et.fr{S:Nat→Prop}(h:et B W W')(hS:∀j,B≤j→S j):Fr S W W':=by
 obtain⟨l,f,o',b,hl,d,rfl⟩:=h;exact⟨rfl,rfl,rfl,by simp,fun k _ c=>World.putObj_heap_other (fun e=>c (e▸hS _ b))⟩
theorem et.own{base e size n:Nat}{v:Value}{xs:List Value}(h:et B W W')(b:W.ownsRow base e size v n xs):W'.ownsRow base e size v n xs:=by
 refine⟨b.1,?_⟩;rcases b.2 with h2|⟨g,cap,cur,rfl,c,d,rest⟩
 ·exact .inl h2
 ·exact .inr ⟨g,cap,cur,rfl,c,h.keep d rfl,rest⟩
theorem dc.fr{B:Nat}{Ds:List Nat}{S:Nat→Prop}(h:dc B Ds W)(hF:Fr S W W')(hS:∀D,S D→¬W.heap[D]?=some (.deferred (some []))):dc B Ds W':=
 ⟨h.1,fun D b=>⟨(h.2 D b).1,(hF.block D (h.lt b) (fun c=>hS D c (h.2 D b).2)).trans (h.2 D b).2⟩⟩
theorem dc.new{B:Nat}{Ds:List Nat}(h:dc B Ds W)(b:aa W W'):dc B Ds W':=h.fr (S:=ia) (b.toFr _) (fun _ x=>x.elim)
end
theorem iq{W:World}{k t:Nat}{cs:Array Value}(h:ab W k t cs):¬W.heap[k]?=some (.deferred (some [])):=by
 intro e;unfold ab at h;rw[h]at e
 cases e
theorem CX{P:Program}{c:Code}{Q:Exit→Act→World→Prop}{a:Act}{w:World}(R:Act→World→Prop)(h1:∀b w',R b w'→Q .normal b w')
    (h2:∀d:Act→World→Prop,(∀b w',R b w'→d b w')→c.wp P (Exit.then d fun _ _ _=>False) a w):c.wp P Q a w:=
 wp_mono (h2 (fun a w=>Q .normal a w) h1) fun e b w' f=>by
  cases e<;>first|exact f|exact f.elim
end Go.Proofs.YtfchcdbfalgdlaaGreatDoor
namespace Go.Proofs.YtfchcdbfalgdlaaGreatDoor
open _root_.Go.Proofs.Tryz
open Go.RowKit Go.Sort
def fF(a b:Int):Int:=bits .xor .u32 a b
def bI(a b:Int):Int:=IntKind.u32.wrap (a+b)
def EQ(x:Int):Int:=fF (fF (ef x 7) (ef x 18)) (x/8)
def ER(y:Int):Int:=fF (fF (ef y 17) (ef y 19)) (y/1024)
def ik(s:List Int)(t:Nat):Int:=((at_ s (4*t)*256+at_ s (4*t+1))*256+at_ s (4*t+2))*256+at_ s (4*t+3)
def aL(s:List Int):Nat→List Int
 | 0=>[]
 |t+1=>aL s t++[if t<16 then ik s t else bI (bI (bI (at_ (aL s t) (t-16)) (EQ (at_ (aL s t) (t-15)))) (at_ (aL s t) (t-7))) (ER (at_ (aL s t) (t-2)))]
theorem dy(s:List Int)(t:Nat):(aL s t).length=t:=by
 induction t with
 |zero=>rfl
 |succ t b=>simp[aL,b]
def aN(n:Nat)(L:List Int):Array Value:=((L++List.replicate (n-L.length) 0).map fun x=>Value.int .u32 x).toArray
theorem cK{n:Nat}{L:List Int}{i:Nat}(h:i<L.length):(aN n L)[i]?=some (.int .u32 (at_ L i)):=by
 unfold aN at_;rw[List.getElem?_toArray,List.getElem?_map,List.getElem?_append_left h,List.getElem?_eq_getElem h];simp[List.getD_eq_getElem?_getD,List.getElem?_eq_getElem h]
theorem pf{n:Nat}{L:List Int}{i:Nat}(h:i<n):∃v,(aN n L)[i]?=some v:=by
 unfold aN;rw[List.getElem?_toArray,List.getElem?_map];have:i<(L++List.replicate (n-L.length) (0:Int)).length:=by simp;omega
 rw[List.getElem?_eq_getElem this];exact⟨_,rfl⟩
theorem pg{n:Nat}{L:List Int}(v:Int)(h:L.length<n):(aN n L).setIfInBounds L.length (.int .u32 v)=aN n (L++[v]):=by
 unfold aN;rw[bK]
 congr 1
 obtain⟨m,b⟩:∃m,n-L.length=m+1:=⟨n-L.length-1,by omega⟩
 have h2:n-(L++[v]).length=m:=by simp;omega
 rw[b,h2,List.map_append,List.set_append_right _ _ (by simp)];simp[List.replicate_succ]
theorem gF{n:Nat}{L:List Int}(h:L.length≤n):(aN n L).size=n:=by
 simp[aN];omega
theorem ud(n:Nat)(L:List Int):(aN n L).all (·.oneCell')=true:=by
 rw[Array.all_eq_true_iff_forall_mem];intro x b;unfold aN at b;rw[List.mem_toArray]at b;obtain⟨y,-,rfl⟩:=List.mem_map.1 b;rfl
theorem fk(a b:Int):0≤bI a b∧bI a b<4294967296:=by
 unfold bI;rw[IntKind.wrap_u32];omega
theorem sm{s:List Int}(f:s.length=64)(b:aU s)(t:Nat):∀i,0≤at_ (aL s t) i∧at_ (aL s t) i<4294967296:=by
 have key:∀i,0≤at_ s i∧at_ s i<256:=fun i=>by
  unfold at_;rw[List.getD_eq_getElem?_getD]
  cases h:s[i]? with
  |none=>simp
  |some x=>exact b x (List.mem_of_getElem? h)
 induction t with
 |zero=>intro i;simp[aL,at_]
 |succ t c=>
  intro i
  have e:at_ (aL s (t+1)) i=if i<t then at_ (aL s t) i else if i=t then(if t<16 then ik s t else bI (bI (bI (at_ (aL s t) (t-16)) (EQ (at_ (aL s t) (t-15)))) (at_ (aL s t) (t-7))) (ER (at_ (aL s t) (t-2))))else 0:=by
   have hl:=dy s t;show at_ (aL s t++[_]) i=_;unfold at_;rw[List.getD_eq_getElem?_getD]
   by_cases h:i<t
   ·rw[if_pos h,List.getElem?_append_left (by omega),List.getD_eq_getElem?_getD]
   ·rw[if_neg h,List.getElem?_append_right (by omega),hl]
    by_cases h2:i=t
    ·subst h2;simp
    ·rw[if_neg h2,List.getElem?_eq_none (by simp;omega)];rfl
  rw[e];split
  ·exact c i
  ·split
   ·split
    ·unfold ik;have h0:=key (4*t);have h1:=key (4*t+1);have h2:=key (4*t+2);have d:=key (4*t+3);omega
    ·exact fk _ _
   ·omega
theorem dM{fn:Func}{p:Tmp}{ty:TypeId}{P:Program}(h:fn.results= #[.cell p ty])(tmps:Array Value)(w:World)(g:Nat)(cs:Array Value)(d:TypeDesc)
    (c:tmps.getD p undef=.pointer (some ⟨g,0,none⟩)) (b:ab w g ty cs) (hu:P.underlying ty=some d) (hd:d.isRow=true) (hi:(P.info? ty).map (·.size)=some cs.size):
    (results fn tmps).run P w=.ok (.agg cs) w:=results_cell_row h tmps w g ty cs (0,0) d c b hu (by cases d<;>first|rfl|(simp[TypeDesc.isRow]at hd)) hi
theorem Eb(d t:Nat)(h:t<16)(w:World):(Instr.sliceAt 67 (.pointer (some ⟨d,0,none⟩)) (some (.int .i64 (4*(t:Int)))) (some (.int .i64 (4*(t:Int)+4))) none).run prog w=.ok (.slice (some ⟨d,4*t,none⟩) 4 (64-4*t)) w:=by
 have b:(prog.arrayLen 67)=64:=by kernel_rfl
 have c:(prog.elem 67)=5:=by kernel_rfl
 have hu:prog.underlying 67=some (.array (prog.arrayLen 67) (prog.elem 67)):=by rw[b,c];exact underlying67
 have j:(sizeOf 5).run prog w=.ok 1 w:=by
  first|exact sizeOf5 w|simp[sizeOf5,go_sem]|kernel_rfl
 rw[run_sliceAt_array_lh (P:=prog) w 67 ⟨d,0,none⟩ hu .i64 .i64 (4*(t:Int)) (4*(t:Int)+4) (by omega) (by omega) (by rw[b];omega),c,b,j];have f:(4*(t:Int)).toNat=4*t:=by omega
 have i:(4*(t:Int)+4).toNat=4*t+4:=by omega
 simp only[Result.andThen_ok,slicedAt,f,i];rw[if_neg (by omega),gg,Nat.mul_one];simp
theorem vB (s:List Int) (w:World) (hs:s.length=64) (hb:aU s):Calls prog 174 #[.agg (af s)] w fun e w'=>e= .returned (.agg (aN 64 (aL s 64)))∧aa w w':=by
 have HS:=Ld hs;have HB:=Ld hb;clear hs hb
 go_enter func174,ntmps174
 go_upto_region 2 with fail
 obtain⟨w1,z⟩:=nM (((w.alloc (.cells (af s) 67)).alloc (.cells #[.int .u32 0,.int .u32 0,.int .u32 0,.int .u32 0,.int .u32 0,.int .u32 0,.int .u32 0,.int .u32 0,.int .u32 0,.int .u32 0,.int .u32 0,.int .u32 0,.int .u32 0,.int .u32 0,.int .u32 0,.int .u32 0,.int .u32 0,.int .u32 0,.int .u32 0,.int .u32 0,.int .u32 0,.int .u32 0,.int .u32 0,.int .u32 0,.int .u32 0,.int .u32 0,.int .u32 0,.int .u32 0,.int .u32 0,.int .u32 0,.int .u32 0,.int .u32 0,.int .u32 0,.int .u32 0,.int .u32 0,.int .u32 0,.int .u32 0,.int .u32 0,.int .u32 0,.int .u32 0,.int .u32 0,.int .u32 0,.int .u32 0,.int .u32 0,.int .u32 0,.int .u32 0,.int .u32 0,.int .u32 0,.int .u32 0,.int .u32 0,.int .u32 0,.int .u32 0,.int .u32 0,.int .u32 0,.int .u32 0,.int .u32 0,.int .u32 0,.int .u32 0,.int .u32 0,.int .u32 0,.int .u32 0,.int .u32 0,.int .u32 0,.int .u32 0] 250)).alloc (.cells #[.int .u32 0,.int .u32 0,.int .u32 0,.int .u32 0,.int .u32 0,.int .u32 0,.int .u32 0,.int .u32 0,.int .u32 0,.int .u32 0,.int .u32 0,.int .u32 0,.int .u32 0,.int .u32 0,.int .u32 0,.int .u32 0,.int .u32 0,.int .u32 0,.int .u32 0,.int .u32 0,.int .u32 0,.int .u32 0,.int .u32 0,.int .u32 0,.int .u32 0,.int .u32 0,.int .u32 0,.int .u32 0,.int .u32 0,.int .u32 0,.int .u32 0,.int .u32 0,.int .u32 0,.int .u32 0,.int .u32 0,.int .u32 0,.int .u32 0,.int .u32 0,.int .u32 0,.int .u32 0,.int .u32 0,.int .u32 0,.int .u32 0,.int .u32 0,.int .u32 0,.int .u32 0,.int .u32 0,.int .u32 0,.int .u32 0,.int .u32 0,.int .u32 0,.int .u32 0,.int .u32 0,.int .u32 0,.int .u32 0,.int .u32 0,.int .u32 0,.int .u32 0,.int .u32 0,.int .u32 0,.int .u32 0,.int .u32 0,.int .u32 0,.int .u32 0] 250):World);obtain⟨H,U⟩:=nM (w.heap.size);obtain⟨b2,V⟩:=nM (w.heap.size+1);obtain⟨b,X⟩:=nM (w.heap.size+1+1);have hz:(#[.int .u32 0,.int .u32 0,.int .u32 0,.int .u32 0,.int .u32 0,.int .u32 0,.int .u32 0,.int .u32 0,.int .u32 0,.int .u32 0,.int .u32 0,.int .u32 0,.int .u32 0,.int .u32 0,.int .u32 0,.int .u32 0,.int .u32 0,.int .u32 0,.int .u32 0,.int .u32 0,.int .u32 0,.int .u32 0,.int .u32 0,.int .u32 0,.int .u32 0,.int .u32 0,.int .u32 0,.int .u32 0,.int .u32 0,.int .u32 0,.int .u32 0,.int .u32 0,.int .u32 0,.int .u32 0,.int .u32 0,.int .u32 0,.int .u32 0,.int .u32 0,.int .u32 0,.int .u32 0,.int .u32 0,.int .u32 0,.int .u32 0,.int .u32 0,.int .u32 0,.int .u32 0,.int .u32 0,.int .u32 0,.int .u32 0,.int .u32 0,.int .u32 0,.int .u32 0,.int .u32 0,.int .u32 0,.int .u32 0,.int .u32 0,.int .u32 0,.int .u32 0,.int .u32 0,.int .u32 0,.int .u32 0,.int .u32 0,.int .u32 0,.int .u32 0]:Array Value)=aN 64 []:=by rfl
 have c9:Hid (aa w w1):=Ld (by rw[z];exact aa.al (aa.al (aa.al (aa.refl _) _) _) _);have j:Hid (ab w1 H 67 (af s)):=Ld (by rw[z,U];exact((ab.new _ _ _).alloc _).alloc _);have m:Hid (ab w1 b2 250 (aN 64 [])):=Ld (by rw[z,V,←hz];exact(ab.new' _ _ _ (by simp)).alloc _);have c:Hid (ab w1 b 250 (aN 64 [])):=Ld (by rw[z,X,←hz];exact ab.new' _ _ _ (by simp));have HZ:Hid (H=w.heap.size∧b2=w.heap.size+1∧b=w.heap.size+2):=Ld ⟨U,V,X⟩;rw[←z,←X,←V,←U];clear z U V X hz
 go_wp2_with fail
 go_loopw [7] (fun i wr=>∃(t:Nat),t≤64∧i=.int .i64 t∧Hid (aa w wr)∧Hid (ab wr H 67 (af s))∧Hid (ab wr b2 250 (aN 64 []))∧Hid (ab wr b 250 (aN 64 (aL s t)))) (fun i _=>64-(intOf i).toNat)
 case atStart=>exact⟨0,Nat.zero_le _,rfl,c9,j,m,c⟩
 case round=>
  clear j m c c9;obtain⟨t,ht,rfl,HN,j,m,c⟩:=hrel
  by_cases Y:t<64
  ·have j':(0:Int)≤(t:Int):=by omega
   have j0:(t:Int)<64:=by omega
   by_cases c3:t<16
   ·have hd:decide ((t:Int)<16)=true:=decide_eq_true (by omega);have i4:=Eb H t c3;have hg:∀i,i<64→wr.cell? ⟨H,i,none⟩=some (.int .u8 (at_ s i)):=j.out.byte HS.out
    have g7:Rd (fun _=>True) wr 1 (some ⟨H,4*t,none⟩) 4 (am [at_ s (4*t),at_ s (4*t+1),at_ s (4*t+2),at_ s (4*t+3)]):=by
     refine⟨rfl,fun _=>⟨_,rfl,trivial,j.out.lt,fun i u hu=>?_⟩⟩;have hi:i<4:=(List.getElem?_eq_some_iff.1 hu).1
     have ha:(⟨H,4*t,none⟩:Addr).add i=⟨H,4*t+i,none⟩:=by
      unfold Addr.add;split
      ·next h0=>subst h0;rfl
      ·rfl
     rw[ha,hg _ (by omega)];rcases (by omega:i=0∨i=1∨i=2∨i=3)with rfl|rfl|rfl|rfl<;>exact hu
    have y:aU [at_ s (4*t),at_ s (4*t+1),at_ s (4*t+2),at_ s (4*t+3)]:=by
     have key:∀i,i<64→0≤at_ s i∧at_ s i<256:=fun i hi=>by
      have hl:i<s.length:=by rw[HS.out];exact hi
      have e:at_ s i=s[i]:=by simp[at_,List.getD_eq_getElem?_getD,List.getElem?_eq_getElem hl]
      rw[e];exact HB.out _ (List.getElem_mem _)
     intro x hx;simp only[List.mem_cons,List.not_mem_nil,or_false]at hx;rcases hx with rfl|rfl|rfl|rfl<;>exact key _ (by omega)
    have HW:=Ld (AV (some ⟨H,4*t,none⟩) 4 (64-4*t) _ _ _ _ _ wr g7 rfl y);clear hg g7 y
    go_wp2_with fail
    refine HW.out.mono ?_;rintro e w5 ⟨rfl,R⟩;have O:=Ld R;obtain⟨v,hv⟩:=pf (n:=64) (L:=aL s t) Y;have c5:w5.cell? ⟨b,t,none⟩=some v:=((R.blk c.out).cell t).trans hv;have f5:w5.frozen? ⟨b,t,none⟩=false:=(R.blk c.out).frozen t;have HF:Hid (Fr (fun k=>k=b) w5 (w5.setCell ⟨b,t,none⟩ (.int .u32 (ik s t)))):=Ld ((Fr.refl (fun k=>k=b) w5).setCell (p:=⟨b,t,none⟩) (fun _=>rfl) _);have c0:Hid (aa w (w5.setCell ⟨b,t,none⟩ (.int .u32 (ik s t)))):=Ld ((HN.out.tr O.out).fr HF.out (fun k hk=>by have:=HZ.out;omega))
    have b8:Hid (ab (w5.setCell ⟨b,t,none⟩ (.int .u32 (ik s t))) b 250 (aN 64 (aL s (t+1)))):=Ld (by
     have:=(O.out.blk c.out).set t (.int .u32 (ik s t));have h2:=pg (n:=64) (L:=aL s t) (ik s t) (by rw[dy];exact Y);rw[dy]at h2;rw[h2]at this
     simpa[aL,c3]using this)
    have E:Hid (ab (w5.setCell ⟨b,t,none⟩ (.int .u32 (ik s t))) H 67 (af s)):=Ld ((O.out.blk j.out).fr HF.out (by have:=HZ.out;omega));have G:Hid (ab (w5.setCell ⟨b,t,none⟩ (.int .u32 (ik s t))) b2 250 (aN 64 [])):=Ld ((O.out.blk m.out).fr HF.out (by have:=HZ.out;omega));clear R hv i4 HW;dsimp only;have g5:((at_ s (4*t)*256+at_ s (4*t+1))*256+at_ s (4*t+2))*256+at_ s (4*t+3)=ik s t:=rfl;rw[g5];clear g5
    go_wp2_with fail
    go_roundw
    case rel=>exact⟨t+1,by omega,by go_num,c0,E,G,b8⟩
    case measure=>simp[intOf];omega
   ·have hd:decide ((t:Int)<16)=false:=decide_eq_false (by omega);obtain⟨M,b0⟩:=nM (at_ (aL s t) (t-15));obtain⟨N,b7⟩:=nM (at_ (aL s t) (t-2));obtain⟨f,c1⟩:∃i,i=t-15:=⟨_,rfl⟩
    obtain⟨i2,h2⟩:∃i,i=t-2:=⟨_,rfl⟩
    obtain⟨i16,b'⟩:∃i,i=t-16:=⟨_,rfl⟩
    obtain⟨D,h7⟩:∃i,i=t-7:=⟨_,rfl⟩
    have i6:((t:Int)-15)=(f:Int):=by omega
    have e2:((t:Int)-2)=(i2:Int):=by omega
    have i9:((t:Int)-16)=(i16:Int):=by omega
    have e7:((t:Int)-7)=(D:Int):=by omega
    have c6:(aL s t).length=t:=dy s t;have b9:Hid ((aN 64 (aL s t))[f]?=some (.int .u32 M)):=Ld (by rw[b0,←c1];exact cK (by omega));have g9:Hid ((aN 64 (aL s t))[i2]?=some (.int .u32 N)):=Ld (by rw[b7,←h2];exact cK (by omega));have c':Hid ((aN 64 (aL s t))[i16]?=some (.int .u32 (at_ (aL s t) i16))):=Ld (cK (by omega));have i':Hid ((aN 64 (aL s t))[D]?=some (.int .u32 (at_ (aL s t) D))):=Ld (cK (by omega));have c4:0≤M∧M<4294967296:=by rw[b0];exact sm HS.out HB.out t _
    have y:0≤N∧N<4294967296:=by rw[b7];exact sm HS.out HB.out t _
    have j1:(f:Int)<64:=by omega
    have l2:(i2:Int)<64:=by omega
    have j2:(i16:Int)<64:=by omega
    have l7:(D:Int)<64:=by omega
    have j3:IntKind.i64.wrap (f:Int)=(f:Int):=IntWalk.i64_in _ (by omega);have w2:IntKind.i64.wrap (i2:Int)=(i2:Int):=IntWalk.i64_in _ (by omega);have j4:IntKind.i64.wrap (i16:Int)=(i16:Int):=IntWalk.i64_in _ (by omega);have w7:IntKind.i64.wrap (D:Int)=(D:Int):=IntWalk.i64_in _ (by omega);have d':=Ld b0;have f':=Ld b7;have HI:Hid (f=t-15∧i2=t-2∧i16=t-16∧D=t-7):=Ld ⟨c1,h2,b',h7⟩;clear c6 b0 b7 c1 h2 b' h7
    go_wp2_with fail
    refine ag (fun w'=>ab w' b 250 (aN 64 (aL s t))) [(true,0),(true,1),(true,2),(true,3),(true,4),(true,5),(true,6),(true,7),(true,8),(true,9)] (by kernel_rfl) (by kernel_rfl) c.out (fun i3=>?_);have i5:∀p:HW (fun w'=>ab w' b 250 (aN 64 (aL s t))),p.w.cell? ⟨b,f,none⟩=some (.int .u32 M):=fun p=>(p.h.cell f).trans b9.out
    have q2:∀p:HW (fun w'=>ab w' b 250 (aN 64 (aL s t))),p.w.cell? ⟨b,i2,none⟩=some (.int .u32 N):=fun p=>(p.h.cell i2).trans g9.out
    iterate 10 (refine ae (o:=.mk ..) rfl (fun K hK=>?_);go_simp;refine hK _ ?_;clear hK K)
    clear i5 q2 i3;refine ao ?_;have i1:=cell_regrown (show(wr.drew).cell? ⟨b,i16,none⟩=some (.int .u32 (at_ (aL s t) i16))from(c.out.drew.cell i16).trans c'.out);have c7:=cell_regrown (show(wr.drew).cell? ⟨b,D,none⟩=some (.int .u32 (at_ (aL s t) D))from(c.out.drew.cell D).trans i'.out)
    have cT:∀(x:Int) (k:Nat),(0≤x∧x<4294967296)→(1≤k∧k≤31)→∀d os,Calls prog 175 #[.int .u32 x,.int .i64 (k:Int)] (grow (redrawn wr.drew d) os) fun e w''=>e= .returned (.int .u32 (ef x k))∧∃p:Regrown,w''=grow (redrawn wr.drew p.d) p.os:=
     fun x k hx hk=>bV (fun W _=>(jW x k W hx hk).mono fun e w' h=>⟨h.1,by rw[←h.2];exact aa.refl _⟩)
    have t1:=cT M 7 c4 (by omega);have t2:=cT M 18 c4 (by omega);have t3:=cT N 17 y (by omega);have t4:=cT N 19 y (by omega);clear cT
    go_wp2_with fail
    refine dE 29 (by kernel_rfl) (by kernel_rfl) ?_;simp only[List.take_succ_cons,List.take_zero,List.drop_succ_cons,List.drop_zero]
    repeat(quiet_step (first|exact t1 _ _|exact t2 _ _|exact t3 _ _|exact t4 _ _))
    refine wpQuiet_nil ?_;intro J g3;have r:Hid (aa wr J):=Ld (aa.tr (aa.dr (aa.refl wr)) g3);obtain⟨v,hv⟩:=pf (n:=64) (L:=aL s t) Y;have c5:J.cell? ⟨b,t,none⟩=some v:=((r.out.blk c.out).cell t).trans hv;have f5:J.frozen? ⟨b,t,none⟩=false:=(r.out.blk c.out).frozen t;obtain⟨val,l⟩:=nM ((bI (bI (bI (at_ (aL s t) i16) (EQ M)) (at_ (aL s t) D)) (ER N)));have I:IntKind.u32.wrap (IntKind.u32.wrap (IntKind.u32.wrap (at_ (aL s t) i16+bits BinOp.xor .u32 (bits BinOp.xor .u32 (ef M 7) (ef M 18)) (M/8))+at_ (aL s t) D)+bits BinOp.xor .u32 (bits BinOp.xor .u32 (ef N 17) (ef N 19)) (N/1024))=val:=l.symm;rw[I];have HF:Hid (Fr (fun k=>k=b) J (J.setCell ⟨b,t,none⟩ (.int .u32 val))):=Ld ((Fr.refl (fun k=>k=b) J).setCell (p:=⟨b,t,none⟩) (fun _=>rfl) _);have c0:Hid (aa w (J.setCell ⟨b,t,none⟩ (.int .u32 val))):=Ld ((HN.out.tr r.out).fr HF.out (fun k hk=>by have:=HZ.out;omega))
    have b8:Hid (ab (J.setCell ⟨b,t,none⟩ (.int .u32 val)) b 250 (aN 64 (aL s (t+1)))):=Ld (by
     have:=(r.out.blk c.out).set t (.int .u32 val);have h2:=pg (n:=64) (L:=aL s t) val (by rw[dy];exact Y);rw[dy]at h2;rw[h2,l,d'.out,f'.out,HI.out.2.2.1,HI.out.2.2.2]at this;rw[l,d'.out,f'.out,HI.out.2.2.1,HI.out.2.2.2]
     simpa[aL,c3]using this)
    have E:Hid (ab (J.setCell ⟨b,t,none⟩ (.int .u32 val)) H 67 (af s)):=Ld ((r.out.blk j.out).fr HF.out (by have:=HZ.out;omega));have G:Hid (ab (J.setCell ⟨b,t,none⟩ (.int .u32 val)) b2 250 (aN 64 [])):=Ld ((r.out.blk m.out).fr HF.out (by have:=HZ.out;omega));clear g3 hv t1 t2 t3 t4 i1 c7 l I c4 y
    go_wp2_with fail
    go_roundw
    case rel=>exact⟨t+1,by omega,by go_num,c0,E,G,b8⟩
    case measure=>simp[intOf];omega
  ·obtain rfl:t=64:=by omega
   have Z:(aN 64 (aL s 64)).size=64:=gF (by rw[dy];exact Nat.le_refl _);have c8:(aN 64 []).size=(aN 64 (aL s 64)).size:=by rw[Z];exact gF (by simp)
   go_wp2_with (first
    |(refine cg 59 rfl ?_;refine ac rfl _ rfl underlying250 rfl (by rw[Z];rfl) rfl c.out ?_)
    |((with_reducible refine aA ⟨none,.store 250 (.tmp 2) _,_,_,_,_⟩ ?_);refine an rfl (.tmp 2) (.tmp 59) rfl (by rw[Z];rfl) rfl rfl m.out c8 (ud _ _) ?_;intro w8 g4 g6;have g8:=Ld g4;have i0:=Ld g6;clear g4 g6))
   refine bodyPost_ret (v:=.agg (aN 64 (aL s 64))) (dM rfl _ _ b2 _ _ rfl g8.out underlying250 rfl (by rw[Z];rfl)) rfl ⟨rfl,HN.out.fr i0.out (fun k hk=>by have:=HZ.out;omega)⟩
end Go.Proofs.YtfchcdbfalgdlaaGreatDoor
