/- Texts of one proof. No condition but each one's own. -/
import Derived.Test.YtfchcdbfalgdlaaGreatDoorSweepOpensM21
set_option maxHeartbeats 4000000
set_option maxRecDepth 100000
set_option linter.unusedVariables false
set_option linter.unusedSimpArgs false
namespace Go.Proofs.YtfchcdbfalgdlaaGreatDoor
open _root_.Go.Proofs.Tryz
open Go.RowKit Go.Maps Go.Sort
attribute [local go_sem] Oper.semAt_some
theorem Fs:aW prog 106 22 1 24:=aW.mk' (z:=.slice none 0 0) underlying106 (by kernel_rfl) rfl (by decide)
theorem nQ (c:Ch) (w:World) (i:c.k.n≤1000000) (j:c.v.n≤1000000) (hd:c.d=false):Calls prog 103 #[.agg c.cells.toArray] w fun e w'=>e= .returned (.int .i64 (5+c.k.n+c.v.n:Nat))∧aa w w':=by
 obtain⟨⟨k,b,m,o⟩,⟨r,f,t,u⟩,d⟩:=c;dsimp only at i j hd;subst hd;unfold Ch.cells;dsimp only
 go_enter func103,ntmps103
 go_wp2_with fail
 go_ret;refine⟨?_,aa.al (aa.refl _) _⟩;have:(3+(b:Int)+2+f)=((5+b+f:Nat):Int):=by omega
 simp[this]
def pz(B:Nat)(W:World)(v:Value):Prop:=∀k,v.ownBlock=some k→B≤k∧∃cs t fz,W.heap[k]?=some (.cells cs t fz)∧t≠9∧t≠5
theorem pz.own{B b s n:Nat}{e:TypeId}{W:World}{v:Value}{xs:List Value}(h:W.ownsRow b e s v n xs)(f:B≤b)(i:e≠9∧e≠5):pz B W v:=fun k d=>by
 obtain⟨cs,fz,j⟩:=kq h d;exact⟨Nat.le_trans f (ak h k d).1,cs,e,fz,j,i⟩
theorem pz.nil{B:Nat}{W:World}:pz B W (.slice none 0 0):=fun k b=>by cases b
def BS(b b4:Nat)(v l:Value)(j:Nat):Prop:=(j=b∨j=b4)∨v.ownBlock=some j∨l.ownBlock=some j
theorem Bn{B i b4:Nat}{W m:World}{v l:Value}(y:pz B W v)(hl:pz B W l)(F:i<B)(G:b4<B)(hF:Fr (BS i b4 v l) W m):ic B W m∧Kk B (fun j=>j=i∨j=b4) W m:=by
 have key_l19:∀k o,B≤k→BS i b4 v l k→W.heap[k]?=some o→o.isCells=true∧¬aO 9 W k:=fun k o u b d=>by
  have h:∃cs t fz,W.heap[k]?=some (.cells cs t fz)∧t≠9∧t≠5:=by
   rcases b with(b|b)|b|b
   ·omega
   ·omega
   ·exact(y k b).2
   ·exact(hl k b).2
  obtain⟨cs,t,fz,z,ht⟩:=h;rw[z]at d;injection d with d;refine⟨by rw[←d];rfl,fun⟨cs',D,f⟩=>?_⟩;rw[z]at f;injection f with f;injection f with _ f;exact ht.1 f
 refine⟨ic.fr hF (fun k o u b d=>(key_l19 k o u b d).1),hF.mono fun j E b=>?_⟩;rcases b with b|b
 ·exact .inl b
 ·have d:W.heap[j]?=some W.heap[j]:=Array.getElem?_eq_getElem E
  have r:B≤j:=by
   rcases b with b|b
   ·exact(y j b).1
   ·exact(hl j b).1
  exact .inr ⟨r,(key_l19 j _ r (.inr b) d).2⟩
def FC(A:Option Addr)(c:Nat)(x:List Int×Fm):Ch:=⟨⟨A,x.1.length,c,x.1⟩,x.2,false⟩
def vO(y:Ch):Prop:=y.d=false∧y.k.n≤16∧y.v.n≤16384
def Em(s:List (List Int×Fm)):CT:=s.map fun x=>(x.1,x.2.xs)
def ET(b b4 B:Nat)(s:List (List Int×Fm))(v:Value)(r:Int)(W:World):Prop:=
 (s=[]∧v=.slice none 0 0∧r=0)∨∃(g n c:Nat) (C:List Sl) (l:Sl) (lo:Nat) (P:List Ch),v=.slice (some ⟨g,0,none⟩) n c∧iC 22 92 (fun j=>b4<j) B lo W (some ⟨g,0,none⟩) n c C l∧
  cl P=Em s∧lX ib P=some (C.map Sl.L,l.L)∧r=8190-((l.L.map ib).sum:Nat)∧(∀y∈P,vO y)∧l.L.length≤600∧(l.L.map ib).sum≤l.L.length*20000∧n≤s.length
def CH(b b4:Nat)(d:World)(s:List (List Int×Fm))(W:World):Prop:=Fr (fun j=>b≤j) d W∧∃(v:Value) (r:Int),ab W b 106 #[v]∧ab W b4 3 #[.int .i64 r]∧ET b b4 d.heap.size s v r W
theorem ET.new{d b4 B:Nat}{s:List (List Int×Fm)}{v:Value}{r:Int}{W b:World}(h:ET d b4 B s v r W)(i:aa W b):ET d b4 B s v r b:=by
 rcases h with h|⟨g,n,c,C,l,lo,P,h1,h2,f⟩
 ·exact .inl h
 ·exact .inr ⟨g,n,c,C,l,lo,P,h1,h2.new i,f⟩
theorem CH.new{f b4:Nat}{i:World}{s:List (List Int×Fm)}{W d:World}(h:CH f b4 i s W)(b:aa W d):CH f b4 i s d:=by
 obtain⟨h1,v,r,h2,j,k⟩:=h;exact⟨h1.trans (b.toFr _),v,r,b.blk h2,b.blk j,k.new b⟩
theorem CH.puts{d b4 B:Nat}{k:World}{s:List (List Int×Fm)}{W i:World}(h:CH d b4 k s W)(t:d≤B)(b:et B W i):CH d b4 k s i:=by
 obtain⟨h1,v,r,h2,f,m⟩:=h;refine⟨h1.trans (b.fr (fun j o=>Nat.le_trans t o)),v,r,b.blk h2,b.blk f,?_⟩;rcases m with h|⟨g,n,c,C,l,lo,P,h1,h2,f⟩
 ·exact .inl h
 ·exact .inr ⟨g,n,c,C,l,lo,P,h1,h2.puts b,f⟩
theorem vI{F:Fence}{n k:Nat}{P:Program}{A B C D:Code}{Q:Exit→Act→World→Prop}{a:Act}{w:World}(h:∀c,Hid (c=C)→(Code.block k (A.seq (B.seq (c.seq D)))).wpIn F n P Q a w):(Code.block k (A.seq (B.seq (C.seq D)))).wpIn F n P Q a w:=h C (Ld rfl)
theorem CG{F:Fence}{n:Nat}{P:Program}{c:Code}{Q:Exit→Act→World→Prop}{a:Act}{w:World}(R:Act→World→Prop)(h1:∀b w',R b w'→Q .normal b w')
    (h2:∀d:Act→World→Prop,(∀b w',R b w'→d b w')→c.wpIn F n P (Exit.then d fun _ _ _=>False) a w):c.wpIn F n P Q a w:=
 wpIn_mono (h2 (fun a w=>Q .normal a w) h1) fun e b w' f=>by
  cases e<;>first|exact f|exact f.elim
section
variable {tr te:TypeId}{q:Nat→Prop}{base lo g n c:Nat}{W:World}{C:List Sl}{l:Sl}
theorem wX(C:List Sl):(C.flatMap Sl.cells).length=C.length:=by
 induction C with
 |nil=>rfl
 |cons x C b=>simp[Sl.cells,b]
theorem iC.lastCell(h:iC tr te q base lo W (some ⟨g,0,none⟩) n c C l){k:Nat}(b:n=k+1):W.cell? ⟨g,k,none⟩=some (.slice l.A l.n l.c):=by
 have d:=h.nn;have e:k=C.length:=by omega
 have:=h.out.cells (g:=g) rfl k (.slice l.A l.n l.c) (by
  rw[List.flatMap_append,List.getElem?_append_right (by rw[wX];omega),wX,e]
  simp[Sl.cells])
 rwa[gg]at this
theorem iC.lastFrozen(h:iC tr te q base lo W (some ⟨g,0,none⟩) n c C l)(k:Nat):W.frozen? ⟨g,k,none⟩=false:=by
 rcases h.out.2 with⟨h0,-⟩|⟨g',cap,cur,f,m,d,h1,h2,i,j⟩
 ·injection h0 with h0;cases h0
 ·injection f with b r o;injection b with b;injection b with b;subst b;exact ab.frozen d k
end
theorem pz.lt{B:Nat}{W:World}{v:Value}(h:pz B W v){k:Nat}(b:v.ownBlock=some k):k<W.heap.size:=by
 obtain⟨-,cs,t,fz,d,-⟩:=h k b;exact(Array.getElem?_eq_some_iff.1 d).1
theorem pz.notB{B:Nat}{W:World}{v:Value}(h:pz B W v){k:Nat}(f:v.ownBlock=some k):¬aO 5 W k:=by
 obtain⟨-,cs,t,fz,i,-,ht⟩:=h k f;rintro⟨cs',d,b⟩;rw[i]at b;injection b with b;injection b with _ b;exact ht b
structure Fd(b3 b4 bc B:Nat)(v0 l0:Value)(W2 W5:World)(gO nO cO:Nat)(C:List Sl)(l:Sl)(lo:Nat)(r:Int)(x y z:Value):Prop where
 fr:Fr (BS b3 b4 v0 l0) W2 W5
 nst:iC 22 92 (fun j=>b4<j) B lo W5 (some ⟨gO,0,none⟩) nO cO C l
 hO:∀k,(Value.slice (some ⟨gO,0,none⟩) nO cO).ownBlock=some k→v0.ownBlock=some k∨bc<k
 hl:∀k,(Value.slice l.A l.n l.c).ownBlock=some k→l0.ownBlock=some k∨bc<k
 B3:ab W5 b3 106 #[.slice (some ⟨gO,0,none⟩) nO cO]
 B4:ab W5 b4 3 #[.int .i64 r]
 Bc:ab W5 bc 92 #[x,y,z]
structure CZ(b3 b4 bc B:Nat)(W W2 W5:World)(pre:List (List Int×Fm))(Y:Ch)(gO nO cO:Nat)(C:List Sl)(l:Sl)(lo:Nat)(r:Int)(x y z:Value):Prop where
 bef:∃v0 l0,pz B W v0∧pz B W l0∧Fd b3 b4 bc B v0 l0 W2 W5 gO nO cO C l lo r x y z
 pl:∃P:List Ch,cl P=Em pre∧(∀y∈P,vO y)∧lX ib (P++[Y])=some (C.map Sl.L,l.L++[Y])
 rr:r=8190-((l.L.map ib).sum:Nat)
 l6:l.L.length<600
 ls:(l.L.map ib).sum≤l.L.length*20000
 nn:nO≤pre.length+1
theorem re{b b4 r B lo i o f:Nat}{v0 l0:Value}{F d:World}{C:List Sl}{x y z M N:Value}(hF:Fr (BS b b4 v0 l0) F d)
    (L:iC 22 92 (fun j=>b4<j) B lo d (some ⟨i,0,none⟩) o f C ⟨none,0,0,[]⟩)
    (hO:∀k,(Value.slice (some ⟨i,0,none⟩) o f).ownBlock=some k→v0.ownBlock=some k∨r<k) (u:ab d b 106 #[M]) (v:ab d b4 3 #[N]) (D:ab d r 92 #[x,y,z]) (J:b≤b4):
    Fd b b4 r B v0 l0 F ((d.setCell ⟨b,0,none⟩ (.slice (some ⟨i,0,none⟩) o f)).setCell ⟨b4,0,none⟩ (.int .i64 8190)) i o f C ⟨none,0,0,[]⟩ lo 8190 x y z:=by
 have t:b≠b4:=ab.ne_ u v (by decide);have G:r≠b:=(ab.ne_ u D (by decide)).symm;have H:r≠b4:=(ab.ne_ v D (by decide)).symm
 have m:Fr (fun j=>j=b∨j=b4) d ((d.setCell ⟨b,0,none⟩ (.slice (some ⟨i,0,none⟩) o f)).setCell ⟨b4,0,none⟩ (.int .i64 8190)):=
  ((Fr.refl (fun j=>j=b∨j=b4) d).setCell (p:=⟨b,0,none⟩) (fun _=>.inl rfl) _).setCell (p:=⟨b4,0,none⟩) (fun _=>.inr rfl) _
 refine⟨hF.trans (m.mono fun j _ E=>.inl E),L.fr m (fun j E O=>by rcases E with rfl|rfl<;>omega),hO,fun k I=>(by cases I),?_,?_,D.fr m (by rintro(e|e)<;>omega)⟩
 ·exact ab.far (by simpa using u.set 0 (.slice (some ⟨i,0,none⟩) o f)) (p:=⟨b4,0,none⟩) t _
 ·have:=(ab.far v (p:=⟨b,0,none⟩) t.symm (.slice (some ⟨i,0,none⟩) o f)).set 0 (.int .i64 8190)
  simpa using this
theorem zD(s:List (List Int×Fm))(x:List Int×Fm):Em (s++[x])=Em s++[(x.1,x.2.xs)]:=by simp[Em]
theorem Ew{u b4 D:Nat}{f W m B:World}{pre:List (List Int×Fm)}{x:List Int×Fm}{cc y M E:Nat}{C:List Sl}{l:Sl}{lo:Nat}{r:Int}{Y:Ch}{N O P:Value}
    (R:u<f.heap.size) (S:b4<f.heap.size) (G:f.heap.size≤W.heap.size) (z:aa W m) (H:m.heap.size≤D) (L:W.heap.size<m.heap.size)
    (F:CZ u b4 D f.heap.size W m B pre Y y M E C l lo r N O P) (i:sI f.heap.size x W) (b:Rd (fun k=>k=W.heap.size) m 1 (some ⟨W.heap.size,0,none⟩) x.1.length (am x.1)):
    (FC (some ⟨W.heap.size,0,none⟩) cc x).In (fun j=>b4<j∧y≠j∧(Value.slice l.A l.n l.c).ownBlock≠some j) B:=by
 obtain⟨v0,l0,o,hl,t⟩:=F.bef
 have key_l19:∀k,(k=W.heap.size∨(x.2.val.ownBlock=some k))→¬BS u b4 v0 l0 k∧(b4<k∧y≠k∧(Value.slice l.A l.n l.c).ownBlock≠some k):=by
  intro k b
  have J:k≤W.heap.size:=by
   rcases b with rfl|b
   ·exact Nat.le_refl _
   ·exact Nat.le_of_lt (ak i.1 k b).2
  have I:f.heap.size≤k:=by
   rcases b with rfl|b
   ·exact G
   ·exact(ak i.1 k b).1
  have d:∀v,pz f.heap.size W v→v.ownBlock≠some k:=fun v o e=>by
   rcases b with rfl|b
   ·have:=o.lt e;omega
   ·exact o.notB e (kq i.1 b)
  refine⟨?_,by omega,fun e=>?_,fun e=>?_⟩
  ·rintro((e|e)|e|e)
   ·omega
   ·omega
   ·exact d _ o e
   ·exact d _ hl e
  ·rcases t.hO k (by rw [←e];rfl) with h | h
   ·exact d _ o h
   ·omega
  ·rcases t.hl k e with h | h
   ·exact d _ hl h
   ·omega
 refine⟨⟨((b.imp (q:=fun k=>k=W.heap.size∨(x.2.val.ownBlock=some k)) (fun k h=>.inl h)).fr t.fr (fun k h=>(key_l19 k h).1)).imp (fun k h=>(key_l19 k h).2),i.2.2.2.1⟩,
  ⟨(((z.rd (Rd.own i.1 rfl)).imp (q:=fun k=>k=W.heap.size∨(x.2.val.ownBlock=some k)) (fun k h=>.inr h)).fr t.fr (fun k h=>(key_l19 k h).1)).imp (fun k h=>(key_l19 k h).2),i.2.1⟩⟩
theorem Dj{f b4 bc:Nat}{B W S F E o:World}{pre:List (List Int×Fm)}{x:List Int×Fm}{Y:Ch}{d R U:Nat}{C:List Sl}{l:Sl}{lo:Nat}{r m:Int}{vx vy vz:Value}{M:Option Addr}{N L:Nat}
    (hF:Fr (fun j=>f≤j) B W) (c3:f≤b4) (h3:f<B.heap.size) (h4:b4<B.heap.size) (u:aa W S) (c9:S.heap.size≤bc) (D:CZ f b4 bc B.heap.size W S F pre Y d R U C l lo r vx vy vz) (hn:R=L+1)
    (hA:E.ownsRow lo 92 3 (.slice M (l.n+1) N) (l.n+1) (l.L.flatMap Ch.cells++Y.cells)) (t:Fr (fun k=>(Value.slice l.A l.n l.c).ownBlock=some k) F E)
    (c6:∀k,(Value.slice M (l.n+1) N).ownBlock=some k→(Value.slice l.A l.n l.c).ownBlock=some k∨F.heap.size≤k)
    (hY:Y.In (fun j=>b4<j∧d≠j∧(Value.slice l.A l.n l.c).ownBlock≠some j) F) (b9:Y.k.xs=x.1) (c0:Y.v.xs=x.2.xs) (c1:vO Y) (hz:ib Y≤20000)
    (O:aa (E.setCell ⟨d,L,none⟩ (.slice M (l.n+1) N)) o) (hr:m=r-(ib Y:Nat)):
    ic B.heap.size W (o.setCell ⟨b4,0,none⟩ (.int .i64 m))∧Kk B.heap.size (fun j=>j=f∨j=b4) W (o.setCell ⟨b4,0,none⟩ (.int .i64 m))∧CH f b4 B (pre++[x]) (o.setCell ⟨b4,0,none⟩ (.int .i64 m)):=by
 obtain⟨v0,l0,hv,hl,b⟩:=D.bef;obtain⟨P,b1,b7,b8⟩:=D.pl;have I:=b.nst.push hA t c6 hY (i:=L) (by omega);have z:Fr (fun k=>k=d) E (E.setCell ⟨d,L,none⟩ (.slice M (l.n+1) N)):=(Fr.refl (fun k=>k=d) E).setCell (p:=⟨d,L,none⟩) (fun _=>rfl) _;have G:Fr (fun k=>k=b4) o (o.setCell ⟨b4,0,none⟩ (.int .i64 m)):=(Fr.refl (fun k=>k=b4) o).setCell (p:=⟨b4,0,none⟩) (fun _=>rfl) _;have c7:¬(Value.slice l.A l.n l.c).ownBlock=some f:=bG b.nst.last b.B3 (by decide);have c8:¬(Value.slice l.A l.n l.c).ownBlock=some b4:=bG b.nst.last b.B4 (by decide);have c4:f≠d:=fun e=>bG b.nst.out b.B3 (by decide) (by rw[e];rfl)
 have c5:b4≠d:=fun e=>bG b.nst.out b.B4 (by decide) (by rw[e];rfl)
 have V:f≠b4:=ab.ne_ b.B3 b.B4 (by decide);have X:ab (o.setCell ⟨b4,0,none⟩ (.int .i64 m)) f 106 #[.slice (some ⟨d,0,none⟩) R U]:=(O.blk ((b.B3.fr t c7).fr z c4)).far (p:=⟨b4,0,none⟩) V _
 have Z:ab (o.setCell ⟨b4,0,none⟩ (.int .i64 m)) b4 3 #[.int .i64 m]:=by
  have:=(O.blk ((b.B4.fr t c8).fr z c5)).set 0 (.int .i64 m)
  simpa using this
 have d':W.heap.size≤F.heap.size:=Nat.le_trans u.size b.fr.size
 have H:Fr (BS f b4 v0 l0) W (o.setCell ⟨b4,0,none⟩ (.int .i64 m)):=by
  refine((u.toFr _).trans b.fr).trans' (T:=fun k=>(Value.slice l.A l.n l.c).ownBlock=some k∨k=d∨k=b4) ?_ ?_
  ·exact(((t.mono fun _ _ h=>.inl h).trans (z.mono fun _ _ h=>.inr (.inl h))).trans (O.toFr _)).trans (G.mono fun _ _ h=>.inr (.inr h))
  ·rintro k hk (h|h|h)
   ·rcases b.hl k h with h | h
    ·exact .inr (.inr h)
    ·have:=u.size;omega
   ·rcases b.hO k (by rw [h];rfl) with h | h
    ·exact .inr (.inl h)
    ·have:=u.size;omega
   ·exact .inl (.inr h)
 obtain⟨b',b0⟩:=Bn hv hl h3 h4 H;refine⟨b',b0,hF.trans (H.mono fun j _ v=>?_),_,_,X,Z,.inr ⟨d,R,U,C,_,lo,P++[Y],rfl,(I.new O).fr G (fun j v hq=>by omega),?_,b8,?_,?_,?_,?_,?_⟩⟩
 ·have hz:=hF.size;rcases v with (v | v) | v | v
  ·omega
  ·omega
  ·have:=(hv j v).1;omega
  ·have:=(hl j v).1;omega
 ·rw[zD,←b1,←b9,←c0];simp[cl]
 ·have:=D.rr;simp;omega
 ·intro y J;rcases List.mem_append.1 J with J | J
  ·exact b7 y J
  ·rw[List.mem_singleton.1 J];exact c1
 ·have:=D.l6;simp;omega
 ·have:=D.ls;simp;omega
 ·have:=D.nn;simp;omega
def ng(d b f i:Nat)(v row x y z:Value)(w:World):Prop:=w.cell? ⟨d,0,none⟩=some v∧w.cell? ⟨f,i,none⟩=some row∧w.cell? ⟨b,0,none⟩=some x∧w.cell? ⟨b,1,none⟩=some y∧w.cell? ⟨b,2,none⟩=some z
def xj(b4 b:Nat)(r x y z:Value)(w:World):Prop:=w.cell? ⟨b4,0,none⟩=some r∧w.cell? ⟨b,0,none⟩=some x∧w.cell? ⟨b,1,none⟩=some y∧w.cell? ⟨b,2,none⟩=some z
theorem Rd.keep{p:Nat→Prop}{W f:World}{size n:Nat}{A:Option Addr}{xs:List Value}(m:Rd p W size A n xs)(B:W.heap.size≤f.heap.size)(v:∀(k:Nat) (o:Obj),W.heap[k]?=some o→o.isCells=true→f.heap[k]?=some o):Rd p f size A n xs:=
 ⟨m.1,fun y=>by
  obtain⟨b,e,z,r,t⟩:=m.2 y;refine⟨b,e,z,Nat.lt_of_lt_of_le r B,fun j u hu=>?_⟩;have h:=t j u hu;have i:=World.block_lt_of_cell? W _ h;refine(World.cell?_of_block (w:=W) ?_).trans h;have d:W.heap[(b.add j).block]?=some W.heap[(b.add j).block]:=Array.getElem?_eq_getElem i;refine(v _ _ d ?_).trans d.symm;generalize W.heap[(b.add j).block]=o at d;unfold World.cell? at h;rw[d]at h
  cases o<;>first|rfl|simp at h⟩
theorem yK.shut{B:Nat}{W f:World}{A:Option Addr}{n:Nat}{R:List Sl}(h:yK W A n R)(hS:qY B W f):yK f A n R:=
 ⟨dw (h.rd.keep hS.below.size hS.cells),h.len,fun x b=>⟨dw ((h.el x b).rd.keep hS.below.size hS.cells),(h.el x b).len,fun c d=>Ch.In.szs ⟨⟨((h.el x b).el c d).k.rd.keep hS.below.size hS.cells,((h.el x b).el c d).k.byt⟩,⟨((h.el x b).el c d).v.rd.keep hS.below.size hS.cells,((h.el x b).el c d).v.byt⟩⟩⟩⟩
theorem iI.shut{B D f:Nat}{W i:World}{A:Option Addr}{n:Nat}{R:List Sl}(h:iI D f W A n R)(hS:qY B W i):iI D f i A n R:=
 ⟨h.rd.keep hS.below.size hS.cells,h.len,fun x b=>⟨(h.el x b).1,(h.el x b).2.1.keep hS.below.size hS.cells,fun c d=>⟨⟨((h.el x b).2.2 c d).k.rd.keep hS.below.size hS.cells,((h.el x b).2.2 c d).k.byt⟩,⟨((h.el x b).2.2 c d).v.rd.keep hS.below.size hS.cells,((h.el x b).2.2 c d).v.byt⟩⟩⟩⟩
theorem uA(xs:List Int)(d:aU xs)(w:World):∃(c:Nat) (w':World),(convert 9 33 (.string (strOfNums xs))).run prog w=.ok (.slice (some ⟨w.heap.size,0,none⟩) xs.length c) w'∧aa w w'∧Rd (fun k=>k=w.heap.size) w' 1 (some ⟨w.heap.size,0,none⟩) xs.length (am xs)∧w.heap.size<w'.heap.size:=by
 have h:=Go.run_bytes_of_string (P:=prog) w 9 33 5 (strOfNums xs) underlying9 underlying33 underlying5;rw[strOfNums_size]at h;obtain⟨c,w',h1,h2,b⟩:=xy xs d w;refine⟨c,w',h1,h2,b,?_⟩;rw[h]at h1;injection h1 with _ e;rw[←e,World.size_alloc];exact Nat.lt_succ_self _
theorem mT{X:Nat→Prop}{w:World}{base g b m:Nat}{E:fi}(h:dl X w base g b m E)(hm:m≤1000000)(hE:E.length≤1000000):
    Calls prog 52 #[.pointer (some ⟨g,0,none⟩)] w fun e w'=>(∃(A:Option Addr) (n c:Nat) (R:List Sl) (P:List Ch),e=.returned (.slice A n c)∧(yK w' A n R∧∃D,iI w.heap.size D w' A n R∧D≤w'.heap.size)∧cl P=aZ (cY E)∧R.map Sl.L=iV (lX ib P)∧(∀y∈P,vO y))∧aa w w':=by
 have H:=Ld h
 have hX:∀j,X j→j<w.heap.size:=fun j hj=>by
  obtain⟨_,cs,fz,hx⟩:=h.xs j hj;exact(Array.getElem?_eq_some_iff.1 hx).1
 have HX:=Ld hX;clear h hX;refine(callsIn_wide (n:=3)).1 ?_;refine callsIn_of_wp_marks func52 rfl trivial ?_ rfl;refine wpIn_wide.2 ?_;simp only[ntmps52,List.size_toArray,List.length_cons,List.length_nil,Nat.reduceAdd,Nat.reduceSub,Array.replicate_succ,Array.replicate_zero,List.push_toArray,List.append_toArray,List.nil_append,List.cons_append]
 go_wp2_with fail
 obtain⟨w1,l3⟩:=nM (((w.alloc (.cells #[.slice none 0 0] 106)).alloc (.cells #[.int .i64 0] 3)):World);obtain⟨F,l9⟩:=nM (w.heap.size);obtain⟨b4,m'⟩:=nM (w.heap.size+1);have m9:Hid (aa w w1):=Ld (by rw[l3];exact aa.al (aa.al (aa.refl _) _) _);have u5:Hid (ab w1 F 106 #[.slice none 0 0]):=Ld (by rw[l3,l9];exact(ab.new _ _ _).alloc _);have o7:Hid (ab w1 b4 3 #[.int .i64 0]):=Ld (by rw[l3,m'];exact ab.new' _ _ _ (by simp));have HZ:Hid (F=w.heap.size∧b4=w.heap.size+1):=Ld ⟨l9,m'⟩;rw[←l3,←m',←l9];clear l3 l9 m';refine(qZ (some ⟨g,0,none⟩) w1).mono ?_;rintro e w2 ⟨rfl,o5⟩;have c0:Hid (aa w1 w2):=Ld (by rw[o5];exact aa.al (aa.refl _) _);have hg:=H.out.blk.lt;have hb:=H.out.blt;have v8:=o7.out.lt;have z2:=HZ.out
 have HS:=Ld (mo (H.out.new (m9.out.tr c0.out)) hm hE (fun j=>j=F∨j=b4) w1.heap.size (by rw[o5];exact ab.new w1 _ _) (fun j hj=>by
  have:=c0.out.size;rcases hj with rfl|rfl
  ·exact⟨by omega,by omega,by omega,fun hx=>by have:=HX.out _ hx;omega,by omega⟩
  ·exact⟨by omega,by omega,by omega,fun hx=>by have:=HX.out _ hx;omega,by omega⟩))
 have j5:Hid (ab w2 F 106 #[.slice none 0 0]):=Ld (c0.out.blk u5.out);have j6:Hid (ab w2 b4 3 #[.int .i64 0]):=Ld (c0.out.blk o7.out);have j4:Hid (F<w2.heap.size∧b4<w2.heap.size):=Ld ⟨j5.out.lt,j6.out.lt⟩;have z3:Hid (w2.heap.size≤w2.heap.size):=Ld (Nat.le_refl _);clear o5 hg hb v8 z2
 go_wp2_with fail
 refine kC rfl (enters_of func114 (by kernel_rfl) rfl) (fun x:List Int×Fm=> #[.string (strOfNums x.1),x.2.val]) (fun _=>rfl) HS.out (fun x W W' hg hp=>hg.puts hp) (fun h k=>h.tr k) (fun W W' hp=>Kk.puts hp)
  (CH F b4 w2) (fun s A B h hN=>h.new hN) (fun s A B h hp=>h.puts (Nat.le_of_lt j4.out.1) hp) ⟨Fr.refl _ _,_,_,j5.out,j6.out,.inl ⟨rfl,rfl,rfl⟩⟩ ?a1 ?assign ?body ?done
 case assign=>
  intro l x W K I
  gi_wp2
  exact I
 case body=>
  rintro lp pre x W z9 ⟨hF,v,r,M,U,hS⟩ hG hx;obtain⟨cc,W2,m1,p6,q',n8⟩:=uA x.1 hG.2.2.2.1 W;have c0:=Ld p6;have n1:=Ld q';have n9:W.heap.size<W2.heap.size:=n8;have m8:=Ld n9;have HG:=Ld hG;have HF:=Ld hF;have m4:=Ld M;have m5:=Ld U;have l':x.1.length≤16:=hG.2.2.2.2;have o4:x.2.n≤16384:=hG.2.2.1;have o6:x.2.xs.length=x.2.n:=by have:=hG.1.1;rw[ah]at this;omega
  obtain⟨xk,N,G,O,xs⟩:=x;simp only[Fm.val];dsimp only at m1 l' o4 o6 n1 HG;have HH:=Ld hS;generalize q7:xk.length=kl at m1 n1 l';have p':=Ld o6
  obtain⟨aV,nV,cV,q1,z8⟩:∃(a:Option Addr) (n c:Nat),v=.slice a n c∧n≤pre.length:=by
   rcases hS with⟨-,h,-⟩|⟨i,nO,cO,C,l,lo,P,h,-,-,-,-,-,-,-,hn⟩
   ·exact⟨_,_,_,h,Nat.zero_le _⟩
   ·exact⟨_,_,_,h,hn⟩
  have HH:=Ld hS;have z4:=Ld q1;have l7:Hid (xk.length=kl):=Ld q7;subst q1;have d3:∀o,(W2.alloc o).cell? ⟨F,0,none⟩=some (.slice aV nV cV):=fun o=>(aa.al (aa.refl W2) o).cell_ ((c0.out.blk M).cell 0)
  clear p6 q' hG hF M U hS o6;generalize z1:strOfNums xk=st at m1⊢;clear q7 z1;refine vI (fun cC hC=>?_)
  gi_wp2
  obtain⟨k8,n6⟩:=nM ((nV:Int)-1:Int);obtain⟨T,m0⟩:=nM (W2.heap.size);obtain⟨W3,k7⟩:=nM (W2.alloc (.cells #[.slice (some ⟨W.heap.size,0,none⟩) kl cc,.slice N G O,.bool false] 92));rw[←n6,←m0,←k7];have d':Hid (aa W W3):=Ld (c0.out.tr (by rw[k7];exact aa.al (aa.refl _) _));have g6:Hid (aa W2 W3):=Ld (by rw[k7];exact aa.al (aa.refl _) _);have i4:Hid (ab W3 T 92 #[.slice (some ⟨W.heap.size,0,none⟩) kl cc,.slice N G O,.bool false]):=Ld (by rw[k7,m0];exact ab.new _ _ _);have i5:Hid (W2.heap.size≤T):=Ld (Nat.le_of_eq m0.symm);have j8:Hid (ab W3 F 106 #[.slice aV nV cV]):=Ld (d'.out.blk m4.out);have j9:Hid (ab W3 b4 3 #[.int .i64 r]):=Ld (d'.out.blk m5.out);have m7:=Ld n6;have j2:Hid (b4≠F):=Ld (by have:=HZ.out;omega);clear k7 m0 d3 m1 n6
  refine CG (fun a W5=>∃(d:Nat) (r3 r4 r6 r7 r8 r9 s' s3 s4 s5 s6 s7 u32 s8 s9 t' u' u0 u1 u2 u3:Value) (i nO cO:Nat) (C:List Sl) (l:Sl) (lo:Nat) (r:Int),a={tmps:= #[.pointer (some ⟨g,0,none⟩),undef,.slice none 0 0,.pointer (some ⟨F,0,none⟩),.pointer (some ⟨b4,0,none⟩),.string st,.slice N G O,.pointer (some ⟨T,0,none⟩),.int .i64 (d:Nat),.pointer (some ⟨g,0,none⟩),.func (Fn.func 114) #[] #[.pointer (some ⟨w1.heap.size,0,none⟩)],.string st,.slice N G O,.string st,.slice (some ⟨W.heap.size,0,none⟩) kl cc,.slice N G O,.agg #[.slice (some ⟨W.heap.size,0,none⟩) kl cc,.slice N G O,.bool false],.slice aV nV cV,.int .i64 (nV:Nat),.int .i64 k8,r3,r4,r6,r7,r8,r9,s',s3,s4,s5,s6,s7,u32,s8,s9,t',u',u0,u1,u2,u3,undef,undef,undef,undef,undef,undef,undef,undef,undef,undef,undef,undef,undef,undef,undef],defers:= []}∧nO=d+1∧
   Hid (CZ F b4 T w2.heap.size W W2 W5 pre ⟨⟨some ⟨W.heap.size,0,none⟩,kl,cc,xk⟩,⟨N,G,O,xs⟩,false⟩ i nO cO C l lo r (.slice (some ⟨W.heap.size,0,none⟩) kl cc) (.slice N G O) (.bool false))) ?tail ?head
  case head=>
   intro K' p5;have l5:=Ld p5;clear p5;have y':=hC.out;subst y';clear hC;rcases HH.out with⟨y9,o3,z'⟩|⟨i,nO,cO,C,l,lo,P,o3,l8,hP,r1,hr,p2,j0,m2,r0⟩
   ·injection o3 with e1 e2 e3;subst e1 e2 e3 z';have j':k8= -1:=by rw [m7.out];rfl
    subst j'
    gi_wp2
    refine cE lp rfl (by kernel_rfl) (by kernel_rfl) rfl ?_
    repeat(refine wpQuietIn_step (fun _ _ _ _=>trivial) (fun K I=>?_);go_simp;first|(refine I _ ?_;clear I K)|(apply Exists.intro;refine⟨fun _=>?_,I _ ?_⟩;(first|exact cA _ _);clear I K))
    refine wpQuietIn_nil ?_;intro _ j1;obtain⟨⟨dq,c6⟩,V⟩:=j1;obtain⟨L,Z⟩:=nM (grow (redrawn W3 dq) c6);have z:Hid (aa W3 L):=Ld (by rw[Z];exact below_regrown W3 dq c6);rw[V,←Z];clear V Z;have Y:=Ld (z.out.blk j8.out);have b9:=Ld (z.out.blk j9.out);have b1:=Ld (z.out.blk i4.out);have i9:Hid (w2.heap.size≤L.heap.size):=Ld (Nat.le_trans HF.out.size (Nat.le_trans d'.out.size z.out.size));have g8:Hid (T<L.heap.size):=Ld b1.out.lt;have b0:Hid (aa W2 L):=Ld (g6.out.tr z.out);obtain⟨vN,r2⟩:∃v:Value,v=.slice none 0 0:=⟨_,rfl⟩
    have i7:=Ld r2;clear r2;have d3:L.cell? ⟨F,0,none⟩=some vN:=by rw[i7.out];exact Y.out.cell 0
    have f3:L.frozen? ⟨F,0,none⟩=false:=Y.out.frozen 0;have d4:L.cell? ⟨b4,0,none⟩=some (.int .i64 0):=b9.out.cell 0
    gi_wp2_with (gi_at_builtin;refine jp Fs _ rfl (.tmp 36) (.tmp 37) rfl w2.heap.size vN 0 [] rfl (aa.own (aa.al (aa.refl _) _) (by rw[i7.out];exact World.ownsRow_nil _ _ _ _)) (some ⟨L.heap.size,0,none⟩) 1 1 [.slice none 0 0] rfl (Rd.new (p:=fun _=>True) L #[.slice none 0 0] 22 1 1 rfl trivial) (by intro u hu;obtain rfl:=List.mem_singleton.1 hu;rfl) (by unfold maxLen;omega) (by omega) (by have:=i9.out;simp;omega) ?_;intro A5 c5 w5 i0 J g9;have J:Fr (fun k=>vN.ownBlock=some k) L w5:=((aa.al (aa.refl L) _).toFr _).trans J;have M:=(Y.out).fr J (fun e=>by rw[i7.out]at e;cases e);have U:=(b9.out).fr J (fun e=>by rw[i7.out]at e;cases e);have i':=(b1.out).fr J (fun e=>by rw[i7.out]at e;cases e);have c8:=Ld J;have g7:=Ld i0;have i2:=Ld g9;have k':=Ld M;have k0:=Ld U;have k1:=Ld i';have g3:w5.frozen? ⟨F,0,none⟩=false:=M.frozen 0;have e3:w5.cell? ⟨F,0,none⟩=some (.slice none 0 0):=M.cell 0;have g4:∀u,(w5.setCell ⟨F,0,none⟩ u).frozen? ⟨b4,0,none⟩=false:=fun u=>(ab.far U (p:=⟨F,0,none⟩) j2.out u).frozen 0;have e4:∀u,(w5.setCell ⟨F,0,none⟩ u).cell? ⟨b4,0,none⟩=some (.int .i64 0):=fun u=>(ab.far U (p:=⟨F,0,none⟩) j2.out u).cell 0;clear i0 J g9 M U i' d3 f3 d4)
    obtain⟨g5,d5,l2,-,-⟩:=dh g7.out (by omega);have k6:A5=some ⟨g5,0,none⟩:=by injection l2
    subst k6;refine l5.out _ _ ⟨0,_,_,_,_,_,_,_,_,_,_,_,_,_,_,_,_,_,_,_,_,_,g5,1,c5,[],⟨none,0,0,[]⟩,w5.heap.size,8190,rfl,rfl,Ld ?_⟩;have c1:iC 22 92 (fun j=>b4<j) w2.heap.size w5.heap.size w5 (some ⟨g5,0,none⟩) 1 c5 [] ⟨none,0,0,[]⟩:=iC.first (by decide) (fun j hj=>by have:=j4.out;omega) (by simpa[Sl.cells]using g7.out) (World.ownsRow_nil _ _ _ _) (Nat.le_trans i9.out c8.out.size) (Nat.le_refl _) (aa.refl w5) rfl (fun y hy=>by cases hy);refine⟨⟨.slice none 0 0,.slice none 0 0,pz.nil,pz.nil,re ((b0.out.toFr _).trans (c8.out.mono fun k _ e=>by rw[i7.out]at e;cases e)) c1 (fun k hk=>(i2.out k hk).elim (fun e=>by rw[i7.out]at e;cases e) (fun e=>.inr (by have:=g8.out;simp at e;omega))) k'.out k0.out k1.out (by have:=HZ.out;omega)⟩,⟨[],by rw[y9];rfl,(fun y hy=>by cases hy),by simp[lX,nD]⟩,by simp,by simp,by simp,by simp⟩
   ·injection o3 with e1 e2 e3;have r':=l8.nn;obtain ⟨d,y6⟩:∃d,nO=d+1:=⟨C.length,r'⟩
    subst e1 e2 e3 y6;have j':k8=(d:Int):=by rw[m7.out];omega
    subst j';have b7:=Ld l8;have HP:=Ld hP;have m6:=Ld p2;have n2:=Ld r1;have v5:=Ld m2;have HR:=Ld hr;have n0:Hid (d+1≤pre.length):=Ld r0;have n7:l.L.length=l.n:=l8.ll;have b':ib (⟨⟨some ⟨W.heap.size,0,none⟩,kl,cc,xk⟩,⟨N,G,O,xs⟩,false⟩:Ch)=5+kl+G:=by unfold ib;dsimp only;rw[l7.out,p'.out]
    have B0:=cell_regrown (show W3.cell? ⟨T,0,none⟩=some _ from i4.out.cell 0);have B1:=cell_regrown (show W3.cell? ⟨T,1,none⟩=some _ from i4.out.cell 1);have B2:=cell_regrown (show W3.cell? ⟨T,2,none⟩=some _ from i4.out.cell 2);have k3:=cell_regrown (show W3.cell? ⟨F,0,none⟩=some (.slice (some ⟨i,0,none⟩) (d+1) cV)from j8.out.cell 0);have k4:=cell_regrown (show W3.cell? ⟨b4,0,none⟩=some (.int .i64 r)from j9.out.cell 0);have kR:=cell_regrown (show W3.cell? ⟨i,d,none⟩=some (.slice l.A l.n l.c)from(b7.out.new d'.out).lastCell rfl);have cA:=nh (n:=2-1) (w:=W3) (v:=.int .i64 (5+kl+G:Nat)) (f:=103) (args:= #[.agg #[.slice (some ⟨W.heap.size,0,none⟩) kl cc,.slice N G O,.bool false]]) (fun W' z5=>nQ (⟨⟨some ⟨W.heap.size,0,none⟩,kl,cc,xk⟩,⟨N,G,O,xs⟩,false⟩:Ch) W' (by dsimp only;omega) (by dsimp only;omega) rfl);have y4:(0:Int)≤(d:Int):=by omega
    have y5:(d:Int)<((d:Int)+1):=by omega
    have z6:decide ((d:Int)<0)=false:=decide_eq_false (by omega);clear l8 hP r1 p2 r0 r'
    by_cases c4:r<((5+kl+G:Nat):Int)
    ·have y2:decide (r<5+(kl:Int)+(G:Int))=true:=decide_eq_true (by omega);have j3:Hid (¬(l.L.length<600∧(l.L.map ib).sum+ib (⟨⟨some ⟨W.heap.size,0,none⟩,kl,cc,xk⟩,⟨N,G,O,xs⟩,false⟩:Ch)≤8190)):=Ld (by rw[b'];omega);clear hr m2 j0 c4 n7 b'
     as_aux_lemma=>
      gi_wp2
      refine cE lp rfl (by kernel_rfl) (by kernel_rfl) rfl ?_
      repeat(refine wpQuietIn_step (fun _ _ _ _=>trivial) (fun K I=>?_);go_simp;first|(refine I _ ?_;clear I K)|(apply Exists.intro;refine⟨fun _=>?_,I _ ?_⟩;(first|exact cA _ _);clear I K))
      refine wpQuietIn_nil ?_;intro _ j1;obtain⟨⟨dq,c6⟩,V⟩:=j1;obtain⟨L,Z⟩:=nM (grow (redrawn W3 dq) c6);have z:Hid (aa W3 L):=Ld (by rw[Z];exact below_regrown W3 dq c6);rw[V,←Z];clear V Z;have Y:=Ld (z.out.blk j8.out);have b9:=Ld (z.out.blk j9.out);have b1:=Ld (z.out.blk i4.out);have i9:Hid (w2.heap.size≤L.heap.size):=Ld (Nat.le_trans HF.out.size (Nat.le_trans d'.out.size z.out.size));have g8:Hid (T<L.heap.size):=Ld b1.out.lt;have b0:Hid (aa W2 L):=Ld (g6.out.tr z.out);have b8:Hid (iC 22 92 (fun j=>b4<j) w2.heap.size lo L (some ⟨i,0,none⟩) (d+1) cV C l):=Ld (b7.out.new (d'.out.tr z.out));have d3:L.cell? ⟨F,0,none⟩=some (Value.slice (some ⟨i,0,none⟩) (d+1) cV):=Y.out.cell 0;have f3:L.frozen? ⟨F,0,none⟩=false:=Y.out.frozen 0;have d4:L.cell? ⟨b4,0,none⟩=some (.int .i64 r):=b9.out.cell 0
      gi_wp2_with (gi_at_builtin;refine jp Fs _ rfl (.tmp 36) (.tmp 37) rfl w2.heap.size (Value.slice (some ⟨i,0,none⟩) (d+1) cV) (d+1) ((C++[l]).flatMap Sl.cells) rfl (aa.own (aa.al (aa.refl _) _) b8.out.out) (some ⟨L.heap.size,0,none⟩) 1 1 [.slice none 0 0] rfl (Rd.new (p:=fun _=>True) L #[.slice none 0 0] 22 1 1 rfl trivial) (by intro u hu;obtain rfl:=List.mem_singleton.1 hu;rfl) (by unfold maxLen;omega) (by omega) (by have:=i9.out;simp;omega) ?_;intro A5 c5 w5 i0 J g9;have J:Fr (fun k=>(Value.slice (some ⟨i,0,none⟩) (d+1) cV).ownBlock=some k) L w5:=((aa.al (aa.refl L) _).toFr _).trans J;have M:=(Y.out).fr J (fun e=>bG b8.out.out Y.out (by decide) e);have U:=(b9.out).fr J (fun e=>bG b8.out.out b9.out (by decide) e);have i':=(b1.out).fr J (fun e=>bG b8.out.out b1.out (by decide) e);have c8:=Ld J;have g7:=Ld i0;have i2:=Ld g9;have k':=Ld M;have k0:=Ld U;have k1:=Ld i';have g3:w5.frozen? ⟨F,0,none⟩=false:=M.frozen 0;have e3:w5.cell? ⟨F,0,none⟩=some (Value.slice (some ⟨i,0,none⟩) (d+1) cV):=M.cell 0;have g4:∀u,(w5.setCell ⟨F,0,none⟩ u).frozen? ⟨b4,0,none⟩=false:=fun u=>(ab.far U (p:=⟨F,0,none⟩) j2.out u).frozen 0;have e4:∀u,(w5.setCell ⟨F,0,none⟩ u).cell? ⟨b4,0,none⟩=some (.int .i64 r):=fun u=>(ab.far U (p:=⟨F,0,none⟩) j2.out u).cell 0;clear i0 J g9 M U i' d3 f3 d4)
      obtain⟨g5,d5,l2,-,-⟩:=dh g7.out (by omega);have k6:A5=some ⟨g5,0,none⟩:=by injection l2
      subst k6;refine l5.out _ _ ⟨d+1,_,_,_,_,_,_,_,_,_,_,_,_,_,_,_,_,_,_,_,_,_,g5,d+1+1,c5,C++[l],⟨none,0,0,[]⟩,w5.heap.size,8190,rfl,rfl,Ld ?_⟩;have c1:iC 22 92 (fun j=>b4<j) w2.heap.size w5.heap.size w5 (some ⟨g5,0,none⟩) (d+1+1) c5 (C++[l]) ⟨none,0,0,[]⟩:=b8.out.open_ c8.out.size (Nat.le_refl _) (by simpa[Sl.cells]using g7.out) c8.out (fun k hk=>(i2.out k hk).imp id (fun h=>by simp at h;omega)) (World.ownsRow_nil _ _ _ _) rfl (fun y hy=>by cases hy);refine⟨⟨(Value.slice (some ⟨i,0,none⟩) (d+1) cV),.slice l.A l.n l.c,pz.own b7.out.out (Nat.le_refl _) (by decide),pz.own b7.out.last b7.out.blo (by decide),re ((b0.out.toFr _).trans (c8.out.mono fun k _ e=>.inr (.inl e))) c1 (fun k hk=>(i2.out k hk).imp id (fun e=>by have:=g8.out;simp at e;omega)) k'.out k0.out k1.out (by have:=HZ.out;omega)⟩,⟨P,HP.out,m6.out,?_⟩,by simp,by simp,by simp,by have:=n0.out;omega⟩;rw[jT,n2.out];unfold nD;dsimp only;rw[if_neg (fun h=>by have:=j3.out;omega)];simp
    ·have y2:decide (r<5+(kl:Int)+(G:Int))=false:=decide_eq_false (by omega)
     by_cases l1:600≤l.n
     ·have y3:decide ((600:Int)≤(l.n:Int))=true:=decide_eq_true (by omega);have j3:Hid (¬(l.L.length<600∧(l.L.map ib).sum+ib (⟨⟨some ⟨W.heap.size,0,none⟩,kl,cc,xk⟩,⟨N,G,O,xs⟩,false⟩:Ch)≤8190)):=Ld (by omega);clear hr m2 j0 c4 n7 b' l1
      as_aux_lemma=>
       gi_wp2
       refine cE lp rfl (by kernel_rfl) (by kernel_rfl) rfl ?_
       repeat(refine wpQuietIn_step (fun _ _ _ _=>trivial) (fun K I=>?_);go_simp;first|(refine I _ ?_;clear I K)|(apply Exists.intro;refine⟨fun _=>?_,I _ ?_⟩;(first|exact cA _ _);clear I K))
       refine wpQuietIn_nil ?_;intro _ j1;obtain⟨⟨dq,c6⟩,V⟩:=j1;obtain⟨L,Z⟩:=nM (grow (redrawn W3 dq) c6);have z:Hid (aa W3 L):=Ld (by rw[Z];exact below_regrown W3 dq c6);rw[V,←Z];clear V Z;have Y:=Ld (z.out.blk j8.out);have b9:=Ld (z.out.blk j9.out);have b1:=Ld (z.out.blk i4.out);have i9:Hid (w2.heap.size≤L.heap.size):=Ld (Nat.le_trans HF.out.size (Nat.le_trans d'.out.size z.out.size));have g8:Hid (T<L.heap.size):=Ld b1.out.lt;have b0:Hid (aa W2 L):=Ld (g6.out.tr z.out);have b8:Hid (iC 22 92 (fun j=>b4<j) w2.heap.size lo L (some ⟨i,0,none⟩) (d+1) cV C l):=Ld (b7.out.new (d'.out.tr z.out));have d3:L.cell? ⟨F,0,none⟩=some (Value.slice (some ⟨i,0,none⟩) (d+1) cV):=Y.out.cell 0;have f3:L.frozen? ⟨F,0,none⟩=false:=Y.out.frozen 0;have d4:L.cell? ⟨b4,0,none⟩=some (.int .i64 r):=b9.out.cell 0
       gi_wp2_with (gi_at_builtin;refine jp Fs _ rfl (.tmp 36) (.tmp 37) rfl w2.heap.size (Value.slice (some ⟨i,0,none⟩) (d+1) cV) (d+1) ((C++[l]).flatMap Sl.cells) rfl (aa.own (aa.al (aa.refl _) _) b8.out.out) (some ⟨L.heap.size,0,none⟩) 1 1 [.slice none 0 0] rfl (Rd.new (p:=fun _=>True) L #[.slice none 0 0] 22 1 1 rfl trivial) (by intro u hu;obtain rfl:=List.mem_singleton.1 hu;rfl) (by unfold maxLen;omega) (by omega) (by have:=i9.out;simp;omega) ?_;intro A5 c5 w5 i0 J g9;have J:Fr (fun k=>(Value.slice (some ⟨i,0,none⟩) (d+1) cV).ownBlock=some k) L w5:=((aa.al (aa.refl L) _).toFr _).trans J;have M:=(Y.out).fr J (fun e=>bG b8.out.out Y.out (by decide) e);have U:=(b9.out).fr J (fun e=>bG b8.out.out b9.out (by decide) e);have i':=(b1.out).fr J (fun e=>bG b8.out.out b1.out (by decide) e);have c8:=Ld J;have g7:=Ld i0;have i2:=Ld g9;have k':=Ld M;have k0:=Ld U;have k1:=Ld i';have g3:w5.frozen? ⟨F,0,none⟩=false:=M.frozen 0;have e3:w5.cell? ⟨F,0,none⟩=some (Value.slice (some ⟨i,0,none⟩) (d+1) cV):=M.cell 0;have g4:∀u,(w5.setCell ⟨F,0,none⟩ u).frozen? ⟨b4,0,none⟩=false:=fun u=>(ab.far U (p:=⟨F,0,none⟩) j2.out u).frozen 0;have e4:∀u,(w5.setCell ⟨F,0,none⟩ u).cell? ⟨b4,0,none⟩=some (.int .i64 r):=fun u=>(ab.far U (p:=⟨F,0,none⟩) j2.out u).cell 0;clear i0 J g9 M U i' d3 f3 d4)
       obtain⟨g5,d5,l2,-,-⟩:=dh g7.out (by omega);have k6:A5=some ⟨g5,0,none⟩:=by injection l2
       subst k6;refine l5.out _ _ ⟨d+1,_,_,_,_,_,_,_,_,_,_,_,_,_,_,_,_,_,_,_,_,_,g5,d+1+1,c5,C++[l],⟨none,0,0,[]⟩,w5.heap.size,8190,rfl,rfl,Ld ?_⟩;have c1:iC 22 92 (fun j=>b4<j) w2.heap.size w5.heap.size w5 (some ⟨g5,0,none⟩) (d+1+1) c5 (C++[l]) ⟨none,0,0,[]⟩:=b8.out.open_ c8.out.size (Nat.le_refl _) (by simpa[Sl.cells]using g7.out) c8.out (fun k hk=>(i2.out k hk).imp id (fun h=>by simp at h;omega)) (World.ownsRow_nil _ _ _ _) rfl (fun y hy=>by cases hy);refine⟨⟨(Value.slice (some ⟨i,0,none⟩) (d+1) cV),.slice l.A l.n l.c,pz.own b7.out.out (Nat.le_refl _) (by decide),pz.own b7.out.last b7.out.blo (by decide),re ((b0.out.toFr _).trans (c8.out.mono fun k _ e=>.inr (.inl e))) c1 (fun k hk=>(i2.out k hk).imp id (fun e=>by have:=g8.out;simp at e;omega)) k'.out k0.out k1.out (by have:=HZ.out;omega)⟩,⟨P,HP.out,m6.out,?_⟩,by simp,by simp,by simp,by have:=n0.out;omega⟩;rw[jT,n2.out];unfold nD;dsimp only;rw[if_neg (fun h=>by have:=j3.out;omega)];simp
     ·have y3:decide ((600:Int)≤(l.n:Int))=false:=decide_eq_false (by omega);have j3:Hid (l.L.length<600∧(l.L.map ib).sum+ib (⟨⟨some ⟨W.heap.size,0,none⟩,kl,cc,xk⟩,⟨N,G,O,xs⟩,false⟩:Ch)≤8190):=Ld (by rw[b'];omega);clear hr m2 j0 c4 n7 b' l1
      as_aux_lemma=>
       gi_wp2
       refine cE lp rfl (by kernel_rfl) (by kernel_rfl) rfl ?_
       repeat(refine wpQuietIn_step (fun _ _ _ _=>trivial) (fun K I=>?_);go_simp;first|(refine I _ ?_;clear I K)|(apply Exists.intro;refine⟨fun _=>?_,I _ ?_⟩;(first|exact cA _ _);clear I K))
       refine wpQuietIn_nil ?_;intro _ j1;obtain⟨⟨dq,c6⟩,V⟩:=j1;obtain⟨L,Z⟩:=nM (grow (redrawn W3 dq) c6);have z:Hid (aa W3 L):=Ld (by rw[Z];exact below_regrown W3 dq c6);rw[V,←Z];clear V Z;have Y:=Ld (z.out.blk j8.out);have b9:=Ld (z.out.blk j9.out);have b1:=Ld (z.out.blk i4.out);have i9:Hid (w2.heap.size≤L.heap.size):=Ld (Nat.le_trans HF.out.size (Nat.le_trans d'.out.size z.out.size));have g8:Hid (T<L.heap.size):=Ld b1.out.lt;have b0:Hid (aa W2 L):=Ld (g6.out.tr z.out);have b8:Hid (iC 22 92 (fun j=>b4<j) w2.heap.size lo L (some ⟨i,0,none⟩) (d+1) cV C l):=Ld (b7.out.new (d'.out.tr z.out))
       gi_wp2
       refine l5.out _ _ ⟨d,_,_,_,_,_,_,_,_,_,_,_,_,_,_,_,_,_,_,_,_,_,i,d+1,cV,C,l,lo,r,rfl,rfl,Ld ?_⟩;refine⟨⟨(Value.slice (some ⟨i,0,none⟩) (d+1) cV),.slice l.A l.n l.c,pz.own b7.out.out (Nat.le_refl _) (by decide),pz.own b7.out.last b7.out.blo (by decide),⟨b0.out.toFr _,b8.out,fun k h=>.inl h,fun k h=>.inl h,Y.out,b9.out,b1.out⟩⟩,⟨P,HP.out,m6.out,?_⟩,HR.out,j3.out.1,v5.out,by have:=n0.out;omega⟩;rw[jT,n2.out];unfold nD;dsimp only;rw[if_pos j3.out]
  case tail=>
   rintro a W5 ⟨d,r3,r4,r6,r7,r8,r9,s',s3,s4,s5,s6,s7,u32,s8,s9,t',u',u0,u1,u2,u3,i,nO,cO,C,l,lo,r5,rfl,rfl,HR⟩;clear m7 HH hC;have i1:=Ew (cc:=cc) (x:=(xk,⟨N,G,O,xs⟩)) j4.out.1 j4.out.2 HF.out.size c0.out i5.out m8.out HR.out HG.out (by rw[l7.out];exact n1.out);unfold FC at i1;dsimp only at i1;rw[l7.out]at i1;have l4:=Ld i1;have y8:=HR.out.ls;have j0:=HR.out.l6;have z0:=HR.out.rr
   have v9:∃v0 l0,Fd F b4 T w2.heap.size v0 l0 W2 W5 i (d+1) cO C l lo r5 (.slice (some ⟨W.heap.size,0,none⟩) kl cc) (.slice N G O) (.bool false):=by
    obtain⟨v0,l0,-,-,hb⟩:=HR.out.bef;exact⟨v0,l0,hb⟩
   obtain⟨v0,l0,hb⟩:=v9;have HB:=Ld hb;have z7:l.L.length=l.n:=hb.nst.ll;have q0:(ng F T i d (.slice (some ⟨i,0,none⟩) (d+1) cO) (.slice l.A l.n l.c) (.slice (some ⟨W.heap.size,0,none⟩) kl cc) (.slice N G O) (.bool false)) W5.drew:=⟨hb.B3.cell 0,hb.nst.lastCell rfl,hb.Bc.cell 0,hb.Bc.cell 1,hb.Bc.cell 2⟩
   have o8:Hid ((ng F T i d (.slice (some ⟨i,0,none⟩) (d+1) cO) (.slice l.A l.n l.c) (.slice (some ⟨W.heap.size,0,none⟩) kl cc) (.slice N G O) (.bool false)) W5):=Ld q0;have g8:Hid (lo≤W5.heap.size):=Ld hb.nst.los;have y4:(0:Int)≤(d:Int):=by omega
   have y5:(d:Int)<((d:Int)+1):=by omega
   have y7:l.n<600:=by omega
   clear i1 hb y8 z0 j0
   gi_wp2
   refine gc lp (ng F T i d (.slice (some ⟨i,0,none⟩) (d+1) cO) (.slice l.A l.n l.c) (.slice (some ⟨W.heap.size,0,none⟩) kl cc) (.slice N G O) (.bool false)) 10 [(true,0),(true,1),(true,2),(true,3),(true,4),(true,5),(true,6),(false,7),(false,8),(true,9),(false,10)] (by kernel_rfl) (by kernel_rfl) q0 (fun o1=>?_);have q3:∀p:HW (ng F T i d (.slice (some ⟨i,0,none⟩) (d+1) cO) (.slice l.A l.n l.c) (.slice (some ⟨W.heap.size,0,none⟩) kl cc) (.slice N G O) (.bool false)),p.w.cell? ⟨F,0,none⟩=some (.slice (some ⟨i,0,none⟩) (d+1) cO):=fun p=>p.h.1
   have qr:∀p:HW (ng F T i d (.slice (some ⟨i,0,none⟩) (d+1) cO) (.slice l.A l.n l.c) (.slice (some ⟨W.heap.size,0,none⟩) kl cc) (.slice N G O) (.bool false)),p.w.cell? ⟨i,d,none⟩=some (.slice l.A l.n l.c):=fun p=>p.h.2.1
   have qa:∀p:HW (ng F T i d (.slice (some ⟨i,0,none⟩) (d+1) cO) (.slice l.A l.n l.c) (.slice (some ⟨W.heap.size,0,none⟩) kl cc) (.slice N G O) (.bool false)),p.w.cell? ⟨T,0,none⟩=some _:=fun p=>p.h.2.2.1
   have qb:∀p:HW (ng F T i d (.slice (some ⟨i,0,none⟩) (d+1) cO) (.slice l.A l.n l.c) (.slice (some ⟨W.heap.size,0,none⟩) kl cc) (.slice N G O) (.bool false)),p.w.cell? ⟨T,1,none⟩=some _:=fun p=>p.h.2.2.2.1
   have qc:∀p:HW (ng F T i d (.slice (some ⟨i,0,none⟩) (d+1) cO) (.slice l.A l.n l.c) (.slice (some ⟨W.heap.size,0,none⟩) kl cc) (.slice N G O) (.bool false)),p.w.cell? ⟨T,2,none⟩=some _:=fun p=>p.h.2.2.2.2
   iterate 7 (refine ae (o:=.mk ..) rfl (fun K I=>?_);go_simp;refine I _ ?_;clear I K)
   refine aj (o:=.mk ..) rfl (fun K I=>?_) (.inl rfl);refine jU El (by decide) (by rfl) (.tmp 47) rfl #[.slice (some ⟨W.heap.size,0,none⟩) kl cc,.slice N G O,.bool false] (by rfl) rfl ?_;intro gb w6 p1 p7 j0;simp only[Act.put,bK,bM,bO];have k5:Hid (aa W5 w6):=Ld (aa.tr (aa.dr (aa.refl _)) p7);have u6:=Ld p1;have k9:∀{S:Nat→Prop} {wa wb:World},(ng F T i d (.slice (some ⟨i,0,none⟩) (d+1) cO) (.slice l.A l.n l.c) (.slice (some ⟨W.heap.size,0,none⟩) kl cc) (.slice N G O) (.bool false)) wa→Fr S wa wb→¬S F→¬S i→¬S T→(ng F T i d (.slice (some ⟨i,0,none⟩) (d+1) cO) (.slice l.A l.n l.c) (.slice (some ⟨W.heap.size,0,none⟩) kl cc) (.slice N G O) (.bool false)) wb:=fun h hF h1 h2 h3=>⟨hF.cell_some h.1 h1,hF.cell_some h.2.1 h2,hF.cell_some h.2.2.1 h3,hF.cell_some h.2.2.2.1 h3,hF.cell_some h.2.2.2.2 h3⟩
   have v2:Hid ((ng F T i d (.slice (some ⟨i,0,none⟩) (d+1) cO) (.slice l.A l.n l.c) (.slice (some ⟨W.heap.size,0,none⟩) kl cc) (.slice N G O) (.bool false)) w6):=Ld (k9 o8.out (k5.out.toFr ia) (fun x=>x) (fun x=>x) (fun x=>x));refine I.out _ _ (fun _=>v2.out) ?_;clear I K p1 p7 j0;refine aj (o:=.mk ..) rfl (fun K I=>?_) (.inl rfl);refine cq El _ (by rfl) (.tmp 46) (.tmp 48) (by rfl) lo (.slice l.A l.n l.c) l.n (l.L.flatMap Ch.cells) (by rfl) (k5.out.own HB.out.nst.last) (some ⟨gb,0,none⟩) 1 1 (⟨⟨some ⟨W.heap.size,0,none⟩,kl,cc,xk⟩,⟨N,G,O,xs⟩,false⟩:Ch).cells (by rfl) (Rd.ofBlk (p:=fun _=>True) (t:=92) (cs:= #[.slice (some ⟨W.heap.size,0,none⟩) kl cc,.slice N G O,.bool false]) u6.out 3 1 rfl trivial) (ch (⟨⟨some ⟨W.heap.size,0,none⟩,kl,cc,xk⟩,⟨N,G,O,xs⟩,false⟩:Ch)) (by unfold maxLen;omega) (by omega) (Nat.le_trans g8.out k5.out.size) ?_;intro A' c' w7 p9 p4 p0;simp only[Act.put,bK,bM,bO];have v':=Ld p9;have k2:Hid (Fr (fun k=>(Value.slice l.A l.n l.c).ownBlock=some k) W5 w7):=Ld ((k5.out.toFr _).trans p4);have u4:Hid (∀k,(Value.slice A' (l.n+1) c').ownBlock=some k→(Value.slice l.A l.n l.c).ownBlock=some k∨W5.heap.size≤k):=Ld (fun k hk=>(p0 k hk).imp id (fun h=>Nat.le_trans k5.out.size h));have q8:¬(Value.slice l.A l.n l.c).ownBlock=some F:=bG HB.out.nst.last HB.out.B3 (by decide);have q9:¬(Value.slice l.A l.n l.c).ownBlock=some b4:=bG HB.out.nst.last HB.out.B4 (by decide);have o2:¬(Value.slice l.A l.n l.c).ownBlock=some i:=gQ HB.out.nst.out HB.out.nst.last HB.out.nst.ne rfl
   have o0:¬(Value.slice l.A l.n l.c).ownBlock=some T:=fun e=>by
    obtain⟨B6,B5,hv,hl,y1⟩:=HR.out.bef;rcases y1.hl T e with h'|h'
    ·have:=hl.lt h';have:=i5.out;have:=c0.out.size;omega
    ·omega
   have o9:Hid ((ng F T i d (.slice (some ⟨i,0,none⟩) (d+1) cO) (.slice l.A l.n l.c) (.slice (some ⟨W.heap.size,0,none⟩) kl cc) (.slice N G O) (.bool false)) w7):=Ld (k9 o8.out k2.out q8 o2 o0);refine I.out _ _ (fun _=>o9.out) ?_;clear I K p9 p4 p0;refine ae (o:=.mk ..) rfl (fun K I=>?_);go_simp;refine I _ ?_;clear I K;refine aj (o:=.mk ..) rfl (fun K I=>?_) (.inl rfl);have c7:w7.cell? ⟨i,d,none⟩=some (.slice l.A l.n l.c):=o9.out.2.1
   have f7:w7.frozen? ⟨i,d,none⟩=false:=by
    rw[k2.out.frozen (p:=⟨i,d,none⟩) ((ak HB.out.nst.out i rfl).2) o2];exact HB.out.nst.lastFrozen d
   clear q3 qr qa qb qc;go_simp;refine I.out _ _ (fun h=>absurd rfl h) ?_;clear I K o1;refine je ?_;obtain⟨w8,m3⟩:=nM (w7.setCell ⟨i,d,none⟩ (.slice A' (l.n+1) c'));rw[←m3];have v7:=Ld m3;have n3:Fr (fun k=>k=i) w7 w8:=by rw[m3];exact(Fr.refl (fun k=>k=i) w7).setCell (p:=⟨i,d,none⟩) (fun _=>rfl) _
   have q5:b4≠i:=fun e=>bG HB.out.nst.out HB.out.B4 (by decide) (by rw[e];rfl)
   have q6:T≠i:=fun e=>bG HB.out.nst.out HB.out.Bc (by decide) (by rw[e];rfl)
   have j7:Hid (ab w8 b4 3 #[.int .i64 r5]):=Ld ((HB.out.B4.fr k2.out q9).fr n3 q5);have f':Hid (ab w8 T 92 #[.slice (some ⟨W.heap.size,0,none⟩) kl cc,.slice N G O,.bool false]):=Ld ((HB.out.Bc.fr k2.out o0).fr n3 q6);have y0:(xj b4 T (.int .i64 r5) (.slice (some ⟨W.heap.size,0,none⟩) kl cc) (.slice N G O) (.bool false)) w8.drew:=⟨j7.out.cell 0,f'.out.cell 0,f'.out.cell 1,f'.out.cell 2⟩
   clear m3 n3 c7 f7 q8 q9 o2 o0 q5 q6
   gi_wp2
   refine gc lp (xj b4 T (.int .i64 r5) (.slice (some ⟨W.heap.size,0,none⟩) kl cc) (.slice N G O) (.bool false)) 4 [(true,0),(true,1),(false,2),(true,3),(false,4)] (by kernel_rfl) (by kernel_rfl) y0 (fun o1=>?_);have q4:∀p:HW (xj b4 T (.int .i64 r5) (.slice (some ⟨W.heap.size,0,none⟩) kl cc) (.slice N G O) (.bool false)),p.w.cell? ⟨b4,0,none⟩=some (.int .i64 r5):=fun p=>p.h.1
   have qa:∀p:HW (xj b4 T (.int .i64 r5) (.slice (some ⟨W.heap.size,0,none⟩) kl cc) (.slice N G O) (.bool false)),p.w.cell? ⟨T,0,none⟩=some _:=fun p=>p.h.2.1
   have qb:∀p:HW (xj b4 T (.int .i64 r5) (.slice (some ⟨W.heap.size,0,none⟩) kl cc) (.slice N G O) (.bool false)),p.w.cell? ⟨T,1,none⟩=some _:=fun p=>p.h.2.2.1
   have qc:∀p:HW (xj b4 T (.int .i64 r5) (.slice (some ⟨W.heap.size,0,none⟩) kl cc) (.slice N G O) (.bool false)),p.w.cell? ⟨T,2,none⟩=some _:=fun p=>p.h.2.2.2
   iterate 2 (refine ae (o:=.mk ..) rfl (fun K I=>?_);go_simp;refine I _ ?_;clear I K)
   refine aj (o:=.mk ..) rfl (fun K I=>?_) (.inl rfl);go_simp;refine(nQ (⟨⟨some ⟨W.heap.size,0,none⟩,kl,cc,xk⟩,⟨N,G,O,xs⟩,false⟩:Ch) _ (by dsimp only;omega) (by dsimp only;omega) rfl).mono ?_;rintro e w9 ⟨rfl,p8⟩;dsimp only;have n':Hid (aa w8 w9):=Ld (aa.tr (aa.dr (aa.refl _)) p8);have i3:=Ld (n'.out.blk j7.out);have i6:=Ld (n'.out.blk f'.out);refine I.out _ _ (fun _=>⟨i3.out.cell 0,i6.out.cell 0,i6.out.cell 1,i6.out.cell 2⟩) ?_;clear I K p8;have B':IntKind.i64.wrap (r5-(5+(kl:Int)+(G:Int)))=r5-(5+(kl:Int)+(G:Int)):=IntWalk.i64_in _ (by have:=HR.out.rr;have:=HR.out.ls;have:=HR.out.l6;omega);refine ae (o:=.mk ..) rfl (fun K I=>?_);go_simp;refine I _ ?_;clear I K;refine aj (o:=.mk ..) rfl (fun K I=>?_) (.inl rfl);have c9:w9.cell? ⟨b4,0,none⟩=some (.int .i64 r5):=i3.out.cell 0;have f9:w9.frozen? ⟨b4,0,none⟩=false:=i3.out.frozen 0;clear q4 qa qb qc;go_simp;refine I.out _ _ (fun h=>absurd rfl h) ?_;clear I K o1;refine je ?_;have b':ib (⟨⟨some ⟨W.heap.size,0,none⟩,kl,cc,xk⟩,⟨N,G,O,xs⟩,false⟩:Ch)=5+kl+G:=by unfold ib;dsimp only;rw[l7.out,p'.out]
   refine⟨rfl,Dj (x:=(xk,⟨N,G,O,xs⟩)) HF.out (by have:=HZ.out;omega) j4.out.1 j4.out.2 c0.out i5.out HR.out rfl v'.out k2.out u4.out l4.out rfl rfl ⟨rfl,by dsimp only;omega,by dsimp only;omega⟩ (by rw[b'];omega) (by rw[←v7.out];exact n'.out) (by rw[b'];omega)⟩
 case done=>
  rintro D fs W hD q2 ⟨hF,v,r,M,U,hS⟩ p3;have u9:Hid (aa w W):=Ld ((m9.out.tr c0.out).fr hF (fun k hk=>by have:=HZ.out;omega));have u7:=Ld p3
  have n5:∃(A:Option Addr) (n c:Nat) (R:List Sl) (P:List Ch),v=.slice A n c∧(yK W A n R∧iI w.heap.size W.heap.size W A n R)∧cl P=aZ (cY E)∧R.map Sl.L=iV (lX ib P)∧(∀y∈P,vO y):=by
   have he:Em fs=aZ (cY E):=q2.trans (vX E);rcases hS with⟨h1,h2,-⟩|⟨i,nO,cO,C,l,lo,P,h1,h2,h3,h4,-,h6,-⟩
   ·refine⟨none,0,0,[],[],h2,⟨yK.nil W,iI.nil _ _ W⟩,?_,rfl,fun y hy=>by cases hy⟩;rw[←he,h1];rfl
   ·refine⟨_,_,_,_,P,h1,⟨h2.bts,h2.btsN (fun j hj=>by have:=HZ.out;omega)⟩,h3.trans he,?_,h6⟩;rw[h4];simp[iV]
  obtain⟨A,n,c,R,P,hv,i1,hP,hR,hY⟩:=n5;subst hv;have c3:W.cell? ⟨F,0,none⟩=some (.slice A n c):=M.cell 0;have l4:=Ld i1;have HP:=Ld hP;have HR:=Ld hR;have HY:=Ld hY;clear hF M U hS q2 p3 i1 hP hR hY;dsimp only
  go_wp2_with fail
  refine ez [D] W (dc.cons (dc.nil w2.heap.size W) (fun _ h=>by cases h) hD u7.out) (fun W' hS=>⟨.slice A n c,by simp[results,results52,go_sem],⟨A,n,c,R,P,rfl,⟨l4.out.1.shut hS,_,l4.out.2.shut hS,hS.below.size⟩,HP.out,HR.out,HY.out⟩,?_⟩);exact u9.out.trans (hS.below.mono (m9.out.tr c0.out).size)
end Go.Proofs.YtfchcdbfalgdlaaGreatDoor
namespace Go.Proofs.YtfchcdbfalgdlaaGreatDoor
open _root_.Go.Proofs.Tryz
open Go.RowKit Go.Maps
structure ml(p:Nat→Prop)(w:World)(A:Option Addr)(n c:Nat)(s:Rs):Prop where
 rd:Rd p w 1 A n (am s.xs)
 byt:aU s.xs
 nc:n≤c
 cm:c≤9223372036854775807
def rV(A:Option Addr)(n c:Nat)(e:Nat):Value:=.agg #[.slice A n c,.int .i64 e]
section
variable {p:Nat→Prop}{w w':World}{A:Option Addr}{n c:Nat}{s:Rs}
theorem ml.new(h:ml p w A n c s)(b:aa w w'):ml p w' A n c s:=⟨b.rd h.rd,h.byt,h.nc,h.cm⟩
theorem ml.len(h:ml p w A n c s):s.xs.length=n:=by have:=h.rd.1;rw[ah]at this;omega
end
def aT(b:Nat)(x y:Value)(w:World):Prop:=w.cell? ⟨b,0,none⟩=some x∧w.cell? ⟨b,1,none⟩=some y
theorem aT.of{W:World}{b T:Nat}{x y:Value}(h:ab W b T #[x,y]):aT b x y W:=⟨h.cell 0,h.cell 1⟩
def sL(p:Nat→Prop)(r:List Int×Rs)(e:Ending)(w':World):Prop:=
 ∃(b:Option Addr) (d:Nat) (A2:Option Addr) (f c2:Nat),e=.returned (.tuple #[.slice b r.1.length d,rV A2 f c2 r.2.e])∧Rd p w' 1 b r.1.length (am r.1)∧r.1.length≤d∧ml p w' A2 f c2 r.2
theorem Fc{s:Rs}(h:s.e≠0)(k:Nat):s.raw k=([],s)∨(s.raw k).1=[]∧(s.raw k).2=⟨s.xs.drop k,s.e⟩:=by
 have hl:s.left=0:=by unfold Rs.left;rw[if_neg h]
 unfold Rs.raw;rw[hl]
 by_cases b:0<k
 ·rw[if_pos b]
  left
  unfold Rs.bad;rw[if_neg h]
 ·rw[if_neg b]
  left
  have:k=0:=by omega
  subst this;simp
theorem tI{s:Rs}(h:s.e≠0)(k:Nat):s.raw k=([],s):=by
 have hl:s.left=0:=by unfold Rs.left;rw[if_neg h]
 unfold Rs.raw;rw[hl]
 by_cases b:0<k
 ·rw[if_pos b];unfold Rs.bad;rw[if_neg h]
 ·rw [if_neg b];have:k=0:=by omega
  subst this;simp
theorem ji{p:Nat→Prop}(w:World):Rd p w 1 none 0 (am []):=Rd.nil
theorem lN{p:Nat→Prop}{w:World}{A:Option Addr}{n c:Nat}{s:Rs}(h:ml p w A n c s){k:Nat}(d:k≤n)(e:Nat):ml p w (if c=k then A else A.map (·.add k)) (n-k) (c-k) ⟨s.xs.drop k,e⟩:=by
 have hd:=Rd.drop (cap:=c) h.rd d h.nc;rw[Nat.mul_one]at hd;have b:(am s.xs).drop k=am (s.xs.drop k):=by simp[am]
 rw[b]at hd;refine⟨hd,fun x f=>h.byt x (List.mem_of_mem_drop f),?_,?_⟩
 ·have:=h.nc;omega
 ·have:=h.cm;omega
theorem AL{p:Nat→Prop}{w:World}{A:Option Addr}{n c:Nat}{s:Rs}(h:ml p w A n c s)(k:Nat)(hk:k≤1000000):
    Calls prog 156 #[rV A n c s.e,.int .i64 k] w fun e w'=>sL p (s.raw k) e w'∧aa w w':=by
 have H:=Ld h;have hn:=h.len;have U:=Ld hn;have c1:=h.cm;have c4:=h.nc;unfold rV;obtain⟨r,hr⟩:=nM (s.raw k);rw[←hr];have HR:=Ld hr;obtain⟨B,b'⟩:=nM (s.e);rw[←b'];have HE:=Ld b';clear h hr b' hn
 go_enter func156,ntmps156
 go_upto_region 1 with fail
 obtain⟨t,O⟩:=nM ((w.alloc (.cells #[.slice A n c,.int .i64 B] 194)).alloc (.cells #[.slice none 0 0,.int .i64 0] 194):World);obtain⟨b2,Y⟩:=nM (w.heap.size);obtain⟨b5,Z⟩:=nM (w.heap.size+1);have V:Hid (aa w t):=Ld (by rw[O];exact aa.al (aa.al (aa.refl _) _) _);have G:Hid (ab t b2 194 #[.slice A n c,.int .i64 B]):=Ld (by rw[O,Y];exact(ab.new _ _ _).alloc _);have I:Hid (ab t b5 194 #[.slice none 0 0,.int .i64 0]):=Ld (by rw[O,Z];exact ab.new' _ _ _ (by simp));have HZ:Hid (w.heap.size≤b2∧w.heap.size≤b5):=Ld ⟨by omega,by omega⟩;have y:b2≠b5:=by omega
 rw[←O,←Z,←Y];clear O Y Z;have b3:t.cell? ⟨b2,0,none⟩=some (.slice A n c):=G.out.cell 0;have b7:t.cell? ⟨b2,1,none⟩=some (.int .i64 B):=G.out.cell 1;have P:t.cell? ⟨b5,0,none⟩=some (.slice none 0 0):=I.out.cell 0;have R:t.cell? ⟨b5,1,none⟩=some (.int .i64 0):=I.out.cell 1;have f50:t.frozen? ⟨b5,0,none⟩=false:=I.out.frozen 0;have f51:t.frozen? ⟨b5,1,none⟩=false:=I.out.frozen 1;have f20:t.frozen? ⟨b2,0,none⟩=false:=G.out.frozen 0;have f21:t.frozen? ⟨b2,1,none⟩=false:=G.out.frozen 1;have N:¬b5=b2:=fun e=>y e.symm
 by_cases h0:B=0
 ·subst h0
  by_cases S:n<k
  ·have c':decide (n<k)=true:=decide_eq_true S
   have M:Hid (r=([],⟨s.xs,2⟩)):=Ld (by
    rw[HR.out];unfold Rs.raw Rs.left Rs.bad
    rw[if_pos HE.out.symm,if_pos HE.out.symm,U.out,if_pos S])
   go_upto_region 5 with fail
   obtain⟨m,z⟩:=nM (t.setCell ⟨b2,1,none⟩ (.int .i64 2):World);have J:Fr (fun k=>k=b2) t m:=by rw[z];exact(Fr.refl (fun k=>k=b2) t).setCell (p:=⟨b2,1,none⟩) (fun _=>rfl) _
   have f:Hid (ab m b2 194 #[.slice A n c,.int .i64 2]):=Ld (by
    have:=G.out.set 1 (.int .i64 2);rw[z]
    simpa using this)
   have b:Hid (ab m b5 194 #[.slice none 0 0,.int .i64 0]):=Ld (I.out.fr J N);have T:=Ld J;rw[←z];clear z J b3 b7 P R f50 f51 f20 f21;have P:m.cell? ⟨b5,0,none⟩=some (.slice none 0 0):=b.out.cell 0;have R:m.cell? ⟨b5,1,none⟩=some (.int .i64 0):=b.out.cell 1;have f50:m.frozen? ⟨b5,0,none⟩=false:=b.out.frozen 0;have f51:m.frozen? ⟨b5,1,none⟩=false:=b.out.frozen 1;have E:aT b2 (.slice A n c) (.int .i64 2) m.drew:=aT.of f.out;refine ag (aT b2 (.slice A n c) (.int .i64 2)) [(true,0),(true,1),(false,2)] (by kernel_rfl) (by kernel_rfl) E (fun b8=>?_);have q0:∀p:HW (aT b2 (.slice A n c) (.int .i64 2)),p.w.cell? ⟨b2,0,none⟩=some (.slice A n c):=fun p=>p.h.1
   have q1:∀p:HW (aT b2 (.slice A n c) (.int .i64 2)),p.w.cell? ⟨b2,1,none⟩=some (.int .i64 2):=fun p=>p.h.2
   iterate 2 (refine ae (o:=.mk ..) rfl (fun K D=>?_);go_simp;refine D _ ?_;clear D K)
   refine aj (o:=.mk ..) rfl (fun K D=>?_) (.inl rfl);go_simp;obtain⟨F,d⟩:=nM (((m.setCell ⟨b5,0,none⟩ (.slice A n c)).setCell ⟨b5,1,none⟩ (.int .i64 2)).drew:World);have j:Fr (fun k=>k=b5) m F:=by rw[d];exact(((Fr.refl (fun k=>k=b5) m).setCell (p:=⟨b5,0,none⟩) (fun _=>rfl) _).setCell (p:=⟨b5,1,none⟩) (fun _=>rfl) _).drew
   have i:ab F b5 194 #[(.slice A n c),(.int .i64 2)]:=by rw[d];exact bF b.out (.slice A n c) (.int .i64 2)
   rw[←d];refine D.out _ _ (fun _=>aT.of (f.out.fr j y)) ?_;clear D K q0 q1;refine ao ?_;have r0:F.cell? ⟨b5,0,none⟩=some (.slice A n c):=i.cell 0;have r1:F.cell? ⟨b5,1,none⟩=some (.int .i64 2):=i.cell 1;have L:=Ld j;clear d j i E
   go_wp2_with fail
   have u:Hid (aa w F):=Ld ((V.out.fr T.out (fun k hk=>by have:=HZ.out;omega)).fr L.out (fun k hk=>by have:=HZ.out;omega));refine bodyPost_ret (v:=.tuple #[.slice none 0 0,.agg #[.slice A n c,.int .i64 2]]) (by simp[results,results156,go_sem,r0,r1]) rfl ⟨?_,u.out⟩;rw[M.out];exact⟨none,0,A,n,c,rfl,ji _,Nat.le_refl _,⟨u.out.rd H.out.rd,H.out.byt,H.out.nc,H.out.cm⟩⟩
  ·have c':decide (n<k)=false:=decide_eq_false S;have b1:Hid (k≤n):=Ld (by omega);have c0:k≤c:=by omega
   go_upto_region 8 with fail
   have b0:=lN H.out b1.out 0;generalize (if c=k then A else Option.map (fun x=>x.add k) A)=A2 at b0⊢;have b9:=Ld b0
   have M:Hid (r=(s.xs.take k,⟨s.xs.drop k,0⟩)):=Ld (by
    rw[HR.out];unfold Rs.raw Rs.left
    rw[if_pos HE.out.symm,U.out,if_neg S,←HE.out])
   have X:Hid ((s.xs.take k).length=k):=Ld (by rw[List.length_take,U.out];omega);obtain⟨m,z⟩:=nM (t.setCell ⟨b2,0,none⟩ (.slice A2 (n-k) (c-k)):World);have J:Fr (fun k=>k=b2) t m:=by rw[z];exact(Fr.refl (fun k=>k=b2) t).setCell (p:=⟨b2,0,none⟩) (fun _=>rfl) _
   have f:Hid (ab m b2 194 #[.slice A2 (n-k) (c-k),.int .i64 0]):=Ld (by
    have:=G.out.set 0 (.slice A2 (n-k) (c-k));rw[z]
    simpa using this)
   have b:Hid (ab m b5 194 #[.slice none 0 0,.int .i64 0]):=Ld (I.out.fr J N);have T:=Ld J;rw[←z];clear z J b3 b7 P R f50 f51 f20 f21 b0;have P:m.cell? ⟨b5,0,none⟩=some (.slice none 0 0):=b.out.cell 0;have R:m.cell? ⟨b5,1,none⟩=some (.int .i64 0):=b.out.cell 1;have f50:m.frozen? ⟨b5,0,none⟩=false:=b.out.frozen 0;have f51:m.frozen? ⟨b5,1,none⟩=false:=b.out.frozen 1;have E:aT b2 (.slice A2 (n-k) (c-k)) (.int .i64 0) m.drew:=aT.of f.out;refine ag (aT b2 (.slice A2 (n-k) (c-k)) (.int .i64 0)) [(true,0),(true,1),(true,2),(false,3)] (by kernel_rfl) (by kernel_rfl) E (fun b8=>?_);have q0:∀p:HW (aT b2 (.slice A2 (n-k) (c-k)) (.int .i64 0)),p.w.cell? ⟨b2,0,none⟩=some (.slice A2 (n-k) (c-k)):=fun p=>p.h.1
   have q1:∀p:HW (aT b2 (.slice A2 (n-k) (c-k)) (.int .i64 0)),p.w.cell? ⟨b2,1,none⟩=some (.int .i64 0):=fun p=>p.h.2
   iterate 3 (refine ae (o:=.mk ..) rfl (fun K D=>?_);go_simp;refine D _ ?_;clear D K)
   refine aj (o:=.mk ..) rfl (fun K D=>?_) (.inl rfl);go_simp;obtain⟨F,d⟩:=nM (((m.setCell ⟨b5,0,none⟩ (.slice A2 (n-k) (c-k))).setCell ⟨b5,1,none⟩ (.int .i64 0)).drew:World);have j:Fr (fun k=>k=b5) m F:=by rw[d];exact(((Fr.refl (fun k=>k=b5) m).setCell (p:=⟨b5,0,none⟩) (fun _=>rfl) _).setCell (p:=⟨b5,1,none⟩) (fun _=>rfl) _).drew
   have i:ab F b5 194 #[(.slice A2 (n-k) (c-k)),(.int .i64 0)]:=by rw[d];exact bF b.out (.slice A2 (n-k) (c-k)) (.int .i64 0)
   rw[←d];refine D.out _ _ (fun _=>aT.of (f.out.fr j y)) ?_;clear D K q0 q1;refine ao ?_;have r0:F.cell? ⟨b5,0,none⟩=some (.slice A2 (n-k) (c-k)):=i.cell 0;have r1:F.cell? ⟨b5,1,none⟩=some (.int .i64 0):=i.cell 1;have L:=Ld j;clear d j i E
   go_wp2_with fail
   have u:Hid (aa w F):=Ld ((V.out.fr T.out (fun k hk=>by have:=HZ.out;omega)).fr L.out (fun k hk=>by have:=HZ.out;omega));refine bodyPost_ret (v:=.tuple #[.slice A k c,.agg #[.slice A2 (n-k) (c-k),.int .i64 0]]) (by simp[results,results156,go_sem,r0,r1]) rfl ⟨?_,u.out⟩;rw[M.out];exact⟨A,c,A2,n-k,c-k,by dsimp only;rw[X.out];rfl,by dsimp only;rw[X.out];exact u.out.rd (Rd.take H.out.rd b1.out),by dsimp only;rw[X.out];exact c0,b9.out.new u.out⟩
 ·have hz:((B:Int) != 0)=true:=by simp;omega
  have c5:((B:Int)==0)=false:=by simp;omega
  have c3:decide ((B:Int)=0)=false:=decide_eq_false (by omega);have f:=G;have b:=I;have M:Hid (r=([],s)):=Ld (by rw[HR.out];exact tI (by rw[←HE.out];exact h0) k)
  go_wp2_with fail
  have E:aT b2 (.slice A n c) (.int .i64 B) t.drew:=aT.of f.out;refine ag (aT b2 (.slice A n c) (.int .i64 B)) [(true,0),(true,1),(false,2)] (by kernel_rfl) (by kernel_rfl) E (fun b8=>?_);have q0:∀p:HW (aT b2 (.slice A n c) (.int .i64 B)),p.w.cell? ⟨b2,0,none⟩=some (.slice A n c):=fun p=>p.h.1
  have q1:∀p:HW (aT b2 (.slice A n c) (.int .i64 B)),p.w.cell? ⟨b2,1,none⟩=some (.int .i64 B):=fun p=>p.h.2
  iterate 2 (refine ae (o:=.mk ..) rfl (fun K D=>?_);go_simp;refine D _ ?_;clear D K)
  refine aj (o:=.mk ..) rfl (fun K D=>?_) (.inl rfl);go_simp;obtain⟨F,d⟩:=nM (((t.setCell ⟨b5,0,none⟩ (.slice A n c)).setCell ⟨b5,1,none⟩ (.int .i64 B)).drew:World);have j:Fr (fun k=>k=b5) t F:=by rw[d];exact(((Fr.refl (fun k=>k=b5) t).setCell (p:=⟨b5,0,none⟩) (fun _=>rfl) _).setCell (p:=⟨b5,1,none⟩) (fun _=>rfl) _).drew
  have i:ab F b5 194 #[(.slice A n c),(.int .i64 B)]:=by rw[d];exact bF b.out (.slice A n c) (.int .i64 B)
  rw[←d];refine D.out _ _ (fun _=>aT.of (f.out.fr j y)) ?_;clear D K q0 q1;refine ao ?_;have r0:F.cell? ⟨b5,0,none⟩=some (.slice A n c):=i.cell 0;have r1:F.cell? ⟨b5,1,none⟩=some (.int .i64 B):=i.cell 1;have L:=Ld j;clear d j i E
  go_wp2_with fail
  have u:Hid (aa w F):=Ld (V.out.fr L.out (fun k hk=>by have:=HZ.out;omega));refine bodyPost_ret (v:=.tuple #[.slice none 0 0,.agg #[.slice A n c,.int .i64 B]]) (by simp[results,results156,go_sem,r0,r1]) rfl ⟨?_,u.out⟩;rw[M.out];exact⟨none,0,A,n,c,by rw[HE.out];rfl,ji _,Nat.le_refl _,H.out.new u.out⟩
def yV(p:Nat→Prop)(r:Nat×Rs)(e:Ending)(w':World):Prop:=
 ∃(A2:Option Addr) (b c2:Nat),e=.returned (.tuple #[.int .u64 r.1,rV A2 b c2 r.2.e])∧ml p w' A2 b c2 r.2
theorem BQ{s:Rs}(h:s.e≠0)(k:Nat):s.num k=(0,s):=by
 unfold Rs.num;rw[tI h];rfl
theorem Al{p:Nat→Prop}{w:World}{A:Option Addr}{n c:Nat}{s:Rs}(h:ml p w A n c s)(size:Nat)(hs:size=1∨size=2∨size=4∨size=8)(hp:∀k,p k→k<w.heap.size):
    Calls prog 125 #[rV A n c s.e,.int .i64 size] w fun e w'=>yV p (s.num size) e w'∧aa w w':=by
 have H:=Ld h;have hn:=h.len;have i':=Ld hn;have i0:=h.cm;have i2:=h.nc;unfold rV;obtain⟨r,hr⟩:=nM (s.num size);rw[←hr];have HR:=Ld hr;obtain⟨j,c'⟩:=nM (s.e);rw[←c'];have HE:=Ld c';have HP:=Ld hp;clear hp;clear h hr c' hn
 go_enter func125,ntmps125
 go_upto_region 1 with fail
 obtain⟨D,P⟩:=nM ((w.alloc (.cells #[.slice A n c,.int .i64 j] 194)).alloc (.cells #[.slice none 0 0,.int .i64 0] 194):World);obtain⟨b2,b8⟩:=nM (w.heap.size);obtain⟨b5,b9⟩:=nM (w.heap.size+1);have Z:Hid (aa w D):=Ld (by rw[P];exact aa.al (aa.al (aa.refl _) _) _);have u:Hid (ab D b2 194 #[.slice A n c,.int .i64 j]):=Ld (by rw[P,b8];exact(ab.new _ _ _).alloc _);have y:Hid (ab D b5 194 #[.slice none 0 0,.int .i64 0]):=Ld (by rw[P,b9];exact ab.new' _ _ _ (by simp));have HZ:Hid (w.heap.size≤b2∧w.heap.size≤b5):=Ld ⟨by omega,by omega⟩;have B:b2≠b5:=by omega
 rw[←P,←b9,←b8];clear P b8 b9;have b3:D.cell? ⟨b2,0,none⟩=some (.slice A n c):=u.out.cell 0;have b7:D.cell? ⟨b2,1,none⟩=some (.int .i64 j):=u.out.cell 1;have c5:D.cell? ⟨b5,0,none⟩=some (.slice none 0 0):=y.out.cell 0;have c6:D.cell? ⟨b5,1,none⟩=some (.int .i64 0):=y.out.cell 1;have f50:D.frozen? ⟨b5,0,none⟩=false:=y.out.frozen 0;have f51:D.frozen? ⟨b5,1,none⟩=false:=y.out.frozen 1;have f20:D.frozen? ⟨b2,0,none⟩=false:=u.out.frozen 0;have f21:D.frozen? ⟨b2,1,none⟩=false:=u.out.frozen 1;have b':¬b5=b2:=fun e=>B e.symm
 by_cases h0:j=0
 ·have HT:=Ld (AL (H.out.new Z.out) size (by omega));obtain ⟨q,hq⟩:=nM (s.raw size);rw [←HE.out] at HT;rw [←hq] at HT;unfold rV at HT;have S:Hid (r=(aQ q.1,q.2)):=Ld (by rw [HR.out];unfold Rs.num;rw [←hq]);have c3:q.1.length≤8:=by rw [hq];have:=oG s size;omega
  have c4:Hid (aU q.1):=Ld (by rw[hq];exact raw_byt H.out.byt size);have i3:(size==1||size==2||size==4||size==8)=true:=by rcases hs with rfl|rfl|rfl|rfl<;>rfl
  clear hq;subst h0;rcases hs with rfl|rfl|rfl|rfl
  all_goals
   go_wp2_with fail
   refine HT.out.mono ?_;rintro e w2 ⟨⟨A1,c1,A2,G,c2,rfl,c8,Y,c9⟩,T⟩;have b1:=Ld c8;have J:=Ld c9;have g3:=Ld T;have i:=Ld (T.blk u.out);have b0:=Ld (T.blk y.out);obtain⟨q1,U⟩:=nM (q.1);obtain⟨q2,V⟩:=nM (q.2);rw[←U,←V]at S;rw[←U]at b1 c4 c3 Y;rw[←V]at J;rw[←U,←V];obtain⟨m1,c7⟩:=nM (q1.length);obtain⟨L,c0⟩:=nM (q2.e);rw[←c7]at c3 Y b1⊢;rw[←c0];have d':=Ld c0;clear c8 c9 T U V c7 c0 b3 b7 c5 c6 f50 f51 f20 f21 HT u y;unfold rV;have b3:w2.cell? ⟨b2,0,none⟩=some (.slice A n c):=i.out.cell 0;have b7:w2.cell? ⟨b2,1,none⟩=some (.int .i64 0):=i.out.cell 1;have f20:w2.frozen? ⟨b2,0,none⟩=false:=i.out.frozen 0;have f21:w2.frozen? ⟨b2,1,none⟩=false:=i.out.frozen 1
   go_upto_region 7 with fail
   obtain⟨E,X⟩:=nM ((w2.setCell ⟨b2,0,none⟩ (.slice A2 G c2)).setCell ⟨b2,1,none⟩ (.int .i64 L):World);have M:Fr (fun k=>k=b2) w2 E:=by rw[X];exact((Fr.refl (fun k=>k=b2) w2).setCell (p:=⟨b2,0,none⟩) (fun _=>rfl) _).setCell (p:=⟨b2,1,none⟩) (fun _=>rfl) _
   have d:Hid (ab E b2 194 #[.slice A2 G c2,.int .i64 L]):=Ld (by rw[X];exact bF i.out _ _);have b:Hid (ab E b5 194 #[.slice none 0 0,.int .i64 0]):=Ld (b0.out.fr M b');have g4:Hid (aa w E):=Ld ((Z.out.tr g3.out).fr M (fun k hk=>by have:=HZ.out;omega));rw[←X];clear X b3 b7 f20 f21;have O:∀k,p k→¬k=b2:=fun k hk e=>by have:=HP.out k hk;have:=HZ.out;omega
   have g5:Hid (Rd p E 1 A1 m1 (am q1)):=Ld (b1.out.fr M O);have F:Hid (ml p E A2 G c2 q2):=Ld ⟨J.out.rd.fr M O,J.out.byt,J.out.nc,J.out.cm⟩;have g7:=Ld (gG A1 m1 c1 q1 E.drew g5.out c4.out c3);have c5:E.cell? ⟨b5,0,none⟩=some (.slice none 0 0):=b.out.cell 0;have c6:E.cell? ⟨b5,1,none⟩=some (.int .i64 0):=b.out.cell 1;have f50:E.frozen? ⟨b5,0,none⟩=false:=b.out.frozen 0;have f51:E.frozen? ⟨b5,1,none⟩=false:=b.out.frozen 1;clear M O;have N:aT b2 (.slice A2 G c2) (.int .i64 L) E.drew:=aT.of d.out;refine ag (aT b2 (.slice A2 G c2) (.int .i64 L)) [(true,0),(true,2),(false,1),(true,3),(false,4)] (by kernel_rfl) (by kernel_rfl) N (fun g8=>?_);have q0:∀p:HW (aT b2 (.slice A2 G c2) (.int .i64 L)),p.w.cell? ⟨b2,0,none⟩=some (.slice A2 G c2):=fun p=>p.h.1
   have g9:∀p:HW (aT b2 (.slice A2 G c2) (.int .i64 L)),p.w.cell? ⟨b2,1,none⟩=some (.int .i64 L):=fun p=>p.h.2
   iterate 2 (refine ae (o:=.mk ..) rfl (fun K t=>?_);go_simp;refine t _ ?_;clear t K)
   refine aj (o:=.mk ..) rfl (fun K t=>?_) (.inl rfl);go_simp;refine g7.out.mono ?_;rintro e w5 ⟨rfl,rfl⟩;refine t.out _ _ (fun _=>aT.of d.out) ?_;clear t K;refine ae (o:=.mk ..) rfl (fun K t=>?_);go_simp;refine t _ ?_;clear t K;refine aj (o:=.mk ..) rfl (fun K t=>?_) (.inl rfl);go_simp;obtain⟨I,f⟩:=nM (((E.setCell ⟨b5,0,none⟩ (.slice A2 G c2)).setCell ⟨b5,1,none⟩ (.int .i64 L)).drew:World);have m:Fr (fun k=>k=b5) E I:=by rw[f];exact(((Fr.refl (fun k=>k=b5) E).setCell (p:=⟨b5,0,none⟩) (fun _=>rfl) _).setCell (p:=⟨b5,1,none⟩) (fun _=>rfl) _).drew
   have z:ab I b5 194 #[.slice A2 G c2,.int .i64 L]:=by rw[f];exact bF b.out _ _
   rw[←f];refine t.out _ _ (fun _=>aT.of (d.out.fr m B)) ?_;clear t K q0 g9;refine ao ?_;have r0:I.cell? ⟨b5,0,none⟩=some (.slice A2 G c2):=z.cell 0;have r1:I.cell? ⟨b5,1,none⟩=some (.int .i64 L):=z.cell 1;have R:Hid (aa w I):=Ld (g4.out.fr m (fun k hk=>by have:=HZ.out;omega))
   have g6:Hid (ml p I A2 G c2 q2):=Ld (by
    have O:∀k,p k→¬k=b5:=fun k hk e=>by have:=HP.out k hk;have:=HZ.out;omega
    exact⟨F.out.rd.fr m O,F.out.byt,F.out.nc,F.out.cm⟩)
   clear f m z N
   go_wp2_with fail
   refine bodyPost_ret (v:=.tuple #[.int .u64 (aQ q1),.agg #[.slice A2 G c2,.int .i64 L]]) (by simp[results,results125,go_sem,r0,r1]) rfl ⟨?_,R.out⟩;rw[S.out];exact⟨A2,G,c2,by rw[d'.out];rfl,g6.out⟩
 ·have hz:((j:Int) != 0)=true:=by simp;omega
  have i4:((j:Int)==0)=false:=by simp;omega
  have i1:decide ((j:Int)=0)=false:=decide_eq_false (by omega);have d:=u;have b:=y;have S:Hid (r=(0,s)):=Ld (by rw[HR.out];exact BQ (by rw[←HE.out];exact h0) size);clear hs
  go_wp2_with fail
  have N:aT b2 (.slice A n c) (.int .i64 j) D.drew:=aT.of d.out;refine ag (aT b2 (.slice A n c) (.int .i64 j)) [(true,0),(true,1),(false,2)] (by kernel_rfl) (by kernel_rfl) N (fun g8=>?_);have q0:∀p:HW (aT b2 (.slice A n c) (.int .i64 j)),p.w.cell? ⟨b2,0,none⟩=some (.slice A n c):=fun p=>p.h.1
  have q1:∀p:HW (aT b2 (.slice A n c) (.int .i64 j)),p.w.cell? ⟨b2,1,none⟩=some (.int .i64 j):=fun p=>p.h.2
  iterate 2 (refine ae (o:=.mk ..) rfl (fun K t=>?_);go_simp;refine t _ ?_;clear t K)
  refine aj (o:=.mk ..) rfl (fun K t=>?_) (.inl rfl);go_simp;obtain⟨I,f⟩:=nM (((D.setCell ⟨b5,0,none⟩ (.slice A n c)).setCell ⟨b5,1,none⟩ (.int .i64 j)).drew:World);have m:Fr (fun k=>k=b5) D I:=by rw[f];exact(((Fr.refl (fun k=>k=b5) D).setCell (p:=⟨b5,0,none⟩) (fun _=>rfl) _).setCell (p:=⟨b5,1,none⟩) (fun _=>rfl) _).drew
  have z:ab I b5 194 #[(.slice A n c),(.int .i64 j)]:=by rw[f];exact bF b.out (.slice A n c) (.int .i64 j)
  rw[←f];refine t.out _ _ (fun _=>aT.of (d.out.fr m B)) ?_;clear t K q0 q1;refine ao ?_;have r0:I.cell? ⟨b5,0,none⟩=some (.slice A n c):=z.cell 0;have r1:I.cell? ⟨b5,1,none⟩=some (.int .i64 j):=z.cell 1;have f':=Ld m;clear f m z N
  go_wp2_with fail
  have R:Hid (aa w I):=Ld (Z.out.fr f'.out (fun k hk=>by have:=HZ.out;omega));refine bodyPost_ret (v:=.tuple #[.int .u64 0,.agg #[.slice A n c,.int .i64 j]]) (by simp[results,results125,go_sem,r0,r1]) rfl ⟨?_,R.out⟩;rw[S.out];exact⟨A,n,c,by rw[HE.out];rfl,H.out.new R.out⟩
def yO(p:Nat→Prop)(r:Bool×Rs)(e:Ending)(w':World):Prop:=
 ∃(A2:Option Addr) (b c2:Nat),e=.returned (.tuple #[.bool r.1,rV A2 b c2 r.2.e])∧ml p w' A2 b c2 r.2
theorem sZ{s:Rs}(h:s.e≠0):s.flag=(false,s):=by
 have hl:s.left=0:=by unfold Rs.left;rw[if_neg h]
 unfold Rs.flag;rw[hl,if_pos (.inl (by omega))];unfold Rs.bad;rw[if_neg h]
def vM(b:Nat)(x y:Value)(g o:Nat)(z:Value)(w:World):Prop:=w.cell? ⟨b,0,none⟩=some x∧w.cell? ⟨b,1,none⟩=some y∧w.cell? ⟨g,o,none⟩=some z
theorem zg{p:Nat→Prop}{w:World}{A:Option Addr}{n c:Nat}{s:Rs}(h:ml p w A n c s)(hp:∀k,p k→k<w.heap.size):
    Calls prog 126 #[rV A n c s.e] w fun e w'=>yO p s.flag e w'∧aa w w':=by
 have H:=Ld h;have hn:=h.len;have Z:=Ld hn;have g6:=h.cm;have g9:=h.nc;unfold rV;obtain⟨r,hr⟩:=nM (s.flag);rw[←hr];have HR:=Ld hr;obtain⟨J,b9⟩:=nM (s.e);rw[←b9];have X:=Ld b9;have HP:=Ld hp;clear hp;clear h hr b9 hn
 go_enter func126,ntmps126
 go_upto_region 1 with fail
 obtain⟨u,R⟩:=nM ((w.alloc (.cells #[.slice A n c,.int .i64 J] 194)).alloc (.cells #[.slice none 0 0,.int .i64 0] 194):World);obtain⟨b2,b1⟩:=nM (w.heap.size);obtain⟨b5,b3⟩:=nM (w.heap.size+1);have O:Hid (aa w u):=Ld (by rw[R];exact aa.al (aa.al (aa.refl _) _) _);have F:Hid (ab u b2 194 #[.slice A n c,.int .i64 J]):=Ld (by rw[R,b1];exact(ab.new _ _ _).alloc _);have I:Hid (ab u b5 194 #[.slice none 0 0,.int .i64 0]):=Ld (by rw[R,b3];exact ab.new' _ _ _ (by simp));have HZ:Hid (w.heap.size≤b2∧w.heap.size≤b5):=Ld ⟨by omega,by omega⟩;have m:b2≠b5:=by omega
 rw[←R,←b3,←b1];clear R b1 b3;have b':u.cell? ⟨b2,0,none⟩=some (.slice A n c):=F.out.cell 0;have b0:u.cell? ⟨b2,1,none⟩=some (.int .i64 J):=F.out.cell 1;have S:u.cell? ⟨b5,0,none⟩=some (.slice none 0 0):=I.out.cell 0;have T:u.cell? ⟨b5,1,none⟩=some (.int .i64 0):=I.out.cell 1;have f50:u.frozen? ⟨b5,0,none⟩=false:=I.out.frozen 0;have f51:u.frozen? ⟨b5,1,none⟩=false:=I.out.frozen 1;have f20:u.frozen? ⟨b2,0,none⟩=false:=F.out.frozen 0;have f21:u.frozen? ⟨b2,1,none⟩=false:=F.out.frozen 1;have P:¬b5=b2:=fun e=>m e.symm
 by_cases h0:J=0
 ·subst h0
  by_cases c4:n=0
  ·subst c4
   have L:Hid (r=(false,⟨s.xs,2⟩)):=Ld (by
    rw[HR.out];unfold Rs.flag Rs.left Rs.bad
    rw[if_pos X.out.symm,Z.out,if_pos (.inl (by omega)),if_pos X.out.symm])
   go_upto_region 5 with fail
   obtain⟨D,G⟩:=nM (u.setCell ⟨b2,1,none⟩ (.int .i64 2):World);have M:Fr (fun k=>k=b2) u D:=by rw[G];exact(Fr.refl (fun k=>k=b2) u).setCell (p:=⟨b2,1,none⟩) (fun _=>rfl) _
   have t:Hid (ab D b2 194 #[.slice A 0 c,.int .i64 2]):=Ld (by
    have:=F.out.set 1 (.int .i64 2);rw[G]
    simpa using this)
   have b:Hid (ab D b5 194 #[.slice none 0 0,.int .i64 0]):=Ld (I.out.fr M P);have Y:=Ld M;rw[←G];clear G M b' b0 S T f50 f51 f20 f21;have S:D.cell? ⟨b5,0,none⟩=some (.slice none 0 0):=b.out.cell 0;have T:D.cell? ⟨b5,1,none⟩=some (.int .i64 0):=b.out.cell 1;have f50:D.frozen? ⟨b5,0,none⟩=false:=b.out.frozen 0;have f51:D.frozen? ⟨b5,1,none⟩=false:=b.out.frozen 1;have B:aT b2 (.slice A 0 c) (.int .i64 2) D.drew:=aT.of t.out;refine ag (aT b2 (.slice A 0 c) (.int .i64 2)) [(true,0),(true,1),(false,2)] (by kernel_rfl) (by kernel_rfl) B (fun c'=>?_);have q0:∀p:HW (aT b2 (.slice A 0 c) (.int .i64 2)),p.w.cell? ⟨b2,0,none⟩=some (.slice A 0 c):=fun p=>p.h.1
   have q1:∀p:HW (aT b2 (.slice A 0 c) (.int .i64 2)),p.w.cell? ⟨b2,1,none⟩=some (.int .i64 2):=fun p=>p.h.2
   iterate 2 (refine ae (o:=.mk ..) rfl (fun K z=>?_);go_simp;refine z _ ?_;clear z K)
   refine aj (o:=.mk ..) rfl (fun K z=>?_) (.inl rfl);go_simp;obtain⟨E,d⟩:=nM (((D.setCell ⟨b5,0,none⟩ (.slice A 0 c)).setCell ⟨b5,1,none⟩ (.int .i64 2)).drew:World);have f:Fr (fun k=>k=b5) D E:=by rw[d];exact(((Fr.refl (fun k=>k=b5) D).setCell (p:=⟨b5,0,none⟩) (fun _=>rfl) _).setCell (p:=⟨b5,1,none⟩) (fun _=>rfl) _).drew
   have i:ab E b5 194 #[(.slice A 0 c),(.int .i64 2)]:=by rw[d];exact bF b.out (.slice A 0 c) (.int .i64 2)
   rw[←d];refine z.out _ _ (fun _=>aT.of (t.out.fr f m)) ?_;clear z K q0 q1;refine ao ?_;have r0:E.cell? ⟨b5,0,none⟩=some (.slice A 0 c):=i.cell 0;have r1:E.cell? ⟨b5,1,none⟩=some (.int .i64 2):=i.cell 1;have N:=Ld f;clear d f i B
   go_wp2_with fail
   have y:Hid (aa w E):=Ld ((O.out.fr Y.out (fun k hk=>by have:=HZ.out;omega)).fr N.out (fun k hk=>by have:=HZ.out;omega));refine bodyPost_ret (v:=.tuple #[.bool false,.agg #[.slice A 0 c,.int .i64 2]]) (by simp[results,results126,go_sem,r0,r1]) rfl ⟨?_,y.out⟩;rw[L.out];exact⟨A,0,c,rfl,⟨y.out.rd H.out.rd,H.out.byt,H.out.nc,H.out.cm⟩⟩
  ·obtain ⟨j,o,rfl,f',-,hq⟩:=H.out.rd.out (by omega) (by omega);have c0:0<s.xs.length:=by rw [Z.out];omega
   have c8:=H.out.byt s.xs[0] (List.getElem_mem _);have b8:u.cell? ⟨j,o,none⟩=some (.int .u8 s.xs[0]):=O.out.cell_ (hq 0 _ (by simp[am,c0]))
   have c1:s.xs.headD 0=s.xs[0]:=by
    obtain⟨xs,e⟩:=s
    match xs,c0 with
    |a::r,_=>rfl
   have hlf:s.left=n:=by unfold Rs.left;rw[if_pos X.out.symm,Z.out]
   have hf:s.flag=if(1:Int)<s.xs[0]then(false,s.bad 2)else(decide ((s.num 1).1=1),(s.num 1).2):=by
    unfold Rs.flag;rw[c1,hlf]
    by_cases h1:(1:Int)<s.xs[0]
    ·rw[if_pos (.inr h1),if_pos h1]
    ·rw[if_neg (by rintro(h|h)<;>omega),if_neg h1]
   have V:s.num 1=(s.xs[0].toNat,⟨s.xs.drop 1,0⟩):=by
    unfold Rs.num Rs.raw;rw[hlf,if_neg (by omega),←X.out];obtain⟨xs,e⟩:=s
    match xs,c0 with
    |a::r,_=>simp[aQ]
   rw[V]at hf;have d':j≠b5∧j≠b2:=by have:=HP.out j f';have:=HZ.out;omega
   obtain⟨x,hx⟩:=nM (s.xs[0]);rw[←hx]at hf b8 c8;have HF:=Ld hf;clear hf V c1 hq hx hlf;have g8:decide (n=0)=false:=decide_eq_false c4;have i':((n:Int)==0)=false:=by simp;omega
   have i0:(0:Int)<(n:Int):=by omega
   have g3:0<n:=by omega
   by_cases h1:(1:Int)<x
   ·have c9:decide (1<x)=true:=decide_eq_true h1
    have L:Hid (r=(false,⟨s.xs,2⟩)):=Ld (by
     rw[HR.out,HF.out,if_pos h1];unfold Rs.bad
     rw[if_pos X.out.symm])
    go_upto_region 5 with fail
    obtain⟨D,G⟩:=nM (u.setCell ⟨b2,1,none⟩ (.int .i64 2):World);have M:Fr (fun k=>k=b2) u D:=by rw[G];exact(Fr.refl (fun k=>k=b2) u).setCell (p:=⟨b2,1,none⟩) (fun _=>rfl) _
    have t:Hid (ab D b2 194 #[.slice (some ⟨j,o,none⟩) n c,.int .i64 2]):=Ld (by
     have:=F.out.set 1 (.int .i64 2);rw[G]
     simpa using this)
    have b:Hid (ab D b5 194 #[.slice none 0 0,.int .i64 0]):=Ld (I.out.fr M P);have Y:=Ld M;rw[←G];clear G M b' b0 S T f50 f51 f20 f21;have S:D.cell? ⟨b5,0,none⟩=some (.slice none 0 0):=b.out.cell 0;have T:D.cell? ⟨b5,1,none⟩=some (.int .i64 0):=b.out.cell 1;have f50:D.frozen? ⟨b5,0,none⟩=false:=b.out.frozen 0;have f51:D.frozen? ⟨b5,1,none⟩=false:=b.out.frozen 1;have B:aT b2 (.slice (some ⟨j,o,none⟩) n c) (.int .i64 2) D.drew:=aT.of t.out;refine ag (aT b2 (.slice (some ⟨j,o,none⟩) n c) (.int .i64 2)) [(true,0),(true,1),(false,2)] (by kernel_rfl) (by kernel_rfl) B (fun c'=>?_);have q0:∀p:HW (aT b2 (.slice (some ⟨j,o,none⟩) n c) (.int .i64 2)),p.w.cell? ⟨b2,0,none⟩=some (.slice (some ⟨j,o,none⟩) n c):=fun p=>p.h.1
    have q1:∀p:HW (aT b2 (.slice (some ⟨j,o,none⟩) n c) (.int .i64 2)),p.w.cell? ⟨b2,1,none⟩=some (.int .i64 2):=fun p=>p.h.2
    iterate 2 (refine ae (o:=.mk ..) rfl (fun K z=>?_);go_simp;refine z _ ?_;clear z K)
    refine aj (o:=.mk ..) rfl (fun K z=>?_) (.inl rfl);go_simp;obtain⟨E,d⟩:=nM (((D.setCell ⟨b5,0,none⟩ (.slice (some ⟨j,o,none⟩) n c)).setCell ⟨b5,1,none⟩ (.int .i64 2)).drew:World);have f:Fr (fun k=>k=b5) D E:=by rw[d];exact(((Fr.refl (fun k=>k=b5) D).setCell (p:=⟨b5,0,none⟩) (fun _=>rfl) _).setCell (p:=⟨b5,1,none⟩) (fun _=>rfl) _).drew
    have i:ab E b5 194 #[(.slice (some ⟨j,o,none⟩) n c),(.int .i64 2)]:=by rw[d];exact bF b.out (.slice (some ⟨j,o,none⟩) n c) (.int .i64 2)
    rw[←d];refine z.out _ _ (fun _=>aT.of (t.out.fr f m)) ?_;clear z K q0 q1;refine ao ?_;have r0:E.cell? ⟨b5,0,none⟩=some (.slice (some ⟨j,o,none⟩) n c):=i.cell 0;have r1:E.cell? ⟨b5,1,none⟩=some (.int .i64 2):=i.cell 1;have N:=Ld f;clear d f i B
    go_wp2_with fail
    have y:Hid (aa w E):=Ld ((O.out.fr Y.out (fun k hk=>by have:=HZ.out;omega)).fr N.out (fun k hk=>by have:=HZ.out;omega));refine bodyPost_ret (v:=.tuple #[.bool false,.agg #[.slice (some ⟨j,o,none⟩) n c,.int .i64 2]]) (by simp[results,results126,go_sem,r0,r1]) rfl ⟨?_,y.out⟩;rw[L.out];exact⟨some ⟨j,o,none⟩,n,c,rfl,⟨y.out.rd H.out.rd,H.out.byt,H.out.nc,H.out.cm⟩⟩
   ·have c9:decide (1<x)=false:=decide_eq_false h1;have L:Hid (r=(decide (x.toNat=1),⟨s.xs.drop 1,0⟩)):=Ld (by rw [HR.out,HF.out,if_neg h1]);have U:=lN (k:=1) H.out (by omega) 0;have g4:1≤c:=by omega
    have g5:(1:Int)≤(n:Int):=by omega
    have c3:Option.map (fun x:Addr=>x.add 1) (some ⟨j,o,none⟩)=some ⟨j,o+1,none⟩:=by simp[Addr.add]
    rw[c3]at U;clear c3
    go_wp2_with fail
    have B:vM b2 (.slice (some ⟨j,o,none⟩) n c) (.int .i64 0) j o (.int .u8 x) u.drew:=⟨b',b0,b8⟩
    refine ag (vM b2 (.slice (some ⟨j,o,none⟩) n c) (.int .i64 0) j o (.int .u8 x)) [(true,0),(true,1),(true,2),(true,3),(true,4),(true,5),(true,6),(true,7),(true,8),(true,9),(false,10)] (by kernel_rfl) (by kernel_rfl) B (fun c'=>?_);have q0:∀p:HW (vM b2 (.slice (some ⟨j,o,none⟩) n c) (.int .i64 0) j o (.int .u8 x)),p.w.cell? ⟨b2,0,none⟩=some (.slice (some ⟨j,o,none⟩) n c):=fun p=>p.h.1
    have q1:∀p:HW (vM b2 (.slice (some ⟨j,o,none⟩) n c) (.int .i64 0) j o (.int .u8 x)),p.w.cell? ⟨j,o,none⟩=some (.int .u8 x):=fun p=>p.h.2.2
    iterate 10 (refine ae (o:=.mk ..) rfl (fun K z=>?_);go_simp;refine z _ ?_;clear z K)
    refine aj (o:=.mk ..) rfl (fun K z=>?_) (.inl rfl);go_simp;generalize (if c=1 then some (⟨j,o,none⟩:Addr)else some ⟨j,o+1,none⟩)=A2 at U⊢;have c7:=Ld U;obtain⟨E,d⟩:=nM (((u.setCell ⟨b5,0,none⟩ (.slice A2 (n-1) (c-1))).setCell ⟨b5,1,none⟩ (.int .i64 0)).drew:World);have f:Fr (fun k=>k=b5) u E:=by rw[d];exact(((Fr.refl (fun k=>k=b5) u).setCell (p:=⟨b5,0,none⟩) (fun _=>rfl) _).setCell (p:=⟨b5,1,none⟩) (fun _=>rfl) _).drew
    have i:ab E b5 194 #[.slice A2 (n-1) (c-1),.int .i64 0]:=by rw[d];exact bF I.out _ _
    rw[←d];refine z.out _ _ (fun _=>⟨(F.out.fr f m).cell 0,(F.out.fr f m).cell 1,f.cell_some b8 d'.1⟩) ?_;clear z K q0 q1;refine ao ?_;have r0:E.cell? ⟨b5,0,none⟩=some (.slice A2 (n-1) (c-1)):=i.cell 0;have r1:E.cell? ⟨b5,1,none⟩=some (.int .i64 0):=i.cell 1;have y:Hid (aa w E):=Ld (O.out.fr f (fun k hk=>by have:=HZ.out;omega));obtain⟨bb,b7⟩:=nM ((x==1))
    have c6:Hid (bb=decide (x.toNat=1)):=Ld (by
     rw[b7]
     by_cases c5:x=1
     ·subst c5;rfl
     ·have h2:¬x.toNat=1:=by omega
      rw[decide_eq_false h2]
      simpa using c5)
    rw[←b7];clear d f i B U b7
    go_wp2_with fail
    refine bodyPost_ret (v:=.tuple #[.bool bb,.agg #[.slice A2 (n-1) (c-1),.int .i64 0]]) (by simp[results,results126,go_sem,r0,r1]) rfl ⟨?_,y.out⟩;rw[L.out];exact⟨A2,n-1,c-1,by rw[c6.out];rfl,c7.out.new y.out⟩
 ·skip
  have hz:((J:Int) != 0)=true:=by simp;omega
  have i1:((J:Int)==0)=false:=by simp;omega
  have g7:decide ((J:Int)=0)=false:=decide_eq_false (by omega);have t:=F;have b:=I;have L:Hid (r=(false,s)):=Ld (by rw[HR.out];exact sZ (by rw[←X.out];exact h0))
  go_wp2_with fail
  have B:aT b2 (.slice A n c) (.int .i64 J) u.drew:=aT.of t.out;refine ag (aT b2 (.slice A n c) (.int .i64 J)) [(true,0),(true,1),(false,2)] (by kernel_rfl) (by kernel_rfl) B (fun c'=>?_);have q0:∀p:HW (aT b2 (.slice A n c) (.int .i64 J)),p.w.cell? ⟨b2,0,none⟩=some (.slice A n c):=fun p=>p.h.1
  have q1:∀p:HW (aT b2 (.slice A n c) (.int .i64 J)),p.w.cell? ⟨b2,1,none⟩=some (.int .i64 J):=fun p=>p.h.2
  iterate 2 (refine ae (o:=.mk ..) rfl (fun K z=>?_);go_simp;refine z _ ?_;clear z K)
  refine aj (o:=.mk ..) rfl (fun K z=>?_) (.inl rfl);go_simp;obtain⟨E,d⟩:=nM (((u.setCell ⟨b5,0,none⟩ (.slice A n c)).setCell ⟨b5,1,none⟩ (.int .i64 J)).drew:World);have f:Fr (fun k=>k=b5) u E:=by rw[d];exact(((Fr.refl (fun k=>k=b5) u).setCell (p:=⟨b5,0,none⟩) (fun _=>rfl) _).setCell (p:=⟨b5,1,none⟩) (fun _=>rfl) _).drew
  have i:ab E b5 194 #[(.slice A n c),(.int .i64 J)]:=by rw[d];exact bF b.out (.slice A n c) (.int .i64 J)
  rw[←d];refine z.out _ _ (fun _=>aT.of (t.out.fr f m)) ?_;clear z K q0 q1;refine ao ?_;have r0:E.cell? ⟨b5,0,none⟩=some (.slice A n c):=i.cell 0;have r1:E.cell? ⟨b5,1,none⟩=some (.int .i64 J):=i.cell 1;have N:=Ld f;clear d f i B
  go_wp2_with fail
  have y:Hid (aa w E):=Ld (O.out.fr N.out (fun k hk=>by have:=HZ.out;omega));refine bodyPost_ret (v:=.tuple #[.bool false,.agg #[.slice A n c,.int .i64 J]]) (by simp[results,results126,go_sem,r0,r1]) rfl ⟨?_,y.out⟩;rw[L.out];exact⟨A,n,c,by rw[X.out];rfl,H.out.new y.out⟩
end Go.Proofs.YtfchcdbfalgdlaaGreatDoor
