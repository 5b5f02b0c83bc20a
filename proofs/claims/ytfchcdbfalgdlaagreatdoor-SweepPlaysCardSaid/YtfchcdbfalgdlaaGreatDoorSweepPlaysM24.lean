/- Texts of one proof. No condition but each one's own. -/
import Derived.Test.YtfchcdbfalgdlaaGreatDoorSweepPlaysM19
import Derived.Test.YtfchcdbfalgdlaaGreatDoorSweepPlaysM23
set_option maxHeartbeats 4000000
set_option maxRecDepth 100000
set_option linter.unusedVariables false
set_option linter.unusedSimpArgs false
namespace Go.Proofs.YtfchcdbfalgdlaaGreatDoor
open _root_.Go.Proofs.Tryz
open Go.RowKit Go.Sort Go.Maps
def kC:List Int:=[101,110,116,114,117,115,116,32,109,97,110,105,102,101,115,116]
theorem uv:ba kC:=by intro x d;simp[kC]at d;omega
def jE(g:Nat):List Int:=bj 4 g++(kD (kC++bj 4 g)).take 16
def dx(g:Nat):List Int:=fO (jE g)
theorem kE(g:Nat):(jE g).length=20:=by simp[jE,aw,iL]
theorem BF(g:Nat):ba (jE g):=λx d=>by
 rcases List.mem_append.1 d with d|d
 ·exact eQ _ _ x d
 ·exact yl _ x (List.mem_of_mem_take d)
theorem fN(g:Nat):aS (dx g):=⟨fD (by rw[kE];omega),rL (BF g)⟩
theorem zF(g:Nat):(dx g).take 4=bj 4 g:=by
 unfold dx fO jE;rw[List.append_assoc,List.take_append_of_le_length (by rw[aw];exact Nat.le_refl _),List.take_of_length_le (by rw[aw];exact Nat.le_refl _)]
theorem BE{g:Nat}(h:g<4294967296):aU ((dx g).take 4)=g:=by rw[zF,iA 4 g h]
def iW(p:DP)(a:Nat):Nat:=if p.rget (a:Int)=dx (aU ((p.rget (a:Int)).take 4))/\aU ((p.rget (a:Int)).take 4)%2=a then aU ((p.rget (a:Int)).take 4)else 0
def jC(p:DP):Nat:=max (iW p 0) (iW p 1)
def hlf(n:Nat):Nat:=(n-2)/2
def gj(g n:Nat):Nat:=2+g%2*hlf n
def aW(n g:Nat):LG:=bZ (gj g n) (hlf n) g
def bU(p:DP)(g:Nat):DP×Int:=
 if p.wcode ((g%2:Nat):Int)≠0 then(p.doWrite ((g%2:Nat):Int) (dx g),p.wcode ((g%2:Nat):Int))
 else((p.doWrite ((g%2:Nat):Int) (dx g)).doSync,(p.doWrite ((g%2:Nat):Int) (dx g)).scode)
structure Up(p:DP):Prop where
 fuse:p.fuse=-1
 down:p.down=false
section
variable {p:DP}
theorem Up.wcode(h:Up p){a:Int}(h1:0<=a)(h2:a<p.size):p.wcode a=0:=by
 unfold DP.wcode DP.within;rw[decide_eq_true ⟨h1,h2⟩,if_pos rfl,if_neg (by rw[h.fuse,h.down];simp)]
theorem Up.write(h:Up p)(a:Int)(s:List Int):Up (p.doWrite a s):=by
 unfold DP.doWrite;split
 ·rw[if_neg (by rw[h.fuse,h.down];simp)];exact⟨by show(if 0<p.fuse then p.fuse-1 else p.fuse)=-1;rw[h.fuse];rfl,h.down⟩
 ·exact h
theorem Up.sync(h:Up p):Up p.doSync:=by
 unfold DP.doSync;rw[h.down,if_neg (by simp)];exact⟨h.fuse,h.down⟩
theorem Up.scode(h:Up p):p.scode=0:=by unfold DP.scode;rw[h.down];rfl
theorem Up.new(n:Nat):Up (DP.new n):=⟨rfl,rfl⟩
theorem Up.wipeN(h:Up p){l:LG}(f:l.first+l.size<=p.size):∀k,l.used+k<=l.size->(wipeN p l k).2.2=0/\Up (wipeN p l k).1/\(wipeN p l k).1.size=p.size
 | 0,_=>⟨rfl,h,rfl⟩
 |k+1,g=>by
  obtain⟨h1,h2,d⟩:=h.wipeN f k (by omega);unfold Go.Proofs.YtfchcdbfalgdlaaGreatDoor.wipeN;simp only;rw[if_neg (by rw[h1];simp)];split
  ·exact⟨h2.wcode (by omega) (by rw[d];omega),h2.write _ _,by show(DP.doWrite _ _ _).size=_;rw[DP.doWrite_size,d]⟩
  ·exact⟨h1,h2,d⟩
theorem Up.wipe(h:Up p){l:LG}(f:l.first+l.size<=p.size)(hu:l.used<=l.size):(aB p l).2=0/\Up (aB p l).1/\(aB p l).1.size=p.size:=by
 obtain⟨h1,h2,d⟩:=h.wipeN f (l.size-l.used) (by omega);unfold aB;simp only;rw[if_neg (by rw[h1];simp)];split
 ·exact⟨h2.scode,h2.sync,by show(DP.doSync _).size=_;rw[DP.doSync_size,d]⟩
 ·exact⟨rfl,h2,d⟩
theorem Up.proc(h:Up p)(g:Nat)(f:2<=p.size):(bU p g).2=0/\Up (bU p g).1/\(bU p g).1.size=p.size:=by
 have d:=h.wcode (a:=((g%2:Nat):Int)) (by omega) (by omega);unfold bU;rw[if_neg (by rw[d];simp)];exact⟨(h.write _ _).scode,(h.write _ _).sync,by show(DP.doSync _).size=_;rw[DP.doSync_size,DP.doWrite_size]⟩
end
theorem fk{n g:Nat}(h:4<=n):1<=hlf n/\gj g n+hlf n<=n/\2<=gj g n:=by
 unfold gj hlf;have h1:g%2=0\/g%2=1:=by omega
 rcases h1 with h1|h1<;>rw[h1]<;>omega
theorem ww{n g g':Nat}(h:g%2≠g'%2){x y:Nat}(d:x<hlf n)(f:y<hlf n):gj g n+x≠gj g' n+y:=by
 unfold gj;have h1:g%2=0\/g%2=1:=by omega
 have h2:g'%2=0\/g'%2=1:=by omega
 rcases h1 with h1|h1<;>rcases h2 with h2|h2<;>rw[h1,h2]<;>omega
def ef(p:DP):DP:=(bU (aB ((p.doWrite 0 az).doWrite 1 az).doSync (aW p.size 1)).1 1).1
theorem wt{p:DP}(h:Up p)(k:4<=p.size):Up (ef p)/\(ef p).size=p.size:=by
 have h1:=((h.write 0 az).write 1 az).sync;have hz:((p.doWrite 0 az).doWrite 1 az).doSync.size=p.size:=by rw[DP.doSync_size,DP.doWrite_size,DP.doWrite_size]
 have j:=fk (g:=1) k;obtain⟨-,h2,d⟩:=h1.wipe (l:=aW p.size 1) (by rw[hz];exact j.2.1) (Nat.zero_le _);obtain⟨-,f,i⟩:=h2.proc 1 (by rw[d,hz];omega);exact⟨f,by show(bU _ 1).1.size=_;rw[i,d,hz]⟩
def doP(T:CT)(c:PC):CT:=if c.d then lH T c.k else qG T c.k c.v
def doPs(T:CT)(L:List PC):CT:=L.foldl doP T
theorem ox(T:CT)(L:List Ch):po T L=doPs T (L.map cK):=by
 induction L generalizing T with
 |nil=>rfl
 |cons c L d=>exact d (doC T c)
def EJ(c:PC):List Int:=[if !c.d then 1 else 0]++bj 2 c.k.length++c.k++(if c.d then[]else bj 2 c.v.length++c.v)
def bw(L:List PC):List Int:=bj 2 L.length++L.flatMap EJ
theorem Fg{c:Ch}(h:c.k.xs.length=c.k.n/\c.v.xs.length=c.v.n):mq c=EJ (cK c):=by
 unfold mq EJ cK;rw[h.1,h.2]
theorem gE{L:List Ch}(h:ko L):bI L=bw (L.map cK):=by
 have key:∀M:List Ch,ko M->M.flatMap mq=(M.map cK).flatMap EJ:=by
  intro M
  induction M with
  |nil=>intro _;rfl
  |cons c M g=>
   intro d;rw[List.flatMap_cons,List.map_cons,List.flatMap_cons,Fg (d c (List.mem_cons_self ..)),g λx f=>d x (List.mem_cons_of_mem _ f)]
 unfold bI bw;rw[key L h,List.length_map]
def AD(e:List Int×List Int):PC:=⟨e.1,e.2,false⟩
def jB(T:CT):List (List PC):=(jt (mP CZ (aI T))).map (List.map AD)
def bR(T:CT):List (List Int)->Option CT
 | []=>some T
 | b::bs=>match eG b with
  |some L=>bR (doPs T L) bs
  |none=>none
structure SW where
 p:DP
 l:LG
 t:CT
 gen:Nat
 broken:Bool
noncomputable def opnS (p:DP):DP×Int×Option SW:=
 if p.size<4 then(p,1,none)else if jC p=0 then(p,2,none)else
 let r:=runL p (aW p.size (jC p))
 let q:=(aB p r.1).1
 match bR [] r.2 with
 |some t=>(q,0,some ⟨q,r.1,t,jC p,false⟩)
 |none=>(q,2,none)
def eb(p:DP)(l:LG):List (List Int)->DP×LG×Int
 | []=>(p,l,0)
 |b::bs=>if(aD p l b).2.2≠0 then aD p l b else eb (aD p l b).1 (aD p l b).2.1 bs
def dD(s:SW):DP×LG×Int:=
 let l0:=aW s.p.size (s.gen+1)
 let r:=aB s.p l0
 if r.2≠0 then(r.1,l0,r.2)else
 let a:=eb r.1 l0 ((jB s.t).map bw)
 if a.2.2≠0 then a else
 if a.1.scode≠0 then(a.1.doSync,a.2.1,a.1.scode)else
 ((bU a.1.doSync (s.gen+1)).1,a.2.1,(bU a.1.doSync (s.gen+1)).2)
def fK(c:Int):Bool:=decide (c≠0/\c≠8/\c≠9)
def aN(s:SW):SW×Int:=
 if s.broken=true then(s,10)else if s.gen=4294967295 then(s,9)else
 let r:=dD s
 if r.2.2≠0 then({s with p:=r.1,broken:=fK r.2.2},r.2.2)else({s with p:=r.1,l:=r.2.1,gen:=s.gen+1},0)
def di(s:SW)(b:List Int):SW×Int:=
 if(aD s.p s.l b).2.2≠8 then({s with p:=(aD s.p s.l b).1,l:=(aD s.p s.l b).2.1},(aD s.p s.l b).2.2)else
 let r:=aN {s with p:=(aD s.p s.l b).1,l:=(aD s.p s.l b).2.1}
 if r.2≠0 then r else({r.1 with p:=(aD r.1.p r.1.l b).1,l:=(aD r.1.p r.1.l b).2.1},(aD r.1.p r.1.l b).2.2)
def ed(s:SW)(L:List PC):SW×Int:=
 if dN L=false then(s,2)else if s.broken=true then(s,10)else if 65536<(bw L).length then(s,3)else
 let r:=di s (bw L)
 if r.2≠0 then({r.1 with broken:=r.1.broken||fK r.2},r.2)else
 if r.1.p.scode≠0 then({r.1 with p:=r.1.p.doSync,broken:=r.1.broken||fK r.1.p.scode},r.1.p.scode)else
 ({r.1 with p:=r.1.p.doSync,t:=doPs r.1.t L},0)
def gH(s:SW):Nat:=((jB s.t).map λL=>aA (bw L).length).sum
inductive kV(R:Int->Prop)(p:DP):DP->Prop
 |refl:kV R p p
 |write {q:DP} {a:Int} {s:List Int}:kV R p q->R a->aS s->kV R p (q.doWrite a s)
 |sync {q:DP}:kV R p q->kV R p q.doSync
def AB(p q:DP)(a:Int):Prop:=(q.fresh a=p.fresh a/\q.sure a=p.sure a)\/(q.fresh a=none/\ci q a=p.get a)
section
variable {R R':Int->Prop}{p q r:DP}{a:Int}
theorem kV.trans(h1:kV R p q)(h2:kV R q r):kV R p r:=by
 induction h2 with
 |refl=>exact h1
 |write _ f g d=>exact d.write f g
 |sync _ d=>exact d.sync
theorem kV.mono(h:kV R p q)(f:∀a,R a->R' a):kV R' p q:=by
 induction h with
 |refl=>exact .refl
 |write _ g i d=>exact d.write (f _ g) i
 |sync _ d=>exact d.sync
theorem AB.get(h:AB p q a):q.get a=p.get a:=by
 rcases h with⟨h1,h2⟩|⟨h1,h2⟩
 ·unfold DP.get;rw[h1,h2]
 ·rw[cG h1,h2]
theorem kV.ok(h:kV R p q)(f:p.Ok):q.Ok/\q.size=p.size:=by
 induction h with
 |refl=>exact⟨f,rfl⟩
 |write _ j g d=>
  refine⟨?_,by rw[DP.doWrite_size];exact d.2⟩;unfold DP.doWrite;split
  ·next i=>
   split
   ·exact d.1.fall
   ·exact d.1.write (of_decide_eq_true i) g
  ·exact d.1
 |sync _ d=>
  refine⟨?_,by rw[DP.doSync_size];exact d.2⟩;unfold DP.doSync;split
  ·exact d.1
  ·exact d.1.sync
theorem AB.sync(h:AB p q a):AB p q.doSync a:=by
 unfold DP.doSync;split
 ·exact h
 ·refine .inr ⟨rfl,?_⟩;rw[<-cG (p:=q.sync) rfl,fb];exact h.get
theorem kV.out(h:kV R p q)(j:¬R a):AB p q a:=by
 induction h with
 |refl=>exact .inl ⟨rfl,rfl⟩
 | @write q b s _ k n d=>
  have f:a≠b:=λe=>j (e▸k)
  unfold DP.doWrite;split
  ·split
   ·exact d
   ·have g:(q.write b s).fresh a=q.fresh a:=by
     show tZ q.burn.fresh b (some s) a=_;unfold tZ;rw[if_neg f];rfl
    have i:(q.write b s).sure a=q.sure a:=rfl;unfold AB ci at d⊢;rw[g,i];exact d
  ·exact d
 |sync _ d=>exact d.sync
theorem lK{s:List Int}(h:p.wcode a=0)(hd:p.down=false):(p.doWrite a s).down=false:=by
 unfold DP.wcode at h;unfold DP.doWrite;split
 ·next f=>
  rw[if_pos f]at h;split
  ·next d=>rw[if_pos d]at h;cases h
  ·exact hd
 ·exact hd
theorem uu:p.doSync.down=p.down:=by unfold DP.doSync;split<;>rfl
end
def vL(l:LG)(a:Int):Prop:=∃x:Nat,x<l.size/\a=fQ l x
section
variable {p q:DP}{l l0:LG}{K:List (List Int)}{su:Nat}{b:List Int}{m:Nat}{T:Nat->Option (List Int)}
theorem nK(p:DP)(l:LG):∀k,l.used+k<=l.size->kV (vL l) p (wipeN p l k).1
 | 0,_=>.refl
 |k+1,f=>by
  have d:=nK p l k (by omega);unfold wipeN;simp only;split
  ·exact d
  ·split
   ·exact d.write ⟨l.used+k,by omega,by unfold fQ;rw[Nat.add_assoc]⟩ bh
   ·exact d
theorem mS(p:DP)(l:LG)(hu:l.used<=l.size):kV (vL l) p (aB p l).1:=by
 have h:=nK p l (l.size-l.used) (by omega);unfold aB;simp only;split
 ·exact h
 ·split
  ·exact h.sync
  ·exact h
theorem qC(p:DP)(l:LG){b:List Int}(d:ba b):∀k,l.used+k<=l.size->kV (vL l) p (writeN p l b k).1
 | 0,_=>.refl
 |k+1,g=>by
  have f:=qC p l d k (by omega);unfold writeN;simp only;split
  ·exact f
  ·exact f.write ⟨l.used+k,by omega,by unfold fQ;rw[Nat.add_assoc]⟩ (LG.sec_ok _ d _)
theorem Dh(p:DP)(l:LG){b:List Int}(d:ba b)(hu:l.used<=l.size):kV (vL l) p (aD p l b).1:=by
 unfold aD;split
 ·exact .refl
 ·split
  ·exact .refl
  ·split
   ·exact .refl
   ·have h:=qC p l d (aA b.length) (by omega);simp only;split<;>exact h
theorem iC.out(h:iC p l0 K su b m T)(o:q.Ok)(hz:q.size=p.size)(n:∀x:Nat,x<l0.size->AB p q (fQ l0 x)):iC q l0 K su b m T:=by
 have f:∀x:Nat,x<l0.size->ci q (fQ l0 x)=ci p (fQ l0 x)\/(T x≠none/\T x=some (ci q (fQ l0 x))):=λx d=>by
  rcases n x d with⟨h1,h2⟩|⟨h1,h2⟩
  ·exact .inl (by unfold ci;rw[h2])
  ·rcases h.fresh x d with g | ⟨g,u⟩
   ·exact .inl (by rw[h2,cG g])
   ·refine .inr ⟨g,?_⟩
    cases hT:T x with
    |none=>exact absurd hT g
    |some S=>rw[h2,h.now x d S hT]
 refine⟨o,by rw[hz];exact h.lok,h.z,h.g0,h.good,h.room,h.part,h.sul,h.tk,λx d=>?_,λx d=>?_,λj k t i hi=>?_,λx d S hS=>?_⟩
 ·rcases n x d with ⟨h1,h2⟩ | ⟨h1,h2⟩
  ·rw[h1];exact h.fresh x d
  ·exact .inl h1
 ·rcases f x d with h1 | ⟨h1,h2⟩
  ·rw[h1];exact h.sure x d
  ·exact .inl h2
 ·have v:=je (l0:=l0) k hi;have d:(chain l0 (K.take j)).used+i<l0.size:=by have:=h.room;omega
  rcases f _ d with h1|⟨h1,h2⟩
  ·rw[h1];exact h.safe j k t i hi
  ·rw[h.tk.recs j k i hi]at h2;injection h2 with h2;exact h2.symm
 ·rw[(n x d).get];exact h.now x d S hS
theorem iC.mark(h:iC p l0 K su b m T){x:Nat}(g:x<l0.size)(o:p.fresh (fQ l0 x)≠none):aU ((p.get (fQ l0 x)).take 4)=l0.gen:=by
 have d:∀(J:List (List Int)) (c:List Int) (i:Nat),aU (((chain l0 J).sec c i).take 4)=l0.gen:=λJ c i=>by
  have n:=Cx (l:=chain l0 J) (b:=c) i;have k:((chain l0 J).sec c i).take 4=(((chain l0 J).sec c i).take 9).take 4:=by rw[List.take_take];rfl
  rw[k,n];unfold LG.hdr;rw[(bG l0 J).2.2.1,List.append_assoc];have:=List.take_left (l₁:=bj 4 l0.gen) (l₂:=bj 4 ((chain l0 J).used+i)++[if i=0 then 1 else 2]);rw[aw]at this;rw[this,iA 4 l0.gen h.lok.gen]
 rcases h.fresh x g with h1|⟨h1,h2⟩
 ·exact absurd h1 o
 ·by_cases hu:x<(chain l0 K).used
  ·obtain⟨j,t,i,hi,e⟩:=uP h.z hu;have f:=h.tk.recs j t i hi;rw[<-e]at f;rw[h.now x g _ f,d]
  ·by_cases hm:x<(chain l0 K).used+m
   ·have f:=h.tk.part (x-(chain l0 K).used) (by omega);rw[show(chain l0 K).used+(x-(chain l0 K).used)=x by omega]at f;rw[h.now x g _ f,d]
   ·exact absurd (h.tk.rest x (by omega)) h1
theorem sm{l:LG}(j:p.Ok)(hd:p.down=false)(y:l.first+l.size<=p.size)(g0:l.gen≠0):∀k,l.used+k<=l.size->(wipeN p l k).2.2=0->
    (wipeN p l k).1.down=false/\(∀i,i<k->jb l.gen ((wipeN p l k).1.get ((l.first+l.used+i:Nat):Int)))/\((wipeN p l k).2.1=false->(wipeN p l k).1=p)
 | 0,_,_=>⟨hd,λi hi=>absurd hi (by omega),λ_=>rfl⟩
 |k+1,B,d=>by
  have f:(wipeN p l k).2.2=0:=by
   refine Classical.byContradiction λg=>?_
   unfold wipeN at d;simp only at d;rw[if_pos g]at d;exact g d
  obtain⟨h1,h2,v⟩:=sm j hd y g0 k (by omega) f;have o:=((nK p l k (by omega)).ok j).2;have t:(wipeN p l k).1.within ((l.first+l.used+k:Nat):Int)=true:=decide_eq_true (by rw[o];omega)
  by_cases n:aU ((sct (wipeN p l k).1 l k).take 4)=l.gen
  ·rw[lq f n]at d⊢;simp only at d⊢
   have u:(wipeN p l k).1.doWrite ((l.first+l.used+k:Nat):Int) az=(wipeN p l k).1.write ((l.first+l.used+k:Nat):Int) az:=by
    unfold DP.doWrite;rw[if_pos t];unfold DP.wcode at d;rw[if_pos t]at d;split
    ·next z=>rw[if_pos z]at d;cases d
    ·rfl
   refine⟨lK d h1,λi hi=>?_,λe=>?_⟩
   ·rw[u,jh]
    by_cases e:i=k
    ·rw[if_pos (by rw[e])];exact yB g0
    ·rw[if_neg (by omega)];exact h2 i (by omega)
   ·rw[if_pos d]at e;cases e
  ·rw[jQ f n];refine⟨h1,λi hi=>?_,v⟩
   by_cases e:i=k
   ·subst e;have:sct (wipeN p l i).1 l i=(wipeN p l i).1.get ((l.first+l.used+i:Nat):Int):=if_pos t;rw[<-this];exact n
   ·exact h2 i (by omega)
theorem vK{a sz g:Nat}(n:p.Ok)(hd:p.down=false)(C:a+sz<=p.size)(F:g<4294967296)(g0:g≠0)
    (G:∀x:Nat,x<sz->p.fresh (fQ (bZ a sz g) x)≠none->aU ((p.get (fQ (bZ a sz g) x)).take 4)=g) (t:(aB p (bZ a sz g)).2=0):
    (aB p (bZ a sz g)).1.down=false/\iC (aB p (bZ a sz g)).1 (bZ a sz g) [] 0 [] 0 (λ_=>none):=by
 have o:=mS p (bZ a sz g) (Nat.zero_le _);obtain⟨y,z⟩:=o.ok n
 have k:(wipeN p (bZ a sz g) sz).2.2=0:=by
  refine Classical.byContradiction λf=>?_
  unfold aB at t;simp only at t;rw[show(bZ a sz g).size-(bZ a sz g).used=sz from rfl,if_pos f]at t;exact f t
 obtain⟨h1,h2,D⟩:=sm (l:=bZ a sz g) n hd C g0 sz (by show 0+sz<=sz;omega) k
 have key:(aB p (bZ a sz g)).1.down=false/\∀x:Nat,x<sz->(aB p (bZ a sz g)).1.fresh (fQ (bZ a sz g) x)=none/\jb g ((aB p (bZ a sz g)).1.get (fQ (bZ a sz g) x)):=by
  have E:∀x:Nat,(((bZ a sz g).first+(bZ a sz g).used+x:Nat):Int)=fQ (bZ a sz g) x:=λx=>rfl
  unfold aB;simp only;rw[show(bZ a sz g).size-(bZ a sz g).used=sz from rfl,if_neg (by rw[k];simp)]
  by_cases B:(wipeN p (bZ a sz g) sz).2.1=true
  ·rw[if_pos B];refine⟨by show(DP.doSync _).down=_;rw[uu];exact h1,λx d=>?_⟩;unfold DP.doSync;rw[if_neg (by rw[h1];simp)];exact⟨rfl,by show jb g (DP.get (DP.sync _) _);rw[fb];exact h2 x d⟩
  ·rw[if_neg B];have e:=D (by simpa using B);refine⟨h1,λx d=>?_⟩;have u:=h2 x d;show(wipeN p (bZ a sz g) sz).1.fresh _=none/\jb g ((wipeN p (bZ a sz g) sz).1.get _);rw[e]at u⊢;refine⟨Classical.byContradiction λf=>u (G x d f),u⟩
 refine⟨key.1,⟨y,fv (by rw[z];exact C) F,rfl,g0,λx d=>(by cases d),Nat.zero_le _,.inl rfl,Nat.le_refl _,⟨λj v=>absurd v (by simp),λi hi=>absurd hi (by omega),λ_ _=>rfl⟩,λx d=>.inl (key.2 x d).1,λx d=>.inr ?_,λj v=>absurd v (by simp),λx d S hS=>(by cases hS)⟩⟩;rw[<-cG (key.2 x d).1];exact(key.2 x d).2
end
structure ki(T:CT):Prop where
 nd:(T.map Prod.fst).Nodup
 el:∀e∈T,(1<=e.1.length/\e.1.length<=16/\ba e.1)/\e.2.length<=16384/\ba e.2
def Dc(c:PC):Prop:=ba c.k/\ba c.v
section
variable {T T':CT}{c:PC}{L:List PC}
theorem ki.kn(h:ki T):Kn T:=⟨h.nd,λe d=>(h.el e d).1.2.2⟩
theorem ki.perm(h:ki T)(d:T.Perm T'):ki T':=⟨((d.map Prod.fst).nodup_iff).1 h.nd,λe f=>h.el e (d.mem_iff.2 f)⟩
theorem ki.nil:ki []:=⟨by simp,λe d=>by cases d⟩
theorem ki.sct(h:ki T):ki (aI T):=h.perm (dU T).symm
theorem rO(h:lx c=true):1<=c.k.length/\c.k.length<=16/\c.v.length<=16384/\(c.d=true->c.v.length=0):=by
 unfold lx at h;simp only[Bool.and_eq_true,decide_eq_true_eq,Bool.not_eq_true',Bool.and_eq_false_iff]at h;obtain⟨⟨⟨h1,h2⟩,f⟩,d⟩:=h;refine⟨h1,h2,f,λhd=>?_⟩;rcases d with d|d
 ·rw[hd]at d;cases d
 ·have:=of_decide_eq_false d;omega
theorem jH(h:dN L=true):1<=L.length/\L.length<=600/\∀c∈L,lx c=true:=by
 unfold dN at h;simp only[Bool.and_eq_true,decide_eq_true_eq,List.all_eq_true]at h;exact⟨h.1.1,h.1.2,h.2⟩
theorem ki.doP(h:ki T)(i:lx c=true)(f:Dc c):ki (doP T c):=by
 obtain⟨h1,h2,g,-⟩:=rO i;unfold Go.Proofs.YtfchcdbfalgdlaaGreatDoor.doP;split
 ·exact⟨(h.kn.del c.k).nd,λe d=>h.el e (List.mem_filter.1 d).1⟩
 ·refine ⟨(h.kn.put (k:=c.k) (v:=c.v) f.1).nd,λe d=> ?_⟩;rcases List.mem_append.1 d with d | d
  ·exact h.el e (List.mem_filter.1 d).1
  ·rw[List.mem_singleton.1 d];exact⟨⟨h1,h2,f.1⟩,g,f.2⟩
theorem ki.doPs:∀{L:List PC} {T:CT},ki T->(∀c∈L,lx c=true)->(∀c∈L,Dc c)->ki (doPs T L)
 | [],_,h,_,_=>h
 |c::L,T,h,h1,h2=>ki.doPs (L:=L) (h.doP (h1 c (List.mem_cons_self ..)) (h2 c (List.mem_cons_self ..))) (λx d=>h1 x (List.mem_cons_of_mem _ d)) (λx d=>h2 x (List.mem_cons_of_mem _ d))
theorem Bk(h:T.Perm T')(c:PC):(doP T c).Perm (doP T' c):=by
 unfold doP qG lH;split
 ·exact h.filter _
 ·exact(h.filter _).append (List.Perm.refl _)
theorem rl:∀(L:List PC) {T T':CT},T.Perm T'->(doPs T L).Perm (doPs T' L)
 | [],_,_,h=>h
 |c::L,_,_,h=>rl L (Bk h c)
theorem Bl(T:CT)(L M:List PC):doPs T (L++M)=doPs (doPs T L) M:=List.foldl_append ..
theorem rn:∀(P T:CT),((T++P).map Prod.fst).Nodup->doPs T (P.map AD)=T++P
 | [],T,_=>by simp[doPs]
 |e::P,T,h=>by
  have d:e.1∉T.map Prod.fst:=λhm=>by
   rw[List.map_append,List.nodup_append]at h;exact h.2.2 e.1 hm e.1 (by simp) rfl
  have h1:doP T (AD e)=T++[e]:=by
   unfold doP AD qG;simp only[Bool.false_eq_true,if_false];rw[zg d]
  have h2:=rn P (T++[e]) (by rw[List.append_assoc];exact h);show doPs (doP T (AD e)) (P.map AD)=_;rw[h1,h2,List.append_assoc];rfl
def Fe(c:PC):Ch:=⟨⟨none,c.k.length,0,c.k⟩,⟨none,c.v.length,0,c.v⟩,c.d⟩
theorem pf(L:List PC):(L.map Fe).map cK=L:=by
 rw[List.map_map];exact List.map_id _
theorem pd(L:List PC):ko (L.map Fe):=λc d=>by
 obtain⟨x,-,rfl⟩:=List.mem_map.1 d;exact⟨rfl,rfl⟩
theorem pM(h:dN L=true):eG (bw L)=some L:=by
 have h1:=gE (pd L);rw[pf]at h1;have h2:bY (L.map Fe)=true:=by rw[<-fE (pd L),pf];exact h
 rw[<-h1,zP (pd L) h2,pf]
theorem Dp(f:Dc c):ba (EJ c):=by
 intro x d;unfold EJ at d;simp only[List.mem_append,List.mem_singleton]at d;rcases d with((d|d)|d)|d
 ·rw[d];split<;>omega
 ·exact eQ _ _ x d
 ·exact f.1 x d
 ·split at d
  ·cases d
  ·rcases List.mem_append.1 d with d | d
   ·exact eQ _ _ x d
   ·exact f.2 x d
theorem jo(f:∀c∈L,Dc c):ba (bw L):=by
 intro x d;unfold bw at d;rcases List.mem_append.1 d with d|d
 ·exact eQ _ _ x d
 ·obtain⟨c,g,d⟩:=List.mem_flatMap.1 d;exact Dp (f c g) x d
theorem Ff(c:PC):(EJ c).length<=5+c.k.length+c.v.length:=by
 unfold EJ;simp only[List.length_append,aw,List.length_cons,List.length_nil];split<;>simp[aw]<;>omega
theorem DW(L:List PC):(bw L).length<=2+(L.map λc=>5+c.k.length+c.v.length).sum:=by
 unfold bw;rw[List.length_append,aw]
 induction L with
 |nil=>simp
 |cons c L d=>
  have:=Ff c;rw[List.flatMap_cons,List.length_append,List.map_cons,List.sum_cons];omega
theorem mF(L:List PC):2<=(bw L).length:=by unfold bw;rw[List.length_append,aw];omega
theorem El{α:Type}(f:α->Nat)(L:List α):∀l∈jt (mP f L),(l.map f).sum<=8190\/∃y,l=[y]:=by
 suffices h:∀(s:Option (List (List α)×List α)),(∀l∈jt s,(l.map f).sum<=8190\/∃y,l=[y])->∀l∈jt (L.foldl (oL f) s),(l.map f).sum<=8190\/∃y,l=[y]from h none (by simp[jt])
 induction L with
 |nil=>intro s h;exact h
 |cons y L i=>
  intro s h;rw[List.foldl_cons];refine i _ ?_;rcases s with _|⟨C,l⟩
  ·simp[oL,jt]
  ·simp only [oL];have g:∀x∈C,(x.map f).sum<=8190\/∃y,x= [y]:=λx d=>h x (by simp [jt,d])
   have hl:=h l (by simp[jt]);split
   ·next j=>
    intro x d;simp only[jt,List.mem_append,List.mem_singleton]at d;rcases d with d|rfl
    ·exact g x d
    ·exact .inl (by simp;omega)
   ·intro x d;simp only [jt,List.mem_append,List.mem_singleton] at d;rcases d with (d | rfl) | rfl
    ·exact g x d
    ·exact hl
    ·exact .inr ⟨_,rfl⟩
theorem ku(h:ki T):∀L∈jB T,dN L=true/\(∀c∈L,Dc c)/\(bw L).length<=65536:=by
 intro L t;obtain⟨r,n,rfl⟩:=List.mem_map.1 t
 have j:∀e∈r,e∈aI T:=λe d=>by
  rw[<-jv CZ (aI T)];exact List.mem_flatten.2 ⟨r,n,d⟩
 have f:=λe d=>h.sct.el e (j e d)
 have i:=CD CZ _ r n;refine⟨?_,λc k=>?_,?_⟩
 ·unfold dN;simp only[Bool.and_eq_true,decide_eq_true_eq,List.all_eq_true,List.length_map];refine⟨i,λc k=>?_⟩;obtain⟨e,d,rfl⟩:=List.mem_map.1 k;obtain⟨⟨h1,h2,-⟩,o,-⟩:=f e d;unfold lx AD;simp only[Bool.false_and,Bool.not_false,Bool.and_true,Bool.and_eq_true,decide_eq_true_eq];exact⟨⟨h1,h2⟩,o⟩
 ·obtain⟨e,d,rfl⟩:=List.mem_map.1 k;obtain⟨⟨-,-,h1⟩,-,h2⟩:=f e d;exact⟨h1,h2⟩
 ·have g:=DW (r.map AD);have u:((r.map AD).map λc=>5+c.k.length+c.v.length).sum=(r.map CZ).sum:=by rw [List.map_map];rfl
  rw[u]at g;rcases El CZ _ r n with h1|⟨y,rfl⟩
  ·omega
  ·obtain⟨⟨h1,h2,-⟩,o,-⟩:=f y (by simp);simp only[List.map_cons,List.map_nil,List.sum_cons,List.sum_nil,CZ]at g;show(bw [AD y]).length<=65536;omega
theorem tH{b:List Int}(h1:1<=b.length)(h2:b.length<=65536)(d:ba b):ig b:=⟨by rw[yR h1 h2];omega,d⟩
theorem Dj(h:ki T):∀b∈(jB T).map bw,ig b:=λb g=>by
 obtain⟨L,f,rfl⟩:=List.mem_map.1 g;obtain⟨h1,h2,d⟩:=ku h L f;exact tH (by have:=mF L;omega) d (jo h2)
theorem AX(T:CT):(jB T).flatten=(aI T).map AD:=by
 unfold jB;rw[<-List.map_flatten,jv]
theorem nZ:∀(d:List (List PC)) (T:CT),(∀L∈d,dN L=true)->bR T (d.map bw)=some (doPs T d.flatten)
 | [],T,_=>rfl
 |L::d,T,h=>by
  rw[List.map_cons];unfold bR;rw[pM (h L (List.mem_cons_self ..))];simp only;rw[nZ d (doPs T L) λx f=>h x (List.mem_cons_of_mem _ f),List.flatten_cons,Bl]
theorem wQ(h:ki T):bR [] ((jB T).map bw)=some (aI T):=by
 rw[nZ _ _ λL d=>(ku h L d).1,AX,rn (aI T) [] h.sct.nd];rfl
theorem oa:∀(K:List (List Int)) (T:CT) {d:CT} {L:List PC},bR T K=some d->dN L=true->bR T (K++[bw L])=some (doPs d L)
 | [],T,d,L,h,f=>by
  injection h with h;subst h;show bR T [bw L]=_;unfold bR;rw[pM f];rfl
 |b::K,T,d,L,h,f=>by
  unfold bR at h;rw[List.cons_append];unfold bR
  cases hp:eG b with
  |none=>rw[hp]at h;cases h
  |some M=>rw[hp]at h;exact oa K (doPs T M) h f
end
structure jz(s:SW)(K:List (List Int)):Prop where
 ok:s.p.Ok
 n4:4<=s.p.size
 g1:1<=s.gen
 g2:s.gen<4294967296
 man:s.p.fresh ((s.gen%2:Nat):Int)=none/\ci s.p ((s.gen%2:Nat):Int)=dx s.gen
 oth:s.p.fresh (((s.gen+1)%2:Nat):Int)=none/\(ci s.p (((s.gen+1)%2:Nat):Int)=az\/∃g,g<s.gen/\ci s.p (((s.gen+1)%2:Nat):Int)=dx g)
 log:s.l={chain (aW s.p.size s.gen) K with broken:=s.l.broken}
 lb:s.broken=false->s.l.broken=false
 inv:∃b m T,(m=0\/m<aA b.length)/\(s.broken=false->m=0)/\iC s.p (aW s.p.size s.gen) K K.length b m T
 rest:s.broken=false->∀x:Nat,x<hlf s.p.size->s.p.fresh (fQ (aW s.p.size (s.gen+1)) x)≠none->aU ((s.p.get (fQ (aW s.p.size (s.gen+1)) x)).take 4)=s.gen+1
 up:s.broken=false->s.p.down=false
 tab:∃t,bR [] K=some t/\t.Perm s.t
 tok:ki s.t
theorem gP{n g a:Nat}(d:a<2):¬vL (aW n g) (a:Int):=λ⟨x,f,e⟩=>by
 unfold fQ at e;have:2<=(aW n g).first:=by show 2<=gj g n;unfold gj;omega
 omega
theorem zX{n g g':Nat}(h:g%2≠g'%2){x:Nat}(f:x<hlf n):¬vL (aW n g') (fQ (aW n g) x):=λ⟨y,i,e⟩=>by
 have h1:=ww (n:=n) h f (show y<hlf n from i);unfold fQ at e
 have d:gj g n+x=gj g' n+y:=by
  have:(((aW n g).first+x:Nat):Int)=(((aW n g').first+y:Nat):Int):=e;exact Int.ofNat.inj this
 exact h1 d
theorem fC{p q:DP}{a:Int}(h:AB p q a)(d:p.fresh a=none):q.fresh a=none/\ci q a=ci p a:=by
 rcases h with⟨h1,h2⟩|⟨h1,h2⟩
 ·exact⟨by rw[h1];exact d,by unfold ci;rw[h2]⟩
 ·exact⟨h1,by rw[h2,cG d]⟩
section
variable {s:SW}{K:List (List Int)}{q:DP}
theorem jz.away(h:jz s K)(d:q.Ok)(hz:q.size=s.p.size)(g:∀a,¬vL (aW s.p.size (s.gen+1)) a->AB s.p q a)(i:Bool)
    (f:i=false->s.broken=false/\q.down=false/\∀x:Nat,x<hlf s.p.size->q.fresh (fQ (aW s.p.size (s.gen+1)) x)≠none->aU ((q.get (fQ (aW s.p.size (s.gen+1)) x)).take 4)=s.gen+1):
    jz {s with p:=q,broken:=i} K:=by
 have j:=fC (g _ (gP (a:=s.gen%2) (by omega))) h.man.1;have k:=fC (g _ (gP (a:=(s.gen+1)%2) (by omega))) h.oth.1;obtain⟨b,m,T,h1,h2,n⟩:=h.inv;refine⟨d,by show 4<=q.size;rw[hz];exact h.n4,h.g1,h.g2,⟨j.1,j.2.trans h.man.2⟩,⟨k.1,by rw[show ci q _=_ from k.2];exact h.oth.2⟩,?_,λe=>h.lb (f e).1,⟨b,m,T,h1,λe=>h2 (f e).1,?_⟩,λe=>?_,λe=>(f e).2.1,h.tab,h.tok⟩
 ·show s.l={chain (aW q.size s.gen) K with broken:=s.l.broken}
  rw[hz];exact h.log
 ·show iC q (aW q.size s.gen) K K.length b m T;rw[hz];exact n.out d hz λx o=>g _ (zX (by omega) o)
 ·show ∀x:Nat,x<hlf q.size->q.fresh (fQ (aW q.size (s.gen+1)) x)≠none->_;rw[hz];exact(f e).2.2
theorem jz.g0(h:jz s K):s.gen≠0:=by have:=h.g1;omega
theorem mu{p:DP}(h:p.Ok)(keep:List Bool){a:Int}(d:p.fresh a=none):(p.cut keep).get a=ci p a:=by
 have e:(p.cut keep).get a=(cutS p keep p.order.length a).getD az:=rfl;rw[e];rcases sR h keep p.order.length (Nat.le_refl _) a with h1|⟨h1,-⟩
 ·rw[h1];rfl
 ·exact absurd d h1
theorem yv{p:DP}{a g:Nat}(f:a<p.size)(d:p.get (a:Int)=dx g)(h:g<4294967296):iW p a=if g%2=a then g else 0:=by
 have e:p.rget (a:Int)=dx g:=by
  unfold DP.rget DP.within;rw[decide_eq_true ⟨by omega,by omega⟩,if_pos rfl];exact d
 unfold iW;rw[e,BE h];simp
theorem Fz{p:DP}{a:Nat}(f:a<p.size)(d:p.get (a:Int)=az):iW p a=0:=by
 have e:p.rget (a:Int)=az:=by
  unfold DP.rget DP.within;rw[decide_eq_true ⟨by omega,by omega⟩,if_pos rfl];exact d
 unfold iW;rw[e];have:aU (az.take 4)=0:=rfl;rw[this];split<;>rfl
theorem Fh{p:DP}{g:Nat}(j:4<=p.size)(h:g<4294967296)(h1:p.get ((g%2:Nat):Int)=dx g)(h2:p.get (((g+1)%2:Nat):Int)=az\/∃g',g'<g/\p.get (((g+1)%2:Nat):Int)=dx g'):jC p=g:=by
 have a1:iW p (g%2)=g:=by rw[yv (by omega) h1 h,if_pos rfl]
 have f:iW p ((g+1)%2)<=g:=by
  rcases h2 with h2|⟨g',i,h2⟩
  ·rw[Fz (by omega) h2];omega
  ·rw[yv (by omega) h2 (by omega)];split<;>omega
 unfold jC;have d:g%2=0\/g%2=1:=by omega
 rcases d with d|d
 ·rw[d]at a1;rw[show(g+1)%2=1 by omega]at f;rw[a1];exact Nat.max_eq_left f
 ·rw[d]at a1;rw[show(g+1)%2=0 by omega]at f;rw[a1];exact Nat.max_eq_right f
theorem jz.open_(h:jz s K)(keep:List Bool):∃g,opnS (s.p.cut keep)=(g.p,0,some g)/\jz g K/\g.gen=s.gen/\g.broken=false/\g.t.Perm s.t/\g.p.size=s.p.size:=by
 obtain⟨b,m,T,h1,-,z⟩:=h.inv;have B:=z.cut h1 keep;have hz:(s.p.cut keep).size=s.p.size:=rfl
 have I:jC (s.p.cut keep)=s.gen:=by
  refine Fh (by rw[hz];exact h.n4) h.g2 (by rw[mu h.ok keep h.man.1];exact h.man.2) ?_;rw[mu h.ok keep h.oth.1];exact h.oth.2
 obtain⟨j,O,P,C,M⟩:=B.run;have J:j=K.length:=by omega
 subst J;rw[List.take_length]at C;obtain⟨N,n,y,o⟩:=B.wipe (Nat.le_refl _) M;rw[List.take_length]at N n y o;obtain⟨t,t1,t2⟩:=h.tab;obtain⟨q,v⟩:=nM ((aB (s.p.cut keep) (chain (aW s.p.size s.gen) K)).1)
 have i:kV (vL (chain (aW s.p.size s.gen) K)) (s.p.cut keep) q:=by
  rw[v];refine mS _ _ ?_;rw[(bG _ K).2.1];exact z.room
 rw[<-v]at n y o
 have k:∀a,vL (chain (aW s.p.size s.gen) K) a->vL (aW s.p.size s.gen) a:=λa ⟨x,u,e⟩=>by
  rw[(bG _ K).2.1]at u;unfold fQ at e;rw[(bG _ K).1]at e;exact⟨x,u,e⟩
 have f:=λa H=>(i.mono k).out (a:=a) H
 have d:q.size=s.p.size:=y;obtain⟨T',o⟩:∃T',iC q (aW s.p.size s.gen) K K.length [] 0 T':=⟨_,o⟩
 have D:=fC (f _ (gP (a:=s.gen%2) (by omega))) rfl;have E:=fC (f _ (gP (a:=(s.gen+1)%2) (by omega))) rfl;have F:ci (s.p.cut keep) ((s.gen%2:Nat):Int)=dx s.gen:=by rw[<-cG (p:=s.p.cut keep) rfl,mu h.ok keep h.man.1];exact h.man.2
 have G:ci (s.p.cut keep) (((s.gen+1)%2:Nat):Int)=ci s.p (((s.gen+1)%2:Nat):Int):=by rw[<-cG (p:=s.p.cut keep) rfl,mu h.ok keep h.oth.1]
 refine⟨⟨q,chain (aW s.p.size s.gen) K,t,s.gen,false⟩,?_,?_,rfl,rfl,t2,d⟩
 ·unfold opnS;rw[if_neg (by rw[hz];have:=h.n4;omega),I,if_neg h.g0];simp only;rw[show(s.p.cut keep).size=s.p.size from rfl,C];simp only;rw[t1,<-v]
 ·refine⟨n.ok,by show 4<=q.size;rw[d];exact h.n4,h.g1,h.g2,⟨D.1,D.2.trans F⟩,⟨E.1,by rw[show ci q _=_ from E.2,G];exact h.oth.2⟩,?_,λ_=>?_,⟨[],0,T',.inl rfl,λ_=>rfl,?_⟩,λ_ x _ u=>absurd (n.fresh _) u,λ_=>n.up,⟨t,t1,List.Perm.refl _⟩,h.tok.perm t2.symm⟩
  ·show chain (aW s.p.size s.gen) K={chain (aW q.size s.gen) K with broken:=(chain (aW s.p.size s.gen) K).broken}
   rw[d]
  ·show(chain (aW s.p.size s.gen) K).broken=false;rw[(bG _ K).2.2.2];rfl
  ·show iC q (aW q.size s.gen) K K.length [] 0 _;rw[d];exact o
end
section
variable {p q:DP}{l l0:LG}{b:List Int}{a:Int}
theorem nI(h:p.wcode a≠0):fK (p.wcode a)=true:=by
 unfold DP.wcode at h⊢;split
 ·next h1=>
  rw[if_pos h1]at h;split
  ·rfl
  ·next h2=>rw[if_neg h2]at h;exact absurd rfl h
 ·rfl
theorem qv(p:DP)(l:LG):∀k,(wipeN p l k).2.2≠0->fK (wipeN p l k).2.2=true
 | 0,h=>absurd rfl h
 |k+1,h=>by
  unfold wipeN at h⊢;simp only at h⊢;split
  ·next h1=>exact qv p l k h1
  ·next h1=>
   rw[if_neg h1]at h;split
   ·next h2=>rw[if_pos h2]at h;exact nI h
   ·next h2=>rw[if_neg h2]at h;exact absurd h h1
theorem At(h:(aB p l).2≠0):fK (aB p l).2=true:=by
 unfold aB at h⊢;simp only at h⊢;split
 ·next h1=>exact qv p l _ h1
 ·next h1=>
  rw[if_neg h1]at h;split
  ·next h2=>
   rw[if_pos h2]at h;show fK (DP.scode _)=true;have h:(wipeN p l (l.size-l.used)).1.scode≠0:=h;unfold DP.scode at h⊢;split
   ·rfl
   ·next d=>rw[if_neg d]at h;exact absurd rfl h
  ·next h2=>rw[if_neg h2]at h;exact absurd rfl h
theorem om(p:DP)(l:LG)(b:List Int):∀k,(writeN p l b k).2≠0->fK (writeN p l b k).2=true
 | 0,h=>absurd rfl h
 |k+1,h=>by
  unfold writeN at h⊢;simp only at h⊢;split
  ·next h1=>exact om p l b k h1
  ·next h1=>rw[if_neg h1]at h;exact nI h
theorem sq(hd:p.down=false)(l:LG)(b:List Int):∀k,(writeN p l b k).2=0->(writeN p l b k).1.down=false
 | 0,_=>hd
 |k+1,h=>by
  unfold writeN at h⊢;simp only at h⊢;split
  ·next h1=>rw[if_pos h1]at h;exact absurd h h1
  ·next h1=>
   rw[if_neg h1]at h;exact lK h (sq hd l b k (by simpa using h1))
theorem kr(p:DP)(l:LG)(b:List Int):((aD p l b).2.2=0/\(aD p l b).2.1=l.step b/\(p.down=false->(aD p l b).1.down=false))\/aD p l b=(p,l,8)\/fK (aD p l b).2.2=true:=by
 unfold aD;split
 ·exact .inr (.inr rfl)
 ·split
  ·exact .inr (.inr rfl)
  ·split
   ·exact .inr (.inl rfl)
   ·simp only;split
    ·next h=>exact .inr (.inr (om p l b _ h))
    ·next h=>exact .inl ⟨rfl,rfl,λhd=>sq hd l b _ (by simpa using h)⟩
theorem St.chain{K:List (List Int)}{su:Nat}(h:St p l l0 K su)(d:l.broken=false)(h0:l0.broken=false):l=chain l0 K:=by
 have e:=h.log;rw[d,<-h0,<-(bG l0 K).2.2.2]at e;exact e
theorem St.bare{K:List (List Int)}{su:Nat}(h:St p l l0 K su)(f:l.broken=false):∃T,iC p l0 K su [] 0 T:=by
 obtain⟨b,m,T,-,h2,d⟩:=h.inv;obtain rfl:=h2 f;exact⟨T,d.bare []⟩
theorem lY{K:List (List Int)}{su:Nat}(h:St p l l0 K su)(j:ba b):kV (vL l0) p (aD p l b).1:=by
 obtain⟨c,m,T,-,-,i⟩:=h.inv;have hl:=h.log;have d:l.size=l0.size:=by rw[hl];exact(bG l0 K).2.1
 have f:l.first=l0.first:=by rw[hl];exact(bG l0 K).1
 have g:l.used=(Go.Proofs.YtfchcdbfalgdlaaGreatDoor.chain l0 K).used:=by rw[hl]
 refine(Dh p l j (by rw[d,g];exact i.room)).mono λa ⟨x,k,e⟩=>⟨x,by rw[<-d];exact k,by rw[e];unfold fQ;rw[f]⟩
theorem um(h0:l0.broken=false):∀(bs:List (List Int)) (d:List (List Int)) (p:DP) (l:LG),(∀b∈bs,ig b)->p.down=false->St p l l0 d 0->l.broken=false->
    kV (vL l0) p (eb p l bs).1/\(((eb p l bs).2.2=0/\(eb p l bs).1.down=false/\(eb p l bs).2.1=chain l0 (d++bs)/\∃T,iC (eb p l bs).1 l0 (d++bs) 0 [] 0 T)\/
     ((eb p l bs).2.2=8/\(eb p l bs).1.down=false/\∃v T,iC (eb p l bs).1 l0 v 0 [] 0 T)\/((eb p l bs).2.2≠0/\fK (eb p l bs).2.2=true))
 | [],d,p,l,_,hd,hS,g=>by
  refine⟨.refl,.inl ⟨rfl,hd,?_,?_⟩⟩
  ·rw[List.append_nil];exact hS.chain g h0
  ·rw[List.append_nil];exact hS.bare g
 |b::bs,d,p,l,u,hd,hS,g=>by
  have j:=u b (List.mem_cons_self ..);have f:=lY hS j.2;have n:=hS.app h0 j.2;rcases kr p l b with⟨t,c2,y⟩|c|c
  ·have e:eb p l (b::bs)=eb (aD p l b).1 (aD p l b).2.1 bs:=by
    show(if(aD p l b).2.2≠0 then aD p l b else _)=_;rw[if_neg (by rw[t];simp)]
   rw[e]
   have k:St (aD p l b).1 (aD p l b).2.1 l0 (d++[b]) 0:=by
    rcases n with⟨-,h⟩|⟨h,-⟩
    ·exact h
    ·exact absurd t h
   have o:=um h0 bs (d++[b]) _ _ (λx B=>u x (List.mem_cons_of_mem _ B)) (y hd) k (by rw[c2];exact g);rw[List.append_assoc]at o;exact⟨f.trans o.1,o.2⟩
  ·have e:eb p l (b::bs)=(p,l,8):=by
    show(if(aD p l b).2.2≠0 then aD p l b else _)=_;rw[c,if_pos (show(8:Int)≠0 by decide)]
   rw[e];obtain⟨T,z⟩:=hS.bare g;exact⟨.refl,.inr (.inl ⟨rfl,hd,d,T,z⟩)⟩
  ·have i:(aD p l b).2.2≠0:=λe=>by rw [e] at c;cases c
   have e:eb p l (b::bs)=aD p l b:=by
    show(if(aD p l b).2.2≠0 then aD p l b else _)=_;rw[if_pos i]
   rw[e];exact⟨f,.inr (.inr ⟨i,c⟩)⟩
theorem sW{s:List Int}(h:p.wcode a≠0):(p.doWrite a s).fresh=p.fresh/\(p.doWrite a s).sure=p.sure/\(p.Ok->(p.doWrite a s).Ok):=by
 unfold DP.wcode at h;unfold DP.doWrite;split
 ·next h1=>
  rw[if_pos h1]at h;split
  ·exact⟨rfl,rfl,λh=>h.fall⟩
  ·next h2=>rw[if_neg h2]at h;exact absurd rfl h
 ·exact⟨rfl,rfl,λh=>h⟩
theorem iI{s:List Int}(h:p.wcode a=0)(x:Int):(p.doWrite a s).get x=if x=a then s else p.get x:=by
 unfold DP.wcode at h;unfold DP.doWrite;split
 ·next h1=>
  rw[if_pos h1]at h;split
  ·next h2=>rw[if_pos h2]at h;cases h
  ·exact jh ..
 ·next h1=>rw[if_neg h1]at h;cases h
end
section
variable {s:SW}{K:List (List Int)}
theorem jz.sweep(h:jz s K)(S:s.broken=false)(hg:s.gen+1<4294967296):∃K',jz (aN s).1 K'/\(aN s).1.t=s.t/\(aN s).1.p.size=s.p.size/\
    (((aN s).2=0/\(aN s).1.broken=false/\(aN s).1.gen=s.gen+1)\/((aN s).2≠0/\(aN s).1.broken=fK (aN s).2/\(aN s).1.gen=s.gen)):=by
 have G:=fk (g:=s.gen+1) h.n4;have H:s.gen≠4294967295:=by omega
 obtain⟨l0,d⟩:=nM (aW s.p.size (s.gen+1));obtain⟨r,U⟩:=nM (aB s.p l0);have o:kV (vL l0) s.p r.1:=by rw[U];exact mS _ _ (by rw[d];exact Nat.zero_le _)
 have y:∀(q:DP) (c:Int),c≠0->q.Ok->q.size=s.p.size->(∀a,¬vL l0 a->AB s.p q a)->(fK c=false->q.down=false/\∀x:Nat,x<hlf s.p.size->q.fresh (fQ l0 x)≠none->aU ((q.get (fQ l0 x)).take 4)=s.gen+1)->
     (aN s)=({s with p:=q,broken:=fK c},c)->∃K',jz (aN s).1 K'/\(aN s).1.t=s.t/\(aN s).1.p.size=s.p.size/\
      (((aN s).2=0/\(aN s).1.broken=false/\(aN s).1.gen=s.gen+1)\/((aN s).2≠0/\(aN s).1.broken=fK (aN s).2/\(aN s).1.gen=s.gen)):=by
  intro q c hc b8 hz ho hk e;rw[e];refine⟨K,h.away b8 hz (by rw[<-d];exact ho) (fK c) (λB=>⟨S,(hk B).1,by rw[<-d];exact(hk B).2⟩),rfl,hz,.inr ⟨hc,rfl,rfl⟩⟩
 have E:∀x,dD s=x->x.2.2≠0->aN s=({s with p:=x.1,broken:=fK x.2.2},x.2.2):=λx e k=>by
  unfold aN;rw[if_neg (by rw[S];simp),if_neg H,e];simp only;rw[if_pos k]
 by_cases F:r.2=0
 case neg=>
  have e:dD s=(r.1,l0,r.2):=by
   unfold dD;simp only;rw[<-d,<-U,if_pos F]
  obtain⟨o1,o2⟩:=o.ok h.ok;have B:fK r.2=true:=by rw[U]at F⊢;exact At F
  exact y r.1 r.2 F o1 o2 (λa ha=>o.out ha) (λe=>by rw[B]at e;cases e) (E _ e F)
 obtain⟨d1,d2⟩:r.1.down=false/\iC r.1 l0 [] 0 [] 0 (λ_=>none):=by
  rw[U,d];refine vK h.ok (h.up S) G.2.1 hg (by omega) (h.rest S) ?_;rw[U,d]at F;exact F
 obtain⟨bs,J⟩:=nM ((jB s.t).map bw);have b3:∀b∈bs,ig b:=by rw[J];exact Dj h.tok
 have n:l0.broken=false:=by rw[d];rfl
 have z:=um n bs [] r.1 l0 b3 d1 ⟨rfl,[],0,_,.inl rfl,λ_=>rfl,d2⟩ n;obtain⟨a,ha⟩:=nM (eb r.1 l0 bs);rw[<-ha,List.nil_append]at z;obtain⟨b0,z⟩:=z;have D:=o.trans b0;obtain⟨o1,o2⟩:=D.ok h.ok
 have i:dD s=if a.2.2≠0 then a else if a.1.scode≠0 then(a.1.doSync,a.2.1,a.1.scode)else((bU a.1.doSync (s.gen+1)).1,a.2.1,(bU a.1.doSync (s.gen+1)).2):=by
  unfold dD;simp only;rw[<-d,<-U,if_neg (by rw[F];simp),<-J,<-ha]
 rcases z with⟨c2,d3,d4,T,hT⟩|⟨c2,d3,K2,T,hT⟩|⟨c2,v⟩
 ·
  have b9:a.1.scode=0:=by unfold DP.scode;rw[d3];rfl
  have Y:a.1.doSync=a.1.sync:=by unfold DP.doSync;rw[d3];rfl
  rw[if_neg (by rw[c2];simp),if_neg (by rw[b9];simp),Y]at i;have X:=hT.sync;have f:kV (vL l0) s.p a.1.sync:=by rw[<-Y];exact D.sync
  obtain⟨u,N⟩:=nM (a.1.sync);rw[<-N]at i X f;have c':∀x,u.fresh x=none:=λx=>by rw[N];rfl
  have b7:u.down=false:=by rw[N];exact d3
  obtain⟨p1,p2⟩:=f.ok h.ok
  by_cases v:u.wcode (((s.gen+1)%2:Nat):Int)=0
  case neg=>
   have e:dD s=(u.doWrite (((s.gen+1)%2:Nat):Int) (dx (s.gen+1)),a.2.1,u.wcode (((s.gen+1)%2:Nat):Int)):=by
    rw[i];unfold bU;rw[if_pos v]
   obtain⟨f1,f2,f3⟩:=sW (s:=dx (s.gen+1)) v;refine y _ _ v (f3 p1) (by rw[DP.doWrite_size];exact p2) (λx k=>?_) (λe=>by rw[nI v]at e;cases e) (E _ e v);have V:=f.out k;unfold AB ci at V⊢;rw[f1,f2];exact V
  ·have M:=lK (s:=dx (s.gen+1)) v b7;obtain⟨j,O⟩:=nM ((u.doWrite (((s.gen+1)%2:Nat):Int) (dx (s.gen+1))).doSync)
   have e:dD s=(j,a.2.1,0):=by
    rw[i];unfold bU;rw[if_neg (by rw[v];simp),<-O];have:(u.doWrite (((s.gen+1)%2:Nat):Int) (dx (s.gen+1))).scode=0:=by unfold DP.scode;rw[M];rfl
    rw[this]
   have I:kV (λx=>x=(((s.gen+1)%2:Nat):Int)) u j:=by rw[O];exact(kV.write (R:=λx=>x=(((s.gen+1)%2:Nat):Int)) kV.refl rfl (fN (s.gen+1))).sync
   obtain⟨r1,r2⟩:=I.ok p1;have hz:j.size=s.p.size:=r2.trans p2;have P:j=(u.doWrite (((s.gen+1)%2:Nat):Int) (dx (s.gen+1))).sync:=by rw[O];unfold DP.doSync;rw[M];rfl
   have C:∀x,j.fresh x=none:=λx=>by rw[P];rfl
   have Z:∀x,ci j x=if x=(((s.gen+1)%2:Nat):Int)then dx (s.gen+1)else u.get x:=λx=>by
    rw[<-cG (C x),P,fb,iI v]
   have e2:aN s=({s with p:=j,l:=a.2.1,gen:=s.gen+1},0):=by
    unfold aN;rw[if_neg (by rw[S];simp),if_neg H,e];simp only;rw[if_neg (by simp)]
   rw[e2]
   have b':u.get ((s.gen%2:Nat):Int)=dx s.gen:=by
    have V:=fC (f.out (by rw[d];exact gP (a:=s.gen%2) (by omega))) h.man.1;rw[cG V.1,V.2];exact h.man.2
   have b1:(s.gen+1+1)%2=s.gen%2:=by omega
   refine⟨bs,⟨r1,by show 4<=j.size;rw[hz];exact h.n4,by show 1<=s.gen+1;omega,hg,⟨C _,by rw[show ci _ _=_ from Z _,if_pos rfl]⟩,⟨C _,.inr ⟨s.gen,by show s.gen<s.gen+1;omega,?_⟩⟩,?_,λ_=>?_,⟨[],0,T,.inl rfl,λ_=>rfl,?_⟩,λ_ x _ k=>absurd (C _) k,λ_=>?_,⟨aI s.t,by rw[J];exact wQ h.tok,dU s.t⟩,h.tok⟩,rfl,hz,.inl ⟨rfl,S,rfl⟩⟩
   ·show ci j (((s.gen+1+1)%2:Nat):Int)=dx s.gen;rw[Z,b1,if_neg (by omega),b']
   ·show a.2.1={chain (aW j.size (s.gen+1)) bs with broken:=a.2.1.broken}
    rw[hz,<-d,d4]
   ·show a.2.1.broken=false;rw[d4,(bG _ _).2.2.2,n]
   ·show iC j (aW j.size (s.gen+1)) bs bs.length [] 0 T;rw [hz,<-d];refine X.out r1 r2 λx k=>I.out λe=> ?_
    rw[d]at e;have hn:2<=gj (s.gen+1) s.p.size:=G.2.2;have e':(((gj (s.gen+1) s.p.size)+x:Nat):Int)=(((s.gen+1)%2:Nat):Int):=e;omega
   ·show j.down=false;rw[P];exact M
 ·
  have e:dD s=a:=by rw[i,if_pos (by rw[c2];decide)]
  refine y a.1 a.2.2 (by rw[c2];decide) o1 o2 (λx k=>D.out k) (λ_=>⟨d3,λx k hf=>?_⟩) (E _ e (by rw[c2];decide));have:=hT.mark (x:=x) (by rw[d];exact k) hf;rw[this,d];rfl
 ·have e:dD s=a:=by rw [i,if_pos c2]
  exact y a.1 a.2.2 c2 o1 o2 (λx k=>D.out k) (λe=>by rw[v]at e;cases e) (E _ e c2)
end
end Go.Proofs.YtfchcdbfalgdlaaGreatDoor
