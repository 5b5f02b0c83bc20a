/- Texts of one proof. No condition but each one's own. -/
import Derived.Test.YtfchcdbfalgdlaaGreatDoorSweepOpensM19
import Derived.Test.YtfchcdbfalgdlaaGreatDoorSweepOpensM23
set_option maxHeartbeats 4000000
set_option maxRecDepth 100000
set_option linter.unusedVariables false
set_option linter.unusedSimpArgs false
namespace Go.Proofs.YtfchcdbfalgdlaaGreatDoor
open _root_.Go.Proofs.Tryz
open Go.RowKit Go.Sort Go.Maps
def jK:List Int:=[101,110,116,114,117,115,116,32,109,97,110,105,102,101,115,116]
theorem sW:aU jK:=by intro x d;simp[jK]at d;omega
def jd(g:Nat):List Int:=aY 4 g++(jL (jK++aY 4 g)).take 16
def dj(g:Nat):List Int:=ft (jd g)
theorem jM(g:Nat):(jd g).length=20:=by simp[jd,av,io]
theorem zG(g:Nat):aU (jd g):=fun x d=>by
 rcases List.mem_append.1 d with d|d
 ·exact ew _ _ x d
 ·exact wk _ x (List.mem_of_mem_take d)
theorem fq(g:Nat):aJ (dj g):=⟨eY (by rw[jM];omega),qv (zG g)⟩
theorem xN(g:Nat):(dj g).take 4=aY 4 g:=by
 unfold dj ft jd;rw[List.append_assoc,List.take_append_of_le_length (by rw[av];exact Nat.le_refl _),List.take_of_length_le (by rw[av];exact Nat.le_refl _)]
theorem zF{g:Nat}(h:g<4294967296):aQ ((dj g).take 4)=g:=by rw[xN,gZ 4 g h]
def gP(p:DP)(a:Nat):Nat:=if p.rget (a:Int)=dj (aQ ((p.rget (a:Int)).take 4))∧aQ ((p.rget (a:Int)).take 4)%2=a then aQ ((p.rget (a:Int)).take 4)else 0
def iF(p:DP):Nat:=max (gP p 0) (gP p 1)
def hlf(n:Nat):Nat:=(n-2)/2
def fH(g n:Nat):Nat:=2+g%2*hlf n
def aS(n g:Nat):LG:=bP (fH g n) (hlf n) g
def bS(p:DP)(g:Nat):DP×Int:=
 if p.wcode ((g%2:Nat):Int)≠0 then(p.doWrite ((g%2:Nat):Int) (dj g),p.wcode ((g%2:Nat):Int))
 else((p.doWrite ((g%2:Nat):Int) (dj g)).doSync,(p.doWrite ((g%2:Nat):Int) (dj g)).scode)
structure Up(p:DP):Prop where
 fuse:p.fuse=-1
 down:p.down=false
section
variable {p:DP}
theorem Up.wcode(h:Up p){a:Int}(h1:0≤a)(h2:a<p.size):p.wcode a=0:=by
 unfold DP.wcode DP.within;rw[decide_eq_true ⟨h1,h2⟩,if_pos rfl,if_neg (by rw[h.fuse,h.down];simp)]
theorem Up.write(h:Up p)(a:Int)(s:List Int):Up (p.doWrite a s):=by
 unfold DP.doWrite;split
 ·rw[if_neg (by rw[h.fuse,h.down];simp)];exact⟨by show(if 0<p.fuse then p.fuse-1 else p.fuse)=-1;rw[h.fuse];rfl,h.down⟩
 ·exact h
theorem Up.sync(h:Up p):Up p.doSync:=by
 unfold DP.doSync;rw[h.down,if_neg (by simp)];exact⟨h.fuse,h.down⟩
theorem Up.scode(h:Up p):p.scode=0:=by unfold DP.scode;rw[h.down];rfl
theorem Up.new(n:Nat):Up (DP.new n):=⟨rfl,rfl⟩
theorem Up.wipeN(h:Up p){l:LG}(f:l.first+l.size≤p.size):∀k,l.used+k≤l.size→(wipeN p l k).2.2=0∧Up (wipeN p l k).1∧(wipeN p l k).1.size=p.size
 | 0,_=>⟨rfl,h,rfl⟩
 |k+1,g=>by
  obtain⟨h1,h2,d⟩:=h.wipeN f k (by omega);unfold Go.Proofs.YtfchcdbfalgdlaaGreatDoor.wipeN;simp only;rw[if_neg (by rw[h1];simp)];split
  ·exact⟨h2.wcode (by omega) (by rw[d];omega),h2.write _ _,by show(DP.doWrite _ _ _).size=_;rw[DP.doWrite_size,d]⟩
  ·exact⟨h1,h2,d⟩
theorem Up.wipe(h:Up p){l:LG}(f:l.first+l.size≤p.size)(hu:l.used≤l.size):(az p l).2=0∧Up (az p l).1∧(az p l).1.size=p.size:=by
 obtain⟨h1,h2,d⟩:=h.wipeN f (l.size-l.used) (by omega);unfold az;simp only;rw[if_neg (by rw[h1];simp)];split
 ·exact⟨h2.scode,h2.sync,by show(DP.doSync _).size=_;rw[DP.doSync_size,d]⟩
 ·exact⟨rfl,h2,d⟩
theorem Up.proc(h:Up p)(g:Nat)(f:2≤p.size):(bS p g).2=0∧Up (bS p g).1∧(bS p g).1.size=p.size:=by
 have d:=h.wcode (a:=((g%2:Nat):Int)) (by omega) (by omega);unfold bS;rw[if_neg (by rw[d];simp)];exact⟨(h.write _ _).scode,(h.write _ _).sync,by show(DP.doSync _).size=_;rw[DP.doSync_size,DP.doWrite_size]⟩
end
theorem eO{n g:Nat}(h:4≤n):1≤hlf n∧fH g n+hlf n≤n∧2≤fH g n:=by
 unfold fH hlf;have h1:g%2=0∨g%2=1:=by omega
 rcases h1 with h1|h1<;>rw[h1]<;>omega
theorem uI{n g g':Nat}(h:g%2≠g'%2){x y:Nat}(d:x<hlf n)(f:y<hlf n):fH g n+x≠fH g' n+y:=by
 unfold fH;have h1:g%2=0∨g%2=1:=by omega
 have h2:g'%2=0∨g'%2=1:=by omega
 rcases h1 with h1|h1<;>rcases h2 with h2|h2<;>rw[h1,h2]<;>omega
def eb(p:DP):DP:=(bS (az ((p.doWrite 0 aw).doWrite 1 aw).doSync (aS p.size 1)).1 1).1
theorem uF{p:DP}(h:Up p)(n:4≤p.size):Up (eb p)∧(eb p).size=p.size:=by
 have h1:=((h.write 0 aw).write 1 aw).sync;have d:((p.doWrite 0 aw).doWrite 1 aw).doSync.size=p.size:=by rw[DP.doSync_size,DP.doWrite_size,DP.doWrite_size]
 have k:=eO (g:=1) n;obtain⟨-,h2,f⟩:=h1.wipe (l:=aS p.size 1) (by rw[d];exact k.2.1) (Nat.zero_le _);obtain⟨-,i,j⟩:=h2.proc 1 (by rw[f,d];omega);exact⟨i,by show(bS _ 1).1.size=_;rw[j,f,d]⟩
def doP(T:CT)(c:PC):CT:=if c.d then kS T c.k else pD T c.k c.v
def doPs(T:CT)(L:List PC):CT:=L.foldl doP T
theorem rt(T:CT)(L:List Ch):nY T L=doPs T (L.map cZ):=by
 induction L generalizing T with
 |nil=>rfl
 |cons c L d=>exact d (doC T c)
def CN(c:PC):List Int:=[if !c.d then 1 else 0]++aY 2 c.k.length++c.k++(if c.d then[]else aY 2 c.v.length++c.v)
def ba(L:List PC):List Int:=aY 2 L.length++L.flatMap CN
theorem Do{c:Ch}(h:c.k.xs.length=c.k.n∧c.v.xs.length=c.v.n):lB c=CN (cZ c):=by
 unfold lB CN cZ;rw[h.1,h.2]
theorem jg{L:List Ch}(h:jB L):bR L=ba (L.map cZ):=by
 have key:∀M:List Ch,jB M→M.flatMap lB=(M.map cZ).flatMap CN:=by
  intro M
  induction M with
  |nil=>intro _;rfl
  |cons c M g=>
   intro d;rw[List.flatMap_cons,List.map_cons,List.flatMap_cons,Do (d c (List.mem_cons_self ..)),g fun x f=>d x (List.mem_cons_of_mem _ f)]
 unfold bR ba;rw[key L h,List.length_map]
def yM(e:List Int×List Int):PC:=⟨e.1,e.2,false⟩
def jb(T:CT):List (List PC):=(iV (lX Bb (aZ T))).map (List.map yM)
def bi(T:CT):List (List Int)→Option CT
 | []=>some T
 | b::bs=>match dL b with
  |some L=>bi (doPs T L) bs
  |none=>none
structure SW where
 p:DP
 l:LG
 t:CT
 gen:Nat
 broken:Bool
noncomputable def opnS (p:DP):DP×Int×Option SW:=
 if p.size<4 then(p,1,none)else if iF p=0 then(p,2,none)else
 let r:=runL p (aS p.size (iF p))
 let q:=(az p r.1).1
 match bi [] r.2 with
 |some t=>(q,0,some ⟨q,r.1,t,iF p,false⟩)
 |none=>(q,2,none)
def dY(p:DP)(l:LG):List (List Int)→DP×LG×Int
 | []=>(p,l,0)
 |b::bs=>if(aD p l b).2.2≠0 then aD p l b else dY (aD p l b).1 (aD p l b).2.1 bs
def dt(s:SW):DP×LG×Int:=
 let l0:=aS s.p.size (s.gen+1)
 let r:=az s.p l0
 if r.2≠0 then(r.1,l0,r.2)else
 let a:=dY r.1 l0 ((jb s.t).map ba)
 if a.2.2≠0 then a else
 if a.1.scode≠0 then(a.1.doSync,a.2.1,a.1.scode)else
 ((bS a.1.doSync (s.gen+1)).1,a.2.1,(bS a.1.doSync (s.gen+1)).2)
def gh(c:Int):Bool:=decide (c≠0∧c≠8∧c≠9)
def bm(s:SW):SW×Int:=
 if s.broken=true then(s,10)else if s.gen=4294967295 then(s,9)else
 let r:=dt s
 if r.2.2≠0 then({s with p:=r.1,broken:=gh r.2.2},r.2.2)else({s with p:=r.1,l:=r.2.1,gen:=s.gen+1},0)
def fo(s:SW)(b:List Int):SW×Int:=
 if(aD s.p s.l b).2.2≠8 then({s with p:=(aD s.p s.l b).1,l:=(aD s.p s.l b).2.1},(aD s.p s.l b).2.2)else
 let r:=bm {s with p:=(aD s.p s.l b).1,l:=(aD s.p s.l b).2.1}
 if r.2≠0 then r else({r.1 with p:=(aD r.1.p r.1.l b).1,l:=(aD r.1.p r.1.l b).2.1},(aD r.1.p r.1.l b).2.2)
def eQ(s:SW)(L:List PC):SW×Int:=
 if dv L=false then(s,2)else if s.broken=true then(s,10)else if 65536<(ba L).length then(s,3)else
 let r:=fo s (ba L)
 if r.2≠0 then({r.1 with broken:=r.1.broken||gh r.2},r.2)else
 if r.1.p.scode≠0 then({r.1 with p:=r.1.p.doSync,broken:=r.1.broken||gh r.1.p.scode},r.1.p.scode)else
 ({r.1 with p:=r.1.p.doSync,t:=doPs r.1.t L},0)
def iP(s:SW):Nat:=((jb s.t).map fun L=>ay (ba L).length).sum
inductive kf(R:Int→Prop)(p:DP):DP→Prop
 |refl:kf R p p
 |write {q:DP} {a:Int} {s:List Int}:kf R p q→R a→aJ s→kf R p (q.doWrite a s)
 |sync {q:DP}:kf R p q→kf R p q.doSync
def yL(p q:DP)(a:Int):Prop:=(q.fresh a=p.fresh a∧q.sure a=p.sure a)∨(q.fresh a=none∧bU q a=p.get a)
section
variable {R R':Int→Prop}{p q r:DP}{a:Int}
theorem kf.trans(h1:kf R p q)(h2:kf R q r):kf R p r:=by
 induction h2 with
 |refl=>exact h1
 |write _ f g d=>exact d.write f g
 |sync _ d=>exact d.sync
theorem kf.mono(h:kf R p q)(f:∀a,R a→R' a):kf R' p q:=by
 induction h with
 |refl=>exact .refl
 |write _ g i d=>exact d.write (f _ g) i
 |sync _ d=>exact d.sync
theorem yL.get(h:yL p q a):q.get a=p.get a:=by
 rcases h with⟨h1,h2⟩|⟨h1,h2⟩
 ·unfold DP.get;rw[h1,h2]
 ·rw[ce h1,h2]
theorem kf.ok(h:kf R p q)(f:p.Ok):q.Ok∧q.size=p.size:=by
 induction h with
 |refl=>exact⟨f,rfl⟩
 |write _ j g d=>
  refine⟨?_,by rw[DP.doWrite_size];exact d.2⟩;unfold DP.doWrite;split
  ·next i=>
   split
   ·exact d.1.fall
   ·exact d.1.write (of_decide_eq_true i) g
  ·exact d.1
 |sync _ d=>
  refine⟨?_,by rw[DP.doSync_size];exact d.2⟩;unfold DP.doSync;split
  ·exact d.1
  ·exact d.1.sync
theorem yL.sync(h:yL p q a):yL p q.doSync a:=by
 unfold DP.doSync;split
 ·exact h
 ·refine .inr ⟨rfl,?_⟩;rw[←ce (p:=q.sync) rfl,eI];exact h.get
theorem kf.out(h:kf R p q)(j:¬R a):yL p q a:=by
 induction h with
 |refl=>exact .inl ⟨rfl,rfl⟩
 | @write q b s _ k n d=>
  have f:a≠b:=fun e=>j (e▸k)
  unfold DP.doWrite;split
  ·split
   ·exact d
   ·have g:(q.write b s).fresh a=q.fresh a:=by
     show sH q.burn.fresh b (some s) a=_;unfold sH;rw[if_neg f];rfl
    have i:(q.write b s).sure a=q.sure a:=rfl;unfold yL bU at d⊢;rw[g,i];exact d
  ·exact d
 |sync _ d=>exact d.sync
theorem kV{s:List Int}(h:p.wcode a=0)(hd:p.down=false):(p.doWrite a s).down=false:=by
 unfold DP.wcode at h;unfold DP.doWrite;split
 ·next f=>
  rw[if_pos f]at h;split
  ·next d=>rw[if_pos d]at h;cases h
  ·exact hd
 ·exact hd
theorem sV:p.doSync.down=p.down:=by unfold DP.doSync;split<;>rfl
end
def ui(l:LG)(a:Int):Prop:=∃x:Nat,x<l.size∧a=fw l x
section
variable {p q:DP}{l l0:LG}{K:List (List Int)}{su:Nat}{b:List Int}{m:Nat}{T:Nat→Option (List Int)}
theorem mM(p:DP)(l:LG):∀k,l.used+k≤l.size→kf (ui l) p (wipeN p l k).1
 | 0,_=>.refl
 |k+1,f=>by
  have d:=mM p l k (by omega);unfold wipeN;simp only;split
  ·exact d
  ·split
   ·exact d.write ⟨l.used+k,by omega,by unfold fw;rw[Nat.add_assoc]⟩ aX
   ·exact d
theorem lZ(p:DP)(l:LG)(hu:l.used≤l.size):kf (ui l) p (az p l).1:=by
 have h:=mM p l (l.size-l.used) (by omega);unfold az;simp only;split
 ·exact h
 ·split
  ·exact h.sync
  ·exact h
theorem pr(p:DP)(l:LG){b:List Int}(d:aU b):∀k,l.used+k≤l.size→kf (ui l) p (writeN p l b k).1
 | 0,_=>.refl
 |k+1,g=>by
  have f:=pr p l d k (by omega);unfold writeN;simp only;split
  ·exact f
  ·exact f.write ⟨l.used+k,by omega,by unfold fw;rw[Nat.add_assoc]⟩ (LG.sec_ok _ d _)
theorem Bj(p:DP)(l:LG){b:List Int}(d:aU b)(hu:l.used≤l.size):kf (ui l) p (aD p l b).1:=by
 unfold aD;split
 ·exact .refl
 ·split
  ·exact .refl
  ·split
   ·exact .refl
   ·have h:=pr p l d (ay b.length) (by omega);simp only;split<;>exact h
theorem iB.out(h:iB p l0 K su b m T)(o:q.Ok)(u:q.size=p.size)(n:∀x:Nat,x<l0.size→yL p q (fw l0 x)):iB q l0 K su b m T:=by
 have f:∀x:Nat,x<l0.size→bU q (fw l0 x)=bU p (fw l0 x)∨(T x≠none∧T x=some (bU q (fw l0 x))):=fun x d=>by
  rcases n x d with⟨h1,h2⟩|⟨h1,h2⟩
  ·exact .inl (by unfold bU;rw[h2])
  ·rcases h.fresh x d with g | ⟨g,v⟩
   ·exact .inl (by rw[h2,ce g])
   ·refine .inr ⟨g,?_⟩
    cases hT:T x with
    |none=>exact absurd hT g
    |some S=>rw[h2,h.now x d S hT]
 refine⟨o,by rw[u];exact h.lok,h.z,h.g0,h.good,h.room,h.part,h.sul,h.tk,fun x d=>?_,fun x d=>?_,fun j k t i hi=>?_,fun x d S hS=>?_⟩
 ·rcases n x d with ⟨h1,h2⟩ | ⟨h1,h2⟩
  ·rw[h1];exact h.fresh x d
  ·exact .inl h1
 ·rcases f x d with h1 | ⟨h1,h2⟩
  ·rw[h1];exact h.sure x d
  ·exact .inl h2
 ·have y:=iM (l0:=l0) k hi;have d:(chain l0 (K.take j)).used+i<l0.size:=by have:=h.room;omega
  rcases f _ d with h1|⟨h1,h2⟩
  ·rw[h1];exact h.safe j k t i hi
  ·rw[h.tk.recs j k i hi]at h2;injection h2 with h2;exact h2.symm
 ·rw[(n x d).get];exact h.now x d S hS
theorem iB.mark(h:iB p l0 K su b m T){x:Nat}(g:x<l0.size)(o:p.fresh (fw l0 x)≠none):aQ ((p.get (fw l0 x)).take 4)=l0.gen:=by
 have d:∀(J:List (List Int)) (c:List Int) (i:Nat),aQ (((chain l0 J).sec c i).take 4)=l0.gen:=fun J c i=>by
  have n:=Az (l:=chain l0 J) (b:=c) i;have k:((chain l0 J).sec c i).take 4=(((chain l0 J).sec c i).take 9).take 4:=by rw[List.take_take];rfl
  rw[k,n];unfold LG.hdr;rw[(be l0 J).2.2.1,List.append_assoc];have:=List.take_left (l₁:=aY 4 l0.gen) (l₂:=aY 4 ((chain l0 J).used+i)++[if i=0 then 1 else 2]);rw[av]at this;rw[this,gZ 4 l0.gen h.lok.gen]
 rcases h.fresh x g with h1|⟨h1,h2⟩
 ·exact absurd h1 o
 ·by_cases hu:x<(chain l0 K).used
  ·obtain⟨j,t,i,hi,e⟩:=tC h.z hu;have f:=h.tk.recs j t i hi;rw[←e]at f;rw[h.now x g _ f,d]
  ·by_cases u:x<(chain l0 K).used+m
   ·have f:=h.tk.part (x-(chain l0 K).used) (by omega);rw[show(chain l0 K).used+(x-(chain l0 K).used)=x by omega]at f;rw[h.now x g _ f,d]
   ·exact absurd (h.tk.rest x (by omega)) h1
theorem qQ{l:LG}(j:p.Ok)(hd:p.down=false)(y:l.first+l.size≤p.size)(g0:l.gen≠0):∀k,l.used+k≤l.size→(wipeN p l k).2.2=0→
    (wipeN p l k).1.down=false∧(∀i,i<k→iJ l.gen ((wipeN p l k).1.get ((l.first+l.used+i:Nat):Int)))∧((wipeN p l k).2.1=false→(wipeN p l k).1=p)
 | 0,_,_=>⟨hd,fun i hi=>absurd hi (by omega),fun _=>rfl⟩
 |k+1,B,d=>by
  have f:(wipeN p l k).2.2=0:=by
   refine Classical.byContradiction fun g=>?_
   unfold wipeN at d;simp only at d;rw[if_pos g]at d;exact g d
  obtain⟨h1,h2,v⟩:=qQ j hd y g0 k (by omega) f;have o:=((mM p l k (by omega)).ok j).2;have t:(wipeN p l k).1.within ((l.first+l.used+k:Nat):Int)=true:=decide_eq_true (by rw[o];omega)
  by_cases n:aQ ((sct (wipeN p l k).1 l k).take 4)=l.gen
  ·rw[kB f n]at d⊢;simp only at d⊢
   have u:(wipeN p l k).1.doWrite ((l.first+l.used+k:Nat):Int) aw=(wipeN p l k).1.write ((l.first+l.used+k:Nat):Int) aw:=by
    unfold DP.doWrite;rw[if_pos t];unfold DP.wcode at d;rw[if_pos t]at d;split
    ·next z=>rw[if_pos z]at d;cases d
    ·rfl
   refine⟨kV d h1,fun i hi=>?_,fun e=>?_⟩
   ·rw[u,iO]
    by_cases e:i=k
    ·rw[if_pos (by rw[e])];exact wI g0
    ·rw[if_neg (by omega)];exact h2 i (by omega)
   ·rw[if_pos d]at e;cases e
  ·rw[jo f n];refine⟨h1,fun i hi=>?_,v⟩
   by_cases e:i=k
   ·subst e;have:sct (wipeN p l i).1 l i=(wipeN p l i).1.get ((l.first+l.used+i:Nat):Int):=if_pos t;rw[←this];exact n
   ·exact h2 i (by omega)
theorem uh{a sz g:Nat}(n:p.Ok)(hd:p.down=false)(C:a+sz≤p.size)(F:g<4294967296)(g0:g≠0)
    (G:∀x:Nat,x<sz→p.fresh (fw (bP a sz g) x)≠none→aQ ((p.get (fw (bP a sz g) x)).take 4)=g) (t:(az p (bP a sz g)).2=0):
    (az p (bP a sz g)).1.down=false∧iB (az p (bP a sz g)).1 (bP a sz g) [] 0 [] 0 (fun _=>none):=by
 have o:=lZ p (bP a sz g) (Nat.zero_le _);obtain⟨y,z⟩:=o.ok n
 have k:(wipeN p (bP a sz g) sz).2.2=0:=by
  refine Classical.byContradiction fun f=>?_
  unfold az at t;simp only at t;rw[show(bP a sz g).size-(bP a sz g).used=sz from rfl,if_pos f]at t;exact f t
 obtain⟨h1,h2,D⟩:=qQ (l:=bP a sz g) n hd C g0 sz (by show 0+sz≤sz;omega) k
 have key:(az p (bP a sz g)).1.down=false∧∀x:Nat,x<sz→(az p (bP a sz g)).1.fresh (fw (bP a sz g) x)=none∧iJ g ((az p (bP a sz g)).1.get (fw (bP a sz g) x)):=by
  have E:∀x:Nat,(((bP a sz g).first+(bP a sz g).used+x:Nat):Int)=fw (bP a sz g) x:=fun x=>rfl
  unfold az;simp only;rw[show(bP a sz g).size-(bP a sz g).used=sz from rfl,if_neg (by rw[k];simp)]
  by_cases B:(wipeN p (bP a sz g) sz).2.1=true
  ·rw[if_pos B];refine⟨by show(DP.doSync _).down=_;rw[sV];exact h1,fun x d=>?_⟩;unfold DP.doSync;rw[if_neg (by rw[h1];simp)];exact⟨rfl,by show iJ g (DP.get (DP.sync _) _);rw[eI];exact h2 x d⟩
  ·rw[if_neg B];have e:=D (by simpa using B);refine⟨h1,fun x d=>?_⟩;have u:=h2 x d;show(wipeN p (bP a sz g) sz).1.fresh _=none∧iJ g ((wipeN p (bP a sz g) sz).1.get _);rw[e]at u⊢;refine⟨Classical.byContradiction fun f=>u (G x d f),u⟩
 refine⟨key.1,⟨y,eS (by rw[z];exact C) F,rfl,g0,fun x d=>(by cases d),Nat.zero_le _,.inl rfl,Nat.le_refl _,⟨fun j v=>absurd v (by simp),fun i hi=>absurd hi (by omega),fun _ _=>rfl⟩,fun x d=>.inl (key.2 x d).1,fun x d=>.inr ?_,fun j v=>absurd v (by simp),fun x d S hS=>(by cases hS)⟩⟩;rw[←ce (key.2 x d).1];exact(key.2 x d).2
end
structure jw(T:CT):Prop where
 nd:(T.map Prod.fst).Nodup
 el:∀e∈T,(1≤e.1.length∧e.1.length≤16∧aU e.1)∧e.2.length≤16384∧aU e.2
def CJ(c:PC):Prop:=aU c.k∧aU c.v
section
variable {T T':CT}{c:PC}{L:List PC}
theorem jw.kn(h:jw T):Kn T:=⟨h.nd,fun e d=>(h.el e d).1.2.2⟩
theorem jw.perm(h:jw T)(d:T.Perm T'):jw T':=⟨((d.map Prod.fst).nodup_iff).1 h.nd,fun e f=>h.el e (d.mem_iff.2 f)⟩
theorem jw.nil:jw []:=⟨by simp,fun e d=>by cases d⟩
theorem jw.sct(h:jw T):jw (aZ T):=h.perm (ei T).symm
theorem mB(h:jN c=true):1≤c.k.length∧c.k.length≤16∧c.v.length≤16384∧(c.d=true→c.v.length=0):=by
 unfold jN at h;simp only[Bool.and_eq_true,decide_eq_true_eq,Bool.not_eq_true',Bool.and_eq_false_iff]at h;obtain⟨⟨⟨h1,h2⟩,f⟩,d⟩:=h;refine⟨h1,h2,f,fun hd=>?_⟩;rcases d with d|d
 ·rw[hd]at d;cases d
 ·have:=of_decide_eq_false d;omega
theorem gR(h:dv L=true):1≤L.length∧L.length≤600∧∀c∈L,jN c=true:=by
 unfold dv at h;simp only[Bool.and_eq_true,decide_eq_true_eq,List.all_eq_true]at h;exact⟨h.1.1,h.1.2,h.2⟩
theorem jw.doP(h:jw T)(i:jN c=true)(f:CJ c):jw (doP T c):=by
 obtain⟨h1,h2,g,-⟩:=mB i;unfold Go.Proofs.YtfchcdbfalgdlaaGreatDoor.doP;split
 ·exact⟨(h.kn.del c.k).nd,fun e d=>h.el e (List.mem_filter.1 d).1⟩
 ·refine ⟨(h.kn.put (k:=c.k) (v:=c.v) f.1).nd,fun e d=> ?_⟩;rcases List.mem_append.1 d with d | d
  ·exact h.el e (List.mem_filter.1 d).1
  ·rw[List.mem_singleton.1 d];exact⟨⟨h1,h2,f.1⟩,g,f.2⟩
theorem jw.doPs:∀{L:List PC} {T:CT},jw T→(∀c∈L,jN c=true)→(∀c∈L,CJ c)→jw (doPs T L)
 | [],_,h,_,_=>h
 |c::L,T,h,h1,h2=>jw.doPs (L:=L) (h.doP (h1 c (List.mem_cons_self ..)) (h2 c (List.mem_cons_self ..))) (fun x d=>h1 x (List.mem_cons_of_mem _ d)) (fun x d=>h2 x (List.mem_cons_of_mem _ d))
theorem zq(h:T.Perm T')(c:PC):(doP T c).Perm (doP T' c):=by
 unfold doP pD kS;split
 ·exact h.filter _
 ·exact(h.filter _).append (List.Perm.refl _)
theorem pZ:∀(L:List PC) {T T':CT},T.Perm T'→(doPs T L).Perm (doPs T' L)
 | [],_,_,h=>h
 |c::L,_,_,h=>pZ L (zq h c)
theorem zr(T:CT)(L M:List PC):doPs T (L++M)=doPs (doPs T L) M:=List.foldl_append ..
theorem qd:∀(P T:CT),((T++P).map Prod.fst).Nodup→doPs T (P.map yM)=T++P
 | [],T,_=>by simp[doPs]
 |e::P,T,h=>by
  have d:e.1∉T.map Prod.fst:=fun f=>by
   rw[List.map_append,List.nodup_append]at h;exact h.2.2 e.1 f e.1 (by simp) rfl
  have h1:doP T (yM e)=T++[e]:=by
   unfold doP yM pD;simp only[Bool.false_eq_true,if_false];rw[xt d]
  have h2:=qd P (T++[e]) (by rw[List.append_assoc];exact h);show doPs (doP T (yM e)) (P.map yM)=_;rw[h1,h2,List.append_assoc];rfl
def Dm(c:PC):Ch:=⟨⟨none,c.k.length,0,c.k⟩,⟨none,c.v.length,0,c.v⟩,c.d⟩
theorem nS(L:List PC):(L.map Dm).map cZ=L:=by
 rw[List.map_map];exact List.map_id _
theorem nR(L:List PC):jB (L.map Dm):=fun c d=>by
 obtain⟨x,-,rfl⟩:=List.mem_map.1 d;exact⟨rfl,rfl⟩
theorem oE(h:dv L=true):dL (ba L)=some L:=by
 have h1:=jg (nR L);rw[nS]at h1;have h2:dg (L.map Dm)=true:=by rw[←gy (nR L),nS];exact h
 rw[←h1,xZ (nR L) h2,nS]
theorem Bp(f:CJ c):aU (CN c):=by
 intro x d;unfold CN at d;simp only[List.mem_append,List.mem_singleton]at d;rcases d with((d|d)|d)|d
 ·rw[d];split<;>omega
 ·exact ew _ _ x d
 ·exact f.1 x d
 ·split at d
  ·cases d
  ·rcases List.mem_append.1 d with d | d
   ·exact ew _ _ x d
   ·exact f.2 x d
theorem jO(f:∀c∈L,CJ c):aU (ba L):=by
 intro x d;unfold ba at d;rcases List.mem_append.1 d with d|d
 ·exact ew _ _ x d
 ·obtain⟨c,g,d⟩:=List.mem_flatMap.1 d;exact Bp (f c g) x d
theorem Dn(c:PC):(CN c).length≤5+c.k.length+c.v.length:=by
 unfold CN;simp only[List.length_append,av,List.length_cons,List.length_nil];split<;>simp[av]<;>omega
theorem BZ(L:List PC):(ba L).length≤2+(L.map fun c=>5+c.k.length+c.v.length).sum:=by
 unfold ba;rw[List.length_append,av]
 induction L with
 |nil=>simp
 |cons c L d=>
  have:=Dn c;rw[List.flatMap_cons,List.length_append,List.map_cons,List.sum_cons];omega
theorem lK(L:List PC):2≤(ba L).length:=by unfold ba;rw[List.length_append,av];omega
theorem Cs{α:Type}(f:α→Nat)(L:List α):∀l∈iV (lX f L),(l.map f).sum≤8190∨∃y,l=[y]:=by
 suffices h:∀(s:Option (List (List α)×List α)),(∀l∈iV s,(l.map f).sum≤8190∨∃y,l=[y])→∀l∈iV (L.foldl (nD f) s),(l.map f).sum≤8190∨∃y,l=[y]from h none (by simp[iV])
 induction L with
 |nil=>intro s h;exact h
 |cons y L i=>
  intro s h;rw[List.foldl_cons];refine i _ ?_;rcases s with _|⟨C,l⟩
  ·simp[nD,iV]
  ·simp only [nD];have g:∀x∈C,(x.map f).sum≤8190∨∃y,x= [y]:=fun x d=>h x (by simp [iV,d])
   have hl:=h l (by simp[iV]);split
   ·next j=>
    intro x d;simp only[iV,List.mem_append,List.mem_singleton]at d;rcases d with d|rfl
    ·exact g x d
    ·exact .inl (by simp;omega)
   ·intro x d;simp only [iV,List.mem_append,List.mem_singleton] at d;rcases d with (d | rfl) | rfl
    ·exact g x d
    ·exact hl
    ·exact .inr ⟨_,rfl⟩
theorem jE(h:jw T):∀L∈jb T,dv L=true∧(∀c∈L,CJ c)∧(ba L).length≤65536:=by
 intro L t;obtain⟨r,n,rfl⟩:=List.mem_map.1 t
 have j:∀e∈r,e∈aZ T:=fun e d=>by
  rw[←iW Bb (aZ T)];exact List.mem_flatten.2 ⟨r,n,d⟩
 have f:=fun e d=>h.sct.el e (j e d)
 have i:=AG Bb _ r n;refine⟨?_,fun c k=>?_,?_⟩
 ·unfold dv;simp only[Bool.and_eq_true,decide_eq_true_eq,List.all_eq_true,List.length_map];refine⟨i,fun c k=>?_⟩;obtain⟨e,d,rfl⟩:=List.mem_map.1 k;obtain⟨⟨h1,h2,-⟩,o,-⟩:=f e d;unfold jN yM;simp only[Bool.false_and,Bool.not_false,Bool.and_true,Bool.and_eq_true,decide_eq_true_eq];exact⟨⟨h1,h2⟩,o⟩
 ·obtain⟨e,d,rfl⟩:=List.mem_map.1 k;obtain⟨⟨-,-,h1⟩,-,h2⟩:=f e d;exact⟨h1,h2⟩
 ·have g:=BZ (r.map yM);have u:((r.map yM).map fun c=>5+c.k.length+c.v.length).sum=(r.map Bb).sum:=by rw [List.map_map];rfl
  rw[u]at g;rcases Cs Bb _ r n with h1|⟨y,rfl⟩
  ·omega
  ·obtain⟨⟨h1,h2,-⟩,o,-⟩:=f y (by simp);simp only[List.map_cons,List.map_nil,List.sum_cons,List.sum_nil,Bb]at g;show(ba [yM y]).length≤65536;omega
theorem rU{b:List Int}(h1:1≤b.length)(h2:b.length≤65536)(d:aU b):gH b:=⟨by rw[wV h1 h2];omega,d⟩
theorem Bk(h:jw T):∀b∈(jb T).map ba,gH b:=fun b g=>by
 obtain⟨L,f,rfl⟩:=List.mem_map.1 g;obtain⟨h1,h2,d⟩:=jE h L f;exact rU (by have:=lK L;omega) d (jO h2)
theorem zd(T:CT):(jb T).flatten=(aZ T).map yM:=by
 unfold jb;rw[←List.map_flatten,iW]
theorem mX:∀(d:List (List PC)) (T:CT),(∀L∈d,dv L=true)→bi T (d.map ba)=some (doPs T d.flatten)
 | [],T,_=>rfl
 |L::d,T,h=>by
  rw[List.map_cons];unfold bi;rw[oE (h L (List.mem_cons_self ..))];simp only;rw[mX d (doPs T L) fun x f=>h x (List.mem_cons_of_mem _ f),List.flatten_cons,zr]
theorem uR(h:jw T):bi [] ((jb T).map ba)=some (aZ T):=by
 rw[mX _ _ fun L d=>(jE h L d).1,zd,qd (aZ T) [] h.sct.nd];rfl
theorem mY:∀(K:List (List Int)) (T:CT) {d:CT} {L:List PC},bi T K=some d→dv L=true→bi T (K++[ba L])=some (doPs d L)
 | [],T,d,L,h,f=>by
  injection h with h;subst h;show bi T [ba L]=_;unfold bi;rw[oE f];rfl
 |b::K,T,d,L,h,f=>by
  unfold bi at h;rw[List.cons_append];unfold bi
  cases hp:dL b with
  |none=>rw[hp]at h;cases h
  |some M=>rw[hp]at h;exact mY K (doPs T M) h f
end
structure kP(s:SW)(K:List (List Int)):Prop where
 ok:s.p.Ok
 n4:4≤s.p.size
 g1:1≤s.gen
 g2:s.gen<4294967296
 man:s.p.fresh ((s.gen%2:Nat):Int)=none∧bU s.p ((s.gen%2:Nat):Int)=dj s.gen
 oth:s.p.fresh (((s.gen+1)%2:Nat):Int)=none∧(bU s.p (((s.gen+1)%2:Nat):Int)=aw∨∃g,g<s.gen∧bU s.p (((s.gen+1)%2:Nat):Int)=dj g)
 log:s.l={chain (aS s.p.size s.gen) K with broken:=s.l.broken}
 lb:s.broken=false→s.l.broken=false
 inv:∃b m T,(m=0∨m<ay b.length)∧(s.broken=false→m=0)∧iB s.p (aS s.p.size s.gen) K K.length b m T
 rest:s.broken=false→∀x:Nat,x<hlf s.p.size→s.p.fresh (fw (aS s.p.size (s.gen+1)) x)≠none→aQ ((s.p.get (fw (aS s.p.size (s.gen+1)) x)).take 4)=s.gen+1
 up:s.broken=false→s.p.down=false
 tab:∃t,bi [] K=some t∧t.Perm s.t
 tok:jw s.t
theorem gm{n g a:Nat}(d:a<2):¬ui (aS n g) (a:Int):=fun⟨x,f,e⟩=>by
 unfold fw at e;have:2≤(aS n g).first:=by show 2≤fH g n;unfold fH;omega
 omega
theorem yg{n g g':Nat}(h:g%2≠g'%2){x:Nat}(f:x<hlf n):¬ui (aS n g') (fw (aS n g) x):=fun⟨y,i,e⟩=>by
 have h1:=uI (n:=n) h f (show y<hlf n from i);unfold fw at e
 have d:fH g n+x=fH g' n+y:=by
  have:(((aS n g).first+x:Nat):Int)=(((aS n g').first+y:Nat):Int):=e;exact Int.ofNat.inj this
 exact h1 d
theorem eX{p q:DP}{a:Int}(h:yL p q a)(d:p.fresh a=none):q.fresh a=none∧bU q a=bU p a:=by
 rcases h with⟨h1,h2⟩|⟨h1,h2⟩
 ·exact⟨by rw[h1];exact d,by unfold bU;rw[h2]⟩
 ·exact⟨h1,by rw[h2,ce d]⟩
section
variable {s:SW}{K:List (List Int)}{q:DP}
theorem kP.away(h:kP s K)(d:q.Ok)(f:q.size=s.p.size)(i:∀a,¬ui (aS s.p.size (s.gen+1)) a→yL s.p q a)(j:Bool)
    (g:j=false→s.broken=false∧q.down=false∧∀x:Nat,x<hlf s.p.size→q.fresh (fw (aS s.p.size (s.gen+1)) x)≠none→aQ ((q.get (fw (aS s.p.size (s.gen+1)) x)).take 4)=s.gen+1):
    kP {s with p:=q,broken:=j} K:=by
 have k:=eX (i _ (gm (a:=s.gen%2) (by omega))) h.man.1;have n:=eX (i _ (gm (a:=(s.gen+1)%2) (by omega))) h.oth.1;obtain⟨b,m,T,h1,h2,o⟩:=h.inv;refine⟨d,by show 4≤q.size;rw[f];exact h.n4,h.g1,h.g2,⟨k.1,k.2.trans h.man.2⟩,⟨n.1,by rw[show bU q _=_ from n.2];exact h.oth.2⟩,?_,fun e=>h.lb (g e).1,⟨b,m,T,h1,fun e=>h2 (g e).1,?_⟩,fun e=>?_,fun e=>(g e).2.1,h.tab,h.tok⟩
 ·show s.l={chain (aS q.size s.gen) K with broken:=s.l.broken}
  rw[f];exact h.log
 ·show iB q (aS q.size s.gen) K K.length b m T;rw[f];exact o.out d f fun x t=>i _ (yg (by omega) t)
 ·show ∀x:Nat,x<hlf q.size→q.fresh (fw (aS q.size (s.gen+1)) x)≠none→_;rw[f];exact(g e).2.2
theorem kP.g0(h:kP s K):s.gen≠0:=by have:=h.g1;omega
theorem lC{p:DP}(h:p.Ok)(d:List Bool){a:Int}(f:p.fresh a=none):(p.cut d).get a=bU p a:=by
 have e:(p.cut d).get a=(jc p d p.order.length a).getD aw:=rfl;rw[e];rcases rp h d p.order.length (Nat.le_refl _) a with h1|⟨h1,-⟩
 ·rw[h1];rfl
 ·exact absurd f h1
theorem wz{p:DP}{a g:Nat}(f:a<p.size)(d:p.get (a:Int)=dj g)(h:g<4294967296):gP p a=if g%2=a then g else 0:=by
 have e:p.rget (a:Int)=dj g:=by
  unfold DP.rget DP.within;rw[decide_eq_true ⟨by omega,by omega⟩,if_pos rfl];exact d
 unfold gP;rw[e,zF h];simp
theorem DF{p:DP}{a:Nat}(f:a<p.size)(d:p.get (a:Int)=aw):gP p a=0:=by
 have e:p.rget (a:Int)=aw:=by
  unfold DP.rget DP.within;rw[decide_eq_true ⟨by omega,by omega⟩,if_pos rfl];exact d
 unfold gP;rw[e];have:aQ (aw.take 4)=0:=rfl;rw[this];split<;>rfl
theorem Dq{p:DP}{g:Nat}(j:4≤p.size)(h:g<4294967296)(h1:p.get ((g%2:Nat):Int)=dj g)(h2:p.get (((g+1)%2:Nat):Int)=aw∨∃g',g'<g∧p.get (((g+1)%2:Nat):Int)=dj g'):iF p=g:=by
 have a1:gP p (g%2)=g:=by rw[wz (by omega) h1 h,if_pos rfl]
 have f:gP p ((g+1)%2)≤g:=by
  rcases h2 with h2|⟨g',i,h2⟩
  ·rw[DF (by omega) h2];omega
  ·rw[wz (by omega) h2 (by omega)];split<;>omega
 unfold iF;have d:g%2=0∨g%2=1:=by omega
 rcases d with d|d
 ·rw[d]at a1;rw[show(g+1)%2=1 by omega]at f;rw[a1];exact Nat.max_eq_left f
 ·rw[d]at a1;rw[show(g+1)%2=0 by omega]at f;rw[a1];exact Nat.max_eq_right f
theorem kP.open_(h:kP s K)(d:List Bool):∃i,opnS (s.p.cut d)=(i.p,0,some i)∧kP i K∧i.gen=s.gen∧i.broken=false∧i.t.Perm s.t∧i.p.size=s.p.size:=by
 obtain⟨b,m,T,h1,-,B⟩:=h.inv;have C:=B.cut h1 d;have D:(s.p.cut d).size=s.p.size:=rfl
 have M:iF (s.p.cut d)=s.gen:=by
  refine Dq (by rw[D];exact h.n4) h.g2 (by rw[lC h.ok d h.man.1];exact h.man.2) ?_;rw[lC h.ok d h.oth.1];exact h.oth.2
 obtain⟨j,S,U,E,O⟩:=C.run;have N:j=K.length:=by omega
 subst N;rw[List.take_length]at E;obtain⟨P,o,z,u⟩:=C.wipe (Nat.le_refl _) O;rw[List.take_length]at P o z u;obtain⟨t,t1,t2⟩:=h.tab;obtain⟨q,y⟩:=nM ((az (s.p.cut d) (chain (aS s.p.size s.gen) K)).1)
 have k:kf (ui (chain (aS s.p.size s.gen) K)) (s.p.cut d) q:=by
  rw[y];refine lZ _ _ ?_;rw[(be _ K).2.1];exact B.room
 rw[←y]at o z u
 have n:∀a,ui (chain (aS s.p.size s.gen) K) a→ui (aS s.p.size s.gen) a:=fun a ⟨x,v,e⟩=>by
  rw[(be _ K).2.1]at v;unfold fw at e;rw[(be _ K).1]at e;exact⟨x,v,e⟩
 have g:=fun a J=>(k.mono n).out (a:=a) J
 have f:q.size=s.p.size:=z;obtain⟨T',u⟩:∃T',iB q (aS s.p.size s.gen) K K.length [] 0 T':=⟨_,u⟩
 have F:=eX (g _ (gm (a:=s.gen%2) (by omega))) rfl;have G:=eX (g _ (gm (a:=(s.gen+1)%2) (by omega))) rfl;have H:bU (s.p.cut d) ((s.gen%2:Nat):Int)=dj s.gen:=by rw[←ce (p:=s.p.cut d) rfl,lC h.ok d h.man.1];exact h.man.2
 have I:bU (s.p.cut d) (((s.gen+1)%2:Nat):Int)=bU s.p (((s.gen+1)%2:Nat):Int):=by rw[←ce (p:=s.p.cut d) rfl,lC h.ok d h.oth.1]
 refine⟨⟨q,chain (aS s.p.size s.gen) K,t,s.gen,false⟩,?_,?_,rfl,rfl,t2,f⟩
 ·unfold opnS;rw[if_neg (by rw[D];have:=h.n4;omega),M,if_neg h.g0];simp only;rw[show(s.p.cut d).size=s.p.size from rfl,E];simp only;rw[t1,←y]
 ·refine⟨o.ok,by show 4≤q.size;rw[f];exact h.n4,h.g1,h.g2,⟨F.1,F.2.trans H⟩,⟨G.1,by rw[show bU q _=_ from G.2,I];exact h.oth.2⟩,?_,fun _=>?_,⟨[],0,T',.inl rfl,fun _=>rfl,?_⟩,fun _ x _ v=>absurd (o.fresh _) v,fun _=>o.up,⟨t,t1,List.Perm.refl _⟩,h.tok.perm t2.symm⟩
  ·show chain (aS s.p.size s.gen) K={chain (aS q.size s.gen) K with broken:=(chain (aS s.p.size s.gen) K).broken}
   rw[f]
  ·show(chain (aS s.p.size s.gen) K).broken=false;rw[(be _ K).2.2.2];rfl
  ·show iB q (aS q.size s.gen) K K.length [] 0 _;rw[f];exact u
end
section
variable {p q:DP}{l l0:LG}{b:List Int}{a:Int}
theorem mK(h:p.wcode a≠0):gh (p.wcode a)=true:=by
 unfold DP.wcode at h⊢;split
 ·next h1=>
  rw[if_pos h1]at h;split
  ·rfl
  ·next h2=>rw[if_neg h2]at h;exact absurd rfl h
 ·rfl
theorem pk(p:DP)(l:LG):∀k,(wipeN p l k).2.2≠0→gh (wipeN p l k).2.2=true
 | 0,h=>absurd rfl h
 |k+1,h=>by
  unfold wipeN at h⊢;simp only at h⊢;split
  ·next h1=>exact pk p l k h1
  ·next h1=>
   rw[if_neg h1]at h;split
   ·next h2=>rw[if_pos h2]at h;exact mK h
   ·next h2=>rw[if_neg h2]at h;exact absurd h h1
theorem yE(h:(az p l).2≠0):gh (az p l).2=true:=by
 unfold az at h⊢;simp only at h⊢;split
 ·next h1=>exact pk p l _ h1
 ·next h1=>
  rw[if_neg h1]at h;split
  ·next h2=>
   rw[if_pos h2]at h;show gh (DP.scode _)=true;have h:(wipeN p l (l.size-l.used)).1.scode≠0:=h;unfold DP.scode at h⊢;split
   ·rfl
   ·next d=>rw[if_neg d]at h;exact absurd rfl h
  ·next h2=>rw[if_neg h2]at h;exact absurd rfl h
theorem nf(p:DP)(l:LG)(b:List Int):∀k,(writeN p l b k).2≠0→gh (writeN p l b k).2=true
 | 0,h=>absurd rfl h
 |k+1,h=>by
  unfold writeN at h⊢;simp only at h⊢;split
  ·next h1=>exact nf p l b k h1
  ·next h1=>rw[if_neg h1]at h;exact mK h
theorem qT(hd:p.down=false)(l:LG)(b:List Int):∀k,(writeN p l b k).2=0→(writeN p l b k).1.down=false
 | 0,_=>hd
 |k+1,h=>by
  unfold writeN at h⊢;simp only at h⊢;split
  ·next h1=>rw[if_pos h1]at h;exact absurd h h1
  ·next h1=>
   rw[if_neg h1]at h;exact kV h (qT hd l b k (by simpa using h1))
theorem jD(p:DP)(l:LG)(b:List Int):((aD p l b).2.2=0∧(aD p l b).2.1=l.step b∧(p.down=false→(aD p l b).1.down=false))∨aD p l b=(p,l,8)∨gh (aD p l b).2.2=true:=by
 unfold aD;split
 ·exact .inr (.inr rfl)
 ·split
  ·exact .inr (.inr rfl)
  ·split
   ·exact .inr (.inl rfl)
   ·simp only;split
    ·next h=>exact .inr (.inr (nf p l b _ h))
    ·next h=>exact .inl ⟨rfl,rfl,fun hd=>qT hd l b _ (by simpa using h)⟩
theorem St.chain{K:List (List Int)}{su:Nat}(h:St p l l0 K su)(d:l.broken=false)(h0:l0.broken=false):l=chain l0 K:=by
 have e:=h.log;rw[d,←h0,←(be l0 K).2.2.2]at e;exact e
theorem St.bare{K:List (List Int)}{su:Nat}(h:St p l l0 K su)(f:l.broken=false):∃T,iB p l0 K su [] 0 T:=by
 obtain⟨b,m,T,-,h2,d⟩:=h.inv;obtain rfl:=h2 f;exact⟨T,d.bare []⟩
theorem lm{K:List (List Int)}{su:Nat}(h:St p l l0 K su)(j:aU b):kf (ui l0) p (aD p l b).1:=by
 obtain⟨c,m,T,-,-,i⟩:=h.inv;have hl:=h.log;have d:l.size=l0.size:=by rw[hl];exact(be l0 K).2.1
 have f:l.first=l0.first:=by rw[hl];exact(be l0 K).1
 have g:l.used=(Go.Proofs.YtfchcdbfalgdlaaGreatDoor.chain l0 K).used:=by rw[hl]
 refine(Bj p l j (by rw[d,g];exact i.room)).mono fun a ⟨x,k,e⟩=>⟨x,by rw[←d];exact k,by rw[e];unfold fw;rw[f]⟩
theorem sO(h0:l0.broken=false):∀(bs:List (List Int)) (d:List (List Int)) (p:DP) (l:LG),(∀b∈bs,gH b)→p.down=false→St p l l0 d 0→l.broken=false→
    kf (ui l0) p (dY p l bs).1∧(((dY p l bs).2.2=0∧(dY p l bs).1.down=false∧(dY p l bs).2.1=chain l0 (d++bs)∧∃T,iB (dY p l bs).1 l0 (d++bs) 0 [] 0 T)∨
     ((dY p l bs).2.2=8∧(dY p l bs).1.down=false∧∃v T,iB (dY p l bs).1 l0 v 0 [] 0 T)∨((dY p l bs).2.2≠0∧gh (dY p l bs).2.2=true))
 | [],d,p,l,_,hd,hS,g=>by
  refine⟨.refl,.inl ⟨rfl,hd,?_,?_⟩⟩
  ·rw[List.append_nil];exact hS.chain g h0
  ·rw[List.append_nil];exact hS.bare g
 |b::bs,d,p,l,u,hd,hS,g=>by
  have j:=u b (List.mem_cons_self ..);have f:=lm hS j.2;have n:=hS.app h0 j.2;rcases jD p l b with⟨t,c2,y⟩|c|c
  ·have e:dY p l (b::bs)=dY (aD p l b).1 (aD p l b).2.1 bs:=by
    show(if(aD p l b).2.2≠0 then aD p l b else _)=_;rw[if_neg (by rw[t];simp)]
   rw[e]
   have k:St (aD p l b).1 (aD p l b).2.1 l0 (d++[b]) 0:=by
    rcases n with⟨-,h⟩|⟨h,-⟩
    ·exact h
    ·exact absurd t h
   have o:=sO h0 bs (d++[b]) _ _ (fun x B=>u x (List.mem_cons_of_mem _ B)) (y hd) k (by rw[c2];exact g);rw[List.append_assoc]at o;exact⟨f.trans o.1,o.2⟩
  ·have e:dY p l (b::bs)=(p,l,8):=by
    show(if(aD p l b).2.2≠0 then aD p l b else _)=_;rw[c,if_pos (show(8:Int)≠0 by decide)]
   rw[e];obtain⟨T,z⟩:=hS.bare g;exact⟨.refl,.inr (.inl ⟨rfl,hd,d,T,z⟩)⟩
  ·have i:(aD p l b).2.2≠0:=fun e=>by rw [e] at c;cases c
   have e:dY p l (b::bs)=aD p l b:=by
    show(if(aD p l b).2.2≠0 then aD p l b else _)=_;rw[if_pos i]
   rw[e];exact⟨f,.inr (.inr ⟨i,c⟩)⟩
theorem ru{s:List Int}(h:p.wcode a≠0):(p.doWrite a s).fresh=p.fresh∧(p.doWrite a s).sure=p.sure∧(p.Ok→(p.doWrite a s).Ok):=by
 unfold DP.wcode at h;unfold DP.doWrite;split
 ·next h1=>
  rw[if_pos h1]at h;split
  ·exact⟨rfl,rfl,fun h=>h.fall⟩
  ·next h2=>rw[if_neg h2]at h;exact absurd rfl h
 ·exact⟨rfl,rfl,fun h=>h⟩
theorem il{s:List Int}(h:p.wcode a=0)(x:Int):(p.doWrite a s).get x=if x=a then s else p.get x:=by
 unfold DP.wcode at h;unfold DP.doWrite;split
 ·next h1=>
  rw[if_pos h1]at h;split
  ·next h2=>rw[if_pos h2]at h;cases h
  ·exact iO ..
 ·next h1=>rw[if_neg h1]at h;cases h
end
section
variable {s:SW}{K:List (List Int)}
theorem kP.sweep(h:kP s K)(U:s.broken=false)(hg:s.gen+1<4294967296):∃K',kP (bm s).1 K'∧(bm s).1.t=s.t∧(bm s).1.p.size=s.p.size∧
    (((bm s).2=0∧(bm s).1.broken=false∧(bm s).1.gen=s.gen+1)∨((bm s).2≠0∧(bm s).1.broken=gh (bm s).2∧(bm s).1.gen=s.gen)):=by
 have G:=eO (g:=s.gen+1) h.n4;have H:s.gen≠4294967295:=by omega
 obtain⟨l0,d⟩:=nM (aS s.p.size (s.gen+1));obtain⟨r,V⟩:=nM (az s.p l0);have o:kf (ui l0) s.p r.1:=by rw[V];exact lZ _ _ (by rw[d];exact Nat.zero_le _)
 have y:∀(q:DP) (c:Int),c≠0→q.Ok→q.size=s.p.size→(∀a,¬ui l0 a→yL s.p q a)→(gh c=false→q.down=false∧∀x:Nat,x<hlf s.p.size→q.fresh (fw l0 x)≠none→aQ ((q.get (fw l0 x)).take 4)=s.gen+1)→
     (bm s)=({s with p:=q,broken:=gh c},c)→∃K',kP (bm s).1 K'∧(bm s).1.t=s.t∧(bm s).1.p.size=s.p.size∧
      (((bm s).2=0∧(bm s).1.broken=false∧(bm s).1.gen=s.gen+1)∨((bm s).2≠0∧(bm s).1.broken=gh (bm s).2∧(bm s).1.gen=s.gen)):=by
  intro q c hc b9 S ho hk e;rw[e];refine⟨K,h.away b9 S (by rw[←d];exact ho) (gh c) (fun B=>⟨U,(hk B).1,by rw[←d];exact(hk B).2⟩),rfl,S,.inr ⟨hc,rfl,rfl⟩⟩
 have E:∀x,dt s=x→x.2.2≠0→bm s=({s with p:=x.1,broken:=gh x.2.2},x.2.2):=fun x e k=>by
  unfold bm;rw[if_neg (by rw[U];simp),if_neg H,e];simp only;rw[if_pos k]
 by_cases F:r.2=0
 case neg=>
  have e:dt s=(r.1,l0,r.2):=by
   unfold dt;simp only;rw[←d,←V,if_pos F]
  obtain⟨o1,o2⟩:=o.ok h.ok;have B:gh r.2=true:=by rw[V]at F⊢;exact yE F
  exact y r.1 r.2 F o1 o2 (fun a ha=>o.out ha) (fun e=>by rw[B]at e;cases e) (E _ e F)
 obtain⟨d1,d2⟩:r.1.down=false∧iB r.1 l0 [] 0 [] 0 (fun _=>none):=by
  rw[V,d];refine uh h.ok (h.up U) G.2.1 hg (by omega) (h.rest U) ?_;rw[V,d]at F;exact F
 obtain⟨bs,J⟩:=nM ((jb s.t).map ba);have b3:∀b∈bs,gH b:=by rw[J];exact Bk h.tok
 have n:l0.broken=false:=by rw[d];rfl
 have z:=sO n bs [] r.1 l0 b3 d1 ⟨rfl,[],0,_,.inl rfl,fun _=>rfl,d2⟩ n;obtain⟨a,ha⟩:=nM (dY r.1 l0 bs);rw[←ha,List.nil_append]at z;obtain⟨b0,z⟩:=z;have D:=o.trans b0;obtain⟨o1,o2⟩:=D.ok h.ok
 have i:dt s=if a.2.2≠0 then a else if a.1.scode≠0 then(a.1.doSync,a.2.1,a.1.scode)else((bS a.1.doSync (s.gen+1)).1,a.2.1,(bS a.1.doSync (s.gen+1)).2):=by
  unfold dt;simp only;rw[←d,←V,if_neg (by rw[F];simp),←J,←ha]
 rcases z with⟨c2,d3,d4,T,hT⟩|⟨c2,d3,K2,T,hT⟩|⟨c2,v⟩
 ·
  have c':a.1.scode=0:=by unfold DP.scode;rw[d3];rfl
  have Z:a.1.doSync=a.1.sync:=by unfold DP.doSync;rw[d3];rfl
  rw[if_neg (by rw[c2];simp),if_neg (by rw[c'];simp),Z]at i;have Y:=hT.sync;have f:kf (ui l0) s.p a.1.sync:=by rw[←Z];exact D.sync
  obtain⟨u,N⟩:=nM (a.1.sync);rw[←N]at i Y f;have c0:∀x,u.fresh x=none:=fun x=>by rw[N];rfl
  have b8:u.down=false:=by rw[N];exact d3
  obtain⟨p1,p2⟩:=f.ok h.ok
  by_cases v:u.wcode (((s.gen+1)%2:Nat):Int)=0
  case neg=>
   have e:dt s=(u.doWrite (((s.gen+1)%2:Nat):Int) (dj (s.gen+1)),a.2.1,u.wcode (((s.gen+1)%2:Nat):Int)):=by
    rw[i];unfold bS;rw[if_pos v]
   obtain⟨f1,f2,f3⟩:=ru (s:=dj (s.gen+1)) v;refine y _ _ v (f3 p1) (by rw[DP.doWrite_size];exact p2) (fun x k=>?_) (fun e=>by rw[mK v]at e;cases e) (E _ e v);have X:=f.out k;unfold yL bU at X⊢;rw[f1,f2];exact X
  ·have M:=kV (s:=dj (s.gen+1)) v b8;obtain⟨j,O⟩:=nM ((u.doWrite (((s.gen+1)%2:Nat):Int) (dj (s.gen+1))).doSync)
   have e:dt s=(j,a.2.1,0):=by
    rw[i];unfold bS;rw[if_neg (by rw[v];simp),←O];have:(u.doWrite (((s.gen+1)%2:Nat):Int) (dj (s.gen+1))).scode=0:=by unfold DP.scode;rw[M];rfl
    rw[this]
   have I:kf (fun x=>x=(((s.gen+1)%2:Nat):Int)) u j:=by rw[O];exact(kf.write (R:=fun x=>x=(((s.gen+1)%2:Nat):Int)) kf.refl rfl (fq (s.gen+1))).sync
   obtain⟨r1,r2⟩:=I.ok p1;have S:j.size=s.p.size:=r2.trans p2;have P:j=(u.doWrite (((s.gen+1)%2:Nat):Int) (dj (s.gen+1))).sync:=by rw[O];unfold DP.doSync;rw[M];rfl
   have C:∀x,j.fresh x=none:=fun x=>by rw[P];rfl
   have b7:∀x,bU j x=if x=(((s.gen+1)%2:Nat):Int)then dj (s.gen+1)else u.get x:=fun x=>by
    rw[←ce (C x),P,eI,il v]
   have e2:bm s=({s with p:=j,l:=a.2.1,gen:=s.gen+1},0):=by
    unfold bm;rw[if_neg (by rw[U];simp),if_neg H,e];simp only;rw[if_neg (by simp)]
   rw[e2]
   have b':u.get ((s.gen%2:Nat):Int)=dj s.gen:=by
    have X:=eX (f.out (by rw[d];exact gm (a:=s.gen%2) (by omega))) h.man.1;rw[ce X.1,X.2];exact h.man.2
   have b1:(s.gen+1+1)%2=s.gen%2:=by omega
   refine⟨bs,⟨r1,by show 4≤j.size;rw[S];exact h.n4,by show 1≤s.gen+1;omega,hg,⟨C _,by rw[show bU _ _=_ from b7 _,if_pos rfl]⟩,⟨C _,.inr ⟨s.gen,by show s.gen<s.gen+1;omega,?_⟩⟩,?_,fun _=>?_,⟨[],0,T,.inl rfl,fun _=>rfl,?_⟩,fun _ x _ k=>absurd (C _) k,fun _=>?_,⟨aZ s.t,by rw[J];exact uR h.tok,ei s.t⟩,h.tok⟩,rfl,S,.inl ⟨rfl,U,rfl⟩⟩
   ·show bU j (((s.gen+1+1)%2:Nat):Int)=dj s.gen;rw[b7,b1,if_neg (by omega),b']
   ·show a.2.1={chain (aS j.size (s.gen+1)) bs with broken:=a.2.1.broken}
    rw[S,←d,d4]
   ·show a.2.1.broken=false;rw[d4,(be _ _).2.2.2,n]
   ·show iB j (aS j.size (s.gen+1)) bs bs.length [] 0 T;rw [S,←d];refine Y.out r1 r2 fun x k=>I.out fun e=> ?_
    rw[d]at e;have hn:2≤fH (s.gen+1) s.p.size:=G.2.2;have e':(((fH (s.gen+1) s.p.size)+x:Nat):Int)=(((s.gen+1)%2:Nat):Int):=e;omega
   ·show j.down=false;rw[P];exact M
 ·
  have e:dt s=a:=by rw[i,if_pos (by rw[c2];decide)]
  refine y a.1 a.2.2 (by rw[c2];decide) o1 o2 (fun x k=>D.out k) (fun _=>⟨d3,fun x k hf=>?_⟩) (E _ e (by rw[c2];decide));have:=hT.mark (x:=x) (by rw[d];exact k) hf;rw[this,d];rfl
 ·have e:dt s=a:=by rw [i,if_pos c2]
  exact y a.1 a.2.2 c2 o1 o2 (fun x k=>D.out k) (fun e=>by rw[v]at e;cases e) (E _ e c2)
end
end Go.Proofs.YtfchcdbfalgdlaaGreatDoor
