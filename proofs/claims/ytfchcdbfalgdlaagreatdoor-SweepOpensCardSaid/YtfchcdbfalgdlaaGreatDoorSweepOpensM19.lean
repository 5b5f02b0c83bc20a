/- Texts of one proof. No condition but each one's own. -/
import Derived.Test.YtfchcdbfalgdlaaGreatDoorSweepOpensM17
import Derived.Test.YtfchcdbfalgdlaaGreatDoorSweepOpensM18
set_option maxHeartbeats 4000000
set_option maxRecDepth 100000
set_option linter.unusedVariables false
set_option linter.unusedSimpArgs false
namespace Go.Proofs.YtfchcdbfalgdlaaGreatDoor
open _root_.Go.Proofs.Tryz
open Go.RowKit Go.Sort
def fw(l0:LG)(x:Nat):Int:=((l0.first+x:Nat):Int)
theorem wM{l0:LG}{x y:Nat}(h:fw l0 x=fw l0 y):x=y:=by unfold fw at h;omega
def bU(p:DP)(a:Int):List Int:=(p.sure a).getD aw
theorem ce{p:DP}{a:Int}(h:p.fresh a=none):p.get a=bU p a:=by unfold DP.get bU;rw[h]
theorem nC{p:DP}{l0:LG}{K:List (List Int)}{i:Nat}(h:l0.first+((chain l0 K).used+i)<p.size):sct p (chain l0 K) i=p.get (fw l0 ((chain l0 K).used+i)):=by
 unfold sct fw DP.rget DP.within;rw[(be l0 K).1,Nat.add_assoc,if_pos (decide_eq_true (by omega))]
structure TK(l0:LG)(K:List (List Int))(b:List Int)(m:Nat)(T:Nat→Option (List Int)):Prop where
 recs:∀j (hj:j<K.length) i,i<ay K[j].length→T ((chain l0 (K.take j)).used+i)=some ((chain l0 (K.take j)).sec K[j] i)
 part:∀i,i<m→T ((chain l0 K).used+i)=some ((chain l0 K).sec b i)
 rest:∀x,(chain l0 K).used+m≤x→T x=none
structure iB(p:DP)(l0:LG)(K:List (List Int))(su:Nat)(b:List Int)(m:Nat)(T:Nat→Option (List Int)):Prop where
 pok:p.Ok
 lok:l0.Ok p.size
 z:l0.used=0
 g0:l0.gen≠0
 good:∀x∈K,gH x
 room:(chain l0 K).used≤l0.size
 part:m=0∨(gH b∧m≤ay b.length∧(chain l0 K).used+ay b.length≤l0.size)
 sul:su≤K.length
 tk:TK l0 K b m T
 fresh:∀x:Nat,x<l0.size→p.fresh (fw l0 x)=none∨(T x≠none∧p.fresh (fw l0 x)=T x)
 sure:∀x:Nat,x<l0.size→T x=some (bU p (fw l0 x))∨iJ l0.gen (bU p (fw l0 x))
 safe:∀j (hj:j<K.length),j<su→∀i,i<ay K[j].length→bU p (fw l0 ((chain l0 (K.take j)).used+i))=(chain l0 (K.take j)).sec K[j] i
 now:∀x,x<l0.size→∀S,T x=some S→p.get (fw l0 x)=S
def vH(T:Nat→Option (List Int))(y:Nat)(S:List Int):Nat→Option (List Int):=fun x=>if x=y then some S else T x
section
variable {p:DP}{l0:LG}{K:List (List Int)}{su:Nat}{b:List Int}{m:Nat}{T:Nat→Option (List Int)}
theorem iM{j:Nat}(c:j<K.length){i:Nat}(hi:i<ay K[j].length):(chain l0 (K.take j)).used+i<(chain l0 K).used:=by
 have h1:=gJ (l:=l0) c;have h2:=jH (l:=l0) (K:=K) (j:=j+1) (k:=K.length) c (Nat.le_refl _);rw[fM]at h2;omega
theorem iB.bare(h:iB p l0 K su b 0 T)(c:List Int):iB p l0 K su c 0 T:=
 ⟨h.pok,h.lok,h.z,h.g0,h.good,h.room,.inl rfl,h.sul,⟨h.tk.recs,fun _ hi=>absurd hi (by omega),h.tk.rest⟩,h.fresh,h.sure,h.safe,h.now⟩
theorem iB.write(h:iB p l0 K su b m T)(g:gH b)(o:m<ay b.length)(n:(chain l0 K).used+ay b.length≤l0.size):
    iB (p.write (fw l0 ((chain l0 K).used+m)) ((chain l0 K).sec b m)) l0 K su b (m+1) (vH T ((chain l0 K).used+m) ((chain l0 K).sec b m)):=by
 have f:0≤fw l0 ((chain l0 K).used+m)∧fw l0 ((chain l0 K).used+m)<p.size:=by
  have:=h.lok.fit;unfold fw;omega
 refine⟨h.pok.write f (LG.sec_ok _ g.2 _),h.lok,h.z,h.g0,h.good,h.room,.inr ⟨g,o,n⟩,h.sul,⟨?_,?_,?_⟩,?_,?_,h.safe,?_⟩
 ·intro j k i hi;have:=iM (l0:=l0) k hi;unfold vH;rw[if_neg (by omega)];exact h.tk.recs j k i hi
 ·intro i hi;unfold vH
  by_cases e:i=m
  ·subst e;rw[if_pos rfl]
  ·rw[if_neg (by omega)];exact h.tk.part i (by omega)
 ·intro x c;unfold vH;rw[if_neg (by omega)];exact h.tk.rest x (by omega)
 ·intro x c;show sH p.fresh _ _ _=none∨_∧sH p.fresh _ _ _=_;unfold vH sH
  by_cases e:x=(chain l0 K).used+m
  ·subst e;rw[if_pos rfl,if_pos rfl];exact .inr ⟨by simp,rfl⟩
  ·rw[if_neg (fun d=>e (wM d)),if_neg e];exact h.fresh x c
 ·intro x c;show _=some (bU p _)∨iJ _ (bU p _);unfold vH
  by_cases e:x=(chain l0 K).used+m
  ·subst e;rcases h.sure _ c with h1 | h1
   ·rw[h.tk.rest _ (Nat.le_refl _)]at h1
    cases h1
   ·exact .inr h1
  ·rw[if_neg e];exact h.sure x c
 ·intro x c S hS;rw[iO];unfold vH at hS
  by_cases e:x=(chain l0 K).used+m
  ·subst e;rw[if_pos rfl]at hS;rw[if_pos rfl];injection hS
  ·rw[if_neg e]at hS;rw[if_neg (fun d=>e (wM d))];exact h.now x c S hS
theorem iB.fall(h:iB p l0 K su b m T):iB p.fall l0 K su b m T:=⟨h.pok.fall,h.lok,h.z,h.g0,h.good,h.room,h.part,h.sul,h.tk,h.fresh,h.sure,h.safe,h.now⟩
theorem iB.sync(h:iB p l0 K su b m T):iB p.sync l0 K K.length b m T:=by
 have f:∀a,bU p.sync a=p.get a:=fun a=>by
  unfold bU DP.sync DP.get
  cases hf:p.fresh a<;>simp[hf]
 refine⟨h.pok.sync,h.lok,h.z,h.g0,h.good,h.room,h.part,Nat.le_refl _,h.tk,fun x c=>.inl rfl,fun x c=>?_,fun j d _ i hi=>?_,fun x c S hS=>?_⟩
 ·rw [f];rcases h.fresh x c with h1 | ⟨h1,h2⟩
  ·rw[ce h1];exact h.sure x c
  ·cases hT:T x with
   |none=>exact absurd hT h1
   |some S=>rw[h.now x c S hT];exact .inl rfl
 ·rw[f];have h1:=iM (l0:=l0) d hi;exact h.now _ (by have:=h.room;omega) _ (h.tk.recs j d i hi)
 ·rw[eI];exact h.now x c S hS
theorem iB.done(h:iB p l0 K su b (ay b.length) T)(k:gH b)(n:(chain l0 K).used+ay b.length≤l0.size):iB p l0 (K++[b]) su [] 0 T:=by
 have hu:(chain l0 (K++[b])).used=(chain l0 K).used+ay b.length:=by rw[kU];rfl
 have ht:∀j,j<K.length→(K++[b]).take j=K.take j:=fun j d=>List.take_append_of_le_length (by omega)
 refine⟨h.pok,h.lok,h.z,h.g0,fun x c=>?_,by rw[hu];exact n,.inl rfl,by rw[List.length_append];have:=h.sul;omega,⟨fun j d i hi=>?_,fun i hi=>absurd hi (by omega),fun x c=>h.tk.rest x (by rw[hu]at c;omega)⟩,h.fresh,h.sure,fun j d o i hi=>?_,h.now⟩
 ·rcases List.mem_append.1 c with c | c
  ·exact h.good x c
  ·rw[List.mem_singleton]at c;rw[c];exact k
 ·rw[List.length_append,List.length_singleton]at d
  by_cases e:j<K.length
  ·rw[ht j e,List.getElem_append_left e];rw[List.getElem_append_left e]at hi;exact h.tk.recs j e i hi
  ·obtain rfl:j=K.length:=by omega
   have f:(K++[b])[K.length]=b:=by simp
   have g:(K++[b]).take K.length=K:=by simp
   rw[f]at hi;rw[f,g];exact h.tk.part i hi
 ·have e:j<K.length:=by have:=h.sul;omega
  rw[ht j e,List.getElem_append_left e];rw[List.getElem_append_left e]at hi;exact h.safe j e o i hi
theorem iB.writes(h:iB p l0 K su b 0 T)(d:gH b)(f:(chain l0 K).used+ay b.length≤l0.size):∀k,k≤ay b.length→
    ((writeN p (chain l0 K) b k).2=0∧∃c,iB (writeN p (chain l0 K) b k).1 l0 K su b k c)∨((writeN p (chain l0 K) b k).2≠0∧∃m c,m<ay b.length∧iB (writeN p (chain l0 K) b k).1 l0 K su b m c)
 | 0,_=>.inl ⟨rfl,T,h⟩
 |k+1,i=>by
  rcases iB.writes h d f k (by omega)with⟨h1,c,h2⟩|⟨h1,h2⟩
  ·have e:writeN p (chain l0 K) b (k+1)=((writeN p (chain l0 K) b k).1.doWrite (fw l0 ((chain l0 K).used+k)) ((chain l0 K).sec b k),(writeN p (chain l0 K) b k).1.wcode (fw l0 ((chain l0 K).used+k))):=by
    simp only[writeN];rw[if_neg (by rw[h1];simp),(be l0 K).1];unfold fw;rw[Nat.add_assoc]
   rw[e]
   have g:(writeN p (chain l0 K) b k).1.within (fw l0 ((chain l0 K).used+k))=true:=decide_eq_true (by
    have:=h2.lok.fit;unfold fw
    omega)
   unfold DP.doWrite DP.wcode;rw[if_pos g,if_pos g]
   by_cases hd:(writeN p (chain l0 K) b k).1.fuse=0∨(writeN p (chain l0 K) b k).1.down=true
   ·rw[if_pos hd,if_pos hd];exact .inr ⟨by show(14:Int)≠0;decide,k,c,by omega,h2.fall⟩
   ·rw[if_neg hd,if_neg hd];exact .inl ⟨rfl,_,h2.write d (by omega) f⟩
  ·have e:writeN p (chain l0 K) b (k+1)=writeN p (chain l0 K) b k:=by
    simp only[writeN];rw[if_pos h1]
   rw[e];exact .inr ⟨h1,h2⟩
end
structure St(p:DP)(l l0:LG)(K:List (List Int))(su:Nat):Prop where
 log:l={chain l0 K with broken:=l.broken}
 inv:∃b m T,(m=0∨m<ay b.length)∧(l.broken=false→m=0)∧iB p l0 K su b m T
section
variable {p:DP}{l l0:LG}{K:List (List Int)}{su:Nat}
theorem St.app(h:St p l l0 K su)(h0:l0.broken=false){b:List Int}(n:aU b):
    ((aD p l b).2.2=0∧St (aD p l b).1 (aD p l b).2.1 l0 (K++[b]) su)∨((aD p l b).2.2≠0∧St (aD p l b).1 (aD p l b).2.1 l0 K su):=by
 unfold aD
 by_cases d:ay b.length=0
 ·rw[if_pos d];exact .inr ⟨by show(2:Int)≠0;decide,h⟩
 rw[if_neg d]
 by_cases c2:l.broken=true
 ·rw[if_pos c2];exact .inr ⟨by show(10:Int)≠0;decide,h⟩
 rw[if_neg c2]
 by_cases i:l.size-l.used<ay b.length
 ·rw[if_pos i];exact .inr ⟨by show(8:Int)≠0;decide,h⟩
 rw[if_neg i];have c:l.broken=false:=by simpa using c2
 obtain⟨u,m,T,h1,h2,k⟩:=h.inv;obtain rfl:=h2 c
 have hl:l=chain l0 K:=by
  have e:=h.log;rw[c,←h0,←(be l0 K).2.2.2]at e;exact e
 have s:=(be l0 K).2.1;rw[hl]at i;have o:(chain l0 K).used+ay b.length≤l0.size:=by have:=k.room;omega
 have t:=(k.bare b).writes ⟨d,n⟩ o (ay b.length) (Nat.le_refl _);simp only;rw[hl];rcases t with⟨f,g,j⟩|⟨f,m,g,r,j⟩
 ·rw[if_neg (by rw[f];simp)];refine .inl ⟨rfl,⟨?_,[],0,g,.inl rfl,fun _=>rfl,j.done ⟨d,n⟩ o⟩⟩;show(chain l0 K).step b={chain l0 (K++[b])with broken:=((chain l0 K).step b).broken}
  rw[kU]
 ·rw[if_pos f];exact .inr ⟨f,⟨rfl,b,m,g,.inr r,(fun e=>by cases e),j⟩⟩
end
structure js(p:DP):Prop where
 ok:p.Ok
 fresh:∀x,p.fresh x=none
 fuse:p.fuse=-1
 up:p.down=false
theorem js.cut{p:DP}(h:p.Ok)(c:List Bool):js (p.cut c):=⟨h.cut c,fun _=>rfl,rfl,rfl⟩
theorem js.new{n:Nat}(h1:1≤n)(h2:n≤16384):js (DP.new n):=⟨DP.new_ok h1 h2,fun _=>rfl,rfl,rfl⟩
structure xo(q:DP)(l0:LG)(K:List (List Int))(su:Nat)(b:List Int)(m:Nat)(T:Nat→Option (List Int)):Prop where
 cl:js q
 lok:l0.Ok q.size
 z:l0.used=0
 g0:l0.gen≠0
 good:∀x∈K,gH x
 room:(chain l0 K).used≤l0.size
 part:m=0∨(b.length≤65536∧m<ay b.length∧(chain l0 K).used+ay b.length≤l0.size)
 sul:su≤K.length
 tk:TK l0 K b m T
 sure:∀x:Nat,x<l0.size→T x=some (q.get (fw l0 x))∨iJ l0.gen (q.get (fw l0 x))
 safe:∀j (hj:j<K.length),j<su→∀i,i<ay K[j].length→q.get (fw l0 ((chain l0 (K.take j)).used+i))=(chain l0 (K.take j)).sec K[j] i
section
variable {p q:DP}{l0:LG}{K:List (List Int)}{su:Nat}{b:List Int}{m:Nat}{T:Nat→Option (List Int)}
theorem iB.cut(h:iB p l0 K su b m T)(r:m=0∨m<ay b.length)(c:List Bool):xo (p.cut c) l0 K su b m T:=by
 have o:∀x,(p.cut c).get x=bU p x∨(p.fresh x≠none∧p.fresh x=some ((p.cut c).get x)):=fun x=>by
  have e:(p.cut c).get x=(jc p c p.order.length x).getD aw:=rfl;rw[e];rcases rp h.pok c p.order.length (Nat.le_refl _) x with h1|⟨h1,h2⟩
  ·rw[h1];exact .inl rfl
  ·rw[h2]
   cases hf:p.fresh x with
   |none=>exact absurd hf h1
   |some s=>exact .inr ⟨by simp,rfl⟩
 have g:m=0∨(b.length≤65536∧m<ay b.length∧(chain l0 K).used+ay b.length≤l0.size):=by
  rcases h.part with h1|⟨h1,h2,d⟩
  ·exact .inl h1
  ·rcases r with f | f
   ·exact .inl f
   ·exact .inr ⟨(dO h1.1).2.1,f,d⟩
 refine⟨js.cut h.pok c,h.lok,h.z,h.g0,h.good,h.room,g,h.sul,h.tk,fun x k=>?_,fun j n t i hi=>?_⟩
 ·rcases o (fw l0 x) with h1 | ⟨h1,h2⟩
  ·rw[h1];exact h.sure x k
  ·rcases h.fresh x k with d | ⟨d,f⟩
   ·exact absurd d h1
   ·exact .inl (by rw[←f,h2])
 ·have u:=iM (l0:=l0) n hi;have k:(chain l0 (K.take j)).used+i<l0.size:=by have:=h.room;omega
  rcases o (fw l0 ((chain l0 (K.take j)).used+i))with h1|⟨h1,h2⟩
  ·rw[h1];exact h.safe j n t i hi
  ·rcases h.fresh _ k with d | ⟨d,f⟩
   ·exact absurd d h1
   ·rw[f,h.tk.recs j n i hi]at h2;injection h2 with h2;exact h2.symm
def mS(q:DP)(l0:LG)(K:List (List Int))(j:Nat):Prop:=∀(c:j<K.length) i,i<ay K[j].length→q.get (fw l0 ((chain l0 (K.take j)).used+i))=(chain l0 (K.take j)).sec K[j] i
theorem xo.upto(h:xo q l0 K su b m T):∀n,n≤K.length→∃j,j≤n∧(∀c,c<j→mS q l0 K c)∧(j=n∨¬mS q l0 K j)
 | 0,_=>⟨0,Nat.le_refl _,fun _ h=>absurd h (by omega),.inl rfl⟩
 |n+1,i=>by
  obtain⟨j,h1,h2,d⟩:=xo.upto h n (by omega);rcases d with rfl|d
  ·by_cases f:mS q l0 K j
   ·refine⟨j+1,Nat.le_refl _,fun c g=>?_,.inl rfl⟩
    by_cases e:c=j
    ·rw[e];exact f
    ·exact h2 c (by omega)
   ·exact⟨j,by omega,h2,.inr f⟩
  ·exact⟨j,by omega,h2,.inr d⟩
theorem xo.at_(h:xo q l0 K su b m T):∀j,j≤K.length→(∀d,d<j→mS q l0 K d)→runs q l0 j=(chain l0 (K.take j),K.take j)
 | 0,_,_=>by simp[runs,chain]
 |j+1,s,o=>by
  have r:=xo.at_ h j (by omega) (fun d t=>o d (by omega));have c:j<K.length:=by omega
  have u:=(be l0 (K.take j)).2.1;have h1:=jH (l:=l0) (K:=K) (j:=j+1) (k:=K.length) s (Nat.le_refl _);rw[fM,gJ c]at h1;have f:=h.room;have g:=h.lok.fit
  have n:=rM (p:=q) h.cl.ok (l:=chain l0 (K.take j)) (b:=K[j]) (h.good _ (List.getElem_mem _)) (by omega) (fun i hi=>by
   rw[nC (by omega)]
   exact o j (by omega) c i hi)
  rw[fa (b:=K[j]) (by rw[r];rw[jf n.1,n.2]),r,nU c,List.take_succ_eq_append_getElem c]
theorem xo.stop(h:xo q l0 K su b m T){j:Nat}(C:j≤K.length)(G:j=K.length∨¬mS q l0 K j):¬(chain l0 (K.take j)).Next q:=by
 obtain⟨I,J,r,L⟩:=be l0 (K.take j);have v:=h.lok.fit;have u:=h.room;have c:(chain l0 (K.take j)).gen<4294967296:=by rw[r];exact h.lok.gen
 have t:=jH (l:=l0) (K:=K) C (Nat.le_refl _);rw[fM]at t
 by_cases y:(chain l0 (K.take j)).used<l0.size
 ·have k:sct q (chain l0 (K.take j)) 0=q.get (fw l0 (chain l0 (K.take j)).used):=by rw [nC (by omega),Nat.add_zero]
  rcases h.sure _ y with h1|h1
  ·by_cases d:j<K.length
   ·have H:¬mS q l0 K j:=by rcases G with h2 | h2;exact absurd h2 (by omega);exact h2
    have f:=h.tk.recs j d 0 (by have:=(h.good _ (List.getElem_mem d)).1;omega);rw[Nat.add_zero,h1]at f;injection f with f;have o:sct q (chain l0 (K.take j)) 0=(chain l0 (K.take j)).sec K[j] 0:=by rw[k,f]
    have h2:=dO (h.good _ (List.getElem_mem d)).1
    obtain⟨i,hi,n⟩:∃i,i<ay K[j].length∧q.get (fw l0 ((chain l0 (K.take j)).used+i))≠(chain l0 (K.take j)).sec K[j] i:=by
     refine Classical.byContradiction fun B=>H fun _ i hi=>Classical.byContradiction fun z=>B ⟨i,hi,z⟩
    have D:=iM (l0:=l0) d hi;refine qu c h2.2.1 o hi ?_;rw[nC (by omega),r];rcases h.sure ((chain l0 (K.take j)).used+i) (by omega)with g|g
    ·rw[h.tk.recs j d i hi]at g;injection g with g;exact absurd g.symm n
    ·exact g
   ·obtain rfl:j=K.length:=by omega
    rw[fM]at*
    by_cases E:m=0
    ·rw[h.tk.rest _ (by omega)]at h1
     cases h1
    ·obtain ⟨h2,g,M⟩:=h.part.resolve_left E;have f:=h.tk.part 0 (by omega);rw [Nat.add_zero,h1] at f;injection f with f;refine qu c h2 (by rw [k,f]) g ?_;rw [nC (by omega),r];rcases h.sure ((chain l0 K).used+m) (by omega) with s | s
     ·rw[h.tk.rest _ (Nat.le_refl _)]at s
      cases s
     ·exact s
  ·exact xR c (by rw[k,r];exact h1)
 ·exact fun F=>y (by have:=F.room;omega)
theorem xo.run(h:xo q l0 K su b m T):∃j,su≤j∧j≤K.length∧runL q l0=(chain l0 (K.take j),K.take j)∧∀n,n<j→mS q l0 K n:=by
 obtain⟨j,h1,h2,c⟩:=h.upto K.length (Nat.le_refl _);have g:=h.at_ j h1 h2;have s:=pW (l:=l0) h.good j h1;have f:=h.room;have d:=jH (l:=l0) (K:=K) h1 (Nat.le_refl _);rw[fM]at d;refine⟨j,?_,h1,?_,h2⟩
 ·rcases c with rfl | c
  ·exact h.sul
  ·refine Classical.byContradiction fun r=>c fun o i hi=>h.safe j o (by omega) i hi
 ·rw[sa (k:=j) (by omega) (by rw[g];exact ci (h.stop h1 c)),g]
theorem tC{l0:LG}(f:l0.used=0):∀{K:List (List Int)} {x:Nat},x<(chain l0 K).used→∃(j:Nat) (d:j<K.length) (i:Nat),i<ay K[j].length∧x=(chain l0 (K.take j)).used+i:=by
 intro K
 suffices h:∀n,n≤K.length→∀x,x<(chain l0 (K.take n)).used→∃(j:Nat) (d:j<K.length) (i:Nat),i<ay K[j].length∧x=(chain l0 (K.take j)).used+i by
  intro x c;exact h K.length (Nat.le_refl _) x (by rw[fM];exact c)
 intro n
 induction n with
 |zero=>intro _ x c;simp[chain,f]at c
 |succ n g=>
  intro k x c
  by_cases h:x<(chain l0 (K.take n)).used
  ·exact g (by omega) x h
  ·rw[gJ (by omega)]at c;exact⟨n,by omega,x-(chain l0 (K.take n)).used,by omega,by omega⟩
structure CM(q q2:DP)(l:LG)(k:Nat):Prop where
 ok:q2.Ok
 size:q2.size=q.size
 fuse:q2.fuse=-1
 up:q2.down=false
 get:∀a:Int,q2.get a=q.get a∨∃i,i<k∧a=((l.first+l.used+i:Nat):Int)
 no:∀i,i<k→iJ l.gen (q2.get ((l.first+l.used+i:Nat):Int))
theorem wI{g:Nat}(h:g≠0):iJ g aw:=fun e=>h (by rw[←e];rfl)
theorem qS(cl:js q){l:LG}(n:l.first+l.size≤q.size)(g0:l.gen≠0):∀k,l.used+k≤l.size→
    (wipeN q l k).2.2=0∧CM q (wipeN q l k).1 l k∧((wipeN q l k).2.1=false→(wipeN q l k).1=q)
 | 0,_=>⟨rfl,⟨cl.ok,rfl,cl.fuse,cl.up,fun _=>.inl rfl,fun i hi=>absurd hi (by omega)⟩,fun _=>rfl⟩
 |k+1,o=>by
  obtain⟨h1,h2,j⟩:=qS cl n g0 k (by omega);have g:(wipeN q l k).1.within ((l.first+l.used+k:Nat):Int)=true:=decide_eq_true (by rw[h2.size];omega)
  by_cases f:aQ ((sct (wipeN q l k).1 l k).take 4)=l.gen
  ·rw [kB h1 f];have hd:¬((wipeN q l k).1.fuse=0∨(wipeN q l k).1.down=true):=by rw [h2.fuse,h2.up];simp
   unfold DP.doWrite DP.wcode;simp only[if_pos g,if_neg hd,if_true];refine⟨trivial,⟨h2.ok.write (by rw[h2.size];omega) aX,h2.size,?_,h2.up,fun a=>?_,fun i hi=>?_⟩,fun e=>by cases e⟩
   ·show(if 0<(wipeN q l k).1.fuse then _ else(wipeN q l k).1.fuse)=-1;rw[h2.fuse];rfl
   ·rw[iO]
    by_cases e:a=((l.first+l.used+k:Nat):Int)
    ·exact .inr ⟨k,by omega,e⟩
    ·rw [if_neg e];rcases h2.get a with c | ⟨i,c,d⟩
     ·exact .inl c
     ·exact .inr ⟨i,by omega,d⟩
   ·rw[iO]
    by_cases e:i=k
    ·rw[if_pos (by rw[e])];exact wI g0
    ·rw[if_neg (by omega)];exact h2.no i (by omega)
  ·rw[jo h1 f];refine⟨h1,⟨h2.ok,h2.size,h2.fuse,h2.up,fun a=>?_,fun i hi=>?_⟩,j⟩
   ·rcases h2.get a with c | ⟨i,c,d⟩
    ·exact .inl c
    ·exact .inr ⟨i,by omega,d⟩
   ·by_cases e:i=k
    ·subst e;have:sct (wipeN q l i).1 l i=(wipeN q l i).1.get ((l.first+l.used+i:Nat):Int):=if_pos g;rw[←this];exact f
    ·exact h2.no i (by omega)
theorem AU(cl:js q){l:LG}(f:l.first+l.size≤q.size)(hu:l.used≤l.size)(g0:l.gen≠0):
    (az q l).2=0∧CM q (az q l).1 l (l.size-l.used)∧js (az q l).1:=by
 obtain⟨h1,h2,d⟩:=qS cl f g0 (l.size-l.used) (by omega);unfold az;simp only;rw[if_neg (by rw[h1];simp)]
 by_cases c:(wipeN q l (l.size-l.used)).2.1=true
 ·rw[if_pos c];unfold DP.doSync DP.scode;rw[if_neg (by rw[h2.up];simp),if_neg (by rw[h2.up];simp)];exact⟨rfl,⟨h2.ok.sync,h2.size,h2.fuse,h2.up,fun a=>by rw[eI];exact h2.get a,fun i hi=>by rw[eI];exact h2.no i hi⟩,⟨h2.ok.sync,fun _=>rfl,h2.fuse,h2.up⟩⟩
 ·rw[if_neg c];refine⟨rfl,h2,?_⟩;show js (wipeN q l (l.size-l.used)).1;rw[d (by simpa using c)];exact cl
theorem xo.wipe(h:xo q l0 K su b m T){j:Nat}(I:j≤K.length)(G:∀H,H<j→mS q l0 K H):
    (az q (chain l0 (K.take j))).2=0∧js (az q (chain l0 (K.take j))).1∧(az q (chain l0 (K.take j))).1.size=q.size∧
     iB (az q (chain l0 (K.take j))).1 l0 (K.take j) j [] 0 (fun x=>if x<(chain l0 (K.take j)).used then T x else none):=by
 obtain⟨v,C,D,J⟩:=be l0 (K.take j);have y:=jH (l:=l0) (K:=K) I (Nat.le_refl _);rw[fM]at y;have B:=h.room;obtain⟨h1,h2,g⟩:=AU h.cl (l:=chain l0 (K.take j)) (by rw[v,C];exact h.lok.fit) (by omega) (by rw[D];exact h.g0);obtain⟨u,z⟩:=nM ((az q (chain l0 (K.take j))).1);rw[←z]at h2 g⊢
 have d:∀x,x<(chain l0 (K.take j)).used→u.get (fw l0 x)=q.get (fw l0 x):=fun x f=>by
  rcases h2.get (fw l0 x)with k|⟨i,k,s⟩
  ·exact k
  ·rw[v]at s;unfold fw at s;omega
 have r:∀x,x<l0.size→¬x<(chain l0 (K.take j)).used→iJ l0.gen (u.get (fw l0 x)):=fun x f hu=>by
  have k:=h2.no (x-(chain l0 (K.take j)).used) (by rw[C];omega);rw[v,D,show l0.first+(chain l0 (K.take j)).used+(x-(chain l0 (K.take j)).used)=l0.first+x by omega]at k;exact k
 have ht:∀i,i<j→(K.take j).take i=K.take i:=fun i hi=>by rw[List.take_take,Nat.min_eq_left (by omega)]
 have hl:(K.take j).length=j:=by rw[List.length_take];omega
 have o:∀i (hi:i<(K.take j).length) t,t<ay (K.take j)[i].length→(chain l0 (K.take i)).used+t<(chain l0 (K.take j)).used:=fun i hi t c=>by
  have:=iM (l0:=l0) (K:=K.take j) hi c
  rwa[ht i (by omega)]at this
 have n:∀a,bU u a=u.get a:=fun a=>(ce (g.fresh a)).symm
 refine⟨h1,g,h2.size,⟨g.ok,by rw[h2.size];exact h.lok,h.z,h.g0,fun x f=>h.good x (List.mem_of_mem_take f),by omega,.inl rfl,by omega,⟨fun i hi t c=>?_,fun i hi=>absurd hi (by omega),fun x f=>if_neg (by rw[Nat.add_zero]at f;omega)⟩,fun x f=>.inl (g.fresh _),fun x f=>?_,fun i hi _ t c=>?_,fun x f S hS=>?_⟩⟩
 ·rw[ht i (by omega),if_pos (o i hi t c),List.getElem_take];rw[List.getElem_take]at c;exact h.tk.recs i (by omega) t c
 ·rw[n]
  by_cases hu:x<(chain l0 (K.take j)).used
  ·rw[if_pos hu,d x hu];exact h.sure x f
  ·exact .inr (r x f hu)
 ·have s:=o i hi t c;rw[n,ht i (by omega),d _ s,List.getElem_take];rw[List.getElem_take]at c;exact G i (by omega) (by omega) t c
 ·split at hS
  ·next hu=>
   rw[d x hu];obtain⟨i,hi,t,c,e⟩:=tC h.z hu;rw[ht i (by omega)]at e;rw[List.getElem_take]at c;have E:=G i (by omega) (by omega) t c;have F:=h.tk.recs i (by omega) t c;rw[←e]at E F;rw[F]at hS;injection hS with hS;rw[←hS,E]
  ·cases hS
end
end Go.Proofs.YtfchcdbfalgdlaaGreatDoor
