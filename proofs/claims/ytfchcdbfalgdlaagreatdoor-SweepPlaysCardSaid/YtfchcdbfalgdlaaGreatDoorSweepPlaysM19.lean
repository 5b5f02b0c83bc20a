/- Texts of one proof. No condition but each one's own. -/
import Derived.Test.YtfchcdbfalgdlaaGreatDoorSweepPlaysM17
import Derived.Test.YtfchcdbfalgdlaaGreatDoorSweepPlaysM18
set_option maxHeartbeats 4000000
set_option maxRecDepth 100000
set_option linter.unusedVariables false
set_option linter.unusedSimpArgs false
namespace Go.Proofs.YtfchcdbfalgdlaaGreatDoor
open _root_.Go.Proofs.Tryz
open Go.RowKit Go.Sort
def fQ(l0:LG)(x:Nat):Int:=((l0.first+x:Nat):Int)
theorem yF{l0:LG}{x y:Nat}(h:fQ l0 x=fQ l0 y):x=y:=by unfold fQ at h;omega
def ci(p:DP)(a:Int):List Int:=(p.sure a).getD az
theorem cG{p:DP}{a:Int}(h:p.fresh a=none):p.get a=ci p a:=by unfold DP.get ci;rw[h]
theorem oJ{p:DP}{l0:LG}{K:List (List Int)}{i:Nat}(h:l0.first+((chain l0 K).used+i)<p.size):sct p (chain l0 K) i=p.get (fQ l0 ((chain l0 K).used+i)):=by
 unfold sct fQ DP.rget DP.within;rw[(bG l0 K).1,Nat.add_assoc,if_pos (decide_eq_true (by omega))]
structure TK(l0:LG)(K:List (List Int))(b:List Int)(m:Nat)(T:Nat->Option (List Int)):Prop where
 recs:∀j (hj:j<K.length) i,i<aA K[j].length->T ((chain l0 (K.take j)).used+i)=some ((chain l0 (K.take j)).sec K[j] i)
 part:∀i,i<m->T ((chain l0 K).used+i)=some ((chain l0 K).sec b i)
 rest:∀x,(chain l0 K).used+m<=x->T x=none
structure iC(p:DP)(l0:LG)(K:List (List Int))(su:Nat)(b:List Int)(m:Nat)(T:Nat->Option (List Int)):Prop where
 pok:p.Ok
 lok:l0.Ok p.size
 z:l0.used=0
 g0:l0.gen≠0
 good:∀x∈K,ig x
 room:(chain l0 K).used<=l0.size
 part:m=0\/(ig b/\m<=aA b.length/\(chain l0 K).used+aA b.length<=l0.size)
 sul:su<=K.length
 tk:TK l0 K b m T
 fresh:∀x:Nat,x<l0.size->p.fresh (fQ l0 x)=none\/(T x≠none/\p.fresh (fQ l0 x)=T x)
 sure:∀x:Nat,x<l0.size->T x=some (ci p (fQ l0 x))\/jb l0.gen (ci p (fQ l0 x))
 safe:∀j (hj:j<K.length),j<su->∀i,i<aA K[j].length->ci p (fQ l0 ((chain l0 (K.take j)).used+i))=(chain l0 (K.take j)).sec K[j] i
 now:∀x,x<l0.size->∀S,T x=some S->p.get (fQ l0 x)=S
def xK(T:Nat->Option (List Int))(y:Nat)(S:List Int):Nat->Option (List Int):=λx=>if x=y then some S else T x
section
variable {p:DP}{l0:LG}{K:List (List Int)}{su:Nat}{b:List Int}{m:Nat}{T:Nat->Option (List Int)}
theorem je{j:Nat}(c:j<K.length){i:Nat}(hi:i<aA K[j].length):(chain l0 (K.take j)).used+i<(chain l0 K).used:=by
 have h1:=ii (l:=l0) c;have h2:=kz (l:=l0) (K:=K) (j:=j+1) (k:=K.length) c (Nat.le_refl _);rw[gq]at h2;omega
theorem iC.bare(h:iC p l0 K su b 0 T)(c:List Int):iC p l0 K su c 0 T:=
 ⟨h.pok,h.lok,h.z,h.g0,h.good,h.room,.inl rfl,h.sul,⟨h.tk.recs,λ_ hi=>absurd hi (by omega),h.tk.rest⟩,h.fresh,h.sure,h.safe,h.now⟩
theorem iC.write(h:iC p l0 K su b m T)(g:ig b)(hm:m<aA b.length)(n:(chain l0 K).used+aA b.length<=l0.size):
    iC (p.write (fQ l0 ((chain l0 K).used+m)) ((chain l0 K).sec b m)) l0 K su b (m+1) (xK T ((chain l0 K).used+m) ((chain l0 K).sec b m)):=by
 have f:0<=fQ l0 ((chain l0 K).used+m)/\fQ l0 ((chain l0 K).used+m)<p.size:=by
  have:=h.lok.fit;unfold fQ;omega
 refine⟨h.pok.write f (LG.sec_ok _ g.2 _),h.lok,h.z,h.g0,h.good,h.room,.inr ⟨g,hm,n⟩,h.sul,⟨?_,?_,?_⟩,?_,?_,h.safe,?_⟩
 ·intro j k i hi;have:=je (l0:=l0) k hi;unfold xK;rw[if_neg (by omega)];exact h.tk.recs j k i hi
 ·intro i hi;unfold xK
  by_cases e:i=m
  ·subst e;rw[if_pos rfl]
  ·rw[if_neg (by omega)];exact h.tk.part i (by omega)
 ·intro x c;unfold xK;rw[if_neg (by omega)];exact h.tk.rest x (by omega)
 ·intro x c;show tZ p.fresh _ _ _=none\/_/\tZ p.fresh _ _ _=_;unfold xK tZ
  by_cases e:x=(chain l0 K).used+m
  ·subst e;rw[if_pos rfl,if_pos rfl];exact .inr ⟨by simp,rfl⟩
  ·rw[if_neg (λd=>e (yF d)),if_neg e];exact h.fresh x c
 ·intro x c;show _=some (ci p _)\/jb _ (ci p _);unfold xK
  by_cases e:x=(chain l0 K).used+m
  ·subst e;rcases h.sure _ c with h1 | h1
   ·rw[h.tk.rest _ (Nat.le_refl _)]at h1
    cases h1
   ·exact .inr h1
  ·rw[if_neg e];exact h.sure x c
 ·intro x c S hS;rw[jh];unfold xK at hS
  by_cases e:x=(chain l0 K).used+m
  ·subst e;rw[if_pos rfl]at hS;rw[if_pos rfl];injection hS
  ·rw[if_neg e]at hS;rw[if_neg (λd=>e (yF d))];exact h.now x c S hS
theorem iC.fall(h:iC p l0 K su b m T):iC p.fall l0 K su b m T:=⟨h.pok.fall,h.lok,h.z,h.g0,h.good,h.room,h.part,h.sul,h.tk,h.fresh,h.sure,h.safe,h.now⟩
theorem iC.fused(h:iC p l0 K su b m T)(f:Int)(c:f<=9223372036854775807):iC (p.fused f) l0 K su b m T:=⟨⟨h.pok.s1,h.pok.s2,h.pok.sureR,h.pok.freshR,h.pok.nod,h.pok.ord,by show-1<=max f (-1)/\max f (-1)<=_;omega⟩,h.lok,h.z,h.g0,h.good,h.room,h.part,h.sul,h.tk,h.fresh,h.sure,h.safe,h.now⟩
theorem iC.sync(h:iC p l0 K su b m T):iC p.sync l0 K K.length b m T:=by
 have f:∀a,ci p.sync a=p.get a:=λa=>by
  unfold ci DP.sync DP.get
  cases hf:p.fresh a<;>simp[hf]
 refine⟨h.pok.sync,h.lok,h.z,h.g0,h.good,h.room,h.part,Nat.le_refl _,h.tk,λx c=>.inl rfl,λx c=>?_,λj d _ i hi=>?_,λx c S hS=>?_⟩
 ·rw [f];rcases h.fresh x c with h1 | ⟨h1,h2⟩
  ·rw[cG h1];exact h.sure x c
  ·cases hT:T x with
   |none=>exact absurd hT h1
   |some S=>rw[h.now x c S hT];exact .inl rfl
 ·rw[f];have h1:=je (l0:=l0) d hi;exact h.now _ (by have:=h.room;omega) _ (h.tk.recs j d i hi)
 ·rw[fb];exact h.now x c S hS
theorem iC.done(h:iC p l0 K su b (aA b.length) T)(k:ig b)(n:(chain l0 K).used+aA b.length<=l0.size):iC p l0 (K++[b]) su [] 0 T:=by
 have hu:(chain l0 (K++[b])).used=(chain l0 K).used+aA b.length:=by rw[lJ];rfl
 have ht:∀j,j<K.length->(K++[b]).take j=K.take j:=λj d=>List.take_append_of_le_length (by omega)
 refine⟨h.pok,h.lok,h.z,h.g0,λx c=>?_,by rw[hu];exact n,.inl rfl,by rw[List.length_append];have:=h.sul;omega,⟨λj d i hi=>?_,λi hi=>absurd hi (by omega),λx c=>h.tk.rest x (by rw[hu]at c;omega)⟩,h.fresh,h.sure,λj d o i hi=>?_,h.now⟩
 ·rcases List.mem_append.1 c with c | c
  ·exact h.good x c
  ·rw[List.mem_singleton]at c;rw[c];exact k
 ·rw[List.length_append,List.length_singleton]at d
  by_cases e:j<K.length
  ·rw[ht j e,List.getElem_append_left e];rw[List.getElem_append_left e]at hi;exact h.tk.recs j e i hi
  ·obtain rfl:j=K.length:=by omega
   have f:(K++[b])[K.length]=b:=by simp
   have g:(K++[b]).take K.length=K:=by simp
   rw[f]at hi;rw[f,g];exact h.tk.part i hi
 ·have e:j<K.length:=by have:=h.sul;omega
  rw[ht j e,List.getElem_append_left e];rw[List.getElem_append_left e]at hi;exact h.safe j e o i hi
theorem iC.writes(h:iC p l0 K su b 0 T)(d:ig b)(f:(chain l0 K).used+aA b.length<=l0.size):∀k,k<=aA b.length->
    ((writeN p (chain l0 K) b k).2=0/\∃c,iC (writeN p (chain l0 K) b k).1 l0 K su b k c)\/((writeN p (chain l0 K) b k).2≠0/\∃m c,m<aA b.length/\iC (writeN p (chain l0 K) b k).1 l0 K su b m c)
 | 0,_=>.inl ⟨rfl,T,h⟩
 |k+1,i=>by
  rcases iC.writes h d f k (by omega)with⟨h1,c,h2⟩|⟨h1,h2⟩
  ·have e:writeN p (chain l0 K) b (k+1)=((writeN p (chain l0 K) b k).1.doWrite (fQ l0 ((chain l0 K).used+k)) ((chain l0 K).sec b k),(writeN p (chain l0 K) b k).1.wcode (fQ l0 ((chain l0 K).used+k))):=by
    simp only[writeN];rw[if_neg (by rw[h1];simp),(bG l0 K).1];unfold fQ;rw[Nat.add_assoc]
   rw[e]
   have g:(writeN p (chain l0 K) b k).1.within (fQ l0 ((chain l0 K).used+k))=true:=decide_eq_true (by
    have:=h2.lok.fit;unfold fQ
    omega)
   unfold DP.doWrite DP.wcode;rw[if_pos g,if_pos g]
   by_cases hd:(writeN p (chain l0 K) b k).1.fuse=0\/(writeN p (chain l0 K) b k).1.down=true
   ·rw[if_pos hd,if_pos hd];exact .inr ⟨by show(14:Int)≠0;decide,k,c,by omega,h2.fall⟩
   ·rw[if_neg hd,if_neg hd];exact .inl ⟨rfl,_,h2.write d (by omega) f⟩
  ·have e:writeN p (chain l0 K) b (k+1)=writeN p (chain l0 K) b k:=by
    simp only[writeN];rw[if_pos h1]
   rw[e];exact .inr ⟨h1,h2⟩
end
structure St(p:DP)(l l0:LG)(K:List (List Int))(su:Nat):Prop where
 log:l={chain l0 K with broken:=l.broken}
 inv:∃b m T,(m=0\/m<aA b.length)/\(l.broken=false->m=0)/\iC p l0 K su b m T
section
variable {p:DP}{l l0:LG}{K:List (List Int)}{su:Nat}
theorem St.app(h:St p l l0 K su)(h0:l0.broken=false){b:List Int}(n:ba b):
    ((aD p l b).2.2=0/\St (aD p l b).1 (aD p l b).2.1 l0 (K++[b]) su)\/((aD p l b).2.2≠0/\St (aD p l b).1 (aD p l b).2.1 l0 K su):=by
 unfold aD
 by_cases d:aA b.length=0
 ·rw[if_pos d];exact .inr ⟨by show(2:Int)≠0;decide,h⟩
 rw[if_neg d]
 by_cases c2:l.broken=true
 ·rw[if_pos c2];exact .inr ⟨by show(10:Int)≠0;decide,h⟩
 rw[if_neg c2]
 by_cases i:l.size-l.used<aA b.length
 ·rw[if_pos i];exact .inr ⟨by show(8:Int)≠0;decide,h⟩
 rw[if_neg i];have c:l.broken=false:=by simpa using c2
 obtain⟨t,m,T,h1,h2,k⟩:=h.inv;obtain rfl:=h2 c
 have hl:l=chain l0 K:=by
  have e:=h.log;rw[c,<-h0,<-(bG l0 K).2.2.2]at e;exact e
 have r:=(bG l0 K).2.1;rw[hl]at i;have o:(chain l0 K).used+aA b.length<=l0.size:=by have:=k.room;omega
 have s:=(k.bare b).writes ⟨d,n⟩ o (aA b.length) (Nat.le_refl _);simp only;rw[hl];rcases s with⟨f,g,j⟩|⟨f,m,g,hm,j⟩
 ·rw[if_neg (by rw[f];simp)];refine .inl ⟨rfl,⟨?_,[],0,g,.inl rfl,λ_=>rfl,j.done ⟨d,n⟩ o⟩⟩;show(chain l0 K).step b={chain l0 (K++[b])with broken:=((chain l0 K).step b).broken}
  rw[lJ]
 ·rw[if_pos f];exact .inr ⟨f,⟨rfl,b,m,g,.inr hm,(λe=>by cases e),j⟩⟩
end
structure jU(p:DP):Prop where
 ok:p.Ok
 fresh:∀x,p.fresh x=none
 fuse:p.fuse=-1
 up:p.down=false
theorem jU.cut{p:DP}(h:p.Ok)(keep:List Bool):jU (p.cut keep):=⟨h.cut keep,λ_=>rfl,rfl,rfl⟩
theorem jU.new{n:Nat}(h1:1<=n)(h2:n<=16384):jU (DP.new n):=⟨DP.new_ok h1 h2,λ_=>rfl,rfl,rfl⟩
structure za(q:DP)(l0:LG)(K:List (List Int))(su:Nat)(b:List Int)(m:Nat)(T:Nat->Option (List Int)):Prop where
 cl:jU q
 lok:l0.Ok q.size
 z:l0.used=0
 g0:l0.gen≠0
 good:∀x∈K,ig x
 room:(chain l0 K).used<=l0.size
 part:m=0\/(b.length<=65536/\m<aA b.length/\(chain l0 K).used+aA b.length<=l0.size)
 sul:su<=K.length
 tk:TK l0 K b m T
 sure:∀x:Nat,x<l0.size->T x=some (q.get (fQ l0 x))\/jb l0.gen (q.get (fQ l0 x))
 safe:∀j (hj:j<K.length),j<su->∀i,i<aA K[j].length->q.get (fQ l0 ((chain l0 (K.take j)).used+i))=(chain l0 (K.take j)).sec K[j] i
section
variable {p q:DP}{l0:LG}{K:List (List Int)}{su:Nat}{b:List Int}{m:Nat}{T:Nat->Option (List Int)}
theorem iC.cut(h:iC p l0 K su b m T)(hm:m=0\/m<aA b.length)(keep:List Bool):za (p.cut keep) l0 K su b m T:=by
 have n:∀x,(p.cut keep).get x=ci p x\/(p.fresh x≠none/\p.fresh x=some ((p.cut keep).get x)):=λx=>by
  have e:(p.cut keep).get x=(cutS p keep p.order.length x).getD az:=rfl;rw[e];rcases sR h.pok keep p.order.length (Nat.le_refl _) x with h1|⟨h1,h2⟩
  ·rw[h1];exact .inl rfl
  ·rw[h2]
   cases hf:p.fresh x with
   |none=>exact absurd hf h1
   |some s=>exact .inr ⟨by simp,rfl⟩
 have f:m=0\/(b.length<=65536/\m<aA b.length/\(chain l0 K).used+aA b.length<=l0.size):=by
  rcases h.part with h1|⟨h1,h2,c⟩
  ·exact .inl h1
  ·rcases hm with d | d
   ·exact .inl d
   ·exact .inr ⟨(eo h1.1).2.1,d,c⟩
 refine⟨jU.cut h.pok keep,h.lok,h.z,h.g0,h.good,h.room,f,h.sul,h.tk,λx g=>?_,λj k o i hi=>?_⟩
 ·rcases n (fQ l0 x) with h1 | ⟨h1,h2⟩
  ·rw[h1];exact h.sure x g
  ·rcases h.fresh x g with c | ⟨c,d⟩
   ·exact absurd c h1
   ·exact .inl (by rw[<-d,h2])
 ·have r:=je (l0:=l0) k hi;have g:(chain l0 (K.take j)).used+i<l0.size:=by have:=h.room;omega
  rcases n (fQ l0 ((chain l0 (K.take j)).used+i))with h1|⟨h1,h2⟩
  ·rw[h1];exact h.safe j k o i hi
  ·rcases h.fresh _ g with c | ⟨c,d⟩
   ·exact absurd c h1
   ·rw[d,h.tk.recs j k i hi]at h2;injection h2 with h2;exact h2.symm
def nR(q:DP)(l0:LG)(K:List (List Int))(j:Nat):Prop:=∀(c:j<K.length) i,i<aA K[j].length->q.get (fQ l0 ((chain l0 (K.take j)).used+i))=(chain l0 (K.take j)).sec K[j] i
theorem za.upto(h:za q l0 K su b m T):∀n,n<=K.length->∃j,j<=n/\(∀c,c<j->nR q l0 K c)/\(j=n\/¬nR q l0 K j)
 | 0,_=>⟨0,Nat.le_refl _,λ_ h=>absurd h (by omega),.inl rfl⟩
 |n+1,i=>by
  obtain⟨j,h1,h2,d⟩:=za.upto h n (by omega);rcases d with rfl|d
  ·by_cases f:nR q l0 K j
   ·refine⟨j+1,Nat.le_refl _,λc g=>?_,.inl rfl⟩
    by_cases e:c=j
    ·rw[e];exact f
    ·exact h2 c (by omega)
   ·exact⟨j,by omega,h2,.inr f⟩
  ·exact⟨j,by omega,h2,.inr d⟩
theorem za.at_(h:za q l0 K su b m T):∀j,j<=K.length->(∀d,d<j->nR q l0 K d)->runs q l0 j=(chain l0 (K.take j),K.take j)
 | 0,_,_=>by simp[runs,chain]
 |j+1,s,o=>by
  have r:=za.at_ h j (by omega) (λd t=>o d (by omega));have c:j<K.length:=by omega
  have u:=(bG l0 (K.take j)).2.1;have h1:=kz (l:=l0) (K:=K) (j:=j+1) (k:=K.length) s (Nat.le_refl _);rw[gq,ii c]at h1;have f:=h.room;have g:=h.lok.fit
  have n:=tv (p:=q) h.cl.ok (l:=chain l0 (K.take j)) (b:=K[j]) (h.good _ (List.getElem_mem _)) (by omega) (λi hi=>by
   rw[oJ (by omega)]
   exact o j (by omega) c i hi)
  rw[fG (b:=K[j]) (by rw[r];rw[jG n.1,n.2]),r,pi c,List.take_succ_eq_append_getElem c]
theorem za.stop(h:za q l0 K su b m T){j:Nat}(C:j<=K.length)(F:j=K.length\/¬nR q l0 K j):¬(chain l0 (K.take j)).Next q:=by
 obtain⟨H,I,r,J⟩:=bG l0 (K.take j);have v:=h.lok.fit;have u:=h.room;have c:(chain l0 (K.take j)).gen<4294967296:=by rw[r];exact h.lok.gen
 have t:=kz (l:=l0) (K:=K) C (Nat.le_refl _);rw[gq]at t
 by_cases y:(chain l0 (K.take j)).used<l0.size
 ·have k:sct q (chain l0 (K.take j)) 0=q.get (fQ l0 (chain l0 (K.take j)).used):=by rw [oJ (by omega),Nat.add_zero]
  rcases h.sure _ y with h1|h1
  ·by_cases d:j<K.length
   ·have G:¬nR q l0 K j:=by rcases F with h2 | h2;exact absurd h2 (by omega);exact h2
    have f:=h.tk.recs j d 0 (by have:=(h.good _ (List.getElem_mem d)).1;omega);rw[Nat.add_zero,h1]at f;injection f with f;have o:sct q (chain l0 (K.take j)) 0=(chain l0 (K.take j)).sec K[j] 0:=by rw[k,f]
    have h2:=eo (h.good _ (List.getElem_mem d)).1
    obtain⟨i,hi,n⟩:∃i,i<aA K[j].length/\q.get (fQ l0 ((chain l0 (K.take j)).used+i))≠(chain l0 (K.take j)).sec K[j] i:=by
     refine Classical.byContradiction λB=>G λ_ i hi=>Classical.byContradiction λz=>B ⟨i,hi,z⟩
    have D:=je (l0:=l0) d hi;refine rJ c h2.2.1 o hi ?_;rw[oJ (by omega),r];rcases h.sure ((chain l0 (K.take j)).used+i) (by omega)with g|g
    ·rw[h.tk.recs j d i hi]at g;injection g with g;exact absurd g.symm n
    ·exact g
   ·obtain rfl:j=K.length:=by omega
    rw[gq]at*
    by_cases hm:m=0
    ·rw[h.tk.rest _ (by omega)]at h1
     cases h1
    ·obtain ⟨h2,g,L⟩:=h.part.resolve_left hm;have f:=h.tk.part 0 (by omega);rw [Nat.add_zero,h1] at f;injection f with f;refine rJ c h2 (by rw [k,f]) g ?_;rw [oJ (by omega),r];rcases h.sure ((chain l0 K).used+m) (by omega) with s | s
     ·rw[h.tk.rest _ (Nat.le_refl _)]at s
      cases s
     ·exact s
  ·exact zI c (by rw[k,r];exact h1)
 ·exact λE=>y (by have:=E.room;omega)
theorem za.run(h:za q l0 K su b m T):∃j,su<=j/\j<=K.length/\runL q l0=(chain l0 (K.take j),K.take j)/\∀n,n<j->nR q l0 K n:=by
 obtain⟨j,h1,h2,c⟩:=h.upto K.length (Nat.le_refl _);have g:=h.at_ j h1 h2;have hz:=re (l:=l0) h.good j h1;have f:=h.room;have d:=kz (l:=l0) (K:=K) h1 (Nat.le_refl _);rw[gq]at d;refine⟨j,?_,h1,?_,h2⟩
 ·rcases c with rfl | c
  ·exact h.sul
  ·refine Classical.byContradiction λr=>c λo i hi=>h.safe j o (by omega) i hi
 ·rw[tL (k:=j) (by omega) (by rw[g];exact cM (h.stop h1 c)),g]
theorem uP{l0:LG}(hz:l0.used=0):∀{K:List (List Int)} {x:Nat},x<(chain l0 K).used->∃(j:Nat) (d:j<K.length) (i:Nat),i<aA K[j].length/\x=(chain l0 (K.take j)).used+i:=by
 intro K
 suffices h:∀n,n<=K.length->∀x,x<(chain l0 (K.take n)).used->∃(j:Nat) (d:j<K.length) (i:Nat),i<aA K[j].length/\x=(chain l0 (K.take j)).used+i by
  intro x c;exact h K.length (Nat.le_refl _) x (by rw[gq];exact c)
 intro n
 induction n with
 |zero=>intro _ x c;simp[chain,hz]at c
 |succ n f=>
  intro g x c
  by_cases h:x<(chain l0 (K.take n)).used
  ·exact f (by omega) x h
  ·rw[ii (by omega)]at c;exact⟨n,by omega,x-(chain l0 (K.take n)).used,by omega,by omega⟩
structure EI(q q2:DP)(l:LG)(k:Nat):Prop where
 ok:q2.Ok
 size:q2.size=q.size
 fuse:q2.fuse=-1
 up:q2.down=false
 get:∀a:Int,q2.get a=q.get a\/∃i,i<k/\a=((l.first+l.used+i:Nat):Int)
 no:∀i,i<k->jb l.gen (q2.get ((l.first+l.used+i:Nat):Int))
theorem yB{g:Nat}(h:g≠0):jb g az:=λe=>h (by rw[<-e];rfl)
theorem so(cl:jU q){l:LG}(n:l.first+l.size<=q.size)(g0:l.gen≠0):∀k,l.used+k<=l.size->
    (wipeN q l k).2.2=0/\EI q (wipeN q l k).1 l k/\((wipeN q l k).2.1=false->(wipeN q l k).1=q)
 | 0,_=>⟨rfl,⟨cl.ok,rfl,cl.fuse,cl.up,λ_=>.inl rfl,λi hi=>absurd hi (by omega)⟩,λ_=>rfl⟩
 |k+1,o=>by
  obtain⟨h1,h2,j⟩:=so cl n g0 k (by omega);have g:(wipeN q l k).1.within ((l.first+l.used+k:Nat):Int)=true:=decide_eq_true (by rw[h2.size];omega)
  by_cases f:aU ((sct (wipeN q l k).1 l k).take 4)=l.gen
  ·rw [lq h1 f];have hd:¬((wipeN q l k).1.fuse=0\/(wipeN q l k).1.down=true):=by rw [h2.fuse,h2.up];simp
   unfold DP.doWrite DP.wcode;simp only[if_pos g,if_neg hd,if_true];refine⟨trivial,⟨h2.ok.write (by rw[h2.size];omega) bh,h2.size,?_,h2.up,λa=>?_,λi hi=>?_⟩,λe=>by cases e⟩
   ·show(if 0<(wipeN q l k).1.fuse then _ else(wipeN q l k).1.fuse)=-1;rw[h2.fuse];rfl
   ·rw[jh]
    by_cases e:a=((l.first+l.used+k:Nat):Int)
    ·exact .inr ⟨k,by omega,e⟩
    ·rw [if_neg e];rcases h2.get a with c | ⟨i,c,d⟩
     ·exact .inl c
     ·exact .inr ⟨i,by omega,d⟩
   ·rw[jh]
    by_cases e:i=k
    ·rw[if_pos (by rw[e])];exact yB g0
    ·rw[if_neg (by omega)];exact h2.no i (by omega)
  ·rw[jQ h1 f];refine⟨h1,⟨h2.ok,h2.size,h2.fuse,h2.up,λa=>?_,λi hi=>?_⟩,j⟩
   ·rcases h2.get a with c | ⟨i,c,d⟩
    ·exact .inl c
    ·exact .inr ⟨i,by omega,d⟩
   ·by_cases e:i=k
    ·subst e;have:sct (wipeN q l i).1 l i=(wipeN q l i).1.get ((l.first+l.used+i:Nat):Int):=if_pos g;rw[<-this];exact f
    ·exact h2.no i (by omega)
theorem CS(cl:jU q){l:LG}(f:l.first+l.size<=q.size)(hu:l.used<=l.size)(g0:l.gen≠0):
    (aB q l).2=0/\EI q (aB q l).1 l (l.size-l.used)/\jU (aB q l).1:=by
 obtain⟨h1,h2,d⟩:=so cl f g0 (l.size-l.used) (by omega);unfold aB;simp only;rw[if_neg (by rw[h1];simp)]
 by_cases c:(wipeN q l (l.size-l.used)).2.1=true
 ·rw[if_pos c];unfold DP.doSync DP.scode;rw[if_neg (by rw[h2.up];simp),if_neg (by rw[h2.up];simp)];exact⟨rfl,⟨h2.ok.sync,h2.size,h2.fuse,h2.up,λa=>by rw[fb];exact h2.get a,λi hi=>by rw[fb];exact h2.no i hi⟩,⟨h2.ok.sync,λ_=>rfl,h2.fuse,h2.up⟩⟩
 ·rw[if_neg c];refine⟨rfl,h2,?_⟩;show jU (wipeN q l (l.size-l.used)).1;rw[d (by simpa using c)];exact cl
theorem za.wipe(h:za q l0 K su b m T){j:Nat}(I:j<=K.length)(G:∀H,H<j->nR q l0 K H):
    (aB q (chain l0 (K.take j))).2=0/\jU (aB q (chain l0 (K.take j))).1/\(aB q (chain l0 (K.take j))).1.size=q.size/\
     iC (aB q (chain l0 (K.take j))).1 l0 (K.take j) j [] 0 (λx=>if x<(chain l0 (K.take j)).used then T x else none):=by
 obtain⟨v,C,D,J⟩:=bG l0 (K.take j);have y:=kz (l:=l0) (K:=K) I (Nat.le_refl _);rw[gq]at y;have B:=h.room;obtain⟨h1,h2,g⟩:=CS h.cl (l:=chain l0 (K.take j)) (by rw[v,C];exact h.lok.fit) (by omega) (by rw[D];exact h.g0);obtain⟨u,z⟩:=nM ((aB q (chain l0 (K.take j))).1);rw[<-z]at h2 g⊢
 have d:∀x,x<(chain l0 (K.take j)).used->u.get (fQ l0 x)=q.get (fQ l0 x):=λx f=>by
  rcases h2.get (fQ l0 x)with k|⟨i,k,s⟩
  ·exact k
  ·rw[v]at s;unfold fQ at s;omega
 have r:∀x,x<l0.size->¬x<(chain l0 (K.take j)).used->jb l0.gen (u.get (fQ l0 x)):=λx f hu=>by
  have k:=h2.no (x-(chain l0 (K.take j)).used) (by rw[C];omega);rw[v,D,show l0.first+(chain l0 (K.take j)).used+(x-(chain l0 (K.take j)).used)=l0.first+x by omega]at k;exact k
 have ht:∀i,i<j->(K.take j).take i=K.take i:=λi hi=>by rw[List.take_take,Nat.min_eq_left (by omega)]
 have hl:(K.take j).length=j:=by rw[List.length_take];omega
 have o:∀i (hi:i<(K.take j).length) t,t<aA (K.take j)[i].length->(chain l0 (K.take i)).used+t<(chain l0 (K.take j)).used:=λi hi t c=>by
  have:=je (l0:=l0) (K:=K.take j) hi c
  rwa[ht i (by omega)]at this
 have n:∀a,ci u a=u.get a:=λa=>(cG (g.fresh a)).symm
 refine⟨h1,g,h2.size,⟨g.ok,by rw[h2.size];exact h.lok,h.z,h.g0,λx f=>h.good x (List.mem_of_mem_take f),by omega,.inl rfl,by omega,⟨λi hi t c=>?_,λi hi=>absurd hi (by omega),λx f=>if_neg (by rw[Nat.add_zero]at f;omega)⟩,λx f=>.inl (g.fresh _),λx f=>?_,λi hi _ t c=>?_,λx f S hS=>?_⟩⟩
 ·rw[ht i (by omega),if_pos (o i hi t c),List.getElem_take];rw[List.getElem_take]at c;exact h.tk.recs i (by omega) t c
 ·rw[n]
  by_cases hu:x<(chain l0 (K.take j)).used
  ·rw[if_pos hu,d x hu];exact h.sure x f
  ·exact .inr (r x f hu)
 ·have s:=o i hi t c;rw[n,ht i (by omega),d _ s,List.getElem_take];rw[List.getElem_take]at c;exact G i (by omega) (by omega) t c
 ·split at hS
  ·next hu=>
   rw[d x hu];obtain⟨i,hi,t,c,e⟩:=uP h.z hu;rw[ht i (by omega)]at e;rw[List.getElem_take]at c;have E:=G i (by omega) (by omega) t c;have F:=h.tk.recs i (by omega) t c;rw[<-e]at E F;rw[F]at hS;injection hS with hS;rw[<-hS,E]
  ·cases hS
end
end Go.Proofs.YtfchcdbfalgdlaaGreatDoor
