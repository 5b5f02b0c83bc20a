/- Texts of one proof. No condition but each one's own. -/
import Derived.Test.YtfchcdbfalgdlaaGreatDoorSweepPlaysM20
import Derived.Test.YtfchcdbfalgdlaaGreatDoorSweepPlaysM7
import Derived.Sort.Walk0
set_option maxHeartbeats 4000000
set_option maxRecDepth 100000
set_option linter.unusedVariables false
set_option linter.unusedSimpArgs false
namespace Go.Proofs.YtfchcdbfalgdlaaGreatDoor
open _root_.Go.Proofs.Tryz
open Go.RowKit Go.Maps Go.Sort
def cl(L:List Ch):CT:=L.map λc=>(c.k.xs,c.v.xs)
def tj(a b:List Int×List Int):Bool:=leB (sb a.1) (sb b.1)
theorem sa(xs:List Int):(strOfNums xs).toList=sb xs:=by
 unfold sb;exact ByteArray.toList_eq _
theorem pA(x y:List Int):gv x y=leB (sb y) (sb x):=by
 unfold gv;rw[sa,sa,bytesLess_eq];unfold leB
 by_cases h:sb x<sb y
 ·have:¬sb y<=sb x:=List.not_le.2 h;simp[h,this]
 ·have:sb y<=sb x:=List.not_lt.1 h;simp[h,this]
theorem FN{xs ys:List Int}(b:ba xs)(d:ba ys)(h:sb xs=sb ys):xs=ys:=by
 refine oD b d ?_;unfold key_l19;unfold sb at h;rw[h]
theorem rD(a b c:List Int×List Int)(h1:tj a b=true)(h2:tj b c=true):tj a c=true:=by
 simp only[tj,leB,decide_eq_true_eq]at*;exact List.le_trans h1 h2
theorem rC(a b:List Int×List Int):(tj a b||tj b a)=true:=by
 simp only[tj,leB,Bool.or_eq_true,decide_eq_true_eq];exact List.le_total _ _
theorem uA(x:List Int):gv x x=true:=by
 rw[pA];simp[leB]
theorem CM{α:Type}{p:α->Bool}{l:List α}:∀x∈l.takeWhile p,p x=true:=by
 induction l with
 |nil=>intro x b;cases b
 |cons y l d=>
  intro x b
  by_cases h:p y=true
  ·rw [List.takeWhile_cons_of_pos h] at b;rcases List.mem_cons.1 b with rfl | b
   ·exact h
   ·exact d x b
  ·rw[List.takeWhile_cons_of_neg h]at b
   cases b
theorem FT{α:Type}{p:α->Bool}{l:List α}(h:∀x∈l,p x=true):l.takeWhile p=l:=by
 induction l with
 |nil=>rfl
 |cons y l d=>
  rw[List.takeWhile_cons_of_pos (h y (List.mem_cons_self ..)),d λx b=>h x (List.mem_cons_of_mem _ b)]
section
variable (c:Ch)
theorem xl(R:List Ch)(x:Ch):jr gv c (R,true) x=(if x.k.xs=c.k.xs then R else R++[x],true):=by
 unfold jr;simp
theorem pS(L:List Ch)(R:List Ch):L.foldl (jr gv c) (R,true)=(R++L.filter (λx=>decide (x.k.xs≠c.k.xs)),true):=by
 induction L generalizing R with
 |nil=>simp
 |cons x L b=>
  rw[List.foldl_cons,xl,b]
  by_cases h:x.k.xs=c.k.xs
  ·simp[h]
  ·simp[h]
theorem uZ(L:List Ch)(R:List Ch):L.foldl (jr gv c) (R,false)=
    if L.all (λx=> !gv x.k.xs c.k.xs)then(R++L,false)else(R++L.takeWhile (λx=> !gv x.k.xs c.k.xs)++[c]++(L.dropWhile (λx=> !gv x.k.xs c.k.xs)).filter (λx=>decide (x.k.xs≠c.k.xs)),true):=by
 induction L generalizing R with
 |nil=>simp
 |cons x L j=>
  rw[List.foldl_cons]
  by_cases b:gv x.k.xs c.k.xs=true
  ·have i:jr gv c (R,false) x=(if x.k.xs=c.k.xs then R++[c]else R++[c]++[x],true):=by
    unfold jr;simp[b]
   rw[i,pS]
   have f:¬(x::L).all (λx=> !gv x.k.xs c.k.xs)=true:=λh=>by
    have:=List.all_eq_true.1 h x (List.mem_cons_self ..);rw[b]at this
    cases this
   rw[if_neg f,List.takeWhile_cons_of_neg (by rw[b];decide),List.dropWhile_cons_of_neg (by rw[b];decide)]
   by_cases h:x.k.xs=c.k.xs
   ·rw[if_pos h,List.filter_cons_of_neg (by simpa using h),List.append_nil]
   ·rw[if_neg h,List.filter_cons_of_pos (by simpa using h),List.append_nil,List.append_assoc,List.append_assoc,List.append_assoc];rfl
  ·have b:gv x.k.xs c.k.xs=false:=by simpa using b
   have g:¬x.k.xs=c.k.xs:=λe=>by rw[e,uA]at b;cases b
   have i:jr gv c (R,false) x=(R++[x],false):=by
    unfold jr;simp[b,g]
   rw[i,j,List.takeWhile_cons_of_pos (by simp[b]),List.dropWhile_cons_of_pos (by simp[b])]
   by_cases d:L.all (λx=> !gv x.k.xs c.k.xs)=true
   ·rw[if_pos d,if_pos (by simp[b];simpa using d)];simp
   ·rw[if_neg d,if_neg (by simp[b];simpa using d)];simp
theorem tC(L:List Ch):jI gv c L=if c.d then L.filter (λx=>decide (x.k.xs≠c.k.xs))else L.takeWhile (λx=> !gv x.k.xs c.k.xs)++[c]++(L.dropWhile (λx=> !gv x.k.xs c.k.xs)).filter (λx=>decide (x.k.xs≠c.k.xs)):=by
 unfold jI dE
 cases c.d
 ·rw[uZ]
  by_cases b:L.all (λx=> !gv x.k.xs c.k.xs)=true
  ·rw[if_pos b]
   have h1:L.takeWhile (λx=> !gv x.k.xs c.k.xs)=L:=by
    exact FT (List.all_eq_true.1 b)
   have h2:L.dropWhile (λx=> !gv x.k.xs c.k.xs)=[]:=by
    have:=List.takeWhile_append_dropWhile (p:=λx=> !gv x.k.xs c.k.xs) (l:=L);rw[h1]at this
    simpa using this
   rw[h1,h2];simp
  ·rw[if_neg b];simp
 ·rw[pS];simp
theorem zU(L:List Ch):(jI gv c L).Perm (if c.d then L.filter (λx=>decide (x.k.xs≠c.k.xs))else L.filter (λx=>decide (x.k.xs≠c.k.xs))++[c]):=by
 rw[tC]
 cases c.d
 ·rw[if_neg (by simp),if_neg (by simp)]
  have h:L.filter (λx=>decide (x.k.xs≠c.k.xs))=L.takeWhile (λx=> !gv x.k.xs c.k.xs)++(L.dropWhile (λx=> !gv x.k.xs c.k.xs)).filter (λx=>decide (x.k.xs≠c.k.xs)):=by
   conv=>lhs;rw[<-List.takeWhile_append_dropWhile (p:=λx=> !gv x.k.xs c.k.xs) (l:=L)]
   rw[List.filter_append]
   congr 1
   rw[List.filter_eq_self];intro x b;have:=CM x b;simp only[decide_eq_true_eq];intro e;rw[e,uA]at this
   cases this
  rw[h,List.append_assoc,List.append_assoc];exact List.Perm.append_left _ List.perm_append_comm
 ·exact List.Perm.refl _
end
theorem ri(L:List Ch)(k:List Int):cl (L.filter (λx=>decide (x.k.xs≠k)))=lH (cl L) k:=by
 unfold cl lH;rw[List.filter_map];rfl
structure Kn(T:CT):Prop where
 nd:(T.map Prod.fst).Nodup
 byt:∀e∈T,ba e.1
theorem Kn.del{T:CT}(h:Kn T)(k:List Int):Kn (lH T k):=⟨(List.Sublist.map _ List.filter_sublist).nodup h.nd,λe b=>h.byt e (List.mem_filter.1 b).1⟩
theorem Kn.put{T:CT}(h:Kn T){k v:List Int}(f:ba k):Kn (qG T k v):=by
 refine⟨?_,λe b=>?_⟩
 ·unfold qG;rw[List.map_append,List.nodup_append];refine⟨(h.del k).nd,by simp,λx g y d e=>?_⟩;simp at d;subst d e;simp[lH]at g
 ·rcases List.mem_append.1 b with b | b
  ·exact(h.del k).byt e b
  ·rw[List.mem_singleton.1 b];exact f
theorem Kn.doC{T:CT}(h:Kn T){c:Ch}(b:ba c.k.xs):Kn (doC T c):=by
 unfold Go.Proofs.YtfchcdbfalgdlaaGreatDoor.doC;split
 ·exact h.del _
 ·exact h.put b
theorem FA{T:CT}(h:(T.map Prod.fst).Nodup){a b:List Int×List Int}(d:a∈T)(f:b∈T)(e:a.1=b.1):a=b:=by
 induction T with
 |nil=>cases d
 |cons x T g=>
  rw[List.map_cons,List.nodup_cons]at h;rcases List.mem_cons.1 d with h1|d<;>rcases List.mem_cons.1 f with h2|f
  ·rw[h1,h2]
  ·exact absurd (List.mem_map.2 ⟨b,f,by rw[<-e,h1]⟩) h.1
  ·exact absurd (List.mem_map.2 ⟨a,d,by rw[e,h2]⟩) h.1
  ·exact g h.2 d f
theorem xr{l T:CT}(j:l.Pairwise (λa b=>tj a b=true))(i:l.Perm T)(g:Kn T):l=aI T:=by
 refine List.Perm.eq_of_pairwise (le:=λa b=>tj a b=true) (λa b d f h1 h2=>?_) j (List.pairwise_mergeSort rD rC T) (i.trans (List.mergeSort_perm T _).symm);have d:a∈T:=i.mem_iff.1 d;have f:b∈T:=(List.mergeSort_perm T _).mem_iff.1 f;refine FA g.nd d f (FN (g.byt a d) (g.byt b f) ?_);simp only[tj,leB,decide_eq_true_eq]at h1 h2;exact List.le_antisymm h1 h2
theorem xq(T:CT):(aI T).Pairwise (λa b=>tj a b=true):=List.pairwise_mergeSort rD rC T
theorem dU(T:CT):(aI T).Perm T:=List.mergeSort_perm T _
theorem yi{L:List Ch}{k:List Int}(g:(cl L).Pairwise (λa b=>tj a b=true)):∀x∈L.dropWhile (λx=> !gv x.k.xs k),gv x.k.xs k=true:=by
 induction L with
 |nil=>intro x d;cases d
 |cons y L j=>
  intro x d;have i:(cl (y::L)).Pairwise (λa b=>tj a b=true):=g;unfold cl at g;rw[List.map_cons,List.pairwise_cons]at g
  by_cases f:gv y.k.xs k=true
  ·rw [List.dropWhile_cons_of_neg (by simp [f])] at d;rcases List.mem_cons.1 d with rfl | d
   ·exact f
   ·have h1:=g.1 _ (List.mem_map.2 ⟨x,d,rfl⟩);rw[pA]at f⊢;simp only[tj,leB,decide_eq_true_eq]at h1 f⊢;exact List.le_trans f h1
  ·rw[List.dropWhile_cons_of_pos (by simpa using f)]at d;exact j g.2 x d
theorem uV{L:List Ch}(c:Ch)(g:(cl L).Pairwise (λa b=>tj a b=true)):(cl (jI gv c L)).Pairwise (λa b=>tj a b=true):=by
 rw[tC];have d:∀{M:List Ch},M.Sublist L->(cl M).Pairwise (λa b=>tj a b=true):=λh=>g.sublist (h.map _)
 cases c.d
 ·rw[if_neg (by simp)];unfold cl;rw[List.map_append,List.map_append,List.append_assoc,List.pairwise_append];refine⟨d (List.takeWhile_sublist _),?_,?_⟩
  ·rw[List.map_cons,List.map_nil,List.singleton_append,List.pairwise_cons];refine⟨λe m=>?_,d (List.filter_sublist.trans (List.dropWhile_sublist _))⟩;obtain⟨x,i,rfl⟩:=List.mem_map.1 m;have:=yi (k:=c.k.xs) g x (List.mem_filter.1 i).1;rw[pA]at this;exact this
  ·intro a j b f;obtain ⟨x,i,rfl⟩:=List.mem_map.1 j;have h1:=CM x i;rw [pA] at h1;simp only [leB,Bool.not_eq_true',decide_eq_false_iff_not] at h1;have h1:=List.le_of_lt (List.not_le.1 h1);rcases List.mem_append.1 f with f | f
   ·rw[List.map_cons,List.map_nil,List.mem_singleton]at f;subst f;simp only[tj,leB,decide_eq_true_eq];exact h1
   ·obtain⟨y,o,rfl⟩:=List.mem_map.1 f;have h2:=yi (k:=c.k.xs) g y (List.mem_filter.1 o).1;rw[pA]at h2;simp only[tj,leB,decide_eq_true_eq]at h2⊢;exact List.le_trans h1 h2
 ·rw[if_pos rfl];exact d List.filter_sublist
theorem Ca{L:List Ch}{T:CT}(c:Ch)(h:cl L=aI T)(b:Kn T)(d:ba c.k.xs):cl (jI gv c L)=aI (doC T c):=by
 refine xr (uV c (by rw[h];exact xq T)) ?_ (b.doC d);have f:(cl (jI gv c L)).Perm _:=(zU c L).map _;refine f.trans ?_;unfold doC
 cases c.d
 ·rw[if_neg (by simp),if_neg (by simp),List.map_append];unfold qG;refine List.Perm.append_right _ ?_
  have:(cl (L.filter (λx=>decide (x.k.xs≠c.k.xs)))).Perm (lH T c.k.xs):=by
   rw[ri,h];exact(dU T).filter _
  exact this
 ·rw[if_pos rfl,if_pos rfl]
  have:(cl (L.filter (λx=>decide (x.k.xs≠c.k.xs)))).Perm (lH T c.k.xs):=by
   rw[ri,h];exact(dU T).filter _
  exact this
theorem yL{L:List Ch}{T:CT}(C:List Ch)(h:cl L=aI T)(b:Kn T)(f:∀c∈C,ba c.k.xs):cl (vO L C)=aI (po T C)/\Kn (po T C):=by
 induction C generalizing L T with
 |nil=>exact⟨h,b⟩
 |cons c C i=>
  have d:=f c (List.mem_cons_self ..);exact i (Ca c h b d) (b.doC d) (λx g=>f x (List.mem_cons_of_mem _ g))
theorem Ag{L:List Ch}{T:CT}(h:cl L=aI T)(hl:∀c∈L,c.k.xs.length=c.k.n/\c.v.xs.length=c.v.n):Cs L=fM T:=by
 rw[<-pm (dU T),<-h];unfold Cs fM cl;rw[List.map_map]
 congr 1
 refine List.map_congr_left λc b=>?_
 have:=hl c b;simp only[Function.comp];omega
end Go.Proofs.YtfchcdbfalgdlaaGreatDoor
namespace Go.Proofs.YtfchcdbfalgdlaaGreatDoor
open _root_.Go.Proofs.Tryz
open Go.RowKit Go.Maps Go.Sort Go.WideShapes Go.ChangeShapes
structure Ch.Good(w:World)(c:Ch):Prop where
 inn:c.In (λb=>b<w.heap.size) w
 kn:c.k.n<=140737488355328
 vn:c.v.n<=140737488355328
theorem Ch.Good.new{w w':World}{c:Ch}(h:c.Good w)(b:aa w w'):c.Good w':=⟨Ch.In.szs (h.inn.new b),h.kn,h.vn⟩
section
variable {H:Type}{enc:TypeId×Value->H}{w:World}
theorem Ex{m:Nat}{cs:List Value}{y:DataW H×List MemPlace}(hl:cs.length=3)(ht:DataW.trod enc prog w 0 (λ_=>true) true m 92 cs=some y)(hz:Sz prog 92 y.1):
    ∃a:Ch,a.cells=cs/\a.Good w:=by
 match cs,hl with
 | [F,G,c2],_=>
  obtain⟨_,_,t0,D⟩:=iJ (j:=0) underlying92 ht hz rfl (by kernel_rfl) (by simp);obtain⟨_,_,t1,E⟩:=iJ (j:=1) underlying92 ht hz rfl (by kernel_rfl) (by simp);obtain⟨_,_,t2,_⟩:=iJ (j:=2) underlying92 ht hz rfl (by kernel_rfl) (by simp);obtain⟨A,n,c,xs,g,h2,I,p,J,s,t⟩:=sh (k:=.u8) underlying33 underlying5 (by kernel_rfl) t0 D;obtain⟨B,m,d,ys,i,L,M,r,N,v,z⟩:=sh (k:=.u8) underlying33 underlying5 (by kernel_rfl) t1 E;obtain⟨b,o,_⟩:=DataW.trod_bool underlying4 t2;simp at g i o;subst g i o;have u:prog.bytesOf 5=1:=by kernel_rfl
  rw[u]at p r;unfold reachBytes at p r;refine⟨⟨⟨A,n,c,xs⟩,⟨B,m,d,ys⟩,b⟩,rfl,⟨⟨s,λx f=>?_⟩,⟨v,λx f=>?_⟩⟩,?_,?_⟩
  ·have:=bounds_u8 (t x f);omega
  ·have:=bounds_u8 (z x f);omega
  ·show n<=_;omega
  ·show m<=_;omega
theorem BP{m:Nat}{v:Value}{y:DataW H×List MemPlace}(h:DataW.trod enc prog w 0 (λ_=>true) true m 22 [v]=some y)(hz:Sz prog 22 y.1):
    ∃(A:Option Addr) (n c:Nat) (L:List Ch),v=.slice A n c/\n<=maxLen/\L.length=n/\Rd (λb=>b<w.heap.size) w 3 A n (L.flatMap Ch.cells)/\∀a∈L,a.Good w:=by
 obtain⟨A,n,c,L,h1,h2,i,j,d,f,g,-⟩:=mQ (k:=3) underlying22 Ch.cells (by kernel_rfl) (by omega) (λa=>a.Good w) (λcs m y hl ht hz=>Ex hl ht hz) h hz;exact⟨A,n,c,L,h1,by omega,d,f,g⟩
structure Sl where
 A:Option Addr
 n:Nat
 c:Nat
 L:List Ch
structure Sl.Good(w:World)(x:Sl):Prop where
 nn:x.n<=maxLen
 tb:ou w x.A x.n x.L
 gd:∀a∈x.L,a.Good w
theorem Sl.Good.new{w w':World}{c:Sl}(h:c.Good w)(b:aa w w'):c.Good w':=⟨h.nn,h.tb.new b,λa d=>(h.gd a d).new b⟩
def Sl.cells(x:Sl):List Value:=[.slice x.A x.n x.c]
end
def lz(L:List Ch):Nat:=(L.map λc=>c.k.n+c.v.n).sum
theorem pg{L:List Ch}{k:Nat}(h:k<L.length):lz (L.take (k+1))=lz (L.take k)+(L[k].k.n+L[k].v.n):=by
 unfold lz;rw[List.take_succ_eq_append_getElem h,List.map_append,List.sum_append];simp only[List.map_cons,List.map_nil,List.sum_cons,List.sum_nil,Nat.add_zero]
theorem Be{L:List Ch}(h:∀c∈L,c.k.n<=140737488355328/\c.v.n<=140737488355328)(k:Nat)(d:k<=L.length):lz (L.take k)<=k*281474976710656:=by
 induction k with
 |zero=>simp[lz]
 |succ k b=>
  rw[pg (by omega)];have:=h L[k] (List.getElem_mem _);have:=b (by omega);omega
def sA(L:List Ch)(e:Ending):Prop:=∃b,e=.returned (.bool b)/\(b=false->L.length<=700/\lz L<=20000)
theorem Bz(A:Option Addr)(n c:Nat)(L:List Ch)(w:World)(h:ou w A n L)(X:n<=maxLen)(P:∀c∈L,c.k.n<=140737488355328/\c.v.n<=140737488355328):
    Calls prog 8 #[.slice A n c] w λe w'=>sA L e/\aa w w':=by
 have H:=Ld h;have G:=Ld P;unfold maxLen at X;clear h P
 by_cases u:n<=700
 ·go_enter func8,ntmps8
  go_wp2_with fail;go_loopw [3,8] (λs i wr=>∃(j:Nat),j<=n/\i=.int .i64 j/\s=.int .i64 (lz (L.take j))/\Hid (aa w wr)) (λs i _=>n-(intOf i).toNat)
  case atStart=>exact⟨0,Nat.zero_le _,rfl,by simp[lz],Ld (aa.refl w)⟩
  case round=>
   obtain⟨j,T,rfl,rfl,t⟩:=hrel;have r:=Be G.out j (by rw[H.out.len];exact T)
   by_cases z:j<n
   ·as_aux_lemma=>
    obtain⟨g,o,hl,rfl,-,-,b⟩:=eZ (f:=Ch.cells) (L:=L) (λ_=>rfl) (by omega) (t.out.rd H.out.rd) z;have D:wr.cell? ⟨g,o+j*3,none⟩=some (.slice L[j].k.A L[j].k.n L[j].k.c):=b 0 _ rfl;have E:wr.cell? ⟨g,o+j*3+1,none⟩=some (.slice L[j].v.A L[j].v.n L[j].v.c):=b 1 _ rfl;have c2:wr.cell? ⟨g,o+j*3+2,none⟩=some (.bool L[j].d):=b 2 _ rfl;have m:=G.out L[j] (List.getElem_mem _);have p:=pg hl;generalize L[j]=x at D E c2 m p;generalize lz (L.take j)=s at p r⊢;obtain⟨⟨kA,kn,kc,ks⟩,⟨vA,vn,vc,vs⟩,d⟩:=x;dsimp only at D E c2 m p;have I:=Ld p;obtain⟨J,M⟩:=m;have F:s<=197032483697459200:=by omega
    have N:(0:Int)<=(j:Int):=by omega
    have O:(j:Int)<(n:Int):=by omega
    have y:=λ(o:Obj)=>Ld (aa.al t.out o)
    clear b hl p r
    go_wp2_with fail;go_roundw
    case rel=>
     refine⟨j+1,by omega,by go_num,?_,y _⟩;rw[I.out];go_num
    case measure=>simp[intOf];omega
   ·as_aux_lemma=>
    obtain rfl:j=n:=by omega
    have ht:L.take j=L:=by rw[<-H.out.len,List.take_length]
    rw[ht]at r⊢;have U:Hid (L.length=j):=Ld H.out.len;obtain⟨s,F⟩:=nM (lz L);rw[<-F]at r⊢;have V:=Ld F;clear F ht;have Z:s<=197032483697459200:=by omega
    go_wp2_with fail
    all_goals
     go_ret;refine⟨⟨_,rfl,λh=>?_⟩,t.out⟩
     first
      |(cases h;done)
      | (rw [U.out,<-V.out]
         exact⟨u,by omega⟩)
 ·have Y:700<n:=by omega
  clear u
  go_enter func8,ntmps8
  go_wp2_with fail;go_loopw [3,8] (λs i wr=>∃(j:Nat) (v:Int),j<=n/\i=.int .i64 j/\s=.int .i64 v/\Hid (aa w wr)) (λs i _=>n-(intOf i).toNat)
  case atStart=>exact⟨0,0,Nat.zero_le _,rfl,rfl,Ld (aa.refl w)⟩
  case round=>
   obtain⟨j,v,T,rfl,rfl,t⟩:=hrel
   by_cases z:j<n
   ·as_aux_lemma=>
    obtain⟨g,o,hl,rfl,-,-,b⟩:=eZ (f:=Ch.cells) (L:=L) (λ_=>rfl) (by omega) (t.out.rd H.out.rd) z;have D:wr.cell? ⟨g,o+j*3,none⟩=some (.slice L[j].k.A L[j].k.n L[j].k.c):=b 0 _ rfl;have E:wr.cell? ⟨g,o+j*3+1,none⟩=some (.slice L[j].v.A L[j].v.n L[j].v.c):=b 1 _ rfl;have c2:wr.cell? ⟨g,o+j*3+2,none⟩=some (.bool L[j].d):=b 2 _ rfl;have m:=G.out L[j] (List.getElem_mem _);generalize L[j]=x at D E c2 m;obtain⟨⟨kA,kn,kc,ks⟩,⟨vA,vn,vc,vs⟩,d⟩:=x;dsimp only at D E c2 m;obtain⟨J,M⟩:=m;have N:(0:Int)<=(j:Int):=by omega
    have O:(j:Int)<(n:Int):=by omega
    have y:=λ(o:Obj)=>Ld (aa.al t.out o)
    clear b hl
    go_wp2_with fail;go_roundw
    case rel=>exact⟨j+1,_,by omega,by go_num,rfl,y _⟩
    case measure=>simp[intOf];omega
   ·as_aux_lemma=>
    obtain rfl:j=n:=by omega
    by_cases hv:20000<v
    ·go_wp2_with fail;go_ret;exact⟨⟨true,rfl,λh=>by cases h⟩,t.out⟩
    ·go_wp2_with fail;go_ret;exact⟨⟨decide (700<(j:Int)),rfl,λh=>by have:=of_decide_eq_false h;omega⟩,t.out⟩
end Go.Proofs.YtfchcdbfalgdlaaGreatDoor
namespace Go.Proofs.YtfchcdbfalgdlaaGreatDoor
open _root_.Go.Proofs.Tryz
open Go.RowKit Go.Maps Go.Sort
def mq(c:Ch):List Int:=[if !c.d then 1 else 0]++bj 2 c.k.n++c.k.xs++(if c.d then[]else bj 2 c.v.n++c.v.xs)
def bI(L:List Ch):List Int:=bj 2 L.length++L.flatMap mq
theorem ya{c:Ch}(b:c.k.xs.length=c.k.n)(d:c.v.xs.length=c.v.n):(mq c).length<=5+c.k.n+c.v.n:=by
 unfold mq;simp only[List.length_append,List.length_singleton,aw,b];split
 ·simp;omega
 ·simp[aw,d];omega
theorem nu{L:List Ch}{k:Nat}(h:k<L.length):(L.take (k+1)).flatMap mq=(L.take k).flatMap mq++mq L[k]:=by
 rw[List.take_succ_eq_append_getElem h,List.flatMap_append];simp
theorem uz{L:List Ch}(h:∀c∈L,(mq c).length<=40000)(j:Nat)(d:j<=L.length):((L.take j).flatMap mq).length<=j*40000:=by
 induction j with
 |zero=>simp
 |succ j b=>
  rw[nu (by omega),List.length_append];have:=b (by omega);have:=h L[j] (List.getElem_mem _);omega
theorem DX(A:Option Addr)(n c:Nat)(L:List Ch)(w:World)(h:ou w A n L)(j:n<=100000000)(i:∀c∈L,c.k.n<=maxLen/\c.v.n<=maxLen)(b:bY L=false):
    Calls prog 53 #[.slice A n c] w λe w'=>e=.returned (.tuple #[.slice none 0 0,.iface 38 (.int .i64 2)])/\aa w w':=by
 have f:=Ld (jL A n c L w h.rd h.len j i);rw[b]at f;clear h j i b
 go_enter func53,ntmps53
 go_wp2_with fail;refine f.out.mono ?_;rintro e k ⟨rfl,d⟩;have g:=Ld d;clear d f
 go_wp2_with fail;go_ret2;exact⟨rfl,g.out⟩
def Ge(w:World)(g j n:Nat)(L:List Ch)(wr:World):Prop:=aa w wr/\w.heap.size<=g/\gp wr g g (bj 2 n++(L.take j).flatMap mq)
def sr(b:Nat)(k v d:Value)(w:World):Prop:=w.cell? ⟨b,0,none⟩=some k/\w.cell? ⟨b,1,none⟩=some v/\w.cell? ⟨b,2,none⟩=some d
theorem sr.of{W:World}{b:Nat}{k v d:Value}(h:ac W b 92 #[k,v,d]):sr b k v d W:=⟨h.cell 0,h.cell 1,h.cell 2⟩
set_option maxHeartbeats 8000000 in
theorem tz(A:Option Addr)(n c:Nat)(L:List Ch)(w:World)(h:ou w A n L)(V:bY L=true):
    Calls prog 53 #[.slice A n c] w λe w'=>(∃A' c' base,e=.returned (.tuple #[.slice A' (bI L).length c',.nilIface])/\w.heap.size<=base/\w'.ownsRow base 5 1 (.slice A' (bI L).length c') (bI L).length (an (bI L)))/\aa w w':=by
 obtain⟨i6,i7,s⟩:=dt V;have j4:n<=600:=by have:=h.len;omega
 have HC:=Ld (jL A n c L w h.rd h.len (by omega) (λc hc=>by have:=s c hc;unfold maxLen;omega));rw[V]at HC
 have g7:∀c∈L,(mq c).length<=40000:=λc hc=>by
  have h1:=ya (h.el c hc).k.len (h.el c hc).v.len;have:=s c hc;omega
 have i':=Ld g7;have H:=Ld h;have g9:=Ld s;clear h V i6 i7 s g7
 go_enter func53,ntmps53
 go_wp2_with fail;refine HC.out.mono ?_;rintro e w1 ⟨rfl,c9⟩;have O:=Ld c9;clear c9 HC
 go_upto_region 4 with fail;obtain⟨w2,G⟩:=nM (w1.alloc (.cells #[.nilIface,.slice none 0 0] 168):World);obtain⟨g,hg⟩:=nM (w1.heap.size);have b0:Hid (aa w w2):=Ld (by rw[G];exact aa.al O.out _);have b8:Hid (gp w2 g g []):=Ld ⟨⟨none,0,by rw[G,hg];exact ac.new _ _ _,World.ownsRow_nil _ _ _ _⟩,Nat.le_refl _,λx hx=>nomatch hx⟩;have HZ:Hid (w.heap.size<=g):=Ld (by rw[hg];exact O.out.size);rw[<-G,<-hg];clear G hg O
 go_wp2_with fail;refine(fU b8.out n 2 (by omega) (by omega) (by simp)).mono ?_;rintro e w3 ⟨rfl,g3,c6⟩;have HI:Hid (Ge w g 0 n L w3):=Ld ⟨c6.toNew b0.out HZ.out (Nat.le_refl _),HZ.out,by simpa using g3⟩;clear g3 c6 b8 b0
 go_wp2_with fail;go_loopw [20] (λi wr=>∃(j:Nat),j<=n/\i=.int .i64 j/\Hid (Ge w g j n L wr)) (λi _=>n-(intOf i).toNat)
 case atStart=>exact⟨0,Nat.zero_le _,rfl,HI⟩
 case round=>
  obtain⟨j,hj,rfl,r⟩:=hrel;clear HI
  have m:(bj 2 n++(L.take j).flatMap mq).length<=100000000:=by
   rw[List.length_append,aw];have:=uz i'.out j (by rw[H.out.len];exact hj);omega
  have b:=Ld m;clear m
  by_cases i9:j<n
  ·as_aux_lemma=>
   obtain⟨gA,o,hl,rfl,-,-,F⟩:=eZ (f:=Ch.cells) (L:=L) (λ_=>rfl) (by omega) (r.out.1.rd H.out.rd) i9;have c0:wr.cell? ⟨gA,o+j*3,none⟩=some (.slice L[j].k.A L[j].k.n L[j].k.c):=F 0 _ rfl;have c1:wr.cell? ⟨gA,o+j*3+1,none⟩=some (.slice L[j].v.A L[j].v.n L[j].v.c):=F 1 _ rfl;have c2:wr.cell? ⟨gA,o+j*3+2,none⟩=some (.bool L[j].d):=F 2 _ rfl;have U:=H.out.el L[j] (List.getElem_mem _);have s:=g9.out L[j] (List.getElem_mem _);have X:=nu hl;generalize L[j]=x at c0 c1 c2 U s X;obtain⟨⟨u,kn,y,ks⟩,⟨z,vn,D,vs⟩,d⟩:=x;dsimp only at c0 c1 c2 s;have t:=Ld U;have b7:=Ld X;have j2:(0:Int)<=(j:Int):=by omega
   have j3:(j:Int)<(n:Int):=by omega
   clear F hl U X
   go_upto_region 8 with fail;obtain⟨w4,I⟩:=nM (wr.alloc (.cells #[.slice u kn y,.slice z vn D,.bool d] 92):World);obtain⟨b6,T⟩:=nM (wr.heap.size);have b1:Hid (aa wr w4):=Ld (by rw[I];exact aa.al (aa.refl _) _);have Z:Hid (ac w4 b6 92 #[.slice u kn y,.slice z vn D,.bool d]):=Ld (by rw[I,T];exact ac.new _ _ _);have b9:=Ld (r.out.2.2.new b1.out);have g8:b6≠g:=by have:=r.out.2.2.lt;omega
   rw[<-I,<-T];clear I T c0 c1 c2;obtain⟨xs,Y⟩:=nM (bj 2 n++(L.take j).flatMap mq);rw[<-Y]at b9 b;have c5:=Ld Y;clear Y;have i5:sr b6 (.slice u kn y) (.slice z vn D) (.bool d) w4.drew:=sr.of Z.out;refine ah (sr b6 (.slice u kn y) (.slice z vn D) (.bool d)) [(true,0),(true,1),(true,2),(true,3),(true,5),(true,6),(false,4),(false,7)] (by kernel_rfl) (by kernel_rfl) i5 (λj'=>?_);have q0:∀p:HW (sr b6 (.slice u kn y) (.slice z vn D) (.bool d)),p.w.cell? ⟨b6,0,none⟩=some (.slice u kn y):=λp=>p.h.1
   have q2:∀p:HW (sr b6 (.slice u kn y) (.slice z vn D) (.bool d)),p.w.cell? ⟨b6,2,none⟩=some (.bool d):=λp=>p.h.2.2
   iterate 6 (refine af (o:=.mk ..) rfl (λK J=>?_);go_simp;refine J _ ?_;clear J K)
   clear q0 q2 j';refine aj (o:=.mk ..) rfl (λK J=>?_) (.inl rfl);go_simp;refine(As (b9.out.new (aa.dr (aa.refl _))) (!d) (by have:=b.out;omega)).mono ?_;rintro e w5 ⟨rfl,g4,c7⟩;have N:Hid (FW g g w4 w5):=Ld ((FW.new (aa.dr (aa.refl _))).tr c7);have i3:=Ld g4;have b':Hid (ac w5 b6 92 #[.slice u kn y,.slice z vn D,.bool d]):=Ld (N.out.blk Z.out (by decide) g8);clear g4 c7;refine J.out _ _ (λ_=>sr.of b'.out) ?_;clear J K;have b3:Hid (aa w w5):=Ld (N.out.toNew (r.out.1.tr b1.out) r.out.2.1 (Nat.le_refl _));refine aj (o:=.mk ..) rfl (λK J=>?_) (.inl rfl);go_simp;refine(qu i3.out u kn y ks (b3.out.rd t.out.k.rd) t.out.k.byt (by omega) (by rw[List.length_append,List.length_singleton];have:=b.out;omega) (λk hk=>⟨by have:=r.out.2.1;omega,.inl (by have:=r.out.2.1;omega)⟩)).mono ?_;rintro e w6 ⟨rfl,g5,E⟩;have j1:Hid (FW g g w4 w6):=Ld (N.out.tr E);have c4:=Ld g5;have M:Hid (ac w6 b6 92 #[.slice u kn y,.slice z vn D,.bool d]):=Ld (E.blk b'.out (by decide) g8);have P:Hid (aa w w6):=Ld (E.toNew b3.out r.out.2.1 (Nat.le_refl _));clear g5 E;refine J.out _ _ (λ_=>sr.of M.out) ?_;clear J K;refine au ?_;have e1:w6.cell? ⟨b6,1,none⟩=some (.slice z vn D):=M.out.cell 1;have e2:w6.cell? ⟨b6,2,none⟩=some (.bool d):=M.out.cell 2
   cases d
   ·go_wp2_with fail;refine(qu c4.out z vn D vs (P.out.rd t.out.v.rd) t.out.v.byt (by omega) (by simp only[List.length_append,List.length_singleton,aw];have:=b.out;have:=t.out.k.len;dsimp only at this;omega) (λk hk=>⟨by have:=r.out.2.1;omega,.inl (by have:=r.out.2.1;omega)⟩)).mono ?_;rintro e w7 ⟨rfl,g6,c8⟩;have i4:=Ld g6;have i1:Hid (aa w w7):=Ld (c8.toNew P.out r.out.2.1 (Nat.le_refl _));clear g6 c8 e1 e2
    go_wp2_with fail;go_roundw
    case rel=>
     refine⟨j+1,by omega,by go_num,Ld ⟨i1.out,r.out.2.1,?_⟩⟩;rw[b7.out];have:=i4.out;rw[c5.out]at this
     simpa[mq]using this
    case measure=>simp[intOf];omega
   ·go_wp2_with fail;go_roundw
    case rel=>
     refine⟨j+1,by omega,by go_num,Ld ⟨P.out,r.out.2.1,?_⟩⟩;rw[b7.out];have:=c4.out;rw[c5.out]at this
     simpa[mq]using this
    case measure=>simp[intOf];omega
  ·as_aux_lemma=>
   obtain rfl:j=n:=by omega
   have hp:bj 2 j++(L.take j).flatMap mq=bI L:=by
    unfold bI;rw[<-H.out.len,List.take_length]
   have hW:=r.out.2.2;have m:=b.out;rw[hp]at hW m;have HD:=Ld (lm hW (by omega));clear hW hp m
   go_wp2_with fail;refine HD.out.mono ?_;rintro e w3 ⟨⟨A3,c3,rfl,f'⟩,d'⟩;have i2:=Ld f';have i0:=Ld d';clear f' d' HD;generalize j0:(bI L).length=pl at*
   go_wp2_with fail;go_ret2;rw[j0];exact⟨⟨A3,c3,wr.heap.size,rfl,r.out.1.size,i2.out⟩,r.out.1.tr i0.out⟩
end Go.Proofs.YtfchcdbfalgdlaaGreatDoor
namespace Go.Proofs.YtfchcdbfalgdlaaGreatDoor
open _root_.Go.Proofs.Tryz
open Go.RowKit Go.Maps
theorem rU{g:Nat}{s:Rs}{w:World}(h:go w g s):
    Calls prog 98 #[.pointer (some ⟨g,0,none⟩)] w λx w'=>x=.returned (.bool s.flag.1)/\go w' g s.flag.2/\Fr (λk=>k=g) w w':=by
 have y:=Ld (jp h);have j:=Ld (gx h 2 (by omega));have N:=Ld (dw h 1 (by omega))
 by_cases p:s.left<1
 ·have J:s.flag=(false,s.bad 2):=by unfold Rs.flag;rw [if_pos (.inl p)]
  rw[J];generalize s.left=l at*;clear J h;have hd:decide ((l:Int)<1)=true:=decide_eq_true (by omega)
  go_enter func98,ntmps98
  go_wp2_with fail;refine y.out.mono ?_;rintro e L ⟨rfl,rfl⟩
  go_wp2_with fail;refine j.out.mono ?_;rintro e M ⟨rfl,d,b⟩;have i:=Ld d;have f:=Ld b;clear d b
  go_wp2_with fail;go_ret;exact⟨rfl,i.out,f.out⟩
 ·obtain ⟨D,o,c,E,G,t⟩:=h.left1 (by omega);have u:0<s.xs.length:=by omega
  have h0:s.xs[0]?=some s.xs[0]:=List.getElem?_eq_getElem u;have O:=h.byt s.xs[0] (List.getElem_mem _)
  have m:s.xs.headD 0=s.xs[0]:=by
   obtain⟨xs,e⟩:=s
   match xs,u with
   |a::r,_=>rfl
  have T:w.cell? ⟨D,o,none⟩=some (.int .u8 s.xs[0]):=G 0 _ h0;have P:w.cell? ⟨g,1,none⟩=some (.slice (some ⟨D,o,none⟩) s.xs.length c):=E.cell 1;have hd:decide ((s.left:Int)<1)=false:=decide_eq_false (by omega)
  have F:s.flag=if(1:Int)<s.xs[0]then(false,s.bad 2)else(decide ((s.num 1).1=1),(s.num 1).2):=by
   unfold Rs.flag;rw[m]
   by_cases h1:(1:Int)<s.xs[0]
   ·rw[if_pos (.inr h1),if_pos h1]
   ·rw[if_neg (by rintro(h|h)<;>omega),if_neg h1]
  rw[F];rw[t]at y hd;generalize s.xs[0]=x at*;generalize s.xs.length=l at*;clear G E m F h0 t p h
  by_cases h1:1<x
  ·have z:decide (1<x)=true:=decide_eq_true h1;rw[if_pos h1]
   go_enter func98,ntmps98
   go_wp2_with fail;refine y.out.mono ?_;rintro e L ⟨rfl,rfl⟩
   go_wp2_with fail;refine j.out.mono ?_;rintro e M ⟨rfl,d,b⟩;have i:=Ld d;have f:=Ld b;clear d b
   go_wp2_with fail;go_ret;exact⟨rfl,i.out,f.out⟩
  ·have z:decide (1<x)=false:=decide_eq_false h1;rw[if_neg h1];generalize (s.num 1).1=v at*
   go_enter func98,ntmps98
   go_wp2_with fail;refine y.out.mono ?_;rintro e L ⟨rfl,rfl⟩
   go_wp2_with fail;refine N.out.mono ?_;rintro e M ⟨rfl,d,b⟩;have i:=Ld d;have f:=Ld b;clear d b
   go_wp2_with fail;go_ret;refine⟨?_,i.out,f.out⟩
   congr 2
   by_cases I:v=1
   ·subst I;rfl
   ·rw[decide_eq_false I];simp;omega
end Go.Proofs.YtfchcdbfalgdlaaGreatDoor
namespace Go.Proofs.YtfchcdbfalgdlaaGreatDoor
open _root_.Go.Proofs.Tryz
open Go.RowKit Go.Maps Go.Sort
structure PC where
 k:List Int
 v:List Int
 d:Bool
def cK(c:Ch):PC:=⟨c.k.xs,c.v.xs,c.d⟩
def co(s:Rs):PC×Rs:=
 if s.flag.1 then(⟨(s.flag.2.bytes 16).1,((s.flag.2.bytes 16).2.bytes 16384).1,false⟩,((s.flag.2.bytes 16).2.bytes 16384).2)
 else(⟨(s.flag.2.bytes 16).1,[],true⟩,(s.flag.2.bytes 16).2)
def nY:Nat->Rs->List PC->List PC×Rs
 | 0,s,out=>(out,s)
 |n+1,s,out=>if(co s).1.k=[]then(out,(co s).2.bad 2)else nY n (co s).2 (out++[(co s).1])
def lx(c:PC):Bool:=decide (1<=c.k.length)&&decide (c.k.length<=16)&&decide (c.v.length<=16384)&& !(c.d&&decide (0<c.v.length))
def dN(L:List PC):Bool:=decide (1<=L.length)&&decide (L.length<=600)&&L.all lx
def eG(xs:List Int):Option (List PC):=
 if(nY ((⟨xs,0⟩:Rs).num 2).1 ((⟨xs,0⟩:Rs).num 2).2 []).2.fin=0/\dN (nY ((⟨xs,0⟩:Rs).num 2).1 ((⟨xs,0⟩:Rs).num 2).2 []).1=true then some (nY ((⟨xs,0⟩:Rs).num 2).1 ((⟨xs,0⟩:Rs).num 2).2 []).1 else none
structure Ch.InT(w:World)(c:Ch):Prop where
 k:ei 5 w 1 c.k.A c.k.n (an c.k.xs)
 kb:ba c.k.xs
 v:ei 5 w 1 c.v.A c.v.n (an c.v.xs)
 vb:ba c.v.xs
theorem Ch.InT.fr{S:Nat->Prop}{w w':World}{c:Ch}(h:c.InT w)(hF:Fr S w w')(hS:∀k,S k->¬aK 5 w k):c.InT w':=⟨h.k.fr hF hS,h.kb,h.v.fr hF hS,h.vb⟩
theorem Ch.InT.in_{w:World}{c:Ch}(h:c.InT w):c.In (λb=>b<w.heap.size) w:=⟨⟨dS h.k,h.kb⟩,⟨dS h.v,h.vb⟩⟩
theorem Ch.InT.pc{w:World}{c:Ch}(h:c.InT w):c.k.xs.length=c.k.n/\c.v.xs.length=c.v.n:=⟨h.in_.k.len,h.in_.v.len⟩
theorem DU{w:World}{c:Ch}(h:c.InT w):lx (cK c)=eX c:=by
 obtain⟨h1,h2⟩:=h.pc;unfold lx eX cK;simp only[h1,h2]
theorem BV{w:World}{L:List Ch}(h:∀c∈L,c.InT w):dN (L.map cK)=bY L:=by
 unfold dN bY;have b:(L.map cK).length=L.length:=by simp
 have e:(L.map cK).all lx=L.all eX:=by
  clear b
  induction L with
  |nil=>rfl
  |cons c L f=>rw[List.map_cons,List.all_cons,List.all_cons,DU (h c (List.mem_cons_self ..)),f λc d=>h c (List.mem_cons_of_mem _ d)]
 rw[b,e]
theorem kv(s:Rs)(b:Nat):(s.bytes b).1.length<=b:=by
 unfold Rs.bytes;split
 ·simp
 ·split
  ·simp
  ·next h=>
   have:=pO (s.raw 2).2 (aU (s.xs.take 2));omega
theorem Cb{s:Rs}(h:ba s.xs)(n:Nat):ba (s.raw n).2.xs:=by
 unfold Rs.raw;split
 ·unfold Rs.bad;split<;>exact h
 ·exact λx b=>h x (List.mem_of_mem_drop b)
theorem gU{s:Rs}(h:ba s.xs)(b:Nat):ba (s.bytes b).1:=by
 unfold Rs.bytes;split
 ·intro x d;cases d
 ·split
  ·intro x d;cases d
  ·exact raw_byt (Cb h 2) _
structure GH(w:World)(g:Nat)(s:Rs)(A:Option Addr)(m c:Nat)(L:List Ch)(wr:World):Prop where
 new:aa w wr
 gz:w.heap.size<=g
 rd:go wr g s
 own:wr.ownsRow w.heap.size 92 3 (.slice A m c) m (L.flatMap Ch.cells)
 el:∀c∈L,c.InT wr
 sz:∀c∈L,c.k.n<=16/\c.v.n<=16384
theorem Ga:aY prog 22 92 3 56:=aY.mk' (z:=.agg GK.cells.toArray) underlying22 (by kernel_rfl) rfl (by decide)
def yZ(w:World)(r:Option (List PC))(e:Ending)(w':World):Prop:=
 (r=none/\e=.returned (.tuple #[.slice none 0 0,.iface 38 (.int .i64 2)]))\/
 (∃(A:Option Addr) (n c:Nat) (L:List Ch),r=some (L.map cK)/\e=.returned (.tuple #[.slice A n c,.nilIface])/\ou w' A n L)
set_option maxHeartbeats 8000000 in
theorem zO{p:Nat->Prop}(A:Option Addr)(n c:Nat)(xs:List Int)(w:World)(hR:Rd p w 1 A n (an xs))(hb:ba xs)(hn:n<=140737488355328):
    Calls prog 48 #[.slice A n c] w λe w'=>yZ w (eG xs) e w'/\aa w w':=by
 have HF:=Ld (jg A n c xs w hR hb hn);obtain⟨N,hN⟩:=nM (((⟨xs,0⟩:Rs).num 2).1);obtain⟨s0,m1⟩:=nM (((⟨xs,0⟩:Rs).num 2).2)
 have o8:N<65536:=by
  rw[hN];unfold Rs.num;have h1:=fm (xs:=((⟨xs,0⟩:Rs).raw 2).1) (raw_byt (s:=⟨xs,0⟩) hb 2);have h2:=pO (⟨xs,0⟩:Rs) 2;have h3:256^((⟨xs,0⟩:Rs).raw 2).1.length<=256^2:=Nat.pow_le_pow_right (by decide) h2;exact Nat.lt_of_lt_of_le h1 h3
 obtain⟨r,hr⟩:=nM (nY N s0 []);obtain⟨q,hq⟩:=nM (eG xs);rw[<-hq];unfold eG at hq;rw[<-hN,<-m1,<-hr]at hq;have o0:=Ld hN;have o2:=Ld m1;have m7:=Ld hr;have HQ:=Ld hq;clear hR hb hN m1 hr hq
 go_enter func48,ntmps48
 go_wp2_with fail;refine HF.out.mono ?_;rintro e w1 ⟨g,rfl,n3,n',hg⟩;have m6:=Ld n3;have m5:=Ld n';have HG:=Ld hg;clear n3 n' hg HF
 go_wp2_with fail;refine(dw m6.out 2 (by omega)).mono ?_;rintro e w2 ⟨rfl,l9,m9⟩;rw[<-o0.out];rw[<-o2.out]at l9;have HI:Hid (GH w g s0 none 0 0 [] w2):=Ld ⟨m5.out.fr m9 (λk f=>by have:=HG.out;omega),HG.out,l9,World.ownsRow_nil _ _ _ _,(λc b=>nomatch b),λc b=>nomatch b⟩;have HP:Hid (r=nY (N-0) s0 (([]:List Ch).map cK)):=Ld m7.out;clear l9 m9 m6 m5
 go_wp2_with fail;go_loopw [5,11] (λo i wr=>∃(j m:Nat) (s:Rs) (A':Option Addr) (c':Nat) (L:List Ch),j<=N/\m<=j/\i=.int .u64 j/\o=.slice A' m c'/\Hid (GH w g s A' m c' L wr)/\Hid (r=nY (N-j) s (L.map cK))) (λo i _=>N-(intOf i).toNat)
 case atStart=>exact⟨0,0,s0,none,0,[],Nat.zero_le _,Nat.le_refl _,rfl,rfl,HI,HP⟩
 case round=>
  obtain⟨j,m,s,A',c',L,hj,hm,rfl,rfl,d,g6⟩:=hrel;clear HI HP
  by_cases p4:j<N
  ·skip
   obtain⟨i0,X⟩:∃i0,N-j=i0+1:=⟨N-j-1,by omega⟩
   obtain rfl:i0=N-(j+1):=by omega
   have p2:(0:Int)<=(j:Int):=by omega
   have p3:(j:Int)<(N:Int):=by omega
   cases hb:s.flag.1
   ·as_aux_lemma=>
    have b7:=Ld (rU d.out.rd);rw[hb]at b7;obtain⟨s1,d'⟩:=nM (s.flag.2);rw[<-d']at b7;obtain⟨key_l19,D⟩:=nM ((s1.bytes 16).1);obtain⟨s2,f'⟩:=nM ((s1.bytes 16).2);obtain⟨kn,c7⟩:=nM (key_l19.length);have y:Hid (co s=(⟨key_l19,[],true⟩,s2)):=Ld (by unfold co;rw[hb,if_neg (by decide),<-d',<-f',<-D]);have V:=Ld D;have l3:=Ld f';have c1:=Ld c7;have b9:Hid (kn<=16):=Ld (by rw[c7,D];exact kv s1 16);clear hb d' D f' c7
    go_wp2_with fail;refine b7.out.mono ?_;rintro e w3 ⟨rfl,i9,i3⟩;have i2:=Ld i9;have k':=Ld i3;clear i9 i3;have c8:=lQ i2.out 16 (by omega);rw[<-l3.out,<-V.out,<-c1.out]at c8;have k4:=Ld c8;clear c8
    go_wp2_with fail;refine k4.out.mono ?_;rintro e w4 ⟨⟨v,E,rfl,bk,m',i6⟩,c6,i4⟩;have i':Hid (Fr (λk=>k=g) wr w4):=Ld (k'.out.trans i4);have k2:Hid (ba key_l19):=Ld (by rw[V.out];exact gU i2.out.byt 16)
    have j3:∀k,k=g->¬aK 5 wr k:=λk f=>by
     subst f;obtain⟨Ar,cr,u,_⟩:=d.out.rd.st;exact aK.not_blk u (by decide)
    obtain⟨F,P⟩:=nM (w4.alloc (.cells #[.slice v kn E,.slice none 0 0,.bool true] 92):World);obtain⟨b6,Y⟩:=nM (w4.heap.size);have I:Hid (aa w4 F):=Ld (by rw[P];exact aa.al (aa.refl _) _);have U:Hid (ac F b6 92 #[.slice v kn E,.slice none 0 0,.bool true]):=Ld (by rw[P,Y];exact ac.new _ _ _);have b3:Hid (Fr (λk=>k=g) wr F):=Ld (i'.out.trans (I.out.toFr _));have k9:=Ld j3;have t:Hid (go F g s2):=Ld (c6.new I.out);have g4:Hid (ei 5 F 1 v kn (an key_l19)):=Ld ((ei.own i6 rfl).new I.out);have M:Hid (aa w F):=Ld (d.out.new.fr b3.out (λk f=>by have:=d.out.gz;omega))
    have G:Hid (F.ownsRow w.heap.size 92 3 (.slice A' m c') m (L.flatMap Ch.cells)):=Ld (bg d.out.own b3.out (λk f e=>by
     obtain⟨Ar,cr,u,_⟩:=d.out.rd.st;subst e
     exact bm d.out.own u (by decide) f))
    have g5:Hid (∀c∈L,c.InT F):=Ld (λc b=>(d.out.el c b).fr b3.out k9.out);have m0:b6≠g:=by have:=c6.lt;omega
    clear i6 c6 i4 j3 m'
    go_upto_region 6 with fail;rw[<-P,<-Y];clear P Y;have b1:=U;have c0:F.cell? ⟨b6,0,none⟩=some (.slice v kn E):=U.out.cell 0;have c2:F.cell? ⟨b6,2,none⟩=some (.bool true):=U.out.cell 2
    by_cases j0:kn=0
    ·subst j0;have j1:key_l19=[]:=List.eq_nil_of_length_eq_zero c1.out.symm
     have c3:Hid (q=none):=Ld (by
      have h1:=g6.out;rw[X]at h1;unfold nY at h1;rw[y.out,if_pos j1]at h1;rw[HQ.out,h1];refine if_neg (λh=>?_);have h2:=h.1;dsimp only at h2;revert h2;unfold Rs.bad Rs.fin
      split<;>simp_all)
     have k0:=Ld (gx t.out 2 (by omega))
     have Z:(s2.bad 2).fin≠0:=by
      unfold Rs.bad Rs.fin;split<;>simp_all
     have b8:=Ld Z;clear Z j1 y X
     go_wp2_with fail;refine k0.out.mono ?_;rintro e T ⟨rfl,j',i5⟩;have k7:Hid (aa w T):=Ld (M.out.fr i5 (λk f=>by have:=d.out.gz;omega));have j9:=Ld (pR j');clear j' i5
     go_wp2_with fail;refine j9.out.mono ?_;rintro e w8 ⟨rfl,rfl⟩;rw[gG b8.out]
     go_wp2_with fail;go_ret2;exact⟨.inl ⟨c3.out,rfl⟩,k7.out⟩
    ·have b':key_l19≠ []:=λe=>j0 (by have:=c1.out;rw [e] at this;simpa using this)
     have p0:(0:Int)<(kn:Int):=by omega
     have p1:((kn:Int)==0)=false:=by simp;omega
     have c3:Hid (r=nY (N-(j+1)) s2 ((L++[(⟨⟨v,kn,E,key_l19⟩,⟨none,0,0,[]⟩,true⟩:Ch)]).map cK)):=Ld (by
      have h1:=g6.out;rw[X]at h1;unfold nY at h1;rw[y.out,if_neg b']at h1;rw[h1,List.map_append]
      rfl)
     have p':decide ((0:Int)=(kn:Int))=false:=decide_eq_false (by omega);clear b' y X;have e0:F.cell? ⟨b6,0,none⟩=some (.slice v kn E):=b1.out.cell 0;have e1:F.cell? ⟨b6,1,none⟩=some (.slice none 0 0):=b1.out.cell 1;have e2:F.cell? ⟨b6,2,none⟩=some (.bool true):=b1.out.cell 2
     go_wp2_with (first
      |((with_reducible refine dM ⟨some 34,.buildSlice _ _ _,_,_,_,_⟩ ?_);refine cD Ga (by decide) rfl (.tmp 33) rfl #[.slice v kn E,.slice none 0 0,.bool true] rfl rfl ?_)
      |(at_builtin;refine dM ⟨some 35,_,_,_,_,_⟩ ?_;refine dG ?_))
     refine⟨?_⟩;refine av (o:=⟨some 35,_,_,_,_,_⟩) Ga _ rfl (.tmp 32) (.tmp 34) rfl w.heap.size (.slice A' m c') m (L.flatMap Ch.cells) rfl (aa.own (aa.al (aa.refl _) _) G.out) _ 1 1 [.slice v kn E,.slice none 0 0,.bool true] rfl (Rd.ofBlk (p:=λ_=>True) (ac.new _ 92 #[.slice v kn E,.slice none 0 0,.bool true]) 3 1 rfl trivial) (cF ⟨⟨v,kn,E,key_l19⟩,⟨none,0,0,[]⟩,true⟩) (by unfold maxLen;omega) (by omega) (by have:=M.out.size;simp;omega) ?_;intro A8 d8 w8 i7 c5 l7;have k8:Hid (aa w w8):=Ld ((aa.al M.out _).fr c5 (λk f=>(am G.out k f).1));have z:=((aa.al (aa.refl F) (.cells #[.slice v kn E,.slice none 0 0,.bool true] 92)).toFr (λk=>(Value.slice A' m c').ownBlock=some k)).trans c5;have O:∀k,(Value.slice A' m c').ownBlock=some k->¬aK 5 F k:=λk f=>aK.not_own G.out (by decide) f
     have k1 : Hid (GH w g s2 A8 (m + 1) d8 (L ++ [⟨⟨v, kn, E, key_l19⟩, ⟨none, 0, 0, []⟩, true⟩]) w8) := Ld ⟨k8.out, d.out.gz, t.out.fr z (λf => by
         obtain⟨Ar,cr,u,_⟩:=t.out.st
         exact bm G.out u (by decide) f) O,by rw[List.flatMap_append];simpa[Ch.cells]using i7,λc b=>by
         rcases List.mem_append.1 b with b|b
         ·exact(g5.out c b).fr z O
         ·rw[List.mem_singleton.1 b];exact Ch.InT.fr (w:=F) (c:=⟨⟨v,kn,E,key_l19⟩,⟨none,0,0,[]⟩,true⟩) ⟨g4.out,k2.out,ei.nil,λx hx=>nomatch hx⟩ z O,λc b=>by
         rcases List.mem_append.1 b with b|b
         ·exact d.out.sz c b
         ·rw[List.mem_singleton.1 b]
          exact⟨b9.out,Nat.zero_le _⟩⟩
     clear i7 c5 l7 z O
     go_wp2_with fail;go_roundw
     case rel=>exact⟨j+1,m+1,_,A8,d8,_,by omega,by omega,by go_num,rfl,k1,c3⟩
     case measure=>simp[intOf];omega
   ·as_aux_lemma=>
    have b7:=Ld (rU d.out.rd);rw[hb]at b7;obtain⟨s1,d'⟩:=nM (s.flag.2);rw[<-d']at b7;obtain⟨key_l19,D⟩:=nM ((s1.bytes 16).1);obtain⟨s2,f'⟩:=nM ((s1.bytes 16).2);obtain⟨kn,c7⟩:=nM (key_l19.length);obtain⟨val,g3⟩:=nM ((s2.bytes 16384).1);obtain⟨s3,m2⟩:=nM ((s2.bytes 16384).2);obtain⟨vn,n8⟩:=nM (val.length);have y:Hid (co s=(⟨key_l19,val,false⟩,s3)):=Ld (by unfold co;rw[hb,if_pos rfl,<-d',<-f',<-D,<-g3,<-m2]);have c4:=Ld g3;have o3:=Ld m2;have m8:=Ld n8;clear g3 m2 n8;have V:=Ld D;have l3:=Ld f';have c1:=Ld c7;have b9:Hid (kn<=16):=Ld (by rw[c7,D];exact kv s1 16);clear hb d' D f' c7
    go_wp2_with fail;refine b7.out.mono ?_;rintro e w3 ⟨rfl,i9,i3⟩;have i2:=Ld i9;have k':=Ld i3;clear i9 i3;have c8:=lQ i2.out 16 (by omega);rw[<-l3.out,<-V.out,<-c1.out]at c8;have k4:=Ld c8;clear c8
    go_wp2_with fail;refine k4.out.mono ?_;rintro e w4 ⟨⟨v,E,rfl,bk,m',i6⟩,c6,i4⟩;have i':Hid (Fr (λk=>k=g) wr w4):=Ld (k'.out.trans i4);have k2:Hid (ba key_l19):=Ld (by rw[V.out];exact gU i2.out.byt 16)
    have j3:∀k,k=g->¬aK 5 wr k:=λk f=>by
     subst f;obtain⟨Ar,cr,u,_⟩:=d.out.rd.st;exact aK.not_blk u (by decide)
    obtain⟨F,P⟩:=nM (w4.alloc (.cells #[.slice v kn E,.slice none 0 0,.bool false] 92):World);obtain⟨b6,Y⟩:=nM (w4.heap.size);have I:Hid (aa w4 F):=Ld (by rw[P];exact aa.al (aa.refl _) _);have U:Hid (ac F b6 92 #[.slice v kn E,.slice none 0 0,.bool false]):=Ld (by rw[P,Y];exact ac.new _ _ _);have b3:Hid (Fr (λk=>k=g) wr F):=Ld (i'.out.trans (I.out.toFr _));have k9:=Ld j3;have g9:Hid (b6=w4.heap.size):=Ld Y;have t:Hid (go F g s2):=Ld (c6.new I.out);have g4:Hid (ei 5 F 1 v kn (an key_l19)):=Ld ((ei.own i6 rfl).new I.out);have M:Hid (aa w F):=Ld (d.out.new.fr b3.out (λk f=>by have:=d.out.gz;omega))
    have G:Hid (F.ownsRow w.heap.size 92 3 (.slice A' m c') m (L.flatMap Ch.cells)):=Ld (bg d.out.own b3.out (λk f e=>by
     obtain⟨Ar,cr,u,_⟩:=d.out.rd.st;subst e
     exact bm d.out.own u (by decide) f))
    have g5:Hid (∀c∈L,c.InT F):=Ld (λc b=>(d.out.el c b).fr b3.out k9.out);have m0:b6≠g:=by have:=c6.lt;omega
    clear i6 c6 i4 j3 m'
    go_upto_region 6 with fail;rw[<-P,<-Y];clear P Y;have c0:F.cell? ⟨b6,0,none⟩=some (.slice v kn E):=U.out.cell 0;have c2:F.cell? ⟨b6,2,none⟩=some (.bool false):=U.out.cell 2;have m3:=lQ t.out 16384 (by omega);rw[<-o3.out,<-c4.out,<-m8.out]at m3;have o5:=Ld m3;clear m3
    go_wp2_with fail;refine o5.out.mono ?_;rintro e w6 ⟨⟨vA,vc,rfl,bv,o9,n1⟩,n5,l8⟩;have j6:=Ld l8;have j5:Hid (ac w6 b6 92 #[.slice v kn E,.slice none 0 0,.bool false]):=Ld (U.out.fr l8 m0);have f61:w6.frozen? ⟨b6,1,none⟩=false:=j5.out.frozen 1;have o7:w6.cell? ⟨b6,1,none⟩=some (.slice none 0 0):=j5.out.cell 1;have o4:Hid (ba val):=Ld (by rw[c4.out];exact gU t.out.byt 16384);have l4:Hid (vn<=16384):=Ld (by rw[m8.out,c4.out];exact kv s2 16384);have o1:=Ld n5;have l5:Hid (ei 5 w6 1 vA vn (an val)):=Ld (ei.own n1 rfl);obtain⟨T,j8⟩:=nM (w6.setCell ⟨b6,1,none⟩ (.slice vA vn vc):World);have J:Fr (λk=>k=b6) w6 T:=by rw[j8];exact(Fr.refl (λk=>k=b6) w6).setCell (p:=⟨b6,1,none⟩) (λ_=>rfl) _
    have j2:∀k,k=b6->¬aK 5 w6 k:=λk f=>by subst f;exact aK.not_blk j5.out (by decide)
    have c9:∀k,k=g->¬aK 5 F k:=λk f=>by
     subst f;obtain⟨Ar,cr,u,_⟩:=t.out.st;exact aK.not_blk u (by decide)
    have j4:∀k,(Value.slice A' m c').ownBlock=some k->¬k=b6:=λk f e=>by
     have h1:=(am d.out.own k f).2;have h2:=i'.out.size;have h3:=g9.out;omega
    have m4:Hid (ac T b6 92 #[.slice v kn E,.slice vA vn vc,.bool false]):=Ld (by
     have:=j5.out.set 1 (.slice vA vn vc);rw[j8]
     simpa using this)
    have l2:Hid (go T g s3):=Ld (o1.out.fr J (λe=>m0 e.symm) j2);have k3:Hid (ei 5 T 1 v kn (an key_l19)):=Ld ((g4.out.fr j6.out c9).fr J j2);have o6:Hid (ei 5 T 1 vA vn (an val)):=Ld (l5.out.fr J j2);have l':Hid (aa w T):=Ld ((M.out.fr j6.out (λk f=>by have:=d.out.gz;omega)).fr J (λk f=>by have:=g9.out;have:=i'.out.size;have:=d.out.new.size;omega))
    have l1:Hid (T.ownsRow w.heap.size 92 3 (.slice A' m c') m (L.flatMap Ch.cells)):=Ld (bg (bg G.out j6.out (λk f e=>by
     obtain⟨Ar,cr,u,_⟩:=t.out.st;subst e
     exact bm G.out u (by decide) f)) J j4)
    have k5:Hid (∀c∈L,c.InT T):=Ld (λc b=>((g5.out c b).fr j6.out c9).fr J j2);clear U t g4 M G g5 l8 n1 n5 o9
    go_upto_region 8 with fail;rw[<-j8];clear j8 J j2 c9 j4 c0 c2 f61 o7;have b1:=m4;have t:=l2;have g4:=k3;have M:=l';have G:=l1;have g5:=k5;have c0:T.cell? ⟨b6,0,none⟩=some (.slice v kn E):=m4.out.cell 0
    by_cases j0:kn=0
    ·subst j0;have j1:key_l19=[]:=List.eq_nil_of_length_eq_zero c1.out.symm
     have c3:Hid (q=none):=Ld (by
      have h1:=g6.out;rw[X]at h1;unfold nY at h1;rw[y.out,if_pos j1]at h1;rw[HQ.out,h1];refine if_neg (λh=>?_);have h2:=h.1;dsimp only at h2;revert h2;unfold Rs.bad Rs.fin
      split<;>simp_all)
     have k0:=Ld (gx t.out 2 (by omega))
     have Z:(s3.bad 2).fin≠0:=by
      unfold Rs.bad Rs.fin;split<;>simp_all
     have b8:=Ld Z;clear Z j1 y X
     go_wp2_with fail;refine k0.out.mono ?_;rintro e T ⟨rfl,j',i5⟩;have k7:Hid (aa w T):=Ld (M.out.fr i5 (λk f=>by have:=d.out.gz;omega));have j9:=Ld (pR j');clear j' i5
     go_wp2_with fail;refine j9.out.mono ?_;rintro e w8 ⟨rfl,rfl⟩;rw[gG b8.out]
     go_wp2_with fail;go_ret2;exact⟨.inl ⟨c3.out,rfl⟩,k7.out⟩
    ·have b':key_l19≠ []:=λe=>j0 (by have:=c1.out;rw [e] at this;simpa using this)
     have p0:(0:Int)<(kn:Int):=by omega
     have p1:((kn:Int)==0)=false:=by simp;omega
     have c3:Hid (r=nY (N-(j+1)) s3 ((L++[(⟨⟨v,kn,E,key_l19⟩,⟨vA,vn,vc,val⟩,false⟩:Ch)]).map cK)):=Ld (by
      have h1:=g6.out;rw[X]at h1;unfold nY at h1;rw[y.out,if_neg b']at h1;rw[h1,List.map_append]
      rfl)
     have p':decide ((0:Int)=(kn:Int))=false:=decide_eq_false (by omega);clear b' y X;have e0:T.cell? ⟨b6,0,none⟩=some (.slice v kn E):=b1.out.cell 0;have e1:T.cell? ⟨b6,1,none⟩=some (.slice vA vn vc):=b1.out.cell 1;have e2:T.cell? ⟨b6,2,none⟩=some (.bool false):=b1.out.cell 2
     go_wp2_with (first
      |((with_reducible refine dM ⟨some 34,.buildSlice _ _ _,_,_,_,_⟩ ?_);refine cD Ga (by decide) rfl (.tmp 33) rfl #[.slice v kn E,.slice vA vn vc,.bool false] rfl rfl ?_)
      |(at_builtin;refine dM ⟨some 35,_,_,_,_,_⟩ ?_;refine dG ?_))
     refine⟨?_⟩;refine av (o:=⟨some 35,_,_,_,_,_⟩) Ga _ rfl (.tmp 32) (.tmp 34) rfl w.heap.size (.slice A' m c') m (L.flatMap Ch.cells) rfl (aa.own (aa.al (aa.refl _) _) G.out) _ 1 1 [.slice v kn E,.slice vA vn vc,.bool false] rfl (Rd.ofBlk (p:=λ_=>True) (ac.new _ 92 #[.slice v kn E,.slice vA vn vc,.bool false]) 3 1 rfl trivial) (cF ⟨⟨v,kn,E,key_l19⟩,⟨vA,vn,vc,val⟩,false⟩) (by unfold maxLen;omega) (by omega) (by have:=M.out.size;simp;omega) ?_;intro A8 d8 w8 i7 c5 l7;have k8:Hid (aa w w8):=Ld ((aa.al M.out _).fr c5 (λk f=>(am G.out k f).1));have z:=((aa.al (aa.refl T) (.cells #[.slice v kn E,.slice vA vn vc,.bool false] 92)).toFr (λk=>(Value.slice A' m c').ownBlock=some k)).trans c5;have O:∀k,(Value.slice A' m c').ownBlock=some k->¬aK 5 T k:=λk f=>aK.not_own G.out (by decide) f
     have k1 : Hid (GH w g s3 A8 (m + 1) d8 (L ++ [⟨⟨v, kn, E, key_l19⟩, ⟨vA, vn, vc, val⟩, false⟩]) w8) := Ld ⟨k8.out, d.out.gz, t.out.fr z (λf => by
         obtain⟨Ar,cr,u,_⟩:=t.out.st
         exact bm G.out u (by decide) f) O,by rw[List.flatMap_append];simpa[Ch.cells]using i7,λc b=>by
         rcases List.mem_append.1 b with b|b
         ·exact(g5.out c b).fr z O
         ·rw[List.mem_singleton.1 b];exact Ch.InT.fr (w:=T) (c:=⟨⟨v,kn,E,key_l19⟩,⟨vA,vn,vc,val⟩,false⟩) ⟨g4.out,k2.out,o6.out,o4.out⟩ z O,λc b=>by
         rcases List.mem_append.1 b with b|b
         ·exact d.out.sz c b
         ·rw[List.mem_singleton.1 b]
          exact⟨b9.out,l4.out⟩⟩
     clear i7 c5 l7 z O
     go_wp2_with fail;go_roundw
     case rel=>exact⟨j+1,m+1,_,A8,d8,_,by omega,by omega,by go_num,rfl,k1,c3⟩
     case measure=>simp[intOf];omega
  ·obtain rfl:j=N:=by omega
   have j7:=g6.out;rw[Nat.sub_self]at j7;have n6:r.1=L.map cK:=by rw[j7];rfl
   have n7:r.2=s:=by rw[j7];rfl
   have hq:=HQ.out;rw[n6,n7,BV d.out.el]at hq;have g7:=Ld hq;have HE:=Ld (pR d.out.rd);have g8:L.length=m:=by have:=d.out.own.1;rw[ng]at this;omega
   have n9:=Ld g8;clear j7 n6 n7 hq g8 g6 m7 HQ
   go_wp2_with fail;refine HE.out.mono ?_;rintro e w3 ⟨rfl,rfl⟩
   by_cases hf:s.fin=0
   ·rw[hf,eR];have g8:=n9.out;have HC:=Ld (jL A' m c' L wr (Rd.own d.out.own rfl) g8 (by omega) (λc b=>by have:=d.out.sz c b;unfold maxLen;omega));have t:Hid (ou wr A' m L):=Ld ⟨dS (Rd.own d.out.own rfl),g8,λc b=>(d.out.el c b).in_⟩;clear g8
    go_wp2_with fail;refine HC.out.mono ?_;rintro e w4 ⟨rfl,n0⟩;have k6:=Ld n0;clear n0 HC
    by_cases b0:bY L=true
    ·rw[b0];have i1:Hid (q=some (L.map cK)):=Ld (by rw[g7.out,if_pos ⟨hf,b0⟩]);clear g7 b0 hf
     go_wp2_with fail;go_ret2;exact⟨.inr ⟨A',m,c',L,i1.out,rfl,t.out.new k6.out⟩,d.out.new.tr k6.out⟩
    ·have b0:bY L=false:=by simpa using b0
     rw[b0];have i1:Hid (q=none):=Ld (by rw[g7.out,if_neg (λh=>by rw[b0]at h;cases h.2)]);clear g7 b0 hf
     go_wp2_with fail;go_ret2;exact⟨.inl ⟨i1.out,rfl⟩,d.out.new.tr k6.out⟩
   ·rw[gG hf];have i1:Hid (q=none):=Ld (by rw[g7.out,if_neg (λh=>hf h.1)]);clear g7
    go_wp2_with fail;go_ret2;exact⟨.inl ⟨i1.out,rfl⟩,d.out.new⟩
theorem tD(xs rest:List Int):(⟨xs++rest,0⟩:Rs).raw xs.length=(xs,⟨rest,0⟩):=by
 have hl:(⟨xs++rest,0⟩:Rs).left=xs.length+rest.length:=by
  unfold Rs.left;simp
 unfold Rs.raw;rw[hl,if_neg (by omega)];simp
theorem DN(size n:Nat)(rest:List Int)(h:n<256^size):(⟨bj size n++rest,0⟩:Rs).num size=(n,⟨rest,0⟩):=by
 unfold Rs.num;have:=tD (bj size n) rest;rw[aw]at this;rw[this,iA size n h]
theorem nf(m b:Nat)(ys rest:List Int)(hm:ys.length=m)(h1:m<=b)(h2:m<65536):(⟨bj 2 m++(ys++rest),0⟩:Rs).bytes b=(ys,⟨rest,0⟩):=by
 have hl:(⟨bj 2 m++(ys++rest),0⟩:Rs).left=2+m+rest.length:=by
  unfold Rs.left;simp[aw,hm];omega
 have d:(bj 2 m++(ys++rest)).take 2=bj 2 m:=by
  have:=List.take_left (l₁:=bj 2 m) (l₂:=ys++rest)
  rwa[aw]at this
 unfold Rs.bytes;rw[hl,if_neg (by omega)];dsimp only;rw[d,iA 2 m (by omega),if_neg (by omega)];have f:=tD (bj 2 m) (ys++rest);rw[aw]at f;rw[f];dsimp only;have g:=tD ys rest
 rwa[hm]at g
theorem ux(b:Bool)(rest:List Int):(⟨[if b then 1 else 0]++rest,0⟩:Rs).flag=(b,⟨rest,0⟩):=by
 unfold Rs.flag Rs.num Rs.raw Rs.left
 cases b<;>simp[aU]
theorem xG{c:Ch}(j:c.k.xs.length=c.k.n)(k:c.v.xs.length=c.v.n)(f:eX c=true)(rest:List Int):co ⟨mq c++rest,0⟩=(cK c,⟨rest,0⟩):=by
 obtain⟨⟨r,kn,s,b⟩,⟨t,vn,u,g⟩,d⟩:=c;dsimp only at j k;simp only[eX,Bool.and_eq_true,decide_eq_true_eq,Bool.not_eq_true',Bool.and_eq_false_iff,decide_eq_false_iff_not]at f;obtain⟨⟨⟨h1,h2⟩,p⟩,i⟩:=f;unfold co mq cK;dsimp only
 cases d
 ·have e: [if !false then (1:Int) else 0]++bj 2 kn++b++(if false=true then [] else bj 2 vn++g)++rest= [if !false then (1:Int) else 0]++(bj 2 kn++(b++(bj 2 vn++(g++rest)))):=by simp
  rw[e,ux];dsimp only;rw[nf kn 16 b _ j h2 (by omega),nf vn 16384 g rest k p (by omega)];rfl
 ·have m:vn=0:=by
   rcases i with i|i
   ·cases i
   ·omega
  have o:g=[]:=List.eq_nil_of_length_eq_zero (by rw[k,m]);have e: [if !true then(1:Int)else 0]++bj 2 kn++b++(if true=true then[]else bj 2 vn++g)++rest=[if !true then(1:Int)else 0]++(bj 2 kn++(b++rest)):=by simp
  rw[e,ux];dsimp only;rw[nf kn 16 b _ j h2 (by omega),o];rfl
def ko(L:List Ch):Prop:=∀c∈L,c.k.xs.length=c.k.n/\c.v.xs.length=c.v.n
theorem ou.lens{w:World}{A:Option Addr}{n:Nat}{L:List Ch}(h:ou w A n L):ko L:=λc b=>⟨(h.el c b).k.len,(h.el c b).v.len⟩
theorem DV(L:List Ch)(hl:ko L)(f:∀c∈L,eX c=true)(out:List PC)(rest:List Int):nY L.length ⟨L.flatMap mq++rest,0⟩ out=(out++L.map cK,⟨rest,0⟩):=by
 induction L generalizing out with
 |nil=>simp[nY]
 |cons c L i=>
  have b:=hl c (List.mem_cons_self ..);have d:=f c (List.mem_cons_self ..);rw[List.length_cons];unfold nY;rw[List.flatMap_cons,List.append_assoc,xG b.1 b.2 d]
  have g:(cK c).k≠ []:=by
   intro e;have h1:c.k.xs=[]:=e;have h2:=b.1;rw[h1]at h2;simp only[eX,Bool.and_eq_true,decide_eq_true_eq]at d;simp at h2;omega
  rw[if_neg g];dsimp only;rw[i (λc b=>hl c (List.mem_cons_of_mem _ b)) (λc b=>f c (List.mem_cons_of_mem _ b))];simp
theorem BU{c:Ch}(b:c.k.xs.length=c.k.n)(d:c.v.xs.length=c.v.n):lx (cK c)=eX c:=by
 unfold lx eX cK;simp only[b,d]
theorem fE{L:List Ch}(h:ko L):dN (L.map cK)=bY L:=by
 unfold dN bY;have b:(L.map cK).length=L.length:=by simp
 have e:(L.map cK).all lx=L.all eX:=by
  clear b
  induction L with
  |nil=>rfl
  |cons c L f=>rw[List.map_cons,List.all_cons,List.all_cons,BU (h c (List.mem_cons_self ..)).1 (h c (List.mem_cons_self ..)).2,f λc d=>h c (List.mem_cons_of_mem _ d)]
 rw[b,e]
theorem zi{L:List Ch}(h:bY L=true):∀c∈L,eX c=true:=by
 unfold bY at h;simp only[Bool.and_eq_true]at h;exact List.all_eq_true.1 h.2
theorem zP{L:List Ch}(hl:ko L)(b:bY L=true):eG (bI L)=some (L.map cK):=by
 have d:=dt b;unfold eG bI;have h1:=DN 2 L.length (L.flatMap mq) (by omega);rw[h1];dsimp only;have h2:=DV L hl (zi b) [] [];rw[List.append_nil,List.nil_append]at h2;rw[h2];dsimp only;rw[if_pos ⟨rfl,by rw[fE hl];exact b⟩]
section
variable {α:Type}
def oL(f:α->Nat):Option (List (List α)×List α)->α->Option (List (List α)×List α)
 |none,y=>some ([],[y])
 |some (C,l),y=>if l.length<600/\(l.map f).sum+f y<=8190 then some (C,l++[y])else some (C++[l],[y])
def mP(f:α->Nat)(L:List α):Option (List (List α)×List α):=L.foldl (oL f) none
def jt:Option (List (List α)×List α)->List (List α)
 |none=>[]
 |some (C,l)=>C++[l]
theorem kN(f:α->Nat)(L:List α)(y:α):mP f (L++[y])=oL f (mP f L) y:=by simp[mP]
theorem Ej{β:Type}(g:α->β)(f:β->Nat)(s:Option (List (List α)×List α))(y:α):
    oL f (s.map λx=>(x.1.map (List.map g),x.2.map g)) (g y)=(oL (λa=>f (g a)) s y).map λx=>(x.1.map (List.map g),x.2.map g):=by
 rcases s with _|⟨C,l⟩
 ·simp[oL]
 ·have b:(List.map f (List.map g l)).sum=(List.map (λa=>f (g a)) l).sum:=by rw [List.map_map];rfl
  simp only[oL,Option.map_some,List.length_map,b]
  by_cases h:l.length<600/\(l.map λa=>f (g a)).sum+f (g y)<=8190
  ·rw[if_pos h,if_pos h];simp
  ·rw[if_neg h,if_neg h];simp
theorem Ek {β:Type} (g:α->β) (f:β->Nat) (L:List α):mP f (L.map g)=(mP (λa=>f (g a)) L).map λx=>(x.1.map (List.map g),x.2.map g):=by
 suffices h:∀s:Option (List (List α)×List α),(L.map g).foldl (oL f) (s.map λx=>(x.1.map (List.map g),x.2.map g))=(L.foldl (oL λa=>f (g a)) s).map λx=>(x.1.map (List.map g),x.2.map g)from h none
 induction L with
 |nil=>intro s;rfl
 |cons y L b=>intro s;rw[List.map_cons,List.foldl_cons,List.foldl_cons,Ej,b]
theorem Ef{β:Type}(g:α->β)(s:Option (List (List α)×List α)):jt (s.map λx=>(x.1.map (List.map g),x.2.map g))=(jt s).map (List.map g):=by
 rcases s with _|⟨C,l⟩<;>simp[jt]
theorem jv(f:α->Nat)(L:List α):(jt (mP f L)).flatten=L:=by
 suffices h:∀(s:Option (List (List α)×List α)),(jt (L.foldl (oL f) s)).flatten=(jt s).flatten++L from(h none).trans (by simp[jt])
 induction L with
 |nil=>intro s;simp
 |cons y L b=>
  intro s;rw[List.foldl_cons,b];rcases s with _|⟨C,l⟩
  ·simp[oL,jt]
  ·simp only[oL]
   by_cases h:l.length<600/\(l.map f).sum+f y<=8190
   ·rw[if_pos h];simp[jt]
   ·rw[if_neg h];simp[jt]
theorem CD(f:α->Nat)(L:List α):∀l∈jt (mP f L),1<=l.length/\l.length<=600:=by
 suffices h:∀(s:Option (List (List α)×List α)),(∀l∈jt s,1<=l.length/\l.length<=600)->∀l∈jt (L.foldl (oL f) s),1<=l.length/\l.length<=600 from h none (by simp[jt])
 induction L with
 |nil=>intro s h;exact h
 |cons y L g=>
  intro s h;rw[List.foldl_cons];refine g _ ?_;rcases s with _|⟨C,l⟩
  ·simp[oL,jt]
  ·simp only [oL];have hl:=h l (by simp [jt]);have d:∀x∈C,1<=x.length/\x.length<=600:=λx b=>h x (by simp [jt,b])
   split
   ·next i=>
    intro x b;simp only[jt,List.mem_append,List.mem_singleton]at b;rcases b with b|rfl
    ·exact d x b
    ·simp;omega
   ·intro x b;simp only [jt,List.mem_append,List.mem_singleton] at b;rcases b with (b | rfl) | rfl
    ·exact d x b
    ·exact hl
    ·simp
end
def iD(c:Ch):Nat:=5+c.k.xs.length+c.v.xs.length
section
variable {B:Nat}{W W':World}
theorem eN.cell{p:Addr}{v:Value}(h:eN B W W')(b:W.cell? p=some v):W'.cell? p=some v:=by
 have f:=World.block_lt_of_cell? W p b;refine(World.cell?_of_block (w:=W) ?_).trans b;have d:W.heap[p.block]?=some W.heap[p.block]:=Array.getElem?_eq_getElem f;refine(h.keep d ?_).trans d.symm;generalize W.heap[p.block]=o at d;unfold World.cell? at b;rw[d]at b
 cases o<;>first|rfl|simp at b
theorem eN.rd{p:Nat->Prop}{size n:Nat}{A:Option Addr}{xs:List Value}(h:eN B W W')(b:Rd p W size A n xs):Rd p W' size A n xs:=
 ⟨b.1,λi=>by
  obtain⟨d,e,k,f,g⟩:=b.2 i
  have hz:W.heap.size<=W'.heap.size:=by
   obtain⟨l,o,o',-,-,-,rfl⟩:=h;simp
  exact⟨d,e,k,Nat.lt_of_lt_of_le f hz,λj u hu=>h.cell (g j u hu)⟩⟩
end
theorem Rd.lts{p:Nat->Prop}{w:World}{s n:Nat}{A:Option Addr}{xs:List Value}(h:Rd p w s A n xs):Rd (λb=>p b/\b<w.heap.size) w s A n xs:=
 ⟨h.1,λi=>by obtain⟨f,e,j,d,g⟩:=h.2 i;exact⟨f,e,⟨j,d⟩,d,g⟩⟩
theorem Ch.In.lts{p:Nat->Prop}{w:World}{c:Ch}(h:c.In p w):c.In (λb=>p b/\b<w.heap.size) w:=⟨⟨h.k.rd.lts,h.k.byt⟩,⟨h.v.rd.lts,h.v.byt⟩⟩
theorem Ch.In.imp{p q:Nat->Prop}{w:World}{c:Ch}(h:c.In p w)(b:∀k,p k->q k):c.In q w:=⟨⟨h.k.rd.imp b,h.k.byt⟩,⟨h.v.rd.imp b,h.v.byt⟩⟩
theorem Ch.In.frq{p S:Nat->Prop}{w w':World}{c:Ch}(h:c.In p w)(hF:Fr S w w')(hS:∀k,p k->¬S k):c.In p w':=⟨⟨h.k.rd.fr hF hS,h.k.byt⟩,⟨h.v.rd.fr hF hS,h.v.byt⟩⟩
theorem DS{w:World}{base n c g i:Nat}{e:TypeId}{xs:List Value}(h:w.ownsRow base e 1 (.slice (some ⟨g,0,none⟩) n c) n xs)(hi:i<n)(u:Value):(w.setCell ⟨g,i,none⟩ u).ownsRow base e 1 (.slice (some ⟨g,0,none⟩) n c) n (xs.set i u):=by
 refine⟨by rw[List.length_set];exact h.1,?_⟩;rcases h.2 with⟨h0,-⟩|⟨g',cap,cur,o,j,m,h1,h2,d,f⟩
 ·injection h0 with h0;cases h0
 ·injection o with b p k;injection b with b;injection b with b;subst b k;refine .inr ⟨g,c,cur.setIfInBounds i u,rfl,j,heap_setCell_same w g i cur e u m,h1,h2,by simpa using d,?_⟩;rw[Array.toList_setIfInBounds,<-f,List.take_set]
theorem io{w:World}{i b2 s1 s2 o n2:Nat}{d f:TypeId}{v1 g:Value}{p r:List Value}(h1:w.ownsRow i d s1 v1 o p)(h2:w.ownsRow b2 f s2 g n2 r)(j:d≠f){k:Nat}(m:v1.ownBlock=some k):g.ownBlock≠some k:=
 λb=>aK.not_own h1 j m (lf h2 b)
structure iV(tr te:TypeId)(q:Nat->Prop)(base lo:Nat)(W:World)(A:Option Addr)(n c:Nat)(C:List Sl)(l:Sl):Prop where
 ne:tr≠te
 qb:∀j,base<=j->q j
 nn:n=C.length+1
 out:W.ownsRow base tr 1 (.slice A n c) n ((C++[l]).flatMap Sl.cells)
 blo:base<=lo
 los:lo<=W.heap.size
 last:W.ownsRow lo te 3 (.slice l.A l.n l.c) l.n (l.L.flatMap Ch.cells)
 ll:l.L.length=l.n
 cl:∀x∈C,x.L.length=x.n/\Rd (λj=>q j/\j<lo/\(Value.slice A n c).ownBlock≠some j/\base<=j) W 3 x.A x.n (x.L.flatMap Ch.cells)
 el:∀x∈C++[l],∀y∈x.L,y.In (λj=>q j/\(Value.slice A n c).ownBlock≠some j/\(Value.slice l.A l.n l.c).ownBlock≠some j) W
section
variable {R:List Sl}{tr te:TypeId}{q S:Nat->Prop}{base lo:Nat}{W W':World}{A:Option Addr}{n c:Nat}{C:List Sl}{l:Sl}
theorem iV.fr(h:iV tr te q base lo W A n c C l)(hF:Fr S W W')(hS:∀j,S j->¬q j):iV tr te q base lo W' A n c C l:=
 ⟨h.ne,h.qb,h.nn,bg h.out hF (λk b d=>hS k d (h.qb k (am h.out k b).1)),h.blo,Nat.le_trans h.los hF.size,
  bg h.last hF (λk b d=>hS k d (h.qb k (Nat.le_trans h.blo (am h.last k b).1))),h.ll,
  λx f=>⟨(h.cl x f).1,(h.cl x f).2.fr hF (λk b d=>hS k d b.1)⟩,
  λx f y g=>(h.el x f y g).frq hF (λk b d=>hS k d b.1)⟩
theorem iV.new(h:iV tr te q base lo W A n c C l)(b:aa W W'):iV tr te q base lo W' A n c C l:=h.fr (b.toFr ic) (λ_ x=>x.elim)
theorem iV.puts{B:Nat}(h:iV tr te q base lo W A n c C l)(d:eN B W W'):iV tr te q base lo W' A n c C l:=
 ⟨h.ne,h.qb,h.nn,d.own h.out,h.blo,Nat.le_trans h.los (by obtain ⟨l,o,o',-,-,-,rfl⟩:=d;simp),d.own h.last,h.ll,λx b=>⟨(h.cl x b).1,d.rd (h.cl x b).2⟩,
  λx b y f=>⟨⟨d.rd (h.el x b y f).k.rd,(h.el x b y f).k.byt⟩,⟨d.rd (h.el x b y f).v.rd,(h.el x b y f).v.byt⟩⟩⟩
theorem iV.first(f:tr≠te)(m:∀j,base<=j->q j){l:Sl}{W0:World}(k:W.ownsRow base tr 1 (.slice A 1 c) 1 l.cells)(hl:W0.ownsRow lo te 3 (.slice l.A l.n l.c) l.n (l.L.flatMap Ch.cells))(h2:base<=lo)(i:lo<=W.heap.size)(hF:aa W0 W)(d:l.L.length=l.n)
    (b:∀y∈l.L,y.In (λj=>q j/\(Value.slice A 1 c).ownBlock≠some j/\(Value.slice l.A l.n l.c).ownBlock≠some j) W):iV tr te q base lo W A 1 c [] l:=
 ⟨f,m,rfl,by simpa using k,h2,i,hF.own hl,d,λx g=>(by cases g),λx g y o=>by
  have:x=l:=by simpa using g
  subst this
  exact b y o⟩
theorem iV.open_(h:iV tr te q base lo W A n c C l){d:Sl}{f m:Nat}{i:Option Addr}(z:W.heap.size<=f)(r:f<=W'.heap.size)
    (F:W'.ownsRow base tr 1 (.slice i (n+1) m) (n+1) ((C++[l]).flatMap Sl.cells++d.cells)) (hF:Fr (λk=>(Value.slice A n c).ownBlock=some k) W W')
    (b:∀k,(Value.slice i (n+1) m).ownBlock=some k->(Value.slice A n c).ownBlock=some k\/W.heap.size<=k)
    (hl:W'.ownsRow f te 3 (.slice d.A d.n d.c) d.n (d.L.flatMap Ch.cells)) (v:d.L.length=d.n)
    (u:∀y∈d.L,y.In (λj=>q j/\(Value.slice i (n+1) m).ownBlock≠some j/\(Value.slice d.A d.n d.c).ownBlock≠some j) W'):
    iV tr te q base f W' i (n+1) m (C++[l]) d:=by
 have p:∀k,k<W.heap.size->(Value.slice A n c).ownBlock≠some k->(Value.slice i (n+1) m).ownBlock≠some k:=λk h1 h2 t=>by
  rcases b k t with D|D
  ·exact h2 D
  ·omega
 have o:∀k,k<W.heap.size->(Value.slice d.A d.n d.c).ownBlock≠some k:=λk h1 t=>by
  have:=(am hl k t).1;omega
 refine⟨h.ne,h.qb,by have:=h.nn;simp;omega,by simpa using F,Nat.le_trans h.blo (Nat.le_trans h.los z),r,hl,v,λx g=>?_,λx g y E=>?_⟩
 ·rcases List.mem_append.1 g with g | g
  ·obtain⟨h1,h2⟩:=h.cl x g;refine⟨h1,(h2.lts.imp (q:=λj=>(q j/\j<f/\(Value.slice i (n+1) m).ownBlock≠some j/\base<=j)/\(Value.slice A n c).ownBlock≠some j) (λk b=>⟨⟨b.1.1,by omega,p k b.2 b.1.2.2.1,b.1.2.2.2⟩,b.1.2.2.1⟩)).fr hF (λk b s=>b.2 s) |>.imp (λk b=>b.1)⟩
  ·have:x=l:=by simpa using g
   subst this;have G:=Rd.own h.last rfl;refine⟨h.ll,(G.imp (q:=λj=>(q j/\j<f/\(Value.slice i (n+1) m).ownBlock≠some j/\base<=j)/\(Value.slice A n c).ownBlock≠some j) (λk b=>?_)).fr hF (λk b s=>b.2 s) |>.imp (λk b=>b.1)⟩;have h1:=am h.last k b;have h2:=io h.last h.out h.ne.symm b;exact⟨⟨h.qb k (Nat.le_trans h.blo h1.1),by omega,p k h1.2 h2,Nat.le_trans h.blo h1.1⟩,h2⟩
 ·rcases List.mem_append.1 g with g | g
  ·refine((h.el x g y E).lts.imp (q:=λj=>(q j/\(Value.slice i (n+1) m).ownBlock≠some j/\(Value.slice d.A d.n d.c).ownBlock≠some j)/\(Value.slice A n c).ownBlock≠some j) (λk b=>⟨⟨b.1.1,p k b.2 b.1.2.1,o k b.2⟩,b.1.2.1⟩)).frq hF (λk b s=>b.2 s) |>.imp (λk b=>b.1)
  ·have:x=d:=by simpa using g
   subst this;exact u y E
theorem iV.push{g:Nat}(h:iV tr te q base lo W (some ⟨g,0,none⟩) n c C l){m:Nat}{f:Option Addr}{y:Ch}
    (hl:W'.ownsRow lo te 3 (.slice f (l.n+1) m) (l.n+1) (l.L.flatMap Ch.cells++y.cells)) (hF:Fr (λk=>(Value.slice l.A l.n l.c).ownBlock=some k) W W')
    (b:∀k,(Value.slice f (l.n+1) m).ownBlock=some k->(Value.slice l.A l.n l.c).ownBlock=some k\/W.heap.size<=k)
    (M:y.In (λj=>q j/\g≠j/\(Value.slice l.A l.n l.c).ownBlock≠some j) W) {i:Nat} (hi:i=n-1):
    iV tr te q base lo (W'.setCell ⟨g,i,none⟩ (.slice f (l.n+1) m)) (some ⟨g,0,none⟩) n c C ⟨f,l.n+1,m,l.L++[y]⟩:=by
 subst hi;have F:=h.nn;have d:(Value.slice (some ⟨g,0,none⟩) n c).ownBlock=some g:=rfl;have D:(Value.slice l.A l.n l.c).ownBlock≠some g:=io h.out h.last h.ne d;have L:=am h.out g d
 have r:W'.ownsRow base tr 1 (.slice (some ⟨g,0,none⟩) n c) n ((C++[l]).flatMap Sl.cells):=bg h.out hF (λk b s=>by
  rw[d]at b;injection b with b
  exact D (b▸s))
 have v:(Value.slice f (l.n+1) m).ownBlock≠some g:=io r hl h.ne d;have o:Fr (λk=>k=g) W' (W'.setCell ⟨g,n-1,none⟩ (.slice f (l.n+1) m)):=(Fr.refl (λk=>k=g) W').setCell (p:=⟨g,n-1,none⟩) (λ_=>rfl) _
 have E:∀k,k<W.heap.size->(Value.slice l.A l.n l.c).ownBlock≠some k->(Value.slice f (l.n+1) m).ownBlock≠some k:=λk h1 h2 I=>by
  rcases b k I with G|G
  ·exact h2 G
  ·omega
 have t:∀z:Ch,z.In (λj=>q j/\(Value.slice (some ⟨g,0,none⟩) n c).ownBlock≠some j/\(Value.slice l.A l.n l.c).ownBlock≠some j) W->
     z.In (λj=>q j/\(Value.slice (some ⟨g,0,none⟩) n c).ownBlock≠some j/\(Value.slice f (l.n+1) m).ownBlock≠some j) (W'.setCell ⟨g,n-1,none⟩ (.slice f (l.n+1) m)):=λz hz=>
  (((hz.lts.imp (q:=λj=>(q j/\(Value.slice (some ⟨g,0,none⟩) n c).ownBlock≠some j/\(Value.slice f (l.n+1) m).ownBlock≠some j)/\(Value.slice l.A l.n l.c).ownBlock≠some j) (λk b=>⟨⟨b.1.1,b.1.2.1,E k b.2 b.1.2.2⟩,b.1.2.2⟩)).frq hF (λk b s=>b.2 s)).imp (λk b=>b.1)).frq o (λk b s=>b.2.1 (by rw[d,s]))
 refine⟨h.ne,h.qb,h.nn,?_,h.blo,Nat.le_trans h.los (Nat.le_trans hF.size o.size),bg (by simpa using hl) o (λk b s=>v (s▸b)),by simp[h.ll],λx u=>?_,λx u z hz=>?_⟩
 ·have:=DS r (i:=n-1) (by omega) (.slice f (l.n+1) m);rw[List.flatMap_append]at this⊢
  have J:(C.flatMap Sl.cells).length=C.length:=by
   clear this r t h o F
   induction C with
   |nil=>rfl
   |cons x C N=>simp[Sl.cells,N]
  rw[List.set_append_right _ _ (by omega)]at this;have e:n-1-(C.flatMap Sl.cells).length=0:=by omega
  rw[e]at this
  simpa[Sl.cells]using this
 ·obtain⟨h1,h2⟩:=h.cl x u;refine⟨h1,((h2.lts).fr hF (λk b s=>?_)).fr o (λk b s=>b.1.2.2.1 (by rw[d,s])) |>.imp (λk b=>b.1)⟩;have:=(am h.last k s).1;have:=b.1.2.1;omega
 ·rcases List.mem_append.1 u with u | u
  ·exact t z (h.el x (List.mem_append_left _ u) z hz)
  ·have:x=⟨f,l.n+1,m,l.L++ [y]⟩:=by simpa using u
   subst this;rcases List.mem_append.1 hz with hz|hz
   ·exact t z (h.el l (by simp) z hz)
   ·have:z=y:=by simpa using hz
    subst this;exact t z (M.imp λk b=>⟨b.1,by rw[d];exact λe=>b.2.1 (by injection e),b.2.2⟩)
structure AA(W:World)(A:Option Addr)(n:Nat)(R:List Sl):Prop where
 rd:Rd (λb=>b<W.heap.size) W 1 A n (R.flatMap Sl.cells)
 len:R.length=n
 el:∀x∈R,ou W x.A x.n x.L
theorem AA.nil(W:World):AA W none 0 []:=⟨Rd.nil,rfl,λx h=>by cases h⟩
theorem iV.bts(h:iV tr te q base lo W A n c C l):AA W A n (C++[l]):=
 ⟨dS (Rd.own h.out rfl),by have:=h.nn;simp;omega,λx b=>by
  refine⟨?_,?_,λy d=>Ch.In.szs (h.el x b y d)⟩
  ·rcases List.mem_append.1 b with b | b
   ·exact dS (h.cl x b).2
   ·have:x=l:=by simpa using b
    subst this;exact dS (Rd.own h.last rfl)
  ·rcases List.mem_append.1 b with b | b
   ·exact(h.cl x b).1
   ·have:x=l:=by simpa using b
    subst this
    exact h.ll⟩
structure ja(B D:Nat)(W:World)(A:Option Addr)(n:Nat)(R:List Sl):Prop where
 rd:Rd (λb=>B<=b/\b<D) W 1 A n (R.flatMap Sl.cells)
 len:R.length=n
 el:∀x∈R,x.L.length=x.n/\Rd (λb=>B<=b/\b<D) W 3 x.A x.n (x.L.flatMap Ch.cells)/\∀y∈x.L,y.In (λb=>B<=b/\b<D) W
theorem ja.fr{B D:Nat}{R:List Sl}(h:ja B D W A n R)(hF:Fr S W W')(hS:∀k,S k->k<B\/D<=k):ja B D W' A n R:=by
 have key_l19:∀k,(B<=k/\k<D)->¬S k:=λk g f=>by have:=hS k f;omega
 exact⟨h.rd.fr hF key_l19,h.len,λx b=>⟨(h.el x b).1,(h.el x b).2.1.fr hF key_l19,λy d=>⟨⟨((h.el x b).2.2 y d).k.rd.fr hF key_l19,((h.el x b).2.2 y d).k.byt⟩,⟨((h.el x b).2.2 y d).v.rd.fr hF key_l19,((h.el x b).2.2 y d).v.byt⟩⟩⟩⟩
theorem ja.new{B D:Nat}{R:List Sl}(h:ja B D W A n R)(b:aa W W'):ja B D W' A n R:=
 ⟨b.rd h.rd,h.len,λx d=>⟨(h.el x d).1,b.rd (h.el x d).2.1,λy f=>((h.el x d).2.2 y f).new b⟩⟩
theorem ja.row{B D:Nat}{R:List Sl}(h:ja B D W A n R){x:Sl}(b:x∈R):ou W x.A x.n x.L:=
 ⟨dS (h.el x b).2.1,(h.el x b).1,λy d=>Ch.In.szs ((h.el x b).2.2 y d)⟩
theorem ja.nil(B D:Nat)(W:World):ja B D W none 0 []:=⟨Rd.nil,rfl,λx h=>by cases h⟩
theorem Rd.low{p:Nat->Prop}{s:Nat}{xs:List Value}{B:Nat}(h:Rd p W s A n xs)(i:∀k,p k->B<=k):Rd (λb=>B<=b/\b<W.heap.size) W s A n xs:=
 ⟨h.1,λg=>by
  obtain⟨d,e,h1,h2,f⟩:=h.2 g
  exact⟨d,e,⟨i _ h1,h2⟩,h2,f⟩⟩
theorem iV.btsN(h:iV tr te q base lo W A n c C l){B:Nat}(i:∀j,q j->B<=j):ja B W.heap.size W A n (C++[l]):=by
 have o:B<=base:=i _ (h.qb _ (Nat.le_refl _));refine⟨Rd.low (Rd.own h.out rfl) (λk f=>Nat.le_trans o (am h.out k f).1),by have:=h.nn;simp;omega,λx d=>?_⟩
 have g:∀y∈x.L,y.In (λb=>B<=b/\b<W.heap.size) W:=λy m=>
  ⟨⟨Rd.low (h.el x d y m).k.rd (λk f=>i k f.1),(h.el x d y m).k.byt⟩,⟨Rd.low (h.el x d y m).v.rd (λk f=>i k f.1),(h.el x d y m).v.byt⟩⟩
 rcases List.mem_append.1 d with d|d
 ·exact⟨(h.cl x d).1,Rd.low (h.cl x d).2 (λk f=>i k f.1),g⟩
 ·have:x=l:=by simpa using d
  subst this;exact⟨h.ll,Rd.low (Rd.own h.last rfl) (λk f=>by have:=(am h.last k f).1;have:=h.blo;omega),g⟩
structure iZ(B:Nat)(W:World)(A:Option Addr)(n:Nat)(R:List Sl):Prop where
 rd:Rd (λb=>B<=b) W 1 A n (R.flatMap Sl.cells)
 len:R.length=n
 el:∀x∈R,x.L.length=x.n/\Rd (λb=>B<=b) W 3 x.A x.n (x.L.flatMap Ch.cells)
theorem iZ.fr{B:Nat}{R:List Sl}(h:iZ B W A n R)(hF:Fr S W W')(hS:∀k,S k->k<B):iZ B W' A n R:=
 have key_l19:∀k,B<=k->¬S k:=λk f d=>by have:=hS k d;omega
 ⟨h.rd.fr hF key_l19,h.len,λx b=>⟨(h.el x b).1,(h.el x b).2.fr hF key_l19⟩⟩
theorem iZ.nil(B:Nat)(W:World):iZ B W none 0 []:=⟨Rd.nil,rfl,λx h=>by cases h⟩
theorem iV.btsL(h:iV tr te q base lo W A n c C l):iZ base W A n (C++[l]):=by
 refine⟨(Rd.own h.out rfl).imp (λk d=>(am h.out k d).1),by have:=h.nn;simp;omega,λx b=>?_⟩;rcases List.mem_append.1 b with b|b
 ·exact⟨(h.cl x b).1,(h.cl x b).2.imp (λk d=>d.2.2.2)⟩
 ·have:x=l:=by simpa using b
  subst this;exact⟨h.ll,(Rd.own h.last rfl).imp (λk d=>Nat.le_trans h.blo (am h.last k d).1)⟩
end
end Go.Proofs.YtfchcdbfalgdlaaGreatDoor
namespace Go.Proofs.YtfchcdbfalgdlaaGreatDoor
open _root_.Go.Proofs.Tryz
open Go.RowKit
theorem jR{F:Fence}{L:Nat}{P:Program}{t e:TypeId}{size bytes:Nat}(E:aY P t e size bytes)(w:World){y:Array Oper}{rest:List Oper}{o:Oper}{a:Act}{Q:Exit->Act->World->Prop}(I:o.guard=none)(s x:Operand)
    (J:o.op=.call {callee:=.builtin .append,args:= #[s,x],argTypes:= #[t,t]})
    (base:Nat) (v:Value) (n:Nat) (xs:List Value) (T:a.eval s=v) (j:w.ownsRow base e size v n xs)
    {p:Nat->Prop} (X:Option Addr) (m c:Nat) (b:List Value) (U:a.eval x=.slice X m c) (O:Rd p w size X m b) (h1:∀u∈b,u.oneCell'=true)
    (z:n+m<=maxLen) (d:(n+m)*bytes<=140737488355328) (f:base<=w.heap.size)
    (h:∀g i w',w'.ownsRow base e size (.slice g (n+m) i) (n+m) (xs++b)->Fr (λk=>v.ownBlock=some k) w w'->
     (∀k,(Value.slice g (n+m) i).ownBlock=some k->v.ownBlock=some k\/w.heap.size<=k)->wpListIn F L P y Q rest (a.put o.dst (.slice g (n+m) i)) w'):wpListIn F L P y Q (o::rest) a w:=by
 refine wpListIn_plain I λK D=>?_
 obtain⟨g,i,w',r,h2,M,N⟩:=yP E w base o.type v n xs j X m c b O h1 z d f;unfold Oper.wpIn;refine⟨?_,?_⟩
 ·simp[Oper.about,J,resolve,Target.leads,Sem.run_pure]
 ·rw[Oper.semAt_plain F _ _ (by rw[J];intro c G;cases G)];simp[execOp,J,resolve,invoke,builtin,T,U,r,Result.andThen];exact D _ _ (h g i w' h2 M N)
end Go.Proofs.YtfchcdbfalgdlaaGreatDoor
