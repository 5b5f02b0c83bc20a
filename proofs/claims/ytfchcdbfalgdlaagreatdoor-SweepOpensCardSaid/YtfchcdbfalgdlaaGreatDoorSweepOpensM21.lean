/- Texts of one proof. No condition but each one's own. -/
import Derived.Test.YtfchcdbfalgdlaaGreatDoorSweepOpensM20
import Derived.Test.YtfchcdbfalgdlaaGreatDoorSweepOpensM8
import Derived.Sort.Walk0
set_option maxHeartbeats 4000000
set_option maxRecDepth 100000
set_option linter.unusedVariables false
set_option linter.unusedSimpArgs false
namespace Go.Proofs.YtfchcdbfalgdlaaGreatDoor
open _root_.Go.Proofs.Tryz
open Go.RowKit Go.Maps Go.Sort
def cl(L:List Ch):CT:=L.map fun c=>(c.k.xs,c.v.xs)
def rG(a b:List Int×List Int):Bool:=leB (sb a.1) (sb b.1)
theorem qH(xs:List Int):(strOfNums xs).toList=sb xs:=by
 unfold sb;exact ByteArray.toList_eq _
theorem ol(x y:List Int):fO x y=leB (sb y) (sb x):=by
 unfold fO;rw[qH,qH,bytesLess_eq];unfold leB
 by_cases h:sb x<sb y
 ·have:¬sb y≤sb x:=List.not_le.2 h;simp[h,this]
 ·have:sb y≤sb x:=List.not_lt.1 h;simp[h,this]
theorem DZ{xs ys:List Int}(b:aU xs)(d:aU ys)(h:sb xs=sb ys):xs=ys:=by
 refine nv b d ?_;unfold key_l19;unfold sb at h;rw[h]
theorem qm(a b c:List Int×List Int)(h1:rG a b=true)(h2:rG b c=true):rG a c=true:=by
 simp only[rG,leB,decide_eq_true_eq]at*;exact List.le_trans h1 h2
theorem ql(a b:List Int×List Int):(rG a b||rG b a)=true:=by
 simp only[rG,leB,Bool.or_eq_true,decide_eq_true_eq];exact List.le_total _ _
theorem td(x:List Int):fO x x=true:=by
 rw[ol];simp[leB]
theorem AO{α:Type}{p:α→Bool}{l:List α}:∀x∈l.takeWhile p,p x=true:=by
 induction l with
 |nil=>intro x b;cases b
 |cons y l d=>
  intro x b
  by_cases h:p y=true
  ·rw [List.takeWhile_cons_of_pos h] at b;rcases List.mem_cons.1 b with rfl | b
   ·exact h
   ·exact d x b
  ·rw[List.takeWhile_cons_of_neg h]at b
   cases b
theorem Ef{α:Type}{p:α→Bool}{l:List α}(h:∀x∈l,p x=true):l.takeWhile p=l:=by
 induction l with
 |nil=>rfl
 |cons y l d=>
  rw[List.takeWhile_cons_of_pos (h y (List.mem_cons_self ..)),d fun x b=>h x (List.mem_cons_of_mem _ b)]
section
variable (c:Ch)
theorem uY(R:List Ch)(x:Ch):iT fO c (R,true) x=(if x.k.xs=c.k.xs then R else R++[x],true):=by
 unfold iT;simp
theorem oL(L:List Ch)(R:List Ch):L.foldl (iT fO c) (R,true)=(R++L.filter (fun x=>decide (x.k.xs≠c.k.xs)),true):=by
 induction L generalizing R with
 |nil=>simp
 |cons x L b=>
  rw[List.foldl_cons,uY,b]
  by_cases h:x.k.xs=c.k.xs
  ·simp[h]
  ·simp[h]
theorem tM(L:List Ch)(R:List Ch):L.foldl (iT fO c) (R,false)=
    if L.all (fun x=> !fO x.k.xs c.k.xs)then(R++L,false)else(R++L.takeWhile (fun x=> !fO x.k.xs c.k.xs)++[c]++(L.dropWhile (fun x=> !fO x.k.xs c.k.xs)).filter (fun x=>decide (x.k.xs≠c.k.xs)),true):=by
 induction L generalizing R with
 |nil=>simp
 |cons x L j=>
  rw[List.foldl_cons]
  by_cases b:fO x.k.xs c.k.xs=true
  ·have i:iT fO c (R,false) x=(if x.k.xs=c.k.xs then R++[c]else R++[c]++[x],true):=by
    unfold iT;simp[b]
   rw[i,oL]
   have f:¬(x::L).all (fun x=> !fO x.k.xs c.k.xs)=true:=fun h=>by
    have:=List.all_eq_true.1 h x (List.mem_cons_self ..);rw[b]at this
    cases this
   rw[if_neg f,List.takeWhile_cons_of_neg (by rw[b];decide),List.dropWhile_cons_of_neg (by rw[b];decide)]
   by_cases h:x.k.xs=c.k.xs
   ·rw[if_pos h,List.filter_cons_of_neg (by simpa using h),List.append_nil]
   ·rw[if_neg h,List.filter_cons_of_pos (by simpa using h),List.append_nil,List.append_assoc,List.append_assoc,List.append_assoc];rfl
  ·have b:fO x.k.xs c.k.xs=false:=by simpa using b
   have g:¬x.k.xs=c.k.xs:=fun e=>by rw[e,td]at b;cases b
   have i:iT fO c (R,false) x=(R++[x],false):=by
    unfold iT;simp[b,g]
   rw[i,j,List.takeWhile_cons_of_pos (by simp[b]),List.dropWhile_cons_of_pos (by simp[b])]
   by_cases d:L.all (fun x=> !fO x.k.xs c.k.xs)=true
   ·rw[if_pos d,if_pos (by simp[b];simpa using d)];simp
   ·rw[if_neg d,if_neg (by simp[b];simpa using d)];simp
theorem rQ(L:List Ch):jh fO c L=if c.d then L.filter (fun x=>decide (x.k.xs≠c.k.xs))else L.takeWhile (fun x=> !fO x.k.xs c.k.xs)++[c]++(L.dropWhile (fun x=> !fO x.k.xs c.k.xs)).filter (fun x=>decide (x.k.xs≠c.k.xs)):=by
 unfold jh dm
 cases c.d
 ·rw[tM]
  by_cases b:L.all (fun x=> !fO x.k.xs c.k.xs)=true
  ·rw[if_pos b]
   have h1:L.takeWhile (fun x=> !fO x.k.xs c.k.xs)=L:=by
    exact Ef (List.all_eq_true.1 b)
   have h2:L.dropWhile (fun x=> !fO x.k.xs c.k.xs)=[]:=by
    have:=List.takeWhile_append_dropWhile (p:=fun x=> !fO x.k.xs c.k.xs) (l:=L);rw[h1]at this
    simpa using this
   rw[h1,h2];simp
  ·rw[if_neg b];simp
 ·rw[oL];simp
theorem ye(L:List Ch):(jh fO c L).Perm (if c.d then L.filter (fun x=>decide (x.k.xs≠c.k.xs))else L.filter (fun x=>decide (x.k.xs≠c.k.xs))++[c]):=by
 rw[rQ]
 cases c.d
 ·rw[if_neg (by simp),if_neg (by simp)]
  have h:L.filter (fun x=>decide (x.k.xs≠c.k.xs))=L.takeWhile (fun x=> !fO x.k.xs c.k.xs)++(L.dropWhile (fun x=> !fO x.k.xs c.k.xs)).filter (fun x=>decide (x.k.xs≠c.k.xs)):=by
   conv=>lhs;rw[←List.takeWhile_append_dropWhile (p:=fun x=> !fO x.k.xs c.k.xs) (l:=L)]
   rw[List.filter_append]
   congr 1
   rw[List.filter_eq_self];intro x b;have:=AO x b;simp only[decide_eq_true_eq];intro e;rw[e,td]at this
   cases this
  rw[h,List.append_assoc,List.append_assoc];exact List.Perm.append_left _ List.perm_append_comm
 ·exact List.Perm.refl _
end
theorem pY(L:List Ch)(k:List Int):cl (L.filter (fun x=>decide (x.k.xs≠k)))=kS (cl L) k:=by
 unfold cl kS;rw[List.filter_map];rfl
structure Kn(T:CT):Prop where
 nd:(T.map Prod.fst).Nodup
 byt:∀e∈T,aU e.1
theorem Kn.del{T:CT}(h:Kn T)(k:List Int):Kn (kS T k):=⟨(List.Sublist.map _ List.filter_sublist).nodup h.nd,fun e b=>h.byt e (List.mem_filter.1 b).1⟩
theorem Kn.put{T:CT}(h:Kn T){k v:List Int}(f:aU k):Kn (pD T k v):=by
 refine⟨?_,fun e b=>?_⟩
 ·unfold pD;rw[List.map_append,List.nodup_append];refine⟨(h.del k).nd,by simp,fun x g y d e=>?_⟩;simp at d;subst d e;simp[kS]at g
 ·rcases List.mem_append.1 b with b | b
  ·exact(h.del k).byt e b
  ·rw[List.mem_singleton.1 b];exact f
theorem Kn.doC{T:CT}(h:Kn T){c:Ch}(b:aU c.k.xs):Kn (doC T c):=by
 unfold Go.Proofs.YtfchcdbfalgdlaaGreatDoor.doC;split
 ·exact h.del _
 ·exact h.put b
theorem DG{T:CT}(h:(T.map Prod.fst).Nodup){a b:List Int×List Int}(d:a∈T)(f:b∈T)(e:a.1=b.1):a=b:=by
 induction T with
 |nil=>cases d
 |cons x T g=>
  rw[List.map_cons,List.nodup_cons]at h;rcases List.mem_cons.1 d with h1|d<;>rcases List.mem_cons.1 f with h2|f
  ·rw[h1,h2]
  ·exact absurd (List.mem_map.2 ⟨b,f,by rw[←e,h1]⟩) h.1
  ·exact absurd (List.mem_map.2 ⟨a,d,by rw[e,h2]⟩) h.1
  ·exact g h.2 d f
theorem vl{l T:CT}(j:l.Pairwise (fun a b=>rG a b=true))(i:l.Perm T)(g:Kn T):l=aZ T:=by
 refine List.Perm.eq_of_pairwise (le:=fun a b=>rG a b=true) (fun a b d f h1 h2=>?_) j (List.pairwise_mergeSort qm ql T) (i.trans (List.mergeSort_perm T _).symm);have d:a∈T:=i.mem_iff.1 d;have f:b∈T:=(List.mergeSort_perm T _).mem_iff.1 f;refine DG g.nd d f (DZ (g.byt a d) (g.byt b f) ?_);simp only[rG,leB,decide_eq_true_eq]at h1 h2;exact List.le_antisymm h1 h2
theorem vk(T:CT):(aZ T).Pairwise (fun a b=>rG a b=true):=List.pairwise_mergeSort qm ql T
theorem ei(T:CT):(aZ T).Perm T:=List.mergeSort_perm T _
theorem wg{L:List Ch}{k:List Int}(g:(cl L).Pairwise (fun a b=>rG a b=true)):∀x∈L.dropWhile (fun x=> !fO x.k.xs k),fO x.k.xs k=true:=by
 induction L with
 |nil=>intro x d;cases d
 |cons y L j=>
  intro x d;have i:(cl (y::L)).Pairwise (fun a b=>rG a b=true):=g;unfold cl at g;rw[List.map_cons,List.pairwise_cons]at g
  by_cases f:fO y.k.xs k=true
  ·rw [List.dropWhile_cons_of_neg (by simp [f])] at d;rcases List.mem_cons.1 d with rfl | d
   ·exact f
   ·have h1:=g.1 _ (List.mem_map.2 ⟨x,d,rfl⟩);rw[ol]at f⊢;simp only[rG,leB,decide_eq_true_eq]at h1 f⊢;exact List.le_trans f h1
  ·rw[List.dropWhile_cons_of_pos (by simpa using f)]at d;exact j g.2 x d
theorem tH{L:List Ch}(c:Ch)(g:(cl L).Pairwise (fun a b=>rG a b=true)):(cl (jh fO c L)).Pairwise (fun a b=>rG a b=true):=by
 rw[rQ];have d:∀{M:List Ch},M.Sublist L→(cl M).Pairwise (fun a b=>rG a b=true):=fun h=>g.sublist (h.map _)
 cases c.d
 ·rw[if_neg (by simp)];unfold cl;rw[List.map_append,List.map_append,List.append_assoc,List.pairwise_append];refine⟨d (List.takeWhile_sublist _),?_,?_⟩
  ·rw[List.map_cons,List.map_nil,List.singleton_append,List.pairwise_cons];refine⟨fun e m=>?_,d (List.filter_sublist.trans (List.dropWhile_sublist _))⟩;obtain⟨x,i,rfl⟩:=List.mem_map.1 m;have:=wg (k:=c.k.xs) g x (List.mem_filter.1 i).1;rw[ol]at this;exact this
  ·intro a j b f;obtain ⟨x,i,rfl⟩:=List.mem_map.1 j;have h1:=AO x i;rw [ol] at h1;simp only [leB,Bool.not_eq_true',decide_eq_false_iff_not] at h1;have h1:=List.le_of_lt (List.not_le.1 h1);rcases List.mem_append.1 f with f | f
   ·rw[List.map_cons,List.map_nil,List.mem_singleton]at f;subst f;simp only[rG,leB,decide_eq_true_eq];exact h1
   ·obtain⟨y,o,rfl⟩:=List.mem_map.1 f;have h2:=wg (k:=c.k.xs) g y (List.mem_filter.1 o).1;rw[ol]at h2;simp only[rG,leB,decide_eq_true_eq]at h2⊢;exact List.le_trans h1 h2
 ·rw[if_pos rfl];exact d List.filter_sublist
theorem Ag{L:List Ch}{T:CT}(c:Ch)(h:cl L=aZ T)(b:Kn T)(d:aU c.k.xs):cl (jh fO c L)=aZ (doC T c):=by
 refine vl (tH c (by rw[h];exact vk T)) ?_ (b.doC d);have f:(cl (jh fO c L)).Perm _:=(ye c L).map _;refine f.trans ?_;unfold doC
 cases c.d
 ·rw[if_neg (by simp),if_neg (by simp),List.map_append];unfold pD;refine List.Perm.append_right _ ?_
  have:(cl (L.filter (fun x=>decide (x.k.xs≠c.k.xs)))).Perm (kS T c.k.xs):=by
   rw[pY,h];exact(ei T).filter _
  exact this
 ·rw[if_pos rfl,if_pos rfl]
  have:(cl (L.filter (fun x=>decide (x.k.xs≠c.k.xs)))).Perm (kS T c.k.xs):=by
   rw[pY,h];exact(ei T).filter _
  exact this
theorem Cf{L:List Ch}{T:CT}(C:List Ch)(h:cl L=aZ T)(b:Kn T)(f:∀c∈C,aU c.k.xs):cl (AZ L C)=aZ (nY T C)∧Kn (nY T C):=by
 induction C generalizing L T with
 |nil=>exact⟨h,b⟩
 |cons c C i=>
  have d:=f c (List.mem_cons_self ..);exact i (Ag c h b d) (b.doC d) (fun x g=>f x (List.mem_cons_of_mem _ g))
theorem BG{E:fi}(h1:(E.map Prod.fst).Nodup)(h2:∀e∈E,aU e.1):Kn (cY E):=by
 refine⟨?_,fun e b=>?_⟩
 ·unfold cY;rw[List.map_map];exact h1
 ·obtain⟨x,d,rfl⟩:=List.mem_map.1 b;exact h2 x d
theorem yq{L:List Ch}{T:CT}(h:cl L=aZ T)(hl:∀c∈L,c.k.xs.length=c.k.n∧c.v.xs.length=c.v.n):Aw L=fp T:=by
 rw[←nW (ei T),←h];unfold Aw fp cl;rw[List.map_map]
 congr 1
 refine List.map_congr_left fun c b=>?_
 have:=hl c b;simp only[Function.comp];omega
end Go.Proofs.YtfchcdbfalgdlaaGreatDoor
namespace Go.Proofs.YtfchcdbfalgdlaaGreatDoor
open _root_.Go.Proofs.Tryz
open Go.RowKit Go.Maps Go.Sort Go.WideShapes Go.ChangeShapes
section
variable {H:Type}{enc:TypeId×Value→H}{w:World}
structure Sl where
 A:Option Addr
 n:Nat
 c:Nat
 L:List Ch
def Sl.cells(x:Sl):List Value:=[.slice x.A x.n x.c]
end
end Go.Proofs.YtfchcdbfalgdlaaGreatDoor
namespace Go.Proofs.YtfchcdbfalgdlaaGreatDoor
open _root_.Go.Proofs.Tryz
open Go.RowKit Go.Maps Go.Sort
def lB(c:Ch):List Int:=[if !c.d then 1 else 0]++aY 2 c.k.n++c.k.xs++(if c.d then[]else aY 2 c.v.n++c.v.xs)
def bR(L:List Ch):List Int:=aY 2 L.length++L.flatMap lB
theorem vW{c:Ch}(b:c.k.xs.length=c.k.n)(d:c.v.xs.length=c.v.n):(lB c).length≤5+c.k.n+c.v.n:=by
 unfold lB;simp only[List.length_append,List.length_singleton,av,b];split
 ·simp;omega
 ·simp[av,d];omega
theorem mD{L:List Ch}{k:Nat}(h:k<L.length):(L.take (k+1)).flatMap lB=(L.take k).flatMap lB++lB L[k]:=by
 rw[List.take_succ_eq_append_getElem h,List.flatMap_append];simp
theorem ta{L:List Ch}(h:∀c∈L,(lB c).length≤40000)(j:Nat)(d:j≤L.length):((L.take j).flatMap lB).length≤j*40000:=by
 induction j with
 |zero=>simp
 |succ j b=>
  rw[mD (by omega),List.length_append];have:=b (by omega);have:=h L[j] (List.getElem_mem _);omega
theorem Cb(A:Option Addr)(n c:Nat)(L:List Ch)(w:World)(h:px w A n L)(j:n≤100000000)(i:∀c∈L,c.k.n≤maxLen∧c.v.n≤maxLen)(b:dg L=false):
    Calls prog 53 #[.slice A n c] w fun e w'=>e=.returned (.tuple #[.slice none 0 0,.iface 38 (.int .i64 2)])∧aa w w':=by
 have f:=Ld (jj A n c L w h.rd h.len j i);rw[b]at f;clear h j i b
 go_enter func53,ntmps53
 go_wp2_with fail
 refine f.out.mono ?_;rintro e k ⟨rfl,d⟩;have g:=Ld d;clear d f
 go_wp2_with fail
 go_ret2
 exact⟨rfl,g.out⟩
def Ep(w:World)(g j n:Nat)(L:List Ch)(wr:World):Prop:=aa w wr∧w.heap.size≤g∧fK wr g g (aY 2 n++(L.take j).flatMap lB)
def qU(b:Nat)(k v d:Value)(w:World):Prop:=w.cell? ⟨b,0,none⟩=some k∧w.cell? ⟨b,1,none⟩=some v∧w.cell? ⟨b,2,none⟩=some d
theorem qU.of{W:World}{b:Nat}{k v d:Value}(h:ab W b 92 #[k,v,d]):qU b k v d W:=⟨h.cell 0,h.cell 1,h.cell 2⟩
set_option maxHeartbeats 8000000 in
theorem rP(A:Option Addr)(n c:Nat)(L:List Ch)(w:World)(h:px w A n L)(Y:dg L=true):
    Calls prog 53 #[.slice A n c] w fun e w'=>(∃A' c' base,e=.returned (.tuple #[.slice A' (bR L).length c',.nilIface])∧w.heap.size≤base∧w'.ownsRow base 5 1 (.slice A' (bR L).length c') (bR L).length (am (bR L)))∧aa w w':=by
 obtain⟨i9,j',s⟩:=dK Y;have j6:n≤600:=by have:=h.len;omega
 have HC:=Ld (jj A n c L w h.rd h.len (by omega) (fun c hc=>by have:=s c hc;unfold maxLen;omega));rw[Y]at HC
 have g9:∀c∈L,(lB c).length≤40000:=fun c hc=>by
  have h1:=vW (h.el c hc).k.len (h.el c hc).v.len;have:=s c hc;omega
 have i1:=Ld g9;have H:=Ld h;have i0:=Ld s;clear h Y i9 j' s g9
 go_enter func53,ntmps53
 go_wp2_with fail
 refine HC.out.mono ?_;rintro e w1 ⟨rfl,f'⟩;have T:=Ld f';clear f' HC
 go_upto_region 4 with fail
 obtain⟨w2,J⟩:=nM (w1.alloc (.cells #[.nilIface,.slice none 0 0] 168):World);obtain⟨g,hg⟩:=nM (w1.heap.size);have b3:Hid (aa w w2):=Ld (by rw[J];exact aa.al T.out _);have c4:Hid (fK w2 g g []):=Ld ⟨⟨none,0,by rw[J,hg];exact ab.new _ _ _,World.ownsRow_nil _ _ _ _⟩,Nat.le_refl _,fun x hx=>nomatch hx⟩;have HZ:Hid (w.heap.size≤g):=Ld (by rw[hg];exact T.out.size);rw[←J,←hg];clear J hg T
 go_wp2_with fail
 refine(fC c4.out n 2 (by omega) (by omega) (by simp)).mono ?_;rintro e w3 ⟨rfl,g5,c8⟩;have HI:Hid (Ep w g 0 n L w3):=Ld ⟨c8.toNew b3.out HZ.out (Nat.le_refl _),HZ.out,by simpa using g5⟩;clear g5 c8 c4 b3
 go_wp2_with fail
 go_loopw [20] (fun i wr=>∃(j:Nat),j≤n∧i=.int .i64 j∧Hid (Ep w g j n L wr)) (fun i _=>n-(intOf i).toNat)
 case atStart=>exact⟨0,Nat.zero_le _,rfl,HI⟩
 case round=>
  obtain⟨j,hj,rfl,r⟩:=hrel;clear HI
  have m:(aY 2 n++(L.take j).flatMap lB).length≤100000000:=by
   rw[List.length_append,av];have:=ta i1.out j (by rw[H.out.len];exact hj);omega
  have b:=Ld m;clear m
  by_cases j0:j<n
  ·as_aux_lemma=>
   obtain⟨gA,o,hl,rfl,-,-,I⟩:=iD (f:=Ch.cells) (L:=L) (fun _=>rfl) (by omega) (r.out.1.rd H.out.rd) j0;have c0:wr.cell? ⟨gA,o+j*3,none⟩=some (.slice L[j].k.A L[j].k.n L[j].k.c):=I 0 _ rfl;have c1:wr.cell? ⟨gA,o+j*3+1,none⟩=some (.slice L[j].v.A L[j].v.n L[j].v.c):=I 1 _ rfl;have c2:wr.cell? ⟨gA,o+j*3+2,none⟩=some (.bool L[j].d):=I 2 _ rfl;have X:=H.out.el L[j] (List.getElem_mem _);have s:=i0.out L[j] (List.getElem_mem _);have Z:=mD hl;generalize L[j]=x at c0 c1 c2 X s Z;obtain⟨⟨u,z,y,ks⟩,⟨D,F,E,vs⟩,d⟩:=x;dsimp only at c0 c1 c2 s;have t:=Ld X;have b9:=Ld Z;have j4:(0:Int)≤(j:Int):=by omega
   have j5:(j:Int)<(n:Int):=by omega
   clear I hl X Z
   go_upto_region 8 with fail
   obtain⟨w4,M⟩:=nM (wr.alloc (.cells #[.slice u z y,.slice D F E,.bool d] 92):World);obtain⟨b6,V⟩:=nM (wr.heap.size);have b7:Hid (aa wr w4):=Ld (by rw[M];exact aa.al (aa.refl _) _);have b0:Hid (ab w4 b6 92 #[.slice u z y,.slice D F E,.bool d]):=Ld (by rw[M,V];exact ab.new _ _ _);have c5:=Ld (r.out.2.2.new b7.out);have i':b6≠g:=by have:=r.out.2.2.lt;omega
   rw[←M,←V];clear M V c0 c1 c2;obtain⟨xs,b'⟩:=nM (aY 2 n++(L.take j).flatMap lB);rw[←b']at c5 b;have c7:=Ld b';clear b';have i7:qU b6 (.slice u z y) (.slice D F E) (.bool d) w4.drew:=qU.of b0.out;refine ag (qU b6 (.slice u z y) (.slice D F E) (.bool d)) [(true,0),(true,1),(true,2),(true,3),(true,5),(true,6),(false,4),(false,7)] (by kernel_rfl) (by kernel_rfl) i7 (fun j1=>?_);have q0:∀p:HW (qU b6 (.slice u z y) (.slice D F E) (.bool d)),p.w.cell? ⟨b6,0,none⟩=some (.slice u z y):=fun p=>p.h.1
   have q2:∀p:HW (qU b6 (.slice u z y) (.slice D F E) (.bool d)),p.w.cell? ⟨b6,2,none⟩=some (.bool d):=fun p=>p.h.2.2
   iterate 6 (refine ae (o:=.mk ..) rfl (fun K N=>?_);go_simp;refine N _ ?_;clear N K)
   clear q0 q2 j1;refine aj (o:=.mk ..) rfl (fun K N=>?_) (.inl rfl);go_simp;refine(yD (c5.out.new (aa.dr (aa.refl _))) (!d) (by have:=b.out;omega)).mono ?_;rintro e w5 ⟨rfl,g6,c9⟩;have P:Hid (FW g g w4 w5):=Ld ((FW.new (aa.dr (aa.refl _))).tr c9);have i5:=Ld g6;have b1:Hid (ab w5 b6 92 #[.slice u z y,.slice D F E,.bool d]):=Ld (P.out.blk b0.out (by decide) i');clear g6 c9;refine N.out _ _ (fun _=>qU.of b1.out) ?_;clear N K;have b8:Hid (aa w w5):=Ld (P.out.toNew (r.out.1.tr b7.out) r.out.2.1 (Nat.le_refl _));refine aj (o:=.mk ..) rfl (fun K N=>?_) (.inl rfl);go_simp;refine(pi i5.out u z y ks (b8.out.rd t.out.k.rd) t.out.k.byt (by omega) (by rw[List.length_append,List.length_singleton];have:=b.out;omega) (fun k hk=>⟨by have:=r.out.2.1;omega,.inl (by have:=r.out.2.1;omega)⟩)).mono ?_;rintro e w6 ⟨rfl,g7,G⟩;have j3:Hid (FW g g w4 w6):=Ld (P.out.tr G);have c6:=Ld g7;have O:Hid (ab w6 b6 92 #[.slice u z y,.slice D F E,.bool d]):=Ld (G.blk b1.out (by decide) i');have U:Hid (aa w w6):=Ld (G.toNew b8.out r.out.2.1 (Nat.le_refl _));clear g7 G;refine N.out _ _ (fun _=>qU.of O.out) ?_;clear N K;refine ao ?_;have e1:w6.cell? ⟨b6,1,none⟩=some (.slice D F E):=O.out.cell 1;have e2:w6.cell? ⟨b6,2,none⟩=some (.bool d):=O.out.cell 2
   cases d
   ·go_wp2_with fail
    refine(pi c6.out D F E vs (U.out.rd t.out.v.rd) t.out.v.byt (by omega) (by simp only[List.length_append,List.length_singleton,av];have:=b.out;have:=t.out.k.len;dsimp only at this;omega) (fun k hk=>⟨by have:=r.out.2.1;omega,.inl (by have:=r.out.2.1;omega)⟩)).mono ?_;rintro e w7 ⟨rfl,g8,d'⟩;have i6:=Ld g8;have i3:Hid (aa w w7):=Ld (d'.toNew U.out r.out.2.1 (Nat.le_refl _));clear g8 d' e1 e2
    go_wp2_with fail
    go_roundw
    case rel=>
     refine⟨j+1,by omega,by go_num,Ld ⟨i3.out,r.out.2.1,?_⟩⟩;rw[b9.out];have:=i6.out;rw[c7.out]at this
     simpa[lB]using this
    case measure=>simp[intOf];omega
   ·go_wp2_with fail
    go_roundw
    case rel=>
     refine⟨j+1,by omega,by go_num,Ld ⟨U.out,r.out.2.1,?_⟩⟩;rw[b9.out];have:=c6.out;rw[c7.out]at this
     simpa[lB]using this
    case measure=>simp[intOf];omega
  ·as_aux_lemma=>
   obtain rfl:j=n:=by omega
   have hp:aY 2 j++(L.take j).flatMap lB=bR L:=by
    unfold bR;rw[←H.out.len,List.take_length]
   have hW:=r.out.2.2;have m:=b.out;rw[hp]at hW m;have HD:=Ld (kz hW (by omega));clear hW hp m
   go_wp2_with fail
   refine HD.out.mono ?_;rintro e w3 ⟨⟨A3,c3,rfl,g4⟩,g3⟩;have i4:=Ld g4;have i2:=Ld g3;clear g4 g3 HD;generalize j2:(bR L).length=pl at*
   go_wp2_with fail
   go_ret2
   rw[j2];exact⟨⟨A3,c3,wr.heap.size,rfl,r.out.1.size,i4.out⟩,r.out.1.tr i2.out⟩
end Go.Proofs.YtfchcdbfalgdlaaGreatDoor
namespace Go.Proofs.YtfchcdbfalgdlaaGreatDoor
open _root_.Go.Proofs.Tryz
open Go.RowKit Go.Maps
theorem qD{g:Nat}{s:Rs}{w:World}(h:fJ w g s):
    Calls prog 98 #[.pointer (some ⟨g,0,none⟩)] w fun x w'=>x=.returned (.bool s.flag.1)∧fJ w' g s.flag.2∧Fr (fun k=>k=g) w w':=by
 have y:=Ld (iS h);have j:=Ld (fQ h 2 (by omega));have N:=Ld (di h 1 (by omega))
 by_cases p:s.left<1
 ·have J:s.flag=(false,s.bad 2):=by unfold Rs.flag;rw [if_pos (.inl p)]
  rw[J];generalize s.left=l at*;clear J h;have hd:decide ((l:Int)<1)=true:=decide_eq_true (by omega)
  go_enter func98,ntmps98
  go_wp2_with fail
  refine y.out.mono ?_;rintro e L ⟨rfl,rfl⟩
  go_wp2_with fail
  refine j.out.mono ?_;rintro e M ⟨rfl,d,b⟩;have i:=Ld d;have f:=Ld b;clear d b
  go_wp2_with fail
  go_ret;exact⟨rfl,i.out,f.out⟩
 ·obtain ⟨D,o,c,E,G,t⟩:=h.left1 (by omega);have u:0<s.xs.length:=by omega
  have h0:s.xs[0]?=some s.xs[0]:=List.getElem?_eq_getElem u;have O:=h.byt s.xs[0] (List.getElem_mem _)
  have m:s.xs.headD 0=s.xs[0]:=by
   obtain⟨xs,e⟩:=s
   match xs,u with
   |a::r,_=>rfl
  have T:w.cell? ⟨D,o,none⟩=some (.int .u8 s.xs[0]):=G 0 _ h0;have P:w.cell? ⟨g,1,none⟩=some (.slice (some ⟨D,o,none⟩) s.xs.length c):=E.cell 1;have hd:decide ((s.left:Int)<1)=false:=decide_eq_false (by omega)
  have F:s.flag=if(1:Int)<s.xs[0]then(false,s.bad 2)else(decide ((s.num 1).1=1),(s.num 1).2):=by
   unfold Rs.flag;rw[m]
   by_cases h1:(1:Int)<s.xs[0]
   ·rw[if_pos (.inr h1),if_pos h1]
   ·rw[if_neg (by rintro(h|h)<;>omega),if_neg h1]
  rw[F];rw[t]at y hd;generalize s.xs[0]=x at*;generalize s.xs.length=l at*;clear G E m F h0 t p h
  by_cases h1:1<x
  ·have z:decide (1<x)=true:=decide_eq_true h1;rw[if_pos h1]
   go_enter func98,ntmps98
   go_wp2_with fail
   refine y.out.mono ?_;rintro e L ⟨rfl,rfl⟩
   go_wp2_with fail
   refine j.out.mono ?_;rintro e M ⟨rfl,d,b⟩;have i:=Ld d;have f:=Ld b;clear d b
   go_wp2_with fail
   go_ret;exact⟨rfl,i.out,f.out⟩
  ·have z:decide (1<x)=false:=decide_eq_false h1;rw[if_neg h1];generalize (s.num 1).1=v at*
   go_enter func98,ntmps98
   go_wp2_with fail
   refine y.out.mono ?_;rintro e L ⟨rfl,rfl⟩
   go_wp2_with fail
   refine N.out.mono ?_;rintro e M ⟨rfl,d,b⟩;have i:=Ld d;have f:=Ld b;clear d b
   go_wp2_with fail
   go_ret;refine⟨?_,i.out,f.out⟩
   congr 2
   by_cases I:v=1
   ·subst I;rfl
   ·rw[decide_eq_false I];simp;omega
end Go.Proofs.YtfchcdbfalgdlaaGreatDoor
namespace Go.Proofs.YtfchcdbfalgdlaaGreatDoor
open _root_.Go.Proofs.Tryz
open Go.RowKit Go.Maps Go.Sort
structure PC where
 k:List Int
 v:List Int
 d:Bool
def cZ(c:Ch):PC:=⟨c.k.xs,c.v.xs,c.d⟩
def bZ(s:Rs):PC×Rs:=
 if s.flag.1 then(⟨(s.flag.2.bytes 16).1,((s.flag.2.bytes 16).2.bytes 16384).1,false⟩,((s.flag.2.bytes 16).2.bytes 16384).2)
 else(⟨(s.flag.2.bytes 16).1,[],true⟩,(s.flag.2.bytes 16).2)
def prs:Nat→Rs→List PC→List PC×Rs
 | 0,s,out=>(out,s)
 |n+1,s,out=>if(bZ s).1.k=[]then(out,(bZ s).2.bad 2)else prs n (bZ s).2 (out++[(bZ s).1])
def jN(c:PC):Bool:=decide (1≤c.k.length)&&decide (c.k.length≤16)&&decide (c.v.length≤16384)&& !(c.d&&decide (0<c.v.length))
def dv(L:List PC):Bool:=decide (1≤L.length)&&decide (L.length≤600)&&L.all jN
def dL(xs:List Int):Option (List PC):=
 if(prs ((⟨xs,0⟩:Rs).num 2).1 ((⟨xs,0⟩:Rs).num 2).2 []).2.fin=0∧dv (prs ((⟨xs,0⟩:Rs).num 2).1 ((⟨xs,0⟩:Rs).num 2).2 []).1=true then some (prs ((⟨xs,0⟩:Rs).num 2).1 ((⟨xs,0⟩:Rs).num 2).2 []).1 else none
structure Ch.InT(w:World)(c:Ch):Prop where
 k:fg 5 w 1 c.k.A c.k.n (am c.k.xs)
 kb:aU c.k.xs
 v:fg 5 w 1 c.v.A c.v.n (am c.v.xs)
 vb:aU c.v.xs
theorem Ch.InT.fr{S:Nat→Prop}{w w':World}{c:Ch}(h:c.InT w)(hF:Fr S w w')(hS:∀k,S k→¬aO 5 w k):c.InT w':=⟨h.k.fr hF hS,h.kb,h.v.fr hF hS,h.vb⟩
theorem Ch.InT.in_{w:World}{c:Ch}(h:c.InT w):c.In (fun b=>b<w.heap.size) w:=⟨⟨dw h.k,h.kb⟩,⟨dw h.v,h.vb⟩⟩
theorem Ch.InT.pc{w:World}{c:Ch}(h:c.InT w):c.k.xs.length=c.k.n∧c.v.xs.length=c.v.n:=⟨h.in_.k.len,h.in_.v.len⟩
theorem BX{w:World}{c:Ch}(h:c.InT w):jN (cZ c)=eE c:=by
 obtain⟨h1,h2⟩:=h.pc;unfold jN eE cZ;simp only[h1,h2]
theorem zY{w:World}{L:List Ch}(h:∀c∈L,c.InT w):dv (L.map cZ)=dg L:=by
 unfold dv dg;have b:(L.map cZ).length=L.length:=by simp
 have e:(L.map cZ).all jN=L.all eE:=by
  clear b
  induction L with
  |nil=>rfl
  |cons c L f=>rw[List.map_cons,List.all_cons,List.all_cons,BX (h c (List.mem_cons_self ..)),f fun c d=>h c (List.mem_cons_of_mem _ d)]
 rw[b,e]
theorem jF(s:Rs)(b:Nat):(s.bytes b).1.length≤b:=by
 unfold Rs.bytes;split
 ·simp
 ·split
  ·simp
  ·next h=>
   have:=oG (s.raw 2).2 (aQ (s.xs.take 2));omega
theorem Ah{s:Rs}(h:aU s.xs)(n:Nat):aU (s.raw n).2.xs:=by
 unfold Rs.raw;split
 ·unfold Rs.bad;split<;>exact h
 ·exact fun x b=>h x (List.mem_of_mem_drop b)
theorem gv{s:Rs}(h:aU s.xs)(b:Nat):aU (s.bytes b).1:=by
 unfold Rs.bytes;split
 ·intro x d;cases d
 ·split
  ·intro x d;cases d
  ·exact raw_byt (Ah h 2) _
structure EV(w:World)(g:Nat)(s:Rs)(A:Option Addr)(m c:Nat)(L:List Ch)(wr:World):Prop where
 new:aa w wr
 gz:w.heap.size≤g
 rd:fJ wr g s
 own:wr.ownsRow w.heap.size 92 3 (.slice A m c) m (L.flatMap Ch.cells)
 el:∀c∈L,c.InT wr
 sz:∀c∈L,c.k.n≤16∧c.v.n≤16384
theorem El:aW prog 22 92 3 56:=aW.mk' (z:=.agg EZ.cells.toArray) underlying22 (by kernel_rfl) rfl (by decide)
def xm(w:World)(r:Option (List PC))(e:Ending)(w':World):Prop:=
 (r=none∧e=.returned (.tuple #[.slice none 0 0,.iface 38 (.int .i64 2)]))∨
 (∃(A:Option Addr) (n c:Nat) (L:List Ch),r=some (L.map cZ)∧e=.returned (.tuple #[.slice A n c,.nilIface])∧px w' A n L)
set_option maxHeartbeats 8000000 in
theorem xY{p:Nat→Prop}(A:Option Addr)(n c:Nat)(xs:List Int)(w:World)(hR:Rd p w 1 A n (am xs))(hb:aU xs)(hn:n≤140737488355328):
    Calls prog 48 #[.slice A n c] w fun e w'=>xm w (dL xs) e w'∧aa w w':=by
 have HF:=Ld (iN A n c xs w hR hb hn);obtain⟨N,hN⟩:=nM (((⟨xs,0⟩:Rs).num 2).1);obtain⟨s0,m2⟩:=nM (((⟨xs,0⟩:Rs).num 2).2)
 have o8:N<65536:=by
  rw[hN];unfold Rs.num;have h1:=eC (xs:=((⟨xs,0⟩:Rs).raw 2).1) (raw_byt (s:=⟨xs,0⟩) hb 2);have h2:=oG (⟨xs,0⟩:Rs) 2;have h3:256^((⟨xs,0⟩:Rs).raw 2).1.length≤256^2:=Nat.pow_le_pow_right (by decide) h2;exact Nat.lt_of_lt_of_le h1 h3
 obtain⟨r,hr⟩:=nM (prs N s0 []);obtain⟨q,hq⟩:=nM (dL xs);rw[←hq];unfold dL at hq;rw[←hN,←m2,←hr]at hq;have o0:=Ld hN;have o2:=Ld m2;have m8:=Ld hr;have HQ:=Ld hq;clear hR hb hN m2 hr hq
 go_enter func48,ntmps48
 go_wp2_with fail
 refine HF.out.mono ?_;rintro e w1 ⟨g,rfl,n3,n0,hg⟩;have m7:=Ld n3;have m6:=Ld n0;have HG:=Ld hg;clear n3 n0 hg HF
 go_wp2_with fail
 refine(di m7.out 2 (by omega)).mono ?_;rintro e w2 ⟨rfl,m',n'⟩;rw[←o0.out];rw[←o2.out]at m';have HI:Hid (EV w g s0 none 0 0 [] w2):=Ld ⟨m6.out.fr n' (fun k t=>by have:=HG.out;omega),HG.out,m',World.ownsRow_nil _ _ _ _,(fun c d=>nomatch d),fun c d=>nomatch d⟩;have HP:Hid (r=prs (N-0) s0 (([]:List Ch).map cZ)):=Ld m8.out;clear m' n' m7 m6
 go_wp2_with fail
 go_loopw [5,11] (fun o i wr=>∃(j m:Nat) (s:Rs) (A':Option Addr) (c':Nat) (L:List Ch),j≤N∧m≤j∧i=.int .u64 j∧o=.slice A' m c'∧Hid (EV w g s A' m c' L wr)∧Hid (r=prs (N-j) s (L.map cZ))) (fun o i _=>N-(intOf i).toNat)
 case atStart=>exact⟨0,0,s0,none,0,[],Nat.zero_le _,Nat.le_refl _,rfl,rfl,HI,HP⟩
 case round=>
  obtain⟨j,m,s,A',c',L,hj,hm,rfl,rfl,f,g7⟩:=hrel;clear HI HP
  by_cases p4:j<N
  ·skip
   obtain⟨i0,Y⟩:∃i0,N-j=i0+1:=⟨N-j-1,by omega⟩
   obtain rfl:i0=N-(j+1):=by omega
   have p2:(0:Int)≤(j:Int):=by omega
   have p3:(j:Int)<(N:Int):=by omega
   cases hb:s.flag.1
   ·as_aux_lemma=>
    have b8:=Ld (qD f.out.rd);rw[hb]at b8;obtain⟨s1,f'⟩:=nM (s.flag.2);rw[←f']at b8;obtain⟨key_l19,E⟩:=nM ((s1.bytes 16).1);obtain⟨s2,g3⟩:=nM ((s1.bytes 16).2);obtain⟨b,c8⟩:=nM (key_l19.length);have z:Hid (bZ s=(⟨key_l19,[],true⟩,s2)):=Ld (by unfold bZ;rw[hb,if_neg (by decide),←f',←g3,←E]);have X:=Ld E;have l4:=Ld g3;have c3:=Ld c8;have c1:Hid (b≤16):=Ld (by rw[c8,E];exact jF s1 16);clear hb f' E g3 c8
    go_wp2_with fail
    refine b8.out.mono ?_;rintro e w3 ⟨rfl,j',i4⟩;have i3:=Ld j';have k0:=Ld i4;clear j' i4;have c9:=lc i3.out 16 (by omega);rw[←l4.out,←X.out,←c3.out]at c9;have k5:=Ld c9;clear c9
    go_wp2_with fail
    refine k5.out.mono ?_;rintro e w4 ⟨⟨y,F,rfl,bk,m0,i7⟩,c7,i5⟩;have i1:Hid (Fr (fun k=>k=g) wr w4):=Ld (k0.out.trans i5);have k3:Hid (aU key_l19):=Ld (by rw[X.out];exact gv i3.out.byt 16)
    have j4:∀k,k=g→¬aO 5 wr k:=fun k t=>by
     subst t;obtain⟨Ar,cr,v,_⟩:=f.out.rd.st;exact aO.not_blk v (by decide)
    obtain⟨G,T⟩:=nM (w4.alloc (.cells #[.slice y b F,.slice none 0 0,.bool true] 92):World);obtain⟨b6,Z⟩:=nM (w4.heap.size);have J:Hid (aa w4 G):=Ld (by rw[T];exact aa.al (aa.refl _) _);have V:Hid (ab G b6 92 #[.slice y b F,.slice none 0 0,.bool true]):=Ld (by rw[T,Z];exact ab.new _ _ _);have b7:Hid (Fr (fun k=>k=g) wr G):=Ld (i1.out.trans (J.out.toFr _));have l':=Ld j4;have u:Hid (fJ G g s2):=Ld (c7.new J.out);have g5:Hid (fg 5 G 1 y b (am key_l19)):=Ld ((fg.own i7 rfl).new J.out);have O:Hid (aa w G):=Ld (f.out.new.fr b7.out (fun k t=>by have:=f.out.gz;omega))
    have I:Hid (G.ownsRow w.heap.size 92 3 (.slice A' m c') m (L.flatMap Ch.cells)):=Ld (bD f.out.own b7.out (fun k t e=>by
     obtain⟨Ar,cr,v,_⟩:=f.out.rd.st;subst e
     exact bG f.out.own v (by decide) t))
    have g6:Hid (∀c∈L,c.InT G):=Ld (fun c d=>(f.out.el c d).fr b7.out l'.out);have m1:b6≠g:=by have:=c7.lt;omega
    clear i7 c7 i5 j4 m0
    go_upto_region 6 with fail
    rw[←T,←Z];clear T Z;have b3:=V;have c0:G.cell? ⟨b6,0,none⟩=some (.slice y b F):=V.out.cell 0;have c2:G.cell? ⟨b6,2,none⟩=some (.bool true):=V.out.cell 2
    by_cases j1:b=0
    ·subst j1;have j2:key_l19=[]:=List.eq_nil_of_length_eq_zero c3.out.symm
     have c4:Hid (q=none):=Ld (by
      have h1:=g7.out;rw[Y]at h1;unfold prs at h1;rw[z.out,if_pos j2]at h1;rw[HQ.out,h1];refine if_neg (fun h=>?_);have h2:=h.1;dsimp only at h2;revert h2;unfold Rs.bad Rs.fin
      split<;>simp_all)
     have k1:=Ld (fQ u.out 2 (by omega))
     have b':(s2.bad 2).fin≠0:=by
      unfold Rs.bad Rs.fin;split<;>simp_all
     have b9:=Ld b';clear b' j2 z Y
     go_wp2_with fail
     refine k1.out.mono ?_;rintro e U ⟨rfl,j0,i6⟩;have k8:Hid (aa w U):=Ld (O.out.fr i6 (fun k t=>by have:=f.out.gz;omega));have k':=Ld (oJ j0);clear j0 i6
     go_wp2_with fail
     refine k'.out.mono ?_;rintro e w8 ⟨rfl,rfl⟩;rw[fV b9.out]
     go_wp2_with fail
     go_ret2
     exact⟨.inl ⟨c4.out,rfl⟩,k8.out⟩
    ·have b0:key_l19≠ []:=fun e=>j1 (by have:=c3.out;rw [e] at this;simpa using this)
     have p0:(0:Int)<(b:Int):=by omega
     have p1:((b:Int)==0)=false:=by simp;omega
     have c4:Hid (r=prs (N-(j+1)) s2 ((L++[(⟨⟨y,b,F,key_l19⟩,⟨none,0,0,[]⟩,true⟩:Ch)]).map cZ)):=Ld (by
      have h1:=g7.out;rw[Y]at h1;unfold prs at h1;rw[z.out,if_neg b0]at h1;rw[h1,List.map_append]
      rfl)
     have p':decide ((0:Int)=(b:Int))=false:=decide_eq_false (by omega);clear b0 z Y;have e0:G.cell? ⟨b6,0,none⟩=some (.slice y b F):=b3.out.cell 0;have e1:G.cell? ⟨b6,1,none⟩=some (.slice none 0 0):=b3.out.cell 1;have e2:G.cell? ⟨b6,2,none⟩=some (.bool true):=b3.out.cell 2
     go_wp2_with (first
      |((with_reducible refine dH ⟨some 34,.buildSlice _ _ _,_,_,_,_⟩ ?_);refine cn El (by decide) rfl (.tmp 33) rfl #[.slice y b F,.slice none 0 0,.bool true] rfl rfl ?_)
      |(at_builtin;refine dH ⟨some 35,_,_,_,_,_⟩ ?_;refine dC ?_))
     refine⟨?_⟩;refine aq (o:=⟨some 35,_,_,_,_,_⟩) El _ rfl (.tmp 32) (.tmp 34) rfl w.heap.size (.slice A' m c') m (L.flatMap Ch.cells) rfl (aa.own (aa.al (aa.refl _) _) I.out) _ 1 1 [.slice y b F,.slice none 0 0,.bool true] rfl (Rd.ofBlk (p:=fun _=>True) (ab.new _ 92 #[.slice y b F,.slice none 0 0,.bool true]) 3 1 rfl trivial) (ch ⟨⟨y,b,F,key_l19⟩,⟨none,0,0,[]⟩,true⟩) (by unfold maxLen;omega) (by omega) (by have:=O.out.size;simp;omega) ?_;intro A8 d8 w8 i9 c6 l8;have k9:Hid (aa w w8):=Ld ((aa.al O.out _).fr c6 (fun k t=>(ak I.out k t).1));have D:=((aa.al (aa.refl G) (.cells #[.slice y b F,.slice none 0 0,.bool true] 92)).toFr (fun k=>(Value.slice A' m c').ownBlock=some k)).trans c6;have P:∀k,(Value.slice A' m c').ownBlock=some k→¬aO 5 G k:=fun k t=>aO.not_own I.out (by decide) t
     have k2 : Hid (EV w g s2 A8 (m + 1) d8 (L ++ [⟨⟨y, b, F, key_l19⟩, ⟨none, 0, 0, []⟩, true⟩]) w8) := Ld ⟨k9.out, f.out.gz, u.out.fr D (fun t => by
         obtain⟨Ar,cr,v,_⟩:=u.out.st
         exact bG I.out v (by decide) t) P,by rw[List.flatMap_append];simpa[Ch.cells]using i9,fun c d=>by
         rcases List.mem_append.1 d with d|d
         ·exact(g6.out c d).fr D P
         ·rw[List.mem_singleton.1 d];exact Ch.InT.fr (w:=G) (c:=⟨⟨y,b,F,key_l19⟩,⟨none,0,0,[]⟩,true⟩) ⟨g5.out,k3.out,fg.nil,fun x hx=>nomatch hx⟩ D P,fun c d=>by
         rcases List.mem_append.1 d with d|d
         ·exact f.out.sz c d
         ·rw[List.mem_singleton.1 d]
          exact⟨c1.out,Nat.zero_le _⟩⟩
     clear i9 c6 l8 D P
     go_wp2_with fail
     go_roundw
     case rel=>exact⟨j+1,m+1,_,A8,d8,_,by omega,by omega,by go_num,rfl,k2,c4⟩
     case measure=>simp[intOf];omega
   ·as_aux_lemma=>
    have b8:=Ld (qD f.out.rd);rw[hb]at b8;obtain⟨s1,f'⟩:=nM (s.flag.2);rw[←f']at b8;obtain⟨key_l19,E⟩:=nM ((s1.bytes 16).1);obtain⟨s2,g3⟩:=nM ((s1.bytes 16).2);obtain⟨b,c8⟩:=nM (key_l19.length);obtain⟨val,g4⟩:=nM ((s2.bytes 16384).1);obtain⟨s3,m3⟩:=nM ((s2.bytes 16384).2);obtain⟨vn,n8⟩:=nM (val.length);have z:Hid (bZ s=(⟨key_l19,val,false⟩,s3)):=Ld (by unfold bZ;rw[hb,if_pos rfl,←f',←g3,←E,←g4,←m3]);have c5:=Ld g4;have o3:=Ld m3;have m9:=Ld n8;clear g4 m3 n8;have X:=Ld E;have l4:=Ld g3;have c3:=Ld c8;have c1:Hid (b≤16):=Ld (by rw[c8,E];exact jF s1 16);clear hb f' E g3 c8
    go_wp2_with fail
    refine b8.out.mono ?_;rintro e w3 ⟨rfl,j',i4⟩;have i3:=Ld j';have k0:=Ld i4;clear j' i4;have c9:=lc i3.out 16 (by omega);rw[←l4.out,←X.out,←c3.out]at c9;have k5:=Ld c9;clear c9
    go_wp2_with fail
    refine k5.out.mono ?_;rintro e w4 ⟨⟨y,F,rfl,bk,m0,i7⟩,c7,i5⟩;have i1:Hid (Fr (fun k=>k=g) wr w4):=Ld (k0.out.trans i5);have k3:Hid (aU key_l19):=Ld (by rw[X.out];exact gv i3.out.byt 16)
    have j4:∀k,k=g→¬aO 5 wr k:=fun k t=>by
     subst t;obtain⟨Ar,cr,v,_⟩:=f.out.rd.st;exact aO.not_blk v (by decide)
    obtain⟨G,T⟩:=nM (w4.alloc (.cells #[.slice y b F,.slice none 0 0,.bool false] 92):World);obtain⟨b6,Z⟩:=nM (w4.heap.size);have J:Hid (aa w4 G):=Ld (by rw[T];exact aa.al (aa.refl _) _);have V:Hid (ab G b6 92 #[.slice y b F,.slice none 0 0,.bool false]):=Ld (by rw[T,Z];exact ab.new _ _ _);have b7:Hid (Fr (fun k=>k=g) wr G):=Ld (i1.out.trans (J.out.toFr _));have l':=Ld j4;have i':Hid (b6=w4.heap.size):=Ld Z;have u:Hid (fJ G g s2):=Ld (c7.new J.out);have g5:Hid (fg 5 G 1 y b (am key_l19)):=Ld ((fg.own i7 rfl).new J.out);have O:Hid (aa w G):=Ld (f.out.new.fr b7.out (fun k t=>by have:=f.out.gz;omega))
    have I:Hid (G.ownsRow w.heap.size 92 3 (.slice A' m c') m (L.flatMap Ch.cells)):=Ld (bD f.out.own b7.out (fun k t e=>by
     obtain⟨Ar,cr,v,_⟩:=f.out.rd.st;subst e
     exact bG f.out.own v (by decide) t))
    have g6:Hid (∀c∈L,c.InT G):=Ld (fun c d=>(f.out.el c d).fr b7.out l'.out);have m1:b6≠g:=by have:=c7.lt;omega
    clear i7 c7 i5 j4 m0
    go_upto_region 6 with fail
    rw[←T,←Z];clear T Z;have c0:G.cell? ⟨b6,0,none⟩=some (.slice y b F):=V.out.cell 0;have c2:G.cell? ⟨b6,2,none⟩=some (.bool false):=V.out.cell 2;have m4:=lc u.out 16384 (by omega);rw[←o3.out,←c5.out,←m9.out]at m4;have o5:=Ld m4;clear m4
    go_wp2_with fail
    refine o5.out.mono ?_;rintro e w6 ⟨⟨vA,vc,rfl,bv,o9,n2⟩,n5,l9⟩;have j7:=Ld l9;have j6:Hid (ab w6 b6 92 #[.slice y b F,.slice none 0 0,.bool false]):=Ld (V.out.fr l9 m1);have f61:w6.frozen? ⟨b6,1,none⟩=false:=j6.out.frozen 1;have o7:w6.cell? ⟨b6,1,none⟩=some (.slice none 0 0):=j6.out.cell 1;have o4:Hid (aU val):=Ld (by rw[c5.out];exact gv u.out.byt 16384);have l5:Hid (vn≤16384):=Ld (by rw[m9.out,c5.out];exact jF s2 16384);have o1:=Ld n5;have l7:Hid (fg 5 w6 1 vA vn (am val)):=Ld (fg.own n2 rfl);obtain⟨U,j9⟩:=nM (w6.setCell ⟨b6,1,none⟩ (.slice vA vn vc):World);have M:Fr (fun k=>k=b6) w6 U:=by rw[j9];exact(Fr.refl (fun k=>k=b6) w6).setCell (p:=⟨b6,1,none⟩) (fun _=>rfl) _
    have j3:∀k,k=b6→¬aO 5 w6 k:=fun k t=>by subst t;exact aO.not_blk j6.out (by decide)
    have d':∀k,k=g→¬aO 5 G k:=fun k t=>by
     subst t;obtain⟨Ar,cr,v,_⟩:=u.out.st;exact aO.not_blk v (by decide)
    have j5:∀k,(Value.slice A' m c').ownBlock=some k→¬k=b6:=fun k t e=>by
     have h1:=(ak f.out.own k t).2;have h2:=i1.out.size;have h3:=i'.out;omega
    have m5:Hid (ab U b6 92 #[.slice y b F,.slice vA vn vc,.bool false]):=Ld (by
     have:=j6.out.set 1 (.slice vA vn vc);rw[j9]
     simpa using this)
    have l3:Hid (fJ U g s3):=Ld (o1.out.fr M (fun e=>m1 e.symm) j3);have k4:Hid (fg 5 U 1 y b (am key_l19)):=Ld ((g5.out.fr j7.out d').fr M j3);have o6:Hid (fg 5 U 1 vA vn (am val)):=Ld (l7.out.fr M j3);have l1:Hid (aa w U):=Ld ((O.out.fr j7.out (fun k t=>by have:=f.out.gz;omega)).fr M (fun k t=>by have:=i'.out;have:=i1.out.size;have:=f.out.new.size;omega))
    have l2:Hid (U.ownsRow w.heap.size 92 3 (.slice A' m c') m (L.flatMap Ch.cells)):=Ld (bD (bD I.out j7.out (fun k t e=>by
     obtain⟨Ar,cr,v,_⟩:=u.out.st;subst e
     exact bG I.out v (by decide) t)) M j5)
    have k6:Hid (∀c∈L,c.InT U):=Ld (fun c d=>((g6.out c d).fr j7.out d').fr M j3);clear V u g5 O I g6 l9 n2 n5 o9
    go_upto_region 8 with fail
    rw[←j9];clear j9 M j3 d' j5 c0 c2 f61 o7;have b3:=m5;have u:=l3;have g5:=k4;have O:=l1;have I:=l2;have g6:=k6;have c0:U.cell? ⟨b6,0,none⟩=some (.slice y b F):=m5.out.cell 0
    by_cases j1:b=0
    ·subst j1;have j2:key_l19=[]:=List.eq_nil_of_length_eq_zero c3.out.symm
     have c4:Hid (q=none):=Ld (by
      have h1:=g7.out;rw[Y]at h1;unfold prs at h1;rw[z.out,if_pos j2]at h1;rw[HQ.out,h1];refine if_neg (fun h=>?_);have h2:=h.1;dsimp only at h2;revert h2;unfold Rs.bad Rs.fin
      split<;>simp_all)
     have k1:=Ld (fQ u.out 2 (by omega))
     have b':(s3.bad 2).fin≠0:=by
      unfold Rs.bad Rs.fin;split<;>simp_all
     have b9:=Ld b';clear b' j2 z Y
     go_wp2_with fail
     refine k1.out.mono ?_;rintro e U ⟨rfl,j0,i6⟩;have k8:Hid (aa w U):=Ld (O.out.fr i6 (fun k t=>by have:=f.out.gz;omega));have k':=Ld (oJ j0);clear j0 i6
     go_wp2_with fail
     refine k'.out.mono ?_;rintro e w8 ⟨rfl,rfl⟩;rw[fV b9.out]
     go_wp2_with fail
     go_ret2
     exact⟨.inl ⟨c4.out,rfl⟩,k8.out⟩
    ·have b0:key_l19≠ []:=fun e=>j1 (by have:=c3.out;rw [e] at this;simpa using this)
     have p0:(0:Int)<(b:Int):=by omega
     have p1:((b:Int)==0)=false:=by simp;omega
     have c4:Hid (r=prs (N-(j+1)) s3 ((L++[(⟨⟨y,b,F,key_l19⟩,⟨vA,vn,vc,val⟩,false⟩:Ch)]).map cZ)):=Ld (by
      have h1:=g7.out;rw[Y]at h1;unfold prs at h1;rw[z.out,if_neg b0]at h1;rw[h1,List.map_append]
      rfl)
     have p':decide ((0:Int)=(b:Int))=false:=decide_eq_false (by omega);clear b0 z Y;have e0:U.cell? ⟨b6,0,none⟩=some (.slice y b F):=b3.out.cell 0;have e1:U.cell? ⟨b6,1,none⟩=some (.slice vA vn vc):=b3.out.cell 1;have e2:U.cell? ⟨b6,2,none⟩=some (.bool false):=b3.out.cell 2
     go_wp2_with (first
      |((with_reducible refine dH ⟨some 34,.buildSlice _ _ _,_,_,_,_⟩ ?_);refine cn El (by decide) rfl (.tmp 33) rfl #[.slice y b F,.slice vA vn vc,.bool false] rfl rfl ?_)
      |(at_builtin;refine dH ⟨some 35,_,_,_,_,_⟩ ?_;refine dC ?_))
     refine⟨?_⟩;refine aq (o:=⟨some 35,_,_,_,_,_⟩) El _ rfl (.tmp 32) (.tmp 34) rfl w.heap.size (.slice A' m c') m (L.flatMap Ch.cells) rfl (aa.own (aa.al (aa.refl _) _) I.out) _ 1 1 [.slice y b F,.slice vA vn vc,.bool false] rfl (Rd.ofBlk (p:=fun _=>True) (ab.new _ 92 #[.slice y b F,.slice vA vn vc,.bool false]) 3 1 rfl trivial) (ch ⟨⟨y,b,F,key_l19⟩,⟨vA,vn,vc,val⟩,false⟩) (by unfold maxLen;omega) (by omega) (by have:=O.out.size;simp;omega) ?_;intro A8 d8 w8 i9 c6 l8;have k9:Hid (aa w w8):=Ld ((aa.al O.out _).fr c6 (fun k t=>(ak I.out k t).1));have D:=((aa.al (aa.refl U) (.cells #[.slice y b F,.slice vA vn vc,.bool false] 92)).toFr (fun k=>(Value.slice A' m c').ownBlock=some k)).trans c6;have P:∀k,(Value.slice A' m c').ownBlock=some k→¬aO 5 U k:=fun k t=>aO.not_own I.out (by decide) t
     have k2 : Hid (EV w g s3 A8 (m + 1) d8 (L ++ [⟨⟨y, b, F, key_l19⟩, ⟨vA, vn, vc, val⟩, false⟩]) w8) := Ld ⟨k9.out, f.out.gz, u.out.fr D (fun t => by
         obtain⟨Ar,cr,v,_⟩:=u.out.st
         exact bG I.out v (by decide) t) P,by rw[List.flatMap_append];simpa[Ch.cells]using i9,fun c d=>by
         rcases List.mem_append.1 d with d|d
         ·exact(g6.out c d).fr D P
         ·rw[List.mem_singleton.1 d];exact Ch.InT.fr (w:=U) (c:=⟨⟨y,b,F,key_l19⟩,⟨vA,vn,vc,val⟩,false⟩) ⟨g5.out,k3.out,o6.out,o4.out⟩ D P,fun c d=>by
         rcases List.mem_append.1 d with d|d
         ·exact f.out.sz c d
         ·rw[List.mem_singleton.1 d]
          exact⟨c1.out,l5.out⟩⟩
     clear i9 c6 l8 D P
     go_wp2_with fail
     go_roundw
     case rel=>exact⟨j+1,m+1,_,A8,d8,_,by omega,by omega,by go_num,rfl,k2,c4⟩
     case measure=>simp[intOf];omega
  ·obtain rfl:j=N:=by omega
   have j8:=g7.out;rw[Nat.sub_self]at j8;have n6:r.1=L.map cZ:=by rw[j8];rfl
   have n7:r.2=s:=by rw[j8];rfl
   have hq:=HQ.out;rw[n6,n7,zY f.out.el]at hq;have g8:=Ld hq;have HE:=Ld (oJ f.out.rd);have g9:L.length=m:=by have:=f.out.own.1;rw[mt]at this;omega
   have n9:=Ld g9;clear j8 n6 n7 hq g9 g7 m8 HQ
   go_wp2_with fail
   refine HE.out.mono ?_;rintro e w3 ⟨rfl,rfl⟩
   by_cases hf:s.fin=0
   ·rw[hf,ey];have g9:=n9.out;have HC:=Ld (jj A' m c' L wr (Rd.own f.out.own rfl) g9 (by omega) (fun c d=>by have:=f.out.sz c d;unfold maxLen;omega));have u:Hid (px wr A' m L):=Ld ⟨dw (Rd.own f.out.own rfl),g9,fun c d=>(f.out.el c d).in_⟩;clear g9
    go_wp2_with fail
    refine HC.out.mono ?_;rintro e w4 ⟨rfl,n1⟩;have k7:=Ld n1;clear n1 HC
    by_cases b1:dg L=true
    ·rw[b1];have i2:Hid (q=some (L.map cZ)):=Ld (by rw[g8.out,if_pos ⟨hf,b1⟩]);clear g8 b1 hf
     go_wp2_with fail
     go_ret2
     exact⟨.inr ⟨A',m,c',L,i2.out,rfl,u.out.new k7.out⟩,f.out.new.tr k7.out⟩
    ·have b1:dg L=false:=by simpa using b1
     rw[b1];have i2:Hid (q=none):=Ld (by rw[g8.out,if_neg (fun h=>by rw[b1]at h;cases h.2)]);clear g8 b1 hf
     go_wp2_with fail
     go_ret2
     exact⟨.inl ⟨i2.out,rfl⟩,f.out.new.tr k7.out⟩
   ·rw[fV hf];have i2:Hid (q=none):=Ld (by rw[g8.out,if_neg (fun h=>hf h.1)]);clear g8
    go_wp2_with fail
    go_ret2
    exact⟨.inl ⟨i2.out,rfl⟩,f.out.new⟩
theorem rR(xs rest:List Int):(⟨xs++rest,0⟩:Rs).raw xs.length=(xs,⟨rest,0⟩):=by
 have hl:(⟨xs++rest,0⟩:Rs).left=xs.length+rest.length:=by
  unfold Rs.left;simp
 unfold Rs.raw;rw[hl,if_neg (by omega)];simp
theorem BP(size n:Nat)(rest:List Int)(h:n<256^size):(⟨aY size n++rest,0⟩:Rs).num size=(n,⟨rest,0⟩):=by
 unfold Rs.num;have:=rR (aY size n) rest;rw[av]at this;rw[this,gZ size n h]
theorem mr(m b:Nat)(ys rest:List Int)(g:ys.length=m)(h1:m≤b)(h2:m<65536):(⟨aY 2 m++(ys++rest),0⟩:Rs).bytes b=(ys,⟨rest,0⟩):=by
 have hl:(⟨aY 2 m++(ys++rest),0⟩:Rs).left=2+m+rest.length:=by
  unfold Rs.left;simp[av,g];omega
 have d:(aY 2 m++(ys++rest)).take 2=aY 2 m:=by
  have:=List.take_left (l₁:=aY 2 m) (l₂:=ys++rest)
  rwa[av]at this
 unfold Rs.bytes;rw[hl,if_neg (by omega)];dsimp only;rw[d,gZ 2 m (by omega),if_neg (by omega)];have f:=rR (aY 2 m) (ys++rest);rw[av]at f;rw[f];dsimp only;have i:=rR ys rest
 rwa[g]at i
theorem sY(b:Bool)(rest:List Int):(⟨[if b then 1 else 0]++rest,0⟩:Rs).flag=(b,⟨rest,0⟩):=by
 unfold Rs.flag Rs.num Rs.raw Rs.left
 cases b<;>simp[aQ]
theorem vD{c:Ch}(m:c.k.xs.length=c.k.n)(o:c.v.xs.length=c.v.n)(g:eE c=true)(rest:List Int):bZ ⟨lB c++rest,0⟩=(cZ c,⟨rest,0⟩):=by
 obtain⟨⟨t,b,u,f⟩,⟨v,i,y,j⟩,d⟩:=c;dsimp only at m o;simp only[eE,Bool.and_eq_true,decide_eq_true_eq,Bool.not_eq_true',Bool.and_eq_false_iff,decide_eq_false_iff_not]at g;obtain⟨⟨⟨h1,h2⟩,s⟩,k⟩:=g;unfold bZ lB cZ;dsimp only
 cases d
 ·have e: [if !false then (1:Int) else 0]++aY 2 b++f++(if false=true then [] else aY 2 i++j)++rest= [if !false then (1:Int) else 0]++(aY 2 b++(f++(aY 2 i++(j++rest)))):=by simp
  rw[e,sY];dsimp only;rw[mr b 16 f _ m h2 (by omega),mr i 16384 j rest o s (by omega)];rfl
 ·have p:i=0:=by
   rcases k with k|k
   ·cases k
   ·omega
  have r:j=[]:=List.eq_nil_of_length_eq_zero (by rw[o,p]);have e: [if !true then(1:Int)else 0]++aY 2 b++f++(if true=true then[]else aY 2 i++j)++rest=[if !true then(1:Int)else 0]++(aY 2 b++(f++rest)):=by simp
  rw[e,sY];dsimp only;rw[mr b 16 f _ m h2 (by omega),r];rfl
def jB(L:List Ch):Prop:=∀c∈L,c.k.xs.length=c.k.n∧c.v.xs.length=c.v.n
theorem px.lens{w:World}{A:Option Addr}{n:Nat}{L:List Ch}(h:px w A n L):jB L:=fun c b=>⟨(h.el c b).k.len,(h.el c b).v.len⟩
theorem BY(L:List Ch)(hl:jB L)(f:∀c∈L,eE c=true)(out:List PC)(rest:List Int):prs L.length ⟨L.flatMap lB++rest,0⟩ out=(out++L.map cZ,⟨rest,0⟩):=by
 induction L generalizing out with
 |nil=>simp[prs]
 |cons c L i=>
  have b:=hl c (List.mem_cons_self ..);have d:=f c (List.mem_cons_self ..);rw[List.length_cons];unfold prs;rw[List.flatMap_cons,List.append_assoc,vD b.1 b.2 d]
  have g:(cZ c).k≠ []:=by
   intro e;have h1:c.k.xs=[]:=e;have h2:=b.1;rw[h1]at h2;simp only[eE,Bool.and_eq_true,decide_eq_true_eq]at d;simp at h2;omega
  rw[if_neg g];dsimp only;rw[i (fun c b=>hl c (List.mem_cons_of_mem _ b)) (fun c b=>f c (List.mem_cons_of_mem _ b))];simp
theorem zX{c:Ch}(b:c.k.xs.length=c.k.n)(d:c.v.xs.length=c.v.n):jN (cZ c)=eE c:=by
 unfold jN eE cZ;simp only[b,d]
theorem gy{L:List Ch}(h:jB L):dv (L.map cZ)=dg L:=by
 unfold dv dg;have b:(L.map cZ).length=L.length:=by simp
 have e:(L.map cZ).all jN=L.all eE:=by
  clear b
  induction L with
  |nil=>rfl
  |cons c L f=>rw[List.map_cons,List.all_cons,List.all_cons,zX (h c (List.mem_cons_self ..)).1 (h c (List.mem_cons_self ..)).2,f fun c d=>h c (List.mem_cons_of_mem _ d)]
 rw[b,e]
theorem xw{L:List Ch}(h:dg L=true):∀c∈L,eE c=true:=by
 unfold dg at h;simp only[Bool.and_eq_true]at h;exact List.all_eq_true.1 h.2
theorem xZ{L:List Ch}(hl:jB L)(b:dg L=true):dL (bR L)=some (L.map cZ):=by
 have d:=dK b;unfold dL bR;have h1:=BP 2 L.length (L.flatMap lB) (by omega);rw[h1];dsimp only;have h2:=BY L hl (xw b) [] [];rw[List.append_nil,List.nil_append]at h2;rw[h2];dsimp only;rw[if_pos ⟨rfl,by rw[gy hl];exact b⟩]
section
variable {α:Type}
def nD(f:α→Nat):Option (List (List α)×List α)→α→Option (List (List α)×List α)
 |none,y=>some ([],[y])
 |some (C,l),y=>if l.length<600∧(l.map f).sum+f y≤8190 then some (C,l++[y])else some (C++[l],[y])
def lX(f:α→Nat)(L:List α):Option (List (List α)×List α):=L.foldl (nD f) none
def iV:Option (List (List α)×List α)→List (List α)
 |none=>[]
 |some (C,l)=>C++[l]
theorem jT(f:α→Nat)(L:List α)(y:α):lX f (L++[y])=nD f (lX f L) y:=by simp[lX]
theorem Cq{β:Type}(g:α→β)(f:β→Nat)(s:Option (List (List α)×List α))(y:α):
    nD f (s.map fun x=>(x.1.map (List.map g),x.2.map g)) (g y)=(nD (fun a=>f (g a)) s y).map fun x=>(x.1.map (List.map g),x.2.map g):=by
 rcases s with _|⟨C,l⟩
 ·simp[nD]
 ·have b:(List.map f (List.map g l)).sum=(List.map (fun a=>f (g a)) l).sum:=by rw [List.map_map];rfl
  simp only[nD,Option.map_some,List.length_map,b]
  by_cases h:l.length<600∧(l.map fun a=>f (g a)).sum+f (g y)≤8190
  ·rw[if_pos h,if_pos h];simp
  ·rw[if_neg h,if_neg h];simp
theorem Cr {β:Type} (g:α→β) (f:β→Nat) (L:List α):lX f (L.map g)=(lX (fun a=>f (g a)) L).map fun x=>(x.1.map (List.map g),x.2.map g):=by
 suffices h:∀s:Option (List (List α)×List α),(L.map g).foldl (nD f) (s.map fun x=>(x.1.map (List.map g),x.2.map g))=(L.foldl (nD fun a=>f (g a)) s).map fun x=>(x.1.map (List.map g),x.2.map g)from h none
 induction L with
 |nil=>intro s;rfl
 |cons y L b=>intro s;rw[List.map_cons,List.foldl_cons,List.foldl_cons,Cq,b]
theorem Cm{β:Type}(g:α→β)(s:Option (List (List α)×List α)):iV (s.map fun x=>(x.1.map (List.map g),x.2.map g))=(iV s).map (List.map g):=by
 rcases s with _|⟨C,l⟩<;>simp[iV]
theorem iW(f:α→Nat)(L:List α):(iV (lX f L)).flatten=L:=by
 suffices h:∀(s:Option (List (List α)×List α)),(iV (L.foldl (nD f) s)).flatten=(iV s).flatten++L from(h none).trans (by simp[iV])
 induction L with
 |nil=>intro s;simp
 |cons y L b=>
  intro s;rw[List.foldl_cons,b];rcases s with _|⟨C,l⟩
  ·simp[nD,iV]
  ·simp only[nD]
   by_cases h:l.length<600∧(l.map f).sum+f y≤8190
   ·rw[if_pos h];simp[iV]
   ·rw[if_neg h];simp[iV]
theorem AG(f:α→Nat)(L:List α):∀l∈iV (lX f L),1≤l.length∧l.length≤600:=by
 suffices h:∀(s:Option (List (List α)×List α)),(∀l∈iV s,1≤l.length∧l.length≤600)→∀l∈iV (L.foldl (nD f) s),1≤l.length∧l.length≤600 from h none (by simp[iV])
 induction L with
 |nil=>intro s h;exact h
 |cons y L g=>
  intro s h;rw[List.foldl_cons];refine g _ ?_;rcases s with _|⟨C,l⟩
  ·simp[nD,iV]
  ·simp only [nD];have hl:=h l (by simp [iV]);have d:∀x∈C,1≤x.length∧x.length≤600:=fun x b=>h x (by simp [iV,b])
   split
   ·next i=>
    intro x b;simp only[iV,List.mem_append,List.mem_singleton]at b;rcases b with b|rfl
    ·exact d x b
    ·simp;omega
   ·intro x b;simp only [iV,List.mem_append,List.mem_singleton] at b;rcases b with (b | rfl) | rfl
    ·exact d x b
    ·exact hl
    ·simp
end
def ib(c:Ch):Nat:=5+c.k.xs.length+c.v.xs.length
section
variable {B:Nat}{W W':World}
theorem et.cell{p:Addr}{v:Value}(h:et B W W')(b:W.cell? p=some v):W'.cell? p=some v:=by
 have f:=World.block_lt_of_cell? W p b;refine(World.cell?_of_block (w:=W) ?_).trans b;have d:W.heap[p.block]?=some W.heap[p.block]:=Array.getElem?_eq_getElem f;refine(h.keep d ?_).trans d.symm;generalize W.heap[p.block]=o at d;unfold World.cell? at b;rw[d]at b
 cases o<;>first|rfl|simp at b
theorem et.rd{p:Nat→Prop}{size n:Nat}{A:Option Addr}{xs:List Value}(h:et B W W')(b:Rd p W size A n xs):Rd p W' size A n xs:=
 ⟨b.1,fun i=>by
  obtain⟨d,e,k,f,g⟩:=b.2 i
  have m:W.heap.size≤W'.heap.size:=by
   obtain⟨l,o,o',-,-,-,rfl⟩:=h;simp
  exact⟨d,e,k,Nat.lt_of_lt_of_le f m,fun j u hu=>h.cell (g j u hu)⟩⟩
end
theorem Rd.lts{p:Nat→Prop}{w:World}{s n:Nat}{A:Option Addr}{xs:List Value}(h:Rd p w s A n xs):Rd (fun b=>p b∧b<w.heap.size) w s A n xs:=
 ⟨h.1,fun i=>by obtain⟨f,e,j,d,g⟩:=h.2 i;exact⟨f,e,⟨j,d⟩,d,g⟩⟩
theorem Ch.In.lts{p:Nat→Prop}{w:World}{c:Ch}(h:c.In p w):c.In (fun b=>p b∧b<w.heap.size) w:=⟨⟨h.k.rd.lts,h.k.byt⟩,⟨h.v.rd.lts,h.v.byt⟩⟩
theorem Ch.In.imp{p q:Nat→Prop}{w:World}{c:Ch}(h:c.In p w)(b:∀k,p k→q k):c.In q w:=⟨⟨h.k.rd.imp b,h.k.byt⟩,⟨h.v.rd.imp b,h.v.byt⟩⟩
theorem Ch.In.frq{p S:Nat→Prop}{w w':World}{c:Ch}(h:c.In p w)(hF:Fr S w w')(hS:∀k,p k→¬S k):c.In p w':=⟨⟨h.k.rd.fr hF hS,h.k.byt⟩,⟨h.v.rd.fr hF hS,h.v.byt⟩⟩
theorem BV{w:World}{base n c g i:Nat}{e:TypeId}{xs:List Value}(h:w.ownsRow base e 1 (.slice (some ⟨g,0,none⟩) n c) n xs)(hi:i<n)(u:Value):(w.setCell ⟨g,i,none⟩ u).ownsRow base e 1 (.slice (some ⟨g,0,none⟩) n c) n (xs.set i u):=by
 refine⟨by rw[List.length_set];exact h.1,?_⟩;rcases h.2 with⟨h0,-⟩|⟨g',cap,cur,o,j,m,h1,h2,d,f⟩
 ·injection h0 with h0;cases h0
 ·injection o with b p k;injection b with b;injection b with b;subst b k;refine .inr ⟨g,c,cur.setIfInBounds i u,rfl,j,heap_setCell_same w g i cur e u m,h1,h2,by simpa using d,?_⟩;rw[Array.toList_setIfInBounds,←f,List.take_set]
theorem gQ{w:World}{i b2 s1 s2 o p:Nat}{d f:TypeId}{v1 g:Value}{r s:List Value}(h1:w.ownsRow i d s1 v1 o r)(h2:w.ownsRow b2 f s2 g p s)(j:d≠f){k:Nat}(m:v1.ownBlock=some k):g.ownBlock≠some k:=
 fun b=>aO.not_own h1 j m (kq h2 b)
structure iC(tr te:TypeId)(q:Nat→Prop)(base lo:Nat)(W:World)(A:Option Addr)(n c:Nat)(C:List Sl)(l:Sl):Prop where
 ne:tr≠te
 qb:∀j,base≤j→q j
 nn:n=C.length+1
 out:W.ownsRow base tr 1 (.slice A n c) n ((C++[l]).flatMap Sl.cells)
 blo:base≤lo
 los:lo≤W.heap.size
 last:W.ownsRow lo te 3 (.slice l.A l.n l.c) l.n (l.L.flatMap Ch.cells)
 ll:l.L.length=l.n
 cl:∀x∈C,x.L.length=x.n∧Rd (fun j=>q j∧j<lo∧(Value.slice A n c).ownBlock≠some j∧base≤j) W 3 x.A x.n (x.L.flatMap Ch.cells)
 el:∀x∈C++[l],∀y∈x.L,y.In (fun j=>q j∧(Value.slice A n c).ownBlock≠some j∧(Value.slice l.A l.n l.c).ownBlock≠some j) W
section
variable {R:List Sl}{tr te:TypeId}{q S:Nat→Prop}{base lo:Nat}{W W':World}{A:Option Addr}{n c:Nat}{C:List Sl}{l:Sl}
theorem iC.fr(h:iC tr te q base lo W A n c C l)(hF:Fr S W W')(hS:∀j,S j→¬q j):iC tr te q base lo W' A n c C l:=
 ⟨h.ne,h.qb,h.nn,bD h.out hF (fun k b d=>hS k d (h.qb k (ak h.out k b).1)),h.blo,Nat.le_trans h.los hF.size,
  bD h.last hF (fun k b d=>hS k d (h.qb k (Nat.le_trans h.blo (ak h.last k b).1))),h.ll,
  fun x f=>⟨(h.cl x f).1,(h.cl x f).2.fr hF (fun k b d=>hS k d b.1)⟩,
  fun x f y g=>(h.el x f y g).frq hF (fun k b d=>hS k d b.1)⟩
theorem iC.new(h:iC tr te q base lo W A n c C l)(b:aa W W'):iC tr te q base lo W' A n c C l:=h.fr (b.toFr ia) (fun _ x=>x.elim)
theorem iC.puts{B:Nat}(h:iC tr te q base lo W A n c C l)(d:et B W W'):iC tr te q base lo W' A n c C l:=
 ⟨h.ne,h.qb,h.nn,d.own h.out,h.blo,Nat.le_trans h.los (by obtain ⟨l,o,o',-,-,-,rfl⟩:=d;simp),d.own h.last,h.ll,fun x b=>⟨(h.cl x b).1,d.rd (h.cl x b).2⟩,
  fun x b y f=>⟨⟨d.rd (h.el x b y f).k.rd,(h.el x b y f).k.byt⟩,⟨d.rd (h.el x b y f).v.rd,(h.el x b y f).v.byt⟩⟩⟩
theorem iC.first(f:tr≠te)(m:∀j,base≤j→q j){l:Sl}{W0:World}(k:W.ownsRow base tr 1 (.slice A 1 c) 1 l.cells)(hl:W0.ownsRow lo te 3 (.slice l.A l.n l.c) l.n (l.L.flatMap Ch.cells))(h2:base≤lo)(i:lo≤W.heap.size)(hF:aa W0 W)(d:l.L.length=l.n)
    (b:∀y∈l.L,y.In (fun j=>q j∧(Value.slice A 1 c).ownBlock≠some j∧(Value.slice l.A l.n l.c).ownBlock≠some j) W):iC tr te q base lo W A 1 c [] l:=
 ⟨f,m,rfl,by simpa using k,h2,i,hF.own hl,d,fun x g=>(by cases g),fun x g y o=>by
  have:x=l:=by simpa using g
  subst this
  exact b y o⟩
theorem iC.open_(h:iC tr te q base lo W A n c C l){d:Sl}{f m:Nat}{i:Option Addr}(z:W.heap.size≤f)(r:f≤W'.heap.size)
    (F:W'.ownsRow base tr 1 (.slice i (n+1) m) (n+1) ((C++[l]).flatMap Sl.cells++d.cells)) (hF:Fr (fun k=>(Value.slice A n c).ownBlock=some k) W W')
    (b:∀k,(Value.slice i (n+1) m).ownBlock=some k→(Value.slice A n c).ownBlock=some k∨W.heap.size≤k)
    (hl:W'.ownsRow f te 3 (.slice d.A d.n d.c) d.n (d.L.flatMap Ch.cells)) (v:d.L.length=d.n)
    (u:∀y∈d.L,y.In (fun j=>q j∧(Value.slice i (n+1) m).ownBlock≠some j∧(Value.slice d.A d.n d.c).ownBlock≠some j) W'):
    iC tr te q base f W' i (n+1) m (C++[l]) d:=by
 have p:∀k,k<W.heap.size→(Value.slice A n c).ownBlock≠some k→(Value.slice i (n+1) m).ownBlock≠some k:=fun k h1 h2 t=>by
  rcases b k t with D|D
  ·exact h2 D
  ·omega
 have o:∀k,k<W.heap.size→(Value.slice d.A d.n d.c).ownBlock≠some k:=fun k h1 t=>by
  have:=(ak hl k t).1;omega
 refine⟨h.ne,h.qb,by have:=h.nn;simp;omega,by simpa using F,Nat.le_trans h.blo (Nat.le_trans h.los z),r,hl,v,fun x g=>?_,fun x g y E=>?_⟩
 ·rcases List.mem_append.1 g with g | g
  ·obtain⟨h1,h2⟩:=h.cl x g;refine⟨h1,(h2.lts.imp (q:=fun j=>(q j∧j<f∧(Value.slice i (n+1) m).ownBlock≠some j∧base≤j)∧(Value.slice A n c).ownBlock≠some j) (fun k b=>⟨⟨b.1.1,by omega,p k b.2 b.1.2.2.1,b.1.2.2.2⟩,b.1.2.2.1⟩)).fr hF (fun k b s=>b.2 s) |>.imp (fun k b=>b.1)⟩
  ·have:x=l:=by simpa using g
   subst this;have G:=Rd.own h.last rfl;refine⟨h.ll,(G.imp (q:=fun j=>(q j∧j<f∧(Value.slice i (n+1) m).ownBlock≠some j∧base≤j)∧(Value.slice A n c).ownBlock≠some j) (fun k b=>?_)).fr hF (fun k b s=>b.2 s) |>.imp (fun k b=>b.1)⟩;have h1:=ak h.last k b;have h2:=gQ h.last h.out h.ne.symm b;exact⟨⟨h.qb k (Nat.le_trans h.blo h1.1),by omega,p k h1.2 h2,Nat.le_trans h.blo h1.1⟩,h2⟩
 ·rcases List.mem_append.1 g with g | g
  ·refine((h.el x g y E).lts.imp (q:=fun j=>(q j∧(Value.slice i (n+1) m).ownBlock≠some j∧(Value.slice d.A d.n d.c).ownBlock≠some j)∧(Value.slice A n c).ownBlock≠some j) (fun k b=>⟨⟨b.1.1,p k b.2 b.1.2.1,o k b.2⟩,b.1.2.1⟩)).frq hF (fun k b s=>b.2 s) |>.imp (fun k b=>b.1)
  ·have:x=d:=by simpa using g
   subst this;exact u y E
theorem iC.push{g:Nat}(h:iC tr te q base lo W (some ⟨g,0,none⟩) n c C l){m:Nat}{f:Option Addr}{y:Ch}
    (hl:W'.ownsRow lo te 3 (.slice f (l.n+1) m) (l.n+1) (l.L.flatMap Ch.cells++y.cells)) (hF:Fr (fun k=>(Value.slice l.A l.n l.c).ownBlock=some k) W W')
    (b:∀k,(Value.slice f (l.n+1) m).ownBlock=some k→(Value.slice l.A l.n l.c).ownBlock=some k∨W.heap.size≤k)
    (N:y.In (fun j=>q j∧g≠j∧(Value.slice l.A l.n l.c).ownBlock≠some j) W) {i:Nat} (hi:i=n-1):
    iC tr te q base lo (W'.setCell ⟨g,i,none⟩ (.slice f (l.n+1) m)) (some ⟨g,0,none⟩) n c C ⟨f,l.n+1,m,l.L++[y]⟩:=by
 subst hi;have G:=h.nn;have d:(Value.slice (some ⟨g,0,none⟩) n c).ownBlock=some g:=rfl;have E:(Value.slice l.A l.n l.c).ownBlock≠some g:=gQ h.out h.last h.ne d;have M:=ak h.out g d
 have r:W'.ownsRow base tr 1 (.slice (some ⟨g,0,none⟩) n c) n ((C++[l]).flatMap Sl.cells):=bD h.out hF (fun k b s=>by
  rw[d]at b;injection b with b
  exact E (b▸s))
 have D:(Value.slice f (l.n+1) m).ownBlock≠some g:=gQ r hl h.ne d;have o:Fr (fun k=>k=g) W' (W'.setCell ⟨g,n-1,none⟩ (.slice f (l.n+1) m)):=(Fr.refl (fun k=>k=g) W').setCell (p:=⟨g,n-1,none⟩) (fun _=>rfl) _
 have F:∀k,k<W.heap.size→(Value.slice l.A l.n l.c).ownBlock≠some k→(Value.slice f (l.n+1) m).ownBlock≠some k:=fun k h1 h2 J=>by
  rcases b k J with I|I
  ·exact h2 I
  ·omega
 have t:∀z:Ch,z.In (fun j=>q j∧(Value.slice (some ⟨g,0,none⟩) n c).ownBlock≠some j∧(Value.slice l.A l.n l.c).ownBlock≠some j) W→
     z.In (fun j=>q j∧(Value.slice (some ⟨g,0,none⟩) n c).ownBlock≠some j∧(Value.slice f (l.n+1) m).ownBlock≠some j) (W'.setCell ⟨g,n-1,none⟩ (.slice f (l.n+1) m)):=fun z u=>
  (((u.lts.imp (q:=fun j=>(q j∧(Value.slice (some ⟨g,0,none⟩) n c).ownBlock≠some j∧(Value.slice f (l.n+1) m).ownBlock≠some j)∧(Value.slice l.A l.n l.c).ownBlock≠some j) (fun k b=>⟨⟨b.1.1,b.1.2.1,F k b.2 b.1.2.2⟩,b.1.2.2⟩)).frq hF (fun k b s=>b.2 s)).imp (fun k b=>b.1)).frq o (fun k b s=>b.2.1 (by rw[d,s]))
 refine⟨h.ne,h.qb,h.nn,?_,h.blo,Nat.le_trans h.los (Nat.le_trans hF.size o.size),bD (by simpa using hl) o (fun k b s=>D (s▸b)),by simp[h.ll],fun x v=>?_,fun x v z u=>?_⟩
 ·have:=BV r (i:=n-1) (by omega) (.slice f (l.n+1) m);rw[List.flatMap_append]at this⊢
  have L:(C.flatMap Sl.cells).length=C.length:=by
   clear this r t h o G
   induction C with
   |nil=>rfl
   |cons x C O=>simp[Sl.cells,O]
  rw[List.set_append_right _ _ (by omega)]at this;have e:n-1-(C.flatMap Sl.cells).length=0:=by omega
  rw[e]at this
  simpa[Sl.cells]using this
 ·obtain⟨h1,h2⟩:=h.cl x v;refine⟨h1,((h2.lts).fr hF (fun k b s=>?_)).fr o (fun k b s=>b.1.2.2.1 (by rw[d,s])) |>.imp (fun k b=>b.1)⟩;have:=(ak h.last k s).1;have:=b.1.2.1;omega
 ·rcases List.mem_append.1 v with v | v
  ·exact t z (h.el x (List.mem_append_left _ v) z u)
  ·have:x=⟨f,l.n+1,m,l.L++ [y]⟩:=by simpa using v
   subst this;rcases List.mem_append.1 u with u|u
   ·exact t z (h.el l (by simp) z u)
   ·have:z=y:=by simpa using u
    subst this;exact t z (N.imp fun k b=>⟨b.1,by rw[d];exact fun e=>b.2.1 (by injection e),b.2.2⟩)
structure yK(W:World)(A:Option Addr)(n:Nat)(R:List Sl):Prop where
 rd:Rd (fun b=>b<W.heap.size) W 1 A n (R.flatMap Sl.cells)
 len:R.length=n
 el:∀x∈R,px W x.A x.n x.L
theorem yK.nil(W:World):yK W none 0 []:=⟨Rd.nil,rfl,fun x h=>by cases h⟩
theorem iC.bts(h:iC tr te q base lo W A n c C l):yK W A n (C++[l]):=
 ⟨dw (Rd.own h.out rfl),by have:=h.nn;simp;omega,fun x b=>by
  refine⟨?_,?_,fun y d=>Ch.In.szs (h.el x b y d)⟩
  ·rcases List.mem_append.1 b with b | b
   ·exact dw (h.cl x b).2
   ·have:x=l:=by simpa using b
    subst this;exact dw (Rd.own h.last rfl)
  ·rcases List.mem_append.1 b with b | b
   ·exact(h.cl x b).1
   ·have:x=l:=by simpa using b
    subst this
    exact h.ll⟩
structure iI(B D:Nat)(W:World)(A:Option Addr)(n:Nat)(R:List Sl):Prop where
 rd:Rd (fun b=>B≤b∧b<D) W 1 A n (R.flatMap Sl.cells)
 len:R.length=n
 el:∀x∈R,x.L.length=x.n∧Rd (fun b=>B≤b∧b<D) W 3 x.A x.n (x.L.flatMap Ch.cells)∧∀y∈x.L,y.In (fun b=>B≤b∧b<D) W
theorem iI.fr{B D:Nat}{R:List Sl}(h:iI B D W A n R)(hF:Fr S W W')(hS:∀k,S k→k<B∨D≤k):iI B D W' A n R:=by
 have key_l19:∀k,(B≤k∧k<D)→¬S k:=fun k g f=>by have:=hS k f;omega
 exact⟨h.rd.fr hF key_l19,h.len,fun x b=>⟨(h.el x b).1,(h.el x b).2.1.fr hF key_l19,fun y d=>⟨⟨((h.el x b).2.2 y d).k.rd.fr hF key_l19,((h.el x b).2.2 y d).k.byt⟩,⟨((h.el x b).2.2 y d).v.rd.fr hF key_l19,((h.el x b).2.2 y d).v.byt⟩⟩⟩⟩
theorem iI.new{B D:Nat}{R:List Sl}(h:iI B D W A n R)(b:aa W W'):iI B D W' A n R:=
 ⟨b.rd h.rd,h.len,fun x d=>⟨(h.el x d).1,b.rd (h.el x d).2.1,fun y f=>((h.el x d).2.2 y f).new b⟩⟩
theorem iI.row{B D:Nat}{R:List Sl}(h:iI B D W A n R){x:Sl}(b:x∈R):px W x.A x.n x.L:=
 ⟨dw (h.el x b).2.1,(h.el x b).1,fun y d=>Ch.In.szs ((h.el x b).2.2 y d)⟩
theorem iI.nil(B D:Nat)(W:World):iI B D W none 0 []:=⟨Rd.nil,rfl,fun x h=>by cases h⟩
theorem Rd.low{p:Nat→Prop}{s:Nat}{xs:List Value}{B:Nat}(h:Rd p W s A n xs)(i:∀k,p k→B≤k):Rd (fun b=>B≤b∧b<W.heap.size) W s A n xs:=
 ⟨h.1,fun g=>by
  obtain⟨d,e,h1,h2,f⟩:=h.2 g
  exact⟨d,e,⟨i _ h1,h2⟩,h2,f⟩⟩
theorem iC.btsN(h:iC tr te q base lo W A n c C l){B:Nat}(i:∀j,q j→B≤j):iI B W.heap.size W A n (C++[l]):=by
 have o:B≤base:=i _ (h.qb _ (Nat.le_refl _));refine⟨Rd.low (Rd.own h.out rfl) (fun k f=>Nat.le_trans o (ak h.out k f).1),by have:=h.nn;simp;omega,fun x d=>?_⟩
 have g:∀y∈x.L,y.In (fun b=>B≤b∧b<W.heap.size) W:=fun y m=>
  ⟨⟨Rd.low (h.el x d y m).k.rd (fun k f=>i k f.1),(h.el x d y m).k.byt⟩,⟨Rd.low (h.el x d y m).v.rd (fun k f=>i k f.1),(h.el x d y m).v.byt⟩⟩
 rcases List.mem_append.1 d with d|d
 ·exact⟨(h.cl x d).1,Rd.low (h.cl x d).2 (fun k f=>i k f.1),g⟩
 ·have:x=l:=by simpa using d
  subst this;exact⟨h.ll,Rd.low (Rd.own h.last rfl) (fun k f=>by have:=(ak h.last k f).1;have:=h.blo;omega),g⟩
structure iG(B:Nat)(W:World)(A:Option Addr)(n:Nat)(R:List Sl):Prop where
 rd:Rd (fun b=>B≤b) W 1 A n (R.flatMap Sl.cells)
 len:R.length=n
 el:∀x∈R,x.L.length=x.n∧Rd (fun b=>B≤b) W 3 x.A x.n (x.L.flatMap Ch.cells)
theorem iG.fr{B:Nat}{R:List Sl}(h:iG B W A n R)(hF:Fr S W W')(hS:∀k,S k→k<B):iG B W' A n R:=
 have key_l19:∀k,B≤k→¬S k:=fun k f d=>by have:=hS k d;omega
 ⟨h.rd.fr hF key_l19,h.len,fun x b=>⟨(h.el x b).1,(h.el x b).2.fr hF key_l19⟩⟩
theorem iG.nil(B:Nat)(W:World):iG B W none 0 []:=⟨Rd.nil,rfl,fun x h=>by cases h⟩
theorem iC.btsL(h:iC tr te q base lo W A n c C l):iG base W A n (C++[l]):=by
 refine⟨(Rd.own h.out rfl).imp (fun k d=>(ak h.out k d).1),by have:=h.nn;simp;omega,fun x b=>?_⟩;rcases List.mem_append.1 b with b|b
 ·exact⟨(h.cl x b).1,(h.cl x b).2.imp (fun k d=>d.2.2.2)⟩
 ·have:x=l:=by simpa using b
  subst this;exact⟨h.ll,(Rd.own h.last rfl).imp (fun k d=>Nat.le_trans h.blo (ak h.last k d).1)⟩
end
end Go.Proofs.YtfchcdbfalgdlaaGreatDoor
namespace Go.Proofs.YtfchcdbfalgdlaaGreatDoor
open _root_.Go.Proofs.Tryz
open Go.RowKit
theorem jp{F:Fence}{L:Nat}{P:Program}{t e:TypeId}{size bytes:Nat}(E:aW P t e size bytes)(w:World){y:Array Oper}{rest:List Oper}{o:Oper}{a:Act}{Q:Exit→Act→World→Prop}(I:o.guard=none)(s x:Operand)
    (J:o.op=.call {callee:=.builtin .append,args:= #[s,x],argTypes:= #[t,t]})
    (base:Nat) (v:Value) (n:Nat) (xs:List Value) (T:a.eval s=v) (j:w.ownsRow base e size v n xs)
    {p:Nat→Prop} (X:Option Addr) (m c:Nat) (b:List Value) (U:a.eval x=.slice X m c) (O:Rd p w size X m b) (h1:∀u∈b,u.oneCell'=true)
    (z:n+m≤maxLen) (d:(n+m)*bytes≤140737488355328) (f:base≤w.heap.size)
    (h:∀g i w',w'.ownsRow base e size (.slice g (n+m) i) (n+m) (xs++b)→Fr (fun k=>v.ownBlock=some k) w w'→
     (∀k,(Value.slice g (n+m) i).ownBlock=some k→v.ownBlock=some k∨w.heap.size≤k)→wpListIn F L P y Q rest (a.put o.dst (.slice g (n+m) i)) w'):wpListIn F L P y Q (o::rest) a w:=by
 refine wpListIn_plain I fun K D=>?_
 obtain⟨g,i,w',r,h2,M,N⟩:=wT E w base o.type v n xs j X m c b O h1 z d f;unfold Oper.wpIn;refine⟨?_,?_⟩
 ·simp[Oper.about,J,resolve,Target.leads,Sem.run_pure]
 ·rw[Oper.semAt_plain F _ _ (by rw[J];intro c G;cases G)];simp[execOp,J,resolve,invoke,builtin,T,U,r,Result.andThen];exact D _ _ (h g i w' h2 M N)
end Go.Proofs.YtfchcdbfalgdlaaGreatDoor
