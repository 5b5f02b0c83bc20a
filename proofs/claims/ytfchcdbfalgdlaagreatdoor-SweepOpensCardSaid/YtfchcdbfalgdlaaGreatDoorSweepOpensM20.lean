/- Texts of one proof. No condition but each one's own. -/
import Derived.Test.YtfchcdbfalgdlaaGreatDoorSweepOpensM5
import Derived.StringKeys
import Derived.Shelf.SlIter.Nil
import Derived.Shelf.SortM.Plain
import Derived.Shelf.SortM.SortNone
import Derived.Test.YtfchcdbfalgdlaaGreatDoorProg
import Derived.Deep.CutBlock
import Derived.Deep.CutRange
import Derived.Laws.IdiomStrings
set_option maxHeartbeats 4000000
set_option maxRecDepth 100000
set_option linter.unusedVariables false
set_option linter.unusedSimpArgs false
namespace Go.Proofs.YtfchcdbfalgdlaaGreatDoor
open _root_.Go.Proofs.Tryz
open Go.RowKit
section
variable {P:Program}{ops:Array Oper}{o:Oper}{a:Act}{w:World}{Q:Exit→Act→World→Prop}{K:Act→World→Prop}{F:Prop}
theorem jU{t e:TypeId}{size bytes:Nat}(E:aW P t e size bytes)(f:size≤16777216)(i:Region.wanted o (yielded ops a.tmps)=true)(x:Operand)
    (d:o.op=.buildSlice t 1 #[(0,x)]) (cs:Array Value) (j:a.eval x=.agg cs) (c:cs.size=size)
    (h:∀g w',ab w' g e cs→aa w w'→w.heap.size≤g→K (a.put o.dst (.slice (some ⟨g,0,none⟩) 1 1)) w'):if Region.wanted o (yielded ops a.tmps)=true then Oper.wp P o a w K Q else F:=by
 rw[if_pos i];unfold Oper.wp execOp;simp only[d,Sem.run_bind,List.map_toArray,List.map_cons,List.map_nil,j,se E f (.agg cs) c w,Result.andThen_ok];exact h _ _ (ab.new _ _ _) (aa.al (aa.refl _) _) (Nat.le_refl _)
theorem Ck{P:Program}{t e:TypeId}{size bytes:Nat}(E:aW P t e size bytes)(w:World):
    (Instr.buildSlice t 0 #[]).run P w=.ok (.slice (some ⟨w.heap.size,0,none⟩) 0 0) (w.alloc (.cells #[] e)):=by
 obtain⟨i,z,hi,j,c,-,d⟩:=E.info;have h0:∀f:Nat→Value,Array.map f (Array.range 0)= #[]:=fun f=>Array.eq_empty_of_size_eq_zero (by simp)
 simp[Instr.buildSlice,run_underlying E.ht,sizeOf,typeInfo,hi,newRow,Instr.fill,h0]
theorem ub{t e:TypeId}{size bytes:Nat}(E:aW P t e size bytes)(d:Region.wanted o (yielded ops a.tmps)=true)
    (c:o.op=.buildSlice t 0 #[])
    (h:∀g w',ab w' g e #[]→aa w w'→w.heap.size≤g→K (a.put o.dst (.slice (some ⟨g,0,none⟩) 0 0)) w'):if Region.wanted o (yielded ops a.tmps)=true then Oper.wp P o a w K Q else F:=by
 rw[if_pos d];unfold Oper.wp execOp;simp only[c,Sem.run_bind,List.map_toArray,List.map_nil,Ck E w,Result.andThen_ok];exact h _ _ (ab.new _ _ _) (aa.al (aa.refl _) _) (Nat.le_refl _)
end
theorem iD{α:Type}{p:Nat→Prop}{w:World}{A:Option Addr}{n size:Nat}{f:α→List Value}{L:List α}(d:∀x,(f x).length=size)(l:0<size)(h:Rd p w size A n (L.flatMap f)){i:Nat}(hi:i<n):
    ∃(g o:Nat) (hl:i<L.length),A=some ⟨g,o,none⟩∧p g∧g<w.heap.size∧w.rangeAt g (o+i*size) (f L[i]):=by
 obtain⟨g,o,r,u,s,k⟩:=h.out (by omega) l
 have c:(L.flatMap f).length=L.length*size:=by
  clear k h
  induction L with
  |nil=>simp
  |cons x L y=>simp[d x,y];rw[Nat.succ_mul,Nat.add_comm]
 have hl:i<L.length:=by
  have h1:=h.1;rw[c]at h1;have:=Nat.eq_of_mul_eq_mul_right l h1;omega
 refine⟨g,o,hl,r,u,s,fun j v q=>?_⟩;have t:j<size:=by rw[←d L[i]];exact(List.getElem?_eq_some_iff.1 q).1
 rw[Nat.add_assoc];exact k (i*size+j) v (by rw[od f size L i j hl (fun x _=>d x) t];exact q)
end Go.Proofs.YtfchcdbfalgdlaaGreatDoor
namespace Go.Proofs.YtfchcdbfalgdlaaGreatDoor
open _root_.Go.Proofs.Tryz
open Go.RowKit Go.Maps
structure Fm where
 A:Option Addr
 n:Nat
 c:Nat
 xs:List Int
def Fm.val(x:Fm):Value:=.slice x.A x.n x.c
structure Fm.In(P:Nat→Prop)(w:World)(x:Fm):Prop where
 rd:Rd P w 1 x.A x.n (am x.xs)
 byt:aU x.xs
theorem Fm.In.len{P:Nat→Prop}{w:World}{x:Fm}(h:x.In P w):x.xs.length=x.n:=by have:=h.rd.1;rw[ah]at this;omega
structure Ch where
 k:Fm
 v:Fm
 d:Bool
def Ch.cells(c:Ch):List Value:=[.slice c.k.A c.k.n c.k.c,.slice c.v.A c.v.n c.v.c,.bool c.d]
structure Ch.In(P:Nat→Prop)(w:World)(c:Ch):Prop where
 k:c.k.In P w
 v:c.v.In P w
theorem Ch.In.new{P:Nat→Prop}{w w':World}{c:Ch}(h:c.In P w)(d:aa w w'):c.In P w':=⟨⟨d.rd h.k.rd,h.k.byt⟩,⟨d.rd h.v.rd,h.v.byt⟩⟩
def eE(c:Ch):Bool:=decide (1≤c.k.n)&&decide (c.k.n≤16)&&decide (c.v.n≤16384)&& !(c.d&&decide (0<c.v.n))
def dg(L:List Ch):Bool:=decide (1≤L.length)&&decide (L.length≤600)&&L.all eE
theorem rb{a b:Bool}(h:a=b):Ending.returned (.bool a)=Ending.returned (.bool b):=by rw[h]
theorem yj (c:Ch) (w:World) (i:c.k.n≤maxLen) (j:c.v.n≤maxLen):Calls prog 117 #[.agg c.cells.toArray] w fun e w'=>e= .returned (.bool (eE c))∧aa w w':=by
 obtain⟨⟨l,f,n,p⟩,⟨q,k,r,s⟩,d⟩:=c;unfold maxLen at i j;dsimp only at i j;unfold Ch.cells;dsimp only
 go_enter func117,ntmps117
 go_wp2_with fail
 all_goals
  go_ret;refine⟨rb ?_,aa.al (aa.refl _) _⟩
  try subst d
  unfold eE;dsimp only
  first|(rw[decide_eq_true (by omega:1≤f),decide_eq_true (by omega:f≤16),decide_eq_true (by omega:k≤16384)];simp;done)|(rw[decide_eq_true (by omega:1≤f),decide_eq_true (by omega:f≤16),decide_eq_false (by omega:¬k≤16384)];simp;done)|(rw[decide_eq_true (by omega:1≤f),decide_eq_false (by omega:¬f≤16)];simp;done)|(rw[decide_eq_false (by omega:¬1≤f)];simp;done)
theorem BR (c:Ch) (w:World) (n:c.k.n≤maxLen) (p:c.v.n≤maxLen):Calls prog 116 #[.agg c.cells.toArray] w fun e w'=>e= .returned (.bool (!eE c))∧aa w w':=by
 have k:=fun w=>yj c w n p
 obtain⟨b,l⟩:=nM (eE c);rw[←l]at k⊢;have j:=Ld k;clear l k;obtain⟨⟨q,s,r,t⟩,⟨u,y,v,z⟩,d⟩:=c;clear n p;unfold Ch.cells at j⊢;dsimp only at j⊢
 go_enter func116,ntmps116
 go_wp2_with fail
 refine(j.out _).mono ?_;rintro e C ⟨rfl,f⟩;have i:=Ld f;clear f
 go_wp2_with fail
 go_ret;exact⟨rfl,(aa.al (aa.refl _) _).tr i.out⟩
def Be(L:List Ch)(e:Ending):Prop:=∃r:Int,e=.returned (.int .i64 r)∧(L.all eE=true→r=-1)∧(L.all eE=false→0≤r)
theorem sN{L:List Ch}{k:Nat}(h:k<L.length):(L.take (k+1)).all eE=((L.take k).all eE&&eE L[k]):=by
 rw[List.take_succ_eq_append_getElem h,List.all_append];simp
theorem xF{P:Nat→Prop}(A:Option Addr)(n c:Nat)(L:List Ch)(w:World)(h:Rd P w 3 A n (L.flatMap Ch.cells))(J:L.length=n)(hn:n≤100000000)(M:∀c∈L,c.k.n≤maxLen∧c.v.n≤maxLen):
    Calls prog 154 #[.slice A n c,.func (.func 116) #[] #[]] w fun e w'=>Be L e∧aa w w':=by
 have U:=Ld h;have R:=Ld J;have O:=Ld M;clear h J M
 go_enter func154,ntmps154
 go_wp2_with fail
 go_loopw [8] (fun i wr=>∃j:Nat,j≤n∧i=.int .i64 j∧Hid ((L.take j).all eE=true)∧Hid (aa w wr)) (fun i _=>n-(intOf i).toNat)
 case atStart=>exact⟨0,Nat.zero_le _,rfl,Ld (by simp),Ld (aa.refl w)⟩
 case round=>
  obtain⟨j,hj,rfl,I,z⟩:=hrel
  by_cases H:j<n
  ·as_aux_lemma=>
   obtain⟨g,o,hl,rfl,-,-,p⟩:=iD (f:=Ch.cells) (L:=L) (fun _=>rfl) (by omega) (z.out.rd U.out) H;have D:wr.cell? ⟨g,o+j*3,none⟩=some (.slice L[j].k.A L[j].k.n L[j].k.c):=p 0 _ rfl;have G:wr.cell? ⟨g,o+j*3+1,none⟩=some (.slice L[j].v.A L[j].v.n L[j].v.c):=p 1 _ rfl;have c2:wr.cell? ⟨g,o+j*3+2,none⟩=some (.bool L[j].d):=p 2 _ rfl;have r:=O.out L[j] (List.getElem_mem _);have u:=Ld (fun w=>BR L[j] w r.1 r.2);have s:=sN hl;have l:L[j]∈L:=List.getElem_mem _;generalize L[j]=x at D G c2 u s l;obtain⟨⟨Z,kn,kc,ks⟩,⟨vA,vn,vc,vs⟩,d⟩:=x;unfold Ch.cells at u;dsimp only at D G c2 u;have C:=Ld s;have T:=Ld l;have V:(0:Int)≤(j:Int):=by omega
   have Y:(j:Int)<(n:Int):=by omega
   clear p hl s r l
   go_wp2_with fail
   refine(u.out _).mono ?_;rintro e w1 ⟨rfl,y⟩;have t:=Ld (z.out.tr y);clear y u D G c2
   cases hok:eE ⟨⟨Z,kn,kc,ks⟩,⟨vA,vn,vc,vs⟩,d⟩
   ·have q:=Ld hok;clear hok
    go_wp2_with fail
    go_ret;refine⟨⟨j,rfl,fun h=>?_,fun _=>by omega⟩,t.out⟩;have:=List.all_eq_true.1 h _ T.out;rw[q.out]at this
    cases this
   ·have q:=Ld hok;clear hok
    go_wp2_with fail
    go_roundw
    case rel=>exact⟨j+1,by omega,by go_num,Ld (by rw[C.out,I.out,q.out];rfl),t⟩
    case measure=>simp[intOf];omega
  ·as_aux_lemma=>
   obtain rfl:j=n:=by omega
   go_wp2_with fail
   go_ret;have N:=I.out;rw[List.take_of_length_le (by rw[R.out];exact Nat.le_refl _)]at N;exact⟨⟨-1,rfl,fun _=>rfl,fun h=>by rw[N]at h;cases h⟩,z.out⟩
theorem xu{P:Nat→Prop}(A:Option Addr)(n c:Nat)(L:List Ch)(w:World)(h:Rd P w 3 A n (L.flatMap Ch.cells))(j:L.length=n)(l:n≤100000000)(k:∀c∈L,c.k.n≤maxLen∧c.v.n≤maxLen):
    Calls prog 118 #[.slice A n c,.func (.func 116) #[] #[]] w fun e w'=>e=.returned (.bool (!L.all eE))∧aa w w':=by
 have i:=Ld (xF A n c L w h j l k);clear h j k l
 go_enter func118,ntmps118
 go_wp2_with fail
 refine i.out.mono ?_;rintro e s ⟨⟨r,rfl,h1,h2⟩,d⟩;have f:=Ld d;have p:=Ld h1;have q:=Ld h2;clear d h1 h2 i
 go_wp2_with fail
 go_ret;refine⟨rb ?_,f.out⟩
 cases ha:L.all eE
 ·have:=q.out ha;simp;omega
 ·have:=p.out ha;simp;omega
theorem jj{P:Nat→Prop}(A:Option Addr)(n c:Nat)(L:List Ch)(w:World)(h:Rd P w 3 A n (L.flatMap Ch.cells))(k:L.length=n)(r:n≤100000000)(d:∀c∈L,c.k.n≤maxLen∧c.v.n≤maxLen):
    Calls prog 70 #[.slice A n c] w fun e w'=>e=.returned (.bool (dg L))∧aa w w':=by
 have l:=Ld (fun(w':World) (q:aa w w')=>xu A n c L w' (q.rd h) k r d);clear h d;have p:=Ld k;clear k
 go_enter func70,ntmps70
 go_wp2_with fail
 ·refine(l.out _ (aa.refl _)).mono ?_;rintro e s ⟨rfl,f⟩;have j:=Ld f;clear f l;obtain⟨b,d⟩:=nM (L.all eE);rw[←d];have i:=Ld d;clear d
  go_wp2_with fail
  go_ret;refine⟨rb ?_,j.out⟩;unfold dg;rw[p.out,←i.out,decide_eq_true (by omega:1≤n),decide_eq_true (by omega:n≤600)];simp
 all_goals
  go_ret;refine⟨rb ?_,aa.refl _⟩;unfold dg;rw[p.out]
  first|(rw[decide_eq_true (by omega:1≤n),decide_eq_false (by omega:¬n≤600)];simp;done)|(rw[decide_eq_false (by omega:¬1≤n)];simp;done)
end Go.Proofs.YtfchcdbfalgdlaaGreatDoor
namespace Go.Proofs.YtfchcdbfalgdlaaGreatDoor
open _root_.Go.Proofs.Tryz
open Go.RowKit Go.Maps Go.Sort Go.Shelf
def qj:Go.Shelf.Ren:=⟨fun| 7=>153 | 10=>163 |n=>n,fun| 23=>121 | 26=>9 | 3=>33 | 28=>221 | 0=>0 | 27=>220 | 33=>242 | 4=>4 |n=>n,fun|n=>n⟩
theorem CS:Go.Proofs.SlLaysZ.n7 prog qj:={
 mixed:=by kernel_rfl
 f7:=⟨f153.name,by decide,func153.trans (congrArg some (by kernel_rfl))⟩
 f10:=⟨f163.name,by decide,func163.trans (congrArg some (by kernel_rfl))⟩
 t0:=underlying0
 a0:=isAgg0
 z0:=sizeOf0
 v0:=zeroValue0
 t4:=underlying4
 a4:=isAgg4
 z4:=sizeOf4
 v4:=zeroValue4
 t23:=underlying121
 a23:=isAgg121
 z23:=sizeOf121
 v23:=zeroValue121
 t26:=underlying9
 a26:=isAgg9
 z26:=sizeOf9
 v26:=zeroValue9
 t27:=underlying220
 a27:=isAgg220
 z27:=sizeOf220
 v27:=zeroValue220
 t28:=underlying221
 a28:=isAgg221
 z28:=sizeOf221
 v28:=zeroValue221
 t33:=underlying242
 a33:=isAgg242
 z33:=sizeOf242
 v33:=zeroValue242}
def na:Go.Shelf.Ren:=⟨fun| 6=>152 | 8=>161 | 9=>162 | 11=>170 | 13=>172 | 12=>171 | 23=>185 | 24=>186 | 14=>176 | 15=>177 | 16=>178 | 17=>179 | 18=>180 | 19=>181 | 20=>182 | 21=>183 | 22=>184 | 25=>189 | 26=>190 | 27=>191 | 28=>192 | 29=>193 | 30=>194 | 31=>195 |n=>n,fun| 26=>9 | 28=>221 | 24=>180 | 0=>0 | 3=>3 | 37=>52 | 48=>44 | 50=>53 | 4=>4 | 40=>255 | 39=>254 | 45=>260 | 5=>5 | 9=>9 | 51=>265 | 55=>269 | 57=>271 | 58=>95 | 33=>242 |n=>n,fun|n=>n⟩
theorem Co:Go.Proofs.SlLaysZ.n6 prog na:={
 mixed:=by kernel_rfl
 f6:=⟨f152.name,by decide,func152.trans (congrArg some (by kernel_rfl))⟩
 f8:=⟨f161.name,by decide,func161.trans (congrArg some (by kernel_rfl))⟩
 f11:=⟨f170.name,by decide,func170.trans (congrArg some (by kernel_rfl))⟩
 t0:=underlying0
 a0:=isAgg0
 z0:=sizeOf0
 v0:=zeroValue0
 t24:=underlying180
 a24:=isAgg180
 z24:=sizeOf180
 v24:=zeroValue180
 t26:=underlying9
 a26:=isAgg9
 z26:=sizeOf9
 v26:=zeroValue9
 t28:=underlying221
 a28:=isAgg221
 z28:=sizeOf221
 v28:=zeroValue221
 i26:=by kernel_rfl}
def yw:Go.Shelf.Ren:=⟨fun| 6=>162 | 8=>172 | 9=>171 | 19=>185 | 20=>186 | 21=>176 | 22=>177 | 23=>178 | 24=>179 | 25=>180 | 26=>181 | 27=>182 | 28=>183 | 29=>184 | 36=>189 | 31=>190 | 32=>191 | 37=>192 | 38=>193 | 39=>194 | 41=>195 |n=>n,fun| 27=>180 | 29=>9 | 3=>3 | 32=>52 | 26=>180 | 0=>0 | 44=>44 | 46=>53 | 4=>4 | 36=>255 | 35=>254 | 41=>260 | 5=>5 | 9=>9 | 53=>265 | 57=>269 | 63=>271 | 64=>95 |n=>n,fun|n=>n⟩
theorem CU:Go.Proofs.SlLaysM.n6 prog yw:={
 mixed:=by kernel_rfl
 f6:=⟨f162.name,by decide,func162.trans (congrArg some (by kernel_rfl))⟩
 f8:=func172.trans (congrArg some (by kernel_rfl))
 f9:=⟨f171.name,by decide,func171.trans (congrArg some (by kernel_rfl))⟩
 f19:=func185.trans (congrArg some (by kernel_rfl))
 f20:=func186.trans (congrArg some (by kernel_rfl))
 f21:=⟨f176.name,by decide,func176.trans (congrArg some (by kernel_rfl))⟩
 f22:=⟨f177.name,by decide,func177.trans (congrArg some (by kernel_rfl))⟩
 f23:=⟨f178.name,by decide,func178.trans (congrArg some (by kernel_rfl))⟩
 f24:=⟨f179.name,by decide,func179.trans (congrArg some (by kernel_rfl))⟩
 f25:=⟨f180.name,by decide,func180.trans (congrArg some (by kernel_rfl))⟩
 f26:=⟨f181.name,by decide,func181.trans (congrArg some (by kernel_rfl))⟩
 f27:=⟨f182.name,by decide,func182.trans (congrArg some (by kernel_rfl))⟩
 f28:=⟨f183.name,by decide,func183.trans (congrArg some (by kernel_rfl))⟩
 f29:=⟨f184.name,by decide,func184.trans (congrArg some (by kernel_rfl))⟩
 f31:=func190.trans (congrArg some (by kernel_rfl))
 f32:=func191.trans (congrArg some (by kernel_rfl))
 f36:=⟨f189.name,by decide,func189.trans (congrArg some (by kernel_rfl))⟩
 f37:=⟨f192.name,by decide,func192.trans (congrArg some (by kernel_rfl))⟩
 f38:=⟨f193.name,by decide,func193.trans (congrArg some (by kernel_rfl))⟩
 f39:=⟨f194.name,by decide,func194.trans (congrArg some (by kernel_rfl))⟩
 f41:=⟨f195.name,by decide,func195.trans (congrArg some (by kernel_rfl))⟩
 t0:=underlying0
 a0:=isAgg0
 z0:=sizeOf0
 v0:=zeroValue0
 t3:=underlying3
 a3:=isAgg3
 z3:=sizeOf3
 v3:=zeroValue3
 t4:=underlying4
 a4:=isAgg4
 z4:=sizeOf4
 v4:=zeroValue4
 t5:=underlying5
 a5:=isAgg5
 z5:=sizeOf5
 v5:=zeroValue5
 t9:=underlying9
 a9:=isAgg9
 z9:=sizeOf9
 v9:=zeroValue9
 t26:=underlying180
 a26:=isAgg180
 z26:=sizeOf180
 v26:=zeroValue180
 t27:=underlying180
 a27:=isAgg180
 z27:=sizeOf180
 v27:=zeroValue180
 t29:=underlying9
 a29:=isAgg9
 z29:=sizeOf9
 v29:=zeroValue9
 t32:=underlying52
 a32:=isAgg52
 z32:=sizeOf52
 v32:=zeroValue52
 t35:=underlying254
 a35:=isAgg254
 z35:=sizeOf254
 v35:=zeroValue254
 t36:=underlying255
 a36:=isAgg255
 z36:=sizeOf255
 v36:=zeroValue255
 t41:=underlying260
 a41:=isAgg260
 z41:=sizeOf260
 v41:=zeroValue260
 t44:=underlying44
 a44:=isAgg44
 z44:=sizeOf44
 v44:=zeroValue44
 t46:=underlying53
 a46:=isAgg53
 z46:=sizeOf53
 v46:=zeroValue53
 t53:=underlying265
 a53:=isAgg265
 z53:=sizeOf265
 v53:=zeroValue265
 t57:=underlying269
 a57:=isAgg269
 z57:=sizeOf269
 v57:=zeroValue269
 t63:=underlying271
 a63:=isAgg271
 z63:=sizeOf271
 v63:=zeroValue271
 t64:=underlying95
 a64:=isAgg95
 z64:=sizeOf95
 v64:=zeroValue95}
theorem Ec(m:Nat):AnyZ.SortsIn prog na Fence.wide m:=
 ⟨fun blk off cap ss W f c d=>callsIn_wide.2 (AnyM.slices_Sort_string CU blk off cap ss W f c d),
  fun p cap W=>callsIn_wide.2 (AnyM.slices_Sort_string_none CU p cap W)⟩
theorem xO (c:Option Nat) (W:World):CallsIn Fence.wide 5 prog 153 #[.map c] W fun e w'=>e= .returned (.func (.func 163) #[] #[.pointer (some ⟨W.heap.size,0,none⟩)])∧w'=W.alloc (.cells #[.map c] 121):=
 AnyZ.keys_in CS Fence.wide 5 trivial rfl c W
theorem tY{H:Type}(b nn:Nat)(f:DataW H)(R:Value→Option (DataW H×List MemPlace))(w:World)(d:w.ownsMap prog 9 R b nn f)(i:Maps.size f≤maxLen)(c:Maps.size f*16≤140737488355328):
    CallsIn Fence.wide 5 prog 152 #[.func (.func 163) #[] #[.pointer (some ⟨w.heap.size,0,none⟩)]] (w.alloc (.cells #[.map (some b)] 121)) fun e w'=>∃(v:Value) (ss:List (List UInt8)),e= .returned v∧ss.Perm (strKeys f)∧
     w'.ownsRow (w.alloc (.cells #[.map (some b)] 121)).heap.size 9 1 v ss.length ((ss.mergeSort (fun x y=>decide (x≤y))).map encStr)∧(v=.slice none 0 0↔ss=[])∧Below (w.alloc (.cells #[.map (some b)] 121)).heap.size (w.alloc (.cells #[.map (some b)] 121)) w':=by
 have k:=d.lt
 have j:SeqGives Fence.wide 2 prog 163 #[.pointer (some ⟨w.heap.size,0,none⟩)] encStr (fun ss=>ss.Perm (strKeys f)) (Maps.size f) (w.alloc (.cells #[.map (some b)] 121)):=
  AnyZ.keys_gives (ρ:=qj) {CS with} Fence.wide _ trivial rfl (by omega) w.heap.size b nn f _ (by simp) (by simp) (by
   obtain⟨n,clock,q,l,r,p⟩:=d
   exact⟨n,clock,(Below.heap_alloc _ _ b k).trans q,l,r,p⟩)
 exact AnyZ.sorted_in Co Fence.wide 5 trivial trivial trivial trivial rfl (by omega) (Ec _) (enters_of func162 (by kernel_rfl) rfl) 163 #[.pointer (some ⟨w.heap.size,0,none⟩)] trivial (enters_of func163 (by kernel_rfl) rfl) _ _ i c _ j
end Go.Proofs.YtfchcdbfalgdlaaGreatDoor
namespace Go.Proofs.YtfchcdbfalgdlaaGreatDoor
open _root_.Go.Proofs.Tryz
open Go.RowKit Go.Maps Go.Sort
def key_l19(xs:List Int):Lit:=.string (strOfNums xs).data.toList
theorem nv{xs ys:List Int}(c:aU xs)(d:aU ys)(h:key_l19 xs=key_l19 ys):xs=ys:=by
 have:=sy c d;unfold key_l19 at h;injection h with h
 have e:(strOfNums xs).toList=(strOfNums ys).toList:=by
  have:strOfNums xs=strOfNums ys:=by
   have:(strOfNums xs).data=(strOfNums ys).data:=Array.toList_inj.1 h;exact ByteArray.ext this
  rw[this]
 simpa[e]using this
theorem zC:Keyed prog 9:=string_keyed underlying9
theorem uK{xs:List Int}(h:xs.length≤1000000):keyOf prog 9 (.string (strOfNums xs))=some (key_l19 xs):=
 Go.WideMaps.keyOf_string_mk underlying9 (by rw[strOfNums_size];unfold maxLen;omega)
abbrev fi:=List (List Int×Fm)
def pJ(E:fi)(k:List Int):fi:=E.filter fun e=>decide (e.1≠k)
def sA(E:fi)(k:List Int)(v:Fm):fi:=pJ E k++[(k,v)]
theorem oq(E:fi)(k ys:List Int):(pJ E k).lookup ys=if ys=k then none else E.lookup ys:=by
 unfold pJ
 induction E with
 |nil=>simp
 |cons e E f=>
  obtain⟨x,v⟩:=e
  by_cases d:x=k
  ·rw[List.filter_cons_of_neg (by simp[d]),f]
   by_cases c:ys=k
   ·rw[if_pos c,if_pos c]
   ·rw [if_neg c,if_neg c,List.lookup_cons];have:(ys==x)=false:=by simp;intro h;exact c (h.trans d)
    rw[this]
  ·rw[List.filter_cons_of_pos (by simp[d]),List.lookup_cons,List.lookup_cons,f]
   by_cases c:ys=x
   ·have:¬ys=k:=fun h=>d (c.symm.trans h)
    simp[c,d]
   ·have:(ys==x)=false:=by simpa using c
    rw[this]
theorem uN(E:fi)(k ys:List Int)(v:Fm):(sA E k v).lookup ys=if ys=k then some v else E.lookup ys:=by
 unfold sA;rw[List.lookup_append,oq]
 by_cases c:ys=k
 ·subst c;simp
 ·rw [if_neg c,if_neg c];have:(ys==k)=false:=by simpa using c
  show(E.lookup ys).or (match ys==k with|true=>some v|false=>none)=_;rw[this]
  cases E.lookup ys<;>rfl
theorem zJ{E:fi}(h:(E.map Prod.fst).Nodup)(k:List Int):((pJ E k).map Prod.fst).Nodup:=(List.Sublist.map _ List.filter_sublist).nodup h
theorem DH{E:fi}(h:(E.map Prod.fst).Nodup)(k:List Int)(v:Fm):((sA E k v).map Prod.fst).Nodup:=by
 unfold sA;rw[List.map_append,List.nodup_append];refine⟨zJ h k,by simp,fun x d y c e=>?_⟩;simp at c;subst c e;simp[pJ]at d
theorem wG{E:fi}{k:List Int}{e:List Int×Fm}(h:e∈pJ E k):e∈E:=(List.mem_filter.1 h).1
theorem BM{E:fi}{k:List Int}{v:Fm}{e:List Int×Fm}(h:e∈sA E k v):e∈E∨e=(k,v):=by
 rcases List.mem_append.1 h with h|h
 ·exact .inl (wG h)
 ·exact .inr (List.mem_singleton.1 h)
structure dl(X:Nat→Prop)(w:World)(base g b m:Nat)(E:fi):Prop where
 blk:ab w g 123 #[.map (some b)]
 map:∃f,aH w prog 9 b m f∧(∀xs,aU xs→f (key_l19 xs)=(E.lookup xs).map Fm.val)∧∀kl,(f kl).isSome=true→∃xs,aU xs∧kl=key_l19 xs
 nd:(E.map Prod.fst).Nodup
 el:∀e∈E,aU e.1∧e.1.length≤16∧e.2.In X w∧e.2.n≤16384
 gb:base≤g
 lb:base≤b
 xs:∀k,X k→base≤k∧aO 5 w k
section
variable {X:Nat→Prop}{w w':World}{base g b m:Nat}{E:fi}{S:Nat→Prop}
theorem Fm.In.fr{P:Nat→Prop}{x:Fm}(h:x.In P w)(hF:Fr S w w')(hS:∀k,P k→¬S k):x.In P w':=⟨h.rd.fr hF hS,h.byt⟩
theorem dl.fr(h:dl X w base g b m E)(hF:Fr S w w')(h1:¬S g)(h2:¬S b)(j:∀k,S k→¬X k):dl X w' base g b m E:=by
 obtain⟨f,l,r⟩:=h.map;exact⟨h.blk.fr hF h1,⟨f,l.fr hF h2,r⟩,h.nd,fun e d=>⟨(h.el e d).1,(h.el e d).2.1,(h.el e d).2.2.1.fr hF (fun k c i=>j k i c),(h.el e d).2.2.2⟩,h.gb,h.lb,fun k c=>⟨(h.xs k c).1,(h.xs k c).2.fr hF (fun i=>j k i c)⟩⟩
theorem dl.new(h:dl X w base g b m E)(c:aa w w'):dl X w' base g b m E:=h.fr (c.toFr ia) (fun x=>x) (fun x=>x) (fun _ x=>x.elim)
theorem dl.blt(h:dl X w base g b m E):b<w.heap.size:=by obtain⟨f,c,_⟩:=h.map;exact c.lt
theorem dl.gne(h:dl X w base g b m E):g≠b:=by
 rintro rfl;obtain⟨f,⟨D,⟨i,clock,d,_⟩,_⟩,_⟩:=h.map;have c:=h.blk;unfold ab at c;rw[d]at c
 cases c
theorem dl.bX(h:dl X w base g b m E):¬X b:=fun d=>by
 obtain⟨f,c,_⟩:=h.map;exact aO.not_map c (h.xs b d).2
end
theorem BO (base:Nat) (w:World) (c:base≤w.heap.size):Calls prog 23 #[] w fun e w'=>∃g b,e= .returned (.pointer (some ⟨g,0,none⟩))∧dl (fun _=>False) w' base g b 0 []∧aa w w'∧w.heap.size≤g∧w.heap.size≤b:=by
 have i:= @run_makeMap prog
 go_enter func23,ntmps23
 go_wp2_with fail
 go_ret;refine⟨w.heap.size+1,w.heap.size,rfl,⟨ab.new' _ _ _ (by simp),⟨fun _=>none,(aH.made w prog 9).alloc _,fun xs _=>by simp,fun kl h=>by simp at h⟩,by simp,(fun e d=>by cases d),(by omega),c,fun k f=>f.elim⟩,aa.al (aa.al (aa.refl _) _) _,by omega,Nat.le_refl _⟩
theorem Cy{xs:List Int}:(strOfNums xs).data.toList=xs.map (fun x=>UInt8.ofNat x.toNat):=by
 rw[strOfNums_data]
def gN(E:fi):List (List UInt8):=E.map fun e=>(strOfNums e.1).data.toList
theorem DC(E:fi):(gN E).length=E.length:=by simp[gN]
theorem ot{E:fi}{xs:List Int}{v:Fm}(h:E.lookup xs=some v):(xs,v)∈E:=by
 induction E with
 |nil=>simp at h
 |cons e E d=>
  obtain⟨x,u⟩:=e;rw[List.lookup_cons]at h
  by_cases c:xs=x
  ·subst c;simp at h;simp[h]
  ·have:(xs==x)=false:=by simpa using c
   rw[this]at h;exact List.mem_cons_of_mem _ (d h)
theorem ou{E:fi}(c:(E.map Prod.fst).Nodup){e:List Int×Fm}(h:e∈E):E.lookup e.1=some e.2:=by
 induction E with
 |nil=>cases h
 |cons d E i=>
  obtain⟨x,u⟩:=d;rw[List.map_cons,List.nodup_cons]at c;rcases List.mem_cons.1 h with rfl|h
  ·simp
  ·rw[List.lookup_cons]
   have:(e.1==x)=false:=by
    simp;intro f;exact c.1 (f▸List.mem_map.2 ⟨e,h,rfl⟩)
   rw[this];exact i c.2 h
theorem zB{E:fi}(j:(E.map Prod.fst).Nodup)(f:∀e∈E,aU e.1):(gN E).Nodup:=by
 unfold gN;refine List.pairwise_map.2 ((List.pairwise_map.1 j).imp_of_mem fun {a b} i c d e=>d ?_);exact nv (f a i) (f b c) (by unfold key_l19;rw[e])
theorem CB{X:Nat→Prop}{w:World}{base g b m:Nat}{E:fi}(h:dl X w base g b m E):∃D:DataW Value,w.ownsMap prog 9 Rv b m D∧(gN E).Perm (strKeys D):=by
 obtain⟨f,⟨D,k,n⟩,h1,h2⟩:=h.map;refine⟨D,k,?_⟩;refine Collected.perm (left:=fun _=>false) (ss:=gN E) ⟨zB h.nd (fun e j=>(h.el e j).1),fun x=>?_⟩ k zC underlying9 (fun _=>rfl)
 have d:has D (.string x)=true↔(f (.string x)).isSome=true:=by
  rw[n]
  cases has D (.string x)<;>simp
 rw[d];simp only[and_true];constructor
 ·intro c;obtain⟨e,j,rfl⟩:=List.mem_map.1 c;have:=h1 e.1 (h.el e j).1;rw[ou h.nd j]at this;show(f (key_l19 e.1)).isSome=true;rw[this];rfl
 ·intro c;obtain⟨xs,l,i⟩:=h2 _ c;rw[i,h1 xs l]at c
  cases hl:E.lookup xs with
  |none=>rw[hl]at c;cases c
  |some v=>
   have:=ot hl;unfold key_l19 at i;injection i with i;exact List.mem_map.2 ⟨(xs,v),this,i.symm⟩
theorem ti{X:Nat→Prop}{w:World}{base g b m:Nat}{E:fi}(h:dl X w base g b m E)(u:m≤1000000):
    Calls prog 113 #[.pointer (some ⟨g,0,none⟩)] w fun e w'=>(∃v,e=.returned v∧w'.ownsRow w.heap.size 9 1 v E.length (((gN E).mergeSort leB).map encStr))∧aa w w':=by
 obtain⟨D,f,j⟩:=CB h;have i:=f.size_le;have C:w.cell? ⟨g,0,none⟩=some (.map (some b)):=h.blk.cell 0;have q:=Ld (tY b m D Rv w f (by unfold maxLen;omega) (by omega));have p:=Ld j;clear h f j i u;refine(callsIn_wide (n:=6)).1 ?_;have s:Fence.wide.fn 153:=trivial;have t:Fence.wide.fn 152:=trivial;refine callsIn_of_wp func113 rfl trivial ?_ rfl;simp only[ntmps113,List.size_toArray,List.length_cons,List.length_nil,Nat.reduceAdd,Nat.reduceSub,Array.replicate_succ,Array.replicate_zero,List.push_toArray,List.append_toArray,List.nil_append,List.cons_append]
 gi_wp2_with (first
  |(gi_at_call 153;refine(xO _ _).mono ?_;rintro e w' ⟨rfl,rfl⟩)
  |(gi_at_call 152;refine q.out.mono ?_;rintro e w' ⟨v,ss,rfl,hS,d,k,r⟩))
 go_ret;have c:=hS.trans p.out.symm;have hl:ss.length=E.length:=by rw[c.length_eq,DC]
 have l:w'.ownsRow w.heap.size 9 1 v ss.length ((ss.mergeSort (fun x y=>decide (x≤y))).map encStr):=ownsRow_base_a d (by simp);have z:ss.mergeSort (fun x y=>decide (x≤y))=(gN E).mergeSort leB:=mergeSort_of_perm c;rw[hl,z]at l;exact⟨⟨v,rfl,l⟩,((Below.refl _ w).alloc (Nat.le_refl _) _).trans (r.mono (by simp))⟩
theorem BI{X:Nat→Prop}{w:World}{base g b m:Nat}{E:fi}(h:dl X w base g b m E)(i:m≤1000000)(k:E.length≤1000000):
    Calls prog 66 #[.pointer (some ⟨g,0,none⟩)] w fun e w'=>e=.returned (.int .i64 E.length)∧aa w w':=by
 have j:=Ld (ti h i);clear h i
 go_enter func66,ntmps66
 go_wp2_with fail
 refine j.out.mono ?_;rintro e l ⟨⟨v,rfl,hO⟩,d⟩;obtain⟨A,c,rfl,-,-,-,-⟩:=gx hO;have f:=Ld d;clear hO d
 go_wp2_with fail
 go_ret;exact⟨rfl,f.out⟩
abbrev CT:=List (List Int×List Int)
def cY(E:fi):CT:=E.map fun e=>(e.1,e.2.xs)
def kS(T:CT)(k:List Int):CT:=T.filter fun e=>decide (e.1≠k)
def pD(T:CT)(k v:List Int):CT:=kS T k++[(k,v)]
def doC(T:CT)(c:Ch):CT:=if c.d then kS T c.k.xs else pD T c.k.xs c.v.xs
def nY(T:CT)(L:List Ch):CT:=L.foldl doC T
theorem sU(E:fi)(k:List Int):cY (pJ E k)=kS (cY E) k:=by
 unfold cY pJ kS;rw[List.filter_map];rfl
theorem zm(E:fi)(k:List Int)(v:Fm):cY (sA E k v)=pD (cY E) k v.xs:=by
 unfold pD sA;rw[←sU];simp[cY]
theorem eH(E:fi):(cY E).length=E.length:=by simp[cY]
theorem vZ(T:CT)(L:List Ch)(c:Ch):nY T (L++[c])=doC (nY T L) c:=by simp[nY]
theorem Bo(T:CT)(k:List Int):(kS T k).length≤T.length:=List.length_filter_le _ _
theorem Dv(T:CT)(c:Ch):(doC T c).length≤T.length+1:=by
 unfold doC pD;have:=Bo T c.k.xs;split
 ·omega
 ·simp;omega
theorem dK{L:List Ch}(h:dg L=true):1≤L.length∧L.length≤600∧∀c∈L,1≤c.k.n∧c.k.n≤16∧c.v.n≤16384∧(c.d=true→c.v.n=0):=by
 unfold dg at h;simp only[Bool.and_eq_true,decide_eq_true_eq,List.all_eq_true]at h;obtain⟨⟨h1,h2⟩,j⟩:=h;refine⟨h1,h2,fun c k=>?_⟩;have:=j c k;unfold eE at this;simp only[Bool.and_eq_true,decide_eq_true_eq,Bool.not_eq_true',Bool.and_eq_false_iff]at this;obtain⟨⟨⟨a1,f⟩,i⟩,d⟩:=this;refine⟨a1,f,i,fun hd=>?_⟩;rcases d with d|d
 ·rw[hd]at d;cases d
 ·simp at d;omega
section
variable {X:Nat→Prop}{w w':World}{base g b m:Nat}{E:fi}
theorem dl.del(h:dl X w base g b m E){k:List Int}{f:Lit→Option Value}(q:aU k)(h1:∀xs,aU xs→f (key_l19 xs)=(E.lookup xs).map Fm.val)(h2:∀kl,(f kl).isSome=true→∃xs,aU xs∧kl=key_l19 xs)
    (l:aH w' prog 9 b m (kE f (key_l19 k) none)) (hF:Fr (fun j=>j=b) w w'):dl X w' base g b m (pJ E k):=by
 refine⟨h.blk.fr hF h.gne,⟨_,l,fun xs i=>?_,fun kl c=>?_⟩,zJ h.nd k,fun e n=>?_,h.gb,h.lb,fun j d=>⟨(h.xs j d).1,(h.xs j d).2.fr hF (fun e=>h.bX (e▸d))⟩⟩
 ·rw[oq]
  by_cases e:xs=k
  ·rw[if_pos e,e,gB (kl:=key_l19 k) trivial];rfl
  ·rw[if_neg e,eU (fun p=>e (nv i q p)),h1 xs i]
 ·by_cases e:kl=key_l19 k
  ·rw[e,gB (kl:=key_l19 k) trivial]at c
   cases c
  ·rw[eU e]at c;exact h2 kl c
 ·have:=h.el e (wG n);exact⟨this.1,this.2.1,this.2.2.1.fr hF (fun j d c=>h.bX (c▸d)),this.2.2.2⟩
theorem dl.put{Y:Nat→Prop}(h:dl X w base g b m E){k:List Int}{v:Fm}{f:Lit→Option Value}(l:aU k)(n:k.length≤16)(h1:∀xs,aU xs→f (key_l19 xs)=(E.lookup xs).map Fm.val)(h2:∀kl,(f kl).isSome=true→∃xs,aU xs∧kl=key_l19 xs)
    (s:aH w' prog 9 b (m+1) (kE f (key_l19 k) (some v.val))) (hF:Fr (fun j=>j=b) w w') (q:v.In Y w') (p:v.n≤16384) (t:∀j,Y j→base≤j∧aO 5 w' j):dl (fun j=>X j∨Y j) w' base g b (m+1) (sA E k v):=by
 refine⟨h.blk.fr hF h.gne,⟨_,s,fun xs r=>?_,fun kl d=>?_⟩,DH h.nd k v,fun e i=>?_,h.gb,h.lb,fun j c=>?_⟩
 ·rw[uN]
  by_cases e:xs=k
  ·rw[if_pos e,e,gB (kl:=key_l19 k) trivial];rfl
  ·rw[if_neg e,eU (fun u=>e (nv r l u)),h1 xs r]
 ·by_cases e:kl=key_l19 k
  ·exact⟨k,l,e⟩
  ·rw[eU e]at d;exact h2 kl d
 ·rcases BM i with i | rfl
  ·have:=h.el e i;exact⟨this.1,this.2.1,⟨(this.2.2.1.rd.fr hF (fun j c d=>h.bX (d▸c))).imp fun _=>.inl,this.2.2.1.byt⟩,this.2.2.2⟩
  ·exact⟨l,n,⟨q.rd.imp fun _=>.inr,q.byt⟩,p⟩
 ·rcases c with c | c
  ·exact⟨(h.xs j c).1,(h.xs j c).2.fr hF (fun e=>h.bX (e▸c))⟩
  ·exact t j c
end
theorem yx{P:Program}{w:World}{ops:Array Oper}{o:Oper}{a:Act}{Q:Exit→Act→World→Prop}{b n:Nat}{f:Lit→Option Value}{k e t:TypeId}{K:Act→World→Prop}{F:Prop}(q:aH w P k b n f)(l:Keyed P k)(ht:P.underlying t=some (.map k e))(r:o.guard=none)(m x:Operand)
    (i:o.op=Op.call {callee:=Callee.builtin Builtin.delete,args:= #[m,x],argTypes:= #[t,k]})
    (s:a.eval m=.map (some b)) (key_l19:Value) (kl:Lit) (v:a.eval x=key_l19) (c:keyOf P k key_l19=some kl)
    (p:∀w',aH w' P k b n (kE f kl none)→Fr (fun j=>j=b) w w'→K (a.put o.dst (.tuple #[])) w'):
    if Region.wanted o (yielded ops a.tmps)=true then Oper.wp P o a w K Q else F:=by
 have u:Region.wanted o (yielded ops a.tmps)=true:=by simp[Region.wanted,r]
 rw[if_pos u];obtain⟨w',d,y,z⟩:=q.drop l ht c o.type;unfold Oper.wp;simp[execOp,i,resolve,invoke,builtin,s,v,d,Result.andThen];exact p w' y z
theorem kq{w:World}{base e s n k:Nat}{v:Value}{xs:List Value}(h:w.ownsRow base e s v n xs)(c:v.ownBlock=some k):aO e w k:=by
 rcases h.2 with⟨rfl,_⟩|⟨g',cap,cur,rfl,_,d,_⟩
 ·simp[Value.ownBlock]at c
 ·have:g'=k:=by simpa [Value.ownBlock] using c
  subst this;exact⟨_,_,d⟩
set_option maxHeartbeats 8000000 in
theorem pR{X P:Nat→Prop}{w:World}{base g b m:Nat}{E:fi}(h:dl X w base g b m E)(A:Option Addr)(n c:Nat)(L:List Ch)(hR:Rd P w 3 A n (L.flatMap Ch.cells))(hL:L.length=n)(i9:∀c∈L,c.In P w)(hP:∀k,P k→k≠b)(c7:dg L=true)(hm:m≤1000000):
    Calls prog 29 #[.pointer (some ⟨g,0,none⟩),.slice A n c] w fun e w'=>e=.returned .nilIface∧∃(Z:Nat→Prop) (J:fi),dl Z w' base g b (m+n) J∧cY J=nY (cY E) L∧Fr (fun k=>k=b) w w'∧∀k,Z k→X k∨w.heap.size≤k:=by
 obtain⟨j8,j9,c3⟩:=dK c7;have HC:=Ld (jj A n c L w hR hL (by omega) (fun c hc=>by have:=c3 c hc;unfold maxLen;omega));rw[c7]at HC;have H:=Ld h;have HR:=Ld hR;have HL:=Ld hL;have HI:=Ld i9;have HP:=Ld hP;have j1:=Ld c3;have k6:n≤600:=by omega
 clear h hR hL i9 hP c7 j8 j9 c3
 go_enter func29,ntmps29
 go_wp2_with fail
 refine HC.out.mono ?_;rintro e w1 ⟨rfl,R⟩;have b3:=Ld R;have H1:=Ld (H.out.new R);have j5:=Ld (R.rd HR.out);have j2:Hid (∀c∈L,c.In P w1):=Ld (fun c hc=>(HI.out c hc).new b3.out);clear R HC
 go_wp2_with fail
 go_loopw [18] (fun ix wr=>∃(j:Nat) (Z:Nat→Prop) (J:fi),j≤n∧ix=.int .i64 j∧Hid (dl Z wr base g b (m+j) J∧cY J=nY (cY E) (L.take j)∧Fr (fun k=>k=b) w1 wr∧∀k,Z k→X k∨w1.heap.size≤k)) (fun ix _=>n-(intOf ix).toNat)
 case atStart=>exact⟨0,X,E,Nat.zero_le _,rfl,Ld ⟨H1.out,rfl,Fr.refl _ _,fun _=>.inl⟩⟩
 case round=>
  obtain⟨j,Z,J,hj,rfl,C⟩:=hrel
  by_cases k':j<n
  ·as_aux_lemma=>
   obtain⟨ga,o,hl,rfl,-,-,U⟩:=iD (f:=Ch.cells) (L:=L) (fun _=>rfl) (by omega) (j5.out.fr C.out.2.2.1 (fun k q hs=>HP.out k q hs)) k';have c0:wr.cell? ⟨ga,o+j*3,none⟩=some (.slice L[j].k.A L[j].k.n L[j].k.c):=U 0 _ rfl;have c1:wr.cell? ⟨ga,o+j*3+1,none⟩=some (.slice L[j].v.A L[j].v.n L[j].v.c):=U 1 _ rfl;have c2:wr.cell? ⟨ga,o+j*3+2,none⟩=some (.bool L[j].d):=U 2 _ rfl;have T:=j1.out L[j] (List.getElem_mem _);have z:=j2.out L[j] (List.getElem_mem _);have c9:L.take (j+1)=L.take j++[L[j]]:=List.take_succ_eq_append_getElem hl;generalize L[j]=x at c0 c1 c2 T z c9;obtain⟨⟨I,D,Y,G⟩,⟨vA,y,vc,vs⟩,d⟩:=x;dsimp only at c0 c1 c2 T;have k4:(0:Int)≤(j:Int):=by omega
   have k5:(j:Int)<(n:Int):=by omega
   have c5:Fm.In P wr ⟨I,D,Y,G⟩:=z.k.fr C.out.2.2.1 (fun k q hs=>HP.out k q hs);have j0:Fm.In P wr ⟨vA,y,vc,vs⟩:=z.v.fr C.out.2.2.1 (fun k q hs=>HP.out k q hs);have N:=Ld c5;have g8:=Ld j0;have g7:=Ld c9;have j':G.length=D:=c5.len;have b1:=Ld T;have g5:=Ld j';clear U hl T z c9 c5 j0 j'
   go_upto_region 8 with fail
   obtain⟨r,V⟩:=nM (wr.alloc (.cells #[.slice I D Y,.slice vA y vc,.bool d] 92):World);obtain⟨b6,c'⟩:=nM (wr.heap.size);have u:Hid (aa wr r):=Ld (by rw[V];exact aa.al (aa.refl _) _);have b0:Hid (ab r b6 92 #[.slice I D Y,.slice vA y vc,.bool d]):=Ld (by rw[V,c'];exact ab.new _ _ _);rw[←V,←c'];clear V c' c0 c1 c2;have HT:=Ld (C.out.1.new u.out);have a0:r.cell? ⟨b6,0,none⟩=some (.slice I D Y):=b0.out.cell 0;have a1:r.cell? ⟨b6,1,none⟩=some (.slice vA y vc):=b0.out.cell 1;have a2:r.cell? ⟨b6,2,none⟩=some (.bool d):=b0.out.cell 2;have g0:r.cell? ⟨g,0,none⟩=some (.map (some b)):=HT.out.blk.cell 0;have i5:=eh (c:=Y) (w:=r.drew) (show Rd P r.drew 1 I D (am G)from(aa.dr u.out).rd N.out.rd);obtain⟨f,hM,i6,i7⟩:=HT.out.map;have c4:=uK (xs:=G) (by have:=b1.out.2.1;have:=g5.out;omega);obtain⟨st,c8⟩:=nM (strOfNums G);rw[←c8]at i5 c4;have HM:Hid (aH r.drew prog 9 b (m+j) f):=Ld hM;have g6:=Ld c4;have d':=Ld i6;have g3:=Ld i7;have b8:=Ld c8;clear c8 hM c4 i6 i7
   cases d
   ·have k2:y≤16384:=b1.out.2.2.1
    go_wp2_with fail
    have p:∀w',aa r w'→(fun w'=>w'.cell? ⟨g,0,none⟩=some (.map (some b))∧w'.cell? ⟨b6,0,none⟩=some (.slice I D Y)∧w'.cell? ⟨b6,1,none⟩=some (.slice vA y vc)∧Rd P w' 1 I D (am G)) w':=fun w' hN=>⟨hN.cell_ g0,hN.cell_ a0,hN.cell_ a1,(u.out.tr hN).rd N.out.rd⟩
    clear i5;refine iz (fun w'=>w'.cell? ⟨g,0,none⟩=some (.map (some b))∧w'.cell? ⟨b6,0,none⟩=some (.slice I D Y)∧w'.cell? ⟨b6,1,none⟩=some (.slice vA y vc)∧Rd P w' 1 I D (am G)) 11 (by kernel_rfl) ?_;refine aF (i:=0) (oi:=⟨_,_,_,_,_,_⟩) (v:=.pointer (some ⟨g,0,none⟩)) rfl (by kernel_rfl) (by kernel_rfl) (by kernel_rfl) (by kernel_rfl) (fun _ _ _ h=>h) (Or.inl ⟨by rfl,fun w l=>by obtain⟨s1,s2,s3,s⟩:=l;clear s;go_simp⟩) (p _ (aa.dr (aa.refl _))) ?_
    try simp only[Act.put,bK,bM,bO]
    refine aF (i:=1) (oi:=⟨_,_,_,_,_,_⟩) (v:=.pointer (some ⟨g,0,none⟩)) rfl (by kernel_rfl) (by kernel_rfl) (by kernel_rfl) (by kernel_rfl) (fun _ _ _ h=>h) (Or.inl ⟨by rfl,fun w l=>by obtain⟨s1,s2,s3,s⟩:=l;clear s;go_simp⟩) (p _ (aa.dr (aa.refl _))) ?_
    try simp only[Act.put,bK,bM,bO]
    refine aF (i:=2) (oi:=⟨_,_,_,_,_,_⟩) (v:=.pointer (some ⟨g,0,none⟩)) rfl (by kernel_rfl) (by kernel_rfl) (by kernel_rfl) (by kernel_rfl) (fun _ _ _ h=>h) (Or.inl ⟨by rfl,fun w l=>by obtain⟨s1,s2,s3,s⟩:=l;clear s;go_simp⟩) (p _ (aa.dr (aa.refl _))) ?_
    try simp only[Act.put,bK,bM,bO]
    refine aF (i:=3) (oi:=⟨_,_,_,_,_,_⟩) (v:=.map (some b)) rfl (by kernel_rfl) (by kernel_rfl) (by kernel_rfl) (by kernel_rfl) (fun _ _ _ h=>h) (Or.inl ⟨by rfl,fun w l=>by obtain⟨s1,s2,s3,s⟩:=l;clear s;go_simp⟩) (p _ (aa.dr (aa.refl _))) ?_
    try simp only[Act.put,bK,bM,bO]
    refine aF (i:=4) (oi:=⟨_,_,_,_,_,_⟩) (v:=.pointer (some ⟨b6,0,none⟩)) rfl (by kernel_rfl) (by kernel_rfl) (by kernel_rfl) (by kernel_rfl) (fun _ _ _ h=>h) (Or.inl ⟨by rfl,fun w l=>by obtain⟨s1,s2,s3,s⟩:=l;clear s;go_simp⟩) (p _ (aa.dr (aa.refl _))) ?_
    try simp only[Act.put,bK,bM,bO]
    refine aF (i:=5) (oi:=⟨_,_,_,_,_,_⟩) (v:=.slice I D Y) rfl (by kernel_rfl) (by kernel_rfl) (by kernel_rfl) (by kernel_rfl) (fun _ _ _ h=>h) (Or.inl ⟨by rfl,fun w l=>by obtain⟨s1,s2,s3,s⟩:=l;clear s;go_simp⟩) (p _ (aa.dr (aa.refl _))) ?_
    try simp only[Act.put,bK,bM,bO]
    refine aF (i:=6) (oi:=⟨_,_,_,_,_,_⟩) (v:=.string st) rfl (by kernel_rfl) (by kernel_rfl) (by kernel_rfl) (by kernel_rfl) (fun _ _ _ h=>h) (Or.inl ⟨by rfl,fun w l=>by have s:=eh (c:=Y) l.2.2.2;rw[←b8.out]at s;go_simp⟩) (p _ (aa.dr (aa.refl _))) ?_
    try simp only[Act.put,bK,bM,bO]
    refine aF (i:=8) (oi:=⟨_,_,_,_,_,_⟩) (v:=.pointer (some ⟨b6,1,none⟩)) rfl (by kernel_rfl) (by kernel_rfl) (by kernel_rfl) (by kernel_rfl) (fun _ _ _ h=>h) (Or.inl ⟨by rfl,fun w l=>by obtain⟨s1,s2,s3,s⟩:=l;clear s;go_simp⟩) (p _ (aa.dr (aa.refl _))) ?_
    try simp only[Act.put,bK,bM,bO]
    refine aF (i:=9) (oi:=⟨_,_,_,_,_,_⟩) (v:=.slice vA y vc) rfl (by kernel_rfl) (by kernel_rfl) (by kernel_rfl) (by kernel_rfl) (fun _ _ _ h=>h) (Or.inl ⟨by rfl,fun w l=>by obtain⟨s1,s2,s3,s⟩:=l;clear s;go_simp⟩) (p _ (aa.dr (aa.refl _))) ?_
    try simp only[Act.put,bK,bM,bO]
    refine aC (rs:=[7]) (by kernel_rfl) (by simp) (cX.cons (i:=7) (o:=.mk ..) rfl (fun K hK=>?_) cX.nil);go_simp
    try simp only[Act.put,bK,bM,bO]
    refine hK.out _ _ (fun _=>p _ (by repeat(first|exact aa.refl _|refine aa.dr ?_|refine aa.al ?_ _))) ?_;refine aC (rs:=[10]) (by kernel_rfl) (by simp) (cX.cons (i:=10) (o:=.mk ..) rfl (fun K hK=>?_) cX.nil);refine cq jJ _ (by rfl) (.tmp 38) (.tmp 40) (by rfl) r.heap.size (.slice (some ⟨r.heap.size,0,none⟩) 0 0) 0 [] (by rfl) (eA (ab.new r.drew 5 #[]) (Nat.le_refl _)) vA y vc (am vs) (by rfl) ((aa.al (aa.dr u.out) _).rd g8.out.rd) (aM vs) (by unfold maxLen;omega) (by omega) (by simp) ?_;intro A5 d5 w5 b9 i' j6;have i3:aa r w5:=(aa.al (aa.dr (aa.refl r)) _).fr i' (by intro k q;simp[Value.ownBlock]at q;omega);rw[Nat.zero_add,List.nil_append]at b9;rw[Nat.zero_add];have O:=Ld i3;have b7:=Ld b9;clear i3 b9 i' j6
    try simp only[Act.put,bK,bM,bO]
    refine hK.out _ _ (fun _=>p _ (aa.tr (aa.refl _) O.out)) ?_;refine aC (rs:=[11]) (by kernel_rfl) (by simp) (cX.cons (i:=11) (o:=.mk ..) rfl (fun K hK=>?_) cX.nil);obtain⟨w6,k1,i2,i0⟩:=aH.store (t:=121) ((show aH w5 prog 9 b (m+j) f from aH.fr (w:=r) HM.out (O.out.toFr ia) (fun x=>x))) zC underlying121 (by unfold maxLen;omega) g6.out (.slice A5 y d5);have j4:=Ld i2;have M:=Ld i0;clear i2 i0;go_simp
    try simp only[Act.put,bK,bM,bO]
    refine hK.out _ _ (fun h=>absurd rfl h) ?_;refine fc (by kernel_rfl) ?_ _
    go_wp2_with fail
    go_roundw
    case rel=>
     have j7:=HT.out.new O.out;have c6:∀k,(Value.slice A5 y d5).ownBlock=some k→r.heap.size≤k∧k<w5.heap.size:=fun k q=>ak b7.out k q
     have i4:∀k,(Value.slice A5 y d5).ownBlock=some k→k≠b:=fun k q=>by
      have h1:=(c6 k q).1;have h2:=HT.out.blt;omega
     have hv:Fm.In (fun k=>(Value.slice A5 y d5).ownBlock=some k) w6 ⟨A5,y,d5,vs⟩:=⟨(Rd.own b7.out rfl).fr M.out (fun k q e=>i4 k q e),g8.out.byt⟩
     have b':base≤r.heap.size:=Nat.le_trans HT.out.lb (Nat.le_of_lt HT.out.blt);have ht:=j7.put N.out.byt (by show G.length≤16;have k3:D≤16:=b1.out.2.1;have:=g5.out;omega) d'.out g3.out j4.out M.out hv (by exact k2) (fun k q=>⟨Nat.le_trans b' (c6 k q).1,(kq b7.out q).fr M.out (fun e=>i4 k q e)⟩);refine⟨j+1,_,sA J G ⟨A5,y,d5,vs⟩,by omega,by go_num,Ld ⟨ht,?_,C.out.2.2.1.trans ((u.out.toFr _).trans ((O.out.toFr _).trans M.out)),?_⟩⟩
     ·rw[zm,C.out.2.1,g7.out,vZ];rfl
     ·rintro k (q|q)
      ·exact C.out.2.2.2 k q
      ·have h1:=(c6 k q).1;have h2:=u.out.size;have h3:=C.out.2.2.1.size;exact .inr (by omega)
    case measure=>simp[intOf];omega
   ·go_wp2_with fail
    go_region_law (refine yx HM.out zC underlying121 rfl (.tmp 27) (.tmp 30) rfl (by simp[Act.eval,Act.put]) (.string st) (key_l19 G) (by simp[Act.eval,Act.put]) g6.out ?_;intro w3 i1 g9)
    all_goals
     have j3:=Ld i1;have g4:Hid (Fr (fun k=>k=b) r w3):=Ld (Fr.ofDrew g9);clear i1 g9
     go_wp2_with fail
     go_roundw
     case rel=>
      refine⟨j+1,Z,pJ J G,by omega,by go_num,Ld ⟨?_,?_,C.out.2.2.1.trans ((u.out.toFr _).trans g4.out),C.out.2.2.2⟩⟩
      ·have ht:=HT.out.del N.out.byt d'.out g3.out j3.out g4.out;obtain⟨f',k0,r'⟩:=ht.map;exact⟨ht.blk,⟨f',k0.mono (by omega),r'⟩,ht.nd,ht.el,ht.gb,ht.lb,ht.xs⟩
      ·rw[sU,C.out.2.1,g7.out,vZ];rfl
     case measure=>simp[intOf];omega
  ·as_aux_lemma=>
   obtain rfl:j=n:=by omega
   go_wp2_with fail
   go_ret;obtain⟨h1,h2,h3,h4⟩:=C.out;rw[List.take_of_length_le (by rw[HL.out];exact Nat.le_refl _)]at h2;exact⟨rfl,Z,J,h1,h2,(b3.out.toFr _).trans h3,fun k q=>(h4 k q).imp id (fun e=>Nat.le_trans b3.out.size e)⟩
attribute [local go_sem] Oper.semAt_some
theorem qZ (v:Option Addr) (w:World):Calls prog 67 #[.pointer v] w fun e w'=>e= .returned (.func (.func 114) #[] #[.pointer (some ⟨w.heap.size,0,none⟩)])∧w'=w.alloc (.cells #[.pointer v] 42):=by
 go_enter func67,ntmps67
 go_wp2_with fail
 go_ret;exact⟨rfl,rfl⟩
def CP(x:List Int×Fm):Array Value:= #[.string (strOfNums x.1),x.2.val]
attribute [local go_sem] Oper.semAt_some
def sb(xs:List Int):List UInt8:=(strOfNums xs).data.toList
theorem Dw(xs:List Int):encStr (sb xs)=.string (strOfNums xs):=by
 unfold sb;simp[encStr]
def st(E:fi):fi:=E.mergeSort (fun a b=>leB (sb a.1) (sb b.1))
def aZ(T:CT):CT:=T.mergeSort (fun a b=>leB (sb a.1) (sb b.1))
theorem vX(E:fi):cY (st E)=aZ (cY E):=by
 unfold cY st aZ;exact List.map_mergeSort (fun a _ b _=>rfl)
theorem sr(E:fi):(st E).Perm E:=List.mergeSort_perm E _
theorem sq(E:fi):(st E).length=E.length:=(sr E).length_eq
theorem Ee{E:fi}{e:List Int×Fm}(h:e∈st E):e∈E:=(sr E).mem_iff.1 h
def rF(E:fi):List Value:=(st E).map fun e=>.string (strOfNums e.1)
theorem xI(E:fi):((gN E).mergeSort leB).map encStr=rF E:=by
 have h:(gN E).mergeSort leB=(st E).map (fun e=>sb e.1):=by
  unfold gN st;exact(List.map_mergeSort (f:=fun e:List Int×Fm=>sb e.1) (s:=leB) (fun a _ b _=>rfl)).symm
 rw[h,List.map_map];unfold rF;exact List.map_congr_left fun e _=>Dw e.1
theorem dw{p:Nat→Prop}{w:World}{s n:Nat}{A:Option Addr}{xs:List Value}(h:Rd p w s A n xs):Rd (fun b=>b<w.heap.size) w s A n xs:=
 ⟨h.1,fun i=>by obtain⟨d,e,_,c,f⟩:=h.2 i;exact⟨d,e,c,c,f⟩⟩
def Kk(B:Nat)(S:Nat→Prop)(W W':World):Prop:=Fr (fun j=>S j∨(B≤j∧¬aO 9 W j)) W W'
section
variable {B:Nat}{S:Nat→Prop}{A W W':World}
theorem Kk.tr(h:Kk B S A W)(k:Kk B S W W'):Kk B S A W':=by
 refine⟨k.os.trans h.os,k.tape.trans h.tape,k.output.trans h.output,Nat.le_trans h.size k.size,fun j d f=>?_⟩;have e:=h.block j d f;refine(k.block j (Nat.lt_of_lt_of_le d h.size) (fun c=>f ?_)).trans e;rcases c with c|⟨c,ht⟩
 ·exact .inl c
 ·refine .inr ⟨c,fun hi=>ht ?_⟩;obtain⟨cs,fz,i⟩:=hi;exact⟨cs,fz,e.trans i⟩
theorem Kk.puts(h:et B W W'):Kk B S W W':=by
 have j:∀{k:Nat} {o:Obj},W.heap[k]?=some o→o.isCells=true→W'.heap[k]?=some o:=fun h1 h2=>h.keep h1 h2
 obtain⟨l,n,o',f,hl,d,rfl⟩:=h;refine⟨rfl,rfl,rfl,by simp,fun k _ i=>World.putObj_heap_other fun e=>i (.inr ⟨e▸f,?_⟩)⟩;rintro⟨cs,fz,c⟩;rw[e,hl]at c;injection c with c;rw[c]at d
 cases d
theorem Kk.fr(h:Fr S W W'):Kk B S W W':=h.mono fun _ _ x=>.inl x
end
def sI(B:Nat)(x:List Int×Fm)(W:World):Prop:=W.ownsRow B 5 1 x.2.val x.2.n (am x.2.xs)∧aU x.2.xs∧x.2.n≤16384∧aU x.1∧x.1.length≤16
theorem sI.puts{B:Nat}{x:List Int×Fm}{W W':World}(h:sI B x W)(c:et B W W'):sI B x W':=⟨c.own h.1,h.2⟩
def En(E:fi)(pre:List (List Int×Fm))(x:List Int×Fm):Prop:=∃e,(st E)[pre.length]?=some e∧x.1=e.1∧x.2.xs=e.2.xs∧x.2.n=e.2.n
theorem FD(w:World):(zeroValue 33).run prog w=.ok (.slice none 0 0) w:=by
 first|exact zeroValue33 w|simp[zeroValue33,go_sem]|kernel_rfl
theorem mo{X:Nat→Prop}{w:World}{base g b m:Nat}{E:fi}(h:dl X w base g b m E)(hm:m≤1000000)(hE:E.length≤1000000)(S:Nat→Prop)(r:Nat)(O:ab w r 42 #[.pointer (some ⟨g,0,none⟩)])
    (hS:∀j,S j→j<w.heap.size∧j≠g∧j≠b∧¬X j∧j≠r):
    ul (En E) prog 114 #[.pointer (some ⟨r,0,none⟩)] CP (sI w.heap.size) (Kk w.heap.size S) (fun xs=>xs.map (fun x=>(x.1,x.2.xs))=cY (st E)) 1000001 w:=by
 have L:∀j,X j→j<w.heap.size:=fun j hj=>by
  obtain⟨_,cs,fz,G⟩:=h.xs j hj;exact(Array.getElem?_eq_some_iff.1 G).1
 have c0:=h.blk.lt;have c':=h.blt;have D:=O.lt;obtain⟨B,hB⟩:=nM (w.heap.size);rw[←hB]at hS L c0 c' D⊢
 have d:∀W W',Kk B S W W'→(dl X W base g b m E∧ab W r 42 #[.pointer (some ⟨g,0,none⟩)])→(dl X W' base g b m E∧ab W' r 42 #[.pointer (some ⟨g,0,none⟩)]):=fun W W' R h=>
  ⟨h.1.fr R (fun z=>z.elim (fun x=>(hS _ x).2.1 rfl) (fun x=>by omega)) (fun z=>z.elim (fun x=>(hS _ x).2.2.1 rfl) (fun x=>by omega)) (fun k z G=>z.elim (fun x=>(hS _ x).2.2.2.1 G) (fun x=>by have:=L k G;omega)),
   h.2.fr R (fun z=>z.elim (fun x=>(hS _ x).2.2.2.2 rfl) (fun x=>by omega))⟩
 have i:∀(W W':World) (bs n:Nat) (v:Value) (xs:List Value),Kk B S W W'→B≤bs→W.ownsRow bs 9 1 v n xs→W'.ownsRow bs 9 1 v n xs:=fun W W' bs n v xs R d' ho=>
  bD ho R (fun k hv z=>z.elim (fun x=>by have:=(hS k x).1;have:=(ak ho k hv).1;omega) (fun x=>x.2 (kq ho hv)))
 have d:=Ld d;have i:=Ld i;intro l J W hW hJ hY h0;refine callsIn_wide.2 ?_;have q:Hid (dl X W base g b m E∧ab W r 42 #[.pointer (some ⟨g,0,none⟩)]):=Ld ⟨h.new hW,hW.blk O⟩;have V:Hid (B≤W.heap.size):=Ld (by rw[hB];exact hW.size);have HY:=Ld hY;have HJ:=Ld hJ;have H0:=Ld h0;have i1:W.cell? ⟨r,0,none⟩=some (.pointer (some ⟨g,0,none⟩)):=q.out.2.cell 0;have HK:=Ld (ti q.out.1 hm);clear hY hJ hW O h0 h hS L c0 c' D hB;show Calls prog 114 #[.func (.yield l) #[] #[],.pointer (some ⟨r,0,none⟩)] W _
 go_enter func114,ntmps114
 go_wp2_with fail
 refine HK.out.mono ?_;rintro e w1 ⟨⟨v,rfl,hO⟩,y⟩;rw[xI]at hO;obtain⟨A1,c1,rfl,-,-,-,-⟩:=gx hO;generalize hn:E.length=n at*;have b0:=Ld hO;have Y:=Ld (HJ.out _ _ _ H0.out y);have b3:Hid (dl X w1 base g b m E∧ab w1 r 42 #[.pointer (some ⟨g,0,none⟩)]):=Ld ⟨q.out.1.new y,y.blk q.out.2⟩;clear hO y HK q i1
 go_wp2_with fail
 go_loopw [8] (fun ix wr=>∃(k:Nat) (pre:List (List Int×Fm)),k≤n∧ix=.int .i64 k∧pre.map (fun x=>(x.1,x.2.xs))=(cY (st E)).take k∧Hid (J pre wr)∧Hid (wr.ownsRow W.heap.size 9 1 (.slice A1 n c1) n (rF E))∧Hid (dl X wr base g b m E∧ab wr r 42 #[.pointer (some ⟨g,0,none⟩)])) (fun ix _=>n-(intOf ix).toNat)
 case atStart=>exact⟨0,[],Nat.zero_le _,rfl,by simp,Y,b0,b3⟩
 case round=>
  obtain⟨k,pre,R,rfl,t,Z,u,c⟩:=hrel;clear Y b0 b3 H0
  by_cases g5:k<n
  ·obtain ⟨bA,cA,he,-,-⟩:=dh u.out (by omega);injection he with c6 f' c7;subst c6 c7;have c3:k<(st E).length:=by rw [sq];omega
   obtain⟨x,G⟩:=nM ((st E)[k]);have U:x∈E:=Ee (by rw[G];exact List.getElem_mem _);have I:Hid ((st E)[k]?=some x):=Ld (by rw[List.getElem?_eq_getElem c3,G])
   have s:wr.cell? ⟨bA,k,none⟩=some (.string (strOfNums x.1)):=by
    obtain⟨g',o',hA,-,-,hq⟩:=(Rd.own u.out rfl).out (by omega) (by omega);injection hA with hA;injection hA with e1 e2 e3;subst e1 e2;have:=hq k _ (by unfold rF;rw[List.getElem?_map,I.out];rfl)
    rwa[Nat.zero_add]at this
   have T:=c.out.1.el x U
   have c4:(Instr.lookup 121 (.map (some b)) (.string (strOfNums x.1)) false).run prog wr=.ok x.2.val wr:=by
    obtain⟨f,hM,h1,-⟩:=c.out.1.map;have:=(hM.look zC underlying121 (FD wr) (uK (xs:=x.1) (by omega))).2;rw[this,h1 x.1 T.1,ou c.out.1.nd U];rfl
   have j1:wr.cell? ⟨r,0,none⟩=some (.pointer (some ⟨g,0,none⟩)):=c.out.2.cell 0;have j2:wr.cell? ⟨g,0,none⟩=some (.map (some b)):=c.out.1.blk.cell 0;have p:=Ld T;have g3:(0:Int)≤(k:Int):=by omega
   have g4:(k:Int)<(n:Int):=by omega
   clear G U c3 T;obtain⟨xk,xA,xn,xc,xs⟩:=x;simp only[Fm.val]at c4;dsimp only at s c4
   go_upto_region 3 with fail
   refine(wpIn_wide (n:=3)).1 ?_
   gi_wp2
   refine⟨trivial,?_⟩
   have c8:pre.length=k:=by
    have:=congrArg List.length t;rw[List.length_map,List.length_take,eH,sq]at this;omega
   refine(callsIn_wide.2 (nN xA xn xc xs wr (dw p.out.2.2.1.rd) (by have:=p.out.2.2.2;omega))).mono ?_;rintro e w2 ⟨⟨A2,c2,rfl,N⟩,M⟩
   have b9:B≤wr.heap.size:=by
    have h1:=(ak u.out bA (by simp[Value.ownBlock]))
    have:=V.out;omega
   have C:=iR (b:=B) N (fun k R=>by have:=(ak N k R).1;omega);obtain⟨fn,tmps,c9,bo,hy,hR⟩:=HY.out pre (xk,⟨A2,xn,c2,xs⟩) w2 (by omega) (HJ.out _ _ _ Z.out M) ⟨C,p.out.2.2.1.byt,p.out.2.2.2,p.out.1,p.out.2.1⟩ ⟨(xk,⟨xA,xn,xc,xs⟩),by rw[c8];exact I.out,rfl,rfl,rfl⟩;simp only[Fm.val,CP]at hy;have H:Hid (aa wr w2):=Ld M;have HR:=Ld hR;clear N C M hR
   gi_wp2
   refine HR.out.mono ?_;rintro e w3 ⟨rfl,b7,b8⟩;have c5:=Ld b7;have b':=Ld b8;clear b7 b8 HR hy s
   gi_wp2
   try go_wp2_with fail
   go_roundw
   case rel=>
    refine⟨k+1,pre++[(xk,⟨A2,xn,c2,xs⟩)],by omega,by go_num,?_,c5,Ld (i.out _ _ _ _ _ _ b'.out V.out (aa.own H.out u.out)),Ld (d.out _ _ b'.out ⟨c.out.1.new H.out,H.out.blk c.out.2⟩)⟩;rw[List.map_append,t,List.take_add_one];unfold cY;rw[List.getElem?_map,I.out];rfl
   case measure=>simp[intOf];omega
  ·as_aux_lemma=>
    obtain rfl:k=n:=by omega
    go_wp2_with fail
    go_end0
    exact⟨⟨_,rfl⟩,pre,by rw[t,←hn,List.take_of_length_le (by rw[eH,sq];omega)],Z.out⟩
theorem uO(b n:Nat)(f:Lit→Option Value)(w:World)(h:aH w prog 9 b n f):
    Calls prog 69 #[.map (some b)] w fun e w'=>e=.returned (.map (some w.heap.size))∧aH w' prog 9 w.heap.size n f∧aa w w':=by
 obtain⟨o,c,d⟩:=aH.cloned (t:=121) h;have i:=Ld d;have j:=fun w=>run_eql_map_nil_sl (P:=prog) w 121 _ _ (some b) underlying121
 clear d h
 go_enter func69,ntmps69
 go_wp2
 rw[run_callFunc_extern func115 (by kernel_rfl) (by kernel_rfl) (by kernel_rfl) (e:=Extern.MapsClone.clone) (by kernel_rfl),c];simp only[Result.andThen];rw[Oper.upon_value]
 go_wp2
 rw[run_typeAssert_map_sl _ 121 20 _ _ _ underlying121];simp only[Result.andThen];rw[Oper.upon_value]
 go_wp2
 go_ret;exact⟨rfl,i.out,aa.al (aa.refl _) _⟩
theorem ro{X:Nat→Prop}{w:World}{base g b m:Nat}{E:fi}(h:dl X w base g b m E)(d:base≤w.heap.size):
    Calls prog 28 #[.pointer (some ⟨g,0,none⟩)] w fun e w'=>∃g' p,e=.returned (.pointer (some ⟨g',0,none⟩))∧dl X w' base g' p m E∧aa w w'∧w.heap.size≤g'∧w.heap.size≤p:=by
 obtain⟨f,q,h1,h2⟩:=h.map;have H:=Ld h;have y:w.cell? ⟨g,0,none⟩=some (.map (some b)):=h.blk.cell 0;have n:=Ld (uO b m f w q);clear h q
 go_enter func28,ntmps28
 go_wp2_with fail
 refine n.out.mono ?_;rintro e v ⟨rfl,i,j⟩;have l:=Ld i;have c:=Ld j;clear i j n
 go_wp2_with fail
 go_ret;have u:=c.out.size;refine⟨v.heap.size,w.heap.size,rfl,⟨ab.new _ _ _,⟨f,l.out.alloc _,h1,h2⟩,H.out.nd,fun e t=>?_,by omega,d,fun k r=>?_⟩,aa.al c.out _,u,Nat.le_refl _⟩
 ·have:=H.out.el e t;have s:=aa.al c.out (.cells #[.map (some w.heap.size)] 123);exact⟨this.1,this.2.1,⟨s.rd this.2.2.1.rd,this.2.2.1.byt⟩,this.2.2.2⟩
 ·exact⟨(H.out.xs k r).1,(H.out.xs k r).2.fr ((aa.al c.out (.cells #[.map (some w.heap.size)] 123)).toFr ia) (fun x=>x)⟩
def jz(E:fi)(k:List Int):Fm:=(E.lookup k).getD ⟨none,0,0,[]⟩
theorem th{X q:Nat→Prop}{w:World}{base g b m:Nat}{E:fi}(h:dl X w base g b m E)(A:Option Addr)(n c:Nat)(xs:List Int)(y:Rd q w 1 A n (am xs))(I:aU xs)(V:n≤1000000):
    Calls prog 50 #[.pointer (some ⟨g,0,none⟩),.slice A n c] w fun e w'=>∃G H,e=.returned (.tuple #[.slice G (jz E xs).n H,.bool (E.lookup xs).isSome])∧w'.ownsRow w.heap.size 5 1 (.slice G (jz E xs).n H) (jz E xs).n (am (jz E xs).xs)∧aa w w':=by
 have M:xs.length=n:=by have:=y.1;rw[ah]at this;omega
 have j:=uK (xs:=xs) (by omega);have C:=fun q=>eh (c:=c) (w:=w.drewN q) y
 have U:w.cell? ⟨g,0,none⟩=some (.map (some b)):=h.blk.cell 0
 have i:(jz E xs).n≤1000000∧Rd X w 1 (jz E xs).A (jz E xs).n (am (jz E xs).xs):=by
  unfold jz
  cases hl:E.lookup xs with
  |none=>exact⟨by simp,⟨rfl,fun h=>absurd h (by simp)⟩⟩
  |some v=>have:=h.el _ (ot hl);exact⟨by have J:=this.2.2.2;dsimp only at J;show v.n≤1000000;omega,this.2.2.1.rd⟩
 have d:∀q,(Instr.lookup 121 (.map (some b)) (.string (strOfNums xs)) true).run prog (w.drewN q)=.ok (.tuple #[(jz E xs).val,.bool (E.lookup xs).isSome]) (w.drewN q):=fun q=>by
  obtain⟨f,u,h1,-⟩:=h.map;have L:aH (w.drewN q) prog 9 b m f:=u;have:=(L.look zC underlying121 (z:=.slice none 0 0) (FD _) j).1;rw[h1 xs I]at this;rw[this];unfold jz
  cases E.lookup xs<;>rfl
 obtain⟨i,p⟩:=i;have t:=Ld p;generalize strOfNums xs=Y at j C d;generalize (E.lookup xs).isSome=D at d⊢;generalize jz E xs=x at d i t⊢;clear j y h I p;obtain⟨N,R,O,T⟩:=x;simp only[Fm.val]at d;dsimp only at i t⊢
 go_enter func50,ntmps50
 go_wp2_with fail
 go_quiet (fail)
 go_wp2_with fail
 refine(nN N R O T _ (dw (aa.rd (aa.dn (aa.refl _) _) t.out)) (by omega)).mono ?_;rintro e w' ⟨⟨A2,c2,rfl,l⟩,k⟩;have s:=Ld l;have r:Hid (aa w w'):=Ld ((aa.dn (aa.refl w) _).tr k);clear l k
 go_wp2_with fail
 go_ret2
 exact⟨A2,c2,rfl,s.out,r.out⟩
attribute [local go_sem] Oper.semAt_some
def fp(T:CT):Nat:=(T.map fun e=>4+e.1.length+e.2.length).sum
theorem nW{T c:CT}(h:T.Perm c):fp T=fp c:=(h.map _).sum_nat
theorem uC(T:CT)(e:List Int×List Int):fp (T++[e])=fp T+(4+e.1.length+e.2.length):=by simp[fp]
def De(c:Nat)(d:World)(s:List (List Int×Fm))(W:World):Prop:=Fr (fun j=>c≤j) d W∧fp (s.map fun x=>(x.1,x.2.xs))≤s.length*16404∧ab W c 3 #[.int .i64 (fp (s.map fun x=>(x.1,x.2.xs)))]
theorem De.new{c:Nat}{f:World}{s:List (List Int×Fm)}{W W':World}(h:De c f s W)(d:aa W W'):De c f s W':=⟨h.1.trans (d.toFr _),h.2.1,d.blk h.2.2⟩
theorem De.puts{c B:Nat}{f:World}{s:List (List Int×Fm)}{W W':World}(h:De c f s W)(k:c≤B)(d:et B W W'):De c f s W':=⟨h.1.trans (d.fr (fun j i=>Nat.le_trans k i)),h.2.1,d.blk h.2.2⟩
theorem sl{X:Nat→Prop}{w:World}{base g b m:Nat}{E:fi}(h:dl X w base g b m E)(hm:m≤1000000)(hE:E.length≤1000000):
    Calls prog 134 #[.pointer (some ⟨g,0,none⟩)] w fun e w'=>e=.returned (.int .i64 (fp (cY E)))∧aa w w':=by
 have H:=Ld h
 have hX:∀j,X j→j<w.heap.size:=fun j hj=>by
  obtain⟨_,cs,fz,N⟩:=h.xs j hj;exact(Array.getElem?_eq_some_iff.1 N).1
 have HX:=Ld hX;clear h hX;refine(callsIn_wide (n:=3)).1 ?_;refine callsIn_of_wp_marks func134 rfl trivial ?_ rfl;refine wpIn_wide.2 ?_;simp only[ntmps134,List.size_toArray,List.length_cons,List.length_nil,Nat.reduceAdd,Nat.reduceSub,Array.replicate_succ,Array.replicate_zero,List.push_toArray,List.append_toArray,List.nil_append,List.cons_append]
 go_wp2_with fail
 obtain⟨z,i⟩:=nM (w.alloc (.cells #[.int .i64 0] 3):World);obtain⟨c,f⟩:=nM (w.heap.size);have t:Hid (aa w z):=Ld (by rw[i];exact aa.al (aa.refl _) _);have C:Hid (ab z c 3 #[.int .i64 0]):=Ld (by rw[i,f];exact ab.new _ _ _);have G:Hid (c=w.heap.size):=Ld f;rw[←i,←f];clear i f;refine(qZ (some ⟨g,0,none⟩) z).mono ?_;rintro e R ⟨rfl,y⟩;have d:Hid (aa z R):=Ld (by rw[y];exact aa.al (aa.refl _) _);have hg:=H.out.blk.lt;have hb:=H.out.blt;have V:=C.out.lt;have b':=G.out
 have HS:=Ld (mo (H.out.new (t.out.tr d.out)) hm hE (fun j=>j=c) z.heap.size (by rw[y];exact ab.new z _ _) (fun j hj=>by
  subst hj;have:=d.out.size
  exact⟨by omega,by omega,by omega,fun N=>by have:=HX.out _ N;omega,by omega⟩))
 have q:Hid (ab R c 3 #[.int .i64 0]):=Ld (d.out.blk C.out);have I:Hid (c<R.heap.size):=Ld (q.out.lt);clear y hg hb V b'
 go_wp2_with fail
 refine kC rfl (enters_of func114 (by kernel_rfl) rfl) (fun x:List Int×Fm=> #[.string (strOfNums x.1),x.2.val]) (fun _=>rfl) HS.out (fun x W W' hg J=>hg.puts J) (fun h k=>h.tr k) (fun W W' J=>Kk.puts J)
  (De c R) (fun s A B h hN=>h.new hN) (fun s A B h J=>h.puts (Nat.le_of_lt I.out) J) ⟨Fr.refl _ _,by simp[fp],q.out⟩ ?a1 ?assign ?body ?done
 case assign=>
  intro l x W K hK
  gi_wp2
  exact hK
 case body=>
  rintro l pre x W L ⟨hF,hl,r⟩ T N;have c3:W.cell? ⟨c,0,none⟩=some (.int .i64 (fp (pre.map fun x=>(x.1,x.2.xs)))):=r.cell 0;have f3:W.frozen? ⟨c,0,none⟩=false:=r.frozen 0;have h1:=T.2.2.1;have h2:=T.2.2.2.2;have O:x.2.xs.length=x.2.n:=by have:=T.1.1;rw[ah]at this;omega
  have v:fp ((pre++[x]).map fun x=>(x.1,x.2.xs))=fp (pre.map fun x=>(x.1,x.2.xs))+(4+x.1.length+x.2.n):=by
   rw[List.map_append,List.map_cons,List.map_nil,uC,O]
  have b8:fp (pre.map fun x=>(x.1,x.2.xs))≤1000001*20000:=by omega
  have HB:=Ld r;have HF:=Ld hF;have M:(strOfNums x.1).size=x.1.length:=strOfNums_size _;have b0:=Ld L;have HL:=Ld hl;clear r hF T N O hl L;obtain⟨xk,xA,xn,xc,xs⟩:=x;dsimp only at h1 h2 v M;simp only[Fm.val];generalize strOfNums xk=sk at M⊢;generalize b1:fp (pre.map fun x=>(x.1,x.2.xs))=cc at*;generalize b7:xk.length=kl at*
  gi_wp2
  have u:Fr (fun j=>j=c) W (W.setCell ⟨c,0,none⟩ (.int .i64 (cc+(4+kl+xn)))):=(Fr.refl (fun j=>j=c) W).setCell (p:=⟨c,0,none⟩) (fun _=>rfl) _;refine⟨ic.fr u (fun k o r hs=>by have:=I.out;omega),Kk.fr u,HF.out.trans (u.mono (fun k _ hs=>by omega)),?_,?_⟩
  ·rw[v,List.length_append,List.length_singleton];have:=HL.out;omega
  ·rw[v];have:=HB.out.set 0 (.int .i64 (cc+(4+kl+xn)))
   simpa using this
 case done=>
  rintro D fs W hD Z ⟨hF,hl,r⟩ Y;have U:Hid (aa w W):=Ld ((t.out.tr d.out).fr hF (fun k hk=>by have:=G.out;omega))
  have c3:W.cell? ⟨c,0,none⟩=some (.int .i64 (fp (cY E))):=by
   have:=r.cell 0;rw[Z,nW (show(cY (st E)).Perm (cY E)from(sr E).map _)]at this;exact this
  clear r hF hl;dsimp only
  go_wp2_with fail
  refine ez [D] W (dc.cons (dc.nil R.heap.size W) (fun _ h=>by cases h) hD Y) (fun W' hS=>⟨.int .i64 (fp (cY E)),by simp[results,results134,go_sem],rfl,?_⟩);exact U.out.trans (hS.below.mono (t.out.tr d.out).size)
theorem xy(xs:List Int)(p:aU xs)(w:World):∃(c:Nat) (w':World),(convert 9 33 (.string (strOfNums xs))).run prog w=.ok (.slice (some ⟨w.heap.size,0,none⟩) xs.length c) w'∧aa w w'∧Rd (fun k=>k=w.heap.size) w' 1 (some ⟨w.heap.size,0,none⟩) xs.length (am xs):=by
 have h:=Go.run_bytes_of_string (P:=prog) w 9 33 5 (strOfNums xs) underlying9 underlying33 underlying5;rw[strOfNums_size]at h;refine⟨_,_,h,aa.al (aa.dr (aa.refl w)) _,ah xs▸by omega,fun _=>⟨_,rfl,rfl,by simp,fun j u hu=>?_⟩⟩
 have i:j<xs.length:=by
  have:=(List.getElem?_eq_some_iff.1 hu).1
  rwa[ah]at this
 have q:=p _ (List.getElem_mem i)
 have l:u=.int .u8 xs[j]:=by
  unfold am at hu;rw[List.getElem?_map,List.getElem?_eq_getElem i]at hu
  simpa using hu.symm
 subst l
 have hd:(strOfNums xs).data[j]?=some (UInt8.ofNat xs[j].toNat):=by
  have h1:=Cy (xs:=xs)
  have h2:(strOfNums xs).data.toList[j]?=some (UInt8.ofNat xs[j].toNat):=by
   rw[h1,List.getElem?_map,List.getElem?_eq_getElem i];rfl
  rwa[Array.getElem?_toList]at h2
 have f:j<(strOfNums xs).data.size:=(Array.getElem?_eq_some_iff.1 hd).1
 have d:(bytesRow (strOfNums xs) (grownCap w xs.length 0 5))[j]?=some (.int .u8 xs[j]):=by
  unfold bytesRow;rw[Array.getElem?_append_left (by simpa using f),Array.getElem?_map,hd]
  have:((UInt8.ofNat xs[j].toNat).toNat:Int)=xs[j]:=by
   rw[UInt8.toNat_ofNat'];omega
  simp only[Option.map_some,this]
 generalize bytesRow (strOfNums xs) (grownCap w xs.length 0 5)=cs at d
 have n:(w.drew.alloc (.cells cs 5 (cs.size,cs.size+1))).heap[w.heap.size]?=some (.cells cs 5 (cs.size,cs.size+1)):=by
  show(w.heap.push _)[w.heap.size]?=_;simp
 rw[gg];simp only[World.cell?,n]
 simpa using d
theorem Bq{L:List Ch}{x:Ch}(h:x∈L)(c:eE x=false):dg L=false:=by
 unfold dg
 have:L.all eE=false:=by
  cases ha:L.all eE with
  |false=>rfl
  |true=>have:=List.all_eq_true.1 ha _ h;rw[c]at this;cases this
 rw[this];simp
theorem uX{P:Nat→Prop}(A:Option Addr)(n c:Nat)(L:List Ch)(w:World)(h:Rd P w 3 A n (L.flatMap Ch.cells))(s:L.length=n)(Y:n≤100000000)(H:∀c∈L,c.k.n≤maxLen∧c.v.n≤maxLen):
    Calls prog 89 #[.slice A n c] w fun e w'=>e=.returned (.bool (dg L))∧w=w':=by
 have O:=Ld h;have M:=Ld s;have J:=Ld H;clear h s H
 go_enter func89,ntmps89
 go_wp2_with fail
 go_loopw [3] (fun i wr=>∃j:Nat,j≤n∧i=.int .i64 j∧Hid ((L.take j).all eE=true)∧wr=w) (fun i _=>n-(intOf i).toNat)
 case atStart=>exact⟨0,Nat.zero_le _,rfl,Ld (by simp),rfl⟩
 case round=>
  obtain⟨j,V,rfl,C,rfl⟩:=hrel
  by_cases z:j<n
  ·as_aux_lemma=>
   obtain⟨g,o,hl,rfl,-,-,p⟩:=iD (f:=Ch.cells) (L:=L) (fun _=>rfl) (by omega) O.out z;have D:wr.cell? ⟨g,o+j*3,none⟩=some (.slice L[j].k.A L[j].k.n L[j].k.c):=p 0 _ rfl;have G:wr.cell? ⟨g,o+j*3+1,none⟩=some (.slice L[j].v.A L[j].v.n L[j].v.c):=p 1 _ rfl;have c2:wr.cell? ⟨g,o+j*3+2,none⟩=some (.bool L[j].d):=p 2 _ rfl;have q:=J.out L[j] (List.getElem_mem _);have r:=sN hl;have l:L[j]∈L:=List.getElem_mem _;generalize L[j]=x at D G c2 r l q;obtain⟨⟨Z,kn,kc,ks⟩,⟨vA,vn,vc,vs⟩,d⟩:=x;dsimp only at D G c2 q;have t:=Ld r;have N:=Ld l;have R:(0:Int)≤(j:Int):=by omega
   have T:(j:Int)<(n:Int):=by omega
   obtain⟨u,y⟩:=q;unfold maxLen at u y;clear p hl r l
   go_wp2_with fail
   all_goals first
    | (go_roundw
       case rel=>
        refine⟨j+1,by omega,by go_num,Ld ?_,trivial⟩;rw[t.out,C.out]
        try subst d
        simp[eE];omega
       case measure=>simp[intOf];omega)
    | (go_ret
       refine⟨rb ?_,rfl⟩;refine(Bq N.out ?_).symm
       try subst d
       simp[eE]
       omega)
  ·as_aux_lemma=>
   obtain rfl:j=n:=by omega
   have U:(0:Int)≤(j:Int):=by omega
   go_wp2_with fail
   all_goals
    go_ret;refine⟨rb ?_,rfl⟩;have s:=M.out;have I:=C.out;rw[←s,List.take_length]at I;unfold dg;rw[I,s,Bool.and_true]
    by_cases h1:1≤j<;>by_cases h2:j≤600
    all_goals
     first|(exfalso;omega)|(simp[h1,h2];done)|(simp[h1,h2];omega)|(simp;omega)
def Aw(L:List Ch):Nat:=(L.map fun c=>4+c.k.n+c.v.n).sum
theorem tR{L:List Ch}{k:Nat}(h:k<L.length):Aw (L.take (k+1))=Aw (L.take k)+(4+L[k].k.n+L[k].v.n):=by
 unfold Aw;rw[List.take_succ_eq_append_getElem h,List.map_append,List.sum_append];simp only[List.map_cons,List.map_nil,List.sum_cons,List.sum_nil,Nat.add_zero]
theorem DX{L:List Ch}(h:∀c∈L,c.k.n≤16∧c.v.n≤16384)(k:Nat)(f:k≤L.length):Aw (L.take k)≤k*16404:=by
 induction k with
 |zero=>simp[Aw]
 |succ k d=>
  rw[tR (by omega)];have:=h L[k] (List.getElem_mem _);have:=d (by omega);omega
theorem yo{P:Nat→Prop}(A:Option Addr)(n c:Nat)(L:List Ch)(w:World)(h:Rd P w 3 A n (L.flatMap Ch.cells))(G:L.length=n)(U:n≤100000000)(H:∀c∈L,c.k.n≤16∧c.v.n≤16384):
    Calls prog 135 #[.slice A n c] w fun e w'=>e=.returned (.int .i64 (Aw L))∧aa w w':=by
 have J:=Ld h;have I:=Ld G;have z:=Ld H;clear h G H
 go_enter func135,ntmps135
 go_wp2_with fail
 go_loopw [3,4] (fun s i wr=>∃j:Nat,j≤n∧i=.int .i64 j∧s=.int .i64 (Aw (L.take j))∧Hid (aa w wr)) (fun s i _=>n-(intOf i).toNat)
 case atStart=>exact⟨0,Nat.zero_le _,rfl,by simp[Aw],Ld (aa.refl w)⟩
 case round=>
  obtain⟨j,T,rfl,rfl,t⟩:=hrel
  by_cases y:j<n
  ·as_aux_lemma=>
   obtain⟨g,o,hl,rfl,-,-,q⟩:=iD (f:=Ch.cells) (L:=L) (fun _=>rfl) (by omega) (t.out.rd J.out) y;have C:wr.cell? ⟨g,o+j*3,none⟩=some (.slice L[j].k.A L[j].k.n L[j].k.c):=q 0 _ rfl;have D:wr.cell? ⟨g,o+j*3+1,none⟩=some (.slice L[j].v.A L[j].v.n L[j].v.c):=q 1 _ rfl;have p:=z.out L[j] (List.getElem_mem _);have l:=tR hl;have r:=DX z.out j (by omega);generalize L[j]=x at C D l p;generalize Aw (L.take j)=s at l r⊢;obtain⟨⟨Y,kn,Z,ks⟩,⟨vA,vn,vc,vs⟩,d⟩:=x;dsimp only at C D p l;have u:=Ld l;have O:(0:Int)≤(j:Int):=by omega
   have R:(j:Int)<(n:Int):=by omega
   obtain⟨M,N⟩:=p;have V:s≤100000000*16404:=by omega
   clear q hl l r
   go_wp2_with fail
   go_quiet (fail)
   go_wp2_with fail
   go_roundw
   case rel=>
    refine⟨j+1,by omega,by go_num,?_,Ld (aa.dn t.out _)⟩;rw[u.out];go_num
   case measure=>simp[intOf];omega
  ·as_aux_lemma=>
   obtain rfl:j=n:=by omega
   go_wp2_with fail
   go_ret;have ht:L.take j=L:=by rw[←I.out,List.take_length]
   rw[ht];exact⟨rfl,t.out⟩
def EZ:Ch:=⟨⟨none,0,0,[]⟩,⟨none,0,0,[]⟩,false⟩
theorem Fb:aW prog 76 153 3 56:=aW.mk' (z:=.agg EZ.cells.toArray) underlying76 (by kernel_rfl) rfl (by decide)
theorem ch(c:Ch):∀u∈c.cells,u.oneCell'=true:=by
 intro u hu;simp[Ch.cells]at hu;rcases hu with rfl|rfl|rfl<;>rfl
def iT(ge:List Int→List Int→Bool)(c:Ch)(s:List Ch×Bool)(x:Ch):List Ch×Bool:=
 let s1:=if !s.2&&ge x.k.xs c.k.xs then(s.1++[c],true)else s
 (if x.k.xs=c.k.xs then s1.1 else s1.1++[x],s1.2)
def fO(xs ys:List Int):Bool:= !Op.bytesLess (strOfNums xs).toList (strOfNums ys).toList
def dm(ge:List Int→List Int→Bool)(c:Ch)(L:List Ch):List Ch×Bool:=L.foldl (iT ge c) ([],c.d)
def jh(ge:List Int→List Int→Bool)(c:Ch)(L:List Ch):List Ch:=if(dm ge c L).2 then(dm ge c L).1 else(dm ge c L).1++[c]
theorem li{ge:List Int→List Int→Bool}{c:Ch}{L:List Ch}{k:Nat}(h:k<L.length):dm ge c (L.take (k+1))=iT ge c (dm ge c (L.take k)) L[k]:=by
 unfold dm;rw[List.take_succ_eq_append_getElem h,List.foldl_append];rfl
theorem mq(t:TypeId)(a b:ByteArray):binOp .geq t (.string a) (.string b)=pure (.bool !(Op.bytesLess a.toList b.toList)):=by simp[binOp,Op.stringOp]
theorem AY:aW prog 77 153 3 56:=aW.mk' (z:=.agg EZ.cells.toArray) underlying77 (by kernel_rfl) rfl (by decide)
theorem uS{P q:Nat→Prop}(A:Option Addr)(n c:Nat)(L:List Ch)(y:Ch)(w:World)(h:Rd P w 3 A n (L.flatMap Ch.cells))(hL:L.length=n)(hn:n≤100000000)(hb:∀c∈L,c.In P w)(hy:y.In q w):
    Calls prog 129 #[.slice A n c,.agg y.cells.toArray] w fun e w'=>(∃A' n' c',e=.returned (.slice A' n' c')∧n'≤2*n+1∧w'.ownsRow (w.heap.size+1) 153 3 (.slice A' n' c') n' ((jh fO y L).flatMap Ch.cells))∧aa w w':=by
 have HR:=Ld h;have HL:=Ld hL;have HB:=Ld hb;have HY:=Ld hy;obtain⟨⟨u,z,l,U⟩,⟨D,H,G,vs⟩,C⟩:=y;clear h hL hb hy;unfold Ch.cells;dsimp only
 go_enter func129,ntmps129
 go_wp2_with fail
 obtain⟨w0,c4⟩:=nM ((w.alloc (.cells #[.slice u z l,.slice D H G,.bool C] 153)).alloc (.cells #[] 153):World);obtain⟨M,b7⟩:=nM (w.heap.size);have g3:Hid (aa w w0):=Ld (by rw[c4];exact aa.al (aa.al (aa.refl _) _) _);have O:Hid (ab w0 M 153 #[.slice u z l,.slice D H G,.bool C]):=Ld (by rw[c4,b7];exact(ab.new _ _ _).alloc _);have g4:Hid (w0.ownsRow (M+1) 153 3 (.slice (some ⟨M+1,0,none⟩) 0 0) 0 []):=Ld (by rw[c4,b7];exact eA (ab.new' _ 153 #[] (by simp)) (Nat.le_refl _));have HZ:Hid (M=w.heap.size∧w0.heap.size=M+2):=Ld ⟨b7,by rw[c4,b7];simp⟩;rw[←c4,←b7];clear c4 b7
 go_loopw [5,6,7] (fun s d i wr=>∃(j m:Nat) (A':Option Addr) (c':Nat),j≤n∧i=.int .i64 j∧s=.slice A' m c'∧d=.bool (dm fO ⟨⟨u,z,l,U⟩,⟨D,H,G,vs⟩,C⟩ (L.take j)).2∧m≤2*j∧Hid (wr.ownsRow (M+1) 153 3 (.slice A' m c') m ((dm fO ⟨⟨u,z,l,U⟩,⟨D,H,G,vs⟩,C⟩ (L.take j)).1.flatMap Ch.cells))∧Hid (aa w wr)∧Hid (ab wr M 153 #[.slice u z l,.slice D H G,.bool C])) (fun s d i _=>n-(intOf i).toNat)
 case atStart=>exact⟨0,0,_,_,Nat.zero_le _,rfl,rfl,rfl,by omega,g4,g3,O⟩
 case round=>
  obtain⟨j,m,A',c',hj,rfl,rfl,rfl,hm,HO,HN,N⟩:=hrel;clear g4 g3 O;generalize c5:dm fO ⟨⟨u,z,l,U⟩,⟨D,H,G,vs⟩,C⟩ (L.take j)=f at*;obtain⟨R,db⟩:=f;dsimp only at HO⊢;have e0:wr.cell? ⟨M,0,none⟩=some (.slice u z l):=N.out.cell 0;have e1:wr.cell? ⟨M,1,none⟩=some (.slice D H G):=N.out.cell 1;have e2:wr.cell? ⟨M,2,none⟩=some (.bool C):=N.out.cell 2
  by_cases i6:j<n
  ·as_aux_lemma=>
   obtain⟨g,o,hl,rfl,-,-,c6⟩:=iD (f:=Ch.cells) (L:=L) (fun _=>rfl) (by omega) HR.out i6;have v0:w.cell? ⟨g,o+j*3,none⟩=some (.slice L[j].k.A L[j].k.n L[j].k.c):=c6 0 _ rfl;have v1:w.cell? ⟨g,o+j*3+1,none⟩=some (.slice L[j].v.A L[j].v.n L[j].v.c):=c6 1 _ rfl;have v2:w.cell? ⟨g,o+j*3+2,none⟩=some (.bool L[j].d):=c6 2 _ rfl;have b8:=HB.out L[j] (List.getElem_mem _);have b0:=li (ge:=fO) (c:=⟨⟨u,z,l,U⟩,⟨D,H,G,vs⟩,C⟩) hl;rw[c5]at b0;generalize L[j]=x at v0 v1 v2 b0 b8;obtain⟨⟨xA,xn,xc,xs⟩,⟨zA,zn,zc,zs⟩,xd⟩:=x;dsimp only at v0 v1 v2 b8;have c0:=aa.cell_ HN.out v0;have c1:=aa.cell_ HN.out v1;have c2:=aa.cell_ HN.out v2;have i2:=Ld v0;have i3:=Ld v1;have i4:=Ld v2;have g8:=Ld b8.k.rd;clear v0 v1 v2;unfold iT at b0;dsimp only at b0;have b9:=fun q=>eh (c:=xc) (w:=wr.drewN q) (HN.out.rd b8.k.rd)
   have c3:=fun q=>eh (c:=l) (w:=wr.drewN q) (HN.out.rd HY.out.k.rd)
   have h3:=sy b8.k.byt HY.out.k.byt;have d':=mq 9 (strOfNums xs) (strOfNums U);have g6:Op.bytesLess (strOfNums xs).toList (strOfNums U).toList= !fO xs U:=by simp[fO]
   dsimp only at b9 c3 h3;rw[g6,Bool.not_not]at d';obtain⟨s1,c7⟩:=nM (strOfNums xs);obtain⟨s2,c8⟩:=nM (strOfNums U);rw[←c7,←c8]at h3 d';simp only[←c7]at b9;simp only[←c8]at c3;have i0:=Ld c7;have i1:=Ld c8;clear c7 c8;obtain⟨r,hr⟩:=nM (fO xs U);obtain⟨t,ht⟩:=nM (decide (xs=U));rw[←hr]at d' b0;rw[←ht]at h3;have b1:=Ld b0;have HT:=Ld ht;have i7:(0:Int)≤(j:Int):=by omega
   have i9:(j:Int)<(n:Int):=by omega
   clear c6 hl b0 b8 hr g6 ht c5
   go_wp2_with fail
   cases db
   ·go_quiet (fail)
    cases r
    ·go_wp2_with fail
     go_quiet (fail)
     cases t
     ·go_wp2_with (first
       |((with_reducible refine dH ⟨some 50,.buildSlice _ _ _,_,_,_,_⟩ ?_);refine cn AY (by decide) rfl (.tmp 49) rfl #[.slice xA xn xc,.slice zA zn zc,.bool xd] rfl rfl ?_)
       |(at_builtin;refine dH ⟨some 51,_,_,_,_,_⟩ ?_;refine dC ?_))
      refine⟨?_⟩;refine aq (o:=⟨some 51,_,_,_,_,_⟩) AY _ rfl (.tmp 45) (.tmp 50) rfl (M+1) (.slice A' m c') m (R.flatMap Ch.cells) rfl (aa.own (aa.al (aa.dn (aa.refl wr) _) _) HO.out) _ 1 1 [.slice xA xn xc,.slice zA zn zc,.bool xd] rfl (Rd.ofBlk (p:=fun _=>True) (ab.new _ 153 #[.slice xA xn xc,.slice zA zn zc,.bool xd]) 3 1 rfl trivial) (ch ⟨⟨xA,xn,xc,xs⟩,⟨zA,zn,zc,zs⟩,xd⟩) (by unfold maxLen;omega) (by omega) (by have:=N.out.lt;simp;omega) ?_;intro A2 d2 Y T I b';have V:=Ld T;have J:Hid (aa w Y):=Ld ((aa.al (aa.dn HN.out _) _).fr I (fun k hk=>by have:=(ak HO.out k hk).1;have:=HZ.out.1;omega));have O:Hid (ab Y M 153 #[.slice u z l,.slice D H G,.bool C]):=Ld (((aa.al (aa.dn (aa.refl wr) _) _).blk N.out).fr I (fun hk=>by have:=(ak HO.out M hk).1;omega));clear T I b'
      go_wp2_with fail
      go_roundw
      case rel=>
       have Z:dm fO ⟨⟨u,z,l,U⟩,⟨D,H,G,vs⟩,C⟩ (L.take (j+1))=(R++[⟨⟨xA,xn,xc,xs⟩,⟨zA,zn,zc,zs⟩,xd⟩],false):=by
        rw[b1.out,if_neg (of_decide_eq_false HT.out.symm)];rfl
       refine⟨j+1,m+1,A2,d2,by omega,by go_num,rfl,by rw[Z],by omega,?_,J,O⟩;rw[Z];refine Ld ?_;have:=V.out;rw[List.flatMap_append]
       simpa[Ch.cells]using this
      case measure=>simp[intOf];omega
     ·go_wp2_with fail
      go_roundw
      case rel=>
       have Z:dm fO ⟨⟨u,z,l,U⟩,⟨D,H,G,vs⟩,C⟩ (L.take (j+1))=(R,false):=by
        rw[b1.out,if_pos (of_decide_eq_true HT.out.symm)];rfl
       refine⟨j+1,m,A',c',by omega,by go_num,rfl,by rw[Z],by omega,?_,?_,?_⟩
       ·rw[Z];exact Ld (aa.own (aa.dn (aa.refl wr) _) HO.out)
       ·exact Ld (aa.dn HN.out _)
       ·exact Ld ((aa.dn (aa.refl wr) _).blk N.out)
      case measure=>simp[intOf];omega
    ·go_wp2_with (first
      |((with_reducible refine dH ⟨some 33,.buildSlice _ _ _,_,_,_,_⟩ ?_);refine cn AY (by decide) rfl (.tmp 32) rfl #[.slice u z l,.slice D H G,.bool C] rfl rfl ?_)
      |(at_builtin;refine dH ⟨some 34,_,_,_,_,_⟩ ?_;refine dC ?_))
     refine⟨?_⟩;refine aq (o:=⟨some 34,_,_,_,_,_⟩) AY _ rfl (.tmp 31) (.tmp 33) rfl (M+1) (.slice A' m c') m (R.flatMap Ch.cells) rfl (aa.own (aa.al (aa.dn (aa.refl wr) _) _) HO.out) _ 1 1 [.slice u z l,.slice D H G,.bool C] rfl (Rd.ofBlk (p:=fun _=>True) (ab.new _ 153 #[.slice u z l,.slice D H G,.bool C]) 3 1 rfl trivial) (ch ⟨⟨u,z,l,U⟩,⟨D,H,G,vs⟩,C⟩) (by unfold maxLen;omega) (by omega) (by have:=N.out.lt;simp;omega) ?_;intro A2 d2 Y T I b';have V:Hid (Y.ownsRow (M+1) 153 3 (.slice A2 (m+1) d2) (m+1) ((R++[(⟨⟨u,z,l,U⟩,⟨D,H,G,vs⟩,C⟩:Ch)]).flatMap Ch.cells)):=Ld (by rw[List.flatMap_append];simpa[Ch.cells]using T);have J:Hid (aa w Y):=Ld ((aa.al (aa.dn HN.out _) _).fr I (fun k hk=>by have:=(ak HO.out k hk).1;have:=HZ.out.1;omega));have O:Hid (ab Y M 153 #[.slice u z l,.slice D H G,.bool C]):=Ld (((aa.al (aa.dn (aa.refl wr) _) _).blk N.out).fr I (fun hk=>by have:=(ak HO.out M hk).1;omega));clear T I b' e0 e1 e2 c0 c1 c2 b9 c3;have e0:Y.cell? ⟨M,0,none⟩=some (.slice u z l):=O.out.cell 0;have c0:=aa.cell_ J.out i2.out;have c1:=aa.cell_ J.out i3.out;have c2:=aa.cell_ J.out i4.out;have b9:=fun q=>eh (c:=xc) (w:=Y.drewN q) (J.out.rd g8.out)
     have c3:=fun q=>eh (c:=l) (w:=Y.drewN q) (J.out.rd HY.out.k.rd)
     dsimp only at b9 c3;simp only[←i0.out]at b9;simp only[←i1.out]at c3
     go_wp2_with fail
     go_quiet (fail)
     cases t
     ·go_wp2_with (first
       |((with_reducible refine dH ⟨some 50,.buildSlice _ _ _,_,_,_,_⟩ ?_);refine cn AY (by decide) rfl (.tmp 49) rfl #[.slice xA xn xc,.slice zA zn zc,.bool xd] rfl rfl ?_)
       |(at_builtin;refine dH ⟨some 51,_,_,_,_,_⟩ ?_;refine dC ?_))
      refine⟨?_⟩;refine aq (o:=⟨some 51,_,_,_,_,_⟩) AY _ rfl (.tmp 45) (.tmp 50) rfl (M+1) (.slice A2 (m+1) d2) (m+1) ((R++[(⟨⟨u,z,l,U⟩,⟨D,H,G,vs⟩,C⟩:Ch)]).flatMap Ch.cells) rfl (aa.own (aa.al (aa.dn (aa.refl Y) _) _) V.out) _ 1 1 [.slice xA xn xc,.slice zA zn zc,.bool xd] rfl (Rd.ofBlk (p:=fun _=>True) (ab.new _ 153 #[.slice xA xn xc,.slice zA zn zc,.bool xd]) 3 1 rfl trivial) (ch ⟨⟨xA,xn,xc,xs⟩,⟨zA,zn,zc,zs⟩,xd⟩) (by unfold maxLen;omega) (by omega) (by have:=O.out.lt;simp;omega) ?_;intro A4 d4 w5 g5 c9 i5;have i':=Ld g5;have g9:Hid (aa w w5):=Ld ((aa.al (aa.dn J.out _) _).fr c9 (fun k hk=>by have:=(ak V.out k hk).1;have:=HZ.out.1;omega));have g7:Hid (ab w5 M 153 #[.slice u z l,.slice D H G,.bool C]):=Ld (((aa.al (aa.dn (aa.refl Y) _) _).blk O.out).fr c9 (fun hk=>by have:=(ak V.out M hk).1;omega));clear g5 c9 i5
      go_wp2_with fail
      go_roundw
      case rel=>
       have Z:dm fO ⟨⟨u,z,l,U⟩,⟨D,H,G,vs⟩,C⟩ (L.take (j+1))=(R++[(⟨⟨u,z,l,U⟩,⟨D,H,G,vs⟩,C⟩:Ch)]++[⟨⟨xA,xn,xc,xs⟩,⟨zA,zn,zc,zs⟩,xd⟩],true):=by
        rw[b1.out,if_neg (of_decide_eq_false HT.out.symm)];rfl
       refine⟨j+1,m+1+1,A4,d4,by omega,by go_num,rfl,by rw[Z],by omega,?_,g9,g7⟩;rw[Z];refine Ld ?_;have:=i'.out;rw[List.flatMap_append]
       simpa[Ch.cells]using this
      case measure=>simp[intOf];omega
     ·go_wp2_with fail
      go_roundw
      case rel=>
       have Z:dm fO ⟨⟨u,z,l,U⟩,⟨D,H,G,vs⟩,C⟩ (L.take (j+1))=(R++[(⟨⟨u,z,l,U⟩,⟨D,H,G,vs⟩,C⟩:Ch)],true):=by
        rw[b1.out,if_pos (of_decide_eq_true HT.out.symm)];rfl
       refine⟨j+1,m+1,A2,d2,by omega,by go_num,rfl,by rw[Z],by omega,?_,?_,?_⟩
       ·rw[Z];exact Ld (aa.own (aa.dn (aa.refl Y) _) V.out)
       ·exact Ld (aa.dn J.out _)
       ·exact Ld ((aa.dn (aa.refl Y) _).blk O.out)
      case measure=>simp[intOf];omega
   ·go_quiet (fail)
    go_wp2_with fail
    go_quiet (fail)
    cases t
    ·go_wp2_with (first
      |((with_reducible refine dH ⟨some 50,.buildSlice _ _ _,_,_,_,_⟩ ?_);refine cn AY (by decide) rfl (.tmp 49) rfl #[.slice xA xn xc,.slice zA zn zc,.bool xd] rfl rfl ?_)
      |(at_builtin;refine dH ⟨some 51,_,_,_,_,_⟩ ?_;refine dC ?_))
     refine⟨?_⟩;refine aq (o:=⟨some 51,_,_,_,_,_⟩) AY _ rfl (.tmp 45) (.tmp 50) rfl (M+1) (.slice A' m c') m (R.flatMap Ch.cells) rfl (aa.own (aa.al (aa.dn (aa.refl wr) _) _) HO.out) _ 1 1 [.slice xA xn xc,.slice zA zn zc,.bool xd] rfl (Rd.ofBlk (p:=fun _=>True) (ab.new _ 153 #[.slice xA xn xc,.slice zA zn zc,.bool xd]) 3 1 rfl trivial) (ch ⟨⟨xA,xn,xc,xs⟩,⟨zA,zn,zc,zs⟩,xd⟩) (by unfold maxLen;omega) (by omega) (by have:=N.out.lt;simp;omega) ?_;intro A2 d2 Y T I b';have V:=Ld T;have J:Hid (aa w Y):=Ld ((aa.al (aa.dn HN.out _) _).fr I (fun k hk=>by have:=(ak HO.out k hk).1;have:=HZ.out.1;omega));have O:Hid (ab Y M 153 #[.slice u z l,.slice D H G,.bool C]):=Ld (((aa.al (aa.dn (aa.refl wr) _) _).blk N.out).fr I (fun hk=>by have:=(ak HO.out M hk).1;omega));clear T I b'
     go_wp2_with fail
     go_roundw
     case rel=>
      have Z:dm fO ⟨⟨u,z,l,U⟩,⟨D,H,G,vs⟩,C⟩ (L.take (j+1))=(R++[⟨⟨xA,xn,xc,xs⟩,⟨zA,zn,zc,zs⟩,xd⟩],true):=by
       rw[b1.out,if_neg (of_decide_eq_false HT.out.symm)];rfl
      refine⟨j+1,m+1,A2,d2,by omega,by go_num,rfl,by rw[Z],by omega,?_,J,O⟩;rw[Z];refine Ld ?_;have:=V.out;rw[List.flatMap_append]
      simpa[Ch.cells]using this
     case measure=>simp[intOf];omega
    ·go_wp2_with fail
     go_roundw
     case rel=>
      have Z:dm fO ⟨⟨u,z,l,U⟩,⟨D,H,G,vs⟩,C⟩ (L.take (j+1))=(R,true):=by
       rw[b1.out,if_pos (of_decide_eq_true HT.out.symm)];rfl
      refine⟨j+1,m,A',c',by omega,by go_num,rfl,by rw[Z],by omega,?_,?_,?_⟩
      ·rw[Z];exact Ld (aa.own (aa.dn (aa.refl wr) _) HO.out)
      ·exact Ld (aa.dn HN.out _)
      ·exact Ld ((aa.dn (aa.refl wr) _).blk N.out)
     case measure=>simp[intOf];omega
  ·as_aux_lemma=>
   obtain rfl:j=n:=by omega
   have ht:L.take j=L:=by rw[←HL.out,List.take_length]
   rw[ht]at c5;have f':=Ld c5;clear c5
   cases db
   ·go_wp2_with (first
     |((with_reducible refine dH ⟨some 56,.buildSlice _ _ _,_,_,_,_⟩ ?_);refine cn AY (by decide) rfl (.tmp 55) rfl #[.slice u z l,.slice D H G,.bool C] rfl rfl ?_)
     |(at_builtin;refine dH ⟨some 57,_,_,_,_,_⟩ ?_;refine dC ?_))
    refine⟨?_⟩;refine aq (o:=⟨some 57,_,_,_,_,_⟩) AY _ rfl (.tmp 54) (.tmp 56) rfl (M+1) (.slice A' m c') m (R.flatMap Ch.cells) rfl (aa.own (aa.al (aa.refl wr) _) HO.out) _ 1 1 [.slice u z l,.slice D H G,.bool C] rfl (Rd.ofBlk (p:=fun _=>True) (ab.new _ 153 #[.slice u z l,.slice D H G,.bool C]) 3 1 rfl trivial) (ch ⟨⟨u,z,l,U⟩,⟨D,H,G,vs⟩,C⟩) (by unfold maxLen;omega) (by omega) (by have:=N.out.lt;simp;omega) ?_;intro A2 d2 Y T I b';have V:Hid (Y.ownsRow (M+1) 153 3 (.slice A2 (m+1) d2) (m+1) ((R++[(⟨⟨u,z,l,U⟩,⟨D,H,G,vs⟩,C⟩:Ch)]).flatMap Ch.cells)):=Ld (by rw[List.flatMap_append];simpa[Ch.cells]using T);have J:Hid (aa w Y):=Ld ((aa.al HN.out _).fr I (fun k hk=>by have:=(ak HO.out k hk).1;have:=HZ.out.1;omega));clear T I b'
    go_wp2_with fail
    go_ret;refine⟨⟨A2,m+1,d2,rfl,by omega,?_⟩,J.out⟩;rw[←HZ.out.1];unfold jh;rw[f'.out];exact V.out
   ·go_wp2_with fail
    go_ret;refine⟨⟨A',m,c',rfl,by omega,?_⟩,HN.out⟩;rw[←HZ.out.1];unfold jh;rw[f'.out];exact HO.out
theorem yh(ge:List Int→List Int→Bool)(c:Ch)(L:List Ch):(dm ge c L).1.length≤L.length+1∧((dm ge c L).2=false→(dm ge c L).1.length≤L.length):=by
 suffices h:∀j,j≤L.length→(dm ge c (L.take j)).1.length≤j+1∧((dm ge c (L.take j)).2=false→(dm ge c (L.take j)).1.length≤j) by
  have:=h L.length (Nat.le_refl _)
  rwa[List.take_length]at this
 intro j
 induction j with
 |zero=>intro _;simp[dm]
 |succ j k=>
  intro l;obtain⟨h1,h2⟩:=k (by omega);rw[li (by omega)];generalize dm ge c (L.take j)=f at h1 h2;obtain⟨R,i⟩:=f;generalize L[j]=x;unfold iT;dsimp only at h1 h2⊢
  cases i
  ·have h2:=h2 rfl
   cases ge x.k.xs c.k.xs
   ·by_cases d:x.k.xs=c.k.xs
    ·simp[d];omega
    ·simp[d];omega
   ·by_cases d:x.k.xs=c.k.xs
    ·simp[d];omega
    ·simp[d];omega
  ·by_cases d:x.k.xs=c.k.xs
   ·simp[d];omega
   ·simp[d];omega
theorem Af(ge:List Int→List Int→Bool)(c:Ch)(L:List Ch):(jh ge c L).length≤L.length+1:=by
 obtain⟨h1,h2⟩:=yh ge c L;unfold jh
 cases hd:(dm ge c L).2
 ·have:=h2 hd;simp;omega
 ·simpa using h1
theorem qE(ge:List Int→List Int→Bool)(c:Ch)(L:List Ch):∀x∈(dm ge c L).1,x∈L∨x=c:=by
 suffices h:∀j,j≤L.length→∀x∈(dm ge c (L.take j)).1,x∈L∨x=c by
  have:=h L.length (Nat.le_refl _)
  rwa[List.take_length]at this
 intro j
 induction j with
 |zero=>intro _ x d;simp[dm]at d
 |succ j i=>
  intro l x d;have i:=i (by omega);rw[li (by omega)]at d;have k:L[j]∈L:=List.getElem_mem _;generalize dm ge c (L.take j)=f at i d;generalize L[j]=y at k d;unfold iT at d;dsimp only at d
  have h1:x∈(if !f.2&&ge y.k.xs c.k.xs then(f.1++[c],true)else f).1→x∈L∨x=c:=by
   intro h;split at h
   ·rcases List.mem_append.1 h with h | h
    ·exact i x h
    ·exact .inr (List.mem_singleton.1 h)
   ·exact i x h
  split at d
  ·exact h1 d
  ·rcases List.mem_append.1 d with h | h
   ·exact h1 h
   ·exact .inl ((List.mem_singleton.1 h)▸k)
theorem tG(ge:List Int→List Int→Bool)(c:Ch)(L:List Ch):∀x∈jh ge c L,x∈L∨x=c:=by
 intro x d;unfold jh at d;split at d
 ·exact qE ge c L x d
 ·rcases List.mem_append.1 d with h | h
  ·exact qE ge c L x h
  ·exact .inr (List.mem_singleton.1 h)
def AZ(L C:List Ch):List Ch:=C.foldl (fun T c=>jh fO c T) L
theorem Ak{L C:List Ch}{k:Nat}(h:k<C.length):AZ L (C.take (k+1))=jh fO C[k] (AZ L (C.take k)):=by
 unfold AZ;rw[List.take_succ_eq_append_getElem h,List.foldl_append];rfl
theorem szs{P:Nat→Prop}{w:World}{x:Fm}(h:x.In P w):x.In (fun b=>b<w.heap.size) w:=⟨dw h.rd,h.byt⟩
theorem Ch.In.szs{P:Nat→Prop}{w:World}{c:Ch}(h:c.In P w):c.In (fun b=>b<w.heap.size) w:=⟨Go.Proofs.YtfchcdbfalgdlaaGreatDoor.szs h.k,Go.Proofs.YtfchcdbfalgdlaaGreatDoor.szs h.v⟩
structure px(w:World)(A:Option Addr)(n:Nat)(L:List Ch):Prop where
 rd:Rd (fun b=>b<w.heap.size) w 3 A n (L.flatMap Ch.cells)
 len:L.length=n
 el:∀c∈L,c.In (fun b=>b<w.heap.size) w
theorem mt(L:List Ch):(L.flatMap Ch.cells).length=L.length*3:=by
 induction L with
 |nil=>rfl
 |cons c L d=>rw[List.flatMap_cons,List.length_append,d];simp[Ch.cells];omega
theorem px.new{w w':World}{A:Option Addr}{n:Nat}{L:List Ch}(h:px w A n L)(d:aa w w'):px w' A n L:=
 ⟨dw (d.rd h.rd),h.len,fun c f=>Ch.In.szs ((h.el c f).new d)⟩
theorem wQ(L C:List Ch):(AZ L C).length≤L.length+C.length:=by
 unfold AZ
 induction C generalizing L with
 |nil=>simp
 |cons c C d=>
  rw[List.foldl_cons];have:=d (jh fO c L);have:=Af fO c L;rw[List.length_cons];omega
end Go.Proofs.YtfchcdbfalgdlaaGreatDoor
