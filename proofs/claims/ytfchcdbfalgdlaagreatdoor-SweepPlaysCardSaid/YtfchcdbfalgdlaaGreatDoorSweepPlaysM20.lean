/- Texts of one proof. No condition but each one's own. -/
import Derived.Test.YtfchcdbfalgdlaaGreatDoorSweepPlaysM4
import Derived.StringKeys
import Derived.Shelf.SlIter.Nil
import Derived.Shelf.SortM.Plain
import Derived.Shelf.SortM.SortNone
import Derived.Test.YtfchcdbfalgdlaaGreatDoorProg
import Derived.Deep.CutBlock
import Derived.Deep.CutRange
import Derived.Laws.IdiomStrings
set_option maxHeartbeats 4000000
set_option maxRecDepth 100000
set_option linter.unusedVariables false
set_option linter.unusedSimpArgs false
namespace Go.Proofs.YtfchcdbfalgdlaaGreatDoor
open _root_.Go.Proofs.Tryz
open Go.RowKit
section
variable {P:Program}{ops:Array Oper}{o:Oper}{a:Act}{w:World}{Q:Exit->Act->World->Prop}{K:Act->World->Prop}{F:Prop}
theorem kO{t e:TypeId}{size bytes:Nat}(E:aY P t e size bytes)(f:size<=16777216)(i:Region.wanted o (yielded ops a.tmps)=true)(x:Operand)
    (d:o.op=.buildSlice t 1 #[(0,x)]) (cs:Array Value) (j:a.eval x=.agg cs) (c:cs.size=size)
    (h:∀g w',ac w' g e cs->aa w w'->w.heap.size<=g->K (a.put o.dst (.slice (some ⟨g,0,none⟩) 1 1)) w'):if Region.wanted o (yielded ops a.tmps)=true then Oper.wp P o a w K Q else F:=by
 rw[if_pos i];unfold Oper.wp execOp;simp only[d,Sem.run_bind,List.map_toArray,List.map_cons,List.map_nil,j,oI E f (.agg cs) c w,Result.andThen_ok];exact h _ _ (ac.new _ _ _) (aa.al (aa.refl _) _) (Nat.le_refl _)
theorem Ed{P:Program}{t e:TypeId}{size bytes:Nat}(E:aY P t e size bytes)(w:World):
    (Instr.buildSlice t 0 #[]).run P w=.ok (.slice (some ⟨w.heap.size,0,none⟩) 0 0) (w.alloc (.cells #[] e)):=by
 obtain⟨i,z,hi,hz,c,-,d⟩:=E.info;have h0:∀f:Nat->Value,Array.map f (Array.range 0)= #[]:=λf=>Array.eq_empty_of_size_eq_zero (by simp)
 simp[Instr.buildSlice,run_underlying E.ht,sizeOf,typeInfo,hi,newRow,Instr.fill,h0]
theorem vD{t e:TypeId}{size bytes:Nat}(E:aY P t e size bytes)(d:Region.wanted o (yielded ops a.tmps)=true)
    (c:o.op=.buildSlice t 0 #[])
    (h:∀g w',ac w' g e #[]->aa w w'->w.heap.size<=g->K (a.put o.dst (.slice (some ⟨g,0,none⟩) 0 0)) w'):if Region.wanted o (yielded ops a.tmps)=true then Oper.wp P o a w K Q else F:=by
 rw[if_pos d];unfold Oper.wp execOp;simp only[c,Sem.run_bind,List.map_toArray,List.map_nil,Ed E w,Result.andThen_ok];exact h _ _ (ac.new _ _ _) (aa.al (aa.refl _) _) (Nat.le_refl _)
end
theorem eZ{α:Type}{p:Nat->Prop}{w:World}{A:Option Addr}{n size:Nat}{f:α->List Value}{L:List α}(d:∀x,(f x).length=size)(l:0<size)(h:Rd p w size A n (L.flatMap f)){i:Nat}(hi:i<n):
    ∃(g o:Nat) (hl:i<L.length),A=some ⟨g,o,none⟩/\p g/\g<w.heap.size/\w.rangeAt g (o+i*size) (f L[i]):=by
 obtain⟨g,o,r,u,s,k⟩:=h.out (by omega) l
 have c:(L.flatMap f).length=L.length*size:=by
  clear k h
  induction L with
  |nil=>simp
  |cons x L y=>simp[d x,y];rw[Nat.succ_mul,Nat.add_comm]
 have hl:i<L.length:=by
  have h1:=h.1;rw[c]at h1;have:=Nat.eq_of_mul_eq_mul_right l h1;omega
 refine⟨g,o,hl,r,u,s,λj v q=>?_⟩;have t:j<size:=by rw[<-d L[i]];exact(List.getElem?_eq_some_iff.1 q).1
 rw[Nat.add_assoc];exact k (i*size+j) v (by rw[ta f size L i j hl (λx _=>d x) t];exact q)
end Go.Proofs.YtfchcdbfalgdlaaGreatDoor
namespace Go.Proofs.YtfchcdbfalgdlaaGreatDoor
open _root_.Go.Proofs.Tryz
open Go.RowKit Go.Maps
structure Fm where
 A:Option Addr
 n:Nat
 c:Nat
 xs:List Int
def Fm.val(x:Fm):Value:=.slice x.A x.n x.c
structure Fm.In(P:Nat->Prop)(w:World)(x:Fm):Prop where
 rd:Rd P w 1 x.A x.n (an x.xs)
 byt:ba x.xs
theorem Fm.In.len{P:Nat->Prop}{w:World}{x:Fm}(h:x.In P w):x.xs.length=x.n:=by have:=h.rd.1;rw[ak]at this;omega
structure Ch where
 k:Fm
 v:Fm
 d:Bool
def Ch.cells(c:Ch):List Value:=[.slice c.k.A c.k.n c.k.c,.slice c.v.A c.v.n c.v.c,.bool c.d]
structure Ch.In(P:Nat->Prop)(w:World)(c:Ch):Prop where
 k:c.k.In P w
 v:c.v.In P w
theorem Ch.In.new{P:Nat->Prop}{w w':World}{c:Ch}(h:c.In P w)(d:aa w w'):c.In P w':=⟨⟨d.rd h.k.rd,h.k.byt⟩,⟨d.rd h.v.rd,h.v.byt⟩⟩
def eX(c:Ch):Bool:=decide (1<=c.k.n)&&decide (c.k.n<=16)&&decide (c.v.n<=16384)&& !(c.d&&decide (0<c.v.n))
def bY(L:List Ch):Bool:=decide (1<=L.length)&&decide (L.length<=600)&&L.all eX
theorem rb{a b:Bool}(h:a=b):Ending.returned (.bool a)=Ending.returned (.bool b):=by rw[h]
theorem Ab (c:Ch) (w:World) (f:c.k.n<=maxLen) (i:c.v.n<=maxLen):Calls prog 117 #[.agg c.cells.toArray] w λe w'=>e= .returned (.bool (eX c))/\aa w w':=by
 obtain⟨⟨j,kn,k,l⟩,⟨n,vn,p,q⟩,d⟩:=c;unfold maxLen at f i;dsimp only at f i;unfold Ch.cells;dsimp only
 go_enter func117,ntmps117
 go_wp2_with fail
 all_goals
  go_ret;refine⟨rb ?_,aa.al (aa.refl _) _⟩
  try subst d
  unfold eX;dsimp only
  first|(rw[decide_eq_true (by omega:1<=kn),decide_eq_true (by omega:kn<=16),decide_eq_true (by omega:vn<=16384)];simp;done)|(rw[decide_eq_true (by omega:1<=kn),decide_eq_true (by omega:kn<=16),decide_eq_false (by omega:¬vn<=16384)];simp;done)|(rw[decide_eq_true (by omega:1<=kn),decide_eq_false (by omega:¬kn<=16)];simp;done)|(rw[decide_eq_false (by omega:¬1<=kn)];simp;done)
theorem DQ (c:Ch) (w:World) (n:c.k.n<=maxLen) (p:c.v.n<=maxLen):Calls prog 116 #[.agg c.cells.toArray] w λe w'=>e= .returned (.bool (!eX c))/\aa w w':=by
 have k:=λw=>Ab c w n p
 obtain⟨b,l⟩:=nM (eX c);rw[<-l]at k⊢;have j:=Ld k;clear l k;obtain⟨⟨q,kn,r,s⟩,⟨t,vn,u,v⟩,d⟩:=c;clear n p;unfold Ch.cells at j⊢;dsimp only at j⊢
 go_enter func116,ntmps116
 go_wp2_with fail;refine(j.out _).mono ?_;rintro e y ⟨rfl,f⟩;have i:=Ld f;clear f
 go_wp2_with fail;go_ret;exact⟨rfl,(aa.al (aa.refl _) _).tr i.out⟩
def Db(L:List Ch)(e:Ending):Prop:=∃r:Int,e=.returned (.int .i64 r)/\(L.all eX=true->r=-1)/\(L.all eX=false->0<=r)
theorem ul{L:List Ch}{k:Nat}(h:k<L.length):(L.take (k+1)).all eX=((L.take k).all eX&&eX L[k]):=by
 rw[List.take_succ_eq_append_getElem h,List.all_append];simp
theorem zv{P:Nat->Prop}(A:Option Addr)(n c:Nat)(L:List Ch)(w:World)(h:Rd P w 3 A n (L.flatMap Ch.cells))(J:L.length=n)(hn:n<=100000000)(M:∀c∈L,c.k.n<=maxLen/\c.v.n<=maxLen):
    Calls prog 154 #[.slice A n c,.func (.func 116) #[] #[]] w λe w'=>Db L e/\aa w w':=by
 have U:=Ld h;have R:=Ld J;have O:=Ld M;clear h J M
 go_enter func154,ntmps154
 go_wp2_with fail;go_loopw [8] (λi wr=>∃j:Nat,j<=n/\i=.int .i64 j/\Hid ((L.take j).all eX=true)/\Hid (aa w wr)) (λi _=>n-(intOf i).toNat)
 case atStart=>exact⟨0,Nat.zero_le _,rfl,Ld (by simp),Ld (aa.refl w)⟩
 case round=>
  obtain⟨j,hj,rfl,I,z⟩:=hrel
  by_cases H:j<n
  ·as_aux_lemma=>
   obtain⟨g,o,hl,rfl,-,-,p⟩:=eZ (f:=Ch.cells) (L:=L) (λ_=>rfl) (by omega) (z.out.rd U.out) H;have D:wr.cell? ⟨g,o+j*3,none⟩=some (.slice L[j].k.A L[j].k.n L[j].k.c):=p 0 _ rfl;have G:wr.cell? ⟨g,o+j*3+1,none⟩=some (.slice L[j].v.A L[j].v.n L[j].v.c):=p 1 _ rfl;have c2:wr.cell? ⟨g,o+j*3+2,none⟩=some (.bool L[j].d):=p 2 _ rfl;have r:=O.out L[j] (List.getElem_mem _);have u:=Ld (λw=>DQ L[j] w r.1 r.2);have s:=ul hl;have l:L[j]∈L:=List.getElem_mem _;generalize L[j]=x at D G c2 u s l;obtain⟨⟨Z,kn,kc,ks⟩,⟨vA,vn,vc,vs⟩,d⟩:=x;unfold Ch.cells at u;dsimp only at D G c2 u;have C:=Ld s;have T:=Ld l;have V:(0:Int)<=(j:Int):=by omega
   have Y:(j:Int)<(n:Int):=by omega
   clear p hl s r l
   go_wp2_with fail;refine(u.out _).mono ?_;rintro e w1 ⟨rfl,y⟩;have t:=Ld (z.out.tr y);clear y u D G c2
   cases hok:eX ⟨⟨Z,kn,kc,ks⟩,⟨vA,vn,vc,vs⟩,d⟩
   ·have q:=Ld hok;clear hok
    go_wp2_with fail;go_ret;refine⟨⟨j,rfl,λh=>?_,λ_=>by omega⟩,t.out⟩;have:=List.all_eq_true.1 h _ T.out;rw[q.out]at this
    cases this
   ·have q:=Ld hok;clear hok
    go_wp2_with fail;go_roundw
    case rel=>exact⟨j+1,by omega,by go_num,Ld (by rw[C.out,I.out,q.out];rfl),t⟩
    case measure=>simp[intOf];omega
  ·as_aux_lemma=>
   obtain rfl:j=n:=by omega
   go_wp2_with fail;go_ret;have N:=I.out;rw[List.take_of_length_le (by rw[R.out];exact Nat.le_refl _)]at N;exact⟨⟨-1,rfl,λ_=>rfl,λh=>by rw[N]at h;cases h⟩,z.out⟩
theorem zh{P:Nat->Prop}(A:Option Addr)(n c:Nat)(L:List Ch)(w:World)(h:Rd P w 3 A n (L.flatMap Ch.cells))(j:L.length=n)(l:n<=100000000)(k:∀c∈L,c.k.n<=maxLen/\c.v.n<=maxLen):
    Calls prog 118 #[.slice A n c,.func (.func 116) #[] #[]] w λe w'=>e=.returned (.bool (!L.all eX))/\aa w w':=by
 have i:=Ld (zv A n c L w h j l k);clear h j k l
 go_enter func118,ntmps118
 go_wp2_with fail;refine i.out.mono ?_;rintro e s ⟨⟨r,rfl,h1,h2⟩,d⟩;have f:=Ld d;have p:=Ld h1;have q:=Ld h2;clear d h1 h2 i
 go_wp2_with fail;go_ret;refine⟨rb ?_,f.out⟩
 cases ha:L.all eX
 ·have:=q.out ha;simp;omega
 ·have:=p.out ha;simp;omega
theorem jL{P:Nat->Prop}(A:Option Addr)(n c:Nat)(L:List Ch)(w:World)(h:Rd P w 3 A n (L.flatMap Ch.cells))(k:L.length=n)(r:n<=100000000)(d:∀c∈L,c.k.n<=maxLen/\c.v.n<=maxLen):
    Calls prog 70 #[.slice A n c] w λe w'=>e=.returned (.bool (bY L))/\aa w w':=by
 have l:=Ld (λ(w':World) (q:aa w w')=>zh A n c L w' (q.rd h) k r d);clear h d;have p:=Ld k;clear k
 go_enter func70,ntmps70
 go_wp2_with fail
 ·refine(l.out _ (aa.refl _)).mono ?_;rintro e s ⟨rfl,f⟩;have j:=Ld f;clear f l;obtain⟨b,d⟩:=nM (L.all eX);rw[<-d];have i:=Ld d;clear d
  go_wp2_with fail;go_ret;refine⟨rb ?_,j.out⟩;unfold bY;rw[p.out,<-i.out,decide_eq_true (by omega:1<=n),decide_eq_true (by omega:n<=600)];simp
 all_goals
  go_ret;refine⟨rb ?_,aa.refl _⟩;unfold bY;rw[p.out]
  first|(rw[decide_eq_true (by omega:1<=n),decide_eq_false (by omega:¬n<=600)];simp;done)|(rw[decide_eq_false (by omega:¬1<=n)];simp;done)
end Go.Proofs.YtfchcdbfalgdlaaGreatDoor
namespace Go.Proofs.YtfchcdbfalgdlaaGreatDoor
open _root_.Go.Proofs.Tryz
open Go.RowKit Go.Maps Go.Sort Go.Shelf
def rv:Go.Shelf.Ren:=⟨λ| 7=>153 | 10=>163 |n=>n,λ| 23=>121 | 26=>9 | 3=>33 | 28=>221 | 0=>0 | 27=>220 | 33=>242 | 4=>4 |n=>n,λ|n=>n⟩
theorem EO:Go.Proofs.SlLaysZ.n7 prog rv:={
 mixed:=by kernel_rfl
 f7:=⟨f153.name,by decide,func153.trans (congrArg some (by kernel_rfl))⟩
 f10:=⟨f163.name,by decide,func163.trans (congrArg some (by kernel_rfl))⟩
 t0:=underlying0
 a0:=isAgg0
 z0:=sizeOf0
 v0:=zeroValue0
 t4:=underlying4
 a4:=isAgg4
 z4:=sizeOf4
 v4:=zeroValue4
 t23:=underlying121
 a23:=isAgg121
 z23:=sizeOf121
 v23:=zeroValue121
 t26:=underlying9
 a26:=isAgg9
 z26:=sizeOf9
 v26:=zeroValue9
 t27:=underlying220
 a27:=isAgg220
 z27:=sizeOf220
 v27:=zeroValue220
 t28:=underlying221
 a28:=isAgg221
 z28:=sizeOf221
 v28:=zeroValue221
 t33:=underlying242
 a33:=isAgg242
 z33:=sizeOf242
 v33:=zeroValue242}
def oe:Go.Shelf.Ren:=⟨λ| 6=>152 | 8=>161 | 9=>162 | 11=>170 | 13=>172 | 12=>171 | 23=>185 | 24=>186 | 14=>176 | 15=>177 | 16=>178 | 17=>179 | 18=>180 | 19=>181 | 20=>182 | 21=>183 | 22=>184 | 25=>189 | 26=>190 | 27=>191 | 28=>192 | 29=>193 | 30=>194 | 31=>195 |n=>n,λ| 26=>9 | 28=>221 | 24=>180 | 0=>0 | 3=>3 | 37=>52 | 48=>44 | 50=>53 | 4=>4 | 40=>255 | 39=>254 | 45=>260 | 5=>5 | 9=>9 | 51=>265 | 55=>269 | 57=>271 | 58=>95 | 33=>242 |n=>n,λ|n=>n⟩
theorem Eh:Go.Proofs.SlLaysZ.n6 prog oe:={
 mixed:=by kernel_rfl
 f6:=⟨f152.name,by decide,func152.trans (congrArg some (by kernel_rfl))⟩
 f8:=⟨f161.name,by decide,func161.trans (congrArg some (by kernel_rfl))⟩
 f11:=⟨f170.name,by decide,func170.trans (congrArg some (by kernel_rfl))⟩
 t0:=underlying0
 a0:=isAgg0
 z0:=sizeOf0
 v0:=zeroValue0
 t24:=underlying180
 a24:=isAgg180
 z24:=sizeOf180
 v24:=zeroValue180
 t26:=underlying9
 a26:=isAgg9
 z26:=sizeOf9
 v26:=zeroValue9
 t28:=underlying221
 a28:=isAgg221
 z28:=sizeOf221
 v28:=zeroValue221
 i26:=by kernel_rfl}
def Al:Go.Shelf.Ren:=⟨λ| 6=>162 | 8=>172 | 9=>171 | 19=>185 | 20=>186 | 21=>176 | 22=>177 | 23=>178 | 24=>179 | 25=>180 | 26=>181 | 27=>182 | 28=>183 | 29=>184 | 36=>189 | 31=>190 | 32=>191 | 37=>192 | 38=>193 | 39=>194 | 41=>195 |n=>n,λ| 27=>180 | 29=>9 | 3=>3 | 32=>52 | 26=>180 | 0=>0 | 44=>44 | 46=>53 | 4=>4 | 36=>255 | 35=>254 | 41=>260 | 5=>5 | 9=>9 | 53=>265 | 57=>269 | 63=>271 | 64=>95 |n=>n,λ|n=>n⟩
theorem EP:Go.Proofs.SlLaysM.n6 prog Al:={
 mixed:=by kernel_rfl
 f6:=⟨f162.name,by decide,func162.trans (congrArg some (by kernel_rfl))⟩
 f8:=func172.trans (congrArg some (by kernel_rfl))
 f9:=⟨f171.name,by decide,func171.trans (congrArg some (by kernel_rfl))⟩
 f19:=func185.trans (congrArg some (by kernel_rfl))
 f20:=func186.trans (congrArg some (by kernel_rfl))
 f21:=⟨f176.name,by decide,func176.trans (congrArg some (by kernel_rfl))⟩
 f22:=⟨f177.name,by decide,func177.trans (congrArg some (by kernel_rfl))⟩
 f23:=⟨f178.name,by decide,func178.trans (congrArg some (by kernel_rfl))⟩
 f24:=⟨f179.name,by decide,func179.trans (congrArg some (by kernel_rfl))⟩
 f25:=⟨f180.name,by decide,func180.trans (congrArg some (by kernel_rfl))⟩
 f26:=⟨f181.name,by decide,func181.trans (congrArg some (by kernel_rfl))⟩
 f27:=⟨f182.name,by decide,func182.trans (congrArg some (by kernel_rfl))⟩
 f28:=⟨f183.name,by decide,func183.trans (congrArg some (by kernel_rfl))⟩
 f29:=⟨f184.name,by decide,func184.trans (congrArg some (by kernel_rfl))⟩
 f31:=func190.trans (congrArg some (by kernel_rfl))
 f32:=func191.trans (congrArg some (by kernel_rfl))
 f36:=⟨f189.name,by decide,func189.trans (congrArg some (by kernel_rfl))⟩
 f37:=⟨f192.name,by decide,func192.trans (congrArg some (by kernel_rfl))⟩
 f38:=⟨f193.name,by decide,func193.trans (congrArg some (by kernel_rfl))⟩
 f39:=⟨f194.name,by decide,func194.trans (congrArg some (by kernel_rfl))⟩
 f41:=⟨f195.name,by decide,func195.trans (congrArg some (by kernel_rfl))⟩
 t0:=underlying0
 a0:=isAgg0
 z0:=sizeOf0
 v0:=zeroValue0
 t3:=underlying3
 a3:=isAgg3
 z3:=sizeOf3
 v3:=zeroValue3
 t4:=underlying4
 a4:=isAgg4
 z4:=sizeOf4
 v4:=zeroValue4
 t5:=underlying5
 a5:=isAgg5
 z5:=sizeOf5
 v5:=zeroValue5
 t9:=underlying9
 a9:=isAgg9
 z9:=sizeOf9
 v9:=zeroValue9
 t26:=underlying180
 a26:=isAgg180
 z26:=sizeOf180
 v26:=zeroValue180
 t27:=underlying180
 a27:=isAgg180
 z27:=sizeOf180
 v27:=zeroValue180
 t29:=underlying9
 a29:=isAgg9
 z29:=sizeOf9
 v29:=zeroValue9
 t32:=underlying52
 a32:=isAgg52
 z32:=sizeOf52
 v32:=zeroValue52
 t35:=underlying254
 a35:=isAgg254
 z35:=sizeOf254
 v35:=zeroValue254
 t36:=underlying255
 a36:=isAgg255
 z36:=sizeOf255
 v36:=zeroValue255
 t41:=underlying260
 a41:=isAgg260
 z41:=sizeOf260
 v41:=zeroValue260
 t44:=underlying44
 a44:=isAgg44
 z44:=sizeOf44
 v44:=zeroValue44
 t46:=underlying53
 a46:=isAgg53
 z46:=sizeOf53
 v46:=zeroValue53
 t53:=underlying265
 a53:=isAgg265
 z53:=sizeOf265
 v53:=zeroValue265
 t57:=underlying269
 a57:=isAgg269
 z57:=sizeOf269
 v57:=zeroValue269
 t63:=underlying271
 a63:=isAgg271
 z63:=sizeOf271
 v63:=zeroValue271
 t64:=underlying95
 a64:=isAgg95
 z64:=sizeOf95
 v64:=zeroValue95}
theorem FP(m:Nat):AnyZ.SortsIn prog oe Fence.wide m:=
 ⟨λblk off cap ss W f c d=>callsIn_wide.2 (AnyM.slices_Sort_string EP blk off cap ss W f c d),
  λp cap W=>callsIn_wide.2 (AnyM.slices_Sort_string_none EP p cap W)⟩
theorem zG (c:Option Nat) (W:World):CallsIn Fence.wide 5 prog 153 #[.map c] W λe w'=>e= .returned (.func (.func 163) #[] #[.pointer (some ⟨W.heap.size,0,none⟩)])/\w'=W.alloc (.cells #[.map c] 121):=
 AnyZ.keys_in EO Fence.wide 5 trivial rfl c W
theorem vw{H:Type}(b nn:Nat)(f:DataW H)(R:Value->Option (DataW H×List MemPlace))(w:World)(d:w.ownsMap prog 9 R b nn f)(i:Maps.size f<=maxLen)(c:Maps.size f*16<=140737488355328):
    CallsIn Fence.wide 5 prog 152 #[.func (.func 163) #[] #[.pointer (some ⟨w.heap.size,0,none⟩)]] (w.alloc (.cells #[.map (some b)] 121)) λe w'=>∃(v:Value) (ss:List (List UInt8)),e= .returned v/\ss.Perm (strKeys f)/\
     w'.ownsRow (w.alloc (.cells #[.map (some b)] 121)).heap.size 9 1 v ss.length ((ss.mergeSort (λx y=>decide (x<=y))).map encStr)/\(v=.slice none 0 0↔ss=[])/\Below (w.alloc (.cells #[.map (some b)] 121)).heap.size (w.alloc (.cells #[.map (some b)] 121)) w':=by
 have k:=d.lt
 have j:SeqGives Fence.wide 2 prog 163 #[.pointer (some ⟨w.heap.size,0,none⟩)] encStr (λss=>ss.Perm (strKeys f)) (Maps.size f) (w.alloc (.cells #[.map (some b)] 121)):=
  AnyZ.keys_gives (ρ:=rv) {EO with} Fence.wide _ trivial rfl (by omega) w.heap.size b nn f _ (by simp) (by simp) (by
   obtain⟨n,clock,q,l,r,p⟩:=d
   exact⟨n,clock,(Below.heap_alloc _ _ b k).trans q,l,r,p⟩)
 exact AnyZ.sorted_in Eh Fence.wide 5 trivial trivial trivial trivial rfl (by omega) (FP _) (enters_of func162 (by kernel_rfl) rfl) 163 #[.pointer (some ⟨w.heap.size,0,none⟩)] trivial (enters_of func163 (by kernel_rfl) rfl) _ _ i c _ j
end Go.Proofs.YtfchcdbfalgdlaaGreatDoor
namespace Go.Proofs.YtfchcdbfalgdlaaGreatDoor
open _root_.Go.Proofs.Tryz
open Go.RowKit Go.Maps Go.Sort
def key_l19(xs:List Int):Lit:=.string (strOfNums xs).data.toList
theorem oD{xs ys:List Int}(c:ba xs)(d:ba ys)(h:key_l19 xs=key_l19 ys):xs=ys:=by
 have:=tX c d;unfold key_l19 at h;injection h with h
 have e:(strOfNums xs).toList=(strOfNums ys).toList:=by
  have:strOfNums xs=strOfNums ys:=by
   have:(strOfNums xs).data=(strOfNums ys).data:=Array.toList_inj.1 h;exact ByteArray.ext this
  rw[this]
 simpa[e]using this
theorem Bv:Keyed prog 9:=string_keyed underlying9
theorem wG{xs:List Int}(h:xs.length<=1000000):keyOf prog 9 (.string (strOfNums xs))=some (key_l19 xs):=
 Go.WideMaps.keyOf_string_mk underlying9 (by rw[strOfNums_size];unfold maxLen;omega)
abbrev gh:=List (List Int×Fm)
def qN(E:gh)(k:List Int):gh:=E.filter λe=>decide (e.1≠k)
def tY(E:gh)(k:List Int)(v:Fm):gh:=qN E k++[(k,v)]
theorem pF(E:gh)(k ys:List Int):(qN E k).lookup ys=if ys=k then none else E.lookup ys:=by
 unfold qN
 induction E with
 |nil=>simp
 |cons e E f=>
  obtain⟨x,v⟩:=e
  by_cases d:x=k
  ·rw[List.filter_cons_of_neg (by simp[d]),f]
   by_cases c:ys=k
   ·rw[if_pos c,if_pos c]
   ·rw [if_neg c,if_neg c,List.lookup_cons];have:(ys==x)=false:=by simp;intro h;exact c (h.trans d)
    rw[this]
  ·rw[List.filter_cons_of_pos (by simp[d]),List.lookup_cons,List.lookup_cons,f]
   by_cases c:ys=x
   ·have:¬ys=k:=λh=>d (c.symm.trans h)
    simp[c,d]
   ·have:(ys==x)=false:=by simpa using c
    rw[this]
theorem wJ(E:gh)(k ys:List Int)(v:Fm):(tY E k v).lookup ys=if ys=k then some v else E.lookup ys:=by
 unfold tY;rw[List.lookup_append,pF]
 by_cases c:ys=k
 ·subst c;simp
 ·rw [if_neg c,if_neg c];have:(ys==k)=false:=by simpa using c
  show(E.lookup ys).or (match ys==k with|true=>some v|false=>none)=_;rw[this]
  cases E.lookup ys<;>rfl
theorem BI{E:gh}(h:(E.map Prod.fst).Nodup)(k:List Int):((qN E k).map Prod.fst).Nodup:=(List.Sublist.map _ List.filter_sublist).nodup h
theorem FB{E:gh}(h:(E.map Prod.fst).Nodup)(k:List Int)(v:Fm):((tY E k v).map Prod.fst).Nodup:=by
 unfold tY;rw[List.map_append,List.nodup_append];refine⟨BI h k,by simp,λx d y c e=>?_⟩;simp at c;subst c e;simp[qN]at d
theorem yx{E:gh}{k:List Int}{e:List Int×Fm}(h:e∈qN E k):e∈E:=(List.mem_filter.1 h).1
theorem DJ{E:gh}{k:List Int}{v:Fm}{e:List Int×Fm}(h:e∈tY E k v):e∈E\/e=(k,v):=by
 rcases List.mem_append.1 h with h|h
 ·exact .inl (yx h)
 ·exact .inr (List.mem_singleton.1 h)
structure dI(X:Nat->Prop)(w:World)(base g b m:Nat)(E:gh):Prop where
 blk:ac w g 123 #[.map (some b)]
 map:∃f,aJ w prog 9 b m f/\(∀xs,ba xs->f (key_l19 xs)=(E.lookup xs).map Fm.val)/\∀kl,(f kl).isSome=true->∃xs,ba xs/\kl=key_l19 xs
 nd:(E.map Prod.fst).Nodup
 el:∀e∈E,ba e.1/\e.1.length<=16/\e.2.In X w/\e.2.n<=16384
 gb:base<=g
 lb:base<=b
 xs:∀k,X k->base<=k/\aK 5 w k
section
variable {X:Nat->Prop}{w w':World}{base g b m:Nat}{E:gh}{S:Nat->Prop}
theorem Fm.In.fr{P:Nat->Prop}{x:Fm}(h:x.In P w)(hF:Fr S w w')(hS:∀k,P k->¬S k):x.In P w':=⟨h.rd.fr hF hS,h.byt⟩
theorem dI.fr(h:dI X w base g b m E)(hF:Fr S w w')(h1:¬S g)(h2:¬S b)(j:∀k,S k->¬X k):dI X w' base g b m E:=by
 obtain⟨f,hm,r⟩:=h.map;exact⟨h.blk.fr hF h1,⟨f,hm.fr hF h2,r⟩,h.nd,λe d=>⟨(h.el e d).1,(h.el e d).2.1,(h.el e d).2.2.1.fr hF (λk c i=>j k i c),(h.el e d).2.2.2⟩,h.gb,h.lb,λk c=>⟨(h.xs k c).1,(h.xs k c).2.fr hF (λi=>j k i c)⟩⟩
theorem dI.new(h:dI X w base g b m E)(c:aa w w'):dI X w' base g b m E:=h.fr (c.toFr ic) (λx=>x) (λx=>x) (λ_ x=>x.elim)
theorem dI.blt(h:dI X w base g b m E):b<w.heap.size:=by obtain⟨f,hm,_⟩:=h.map;exact hm.lt
theorem dI.gne(h:dI X w base g b m E):g≠b:=by
 rintro rfl;obtain⟨f,⟨D,⟨i,clock,d,_⟩,_⟩,_⟩:=h.map;have c:=h.blk;unfold ac at c;rw[d]at c
 cases c
theorem dI.bX(h:dI X w base g b m E):¬X b:=λc=>by
 obtain⟨f,hm,_⟩:=h.map;exact aK.not_map hm (h.xs b c).2
end
theorem DM (base:Nat) (w:World) (c:base<=w.heap.size):Calls prog 23 #[] w λe w'=>∃g b,e= .returned (.pointer (some ⟨g,0,none⟩))/\dI (λ_=>False) w' base g b 0 []/\aa w w'/\w.heap.size<=g/\w.heap.size<=b:=by
 have i:= @run_makeMap prog
 go_enter func23,ntmps23
 go_wp2_with fail;go_ret;refine⟨w.heap.size+1,w.heap.size,rfl,⟨ac.new' _ _ _ (by simp),⟨λ_=>none,(aJ.made w prog 9).alloc _,λxs _=>by simp,λkl h=>by simp at h⟩,by simp,(λe d=>by cases d),(by omega),c,λk f=>f.elim⟩,aa.al (aa.al (aa.refl _) _) _,by omega,Nat.le_refl _⟩
theorem Es{xs:List Int}:(strOfNums xs).data.toList=xs.map (λx=>UInt8.ofNat x.toNat):=by
 rw[strOfNums_data]
def il(E:gh):List (List UInt8):=E.map λe=>(strOfNums e.1).data.toList
theorem Fw(E:gh):(il E).length=E.length:=by simp[il]
theorem pG{E:gh}{xs:List Int}{v:Fm}(h:E.lookup xs=some v):(xs,v)∈E:=by
 induction E with
 |nil=>simp at h
 |cons e E d=>
  obtain⟨x,u⟩:=e;rw[List.lookup_cons]at h
  by_cases c:xs=x
  ·subst c;simp at h;simp[h]
  ·have:(xs==x)=false:=by simpa using c
   rw[this]at h;exact List.mem_cons_of_mem _ (d h)
theorem pH{E:gh}(c:(E.map Prod.fst).Nodup){e:List Int×Fm}(h:e∈E):E.lookup e.1=some e.2:=by
 induction E with
 |nil=>cases h
 |cons d E i=>
  obtain⟨x,u⟩:=d;rw[List.map_cons,List.nodup_cons]at c;rcases List.mem_cons.1 h with rfl|h
  ·simp
  ·rw[List.lookup_cons]
   have:(e.1==x)=false:=by
    simp;intro f;exact c.1 (f▸List.mem_map.2 ⟨e,h,rfl⟩)
   rw[this];exact i c.2 h
theorem Bu{E:gh}(j:(E.map Prod.fst).Nodup)(f:∀e∈E,ba e.1):(il E).Nodup:=by
 unfold il;refine List.pairwise_map.2 ((List.pairwise_map.1 j).imp_of_mem λ{a b} i c d e=>d ?_);exact oD (f a i) (f b c) (by unfold key_l19;rw[e])
theorem Ev{X:Nat->Prop}{w:World}{base g b m:Nat}{E:gh}(h:dI X w base g b m E):∃D:DataW Value,w.ownsMap prog 9 Rv b m D/\(il E).Perm (strKeys D):=by
 obtain⟨f,⟨D,k,n⟩,h1,h2⟩:=h.map;refine⟨D,k,?_⟩;refine Collected.perm (left:=λ_=>false) (ss:=il E) ⟨Bu h.nd (λe j=>(h.el e j).1),λx=>?_⟩ k Bv underlying9 (λ_=>rfl)
 have d:has D (.string x)=true↔(f (.string x)).isSome=true:=by
  rw[n]
  cases has D (.string x)<;>simp
 rw[d];simp only[and_true];constructor
 ·intro c;obtain⟨e,j,rfl⟩:=List.mem_map.1 c;have:=h1 e.1 (h.el e j).1;rw[pH h.nd j]at this;show(f (key_l19 e.1)).isSome=true;rw[this];rfl
 ·intro c;obtain⟨xs,l,i⟩:=h2 _ c;rw[i,h1 xs l]at c
  cases hl:E.lookup xs with
  |none=>rw[hl]at c;cases c
  |some v=>
   have:=pG hl;unfold key_l19 at i;injection i with i;exact List.mem_map.2 ⟨(xs,v),this,i.symm⟩
theorem uF{X:Nat->Prop}{w:World}{base g b m:Nat}{E:gh}(h:dI X w base g b m E)(hm:m<=1000000):
    Calls prog 113 #[.pointer (some ⟨g,0,none⟩)] w λe w'=>(∃v,e=.returned v/\w'.ownsRow w.heap.size 9 1 v E.length (((il E).mergeSort leB).map encStr))/\aa w w':=by
 obtain⟨D,f,j⟩:=Ev h;have i:=f.size_le;have z:w.cell? ⟨g,0,none⟩=some (.map (some b)):=h.blk.cell 0;have q:=Ld (vw b m D Rv w f (by unfold maxLen;omega) (by omega));have p:=Ld j;clear h f j i hm;refine(callsIn_wide (n:=6)).1 ?_;have s:Fence.wide.fn 153:=trivial;have t:Fence.wide.fn 152:=trivial;refine callsIn_of_wp func113 rfl trivial ?_ rfl;simp only[ntmps113,List.size_toArray,List.length_cons,List.length_nil,Nat.reduceAdd,Nat.reduceSub,Array.replicate_succ,Array.replicate_zero,List.push_toArray,List.append_toArray,List.nil_append,List.cons_append]
 gi_wp2_with (first
  |(gi_at_call 153;refine(zG _ _).mono ?_;rintro e w' ⟨rfl,rfl⟩)
  |(gi_at_call 152;refine q.out.mono ?_;rintro e w' ⟨v,ss,rfl,hS,d,k,r⟩))
 go_ret;have c:=hS.trans p.out.symm;have hl:ss.length=E.length:=by rw[c.length_eq,Fw]
 have l:w'.ownsRow w.heap.size 9 1 v ss.length ((ss.mergeSort (λx y=>decide (x<=y))).map encStr):=ownsRow_base_a d (by simp);have u:ss.mergeSort (λx y=>decide (x<=y))=(il E).mergeSort leB:=mergeSort_of_perm c;rw[hl,u]at l;exact⟨⟨v,rfl,l⟩,((Below.refl _ w).alloc (Nat.le_refl _) _).trans (r.mono (by simp))⟩
theorem DF{X:Nat->Prop}{w:World}{base g b m:Nat}{E:gh}(h:dI X w base g b m E)(hm:m<=1000000)(j:E.length<=1000000):
    Calls prog 66 #[.pointer (some ⟨g,0,none⟩)] w λe w'=>e=.returned (.int .i64 E.length)/\aa w w':=by
 have i:=Ld (uF h hm);clear h hm
 go_enter func66,ntmps66
 go_wp2_with fail;refine i.out.mono ?_;rintro e k ⟨⟨v,rfl,hO⟩,d⟩;obtain⟨A,c,rfl,-,-,-,-⟩:=eT hO;have f:=Ld d;clear hO d
 go_wp2_with fail;go_ret;exact⟨rfl,f.out⟩
abbrev CT:=List (List Int×List Int)
def dy(E:gh):CT:=E.map λe=>(e.1,e.2.xs)
def lH(T:CT)(k:List Int):CT:=T.filter λe=>decide (e.1≠k)
def qG(T:CT)(k v:List Int):CT:=lH T k++[(k,v)]
def doC(T:CT)(c:Ch):CT:=if c.d then lH T c.k.xs else qG T c.k.xs c.v.xs
def po(T:CT)(L:List Ch):CT:=L.foldl doC T
theorem ut(E:gh)(k:List Int):dy (qN E k)=lH (dy E) k:=by
 unfold dy qN lH;rw[List.filter_map];rfl
theorem Bh(E:gh)(k:List Int)(v:Fm):dy (tY E k v)=qG (dy E) k v.xs:=by
 unfold qG tY;rw[<-ut];simp[dy]
theorem du(E:gh):(dy E).length=E.length:=by simp[dy]
theorem yg(T:CT)(L:List Ch)(c:Ch):po T (L++[c])=doC (po T L) c:=by simp[po]
theorem Do(T:CT)(k:List Int):(lH T k).length<=T.length:=List.length_filter_le _ _
theorem Fl(T:CT)(c:Ch):(doC T c).length<=T.length+1:=by
 unfold doC qG;have:=Do T c.k.xs;split
 ·omega
 ·simp;omega
theorem dt{L:List Ch}(h:bY L=true):1<=L.length/\L.length<=600/\∀c∈L,1<=c.k.n/\c.k.n<=16/\c.v.n<=16384/\(c.d=true->c.v.n=0):=by
 unfold bY at h;simp only[Bool.and_eq_true,decide_eq_true_eq,List.all_eq_true]at h;obtain⟨⟨h1,h2⟩,j⟩:=h;refine⟨h1,h2,λc k=>?_⟩;have:=j c k;unfold eX at this;simp only[Bool.and_eq_true,decide_eq_true_eq,Bool.not_eq_true',Bool.and_eq_false_iff]at this;obtain⟨⟨⟨a1,f⟩,i⟩,d⟩:=this;refine⟨a1,f,i,λhd=>?_⟩;rcases d with d|d
 ·rw[hd]at d;cases d
 ·simp at d;omega
section
variable {X:Nat->Prop}{w w':World}{base g b m:Nat}{E:gh}
theorem dI.del(h:dI X w base g b m E){k:List Int}{f:Lit->Option Value}(q:ba k)(h1:∀xs,ba xs->f (key_l19 xs)=(E.lookup xs).map Fm.val)(h2:∀kl,(f kl).isSome=true->∃xs,ba xs/\kl=key_l19 xs)
    (l:aJ w' prog 9 b m (ly f (key_l19 k) none)) (hF:Fr (λj=>j=b) w w'):dI X w' base g b m (qN E k):=by
 refine⟨h.blk.fr hF h.gne,⟨_,l,λxs i=>?_,λkl c=>?_⟩,BI h.nd k,λe n=>?_,h.gb,h.lb,λj d=>⟨(h.xs j d).1,(h.xs j d).2.fr hF (λe=>h.bX (e▸d))⟩⟩
 ·rw[pF]
  by_cases e:xs=k
  ·rw[if_pos e,e,gV (kl:=key_l19 k) trivial];rfl
  ·rw[if_neg e,fy (λp=>e (oD i q p)),h1 xs i]
 ·by_cases e:kl=key_l19 k
  ·rw[e,gV (kl:=key_l19 k) trivial]at c
   cases c
  ·rw[fy e]at c;exact h2 kl c
 ·have:=h.el e (yx n);exact⟨this.1,this.2.1,this.2.2.1.fr hF (λj d c=>h.bX (c▸d)),this.2.2.2⟩
theorem dI.put{Y:Nat->Prop}(h:dI X w base g b m E){k:List Int}{v:Fm}{f:Lit->Option Value}(l:ba k)(n:k.length<=16)(h1:∀xs,ba xs->f (key_l19 xs)=(E.lookup xs).map Fm.val)(h2:∀kl,(f kl).isSome=true->∃xs,ba xs/\kl=key_l19 xs)
    (s:aJ w' prog 9 b (m+1) (ly f (key_l19 k) (some v.val))) (hF:Fr (λj=>j=b) w w') (q:v.In Y w') (p:v.n<=16384) (t:∀j,Y j->base<=j/\aK 5 w' j):dI (λj=>X j\/Y j) w' base g b (m+1) (tY E k v):=by
 refine⟨h.blk.fr hF h.gne,⟨_,s,λxs r=>?_,λkl d=>?_⟩,FB h.nd k v,λe i=>?_,h.gb,h.lb,λj c=>?_⟩
 ·rw[wJ]
  by_cases e:xs=k
  ·rw[if_pos e,e,gV (kl:=key_l19 k) trivial];rfl
  ·rw[if_neg e,fy (λu=>e (oD r l u)),h1 xs r]
 ·by_cases e:kl=key_l19 k
  ·exact⟨k,l,e⟩
  ·rw[fy e]at d;exact h2 kl d
 ·rcases DJ i with i | rfl
  ·have:=h.el e i;exact⟨this.1,this.2.1,⟨(this.2.2.1.rd.fr hF (λj c d=>h.bX (d▸c))).imp λ_=>.inl,this.2.2.1.byt⟩,this.2.2.2⟩
  ·exact⟨l,n,⟨q.rd.imp λ_=>.inr,q.byt⟩,p⟩
 ·rcases c with c | c
  ·exact⟨(h.xs j c).1,(h.xs j c).2.fr hF (λe=>h.bX (e▸c))⟩
  ·exact t j c
end
theorem Am{P:Program}{w:World}{ops:Array Oper}{o:Oper}{a:Act}{Q:Exit->Act->World->Prop}{b n:Nat}{f:Lit->Option Value}{k e t:TypeId}{K:Act->World->Prop}{F:Prop}(q:aJ w P k b n f)(l:Keyed P k)(ht:P.underlying t=some (.map k e))(r:o.guard=none)(m x:Operand)
    (i:o.op=Op.call {callee:=Callee.builtin Builtin.delete,args:= #[m,x],argTypes:= #[t,k]})
    (hm:a.eval m=.map (some b)) (key_l19:Value) (kl:Lit) (u:a.eval x=key_l19) (c:keyOf P k key_l19=some kl)
    (p:∀w',aJ w' P k b n (ly f kl none)->Fr (λj=>j=b) w w'->K (a.put o.dst (.tuple #[])) w'):
    if Region.wanted o (yielded ops a.tmps)=true then Oper.wp P o a w K Q else F:=by
 have s:Region.wanted o (yielded ops a.tmps)=true:=by simp[Region.wanted,r]
 rw[if_pos s];obtain⟨w',d,v,y⟩:=q.drop l ht c o.type;unfold Oper.wp;simp[execOp,i,resolve,invoke,builtin,hm,u,d,Result.andThen];exact p w' v y
theorem lf{w:World}{base e s n k:Nat}{v:Value}{xs:List Value}(h:w.ownsRow base e s v n xs)(c:v.ownBlock=some k):aK e w k:=by
 rcases h.2 with⟨rfl,_⟩|⟨g',cap,cur,rfl,_,d,_⟩
 ·simp[Value.ownBlock]at c
 ·have:g'=k:=by simpa [Value.ownBlock] using c
  subst this;exact⟨_,_,d⟩
set_option maxHeartbeats 8000000 in
theorem qW{X P:Nat->Prop}{w:World}{base g b m:Nat}{E:gh}(h:dI X w base g b m E)(A:Option Addr)(n c:Nat)(L:List Ch)(hR:Rd P w 3 A n (L.flatMap Ch.cells))(hL:L.length=n)(i7:∀c∈L,c.In P w)(hP:∀k,P k->k≠b)(c6:bY L=true)(hm:m<=1000000):
    Calls prog 29 #[.pointer (some ⟨g,0,none⟩),.slice A n c] w λe w'=>e=.returned .nilIface/\∃(U:Nat->Prop) (D:gh),dI U w' base g b (m+n) D/\dy D=po (dy E) L/\Fr (λk=>k=b) w w'/\∀k,U k->X k\/w.heap.size<=k:=by
 obtain⟨j7,j8,c'⟩:=dt c6;have HC:=Ld (jL A n c L w hR hL (by omega) (λc hc=>by have:=c' c hc;unfold maxLen;omega));rw[c6]at HC;have H:=Ld h;have HR:=Ld hR;have HL:=Ld hL;have HI:=Ld i7;have HP:=Ld hP;have j0:=Ld c';have k5:n<=600:=by omega
 clear h hR hL i7 hP c6 j7 j8 c'
 go_enter func29,ntmps29
 go_wp2_with fail;refine HC.out.mono ?_;rintro e w1 ⟨rfl,M⟩;have b1:=Ld M;have H1:=Ld (H.out.new M);have j4:=Ld (M.rd HR.out);have j1:Hid (∀c∈L,c.In P w1):=Ld (λc hc=>(HI.out c hc).new b1.out);clear M HC
 go_wp2_with fail;go_loopw [18] (λix wr=>∃(j:Nat) (U:Nat->Prop) (D:gh),j<=n/\ix=.int .i64 j/\Hid (dI U wr base g b (m+j) D/\dy D=po (dy E) (L.take j)/\Fr (λk=>k=b) w1 wr/\∀k,U k->X k\/w1.heap.size<=k)) (λix _=>n-(intOf ix).toNat)
 case atStart=>exact⟨0,X,E,Nat.zero_le _,rfl,Ld ⟨H1.out,rfl,Fr.refl _ _,λ_=>.inl⟩⟩
 case round=>
  obtain⟨j,U,D,hj,rfl,y⟩:=hrel
  by_cases j9:j<n
  ·as_aux_lemma=>
   obtain⟨ga,o,hl,rfl,-,-,O⟩:=eZ (f:=Ch.cells) (L:=L) (λ_=>rfl) (by omega) (j4.out.fr y.out.2.2.1 (λk q hs=>HP.out k q hs)) j9;have c0:wr.cell? ⟨ga,o+j*3,none⟩=some (.slice L[j].k.A L[j].k.n L[j].k.c):=O 0 _ rfl;have c1:wr.cell? ⟨ga,o+j*3+1,none⟩=some (.slice L[j].v.A L[j].v.n L[j].v.c):=O 1 _ rfl;have c2:wr.cell? ⟨ga,o+j*3+2,none⟩=some (.bool L[j].d):=O 2 _ rfl;have N:=j0.out L[j] (List.getElem_mem _);have u:=j1.out L[j] (List.getElem_mem _);have c8:L.take (j+1)=L.take j++[L[j]]:=List.take_succ_eq_append_getElem hl;generalize L[j]=x at c0 c1 c2 N u c8;obtain⟨⟨C,kn,T,z⟩,⟨V,vn,Y,vs⟩,d⟩:=x;dsimp only at c0 c1 c2 N;have k3:(0:Int)<=(j:Int):=by omega
   have k4:(j:Int)<(n:Int):=by omega
   have c4:Fm.In P wr ⟨C,kn,T,z⟩:=u.k.fr y.out.2.2.1 (λk q hs=>HP.out k q hs);have j':Fm.In P wr ⟨V,vn,Y,vs⟩:=u.v.fr y.out.2.2.1 (λk q hs=>HP.out k q hs);have I:=Ld c4;have g7:=Ld j';have g6:=Ld c8;have i9:z.length=kn:=c4.len;have b0:=Ld N;have g4:=Ld i9;clear O hl N u c8 c4 j' i9
   go_upto_region 8 with fail;obtain⟨r,R⟩:=nM (wr.alloc (.cells #[.slice C kn T,.slice V vn Y,.bool d] 92):World);obtain⟨b6,b9⟩:=nM (wr.heap.size);have s:Hid (aa wr r):=Ld (by rw[R];exact aa.al (aa.refl _) _);have Z:Hid (ac r b6 92 #[.slice C kn T,.slice V vn Y,.bool d]):=Ld (by rw[R,b9];exact ac.new _ _ _);rw[<-R,<-b9];clear R b9 c0 c1 c2;have HT:=Ld (y.out.1.new s.out);have a0:r.cell? ⟨b6,0,none⟩=some (.slice C kn T):=Z.out.cell 0;have a1:r.cell? ⟨b6,1,none⟩=some (.slice V vn Y):=Z.out.cell 1;have a2:r.cell? ⟨b6,2,none⟩=some (.bool d):=Z.out.cell 2;have g0:r.cell? ⟨g,0,none⟩=some (.map (some b)):=HT.out.blk.cell 0;have i4:=eI (c:=T) (w:=r.drew) (show Rd P r.drew 1 C kn (an z)from(aa.dr s.out).rd I.out.rd);obtain⟨f,hM,i5,i6⟩:=HT.out.map;have c3:=wG (xs:=z) (by have:=b0.out.2.1;have:=g4.out;omega);obtain⟨st,c7⟩:=nM (strOfNums z);rw[<-c7]at i4 c3;have HM:Hid (aJ r.drew prog 9 b (m+j) f):=Ld hM;have g5:=Ld c3;have c9:=Ld i5;have d':=Ld i6;have b7:=Ld c7;clear c7 hM c3 i5 i6
   cases d
   ·have k1:vn<=16384:=b0.out.2.2.1
    go_wp2_with fail;have p:∀w',aa r w'->(λw'=>w'.cell? ⟨g,0,none⟩=some (.map (some b))/\w'.cell? ⟨b6,0,none⟩=some (.slice C kn T)/\w'.cell? ⟨b6,1,none⟩=some (.slice V vn Y)/\Rd P w' 1 C kn (an z)) w':=λw' hN=>⟨hN.cell_ g0,hN.cell_ a0,hN.cell_ a1,(s.out.tr hN).rd I.out.rd⟩
    clear i4;refine iT (λw'=>w'.cell? ⟨g,0,none⟩=some (.map (some b))/\w'.cell? ⟨b6,0,none⟩=some (.slice C kn T)/\w'.cell? ⟨b6,1,none⟩=some (.slice V vn Y)/\Rd P w' 1 C kn (an z)) 11 (by kernel_rfl) ?_;refine aG (i:=0) (oi:=⟨_,_,_,_,_,_⟩) (v:=.pointer (some ⟨g,0,none⟩)) rfl (by kernel_rfl) (by kernel_rfl) (by kernel_rfl) (by kernel_rfl) (λ_ _ _ h=>h) (Or.inl ⟨by rfl,λw l=>by obtain⟨s1,s2,s3,s4⟩:=l;clear s4;go_simp⟩) (p _ (aa.dr (aa.refl _))) ?_
    try simp only[Act.put,bC,bD,bF]
    refine aG (i:=1) (oi:=⟨_,_,_,_,_,_⟩) (v:=.pointer (some ⟨g,0,none⟩)) rfl (by kernel_rfl) (by kernel_rfl) (by kernel_rfl) (by kernel_rfl) (λ_ _ _ h=>h) (Or.inl ⟨by rfl,λw l=>by obtain⟨s1,s2,s3,s4⟩:=l;clear s4;go_simp⟩) (p _ (aa.dr (aa.refl _))) ?_
    try simp only[Act.put,bC,bD,bF]
    refine aG (i:=2) (oi:=⟨_,_,_,_,_,_⟩) (v:=.pointer (some ⟨g,0,none⟩)) rfl (by kernel_rfl) (by kernel_rfl) (by kernel_rfl) (by kernel_rfl) (λ_ _ _ h=>h) (Or.inl ⟨by rfl,λw l=>by obtain⟨s1,s2,s3,s4⟩:=l;clear s4;go_simp⟩) (p _ (aa.dr (aa.refl _))) ?_
    try simp only[Act.put,bC,bD,bF]
    refine aG (i:=3) (oi:=⟨_,_,_,_,_,_⟩) (v:=.map (some b)) rfl (by kernel_rfl) (by kernel_rfl) (by kernel_rfl) (by kernel_rfl) (λ_ _ _ h=>h) (Or.inl ⟨by rfl,λw l=>by obtain⟨s1,s2,s3,s4⟩:=l;clear s4;go_simp⟩) (p _ (aa.dr (aa.refl _))) ?_
    try simp only[Act.put,bC,bD,bF]
    refine aG (i:=4) (oi:=⟨_,_,_,_,_,_⟩) (v:=.pointer (some ⟨b6,0,none⟩)) rfl (by kernel_rfl) (by kernel_rfl) (by kernel_rfl) (by kernel_rfl) (λ_ _ _ h=>h) (Or.inl ⟨by rfl,λw l=>by obtain⟨s1,s2,s3,s4⟩:=l;clear s4;go_simp⟩) (p _ (aa.dr (aa.refl _))) ?_
    try simp only[Act.put,bC,bD,bF]
    refine aG (i:=5) (oi:=⟨_,_,_,_,_,_⟩) (v:=.slice C kn T) rfl (by kernel_rfl) (by kernel_rfl) (by kernel_rfl) (by kernel_rfl) (λ_ _ _ h=>h) (Or.inl ⟨by rfl,λw l=>by obtain⟨s1,s2,s3,s4⟩:=l;clear s4;go_simp⟩) (p _ (aa.dr (aa.refl _))) ?_
    try simp only[Act.put,bC,bD,bF]
    refine aG (i:=6) (oi:=⟨_,_,_,_,_,_⟩) (v:=.string st) rfl (by kernel_rfl) (by kernel_rfl) (by kernel_rfl) (by kernel_rfl) (λ_ _ _ h=>h) (Or.inl ⟨by rfl,λw l=>by have s4:=eI (c:=T) l.2.2.2;rw[<-b7.out]at s4;go_simp⟩) (p _ (aa.dr (aa.refl _))) ?_
    try simp only[Act.put,bC,bD,bF]
    refine aG (i:=8) (oi:=⟨_,_,_,_,_,_⟩) (v:=.pointer (some ⟨b6,1,none⟩)) rfl (by kernel_rfl) (by kernel_rfl) (by kernel_rfl) (by kernel_rfl) (λ_ _ _ h=>h) (Or.inl ⟨by rfl,λw l=>by obtain⟨s1,s2,s3,s4⟩:=l;clear s4;go_simp⟩) (p _ (aa.dr (aa.refl _))) ?_
    try simp only[Act.put,bC,bD,bF]
    refine aG (i:=9) (oi:=⟨_,_,_,_,_,_⟩) (v:=.slice V vn Y) rfl (by kernel_rfl) (by kernel_rfl) (by kernel_rfl) (by kernel_rfl) (λ_ _ _ h=>h) (Or.inl ⟨by rfl,λw l=>by obtain⟨s1,s2,s3,s4⟩:=l;clear s4;go_simp⟩) (p _ (aa.dr (aa.refl _))) ?_
    try simp only[Act.put,bC,bD,bF]
    refine aF (rs:=[7]) (by kernel_rfl) (by simp) (dl.cons (i:=7) (o:=.mk ..) rfl (λK hK=>?_) dl.nil);go_simp
    try simp only[Act.put,bC,bD,bF]
    refine hK.out _ _ (λ_=>p _ (by repeat(first|exact aa.refl _|refine aa.dr ?_|refine aa.al ?_ _))) ?_;refine aF (rs:=[10]) (by kernel_rfl) (by simp) (dl.cons (i:=10) (o:=.mk ..) rfl (λK hK=>?_) dl.nil);refine ce kB _ (by rfl) (.tmp 38) (.tmp 40) (by rfl) r.heap.size (.slice (some ⟨r.heap.size,0,none⟩) 0 0) 0 [] (by rfl) (dQ (ac.new r.drew 5 #[]) (Nat.le_refl _)) V vn Y (an vs) (by rfl) ((aa.al (aa.dr s.out) _).rd g7.out.rd) (aR vs) (by unfold maxLen;omega) (by omega) (by simp) ?_;intro A5 d5 w5 b8 g9 j5;have i2:aa r w5:=(aa.al (aa.dr (aa.refl r)) _).fr g9 (by intro k q;simp[Value.ownBlock]at q;omega);rw[Nat.zero_add,List.nil_append]at b8;rw[Nat.zero_add];have J:=Ld i2;have b3:=Ld b8;clear i2 b8 g9 j5
    try simp only[Act.put,bC,bD,bF]
    refine hK.out _ _ (λ_=>p _ (aa.tr (aa.refl _) J.out)) ?_;refine aF (rs:=[11]) (by kernel_rfl) (by simp) (dl.cons (i:=11) (o:=.mk ..) rfl (λK hK=>?_) dl.nil);obtain⟨w6,k0,i1,i'⟩:=aJ.store (t:=121) ((show aJ w5 prog 9 b (m+j) f from aJ.fr (w:=r) HM.out (J.out.toFr ic) (λx=>x))) Bv underlying121 (by unfold maxLen;omega) g5.out (.slice A5 vn d5);have j3:=Ld i1;have G:=Ld i';clear i1 i';go_simp
    try simp only[Act.put,bC,bD,bF]
    refine hK.out _ _ (λh=>absurd rfl h) ?_;refine fH (by kernel_rfl) ?_ _
    go_wp2_with fail;go_roundw
    case rel=>
     have j6:=HT.out.new J.out;have c5:∀k,(Value.slice A5 vn d5).ownBlock=some k->r.heap.size<=k/\k<w5.heap.size:=λk q=>am b3.out k q
     have i3:∀k,(Value.slice A5 vn d5).ownBlock=some k->k≠b:=λk q=>by
      have h1:=(c5 k q).1;have h2:=HT.out.blt;omega
     have hv:Fm.In (λk=>(Value.slice A5 vn d5).ownBlock=some k) w6 ⟨A5,vn,d5,vs⟩:=⟨(Rd.own b3.out rfl).fr G.out (λk q e=>i3 k q e),g7.out.byt⟩
     have b':base<=r.heap.size:=Nat.le_trans HT.out.lb (Nat.le_of_lt HT.out.blt);have ht:=j6.put I.out.byt (by show z.length<=16;have k2:kn<=16:=b0.out.2.1;have:=g4.out;omega) c9.out d'.out j3.out G.out hv (by exact k1) (λk q=>⟨Nat.le_trans b' (c5 k q).1,(lf b3.out q).fr G.out (λe=>i3 k q e)⟩);refine⟨j+1,_,tY D z ⟨A5,vn,d5,vs⟩,by omega,by go_num,Ld ⟨ht,?_,y.out.2.2.1.trans ((s.out.toFr _).trans ((J.out.toFr _).trans G.out)),?_⟩⟩
     ·rw[Bh,y.out.2.1,g6.out,yg];rfl
     ·rintro k (q|q)
      ·exact y.out.2.2.2 k q
      ·have h1:=(c5 k q).1;have h2:=s.out.size;have h3:=y.out.2.2.1.size;exact .inr (by omega)
    case measure=>simp[intOf];omega
   ·go_wp2_with fail;go_region_law (refine Am HM.out Bv underlying121 rfl (.tmp 27) (.tmp 30) rfl (by simp[Act.eval,Act.put]) (.string st) (key_l19 z) (by simp[Act.eval,Act.put]) g5.out ?_;intro w3 i0 g8)
    all_goals
     have j2:=Ld i0;have g3:Hid (Fr (λk=>k=b) r w3):=Ld (Fr.ofDrew g8);clear i0 g8
     go_wp2_with fail;go_roundw
     case rel=>
      refine⟨j+1,U,qN D z,by omega,by go_num,Ld ⟨?_,?_,y.out.2.2.1.trans ((s.out.toFr _).trans g3.out),y.out.2.2.2⟩⟩
      ·have ht:=HT.out.del I.out.byt c9.out d'.out j2.out g3.out;obtain⟨f',k',r'⟩:=ht.map;exact⟨ht.blk,⟨f',k'.mono (by omega),r'⟩,ht.nd,ht.el,ht.gb,ht.lb,ht.xs⟩
      ·rw[ut,y.out.2.1,g6.out,yg];rfl
     case measure=>simp[intOf];omega
  ·as_aux_lemma=>
   obtain rfl:j=n:=by omega
   go_wp2_with fail;go_ret;obtain⟨h1,h2,h3,h4⟩:=y.out;rw[List.take_of_length_le (by rw[HL.out];exact Nat.le_refl _)]at h2;exact⟨rfl,U,D,h1,h2,(b1.out.toFr _).trans h3,λk q=>(h4 k q).imp id (λe=>Nat.le_trans b1.out.size e)⟩
attribute [local go_sem] Oper.semAt_some
theorem sF (v:Option Addr) (w:World):Calls prog 67 #[.pointer v] w λe w'=>e= .returned (.func (.func 114) #[] #[.pointer (some ⟨w.heap.size,0,none⟩)])/\w'=w.alloc (.cells #[.pointer v] 42):=by
 go_enter func67,ntmps67
 go_wp2_with fail;go_ret;exact⟨rfl,rfl⟩
def EL(x:List Int×Fm):Array Value:= #[.string (strOfNums x.1),x.2.val]
attribute [local go_sem] Oper.semAt_some
def sb(xs:List Int):List UInt8:=(strOfNums xs).data.toList
theorem Fp(xs:List Int):encStr (sb xs)=.string (strOfNums xs):=by
 unfold sb;simp[encStr]
def st(E:gh):gh:=E.mergeSort (λa b=>leB (sb a.1) (sb b.1))
def aI(T:CT):CT:=T.mergeSort (λa b=>leB (sb a.1) (sb b.1))
theorem ye(E:gh):dy (st E)=aI (dy E):=by
 unfold dy st aI;exact List.map_mergeSort (λa _ b _=>rfl)
theorem tU(E:gh):(st E).Perm E:=List.mergeSort_perm E _
theorem tS(E:gh):(st E).length=E.length:=(tU E).length_eq
theorem FR{E:gh}{e:List Int×Fm}(h:e∈st E):e∈E:=(tU E).mem_iff.1 h
def ti(E:gh):List Value:=(st E).map λe=>.string (strOfNums e.1)
theorem zy(E:gh):((il E).mergeSort leB).map encStr=ti E:=by
 have h:(il E).mergeSort leB=(st E).map (λe=>sb e.1):=by
  unfold il st;exact(List.map_mergeSort (f:=λe:List Int×Fm=>sb e.1) (s:=leB) (λa _ b _=>rfl)).symm
 rw[h,List.map_map];unfold ti;exact List.map_congr_left λe _=>Fp e.1
theorem dS{p:Nat->Prop}{w:World}{s n:Nat}{A:Option Addr}{xs:List Value}(h:Rd p w s A n xs):Rd (λb=>b<w.heap.size) w s A n xs:=
 ⟨h.1,λi=>by obtain⟨d,e,_,c,f⟩:=h.2 i;exact⟨d,e,c,c,f⟩⟩
def Kk(B:Nat)(S:Nat->Prop)(W W':World):Prop:=Fr (λj=>S j\/(B<=j/\¬aK 9 W j)) W W'
section
variable {B:Nat}{S:Nat->Prop}{A W W':World}
theorem Kk.tr(h:Kk B S A W)(k:Kk B S W W'):Kk B S A W':=by
 refine⟨k.os.trans h.os,k.tape.trans h.tape,k.output.trans h.output,Nat.le_trans h.size k.size,λj d f=>?_⟩;have e:=h.block j d f;refine(k.block j (Nat.lt_of_lt_of_le d h.size) (λc=>f ?_)).trans e;rcases c with c|⟨c,ht⟩
 ·exact .inl c
 ·refine .inr ⟨c,λhi=>ht ?_⟩;obtain⟨cs,fz,i⟩:=hi;exact⟨cs,fz,e.trans i⟩
theorem Kk.puts(h:eN B W W'):Kk B S W W':=by
 have j:∀{k:Nat} {o:Obj},W.heap[k]?=some o->o.isCells=true->W'.heap[k]?=some o:=λh1 h2=>h.keep h1 h2
 obtain⟨l,n,o',f,hl,d,rfl⟩:=h;refine⟨rfl,rfl,rfl,by simp,λk _ i=>World.putObj_heap_other λe=>i (.inr ⟨e▸f,?_⟩)⟩;rintro⟨cs,fz,c⟩;rw[e,hl]at c;injection c with c;rw[c]at d
 cases d
theorem Kk.fr(h:Fr S W W'):Kk B S W W':=h.mono λ_ _ x=>.inl x
end
def ug(B:Nat)(x:List Int×Fm)(W:World):Prop:=W.ownsRow B 5 1 x.2.val x.2.n (an x.2.xs)/\ba x.2.xs/\x.2.n<=16384/\ba x.1/\x.1.length<=16
theorem ug.puts{B:Nat}{x:List Int×Fm}{W W':World}(h:ug B x W)(c:eN B W W'):ug B x W':=⟨c.own h.1,h.2⟩
def Gd(E:gh)(pre:List (List Int×Fm))(x:List Int×Fm):Prop:=∃e,(st E)[pre.length]?=some e/\x.1=e.1/\x.2.xs=e.2.xs/\x.2.n=e.2.n
theorem Hk(w:World):(zeroValue 33).run prog w=.ok (.slice none 0 0) w:=by
 first|exact zeroValue33 w|simp[zeroValue33,go_sem]|kernel_rfl
theorem mZ{X:Nat->Prop}{w:World}{base g b m:Nat}{E:gh}(h:dI X w base g b m E)(hm:m<=1000000)(hE:E.length<=1000000)(S:Nat->Prop)(r:Nat)(O:ac w r 42 #[.pointer (some ⟨g,0,none⟩)])
    (hS:∀j,S j->j<w.heap.size/\j≠g/\j≠b/\¬X j/\j≠r):
    vR (Gd E) prog 114 #[.pointer (some ⟨r,0,none⟩)] EL (ug w.heap.size) (Kk w.heap.size S) (λxs=>xs.map (λx=>(x.1,x.2.xs))=dy (st E)) 1000001 w:=by
 have L:∀j,X j->j<w.heap.size:=λj hj=>by
  obtain⟨_,cs,fz,G⟩:=h.xs j hj;exact(Array.getElem?_eq_some_iff.1 G).1
 have c0:=h.blk.lt;have c':=h.blt;have D:=O.lt;obtain⟨B,hB⟩:=nM (w.heap.size);rw[<-hB]at hS L c0 c' D⊢
 have d:∀W W',Kk B S W W'->(dI X W base g b m E/\ac W r 42 #[.pointer (some ⟨g,0,none⟩)])->(dI X W' base g b m E/\ac W' r 42 #[.pointer (some ⟨g,0,none⟩)]):=λW W' R h=>
  ⟨h.1.fr R (λz=>z.elim (λx=>(hS _ x).2.1 rfl) (λx=>by omega)) (λz=>z.elim (λx=>(hS _ x).2.2.1 rfl) (λx=>by omega)) (λk z G=>z.elim (λx=>(hS _ x).2.2.2.1 G) (λx=>by have:=L k G;omega)),
   h.2.fr R (λz=>z.elim (λx=>(hS _ x).2.2.2.2 rfl) (λx=>by omega))⟩
 have i:∀(W W':World) (bs n:Nat) (v:Value) (xs:List Value),Kk B S W W'->B<=bs->W.ownsRow bs 9 1 v n xs->W'.ownsRow bs 9 1 v n xs:=λW W' bs n v xs R d' ho=>
  bg ho R (λk hv z=>z.elim (λx=>by have:=(hS k x).1;have:=(am ho k hv).1;omega) (λx=>x.2 (lf ho hv)))
 have d:=Ld d;have i:=Ld i;intro l J W hW hJ hY h0;refine callsIn_wide.2 ?_;have q:Hid (dI X W base g b m E/\ac W r 42 #[.pointer (some ⟨g,0,none⟩)]):=Ld ⟨h.new hW,hW.blk O⟩;have V:Hid (B<=W.heap.size):=Ld (by rw[hB];exact hW.size);have HY:=Ld hY;have HJ:=Ld hJ;have H0:=Ld h0;have i1:W.cell? ⟨r,0,none⟩=some (.pointer (some ⟨g,0,none⟩)):=q.out.2.cell 0;have HK:=Ld (uF q.out.1 hm);clear hY hJ hW O h0 h hS L c0 c' D hB;show Calls prog 114 #[.func (.yield l) #[] #[],.pointer (some ⟨r,0,none⟩)] W _
 go_enter func114,ntmps114
 go_wp2_with fail;refine HK.out.mono ?_;rintro e w1 ⟨⟨v,rfl,hO⟩,y⟩;rw[zy]at hO;obtain⟨A1,c1,rfl,-,-,-,-⟩:=eT hO;generalize hn:E.length=n at*;have b0:=Ld hO;have Y:=Ld (HJ.out _ _ _ H0.out y);have b3:Hid (dI X w1 base g b m E/\ac w1 r 42 #[.pointer (some ⟨g,0,none⟩)]):=Ld ⟨q.out.1.new y,y.blk q.out.2⟩;clear hO y HK q i1
 go_wp2_with fail;go_loopw [8] (λix wr=>∃(k:Nat) (pre:List (List Int×Fm)),k<=n/\ix=.int .i64 k/\pre.map (λx=>(x.1,x.2.xs))=(dy (st E)).take k/\Hid (J pre wr)/\Hid (wr.ownsRow W.heap.size 9 1 (.slice A1 n c1) n (ti E))/\Hid (dI X wr base g b m E/\ac wr r 42 #[.pointer (some ⟨g,0,none⟩)])) (λix _=>n-(intOf ix).toNat)
 case atStart=>exact⟨0,[],Nat.zero_le _,rfl,by simp,Y,b0,b3⟩
 case round=>
  obtain⟨k,pre,R,rfl,t,Z,u,c⟩:=hrel;clear Y b0 b3 H0
  by_cases g5:k<n
  ·obtain ⟨bA,cA,he,-,-⟩:=dv u.out (by omega);injection he with c6 f' c7;subst c6 c7;have c3:k<(st E).length:=by rw [tS];omega
   obtain⟨x,G⟩:=nM ((st E)[k]);have U:x∈E:=FR (by rw[G];exact List.getElem_mem _);have I:Hid ((st E)[k]?=some x):=Ld (by rw[List.getElem?_eq_getElem c3,G])
   have s:wr.cell? ⟨bA,k,none⟩=some (.string (strOfNums x.1)):=by
    obtain⟨g',o',hA,-,-,hq⟩:=(Rd.own u.out rfl).out (by omega) (by omega);injection hA with hA;injection hA with e1 e2 e3;subst e1 e2;have:=hq k _ (by unfold ti;rw[List.getElem?_map,I.out];rfl)
    rwa[Nat.zero_add]at this
   have T:=c.out.1.el x U
   have c4:(Instr.lookup 121 (.map (some b)) (.string (strOfNums x.1)) false).run prog wr=.ok x.2.val wr:=by
    obtain⟨f,hM,h1,-⟩:=c.out.1.map;have:=(hM.look Bv underlying121 (Hk wr) (wG (xs:=x.1) (by omega))).2;rw[this,h1 x.1 T.1,pH c.out.1.nd U];rfl
   have j1:wr.cell? ⟨r,0,none⟩=some (.pointer (some ⟨g,0,none⟩)):=c.out.2.cell 0;have j2:wr.cell? ⟨g,0,none⟩=some (.map (some b)):=c.out.1.blk.cell 0;have p:=Ld T;have g3:(0:Int)<=(k:Int):=by omega
   have g4:(k:Int)<(n:Int):=by omega
   clear G U c3 T;obtain⟨xk,xA,xn,xc,xs⟩:=x;simp only[Fm.val]at c4;dsimp only at s c4
   go_upto_region 3 with fail;refine(wpIn_wide (n:=3)).1 ?_
   gi_wp2
   refine⟨trivial,?_⟩
   have c8:pre.length=k:=by
    have:=congrArg List.length t;rw[List.length_map,List.length_take,du,tS]at this;omega
   refine(callsIn_wide.2 (oX xA xn xc xs wr (dS p.out.2.2.1.rd) (by have:=p.out.2.2.2;omega))).mono ?_;rintro e w2 ⟨⟨A2,c2,rfl,N⟩,M⟩
   have b9:B<=wr.heap.size:=by
    have h1:=(am u.out bA (by simp[Value.ownBlock]))
    have:=V.out;omega
   have C:=im (b:=B) N (λk R=>by have:=(am N k R).1;omega);obtain⟨fn,tmps,c9,bo,hy,hR⟩:=HY.out pre (xk,⟨A2,xn,c2,xs⟩) w2 (by omega) (HJ.out _ _ _ Z.out M) ⟨C,p.out.2.2.1.byt,p.out.2.2.2,p.out.1,p.out.2.1⟩ ⟨(xk,⟨xA,xn,xc,xs⟩),by rw[c8];exact I.out,rfl,rfl,rfl⟩;simp only[Fm.val,EL]at hy;have H:Hid (aa wr w2):=Ld M;have HR:=Ld hR;clear N C M hR
   gi_wp2
   refine HR.out.mono ?_;rintro e w3 ⟨rfl,b7,b8⟩;have c5:=Ld b7;have b':=Ld b8;clear b7 b8 HR hy s
   gi_wp2
   try go_wp2_with fail
   go_roundw
   case rel=>
    refine⟨k+1,pre++[(xk,⟨A2,xn,c2,xs⟩)],by omega,by go_num,?_,c5,Ld (i.out _ _ _ _ _ _ b'.out V.out (aa.own H.out u.out)),Ld (d.out _ _ b'.out ⟨c.out.1.new H.out,H.out.blk c.out.2⟩)⟩;rw[List.map_append,t,List.take_add_one];unfold dy;rw[List.getElem?_map,I.out];rfl
   case measure=>simp[intOf];omega
  ·as_aux_lemma=>
    obtain rfl:k=n:=by omega
    go_wp2_with fail;go_end0
    exact⟨⟨_,rfl⟩,pre,by rw[t,<-hn,List.take_of_length_le (by rw[du,tS];omega)],Z.out⟩
theorem wK(b n:Nat)(f:Lit->Option Value)(w:World)(h:aJ w prog 9 b n f):
    Calls prog 69 #[.map (some b)] w λe w'=>e=.returned (.map (some w.heap.size))/\aJ w' prog 9 w.heap.size n f/\aa w w':=by
 obtain⟨o,c,d⟩:=aJ.cloned (t:=121) h;have i:=Ld d;have j:=λw=>run_eql_map_nil_sl (P:=prog) w 121 _ _ (some b) underlying121
 clear d h
 go_enter func69,ntmps69
 go_wp2
 rw[run_callFunc_extern func115 (by kernel_rfl) (by kernel_rfl) (by kernel_rfl) (e:=Extern.MapsClone.clone) (by kernel_rfl),c];simp only[Result.andThen];rw[Oper.upon_value]
 go_wp2
 rw[run_typeAssert_map_sl _ 121 20 _ _ _ underlying121];simp only[Result.andThen];rw[Oper.upon_value]
 go_wp2
 go_ret;exact⟨rfl,i.out,aa.al (aa.refl _) _⟩
theorem sP{X:Nat->Prop}{w:World}{base g b m:Nat}{E:gh}(h:dI X w base g b m E)(d:base<=w.heap.size):
    Calls prog 28 #[.pointer (some ⟨g,0,none⟩)] w λe w'=>∃g' p,e=.returned (.pointer (some ⟨g',0,none⟩))/\dI X w' base g' p m E/\aa w w'/\w.heap.size<=g'/\w.heap.size<=p:=by
 obtain⟨f,q,h1,h2⟩:=h.map;have H:=Ld h;have y:w.cell? ⟨g,0,none⟩=some (.map (some b)):=h.blk.cell 0;have n:=Ld (wK b m f w q);clear h q
 go_enter func28,ntmps28
 go_wp2_with fail;refine n.out.mono ?_;rintro e v ⟨rfl,i,j⟩;have l:=Ld i;have c:=Ld j;clear i j n
 go_wp2_with fail;go_ret;have u:=c.out.size;refine⟨v.heap.size,w.heap.size,rfl,⟨ac.new _ _ _,⟨f,l.out.alloc _,h1,h2⟩,H.out.nd,λe t=>?_,by omega,d,λk r=>?_⟩,aa.al c.out _,u,Nat.le_refl _⟩
 ·have:=H.out.el e t;have s:=aa.al c.out (.cells #[.map (some w.heap.size)] 123);exact⟨this.1,this.2.1,⟨s.rd this.2.2.1.rd,this.2.2.1.byt⟩,this.2.2.2⟩
 ·exact⟨(H.out.xs k r).1,(H.out.xs k r).2.fr ((aa.al c.out (.cells #[.map (some w.heap.size)] 123)).toFr ic) (λx=>x)⟩
def kf(E:gh)(k:List Int):Fm:=(E.lookup k).getD ⟨none,0,0,[]⟩
theorem uB{X q:Nat->Prop}{w:World}{base g b m:Nat}{E:gh}(h:dI X w base g b m E)(A:Option Addr)(n c:Nat)(xs:List Int)(y:Rd q w 1 A n (an xs))(I:ba xs)(V:n<=1000000):
    Calls prog 50 #[.pointer (some ⟨g,0,none⟩),.slice A n c] w λe w'=>∃G H,e=.returned (.tuple #[.slice G (kf E xs).n H,.bool (E.lookup xs).isSome])/\w'.ownsRow w.heap.size 5 1 (.slice G (kf E xs).n H) (kf E xs).n (an (kf E xs).xs)/\aa w w':=by
 have M:xs.length=n:=by have:=y.1;rw[ak]at this;omega
 have j:=wG (xs:=xs) (by omega);have C:=λq=>eI (c:=c) (w:=w.drewN q) y
 have U:w.cell? ⟨g,0,none⟩=some (.map (some b)):=h.blk.cell 0
 have i:(kf E xs).n<=1000000/\Rd X w 1 (kf E xs).A (kf E xs).n (an (kf E xs).xs):=by
  unfold kf
  cases hl:E.lookup xs with
  |none=>exact⟨by simp,⟨rfl,λh=>absurd h (by simp)⟩⟩
  |some v=>have:=h.el _ (pG hl);exact⟨by have J:=this.2.2.2;dsimp only at J;show v.n<=1000000;omega,this.2.2.1.rd⟩
 have d:∀q,(Instr.lookup 121 (.map (some b)) (.string (strOfNums xs)) true).run prog (w.drewN q)=.ok (.tuple #[(kf E xs).val,.bool (E.lookup xs).isSome]) (w.drewN q):=λq=>by
  obtain⟨f,u,h1,-⟩:=h.map;have L:aJ (w.drewN q) prog 9 b m f:=u;have:=(L.look Bv underlying121 (z:=.slice none 0 0) (Hk _) j).1;rw[h1 xs I]at this;rw[this];unfold kf
  cases E.lookup xs<;>rfl
 obtain⟨i,p⟩:=i;have t:=Ld p;generalize strOfNums xs=Y at j C d;generalize (E.lookup xs).isSome=D at d⊢;generalize kf E xs=x at d i t⊢;clear j y h I p;obtain⟨N,R,O,T⟩:=x;simp only[Fm.val]at d;dsimp only at i t⊢
 go_enter func50,ntmps50
 go_wp2_with fail;go_quiet (fail)
 go_wp2_with fail;refine(oX N R O T _ (dS (aa.rd (aa.dn (aa.refl _) _) t.out)) (by omega)).mono ?_;rintro e w' ⟨⟨A2,c2,rfl,l⟩,k⟩;have s:=Ld l;have r:Hid (aa w w'):=Ld ((aa.dn (aa.refl w) _).tr k);clear l k
 go_wp2_with fail;go_ret2;exact⟨A2,c2,rfl,s.out,r.out⟩
attribute [local go_sem] Oper.semAt_some
def fM(T:CT):Nat:=(T.map λe=>4+e.1.length+e.2.length).sum
theorem pm{T c:CT}(h:T.Perm c):fM T=fM c:=(h.map _).sum_nat
theorem wl(T:CT)(e:List Int×List Int):fM (T++[e])=fM T+(4+e.1.length+e.2.length):=by simp[fM]
def EY(c:Nat)(d:World)(s:List (List Int×Fm))(W:World):Prop:=Fr (λj=>c<=j) d W/\fM (s.map λx=>(x.1,x.2.xs))<=s.length*16404/\ac W c 3 #[.int .i64 (fM (s.map λx=>(x.1,x.2.xs)))]
theorem EY.new{c:Nat}{f:World}{s:List (List Int×Fm)}{W W':World}(h:EY c f s W)(d:aa W W'):EY c f s W':=⟨h.1.trans (d.toFr _),h.2.1,d.blk h.2.2⟩
theorem EY.puts{c B:Nat}{f:World}{s:List (List Int×Fm)}{W W':World}(h:EY c f s W)(hz:c<=B)(d:eN B W W'):EY c f s W':=⟨h.1.trans (d.fr (λj i=>Nat.le_trans hz i)),h.2.1,d.blk h.2.2⟩
theorem tQ{X:Nat->Prop}{w:World}{base g b m:Nat}{E:gh}(h:dI X w base g b m E)(hm:m<=1000000)(hE:E.length<=1000000):
    Calls prog 134 #[.pointer (some ⟨g,0,none⟩)] w λe w'=>e=.returned (.int .i64 (fM (dy E)))/\aa w w':=by
 have H:=Ld h
 have hX:∀j,X j->j<w.heap.size:=λj hj=>by
  obtain⟨_,cs,fz,N⟩:=h.xs j hj;exact(Array.getElem?_eq_some_iff.1 N).1
 have HX:=Ld hX;clear h hX;refine(callsIn_wide (n:=3)).1 ?_;refine callsIn_of_wp_marks func134 rfl trivial ?_ rfl;refine wpIn_wide.2 ?_;simp only[ntmps134,List.size_toArray,List.length_cons,List.length_nil,Nat.reduceAdd,Nat.reduceSub,Array.replicate_succ,Array.replicate_zero,List.push_toArray,List.append_toArray,List.nil_append,List.cons_append]
 go_wp2_with fail;obtain⟨z,i⟩:=nM (w.alloc (.cells #[.int .i64 0] 3):World);obtain⟨c,f⟩:=nM (w.heap.size);have t:Hid (aa w z):=Ld (by rw[i];exact aa.al (aa.refl _) _);have C:Hid (ac z c 3 #[.int .i64 0]):=Ld (by rw[i,f];exact ac.new _ _ _);have G:Hid (c=w.heap.size):=Ld f;rw[<-i,<-f];clear i f;refine(sF (some ⟨g,0,none⟩) z).mono ?_;rintro e R ⟨rfl,y⟩;have d:Hid (aa z R):=Ld (by rw[y];exact aa.al (aa.refl _) _);have hg:=H.out.blk.lt;have hb:=H.out.blt;have V:=C.out.lt;have b':=G.out
 have HS:=Ld (mZ (H.out.new (t.out.tr d.out)) hm hE (λj=>j=c) z.heap.size (by rw[y];exact ac.new z _ _) (λj hj=>by
  subst hj;have:=d.out.size
  exact⟨by omega,by omega,by omega,λN=>by have:=HX.out _ N;omega,by omega⟩))
 have q:Hid (ac R c 3 #[.int .i64 0]):=Ld (d.out.blk C.out);have I:Hid (c<R.heap.size):=Ld (q.out.lt);clear y hg hb V b'
 go_wp2_with fail
 refine lu rfl (enters_of func114 (by kernel_rfl) rfl) (λx:List Int×Fm=> #[.string (strOfNums x.1),x.2.val]) (λ_=>rfl) HS.out (λx W W' hg J=>hg.puts J) (λh k=>h.tr k) (λW W' J=>Kk.puts J)
  (EY c R) (λs A B h hN=>h.new hN) (λs A B h J=>h.puts (Nat.le_of_lt I.out) J) ⟨Fr.refl _ _,by simp[fM],q.out⟩ ?a1 ?assign ?body ?done
 case assign=>
  intro l x W K hK
  gi_wp2
  exact hK
 case body=>
  rintro l pre x W L ⟨hF,hl,r⟩ T N;have c3:W.cell? ⟨c,0,none⟩=some (.int .i64 (fM (pre.map λx=>(x.1,x.2.xs)))):=r.cell 0;have f3:W.frozen? ⟨c,0,none⟩=false:=r.frozen 0;have h1:=T.2.2.1;have h2:=T.2.2.2.2;have O:x.2.xs.length=x.2.n:=by have:=T.1.1;rw[ak]at this;omega
  have v:fM ((pre++[x]).map λx=>(x.1,x.2.xs))=fM (pre.map λx=>(x.1,x.2.xs))+(4+x.1.length+x.2.n):=by
   rw[List.map_append,List.map_cons,List.map_nil,wl,O]
  have b8:fM (pre.map λx=>(x.1,x.2.xs))<=1000001*20000:=by omega
  have HB:=Ld r;have HF:=Ld hF;have M:(strOfNums x.1).size=x.1.length:=strOfNums_size _;have b0:=Ld L;have HL:=Ld hl;clear r hF T N O hl L;obtain⟨xk,xA,xn,xc,xs⟩:=x;dsimp only at h1 h2 v M;simp only[Fm.val];generalize strOfNums xk=sk at M⊢;generalize b1:fM (pre.map λx=>(x.1,x.2.xs))=cc at*;generalize b7:xk.length=kl at*
  gi_wp2
  have u:Fr (λj=>j=c) W (W.setCell ⟨c,0,none⟩ (.int .i64 (cc+(4+kl+xn)))):=(Fr.refl (λj=>j=c) W).setCell (p:=⟨c,0,none⟩) (λ_=>rfl) _;refine⟨iE.fr u (λk o r hs=>by have:=I.out;omega),Kk.fr u,HF.out.trans (u.mono (λk _ hs=>by omega)),?_,?_⟩
  ·rw[v,List.length_append,List.length_singleton];have:=HL.out;omega
  ·rw[v];have:=HB.out.set 0 (.int .i64 (cc+(4+kl+xn)))
   simpa using this
 case done=>
  rintro D fs W hD Z ⟨hF,hl,r⟩ Y;have U:Hid (aa w W):=Ld ((t.out.tr d.out).fr hF (λk hk=>by have:=G.out;omega))
  have c3:W.cell? ⟨c,0,none⟩=some (.int .i64 (fM (dy E))):=by
   have:=r.cell 0;rw[Z,pm (show(dy (st E)).Perm (dy E)from(tU E).map _)]at this;exact this
  clear r hF hl;dsimp only
  go_wp2_with fail;refine eS [D] W (dm.cons (dm.nil R.heap.size W) (λ_ h=>by cases h) hD Y) (λW' hS=>⟨.int .i64 (fM (dy E)),by simp[results,results134,go_sem],rfl,?_⟩);exact U.out.trans (hS.below.mono (t.out.tr d.out).size)
theorem zj(xs:List Int)(p:ba xs)(w:World):∃(c:Nat) (w':World),(convert 9 33 (.string (strOfNums xs))).run prog w=.ok (.slice (some ⟨w.heap.size,0,none⟩) xs.length c) w'/\aa w w'/\Rd (λk=>k=w.heap.size) w' 1 (some ⟨w.heap.size,0,none⟩) xs.length (an xs):=by
 have h:=Go.run_bytes_of_string (P:=prog) w 9 33 5 (strOfNums xs) underlying9 underlying33 underlying5;rw[strOfNums_size]at h;refine⟨_,_,h,aa.al (aa.dr (aa.refl w)) _,ak xs▸by omega,λ_=>⟨_,rfl,rfl,by simp,λj u hu=>?_⟩⟩
 have i:j<xs.length:=by
  have:=(List.getElem?_eq_some_iff.1 hu).1
  rwa[ak]at this
 have q:=p _ (List.getElem_mem i)
 have l:u=.int .u8 xs[j]:=by
  unfold an at hu;rw[List.getElem?_map,List.getElem?_eq_getElem i]at hu
  simpa using hu.symm
 subst l
 have hd:(strOfNums xs).data[j]?=some (UInt8.ofNat xs[j].toNat):=by
  have h1:=Es (xs:=xs)
  have h2:(strOfNums xs).data.toList[j]?=some (UInt8.ofNat xs[j].toNat):=by
   rw[h1,List.getElem?_map,List.getElem?_eq_getElem i];rfl
  rwa[Array.getElem?_toList]at h2
 have f:j<(strOfNums xs).data.size:=(Array.getElem?_eq_some_iff.1 hd).1
 have d:(bytesRow (strOfNums xs) (grownCap w xs.length 0 5))[j]?=some (.int .u8 xs[j]):=by
  unfold bytesRow;rw[Array.getElem?_append_left (by simpa using f),Array.getElem?_map,hd]
  have:((UInt8.ofNat xs[j].toNat).toNat:Int)=xs[j]:=by
   rw[UInt8.toNat_ofNat'];omega
  simp only[Option.map_some,this]
 generalize bytesRow (strOfNums xs) (grownCap w xs.length 0 5)=cs at d
 have n:(w.drew.alloc (.cells cs 5 (cs.size,cs.size+1))).heap[w.heap.size]?=some (.cells cs 5 (cs.size,cs.size+1)):=by
  show(w.heap.push _)[w.heap.size]?=_;simp
 rw[gM];simp only[World.cell?,n]
 simpa using d
theorem Dq{L:List Ch}{x:Ch}(h:x∈L)(c:eX x=false):bY L=false:=by
 unfold bY
 have:L.all eX=false:=by
  cases ha:L.all eX with
  |false=>rfl
  |true=>have:=List.all_eq_true.1 ha _ h;rw[c]at this;cases this
 rw[this];simp
theorem lV{P:Nat->Prop}(A:Option Addr)(n c:Nat)(L:List Ch)(w:World)(h:Rd P w 3 A n (L.flatMap Ch.cells))(s:L.length=n)(Y:n<=100000000)(H:∀c∈L,c.k.n<=maxLen/\c.v.n<=maxLen):
    Calls prog 89 #[.slice A n c] w λe w'=>e=.returned (.bool (bY L))/\w=w':=by
 have O:=Ld h;have M:=Ld s;have J:=Ld H;clear h s H
 go_enter func89,ntmps89
 go_wp2_with fail;go_loopw [3] (λi wr=>∃j:Nat,j<=n/\i=.int .i64 j/\Hid ((L.take j).all eX=true)/\wr=w) (λi _=>n-(intOf i).toNat)
 case atStart=>exact⟨0,Nat.zero_le _,rfl,Ld (by simp),rfl⟩
 case round=>
  obtain⟨j,V,rfl,C,rfl⟩:=hrel
  by_cases z:j<n
  ·as_aux_lemma=>
   obtain⟨g,o,hl,rfl,-,-,p⟩:=eZ (f:=Ch.cells) (L:=L) (λ_=>rfl) (by omega) O.out z;have D:wr.cell? ⟨g,o+j*3,none⟩=some (.slice L[j].k.A L[j].k.n L[j].k.c):=p 0 _ rfl;have G:wr.cell? ⟨g,o+j*3+1,none⟩=some (.slice L[j].v.A L[j].v.n L[j].v.c):=p 1 _ rfl;have c2:wr.cell? ⟨g,o+j*3+2,none⟩=some (.bool L[j].d):=p 2 _ rfl;have q:=J.out L[j] (List.getElem_mem _);have r:=ul hl;have l:L[j]∈L:=List.getElem_mem _;generalize L[j]=x at D G c2 r l q;obtain⟨⟨Z,kn,kc,ks⟩,⟨vA,vn,vc,vs⟩,d⟩:=x;dsimp only at D G c2 q;have t:=Ld r;have N:=Ld l;have R:(0:Int)<=(j:Int):=by omega
   have T:(j:Int)<(n:Int):=by omega
   obtain⟨u,y⟩:=q;unfold maxLen at u y;clear p hl r l
   go_wp2_with fail
   all_goals first
    | (go_roundw
       case rel=>
        refine⟨j+1,by omega,by go_num,Ld ?_,trivial⟩;rw[t.out,C.out]
        try subst d
        simp[eX];omega
       case measure=>simp[intOf];omega)
    | (go_ret
       refine⟨rb ?_,rfl⟩;refine(Dq N.out ?_).symm
       try subst d
       simp[eX]
       omega)
  ·as_aux_lemma=>
   obtain rfl:j=n:=by omega
   have U:(0:Int)<=(j:Int):=by omega
   go_wp2_with fail
   all_goals
    go_ret;refine⟨rb ?_,rfl⟩;have s:=M.out;have I:=C.out;rw[<-s,List.take_length]at I;unfold bY;rw[I,s,Bool.and_true]
    by_cases h1:1<=j<;>by_cases h2:j<=600
    all_goals
     first|(exfalso;omega)|(simp[h1,h2];done)|(simp[h1,h2];omega)|(simp;omega)
def Cs(L:List Ch):Nat:=(L.map λc=>4+c.k.n+c.v.n).sum
theorem vo{L:List Ch}{k:Nat}(h:k<L.length):Cs (L.take (k+1))=Cs (L.take k)+(4+L[k].k.n+L[k].v.n):=by
 unfold Cs;rw[List.take_succ_eq_append_getElem h,List.map_append,List.sum_append];simp only[List.map_cons,List.map_nil,List.sum_cons,List.sum_nil,Nat.add_zero]
theorem FK{L:List Ch}(h:∀c∈L,c.k.n<=16/\c.v.n<=16384)(k:Nat)(f:k<=L.length):Cs (L.take k)<=k*16404:=by
 induction k with
 |zero=>simp[Cs]
 |succ k d=>
  rw[vo (by omega)];have:=h L[k] (List.getElem_mem _);have:=d (by omega);omega
theorem Af{P:Nat->Prop}(A:Option Addr)(n c:Nat)(L:List Ch)(w:World)(h:Rd P w 3 A n (L.flatMap Ch.cells))(G:L.length=n)(U:n<=100000000)(H:∀c∈L,c.k.n<=16/\c.v.n<=16384):
    Calls prog 135 #[.slice A n c] w λe w'=>e=.returned (.int .i64 (Cs L))/\aa w w':=by
 have J:=Ld h;have I:=Ld G;have z:=Ld H;clear h G H
 go_enter func135,ntmps135
 go_wp2_with fail;go_loopw [3,4] (λs i wr=>∃j:Nat,j<=n/\i=.int .i64 j/\s=.int .i64 (Cs (L.take j))/\Hid (aa w wr)) (λs i _=>n-(intOf i).toNat)
 case atStart=>exact⟨0,Nat.zero_le _,rfl,by simp[Cs],Ld (aa.refl w)⟩
 case round=>
  obtain⟨j,T,rfl,rfl,t⟩:=hrel
  by_cases y:j<n
  ·as_aux_lemma=>
   obtain⟨g,o,hl,rfl,-,-,q⟩:=eZ (f:=Ch.cells) (L:=L) (λ_=>rfl) (by omega) (t.out.rd J.out) y;have C:wr.cell? ⟨g,o+j*3,none⟩=some (.slice L[j].k.A L[j].k.n L[j].k.c):=q 0 _ rfl;have D:wr.cell? ⟨g,o+j*3+1,none⟩=some (.slice L[j].v.A L[j].v.n L[j].v.c):=q 1 _ rfl;have p:=z.out L[j] (List.getElem_mem _);have l:=vo hl;have r:=FK z.out j (by omega);generalize L[j]=x at C D l p;generalize Cs (L.take j)=s at l r⊢;obtain⟨⟨Y,kn,Z,ks⟩,⟨vA,vn,vc,vs⟩,d⟩:=x;dsimp only at C D p l;have u:=Ld l;have O:(0:Int)<=(j:Int):=by omega
   have R:(j:Int)<(n:Int):=by omega
   obtain⟨M,N⟩:=p;have V:s<=100000000*16404:=by omega
   clear q hl l r
   go_wp2_with fail;go_quiet (fail)
   go_wp2_with fail;go_roundw
   case rel=>
    refine⟨j+1,by omega,by go_num,?_,Ld (aa.dn t.out _)⟩;rw[u.out];go_num
   case measure=>simp[intOf];omega
  ·as_aux_lemma=>
   obtain rfl:j=n:=by omega
   go_wp2_with fail;go_ret;have ht:L.take j=L:=by rw[<-I.out,List.take_length]
   rw[ht];exact⟨rfl,t.out⟩
def GK:Ch:=⟨⟨none,0,0,[]⟩,⟨none,0,0,[]⟩,false⟩
theorem Gb:aY prog 76 153 3 56:=aY.mk' (z:=.agg GK.cells.toArray) underlying76 (by kernel_rfl) rfl (by decide)
theorem cF(c:Ch):∀u∈c.cells,u.oneCell'=true:=by
 intro u hu;simp[Ch.cells]at hu;rcases hu with rfl|rfl|rfl<;>rfl
theorem zr{L:List Ch}{k:Nat}(h:k<L.length):(L.take (k+1)).flatMap Ch.cells=(L.take k).flatMap Ch.cells++L[k].cells:=by
 rw[List.take_succ_eq_append_getElem h,List.flatMap_append];simp
theorem Du{P:Nat->Prop}(A:Option Addr)(n c:Nat)(L:List Ch)(w:World)(h:Rd P w 3 A n (L.flatMap Ch.cells))(hL:L.length=n)(hn:n<=100000000):
    Calls prog 41 #[.slice A n c] w λe w'=>(∃t u,e=.returned (.slice t n u)/\w'.ownsRow w.heap.size 153 3 (.slice t n u) n (L.flatMap Ch.cells))/\aa w w':=by
 have HR:=Ld h;have HL:=Ld hL;clear h hL
 go_enter func41,ntmps41
 go_wp2_with fail;go_loopw [3,8] (λs i wr=>∃(j:Nat) (t:Option Addr) (u:Nat),j<=n/\i=.int .i64 j/\s=.slice t j u/\Hid (wr.ownsRow w.heap.size 153 3 (.slice t j u) j ((L.take j).flatMap Ch.cells))/\Hid (aa w wr)) (λs i _=>n-(intOf i).toNat)
 case atStart=>exact⟨0,none,0,Nat.zero_le _,rfl,rfl,Ld (World.ownsRow_nil _ _ _ _),Ld (aa.refl w)⟩
 case round=>
  obtain⟨j,t,u,hj,rfl,rfl,O,M⟩:=hrel
  by_cases V:j<n
  ·as_aux_lemma=>
   obtain⟨g,o,hl,rfl,-,-,r⟩:=eZ (f:=Ch.cells) (L:=L) (λ_=>rfl) (by omega) (M.out.rd HR.out) V;have Y:wr.cell? ⟨g,o+j*3,none⟩=some (.slice L[j].k.A L[j].k.n L[j].k.c):=r 0 _ rfl;have Z:wr.cell? ⟨g,o+j*3+1,none⟩=some (.slice L[j].v.A L[j].v.n L[j].v.c):=r 1 _ rfl;have c2:wr.cell? ⟨g,o+j*3+2,none⟩=some (.bool L[j].d):=r 2 _ rfl;have q:=zr hl;have l:=cF L[j];generalize L[j]=x at Y Z c2 q l;obtain⟨⟨G,kn,H,ks⟩,⟨I,vn,J,vs⟩,C⟩:=x;rw[show Ch.cells ⟨⟨G,kn,H,ks⟩,⟨I,vn,J,vs⟩,C⟩=[.slice G kn H,.slice I vn J,.bool C]from rfl]at q l;dsimp only at Y Z c2 q l;have T:=Ld q;have z:=Ld l;have b':(0:Int)<=(j:Int):=by omega
   have b0:(j:Int)<(n:Int):=by omega
   have b1:=M.out.size;clear r hl q l
   go_wp2_with (first
    |((with_reducible refine dM ⟨some 14,.buildSlice _ _ _,_,_,_,_⟩ ?_);refine cD Gb (by decide) rfl (.tmp 13) rfl #[.slice G kn H,.slice I vn J,.bool C] rfl rfl ?_)
    |(at_builtin;refine dM ⟨some 15,_,_,_,_,_⟩ ?_;refine dG ?_))
   refine⟨?_⟩;refine av (o:=⟨some 15,_,_,_,_,_⟩) Gb _ rfl (.tmp 12) (.tmp 14) rfl w.heap.size (.slice t j u) j ((L.take j).flatMap Ch.cells) rfl (aa.own (aa.al (aa.al (aa.refl wr) _) _) O.out) (some ⟨wr.heap.size+1,0,none⟩) 1 1 [.slice G kn H,.slice I vn J,.bool C] rfl (Rd.ofBlk (p:=λ_=>True) (ac.new' _ 153 #[.slice G kn H,.slice I vn J,.bool C] (by simp)) 3 1 rfl trivial) z.out (by unfold maxLen;omega) (by omega) (by simp;omega) ?_;intro A2 d2 w3 y D U;rw[<-T.out]at y;have R:=Ld y;have N:Hid (aa w w3):=Ld ((aa.al (aa.al M.out _) _).fr D (λk hk=>(am O.out k hk).1));clear y D U
   go_wp2_with fail;go_roundw
   case rel=>exact⟨j+1,A2,d2,by omega,by go_num,rfl,R,N⟩
   case measure=>simp[intOf];omega
  ·as_aux_lemma=>
   obtain rfl:j=n:=by omega
   go_wp2_with fail;go_ret;have ht:L.take j=L:=by rw[<-HL.out,List.take_length]
   have ho:=O.out;rw[ht]at ho;exact⟨⟨t,u,rfl,ho⟩,M.out⟩
def jr(ge:List Int->List Int->Bool)(c:Ch)(s:List Ch×Bool)(x:Ch):List Ch×Bool:=
 let s1:=if !s.2&&ge x.k.xs c.k.xs then(s.1++[c],true)else s
 (if x.k.xs=c.k.xs then s1.1 else s1.1++[x],s1.2)
def gv(xs ys:List Int):Bool:= !Op.bytesLess (strOfNums xs).toList (strOfNums ys).toList
def dE(ge:List Int->List Int->Bool)(c:Ch)(L:List Ch):List Ch×Bool:=L.foldl (jr ge c) ([],c.d)
def jI(ge:List Int->List Int->Bool)(c:Ch)(L:List Ch):List Ch:=if(dE ge c L).2 then(dE ge c L).1 else(dE ge c L).1++[c]
theorem lT{ge:List Int->List Int->Bool}{c:Ch}{L:List Ch}{k:Nat}(h:k<L.length):dE ge c (L.take (k+1))=jr ge c (dE ge c (L.take k)) L[k]:=by
 unfold dE;rw[List.take_succ_eq_append_getElem h,List.foldl_append];rfl
theorem na(t:TypeId)(a b:ByteArray):binOp .geq t (.string a) (.string b)=pure (.bool !(Op.bytesLess a.toList b.toList)):=by simp[binOp,Op.stringOp]
theorem CX:aY prog 77 153 3 56:=aY.mk' (z:=.agg GK.cells.toArray) underlying77 (by kernel_rfl) rfl (by decide)
theorem wU{P q:Nat->Prop}(A:Option Addr)(n c:Nat)(L:List Ch)(y:Ch)(w:World)(h:Rd P w 3 A n (L.flatMap Ch.cells))(hL:L.length=n)(hn:n<=100000000)(hb:∀c∈L,c.In P w)(hy:y.In q w):
    Calls prog 129 #[.slice A n c,.agg y.cells.toArray] w λe w'=>(∃A' n' c',e=.returned (.slice A' n' c')/\n'<=2*n+1/\w'.ownsRow (w.heap.size+1) 153 3 (.slice A' n' c') n' ((jI gv y L).flatMap Ch.cells))/\aa w w':=by
 have HR:=Ld h;have HL:=Ld hL;have HB:=Ld hb;have HY:=Ld hy;obtain⟨⟨u,kn,l,O⟩,⟨C,vn,D,Z⟩,z⟩:=y;clear h hL hb hy;unfold Ch.cells;dsimp only
 go_enter func129,ntmps129
 go_wp2_with fail;obtain⟨w0,c4⟩:=nM ((w.alloc (.cells #[.slice u kn l,.slice C vn D,.bool z] 153)).alloc (.cells #[] 153):World);obtain⟨I,b7⟩:=nM (w.heap.size);have g3:Hid (aa w w0):=Ld (by rw[c4];exact aa.al (aa.al (aa.refl _) _) _);have M:Hid (ac w0 I 153 #[.slice u kn l,.slice C vn D,.bool z]):=Ld (by rw[c4,b7];exact(ac.new _ _ _).alloc _);have g4:Hid (w0.ownsRow (I+1) 153 3 (.slice (some ⟨I+1,0,none⟩) 0 0) 0 []):=Ld (by rw[c4,b7];exact dQ (ac.new' _ 153 #[] (by simp)) (Nat.le_refl _));have HZ:Hid (I=w.heap.size/\w0.heap.size=I+2):=Ld ⟨b7,by rw[c4,b7];simp⟩;rw[<-c4,<-b7];clear c4 b7
 go_loopw [5,6,7] (λs d i wr=>∃(j m:Nat) (A':Option Addr) (c':Nat),j<=n/\i=.int .i64 j/\s=.slice A' m c'/\d=.bool (dE gv ⟨⟨u,kn,l,O⟩,⟨C,vn,D,Z⟩,z⟩ (L.take j)).2/\m<=2*j/\Hid (wr.ownsRow (I+1) 153 3 (.slice A' m c') m ((dE gv ⟨⟨u,kn,l,O⟩,⟨C,vn,D,Z⟩,z⟩ (L.take j)).1.flatMap Ch.cells))/\Hid (aa w wr)/\Hid (ac wr I 153 #[.slice u kn l,.slice C vn D,.bool z])) (λs d i _=>n-(intOf i).toNat)
 case atStart=>exact⟨0,0,_,_,Nat.zero_le _,rfl,rfl,rfl,by omega,g4,g3,M⟩
 case round=>
  obtain⟨j,m,A',c',hj,rfl,rfl,rfl,hm,HO,HN,J⟩:=hrel;clear g4 g3 M;generalize c5:dE gv ⟨⟨u,kn,l,O⟩,⟨C,vn,D,Z⟩,z⟩ (L.take j)=f at*;obtain⟨R,db⟩:=f;dsimp only at HO⊢;have e0:wr.cell? ⟨I,0,none⟩=some (.slice u kn l):=J.out.cell 0;have e1:wr.cell? ⟨I,1,none⟩=some (.slice C vn D):=J.out.cell 1;have e2:wr.cell? ⟨I,2,none⟩=some (.bool z):=J.out.cell 2
  by_cases i6:j<n
  ·as_aux_lemma=>
   obtain⟨g,o,hl,rfl,-,-,c6⟩:=eZ (f:=Ch.cells) (L:=L) (λ_=>rfl) (by omega) HR.out i6;have v0:w.cell? ⟨g,o+j*3,none⟩=some (.slice L[j].k.A L[j].k.n L[j].k.c):=c6 0 _ rfl;have v1:w.cell? ⟨g,o+j*3+1,none⟩=some (.slice L[j].v.A L[j].v.n L[j].v.c):=c6 1 _ rfl;have v2:w.cell? ⟨g,o+j*3+2,none⟩=some (.bool L[j].d):=c6 2 _ rfl;have b8:=HB.out L[j] (List.getElem_mem _);have b0:=lT (ge:=gv) (c:=⟨⟨u,kn,l,O⟩,⟨C,vn,D,Z⟩,z⟩) hl;rw[c5]at b0;generalize L[j]=x at v0 v1 v2 b0 b8;obtain⟨⟨xA,xn,xc,xs⟩,⟨zA,zn,zc,zs⟩,xd⟩:=x;dsimp only at v0 v1 v2 b8;have c0:=aa.cell_ HN.out v0;have c1:=aa.cell_ HN.out v1;have c2:=aa.cell_ HN.out v2;have i2:=Ld v0;have i3:=Ld v1;have i4:=Ld v2;have g8:=Ld b8.k.rd;clear v0 v1 v2;unfold jr at b0;dsimp only at b0;have b9:=λq=>eI (c:=xc) (w:=wr.drewN q) (HN.out.rd b8.k.rd)
   have c3:=λq=>eI (c:=l) (w:=wr.drewN q) (HN.out.rd HY.out.k.rd)
   have h3:=tX b8.k.byt HY.out.k.byt;have d':=na 9 (strOfNums xs) (strOfNums O);have g6:Op.bytesLess (strOfNums xs).toList (strOfNums O).toList= !gv xs O:=by simp[gv]
   dsimp only at b9 c3 h3;rw[g6,Bool.not_not]at d';obtain⟨s1,c7⟩:=nM (strOfNums xs);obtain⟨s2,c8⟩:=nM (strOfNums O);rw[<-c7,<-c8]at h3 d';simp only[<-c7]at b9;simp only[<-c8]at c3;have i0:=Ld c7;have i1:=Ld c8;clear c7 c8;obtain⟨r,hr⟩:=nM (gv xs O);obtain⟨t,ht⟩:=nM (decide (xs=O));rw[<-hr]at d' b0;rw[<-ht]at h3;have b1:=Ld b0;have HT:=Ld ht;have i7:(0:Int)<=(j:Int):=by omega
   have i9:(j:Int)<(n:Int):=by omega
   clear c6 hl b0 b8 hr g6 ht c5
   go_wp2_with fail
   cases db
   ·go_quiet (fail)
    cases r
    ·go_wp2_with fail;go_quiet (fail)
     cases t
     ·go_wp2_with (first
       |((with_reducible refine dM ⟨some 50,.buildSlice _ _ _,_,_,_,_⟩ ?_);refine cD CX (by decide) rfl (.tmp 49) rfl #[.slice xA xn xc,.slice zA zn zc,.bool xd] rfl rfl ?_)
       |(at_builtin;refine dM ⟨some 51,_,_,_,_,_⟩ ?_;refine dG ?_))
      refine⟨?_⟩;refine av (o:=⟨some 51,_,_,_,_,_⟩) CX _ rfl (.tmp 45) (.tmp 50) rfl (I+1) (.slice A' m c') m (R.flatMap Ch.cells) rfl (aa.own (aa.al (aa.dn (aa.refl wr) _) _) HO.out) _ 1 1 [.slice xA xn xc,.slice zA zn zc,.bool xd] rfl (Rd.ofBlk (p:=λ_=>True) (ac.new _ 153 #[.slice xA xn xc,.slice zA zn zc,.bool xd]) 3 1 rfl trivial) (cF ⟨⟨xA,xn,xc,xs⟩,⟨zA,zn,zc,zs⟩,xd⟩) (by unfold maxLen;omega) (by omega) (by have:=J.out.lt;simp;omega) ?_;intro A2 d2 U N G b';have T:=Ld N;have H:Hid (aa w U):=Ld ((aa.al (aa.dn HN.out _) _).fr G (λk Y=>by have:=(am HO.out k Y).1;have:=HZ.out.1;omega));have M:Hid (ac U I 153 #[.slice u kn l,.slice C vn D,.bool z]):=Ld (((aa.al (aa.dn (aa.refl wr) _) _).blk J.out).fr G (λY=>by have:=(am HO.out I Y).1;omega));clear N G b'
      go_wp2_with fail;go_roundw
      case rel=>
       have V:dE gv ⟨⟨u,kn,l,O⟩,⟨C,vn,D,Z⟩,z⟩ (L.take (j+1))=(R++[⟨⟨xA,xn,xc,xs⟩,⟨zA,zn,zc,zs⟩,xd⟩],false):=by
        rw[b1.out,if_neg (of_decide_eq_false HT.out.symm)];rfl
       refine⟨j+1,m+1,A2,d2,by omega,by go_num,rfl,by rw[V],by omega,?_,H,M⟩;rw[V];refine Ld ?_;have:=T.out;rw[List.flatMap_append]
       simpa[Ch.cells]using this
      case measure=>simp[intOf];omega
     ·go_wp2_with fail;go_roundw
      case rel=>
       have V:dE gv ⟨⟨u,kn,l,O⟩,⟨C,vn,D,Z⟩,z⟩ (L.take (j+1))=(R,false):=by
        rw[b1.out,if_pos (of_decide_eq_true HT.out.symm)];rfl
       refine⟨j+1,m,A',c',by omega,by go_num,rfl,by rw[V],by omega,?_,?_,?_⟩
       ·rw[V];exact Ld (aa.own (aa.dn (aa.refl wr) _) HO.out)
       ·exact Ld (aa.dn HN.out _)
       ·exact Ld ((aa.dn (aa.refl wr) _).blk J.out)
      case measure=>simp[intOf];omega
    ·go_wp2_with (first
      |((with_reducible refine dM ⟨some 33,.buildSlice _ _ _,_,_,_,_⟩ ?_);refine cD CX (by decide) rfl (.tmp 32) rfl #[.slice u kn l,.slice C vn D,.bool z] rfl rfl ?_)
      |(at_builtin;refine dM ⟨some 34,_,_,_,_,_⟩ ?_;refine dG ?_))
     refine⟨?_⟩;refine av (o:=⟨some 34,_,_,_,_,_⟩) CX _ rfl (.tmp 31) (.tmp 33) rfl (I+1) (.slice A' m c') m (R.flatMap Ch.cells) rfl (aa.own (aa.al (aa.dn (aa.refl wr) _) _) HO.out) _ 1 1 [.slice u kn l,.slice C vn D,.bool z] rfl (Rd.ofBlk (p:=λ_=>True) (ac.new _ 153 #[.slice u kn l,.slice C vn D,.bool z]) 3 1 rfl trivial) (cF ⟨⟨u,kn,l,O⟩,⟨C,vn,D,Z⟩,z⟩) (by unfold maxLen;omega) (by omega) (by have:=J.out.lt;simp;omega) ?_;intro A2 d2 U N G b';have T:Hid (U.ownsRow (I+1) 153 3 (.slice A2 (m+1) d2) (m+1) ((R++[(⟨⟨u,kn,l,O⟩,⟨C,vn,D,Z⟩,z⟩:Ch)]).flatMap Ch.cells)):=Ld (by rw[List.flatMap_append];simpa[Ch.cells]using N);have H:Hid (aa w U):=Ld ((aa.al (aa.dn HN.out _) _).fr G (λk Y=>by have:=(am HO.out k Y).1;have:=HZ.out.1;omega));have M:Hid (ac U I 153 #[.slice u kn l,.slice C vn D,.bool z]):=Ld (((aa.al (aa.dn (aa.refl wr) _) _).blk J.out).fr G (λY=>by have:=(am HO.out I Y).1;omega));clear N G b' e0 e1 e2 c0 c1 c2 b9 c3;have e0:U.cell? ⟨I,0,none⟩=some (.slice u kn l):=M.out.cell 0;have c0:=aa.cell_ H.out i2.out;have c1:=aa.cell_ H.out i3.out;have c2:=aa.cell_ H.out i4.out;have b9:=λq=>eI (c:=xc) (w:=U.drewN q) (H.out.rd g8.out)
     have c3:=λq=>eI (c:=l) (w:=U.drewN q) (H.out.rd HY.out.k.rd)
     dsimp only at b9 c3;simp only[<-i0.out]at b9;simp only[<-i1.out]at c3
     go_wp2_with fail;go_quiet (fail)
     cases t
     ·go_wp2_with (first
       |((with_reducible refine dM ⟨some 50,.buildSlice _ _ _,_,_,_,_⟩ ?_);refine cD CX (by decide) rfl (.tmp 49) rfl #[.slice xA xn xc,.slice zA zn zc,.bool xd] rfl rfl ?_)
       |(at_builtin;refine dM ⟨some 51,_,_,_,_,_⟩ ?_;refine dG ?_))
      refine⟨?_⟩;refine av (o:=⟨some 51,_,_,_,_,_⟩) CX _ rfl (.tmp 45) (.tmp 50) rfl (I+1) (.slice A2 (m+1) d2) (m+1) ((R++[(⟨⟨u,kn,l,O⟩,⟨C,vn,D,Z⟩,z⟩:Ch)]).flatMap Ch.cells) rfl (aa.own (aa.al (aa.dn (aa.refl U) _) _) T.out) _ 1 1 [.slice xA xn xc,.slice zA zn zc,.bool xd] rfl (Rd.ofBlk (p:=λ_=>True) (ac.new _ 153 #[.slice xA xn xc,.slice zA zn zc,.bool xd]) 3 1 rfl trivial) (cF ⟨⟨xA,xn,xc,xs⟩,⟨zA,zn,zc,zs⟩,xd⟩) (by unfold maxLen;omega) (by omega) (by have:=M.out.lt;simp;omega) ?_;intro A4 d4 w5 g5 c9 i5;have i':=Ld g5;have g9:Hid (aa w w5):=Ld ((aa.al (aa.dn H.out _) _).fr c9 (λk Y=>by have:=(am T.out k Y).1;have:=HZ.out.1;omega));have g7:Hid (ac w5 I 153 #[.slice u kn l,.slice C vn D,.bool z]):=Ld (((aa.al (aa.dn (aa.refl U) _) _).blk M.out).fr c9 (λY=>by have:=(am T.out I Y).1;omega));clear g5 c9 i5
      go_wp2_with fail;go_roundw
      case rel=>
       have V:dE gv ⟨⟨u,kn,l,O⟩,⟨C,vn,D,Z⟩,z⟩ (L.take (j+1))=(R++[(⟨⟨u,kn,l,O⟩,⟨C,vn,D,Z⟩,z⟩:Ch)]++[⟨⟨xA,xn,xc,xs⟩,⟨zA,zn,zc,zs⟩,xd⟩],true):=by
        rw[b1.out,if_neg (of_decide_eq_false HT.out.symm)];rfl
       refine⟨j+1,m+1+1,A4,d4,by omega,by go_num,rfl,by rw[V],by omega,?_,g9,g7⟩;rw[V];refine Ld ?_;have:=i'.out;rw[List.flatMap_append]
       simpa[Ch.cells]using this
      case measure=>simp[intOf];omega
     ·go_wp2_with fail;go_roundw
      case rel=>
       have V:dE gv ⟨⟨u,kn,l,O⟩,⟨C,vn,D,Z⟩,z⟩ (L.take (j+1))=(R++[(⟨⟨u,kn,l,O⟩,⟨C,vn,D,Z⟩,z⟩:Ch)],true):=by
        rw[b1.out,if_pos (of_decide_eq_true HT.out.symm)];rfl
       refine⟨j+1,m+1,A2,d2,by omega,by go_num,rfl,by rw[V],by omega,?_,?_,?_⟩
       ·rw[V];exact Ld (aa.own (aa.dn (aa.refl U) _) T.out)
       ·exact Ld (aa.dn H.out _)
       ·exact Ld ((aa.dn (aa.refl U) _).blk M.out)
      case measure=>simp[intOf];omega
   ·go_quiet (fail)
    go_wp2_with fail;go_quiet (fail)
    cases t
    ·go_wp2_with (first
      |((with_reducible refine dM ⟨some 50,.buildSlice _ _ _,_,_,_,_⟩ ?_);refine cD CX (by decide) rfl (.tmp 49) rfl #[.slice xA xn xc,.slice zA zn zc,.bool xd] rfl rfl ?_)
      |(at_builtin;refine dM ⟨some 51,_,_,_,_,_⟩ ?_;refine dG ?_))
     refine⟨?_⟩;refine av (o:=⟨some 51,_,_,_,_,_⟩) CX _ rfl (.tmp 45) (.tmp 50) rfl (I+1) (.slice A' m c') m (R.flatMap Ch.cells) rfl (aa.own (aa.al (aa.dn (aa.refl wr) _) _) HO.out) _ 1 1 [.slice xA xn xc,.slice zA zn zc,.bool xd] rfl (Rd.ofBlk (p:=λ_=>True) (ac.new _ 153 #[.slice xA xn xc,.slice zA zn zc,.bool xd]) 3 1 rfl trivial) (cF ⟨⟨xA,xn,xc,xs⟩,⟨zA,zn,zc,zs⟩,xd⟩) (by unfold maxLen;omega) (by omega) (by have:=J.out.lt;simp;omega) ?_;intro A2 d2 U N G b';have T:=Ld N;have H:Hid (aa w U):=Ld ((aa.al (aa.dn HN.out _) _).fr G (λk Y=>by have:=(am HO.out k Y).1;have:=HZ.out.1;omega));have M:Hid (ac U I 153 #[.slice u kn l,.slice C vn D,.bool z]):=Ld (((aa.al (aa.dn (aa.refl wr) _) _).blk J.out).fr G (λY=>by have:=(am HO.out I Y).1;omega));clear N G b'
     go_wp2_with fail;go_roundw
     case rel=>
      have V:dE gv ⟨⟨u,kn,l,O⟩,⟨C,vn,D,Z⟩,z⟩ (L.take (j+1))=(R++[⟨⟨xA,xn,xc,xs⟩,⟨zA,zn,zc,zs⟩,xd⟩],true):=by
       rw[b1.out,if_neg (of_decide_eq_false HT.out.symm)];rfl
      refine⟨j+1,m+1,A2,d2,by omega,by go_num,rfl,by rw[V],by omega,?_,H,M⟩;rw[V];refine Ld ?_;have:=T.out;rw[List.flatMap_append]
      simpa[Ch.cells]using this
     case measure=>simp[intOf];omega
    ·go_wp2_with fail;go_roundw
     case rel=>
      have V:dE gv ⟨⟨u,kn,l,O⟩,⟨C,vn,D,Z⟩,z⟩ (L.take (j+1))=(R,true):=by
       rw[b1.out,if_pos (of_decide_eq_true HT.out.symm)];rfl
      refine⟨j+1,m,A',c',by omega,by go_num,rfl,by rw[V],by omega,?_,?_,?_⟩
      ·rw[V];exact Ld (aa.own (aa.dn (aa.refl wr) _) HO.out)
      ·exact Ld (aa.dn HN.out _)
      ·exact Ld ((aa.dn (aa.refl wr) _).blk J.out)
     case measure=>simp[intOf];omega
  ·as_aux_lemma=>
   obtain rfl:j=n:=by omega
   have ht:L.take j=L:=by rw[<-HL.out,List.take_length]
   rw[ht]at c5;have f':=Ld c5;clear c5
   cases db
   ·go_wp2_with (first
     |((with_reducible refine dM ⟨some 56,.buildSlice _ _ _,_,_,_,_⟩ ?_);refine cD CX (by decide) rfl (.tmp 55) rfl #[.slice u kn l,.slice C vn D,.bool z] rfl rfl ?_)
     |(at_builtin;refine dM ⟨some 57,_,_,_,_,_⟩ ?_;refine dG ?_))
    refine⟨?_⟩;refine av (o:=⟨some 57,_,_,_,_,_⟩) CX _ rfl (.tmp 54) (.tmp 56) rfl (I+1) (.slice A' m c') m (R.flatMap Ch.cells) rfl (aa.own (aa.al (aa.refl wr) _) HO.out) _ 1 1 [.slice u kn l,.slice C vn D,.bool z] rfl (Rd.ofBlk (p:=λ_=>True) (ac.new _ 153 #[.slice u kn l,.slice C vn D,.bool z]) 3 1 rfl trivial) (cF ⟨⟨u,kn,l,O⟩,⟨C,vn,D,Z⟩,z⟩) (by unfold maxLen;omega) (by omega) (by have:=J.out.lt;simp;omega) ?_;intro A2 d2 U N G b';have T:Hid (U.ownsRow (I+1) 153 3 (.slice A2 (m+1) d2) (m+1) ((R++[(⟨⟨u,kn,l,O⟩,⟨C,vn,D,Z⟩,z⟩:Ch)]).flatMap Ch.cells)):=Ld (by rw[List.flatMap_append];simpa[Ch.cells]using N);have H:Hid (aa w U):=Ld ((aa.al HN.out _).fr G (λk Y=>by have:=(am HO.out k Y).1;have:=HZ.out.1;omega));clear N G b'
    go_wp2_with fail;go_ret;refine⟨⟨A2,m+1,d2,rfl,by omega,?_⟩,H.out⟩;rw[<-HZ.out.1];unfold jI;rw[f'.out];exact T.out
   ·go_wp2_with fail;go_ret;refine⟨⟨A',m,c',rfl,by omega,?_⟩,HN.out⟩;rw[<-HZ.out.1];unfold jI;rw[f'.out];exact HO.out
theorem zY(ge:List Int->List Int->Bool)(c:Ch)(L:List Ch):(dE ge c L).1.length<=L.length+1/\((dE ge c L).2=false->(dE ge c L).1.length<=L.length):=by
 suffices h:∀j,j<=L.length->(dE ge c (L.take j)).1.length<=j+1/\((dE ge c (L.take j)).2=false->(dE ge c (L.take j)).1.length<=j) by
  have:=h L.length (Nat.le_refl _)
  rwa[List.take_length]at this
 intro j
 induction j with
 |zero=>intro _;simp[dE]
 |succ j k=>
  intro l;obtain⟨h1,h2⟩:=k (by omega);rw[lT (by omega)];generalize dE ge c (L.take j)=f at h1 h2;obtain⟨R,i⟩:=f;generalize L[j]=x;unfold jr;dsimp only at h1 h2⊢
  cases i
  ·have h2:=h2 rfl
   cases ge x.k.xs c.k.xs
   ·by_cases d:x.k.xs=c.k.xs
    ·simp[d];omega
    ·simp[d];omega
   ·by_cases d:x.k.xs=c.k.xs
    ·simp[d];omega
    ·simp[d];omega
  ·by_cases d:x.k.xs=c.k.xs
   ·simp[d];omega
   ·simp[d];omega
theorem BZ(ge:List Int->List Int->Bool)(c:Ch)(L:List Ch):(jI ge c L).length<=L.length+1:=by
 obtain⟨h1,h2⟩:=zY ge c L;unfold jI
 cases hd:(dE ge c L).2
 ·have:=h2 hd;simp;omega
 ·simpa using h1
theorem rW(ge:List Int->List Int->Bool)(c:Ch)(L:List Ch):∀x∈(dE ge c L).1,x∈L\/x=c:=by
 suffices h:∀j,j<=L.length->∀x∈(dE ge c (L.take j)).1,x∈L\/x=c by
  have:=h L.length (Nat.le_refl _)
  rwa[List.take_length]at this
 intro j
 induction j with
 |zero=>intro _ x d;simp[dE]at d
 |succ j i=>
  intro k x d;have i:=i (by omega);rw[lT (by omega)]at d;have hm:L[j]∈L:=List.getElem_mem _;generalize dE ge c (L.take j)=f at i d;generalize L[j]=y at hm d;unfold jr at d;dsimp only at d
  have h1:x∈(if !f.2&&ge y.k.xs c.k.xs then(f.1++[c],true)else f).1->x∈L\/x=c:=by
   intro h;split at h
   ·rcases List.mem_append.1 h with h | h
    ·exact i x h
    ·exact .inr (List.mem_singleton.1 h)
   ·exact i x h
  split at d
  ·exact h1 d
  ·rcases List.mem_append.1 d with h | h
   ·exact h1 h
   ·exact .inl ((List.mem_singleton.1 h)▸hm)
theorem uU(ge:List Int->List Int->Bool)(c:Ch)(L:List Ch):∀x∈jI ge c L,x∈L\/x=c:=by
 intro x d;unfold jI at d;split at d
 ·exact rW ge c L x d
 ·rcases List.mem_append.1 d with h | h
  ·exact rW ge c L x h
  ·exact .inr (List.mem_singleton.1 h)
def vO(L C:List Ch):List Ch:=C.foldl (λT c=>jI gv c T) L
theorem Cg{L C:List Ch}{k:Nat}(h:k<C.length):vO L (C.take (k+1))=jI gv C[k] (vO L (C.take k)):=by
 unfold vO;rw[List.take_succ_eq_append_getElem h,List.foldl_append];rfl
theorem szs{P:Nat->Prop}{w:World}{x:Fm}(h:x.In P w):x.In (λb=>b<w.heap.size) w:=⟨dS h.rd,h.byt⟩
theorem Ch.In.szs{P:Nat->Prop}{w:World}{c:Ch}(h:c.In P w):c.In (λb=>b<w.heap.size) w:=⟨Go.Proofs.YtfchcdbfalgdlaaGreatDoor.szs h.k,Go.Proofs.YtfchcdbfalgdlaaGreatDoor.szs h.v⟩
structure ou(w:World)(A:Option Addr)(n:Nat)(L:List Ch):Prop where
 rd:Rd (λb=>b<w.heap.size) w 3 A n (L.flatMap Ch.cells)
 len:L.length=n
 el:∀c∈L,c.In (λb=>b<w.heap.size) w
theorem ng(L:List Ch):(L.flatMap Ch.cells).length=L.length*3:=by
 induction L with
 |nil=>rfl
 |cons c L d=>rw[List.flatMap_cons,List.length_append,d];simp[Ch.cells];omega
theorem ou.new{w w':World}{A:Option Addr}{n:Nat}{L:List Ch}(h:ou w A n L)(d:aa w w'):ou w' A n L:=
 ⟨dS (d.rd h.rd),h.len,λc f=>Ch.In.szs ((h.el c f).new d)⟩
theorem yK(L C:List Ch):(vO L C).length<=L.length+C.length:=by
 unfold vO
 induction C generalizing L with
 |nil=>simp
 |cons c C d=>
  rw[List.foldl_cons];have:=d (jI gv c L);have:=BZ gv c L;rw[List.length_cons];omega
end Go.Proofs.YtfchcdbfalgdlaaGreatDoor
