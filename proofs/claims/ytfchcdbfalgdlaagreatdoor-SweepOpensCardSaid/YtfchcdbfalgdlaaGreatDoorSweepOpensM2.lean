/- Texts of one proof. No condition but each one's own. -/
import Derived.Test.YtfchcdbfalgdlaaGreatDoorSweepOpensM1
import Derived.Maps.OwnOps
import Derived.Maps.OwnSet
import Derived.Maps.Views
import Derived.Great.BuildSlice
import Derived.IntWalk
import Derived.OwnWalkIn
import Derived.TacticsInMore
import Derived.LoopNIn
import Derived.LoopIn
import Derived.Laws.Cover3
import Derived.Laws.CopyOwn
set_option maxHeartbeats 4000000
set_option maxRecDepth 100000
set_option linter.unusedVariables false
set_option linter.unusedSimpArgs false
namespace Go.Proofs.YtfchcdbfalgdlaaGreatDoor
open _root_.Go.Proofs.Tryz
open Go.RowKit Go.Sort
def kL:List Int:=[1116352408,1899447441,3049323471,3921009573,961987163,1508970993,2453635748,2870763221,3624381080,310598401,607225278,1426881987,1925078388,2162078206,2614888103,3248222580,3835390401,4022224774,264347078,604807628,770255983,1249150122,1555081692,1996064986,2554220882,2821834349,2952996808,3210313671,3336571891,3584528711,113926993,338241895,666307205,773529912,1294757372,1396182291,1695183700,1986661051,2177026350,2456956037,2730485921,2820302411,3259730800,3345764771,3516065817,3600352804,4094571909,275423344,430227734,506948616,659060556,883997877,958139571,1322822218,1537002063,1747873779,1955562222,2024104815,2227730452,2361852424,2428436474,2756734187,3204031479,3329325298]
structure H8 where
 a:Int
 b:Int
 c:Int
 d:Int
 e:Int
 f:Int
 g:Int
 h:Int
def H8.arr(x:H8):Array Value:= #[.int .u32 x.a,.int .u32 x.b,.int .u32 x.c,.int .u32 x.d,.int .u32 x.e,.int .u32 x.f,.int .u32 x.g,.int .u32 x.h]
structure H8.Ok(x:H8):Prop where
 a:0≤x.a∧x.a<4294967296
 b:0≤x.b∧x.b<4294967296
 c:0≤x.c∧x.c<4294967296
 d:0≤x.d∧x.d<4294967296
 e:0≤x.e∧x.e<4294967296
 f:0≤x.f∧x.f<4294967296
 g:0≤x.g∧x.g<4294967296
 h:0≤x.h∧x.h<4294967296
def H8.list(x:H8):List Int:=[x.a,x.b,x.c,x.d,x.e,x.f,x.g,x.h]
theorem H8.arr_list(x:H8):x.arr=aN 8 x.list:=rfl
def iH:H8:=⟨1779033703,3144134277,1013904242,2773480762,1359893119,2600822924,528734635,1541459225⟩
theorem EE:iH.Ok:=by constructor<;>decide
theorem Fu:∀t,0≤at_ kL t∧at_ kL t<4294967296:=fun t=>by
 unfold at_;rw[List.getD_eq_getElem?_getD]
 cases h:kL[t]? with
 |none=>simp
 |some x=>
  have c:x∈kL:=List.mem_of_getElem? h;have key:∀x∈kL,0≤x∧x<4294967296:=by decide
  exact key x c
theorem H8.ok_b{x:H8}(h:x.Ok):∀t,0≤at_ x.list t∧at_ x.list t<4294967296:=fun t=>by
 unfold at_;rw[List.getD_eq_getElem?_getD]
 cases e:x.list[t]? with
 |none=>simp
 |some y=>
  have c:y∈x.list:=List.mem_of_getElem? e;unfold H8.list at c;simp only[List.mem_cons,List.not_mem_nil,or_false]at c;rcases c with rfl|rfl|rfl|rfl|rfl|rfl|rfl|rfl
  ·exact h.a
  ·exact h.b
  ·exact h.c
  ·exact h.d
  ·exact h.e
  ·exact h.f
  ·exact h.g
  ·exact h.h
def jC(a b:Int):Int:=bits .and .u32 a b
def EL(a:Int):Int:=bits .xor .u32 (if IntKind.u32.signed=true then-1 else IntKind.u32.max) a
theorem nL(a b:Int):bI a b=(a+b)%4294967296:=by
 unfold bI;rw[IntKind.wrap_u32]
theorem Es(p a b:Int):bI p (bI a b)=(p+(a+b))%4294967296:=by
 rw[nL,nL];omega
def cP(k w:Int)(x:H8):Int:=bI (bI (bI (bI x.h (fF (fF (ef x.e 6) (ef x.e 11)) (ef x.e 25))) (fF (jC x.e x.f) (jC (EL x.e) x.g))) k) w
def cQ(x:H8):Int:=bI (fF (fF (ef x.a 2) (ef x.a 13)) (ef x.a 22)) (fF (fF (jC x.a x.b) (jC x.a x.c)) (jC x.b x.c))
def cR(k w:Int)(x:H8):H8:=⟨bI (cP k w x) (cQ x),x.a,x.b,x.c,bI x.d (cP k w x),x.e,x.f,x.g⟩
def mE(K:Nat→Int)(W:List Int)(S:H8):Nat→H8
 | 0=>S
 |t+1=>cR (K t) (at_ W t) (mE K W S t)
theorem Ex{k w:Int}{x:H8}(h:x.Ok):(cR k w x).Ok:=⟨fk _ _,h.a,h.b,h.c,fk _ _,h.e,h.f,h.g⟩
theorem nA{K:Nat→Int}{W:List Int}{S:H8}(h:S.Ok):∀t,(mE K W S t).Ok
 | 0=>h
 |t+1=>Ex (nA h t)
def H8.add(x y:H8):H8:=⟨bI x.a y.a,bI x.b y.b,bI x.c y.c,bI x.d y.d,bI x.e y.e,bI x.f y.f,bI x.g y.g,bI x.h y.h⟩
theorem H8.add_ok(x y:H8):(x.add y).Ok:=⟨fk _ _,fk _ _,fk _ _,fk _ _,fk _ _,fk _ _,fk _ _,fk _ _⟩
def ij(R S:List Int)(i:Nat):List Int:=(List.range 8).map fun j=>if j<i then bI (at_ R j) (at_ S j)else at_ R j
theorem Bg(x y:H8):aN 8 (ij x.list y.list 8)=(x.add y).arr:=rfl
theorem pQ(R S:List Int)(i:Nat):(ij R S i).length=8:=by simp[ij]
theorem yX{R S:List Int}{i:Nat}(h:i<8):at_ (ij R S i) i=at_ R i:=by
 rcases (by omega:i=0∨i=1∨i=2∨i=3∨i=4∨i=5∨i=6∨i=7)with rfl|rfl|rfl|rfl|rfl|rfl|rfl|rfl<;>rfl
theorem xp{R S:List Int}{i:Nat}(h:i<8):(aN 8 (ij R S i)).setIfInBounds i (.int .u32 (bI (at_ R i) (at_ S i)))=aN 8 (ij R S (i+1)):=by
 rcases (by omega:i=0∨i=1∨i=2∨i=3∨i=4∨i=5∨i=6∨i=7)with rfl|rfl|rfl|rfl|rfl|rfl|rfl|rfl<;>rfl
def gL(S:H8)(s:List Int):H8:=(mE (fun t=>at_ kL t) (aL s 64) S 64).add S
theorem zj(S:H8)(s:List Int):(gL S s).Ok:=H8.add_ok _ _
def fv(b:List Int):List Int:=b++[128]++List.replicate ((119-b.length%64)%64) 0++aY 8 (8*b.length)
def eF(p:List Int):Nat→H8
 | 0=>iH
 |k+1=>gL (eF p k) ((p.drop (64*k)).take 64)
theorem ki(p:List Int):∀k,(eF p k).Ok
 | 0=>EE
 |_+1=>zj _ _
def jL(b:List Int):List Int:=(eF (fv b) ((fv b).length/64)).list.flatMap fun x=>aY 4 x.toNat
theorem lJ(b:List Int):(fv b).length%64=0:=by
 simp only[fv,List.length_append,List.length_replicate,av,List.length_cons,List.length_nil];omega
theorem tw{b:List Int}(h:aU b):aU (fv b):=by
 intro x c;unfold fv at c;simp only[List.mem_append,List.mem_cons,List.not_mem_nil,or_false]at c;rcases c with((c|rfl)|c)|c
 ·exact h x c
 ·omega
 ·have:=List.eq_of_mem_replicate c;omega
 ·exact ew _ _ x c
theorem io(b:List Int):(jL b).length=32:=rfl
theorem wk(b:List Int):aU (jL b):=by
 intro x c;unfold jL at c;obtain⟨y,-,d⟩:=List.mem_flatMap.1 c;exact ew _ _ x d
theorem BF{c:List Int}{t:Nat}(h:t<64)(hl:c.length=64)(w:World):(Instr.index 250 (.agg (aN 64 c)) (.int .i64 (t:Int))).run prog w=.ok (.int .u32 (at_ c t)) w:=by
 have m:(sizeOf 44).run prog w=.ok 1 w:=by
  first|exact sizeOf44 w|simp[sizeOf44,go_sem]|kernel_rfl
 have d:(aN 64 c)[t]?=some (.int .u32 (at_ c t)):=cK (by rw[hl];exact h)
 have l:(part 44 (aN 64 c) t).run prog w=.ok (.int .u32 (at_ c t)) w:=by
  have i:(isAgg 44).run prog w=.ok false w:=by
   first|kernel_rfl|simp[isAgg,run_underlying underlying44,go_sem]
  simp[part,i,d,go_sem]
 have j:(t:Int)<64:=by omega
 simp[Instr.index,run_underlying underlying250,asIntOf,m,l,j,go_sem];rw[if_pos h,d];simp
theorem rn (S:H8) (s:List Int) (w:World) (hK:∀t,t<64→w.cell? ⟨4,t,none⟩=some (.int .u32 (at_ kL t))) (hS:S.Ok) (hs:s.length=64) (hb:aU s):Calls prog 167 #[.agg S.arr,.agg (af s)] w fun e w'=>e= .returned (.agg (gL S s).arr)∧aa w w':=by
 have HS:=Ld hs;have HB:=Ld hb;have HO:=Ld hS;have HK:=Ld hK;clear hs hb hS hK;have H:Hid (aN 8 (ij (mE (fun t=>at_ kL t) (aL s 64) S 64).list S.list 8)=(gL S s).arr):=Ld (Bg _ _);obtain⟨K,U⟩:∃K:Nat→Int,K=fun t=>at_ kL t:=⟨_,rfl⟩
 have j':∀t,0≤K t∧K t<4294967296:=fun t=>by rw[U];exact Fu t
 have k9:=Ld j';have j7:Hid (∀t,t<64→w.cell? ⟨4,t,none⟩=some (.int .u32 (K t))):=Ld (by rw[U];exact HK.out);rw[←U]at H;clear U j' HK;obtain⟨RA,g9⟩:=nM ((gL S s).arr);rw[←g9];have k0:=Ld g9;clear g9;obtain⟨a,b,c,d,e,f,g,E⟩:=S;unfold H8.arr;dsimp only
 go_enter func167,ntmps167
 go_upto_region 2 with fail
 obtain⟨w1,z⟩:=nM ((((w.alloc (.cells #[.int .u32 a,.int .u32 b,.int .u32 c,.int .u32 d,.int .u32 e,.int .u32 f,.int .u32 g,.int .u32 E] 243)).alloc (.cells (af s) 67)).alloc (.cells #[.int .u32 0,.int .u32 0,.int .u32 0,.int .u32 0,.int .u32 0,.int .u32 0,.int .u32 0,.int .u32 0] 243)).alloc (.cells #[.int .u32 a,.int .u32 b,.int .u32 c,.int .u32 d,.int .u32 e,.int .u32 f,.int .u32 g,.int .u32 E] 243):World);obtain⟨b3,X⟩:=nM (w.heap.size+1);obtain⟨b4,Y⟩:=nM (w.heap.size+1+1);obtain⟨b5,Z⟩:=nM (w.heap.size+1+1+1);obtain⟨b2,V⟩:=nM (w.heap.size);have i6:Hid (aa w w1):=Ld (by rw[z];exact aa.al (aa.al (aa.al (aa.al (aa.refl _) _) _) _) _);have q:Hid (ab w1 b2 243 (H8.arr ⟨a,b,c,d,e,f,g,E⟩)):=Ld (by rw[z,V];exact(((ab.new _ _ _).alloc _).alloc _).alloc _);have j4:Hid (ab w1 b3 67 (af s)):=Ld (by rw[z,X];exact((ab.new' _ _ _ (by simp)).alloc _).alloc _);have r:Hid (ab w1 b4 243 (aN 8 [])):=Ld (by rw[z,Y];exact(ab.new' _ _ _ (by simp)).alloc _);have l:Hid (ab w1 b5 243 (H8.arr ⟨a,b,c,d,e,f,g,E⟩)):=Ld (by rw[z,Z];exact ab.new' _ _ _ (by simp));have HZ:Hid (b2=w.heap.size∧b3=w.heap.size+1∧b4=w.heap.size+2∧b5=w.heap.size+3):=Ld ⟨V,X,Y,Z⟩;rw[←z,←Z,←Y,←X,←V];clear z V X Y Z;have j0:(af s).size=64:=by rw[au,HS.out]
 go_wp2_with (refine cg 18 rfl ?_;refine ac rfl _ rfl underlying67 rfl (by rw[j0];rfl) rfl j4.out ?_)
 refine(vB s w1 HS.out HB.out).mono ?_;rintro ee w2 ⟨rfl,M⟩;have q:=Ld (M.blk q.out);have l:=Ld (M.blk l.out);have r:=Ld (M.blk r.out);have i7:Hid (aa w w2):=Ld (i6.out.tr M);clear M j0;obtain⟨G,c'⟩:=nM (aL s 64);have k2:=Ld c';have g8:Hid (G.length=64):=Ld (by rw[c'];exact dy s 64);rw[←c'];clear c'
 go_wp2_with fail
 go_loopw [20] (fun i wr=>∃(t:Nat),t≤64∧i=.int .i64 t∧Hid (aa w wr)∧Hid (ab wr b4 243 (aN 8 []))∧Hid (ab wr b2 243 (H8.arr ⟨a,b,c,d,e,f,g,E⟩))∧Hid (ab wr b5 243 (mE K G ⟨a,b,c,d,e,f,g,E⟩ t).arr)) (fun i _=>64-(intOf i).toNat)
 case atStart=>exact⟨0,Nat.zero_le _,rfl,i7,r,q,l⟩
 case round=>
  clear q r l i7 i6;obtain⟨t,ht,rfl,HN,r,q,l⟩:=hrel
  by_cases b8:t<64
  ·have l3:(0:Int)≤(t:Int):=by omega
   have l4:(t:Int)<64:=by omega
   have i3:=nA (K:=K) (W:=G) HO.out t;obtain⟨x,hx⟩:=nM (mE K G ⟨a,b,c,d,e,f,g,E⟩ t);rw[←hx]at i3;have HX:=Ld hx;have u:Hid (ab wr b5 243 x.arr):=Ld (by rw[hx];exact l.out);clear hx l;obtain⟨B,xb,xc,xd,C,xf,xg,xh⟩:=x;have i0:0≤B∧B<4294967296:=i3.a;have i1:0≤C∧C<4294967296:=i3.e;have c0:wr.cell? ⟨b5,0,none⟩=some (.int .u32 B):=u.out.cell 0;have c1:wr.cell? ⟨b5,1,none⟩=some (.int .u32 xb):=u.out.cell 1;have c2:wr.cell? ⟨b5,2,none⟩=some (.int .u32 xc):=u.out.cell 2;have c3:wr.cell? ⟨b5,3,none⟩=some (.int .u32 xd):=u.out.cell 3;have c4:wr.cell? ⟨b5,4,none⟩=some (.int .u32 C):=u.out.cell 4;have c5:wr.cell? ⟨b5,5,none⟩=some (.int .u32 xf):=u.out.cell 5;have c6:wr.cell? ⟨b5,6,none⟩=some (.int .u32 xg):=u.out.cell 6;have c7:wr.cell? ⟨b5,7,none⟩=some (.int .u32 xh):=u.out.cell 7;have k6:(aN 64 G)[t]?=some (.int .u32 (at_ G t)):=cK (by rw[g8.out];exact b8);have k8:(aN 64 G).size=64:=gF (by rw[g8.out];exact Nat.le_refl _);have k3:=BF b8 g8.out
   go_wp2_with fail
   refine ag (aa wr) [(true,0),(true,1),(true,2),(true,3),(true,4),(true,5),(true,6),(true,7),(true,8),(true,9),(true,10),(true,11),(true,12),(true,13),(true,14),(true,15),(true,16),(true,17)] (by kernel_rfl) (by kernel_rfl) (aa.dr (aa.refl wr)) (fun k4=>?_);have q0:∀p:HW (aa wr),p.w.cell? ⟨b5,0,none⟩=some (.int .u32 B):=fun p=>p.h.cell_ c0
   have q1:∀p:HW (aa wr),p.w.cell? ⟨b5,1,none⟩=some (.int .u32 xb):=fun p=>p.h.cell_ c1
   have q2:∀p:HW (aa wr),p.w.cell? ⟨b5,2,none⟩=some (.int .u32 xc):=fun p=>p.h.cell_ c2
   have q4:∀p:HW (aa wr),p.w.cell? ⟨b5,4,none⟩=some (.int .u32 C):=fun p=>p.h.cell_ c4
   have q5:∀p:HW (aa wr),p.w.cell? ⟨b5,5,none⟩=some (.int .u32 xf):=fun p=>p.h.cell_ c5
   have q6:∀p:HW (aa wr),p.w.cell? ⟨b5,6,none⟩=some (.int .u32 xg):=fun p=>p.h.cell_ c6
   iterate 18 (refine ae (o:=.mk ..) rfl (fun K hK=>?_);go_simp;refine hK _ ?_;clear hK K)
   clear q0 q1 q2 q4 q5 q6 k4;refine ao ?_;have k7:=cell_regrown (show(wr.drew).cell? ⟨b5,7,none⟩=some (.int .u32 xh)from c7);have kK:=cell_regrown (show(wr.drew).cell? ⟨4,t,none⟩=some (.int .u32 (K t))from HN.out.cell_ (j7.out t b8))
   have cT:∀(x:Int) (k:Nat),(0≤x∧x<4294967296)→(1≤k∧k≤31)→∀d os,Calls prog 175 #[.int .u32 x,.int .i64 (k:Int)] (grow (redrawn wr.drew d) os) fun e w''=>e= .returned (.int .u32 (ef x k))∧∃p:Regrown,w''=grow (redrawn wr.drew p.d) p.os:=
    fun x k hx hk=>bV (fun W _=>(jW x k W hx hk).mono fun e w' h=>⟨h.1,by rw[←h.2];exact aa.refl _⟩)
   have t1:=cT C 6 i1 (by omega);have t2:=cT C 11 i1 (by omega);have t3:=cT C 25 i1 (by omega);clear cT k3 k6 k8
   go_wp2_with fail
   refine wp_region_quiet_below (by kernel_rfl) (by kernel_rfl) ?_
   repeat(quiet_step (first|exact t1 _ _|exact t2 _ _|exact t3 _ _))
   refine wpQuiet_nil ?_;intro _ k5;obtain⟨⟨dq,j3⟩,b1⟩:=k5;obtain⟨y,i'⟩:=nM (grow (redrawn wr.drew dq) j3);have m:Hid (aa wr y):=Ld (aa.tr (aa.dr (aa.refl wr)) (by rw[i'];exact below_regrown _ dq j3));rw[b1,←i'];clear b1 i' t1 t2 t3 k7 kK;obtain⟨pv,i4⟩:=nM (cP (K t) (at_ G t) ⟨B,xb,xc,xd,C,xf,xg,xh⟩);have b0:IntKind.u32.wrap (IntKind.u32.wrap (IntKind.u32.wrap (IntKind.u32.wrap (xh+bits BinOp.xor .u32 (bits BinOp.xor .u32 (ef C 6) (ef C 11)) (ef C 25))+bits BinOp.xor .u32 (bits BinOp.and .u32 C xf) (bits BinOp.and .u32 (bits BinOp.xor .u32 (if IntKind.u32.signed=true then-1 else IntKind.u32.max) C) xg))+K t)+at_ G t)=pv:=i4.symm;rw[b0];have k':=Ld i4;clear i4 b0;have d3:y.cell? ⟨b5,3,none⟩=some (.int .u32 xd):=m.out.cell_ c3;clear c0 c1 c2 c3 c4 c5 c6 c7
   go_wp2_with fail
   refine(jW B 2 y i0 (by omega)).mono ?_;rintro ee w5 ⟨rfl,rfl⟩
   go_wp2_with fail
   refine(jW B 13 y i0 (by omega)).mono ?_;rintro ee w5 ⟨rfl,rfl⟩
   go_wp2_with fail
   refine(jW B 22 y i0 (by omega)).mono ?_;rintro ee w5 ⟨rfl,rfl⟩;have j5:Hid (ab y b5 243 (H8.arr ⟨B,xb,xc,xd,C,xf,xg,xh⟩)):=Ld (m.out.blk u.out)
   go_wp2_with ((with_reducible refine aA ⟨none,.store 243 (.tmp 5) _,_,_,_,_⟩ ?_);refine an rfl (.tmp 5) (.tmp 95) rfl rfl rfl rfl j5.out rfl (by simp[Value.oneCell']) ?_;intro w8 O T;have g5:=Ld O;have L:=Ld T;clear O T)
   have j9:Hid (aa w w8):=Ld ((HN.out.tr m.out).fr L.out (fun k hk=>by have:=HZ.out;omega));have c9:Hid (ab w8 b2 243 (H8.arr ⟨a,b,c,d,e,f,g,E⟩)):=Ld ((m.out.blk q.out).fr L.out (by have:=HZ.out;omega));have f':Hid (ab w8 b4 243 (aN 8 [])):=Ld ((m.out.blk r.out).fr L.out (by have:=HZ.out;omega))
   have g4:Hid (ab w8 b5 243 (mE K G ⟨a,b,c,d,e,f,g,E⟩ (t+1)).arr):=Ld (by
    show ab w8 b5 243 (cR (K t) (at_ G t) (mE K G ⟨a,b,c,d,e,f,g,E⟩ t)).arr;rw[←HX.out];have e1:bI pv (cQ ⟨B,xb,xc,xd,C,xf,xg,xh⟩)=(pv+(fF (fF (ef B 2) (ef B 13)) (ef B 22)+fF (fF (jC B xb) (jC B xc)) (jC xb xc)))%4294967296:=Es _ _ _;have e2:=nL xd pv;unfold cR H8.arr;rw[←k'.out];dsimp only;rw[e1,e2]
    exact g5.out)
   go_roundw
   case rel=>exact⟨t+1,by omega,by go_num,j9,f',c9,g4⟩
   case measure=>simp[intOf];omega
  ·have b':Hid (t=64):=Ld (by omega);have i2:¬(t:Int)<64:=by omega
   obtain⟨R,hR⟩:=nM (mE K G ⟨a,b,c,d,e,f,g,E⟩ 64);have l':Hid R.Ok:=Ld (by rw[hR];exact nA HO.out 64);have D:Hid (ab wr b5 243 (aN 8 (ij R.list (H8.list ⟨a,b,c,d,e,f,g,E⟩) 0))):=Ld (by rw[hR,←b'.out];exact l.out);obtain⟨F,N⟩:=nM (H8.list ⟨a,b,c,d,e,f,g,E⟩);have I:Hid (ab wr b2 243 (aN 8 F)):=Ld (by rw[N];exact q.out);have k1:Hid (F.length=8):=Ld (by rw[N];rfl);have g6:Hid (aN 8 (ij R.list F 8)=(gL ⟨a,b,c,d,e,f,g,E⟩ s).arr):=Ld (by rw[hR,N,k2.out];exact H.out);rw[←N]at D;have g7:=HN;have J:=r;clear hR N l q H HN r;obtain⟨wo,j2⟩:=nM (wr:World);rw[←j2]at D I g7 J⊢;clear j2
   go_wp2_with fail
   clear i2 b8 ht b'
   go_loopw [97] (fun i wr=>∃(k:Nat),k≤8∧i=.int .i64 k∧Hid (aa w wr)∧Hid (ab wr b4 243 (aN 8 []))∧Hid (ab wr b2 243 (aN 8 F))∧Hid (ab wr b5 243 (aN 8 (ij R.list F k)))) (fun i _=>8-(intOf i).toNat)
   case atStart=>exact⟨0,Nat.zero_le _,rfl,g7,J,I,D⟩
   case round=>
    clear g7 J I D;obtain⟨k,hk,rfl,HN,r,q,l⟩:=hrel
    by_cases b7:k<8
    ·have l1:(0:Int)≤(k:Int):=by omega
     have l2:(k:Int)<8:=by omega
     have c5:wr.cell? ⟨b5,k,none⟩=some (.int .u32 (at_ R.list k)):=by
      rw[l.out.cell k,cK (by rw[pQ];exact b7),yX b7]
     have c2:wr.cell? ⟨b2,k,none⟩=some (.int .u32 (at_ F k)):=by
      rw[q.out.cell k,cK (by rw[k1.out];exact b7)]
     have j6:=Ld c5;have d5:=cell_regrown c5;have d2:=cell_regrown c2;clear c5 c2
     go_wp2_with fail
     refine dE 8 (by kernel_rfl) (by kernel_rfl) ?_;simp only[List.take_succ_cons,List.take_zero,List.drop_succ_cons,List.drop_zero]
     repeat(quiet_step (fail))
     refine wpQuiet_nil ?_;intro y i9;have m:Hid (aa wr y):=Ld i9;have e5:y.cell? ⟨b5,k,none⟩=some (.int .u32 (at_ R.list k)):=m.out.cell_ j6.out;have f5:y.frozen? ⟨b5,k,none⟩=false:=(m.out.blk l.out).frozen k;clear d5 d2 i9;obtain⟨v,hv⟩:=nM (bI (at_ R.list k) (at_ F k));have j1:IntKind.u32.wrap (at_ R.list k+at_ F k)=v:=hv.symm
     try rw[j1]
     have HV:=Ld hv;clear hv j1;have HF:Hid (Fr (fun j=>j=b5) y (y.setCell ⟨b5,k,none⟩ (.int .u32 v))):=Ld ((Fr.refl (fun j=>j=b5) y).setCell (p:=⟨b5,k,none⟩) (fun _=>rfl) _);have j8:Hid (aa w (y.setCell ⟨b5,k,none⟩ (.int .u32 v))):=Ld ((HN.out.tr m.out).fr HF.out (fun k hk=>by have:=HZ.out;omega));have d':Hid (ab (y.setCell ⟨b5,k,none⟩ (.int .u32 v)) b4 243 (aN 8 [])):=Ld ((m.out.blk r.out).fr HF.out (by have:=HZ.out;omega));have c8:Hid (ab (y.setCell ⟨b5,k,none⟩ (.int .u32 v)) b2 243 (aN 8 F)):=Ld ((m.out.blk q.out).fr HF.out (by have:=HZ.out;omega))
     have g3:Hid (ab (y.setCell ⟨b5,k,none⟩ (.int .u32 v)) b5 243 (aN 8 (ij R.list F (k+1)))):=Ld (by
      have:=(m.out.blk l.out).set k (.int .u32 v);rw[HV.out,xp b7]at this;rw[HV.out]
      exact this)
     go_wp2_with fail
     go_roundw
     case rel=>exact⟨k+1,by omega,by go_num,j8,d',c8,g3⟩
     case measure=>simp[intOf];omega
    ·obtain rfl:k=8:=by omega
     have b9:(aN 8 (ij R.list F 8)).size=8:=gF (by rw[pQ];exact Nat.le_refl _);have i5:(aN 8 []).size=(aN 8 (ij R.list F 8)).size:=by rw[b9];exact gF (by simp)
     go_wp2_with (first
      |(refine cg 109 rfl ?_;refine ac rfl _ rfl underlying243 rfl (by rw[b9];rfl) rfl l.out ?_)
      |((with_reducible refine aA ⟨none,.store 243 (.tmp 4) _,_,_,_,_⟩ ?_);refine an rfl (.tmp 4) (.tmp 109) rfl (by rw[b9];rfl) rfl rfl r.out i5 (ud _ _) ?_;intro w8 O T;have g5:=Ld O;have L:=Ld T;clear O T))
     rw[k0.out,←g6.out];exact bodyPost_ret (v:=.agg (aN 8 (ij R.list F 8))) (dM rfl _ _ b4 _ _ rfl g5.out underlying243 rfl (by rw[b9];rfl)) rfl ⟨rfl,HN.out.fr L.out (fun k hk=>by have:=HZ.out;omega)⟩
end Go.Proofs.YtfchcdbfalgdlaaGreatDoor
namespace Go.Proofs.YtfchcdbfalgdlaaGreatDoor
open _root_.Go.Proofs.Tryz
open Go.RowKit Go.Maps
def Rv(v:Value):Option (DataW Value×List MemPlace):=some (.held v,[])
def wZ:DataW Value→Value| .held v=>v|_=>undef
def kE(f:Lit→Option Value)(kl:Lit)(v:Option Value):Lit→Option Value:=fun x=>if x.sameKey kl then v else f x
theorem gB{f:Lit→Option Value}{kl:Lit}(c:WideAt.IsKeyLit kl)(v:Option Value):kE f kl v kl=v:=by
 unfold kE;rw[if_pos (by cases kl<;>simp_all [Lit.sameKey,WideAt.IsKeyLit])]
theorem eU{f:Lit→Option Value}{kl x:Lit}(h:x≠kl)(v:Option Value):kE f kl v x=f x:=by
 unfold kE;rw[if_neg (by rw[Maps.sameKey_ne h];simp)]
def aH(w:World)(P:Program)(k:TypeId)(b n:Nat)(f:Lit→Option Value):Prop:=
 ∃D:DataW Value,w.ownsMap P k Rv b n D∧∀kl,f kl=if Maps.has D kl then some (wZ (D.atKey kl (.held undef)))else none
section
variable {P:Program}{k:TypeId}{w w':World}{b n:Nat}{f:Lit→Option Value}
theorem aH.lt(h:aH w P k b n f):b<w.heap.size:=by obtain⟨D,c,_⟩:=h;exact c.lt
theorem aH.mono(h:aH w P k b n f){m:Nat}(i:n≤m):aH w P k b m f:=by obtain⟨D,c,d⟩:=h;exact⟨D,c.mono i,d⟩
theorem aH.fr{S:Nat→Prop}(h:aH w P k b n f)(m:Fr S w w')(p:¬S b):aH w' P k b n f:=by
 obtain⟨D,i,h2⟩:=h;have c:=i.lt;obtain⟨j,clock,l,F,d,e⟩:=i;exact⟨D,⟨j,clock,(m.block b c p).trans l,F,d,e⟩,h2⟩
theorem aH.alloc(h:aH w P k b n f)(o:Obj):aH (w.alloc o) P k b n f:=h.fr (S:=ia) ((Fr.refl _ _).alloc _) (fun x=>x)
theorem aH.made(w:World)(P:Program)(k:TypeId):aH (w.alloc (.map #[] 0)) P k w.heap.size 0 (fun _=>none):=
 ⟨.map [],World.ownsMap_made w P k Rv,fun kl=>by simp[Maps.has]⟩
theorem aH.look{t e:TypeId}(h:aH w P k b n f)(K:Keyed P k)(ht:P.underlying t=some (.map k e)){z:Value}(B:(zeroValue e).run P w=.ok z w){key:Value}{kl:Lit}(j:keyOf P k key=some kl):
    (Instr.lookup t (.map (some b)) key true).run P w=.ok (.tuple #[(f kl).getD z,.bool (f kl).isSome]) w∧(Instr.lookup t (.map (some b)) key false).run P w=.ok ((f kl).getD z) w:=by
 obtain⟨D,J,E⟩:=h;obtain⟨L,clock,u,F,_,rfl⟩:=J;rcases Maps.fit_look true K ht B u F j with⟨l,_,p⟩|⟨I,y,_,_,l,m,p,_⟩
 ·have r:=Maps.has_false_of_atKey p;rcases Maps.fit_look false K ht B u F j with ⟨c,_,d⟩ | ⟨q,H,_,_,c,i,d,_⟩
  ·rw[E kl,r];exact⟨l,c⟩
  ·exact absurd (Maps.has_true_of_atKey d) (by rw[r];simp)
 ·have r:=Maps.has_true_of_atKey p;have G:y=(.held I.val,[]):=by unfold Rv at m;injection m with m;exact m.symm
  rcases Maps.fit_look false K ht B u F j with⟨c,_,d⟩|⟨q,H,_,_,c,i,d,_⟩
  ·exact absurd (Maps.has_false_of_atKey d) (by rw[r];simp)
  ·have v:H=(.held q.val,[]):=by unfold Rv at i;injection i with i;exact i.symm
   have C:=p (.held undef);have s:=d (.held undef);rw[C,G,v]at s;injection s with s;rw[E kl,r,if_pos rfl,C,G];refine⟨l,?_⟩;rw[c,←s];rfl
theorem aH.store{t e:TypeId}(h:aH w P k b n f)(K:Keyed P k)(ht:P.underlying t=some (.map k e))(q:n<maxLen){key:Value}{kl:Lit}(c:keyOf P k key=some kl)(val:Value):
    ∃w',(Instr.mapUpdate t (.map (some b)) key val).run P w=.ok () w'∧aH w' P k b (n+1) (kE f kl (some val))∧Fr (fun j=>j=b) w w':=by
 obtain⟨D,l,p⟩:=h;obtain⟨w',d,h1,h2⟩:=l.update K ht q c (show Rv val=some (.held val,[])from rfl);refine⟨w',d,⟨_,h1,fun x=>?_⟩,(Fr.refl _ _).grown h2 (fun j _ m=>by injection m with m;exact m.symm)⟩
 by_cases i:x=kl
 ·subst i;rw[gB (K.key c),Maps.has_put_same l.isMap (K.key c),Maps.atKey_put_same l.isMap (K.key c)];rfl
 ·rw[eU i,Maps.has_put_other i,Maps.atKey_put_other i,p x]
theorem aH.drop{t e:TypeId}(h:aH w P k b n f)(K:Keyed P k)(ht:P.underlying t=some (.map k e)){key:Value}{kl:Lit}(c:keyOf P k key=some kl)(ty:TypeId):
    ∃w',(Builtin.delete_ #[t,k] ty #[.map (some b),key]).run P w=.ok (.tuple #[]) w'∧aH w' P k b n (kE f kl none)∧Fr (fun j=>j=b) w w':=by
 obtain⟨D,m,p⟩:=h;obtain⟨w',d,h1,h2⟩:=m.drop K ht c ty;refine⟨w',d,⟨_,h1,fun x=>?_⟩,(Fr.refl _ _).grown h2.grown (fun j _ l=>by injection l with l;exact l.symm)⟩
 by_cases i:x=kl
 ·subst i;rw[gB (K.key c),Maps.has_del_same];rfl
 ·rw[eU i,Maps.has_del_other i,Maps.atKey_del_other i,p x]
end
section
variable {P:Program}{w:World}{ops:Array Oper}{rest:List Oper}{o:Oper}{a:Act}{Q:Exit→Act→World→Prop}{b n:Nat}{f:Lit→Option Value}
theorem fT{k e t:TypeId}(q:aH w P k b n f)(K:Keyed P k)(ht:P.underlying t=some (.map k e)){z:Value}(B:(zeroValue e).run P w=.ok z w)(r:o.guard=none)(m x:Operand)(l:o.op=Op.lookup t m x true)
    (s:a.eval m=.map (some b)) (key:Value) (kl:Lit) (y:a.eval x=key) (d:keyOf P k key=some kl) (v:Value) (ok:Bool) (u:(f kl).getD z=v) (j:(f kl).isSome=ok)
    (p:wpList P ops Q rest (a.put o.dst (.tuple #[v,.bool ok])) w):wpList P ops Q (o::rest) a w:=by
 refine wpList_plain r fun C i=>?_
 have c:=(q.look K ht B d).1;rw[u,j]at c;unfold Oper.wp;simp[execOp,l,s,y,c,Result.andThen];exact i _ _ p
theorem pN{k e t:TypeId}(p:aH w P k b n f)(K:Keyed P k)(ht:P.underlying t=some (.map k e)){z:Value}(y:(zeroValue e).run P w=.ok z w)(q:o.guard=none)(m x:Operand)(j:o.op=Op.lookup t m x false)
    (r:a.eval m=.map (some b)) (key:Value) (kl:Lit) (u:a.eval x=key) (d:keyOf P k key=some kl) (v:Value) (s:(f kl).getD z=v)
    (l:wpList P ops Q rest (a.put o.dst v) w):wpList P ops Q (o::rest) a w:=by
 refine wpList_plain q fun B i=>?_
 have c:=(p.look K ht y d).2;rw[s]at c;unfold Oper.wp;simp[execOp,j,r,u,c,Result.andThen];exact i _ _ l
end
def aO(t:TypeId)(w:World)(b:Nat):Prop:=∃(cs:Array Value) (fz:Nat×Nat),w.heap[b]?=some (.cells cs t fz)
theorem aO.fr{t:TypeId}{w w':World}{S:Nat→Prop}{b:Nat}(h:aO t w b)(d:Fr S w w')(i:¬S b):aO t w' b:=by
 obtain⟨cs,fz,c⟩:=h;exact⟨cs,fz,(d.block b (Array.getElem?_eq_some_iff.1 c).1 i).trans c⟩
theorem aO.not_blk{t d:TypeId}{w:World}{cs:Array Value}{k:Nat}(h:ab w k d cs)(ht:d≠t):¬aO t w k:=by
 rintro⟨cs',fz,c⟩;unfold ab at h;rw[h]at c;injection c with c;injection c with _ c;exact ht c
theorem aO.not_own{t:TypeId}{w:World}{base e s n k:Nat}{v:Value}{xs:List Value}(h:w.ownsRow base e s v n xs)(d:e≠t)(c:v.ownBlock=some k):¬aO t w k:=by
 rcases h.2 with⟨rfl,_⟩|⟨g',cap,cur,rfl,_,i,_⟩
 ·cases c
 ·have:g'=k:=by simpa [Value.ownBlock] using c
  subst this;exact aO.not_blk i d
theorem aO.not_map{t:TypeId}{w:World}{P:Program}{i:TypeId}{b n:Nat}{f:Lit→Option Value}(h:aH w P i b n f):¬aO t w b:=by
 rintro⟨cs,fz,c⟩;obtain⟨D,⟨j,clock,d,_⟩,_⟩:=h;rw[d]at c
 cases c
def fg(t:TypeId)(w:World)(size:Nat)(A:Option Addr)(n:Nat)(xs:List Value):Prop:=Rd (aO t w) w size A n xs
section
variable {t:TypeId}{w w':World}{S:Nat→Prop}{size n:Nat}{A:Option Addr}{xs:List Value}
theorem fg.fr(h:fg t w size A n xs)(l:Fr S w w')(v:∀k,S k→¬aO t w k):fg t w' size A n xs:=by
 refine⟨h.1,fun s=>?_⟩;obtain⟨i,e,m,c,q⟩:=h.2 s;have d:¬S i.block:=fun r=>v _ r m
 exact⟨i,e,m.fr l d,Nat.lt_of_lt_of_le c l.size,fun j u hu=>by
  have:=q j u hu
  rwa[←l.cell (p:=i.add j) (by rw[eu];exact c) (by rw[eu];exact d)]at this⟩
theorem fg.new(h:fg t w size A n xs)(c:aa w w'):fg t w' size A n xs:=h.fr (c.toFr ia) (fun _ x=>x.elim)
theorem fg.own{base:Nat}{v:Value}{c:Nat}(h:w.ownsRow base t size v n xs)(l:v=.slice A n c):fg t w size A n xs:=by
 refine⟨h.1,fun r=>?_⟩;obtain⟨m,e,s,i,p⟩:=(Rd.own h l).2 r;refine⟨m,e,?_,i,p⟩;subst l;rcases h.2 with⟨d,_⟩|⟨g',j,cur,d,_,q,_⟩
 ·injection d with d;rw[d]at e;cases e
 ·injection d with d;rw[d]at e;injection e with e;subst e;exact⟨_,_,q⟩
theorem fg.nil:fg t w size A 0 []:=Rd.nil
end
end Go.Proofs.YtfchcdbfalgdlaaGreatDoor
namespace Go.Proofs.YtfchcdbfalgdlaaGreatDoor
open _root_.Go.Proofs.Tryz
open Go.RowKit
theorem se{P:Program}{t e:TypeId}{size bytes:Nat}(E:aW P t e size bytes)(m:size≤16777216)(v:Value)(p:v.cells.size=size)(w:World):
    (Instr.buildSlice t 1 #[(0,v)]).run P w=.ok (.slice (some ⟨w.heap.size,0,none⟩) 1 1) (w.alloc (.cells v.cells e)):=by
 obtain⟨i,z,hi,d,c,-,j⟩:=E.info;have l:=E.pos;refine run_buildSlice w t e 1 #[(0,v)] v.cells i z E.ht hi d (by rw[c];omega) (by rw[c];omega) ?_;have h:=Great.fill_whole (s:=i.size) (by omega) [v] ((Array.range (1*i.size)).map (z.cells[·%z.cells.size]!)) (by intro u hu;obtain rfl:=List.mem_singleton.1 hu;omega) (by simp)
 simpa using h
theorem cn{P:Program}{t e:TypeId}{size bytes:Nat}(E:aW P t e size bytes)(l:size≤16777216){ops:Array Oper}{rest:List Oper}{o:Oper}{a:Act}{w:World}{Q:Exit→Act→World→Prop}(i:o.guard=none)(x:Operand)
    (j:o.op=.buildSlice t 1 #[(0,x)]) (cs:Array Value) (m:a.eval x=.agg cs) (d:cs.size=size)
    (h:wpList P ops Q rest (a.put o.dst (.slice (some ⟨w.heap.size,0,none⟩) 1 1)) (w.alloc (.cells cs e))):wpList P ops Q (o::rest) a w:=
 wpList_plain i fun _ c=>by
  unfold Oper.wp execOp;simp only[j,Sem.run_bind,List.map_toArray,List.map_cons,List.map_nil,m,se E l (.agg cs) d w,Result.andThen_ok];exact c _ _ h
theorem dH{P:Program}{ops:Array Oper}{Q:Exit→Act→World→Prop}{rest:List Oper}{a:Act}{w:World}(o:Oper)(h:wpList P ops Q (o::rest) a w):wpList P ops Q (o::rest) a w:=h
end Go.Proofs.YtfchcdbfalgdlaaGreatDoor
namespace Go.Proofs.YtfchcdbfalgdlaaGreatDoor
open _root_.Go.Proofs.Tryz
open Go.RowKit Go.Maps
theorem gT{p:Nat→Prop}(A:Option Addr)(n c:Nat)(xs:List Int)(w:World)(hO:Rd p w 1 A n (am xs))(E:n≤140737488355328):
    Calls prog 138 #[.slice A n c] w fun e w'=>(∃s u,e=.returned (.slice s n u)∧w'.ownsRow w.heap.size 5 1 (.slice s n u) n (am xs))∧aa w w':=by
 have y:=Ld hO;rcases A with _|m
 ·have h0:n=0:=by
   rcases Nat.eq_zero_or_pos n with h|h
   ·exact h
   ·obtain⟨m,z,_⟩:=hO.2 h
    cases z
  subst h0;have C:xs=[]:=List.eq_nil_of_length_eq_zero (by have:=hO.1;rw[ah]at this;omega);subst C;clear hO;have r:=fun w=>Lib.run_eql_slice_nil (P:=prog) w 33 5 none 0 c 0 0 underlying33
  go_enter func138,ntmps138
  go_wp2_with fail
  go_ret;exact⟨⟨none,0,rfl,World.ownsRow_nil _ _ _ _⟩,aa.refl w⟩
 ·clear hO;have r:=fun w=>Lib.run_eql_slice_nil (P:=prog) w 33 5 (some m) n c 0 0 underlying33
  go_enter func138,ntmps138
  go_wp2_with (at_builtin;refine aq jJ _ rfl (.tmp 5) (.tmp 6) rfl w.heap.size (.slice (some ⟨w.heap.size,0,none⟩) 0 0) 0 [] rfl (eA (ab.new w 5 #[]) (Nat.le_refl _)) (some m) n c (am xs) rfl (aa.rd (aa.al (aa.refl w) _) y.out) (aM xs) (by unfold maxLen;omega) (by omega) (by simp) ?_;intro v d1 D d i q;rw[Nat.zero_add];rw[Nat.zero_add,List.nil_append]at d;have l:=Ld d;have j:Hid (aa w D):=Ld ((aa.al (aa.refl w) _).fr i (by intro k B;simp[Value.ownBlock]at B;omega));clear d i q)
  go_ret;exact⟨⟨v,d1,rfl,l.out⟩,j.out⟩
def WS(base g:Nat)(w:World)(k:Nat):Prop:=k=g∨(base≤k∧aO 5 w k)
structure fK(w:World)(base g:Nat)(xs:List Int):Prop where
 st:∃A c,ab w g 168 #[.nilIface,.slice A xs.length c]∧w.ownsRow base 5 1 (.slice A xs.length c) xs.length (am xs)
 gb:base≤g
 byt:aU xs
def FW(base g:Nat)(w w':World):Prop:=Fr (WS base g w) w w'
section
variable {base g:Nat}{w w' w'':World}{xs:List Int}
theorem FW.refl:FW base g w w:=Fr.refl _ _
theorem FW.tr(h:FW base g w w')(k:FW base g w' w''):FW base g w w'':=by
 refine⟨k.os.trans h.os,k.tape.trans h.tape,k.output.trans h.output,Nat.le_trans h.size k.size,fun j d i=>?_⟩;have e:=h.block j d i;refine(k.block j (Nat.lt_of_lt_of_le d h.size) (fun c=>i ?_)).trans e;rcases c with c|⟨c,cs,fz,l⟩
 ·exact .inl c
 ·exact .inr ⟨c,cs,fz,e.symm.trans l⟩
theorem FW.new(h:aa w w'):FW base g w w':=h.toFr _
theorem fK.lt(h:fK w base g xs):g<w.heap.size:=by obtain⟨A,c,d,_⟩:=h.st;exact d.lt
theorem fK.base_le(h:fK w base g xs):base≤w.heap.size:=by have:=h.lt;have:=h.gb;omega
theorem fK.new(h:fK w base g xs)(d:aa w w'):fK w' base g xs:=by
 obtain⟨A,c,i,j⟩:=h.st;exact⟨⟨A,c,d.blk i,d.own j⟩,h.gb,h.byt⟩
theorem FW.blk(h:FW base g w w'){k t:Nat}{cs:Array Value}(c:ab w k t cs)(ht:t≠5)(d:k≠g):ab w' k t cs:=
 c.fr h (fun i=>i.elim d (fun x=>aO.not_blk c ht x.2))
theorem FW.toNew(h:FW base g w w'){c:World}(d:aa c w)(j:c.heap.size≤base)(l:base≤g):aa c w':=d.fr h (fun k i=>i.elim (fun x=>by omega) (fun x=>by omega))
end
theorem qK (n:Int) (h:n=1∨n=2∨n=4∨n=8) (w:World):Calls prog 139 #[.int .i64 n] w fun e w'=>e= .returned (.bool true)∧w=w':=by
 rcases h with rfl|rfl|rfl|rfl
 all_goals
  go_enter func139,ntmps139
  go_wp2_with fail
  go_ret;exact⟨rfl,rfl⟩
theorem cJ{w:World}{base e s n k:Nat}{v:Value}{xs:List Value}(h:w.ownsRow base e s v n xs)(c:v.ownBlock=some k):aO e w k:=by
 rcases h.2 with⟨rfl,_⟩|⟨g',cap,cur,rfl,_,d,_⟩
 ·simp[Value.ownBlock]at c
 ·have:g'=k:=by simpa [Value.ownBlock] using c
  subst this;exact⟨_,_,d⟩
theorem xi{base g:Nat}{w y i:World}{xs ys:List Int}{A j:Option Addr}{n m c d1:Nat}(H:fK w base g xs)(E:ab w g 168 #[.nilIface,.slice A n c])(hO:w.ownsRow base 5 1 (.slice A n c) n (am xs))(G:n=xs.length)(C:aa w y)
    (q:Fr (fun k=>(Value.slice A n c).ownBlock=some k) y i) (s:i.ownsRow base 5 1 (.slice j (n+m) d1) (n+m) (am xs++am ys)) (F:ys.length=m) (I:aU ys):
    fK (i.setCell ⟨g,1,none⟩ (.slice j (n+m) d1)) base g (xs++ys)∧FW base g w (i.setCell ⟨g,1,none⟩ (.slice j (n+m) d1)):=by
 have D:(Value.slice A n c).ownBlock≠some g:=bG hO E (by decide);have l:ab i g 168 #[.nilIface,.slice A n c]:=(C.blk E).fr q (fun d=>D d);have r:Fr (fun k=>k=g) i (i.setCell ⟨g,1,none⟩ (.slice j (n+m) d1)):=(Fr.refl (fun k=>k=g) i).setCell (p:=⟨g,1,none⟩) (fun _=>rfl) _
 have z:ab (i.setCell ⟨g,1,none⟩ (.slice j (n+m) d1)) g 168 #[.nilIface,.slice j (n+m) d1]:=by
  have:=l.set 1 (.slice j (n+m) d1)
  simpa using this
 have u:∀k,(Value.slice j (n+m) d1).ownBlock=some k→¬k=g:=fun k d e=>by
  subst e;exact bG s l (by decide) d
 refine⟨⟨⟨j,d1,?_,?_⟩,H.gb,fun x v=>?_⟩,?_⟩
 ·rw[List.length_append,←G,F];exact z
 ·rw [List.length_append,←G,F];have e:am (xs++ys)=am xs++am ys:=by simp [am]
  rw[e];exact bD s r (fun k d=>u k d)
 ·rcases List.mem_append.1 v with v | v
  ·exact H.byt x v
  ·exact I x v
 ·have hF:FW base g w y:=FW.new C;have B:FW base g y i:=q.mono (fun k _ d=>.inr ⟨(ak hO k d).1,cJ (C.own hO) d⟩);exact(hF.tr B).tr (r.mono (fun k _ d=>.inl d))
theorem mg{base g:Nat}{w:World}{xs:List Int}{p:Nat→Prop}(h:fK w base g xs)(B:Option Addr)(m d:Nat)(ys:List Int)(F:Rd p w 1 B m (am ys))(I:aU ys)(hl:xs.length+m≤140737488355328):
    Calls prog 147 #[.pointer (some ⟨g,0,none⟩),.slice B m d] w fun e w'=>e=.returned (.pointer (some ⟨g,0,none⟩))∧fK w' base g (xs++ys)∧FW base g w w':=by
 obtain⟨A,c,E,hO⟩:=h.st;have J:ys.length=m:=by have:=F.1;rw[ah]at this;omega
 have H:=Ld h;have v:=Ld E;have C:=Ld hO;have O:=Ld F;have R:=Ld I;have N:=Ld J;have s:(Value.slice A xs.length c).ownBlock≠some g:=bG hO E (by decide);have l:=Ld s;obtain⟨n,G⟩:=nM (xs.length);rw[←G]at v C l hl;have z:=Ld G;clear h I E hO F J s G;have V:w.cell? ⟨g,1,none⟩=some (.slice A n c):=v.out.cell 1
 go_enter func147,ntmps147
 go_wp2_with (at_builtin;refine aq (o:=⟨some 13,_,_,_,_,_⟩) jJ _ rfl (.tmp 11) (.tmp 12) rfl base (.slice A n c) n (am xs) rfl C.out B m d (am ys) rfl O.out (aM ys) (by unfold maxLen;omega) (by omega) H.out.base_le ?_;intro U d1 L r i q;have j:Hid (ab L g 168 #[.nilIface,.slice A n c]):=Ld (v.out.fr i (fun T=>l.out T));have f3:=j.out.frozen 1;have X:L.cell? ⟨g,1,none⟩=some (.slice A n c):=j.out.cell 1;have D:=Ld r;have y:=Ld i;have M:=Ld q;clear r i q)
 go_ret;have u:=xi (ys:=ys) H.out v.out C.out z.out (aa.refl w) y.out D.out N.out R.out;exact⟨rfl,u.1,u.2⟩
theorem mJ{P:Program}{ops:Array Oper}{o:Oper}{a:Act}{K:Act→World→Prop}{Q:Exit→Act→World→Prop}{w:World}{F:Prop}{t e:TypeId}{bytes:Nat}(E:aW P t e 1 bytes)(i:Region.wanted o (yielded ops a.tmps)=true)(x:Operand)
    (c:o.op=.buildSlice t 1 #[(0,x)]) (v:Value) (j:a.eval x=v) (d:v.cells.size=1)
    (h:∀g w',ab w' g e v.cells→aa w w'→w.heap.size≤g→K (a.put o.dst (.slice (some ⟨g,0,none⟩) 1 1)) w'):if Region.wanted o (yielded ops a.tmps)=true then Oper.wp P o a w K Q else F:=by
 rw[if_pos i];unfold Oper.wp execOp;simp only[c,Sem.run_bind,List.map_toArray,List.map_cons,List.map_nil,j,se E (by decide) v d w,Result.andThen_ok];exact h _ _ (ab.new _ _ _) (aa.al (aa.refl _) _) (Nat.le_refl _)
theorem lV(n k:Nat):(n:Int)/2^(8*(k:Int)).toNat=((n/256^k:Nat):Int):=by
 have c:(8*(k:Int)).toNat=8*k:=by omega
 have d:(2:Nat)^(8*k)=256^k:=by rw[Nat.pow_mul]
 rw[c,Int.natCast_ediv,←d,Int.natCast_pow];rfl
theorem eB(m:Nat):IntKind.u8.wrap (m:Int)=((m%256:Nat):Int):=by
 simp[IntKind.wrap,IntKind.signed,IntKind.bits]
theorem fC{base g:Nat}{w:World}{xs:List Int}(h:fK w base g xs)(n size:Nat)(hs:size=1∨size=2∨size=4∨size=8)(hn:n<256^size)(hl:xs.length+8≤140737488355328):
    Calls prog 104 #[.pointer (some ⟨g,0,none⟩),.int .u64 n,.int .i64 size] w fun e w'=>e=.returned (.pointer (some ⟨g,0,none⟩))∧fK w' base g (xs++aY size n)∧FW base g w w':=by
 have H:=Ld h;have C:=fun w=>qK size (by omega) w
 have b8:size≤8:=by omega
 have b7:1≤size:=by omega
 clear h
 go_enter func104,ntmps104
 go_wp2_with fail
 refine(C w).mono ?_;rintro e w0 ⟨rfl,rfl⟩;have jL:=lV n size;rw[Nat.div_eq_of_lt hn]at jL;clear C
 by_cases h8:size<8
 all_goals
  have R:decide ((size:Int)<8)=decide (size<8):=decide_eq_decide.2 (by omega)
  go_wp2_with fail
  clear jL R
  go_loopw [7] (fun i wr=>∃j:Nat,j≤size∧i=.int .i64 ((j:Int)-1)∧Hid (fK wr base g (xs++(aY size n).take (size-j)))∧Hid (FW base g w wr)) (fun i _=>(intOf i+1).toNat)
  case atStart=>exact⟨size,Nat.le_refl _,rfl,Ld (by simpa using H.out),Ld FW.refl⟩
  case round=>
   obtain⟨j,hj,rfl,E,U⟩:=hrel;rcases Nat.eq_zero_or_pos j with h0|h0
   ·subst h0
    go_wp2_with fail
    go_ret;have Y:=E.out;rw[Nat.sub_zero,List.take_of_length_le (by rw[av];exact Nat.le_refl _)]at Y;exact⟨rfl,Y,U.out⟩
   ·obtain⟨k,rfl⟩:∃k,j=k+1:=⟨j-1,by omega⟩
    have u:(((k+1:Nat):Int)-1)=(k:Int):=by omega
    rw[u];obtain⟨A,c,N,hO⟩:=E.out.st
    have r:(xs++(aY size n).take (size-(k+1))).length=xs.length+(size-(k+1)):=by
     rw[List.length_append,List.length_take,av];omega
    rw[r]at N hO;have D:=Ld N;have L:=Ld hO;clear N hO r u
    go_wp2_with fail
    have V:wr.cell? ⟨g,1,none⟩=some (.slice A (xs.length+(size-(k+1))) c):=D.out.cell 1;refine fU (iA ⟨g,1,none⟩ (.slice A (xs.length+(size-(k+1))) c)) 14 [(true,0),(true,1),(true,2),(true,3),(true,4),(true,5),(true,6),(true,7),(true,8),(true,9),(false,10),(false,11),(true,12),(true,13),(false,14)] (by kernel_rfl) (by kernel_rfl) V (fun b3=>?_);have cp:=iA.all ⟨g,1,none⟩ (.slice A (xs.length+(size-(k+1))) c);have jL:=lV n k
    have O:IntKind.u8.wrap ((n:Int)/256^k)=((aK n k:Nat):Int):=by
     rw[show(n:Int)/256^k=((n/256^k:Nat):Int)from by simp,eB];rfl
    have T:IntKind.i64.wrap (8*(k:Int))=8*k:=IntWalk.i64_in _ (by omega);have b0:(0:Int)≤8*(k:Int):=by omega
    have Z:8*(k:Int)≤64:=by omega
    iterate 10 (refine ae (o:=.mk ..) rfl (fun K d=>?_);go_simp;refine d _ ?_;clear d K)
    refine aj (o:=.mk ..) rfl (fun K d=>?_) (.inl rfl);refine mJ jJ rfl (.tmp 45) rfl (.int .u8 (aK n k:Nat)) (by rfl) rfl ?_;intro gb F z l b1;simp only[Act.put,bK,bM,bO];have l:aa wr F:=aa.tr (aa.dr (aa.refl _)) l;have X:F.cell? ⟨g,1,none⟩=some (.slice A (xs.length+(size-(k+1))) c):=l.cell_ V;refine d.out _ _ (fun _=>X) ?_;clear d K;clear O jL T;have m:Hid (aa wr F):=Ld l;have G:Hid (ab F gb 5 #[.int .u8 (aK n k:Nat)]):=Ld z;clear l z;refine aj (o:=.mk ..) rfl (fun K d=>?_) (.inl rfl);refine cq jJ _ (by rfl) (.tmp 40) (.tmp 46) (by rfl) base (.slice A (xs.length+(size-(k+1))) c) (xs.length+(size-(k+1))) _ (by rfl) (m.out.own L.out) (some ⟨gb,0,none⟩) 1 1 [.int .u8 (aK n k:Nat)] (by rfl) (Rd.ofBlk (p:=fun _=>True) G.out 1 1 rfl trivial) (by simp[Value.oneCell']) (by unfold maxLen;omega) (by omega) (Nat.le_trans E.out.base_le m.out.size) ?_;intro A4 d4 w5 B q y;simp only[Act.put,bK,bM,bO];have v:Hid ((Value.slice A (xs.length+(size-(k+1))) c).ownBlock≠some g):=Ld (bG L.out D.out (by decide));have c5:w5.cell? ⟨g,1,none⟩=some (.slice A (xs.length+(size-(k+1))) c):=q.cell_some X (fun u=>v.out u);have I:Hid (ab w5 g 168 #[.nilIface,.slice A (xs.length+(size-(k+1))) c]):=Ld ((m.out.blk D.out).fr q (fun u=>v.out u));have f5:=I.out.frozen 1;have J:=Ld q;have M:=Ld B;have b':=Ld y;clear q B y;refine d.out _ _ (fun _=>c5) ?_;clear d K
    iterate 2 (refine ae (o:=.mk ..) rfl (fun K d=>?_);go_simp;refine d _ ?_;clear d K)
    refine aj (o:=.mk ..) rfl (fun K d=>?_) (.inl rfl);go_simp;refine d.out _ _ (fun h=>absurd rfl h) ?_;clear d K;refine ao ?_
    go_wp2_with fail
    go_roundw
    case rel=>
     have s:=xi (ys:=[((aK n k:Nat):Int)]) E.out D.out L.out (by rw[List.length_append,List.length_take,av];omega) m.out J.out M.out rfl (fun x hx=>by
      rw[List.mem_singleton]at hx;subst hx;have:=pU n k
      omega)
     rw[List.append_assoc,←nP size n k (by omega)]at s;exact⟨k,by omega,rfl,Ld s.1,Ld (U.out.tr s.2)⟩
    case measure=>simp[intOf]
theorem yD{base g:Nat}{w:World}{xs:List Int}(h:fK w base g xs)(b:Bool)(hl:xs.length+8≤140737488355328):
    Calls prog 105 #[.pointer (some ⟨g,0,none⟩),.bool b] w fun e w'=>e=.returned (.pointer (some ⟨g,0,none⟩))∧fK w' base g (xs++[if b then 1 else 0])∧FW base g w w':=by
 cases b
 ·have c:=Ld (fC h 0 1 (by omega) (by omega) hl);clear h
  go_enter func105,ntmps105
  go_wp2_with fail
  refine c.out.mono ?_;rintro e j ⟨rfl,h1,h2⟩;have d:=Ld h1;have i:=Ld h2;clear h1 h2 c
  go_wp2_with fail
  go_ret;exact⟨rfl,d.out,i.out⟩
 ·have c:=Ld (fC h 1 1 (by omega) (by omega) hl);clear h
  go_enter func105,ntmps105
  go_wp2_with fail
  refine c.out.mono ?_;rintro e j ⟨rfl,h1,h2⟩;have d:=Ld h1;have i:=Ld h2;clear h1 h2 c
  go_wp2_with fail
  go_ret;exact⟨rfl,d.out,i.out⟩
theorem pi{base g:Nat}{w:World}{xs:List Int}{p:Nat→Prop}(h:fK w base g xs)(B:Option Addr)(m d:Nat)(ys:List Int)(l:Rd p w 1 B m (am ys))(q:aU ys)(E:m≤65535)(hl:xs.length+m+8≤140737488355328)(r:∀k,p k→k≠g∧(k<base∨¬aO 5 w k)):
    Calls prog 106 #[.pointer (some ⟨g,0,none⟩),.slice B m d] w fun e w'=>e=.returned (.pointer (some ⟨g,0,none⟩))∧fK w' base g (xs++aY 2 m++ys)∧FW base g w w':=by
 have j:=Ld (fC h m 2 (by omega) (by omega) (by omega));have C:=Ld l;have y:=Ld q;have z:=Ld r;clear h l q r
 go_enter func106,ntmps106
 go_wp2_with fail
 refine j.out.mono ?_;rintro e F ⟨rfl,h1,h2⟩;have s:=Ld h1;have i:=Ld h2;clear h1 h2 j
 go_wp2_with fail
 refine(mg s.out B m d ys (C.out.fr i.out (fun k D c=>by
  have:=z.out k D;rcases c with c|c
  ·exact this.1 c
  ·rcases this.2 with h | h
   ·omega
   ·exact h c.2)) y.out (by rw[List.length_append,av];omega)).mono ?_
 rintro e G ⟨rfl,h1,h2⟩;have u:=Ld h1;have v:=Ld h2;clear h1 h2
 go_wp2_with fail
 go_ret;exact⟨rfl,u.out,i.out.tr v.out⟩
theorem kz{base g:Nat}{w:World}{xs:List Int}(h:fK w base g xs)(hl:xs.length≤140737488355328):
    Calls prog 107 #[.pointer (some ⟨g,0,none⟩)] w fun e w'=>(∃A c,e=.returned (.tuple #[.slice A xs.length c,.nilIface])∧w'.ownsRow w.heap.size 5 1 (.slice A xs.length c) xs.length (am xs))∧aa w w':=by
 obtain⟨A,c,j,hO⟩:=h.st;have r:=Ld j;have q:=Ld (gT A xs.length c xs w (Rd.own hO rfl) hl);have s:w.cell? ⟨g,0,none⟩=some .nilIface:=j.cell 0;have u:w.cell? ⟨g,1,none⟩=some (.slice A xs.length c):=j.cell 1;clear h j hO
 go_enter func107,ntmps107
 go_wp2_with fail
 refine q.out.mono ?_;rintro e v ⟨⟨p,d1,rfl,i⟩,d⟩;have m:=Ld i;have l:=Ld d;clear i d
 go_wp2_with fail
 go_ret2
 exact⟨⟨p,d1,rfl,m.out⟩,l.out⟩
end Go.Proofs.YtfchcdbfalgdlaaGreatDoor
namespace Go.Proofs.YtfchcdbfalgdlaaGreatDoor
open _root_.Go.Proofs.Tryz
open Go.RowKit Go.Sort
def zN(n:Nat):Nat:=(119-n%64)%64
theorem pw(n:Nat):(n+1+zN n)%64=56∧zN n<64:=by unfold zN;omega
theorem Ei{n k:Nat}(h:k<zN n):(n+1+k)%64≠56:=by unfold zN at h;omega
def dN(xs:List Int)(k:Nat):List Int:=xs++[128]++List.replicate k 0
theorem eK(xs:List Int)(k:Nat):(dN xs k).length=xs.length+1+k:=by simp[dN];omega
theorem qw(xs:List Int)(k:Nat):dN xs (k+1)=dN xs k++[0]:=by simp[dN,List.replicate_succ']
theorem kr(xs:List Int):fv xs=dN xs (zN xs.length)++aY 8 (8*xs.length):=rfl
theorem nH(a b:List Int):am (a++b)=am a++am b:=by simp[am]
def sJ(w wr:World)(v:Value)(L:List Int):Prop:=wr.ownsRow w.heap.size 5 1 v L.length (am L)∧aa w wr
theorem BW{p:Nat→Prop}(A:Option Addr)(n c:Nat)(xs:List Int)(w:World)(hR:Rd p w 1 A n (am xs))(hn:n≤1000000000):
    Calls prog 166 #[.slice A n c] w fun e w'=>(∃A' c',e=.returned (.slice A' (fv xs).length c')∧w'.ownsRow w.heap.size 5 1 (.slice A' (fv xs).length c') (fv xs).length (am (fv xs)))∧aa w w':=by
 have r:Hid (xs.length=n):=Ld (by have:=hR.1;rw[ah]at this;omega);have HC:=Ld (gT A n c xs w hR (by omega));have c6:=(pw n).2;have b1:=Ld (pw n).1;obtain⟨z,hz⟩:=nM (zN n);rw[←hz]at c6 b1;have HZ:=Ld hz;clear hR hz
 go_enter func166,ntmps166
 go_wp2_with fail
 refine HC.out.mono ?_;rintro e w1 ⟨⟨A1,d1,rfl,b8⟩,b7⟩;have L:=Ld b8;have Z:=Ld b7;clear b8 b7 HC;have I:Hid (aa w (w1.alloc (.cells #[.int .u8 128] 5))):=Ld (aa.al Z.out _)
 go_wp2_with (refine cg 8 rfl ?_;refine aq jJ _ rfl (.tmp 6) (.tmp 7) rfl w.heap.size (.slice A1 n d1) n (am xs) rfl (aa.own (aa.al (aa.refl w1) _) L.out) (some ⟨w1.heap.size,0,none⟩) 1 1 [.int .u8 128] rfl (Rd.ofBlk (p:=fun _=>True) (ab.new w1 5 #[.int .u8 128]) 1 1 rfl trivial) (by simp[Value.oneCell']) (by unfold maxLen;omega) (by omega) I.out.size ?_;intro A2 d2 w3 b9 b3 c3;have U:=Ld b3;have b0:=Ld b9;clear b9 b3 c3)
 have b':Hid (aa w w3):=Ld (I.out.fr U.out (fun k hk=>(ak L.out k hk).1))
 have V:Hid (sJ w w3 (.slice A2 (n+1) d2) (dN xs 0)):=Ld ⟨by
  rw[eK,r.out];have e:am (dN xs 0)=am xs++[.int .u8 128]:=by simp[dN,am]
  rw[e]
  exact b0.out,b'.out⟩
 clear L Z I b0 U b'
 go_loopg [3] z (fun g v wr=>∃(k N:Nat) (A:Option Addr) (d:Nat),k≤z∧z-k≤g∧Hid (N=n+1+k)∧v=.slice A N d∧Hid (sJ w wr (.slice A N d) (dN xs k)))
 case atStart=>exact⟨0,n+1,A2,d2,Nat.zero_le _,by omega,Ld rfl,rfl,V⟩
 case round=>
  clear V;obtain⟨k,N,A3,d3,hk,hg,H,rfl,m⟩:=hrel;have c8:N≤2000000000:=by have:=H.out;omega
  by_cases c5:k<z
  ·have hm:((N:Int)%64==56)=false:=beq_eq_false_iff_ne.2 (by
    have h1:=H.out;have h2:=Ei (n:=n) (k:=k) (by rw[←HZ.out];exact c5)
    omega)
   have c0:((N:Int)%64 != 56)=true:=by simp[bne,hm]
   have s:wr.ownsRow w.heap.size 5 1 (.slice A3 N d3) N (am (dN xs k)):=by
    have:=m.out.1
    rwa[eK,r.out,←H.out]at this
   have q:=Ld s;clear s
   go_wp2_with (refine cg 15 rfl ?_;refine aq jJ _ rfl (.tmp 13) (.tmp 14) rfl w.heap.size (.slice A3 N d3) N (am (dN xs k)) rfl (aa.own (aa.al (aa.refl wr) _) q.out) (some ⟨wr.heap.size,0,none⟩) 1 1 [.int .u8 0] rfl (Rd.ofBlk (p:=fun _=>True) (ab.new wr 5 #[.int .u8 0]) 1 1 rfl trivial) (by simp[Value.oneCell']) (by unfold maxLen;omega) (by omega) (aa.al m.out.2 _).size ?_;intro A5 d5 w5 y u R;have E:=Ld u;have O:=Ld y;clear y u R)
   go_roundg (z-(k+1))
   case measure=>omega
   case rel=>
    refine⟨k+1,N+1,A5,d5,by omega,by omega,Ld (by have:=H.out;omega),rfl,Ld ⟨?_,(aa.al m.out.2 _).fr E.out (fun j hj=>(ak q.out j hj).1)⟩⟩;rw[eK,r.out,qw,nH,show n+1+(k+1)=N+1 by have:=H.out;omega];exact O.out
  ·obtain rfl:z=k:=by omega
   have hm:((N:Int)%64==56)=true:=beq_iff_eq.2 (by
    have h1:=H.out;have h2:=b1.out
    omega)
   have c0:((N:Int)%64 != 56)=false:=by simp[bne,hm]
   have Y:Hid (sJ w wr (.slice A3 N d3) (dN xs z++(aY 8 (8*n)).take (8-8))):=Ld (by simpa using m.out);have J:Hid ((dN xs z).length=N):=Ld (by rw[eK,r.out,H.out]);clear m
   go_wp2_with fail
   clear hm c0
   go_loopw [3,4] (fun v i wr=>∃(j:Nat) (A:Option Addr) (d:Nat),j≤8∧i=.int .i64 (8*(j:Int)-8)∧v=.slice A (N+(8-j)) d∧Hid (sJ w wr (.slice A (N+(8-j)) d) (dN xs z++(aY 8 (8*n)).take (8-j)))) (fun _ i _=>(intOf i+8).toNat)
   case atStart=>exact⟨8,A3,d3,Nat.le_refl _,rfl,rfl,Y⟩
   case round=>
    clear Y;obtain⟨j,A6,d6,hj,rfl,rfl,m⟩:=hrel;rcases Nat.eq_zero_or_pos j with h0|h0
    ·subst h0
     have C:(dN xs z++(aY 8 (8*n)).take (8-0))=fv xs:=by
      rw[kr,r.out,←HZ.out,Nat.sub_zero,List.take_of_length_le (by rw[av];exact Nat.le_refl _)]
     have F:=m.out;rw[C]at F;have B:(fv xs).length=N+8:=by rw[kr,List.length_append,av,r.out,←HZ.out,J.out]
     have X:=Ld F;have B:=Ld B;clear m F C
     go_wp2_with fail
     go_ret;rw[B.out];have:=X.out.1;rw[B.out]at this;exact⟨⟨A6,d6,rfl,this⟩,X.out.2⟩
    ·obtain⟨k,rfl⟩:∃k,j=k+1:=⟨j-1,by omega⟩
     have hk:(8*((k+1:Nat):Int)-8)=8*(k:Int):=by omega
     rw[hk];obtain⟨M,hM⟩:=nM (N+(8-(k+1)));rw[←hM]at m⊢;have G:=Ld hM;have c7:M≤2000000010:=by omega
     have D:(dN xs z++(aY 8 (8*n)).take (8-(k+1))).length=M:=by
      rw[List.length_append,List.length_take,av,J.out];omega
     have s:=m.out.1;rw[D]at s;have q:=Ld s;obtain⟨l,T⟩:=nM (8*n);rw[←T]at m q;have c1:=Ld T;have jL:=lV l k
     have c9:IntKind.u8.wrap ((l:Int)/256^k)=((aK l k:Nat):Int):=by
      rw[show(l:Int)/256^k=((l/256^k:Nat):Int)from by simp,eB];rfl
     have hv:((8:Int)*(n:Int))=(l:Int):=by omega
     have g3:IntKind.u64.wrap (l:Int)=(l:Int):=by rw[IntKind.wrap_u64];omega
     clear T;have d':(0:Int)≤8*(k:Int):=by omega
     have c4:8*(k:Int)<64:=by omega
     have f':8*(k:Int)≤56:=by omega
     clear hk s D hM
     go_wp2_with (refine cg 29 rfl ?_;refine aq jJ _ rfl (.tmp 20) (.tmp 28) rfl w.heap.size (.slice A6 M d6) M (am (dN xs z++(aY 8 l).take (8-(k+1)))) rfl (aa.own (aa.al (aa.refl wr) _) q.out) (some ⟨wr.heap.size,0,none⟩) 1 1 [.int .u8 (aK l k:Nat)] rfl (Rd.ofBlk (p:=fun _=>True) (ab.new wr 5 #[.int .u8 (aK l k:Nat)]) 1 1 rfl trivial) (by simp[Value.oneCell']) (by unfold maxLen;omega) (by omega) (aa.al m.out.2 _).size ?_;intro A5 d5 w5 y u R;have E:=Ld u;have O:=Ld y;clear y u R)
     go_roundw
     case rel=>
      refine⟨k,A5,d5,by omega,rfl,?_,Ld ⟨?_,(aa.al m.out.2 _).fr E.out (fun j hj=>(ak q.out j hj).1)⟩⟩
      ·congr 1
       have:=G.out;omega
      ·have h1:=O.out
       have e1:(dN xs z++(aY 8 l).take (8-k)).length=M+1:=by
        rw[List.length_append,List.length_take,av,J.out];have:=G.out;omega
       have e2:am (dN xs z++(aY 8 l).take (8-k))=am (dN xs z++(aY 8 l).take (8-(k+1)))++[.int .u8 (aK l k:Nat)]:=by
        rw[nP 8 l k (by omega),←List.append_assoc,nH (dN xs z++_)];rfl
       rw[←c1.out,e1,e2,show N+(8-k)=M+1 by have:=G.out;omega];exact h1
     case measure=>simp[intOf];omega
theorem As{p:Nat→Prop}(A:Option Addr)(n c:Nat)(xs:List Int)(w:World)(hR:Rd p w 1 A n (am xs))(hn:n≤1000000000):
    Calls prog 164 #[.slice A n c] w fun e w'=>(∃A' c',e=.returned (.slice A' (fv xs).length c')∧w'.ownsRow w.heap.size 5 1 (.slice A' (fv xs).length c') (fv xs).length (am (fv xs)))∧aa w w':=by
 have m:Hid (xs.length=n):=Ld (by have:=hR.1;rw[ah]at this;omega);have HR:=Ld hR;have g6:=(pw n).2;obtain⟨z,hz⟩:=nM (zN n);rw[←hz]at g6;have HZ:=Ld hz;obtain⟨r,hr⟩:=nM (n%64);have f':(n:Int)%64=(r:Int):=by omega
 have g3:(119-(r:Int))%64=(z:Int):=by rw[hz];unfold zN;omega
 have g4:(r:Int)<64:=by omega
 have d':(0:Int)≤(r:Int):=by omega
 clear hR hz hr
 go_enter func164,ntmps164
 go_wp2_with (first
  |(refine cg 15 rfl ?_;refine aq jJ _ rfl (.tmp 13) (.tmp 14) rfl w.heap.size (.slice (some ⟨w.heap.size,0,none⟩) 0 0) 0 [] rfl (eA (ab.new w 5 #[]) (Nat.le_refl _)) A n c (am xs) rfl (aa.rd (aa.al (aa.refl w) _) HR.out) (aM xs) (by unfold maxLen;omega) (by omega) (by simp) ?_;intro A1 d1 w1 X b9 c6;rw[Nat.zero_add];rw[Nat.zero_add,List.nil_append]at X;have T:=Ld X;have b3:Hid (aa w w1):=Ld ((aa.al (aa.refl w) _).fr b9 (by intro k F;simp[Value.ownBlock]at F;omega));clear X b9 c6;have O:Hid (aa w (w1.alloc (.cells #[.int .u8 128] 5))):=Ld (aa.al b3.out _))
  |(refine cg 18 rfl ?_;refine aq jJ _ rfl (.tmp 16) (.tmp 17) rfl w.heap.size (.slice A1 n d1) n (am xs) rfl (aa.own (aa.al (aa.refl w1) _) T.out) (some ⟨w1.heap.size,0,none⟩) 1 1 [.int .u8 128] rfl (Rd.ofBlk (p:=fun _=>True) (ab.new w1 5 #[.int .u8 128]) 1 1 rfl trivial) (by simp[Value.oneCell']) (by unfold maxLen;omega) (by omega) O.out.size ?_;intro A2 d2 w3 c3 c0 c7;have Y:=Ld c0;have b8:=Ld c3;clear c3 c0 c7))
 have b7:Hid (aa w w3):=Ld (O.out.fr Y.out (fun k F=>(ak T.out k F).1))
 have b':Hid (sJ w w3 (.slice A2 (n+1+0) d2) (dN xs 0)):=Ld ⟨by
  rw[eK,m.out];have e:am (dN xs 0)=am xs++[.int .u8 128]:=by simp[dN,am]
  rw[e]
  exact b8.out,b7.out⟩
 clear T b3 O b8 Y b7 HR f' g3 g4 d'
 go_loopw [4,5] (fun v i wr=>∃(k:Nat) (A:Option Addr) (d:Nat),k≤z∧i=.int .i64 k∧v=.slice A (n+1+k) d∧Hid (sJ w wr (.slice A (n+1+k) d) (dN xs k))) (fun _ i _=>z-(intOf i).toNat)
 case atStart=>exact⟨0,A2,d2,Nat.zero_le _,rfl,rfl,b'⟩
 case round=>
  clear b';obtain⟨k,A3,d3,F,rfl,rfl,s⟩:=hrel;have c4:(0:Int)≤(k:Int):=by omega
  by_cases c9:k<z
  ·obtain ⟨N,D⟩:=nM (n+1+k);have c8:N≤2000000000:=by omega
   have q:wr.ownsRow w.heap.size 5 1 (.slice A3 N d3) N (am (dN xs k)):=by
    have:=s.out.1
    rwa[eK,m.out,←D]at this
   have u:=Ld q;rw[←D];have c5:=Ld D;clear q D
   go_wp2_with (refine cg 26 rfl ?_;refine aq jJ _ rfl (.tmp 24) (.tmp 25) rfl w.heap.size (.slice A3 N d3) N (am (dN xs k)) rfl (aa.own (aa.al (aa.refl wr) _) u.out) (some ⟨wr.heap.size,0,none⟩) 1 1 [.int .u8 0] rfl (Rd.ofBlk (p:=fun _=>True) (ab.new wr 5 #[.int .u8 0]) 1 1 rfl trivial) (by simp[Value.oneCell']) (by unfold maxLen;omega) (by omega) (aa.al s.out.2 _).size ?_;intro A5 d5 w5 B y V;have H:=Ld y;have U:=Ld B;clear B y V)
   go_roundw
   case measure=>simp[intOf];omega
   case rel=>
    have c1:n+1+(k+1)=N+1:=by have:=c5.out;omega
    refine⟨k+1,A5,d5,by omega,by go_num,by rw[c1],Ld ⟨?_,(aa.al s.out.2 _).fr H.out (fun j hj=>(ak u.out j hj).1)⟩⟩;rw[eK,m.out,qw,nH,c1];exact U.out
  ·obtain ⟨N,D⟩:=nM (n+1+k);have c8:N≤2000000000:=by omega
   have b0:Hid (k=z):=Ld (by omega);rw[←D]
   have J:Hid (sJ w wr (.slice A3 N d3) (dN xs z++(aY 8 (8*n)).take (8-8))):=Ld (by
    have:=s.out;rw[←D,b0.out]at this
    simpa using this)
   have R:Hid ((dN xs z).length=N):=Ld (by rw[eK,m.out,D,b0.out]);obtain⟨l,E⟩:=nM (8*n);rw[←E]at J;have g7:=Ld E;have hv:((n:Int)*8)=(l:Int):=by omega
   have g5:IntKind.u64.wrap (l:Int)=(l:Int):=by rw[IntKind.wrap_u64];omega
   have Z:Hid (dN xs z++(aY 8 l).take (8-0)=fv xs):=Ld (by
    rw[kr,m.out,←HZ.out,E,Nat.sub_zero,List.take_of_length_le (by rw[av];exact Nat.le_refl _)])
   clear s D E
   go_wp2_with fail
   clear hv g5 c9 F c4
   go_loopw [4,7] (fun v i wr=>∃(j:Nat) (A:Option Addr) (d:Nat),j≤8∧i=.int .i64 ((j:Int)-1)∧v=.slice A (N+(8-j)) d∧Hid (sJ w wr (.slice A (N+(8-j)) d) (dN xs z++(aY 8 l).take (8-j)))) (fun _ i _=>(intOf i+1).toNat)
   case atStart=>exact⟨8,A3,d3,Nat.le_refl _,rfl,rfl,J⟩
   case round=>
    clear J;obtain⟨j,A6,d6,hj,rfl,rfl,s⟩:=hrel;rcases Nat.eq_zero_or_pos j with h0|h0
    ·subst h0;have I:=s.out;rw [Z.out] at I;have C:(fv xs).length=N+8:=by rw [kr,List.length_append,av,m.out,←HZ.out,R.out]
     have b1:=Ld I;have C:=Ld C;clear s I Z
     go_wp2_with fail
     go_ret;rw[C.out];have:=b1.out.1;rw[C.out]at this;exact⟨⟨A6,d6,rfl,this⟩,b1.out.2⟩
    ·obtain⟨k,rfl⟩:∃k,j=k+1:=⟨j-1,by omega⟩
     have F:(((k+1:Nat):Int)-1)=(k:Int):=by omega
     rw[F];obtain⟨M,hM⟩:=nM (N+(8-(k+1)));rw[←hM]at s⊢;have L:=Ld hM;have g8:M≤2000000010:=by omega
     have G:(dN xs z++(aY 8 l).take (8-(k+1))).length=M:=by
      rw[List.length_append,List.length_take,av,R.out];omega
     have q:=s.out.1;rw[G]at q;have u:=Ld q;have jL:=lV l k
     have g9:IntKind.u8.wrap ((l:Int)/256^k)=((aK l k:Nat):Int):=by
      rw[show(l:Int)/256^k=((l/256^k:Nat):Int)from by simp,eB];rfl
     have c4:(0:Int)≤8*(k:Int):=by omega
     have i':8*(k:Int)≤56:=by omega
     have i0:(0:Int)≤(k:Int):=by omega
     clear F q G hM
     go_wp2_with (refine cg 43 rfl ?_;refine aq jJ _ rfl (.tmp 35) (.tmp 42) rfl w.heap.size (.slice A6 M d6) M (am (dN xs z++(aY 8 l).take (8-(k+1)))) rfl (aa.own (aa.al (aa.refl wr) _) u.out) (some ⟨wr.heap.size,0,none⟩) 1 1 [.int .u8 (aK l k:Nat)] rfl (Rd.ofBlk (p:=fun _=>True) (ab.new wr 5 #[.int .u8 (aK l k:Nat)]) 1 1 rfl trivial) (by simp[Value.oneCell']) (by unfold maxLen;omega) (by omega) (aa.al s.out.2 _).size ?_;intro A5 d5 w5 B y V;have H:=Ld y;have U:=Ld B;clear B y V)
     go_roundw
     case rel=>
      refine⟨k,A5,d5,by omega,rfl,?_,Ld ⟨?_,(aa.al s.out.2 _).fr H.out (fun j hj=>(ak u.out j hj).1)⟩⟩
      ·congr 1
       have:=L.out;omega
      ·have h1:=U.out
       have e1:(dN xs z++(aY 8 l).take (8-k)).length=M+1:=by
        rw[List.length_append,List.length_take,av,R.out];have:=L.out;omega
       have e2:am (dN xs z++(aY 8 l).take (8-k))=am (dN xs z++(aY 8 l).take (8-(k+1)))++[.int .u8 (aK l k:Nat)]:=by
        rw[nP 8 l k (by omega),←List.append_assoc,nH (dN xs z++_)];rfl
       rw[e1,e2,show N+(8-k)=M+1 by have:=L.out;omega];exact h1
     case measure=>simp[intOf]
section
variable {P:Program}{md:Region.Mode}{ops:Array Oper}{Q:Exit→Act→World→Prop}{S:World→Prop}{last n:Nat}
theorem Oper.wide_of{o:Oper}{a:Act}{w:World}{K:Act→World→Prop}(h:o.wp P a w K Q):o.wpIn Fence.wide n P a w K Q:=by
 unfold Oper.wp at h;refine⟨fun _ _=>trivial,?_⟩;show o.uponIn Fence.wide n P a K Q ((execOp a.eval o).run P w);generalize (execOp a.eval o).run P w=r at*
 cases r with
 |ok x w'=>
  cases x<;>simp only[Oper.upon,Oper.uponIn]at h⊢<;>
   first
    |exact h
    |exact⟨fun h=>by simp[Fence.wide]at h,callsIn_wide.2 h⟩
    | exact ⟨fun h => by simp [Fence.wide] at h, fun c cs _ => by
        obtain⟨v,w',r,s⟩:=h c cs
        exact⟨v,w',r,stepsIn_wide.2 s⟩⟩
 |halt x w'=>cases x<;>simp only[Oper.upon,Oper.uponIn]at h⊢<;>exact h
theorem pp(d:¬LetsOut Q):∀(c:Nat) (listed:Array Bool) (a:Act) (w:World),wpAny P md ops Q c listed a w→wpAnyIn Fence.wide n P md ops Q c listed a w
 | 0,_,_,_,h=>h
 | c + 1, listed, a, w, h => ⟨h.1, fun i hi => by
     have h1:=wpOp_mono (fun a w=>pp d c _ a w) (h.2 i hi);unfold wpOp at h1;unfold wpOpIn
     cases ho:ops[i]? with
     |none=>simpa[ho]using h1
     |some o=>
      simp only[ho]at h1⊢
      by_cases j:Region.wanted o (yielded ops a.tmps)=true
      ·rw [if_pos j] at h1 ⊢;rcases h1 with h1 | h1
       ·exact Oper.wide_of h1
       ·exact absurd h1.2 d
      ·rw[if_neg j]at h1⊢
       exact⟨fun _ _=>trivial,h1⟩⟩
def iK(Q:Exit→Act→World→Prop)(e:Exit)(a:Act)(w:World):Prop:=match e with| .panic _=>False| .outgrown=>False|e=>Q e a w
theorem iK.imp{Q:Exit→Act→World→Prop}(e:Exit)(a:Act)(w:World)(h:iK Q e a w):Q e a w:=by
 cases e<;>first|exact h|exact h.elim
theorem iK.not:¬LetsOut (iK Q):=fun⟨_,_,h⟩=>h
theorem jY{id:Nat}{a:Act}{w:World}{l:List Oper}(r:Nat)(d:P.follows .mixedOrders=true)(hd:l.all ip=true)
    (h:wpAny P .any l.toArray (iK Q) l.toArray.size (Array.replicate l.toArray.size false) a w.drew):(Code.region id l.toArray true).wpIn (Fence.wide.inRound r) n P Q a w:=by
 refine wpIn_mono (Q:=iK Q) (wpIn_region_any d (fR r rfl ?_ _ _ _ _ (pp iK.not _ _ _ _ h))) iK.imp;intro i o j;have c:l[i]?=some o:=by simpa using j
 exact List.all_eq_true.1 hd o (List.mem_of_getElem? c)
theorem mN{id:Nat}{a:Act}{w:World}{l:List Oper}(r:Nat)(S:World→Prop)(c:List (Bool×Nat))(j:P.follows .mixedOrders=true)
    (d:(l.all ip&&Region.noSelect l.toArray&&decide (c.length=l.toArray.size)&&kH .any l.toArray c (Array.replicate l.toArray.size false))=true) (hS:S w.drew)
    (h:Nonempty (HW S)→cL P l.toArray S l.toArray.size (iK Q) c a w.drew):(Code.region id l.toArray true).wpIn (Fence.wide.inRound r) n P Q a w:=by
 simp only[Bool.and_eq_true,decide_eq_true_eq]at d;obtain⟨⟨⟨h0,h1⟩,h2⟩,i⟩:=d;refine jY r j h0 (wpAny_of_held (S:=S) _ _ _ _ ?_);have:=dS (Q:=iK Q) rfl h1 (fun _ _ _ _ _ h=>h) c _ _ _ i hS (h ⟨⟨_,hS⟩⟩)
 rwa[h2]at this
theorem gc{id:Nat}{a:Act}{w:World}{l:List Oper}(r:Nat)(S:World→Prop)(last:Nat)(c:List (Bool×Nat))(j:P.follows .mixedOrders=true)
    (d:(l.all ip&&Region.noSelect l.toArray&&decide (c.length=l.toArray.size)&&tl .any l.toArray last c (Array.replicate l.toArray.size false))=true) (hS:S w.drew)
    (h:Nonempty (HW S)→cL P l.toArray S last (iK Q) c a w.drew):(Code.region id l.toArray true).wpIn (Fence.wide.inRound r) n P Q a w:=by
 simp only[Bool.and_eq_true,decide_eq_true_eq]at d;obtain⟨⟨⟨h0,h1⟩,h2⟩,i⟩:=d;refine jY r j h0 (lq (S:=S) (last:=last) _ _ _ _ ?_);have:=dU (Q:=iK Q) h1 (fun _ _ _ _ _ h=>h) c _ _ _ i (fun _=>hS) (h ⟨⟨_,hS⟩⟩)
 rwa[h2]at this
theorem je{a:Act}{w:World}(h:Q .normal a w):cL P ops S last (iK Q) [] a w:=h
end
end Go.Proofs.YtfchcdbfalgdlaaGreatDoor
namespace Go.Proofs.YtfchcdbfalgdlaaGreatDoor
open _root_.Go.Proofs.Tryz
open Go.RowKit Go.Maps Go.Sort
attribute [local go_sem] Oper.semAt_some
theorem pX(A:Option Addr)(n c:Nat)(size:Nat)(h1:1≤size)(i:size≤1000)(w:World):
    Calls prog 159 #[.slice A n c,.int .i64 (size:Int)] w fun e w'=>e=.returned (.func (.func 169) #[] #[.pointer (some ⟨w.heap.size,0,none⟩),.pointer (some ⟨w.heap.size+1,0,none⟩)])∧w'=(w.alloc (.cells #[.slice A n c] 33)).alloc (.cells #[.int .i64 (size:Int)] 3):=by
 have d:¬((size:Int)<1):=by omega
 go_enter func159,ntmps159
 go_wp2_with fail
 go_ret;exact⟨rfl,rfl⟩
def ri(N size:Nat):Nat:=(N+size-1)/size
theorem mu{N size k:Nat}(h:1≤size):k<ri N size↔k*size<N:=by
 unfold ri;rw[Nat.lt_div_iff_mul_lt (by omega)];omega
def uj(g o N size k:Nat):Value:=.slice (some ⟨g,o+k*size,none⟩) (min size (N-k*size)) (min size (N-k*size))
def qV(x y:Nat)(W c:World):Prop:=c.heap[x]?=W.heap[x]?∧c.heap[y]?=W.heap[y]?
theorem qV.tr{x y:Nat}{A B C:World}(h:qV x y A B)(k:qV x y B C):qV x y A C:=⟨k.1.trans h.1,k.2.trans h.2⟩
theorem qV.puts{x y b:Nat}{W c:World}(d:et b W c)(i:x<b)(j:y<b):qV x y W c:=by
 obtain⟨l,o,o',hl,-,-,rfl⟩:=d;exact⟨World.putObj_heap_other (by omega),World.putObj_heap_other (by omega)⟩
theorem qV.fr{x y:Nat}{S:Nat→Prop}{W c:World}(d:Fr S W c)(i:x<W.heap.size∧¬S x)(j:y<W.heap.size∧¬S y):qV x y W c:=⟨d.block x i.1 i.2,d.block y j.1 j.2⟩
theorem rj(g o N c size p d:Nat)(w:World)(X:ab w p 33 #[.slice (some ⟨g,o,none⟩) N c])(Y:ab w d 3 #[.int .i64 (size:Int)])(h1:1≤size)(hs:size≤1000)(hN:N≤1000000000)(hc:N≤c)(b3:c≤maxLen):
    ul (fun pre k=>k=pre.length) prog 169 #[.pointer (some ⟨p,0,none⟩),.pointer (some ⟨d,0,none⟩)] (fun k:Nat=> #[uj g o N size k]) (fun _ _=>True) (qV p d) (fun xs=>xs=List.range (ri N size)) (ri N size) w:=by
 intro l J W hW hJ hY h0;refine callsIn_wide.2 ?_;have HB:Hid (ab W p 33 #[.slice (some ⟨g,o,none⟩) N c]∧ab W d 3 #[.int .i64 (size:Int)]):=Ld ⟨hW.blk X,hW.blk Y⟩;have HY:=Ld hY;have HJ:=Ld hJ;have H0:=Ld h0;clear hY hJ hW X Y h0;show Calls prog 169 #[.func (.yield l) #[] #[],.pointer (some ⟨p,0,none⟩),.pointer (some ⟨d,0,none⟩)] W _;unfold maxLen at b3
 go_enter func169,ntmps169
 go_wp2_with fail
 go_loopw [4] (fun ix wr=>∃(k i:Nat),k≤ri N size∧Hid (i=k*size)∧ix=.int .i64 i∧i≤N+1000∧Hid (J (List.range k) wr)∧Hid (ab wr p 33 #[.slice (some ⟨g,o,none⟩) N c]∧ab wr d 3 #[.int .i64 (size:Int)])) (fun ix _=>(N:Int).toNat+1000-(intOf ix).toNat)
 case atStart=>exact⟨0,0,Nat.zero_le _,Ld (by omega),rfl,by omega,H0,HB⟩
 case round=>
  clear H0 HB;obtain⟨k,i,hk,R,rfl,hi,H,v⟩:=hrel;have U:wr.cell? ⟨p,0,none⟩=some (.slice (some ⟨g,o,none⟩) N c):=v.out.1.cell 0;have c2:wr.cell? ⟨d,0,none⟩=some (.int .i64 (size:Int)):=v.out.2.cell 0;have c0:(0:Int)≤(i:Int):=by omega
  by_cases b9:i<N
  ·have C:Hid (k<ri N size):=Ld ((mu h1).2 (by rw [←R.out];exact b9));have c':¬c=i:=by omega
   have c3:i≤N:=by omega
   obtain⟨r,hr⟩:=nM (N-i);have c4:N-i=r:=hr.symm;have b':i+r=N:=by omega
   have q1:=cell_regrown U;have q2:=cell_regrown c2
   by_cases c5:size≤r
   ·obtain ⟨j,hj⟩:=nM (i+size);have d1:(size:Int)≤(r:Int):=by omega
    have d2:¬((r:Int)<(size:Int)):=by omega
    have e1:(i:Int)+(size:Int)=(j:Int):=by omega
    have e2:j-i=size:=by omega
    have e3:¬j=i:=by omega
    have e4:i≤j:=by omega
    have e5:(j:Int)≤(c:Int):=by omega
    have E:Hid (uj g o N size k=.slice (some ⟨g,o+i,none⟩) size size):=Ld (by unfold uj;rw[←R.out,Nat.min_eq_left (by omega)]);have b7:j≤N:=by omega
    have G:Hid (j=(k+1)*size):=Ld (by rw[hj,R.out,Nat.succ_mul]);clear hj hr b'
    go_wp2_with fail
    refine wp_region_quiet_below (by kernel_rfl) (by kernel_rfl) ?_
    repeat(quiet_step (fail))
    refine wpQuiet_nil ?_;intro _ M;obtain⟨⟨V,B⟩,q⟩:=M;obtain⟨D,u⟩:=nM (grow (redrawn wr V) B);have m:Hid (aa wr D):=Ld (by rw[u];exact below_regrown _ V B);rw[q,←u];clear q u q1 q2;have I:D.cell? ⟨p,0,none⟩=some (.slice (some ⟨g,o,none⟩) N c):=m.out.cell_ U;have L:D.cell? ⟨d,0,none⟩=some (.int .i64 (size:Int)):=m.out.cell_ c2;clear U c2
    go_upto_region 4 with fail
    refine(wpIn_wide (n:=3)).1 ?_;obtain⟨fn,tmps,b0,bo,hy,Z⟩:=HY.out (List.range k) k D (by rw[List.length_range];exact C.out) (HJ.out _ _ _ H.out m.out) trivial (by rw[List.length_range]);rw[E.out]at hy;have T:=Ld Z;clear Z
    gi_wp2
    refine T.out.mono ?_;rintro e O ⟨rfl,z,s⟩;have F:=Ld z;have y:Hid (ab O p 33 #[.slice (some ⟨g,o,none⟩) N c]∧ab O d 3 #[.int .i64 (size:Int)]):=Ld ⟨s.1.trans (m.out.blk v.out.1),s.2.trans (m.out.blk v.out.2)⟩;have b1:O.cell? ⟨d,0,none⟩=some (.int .i64 (size:Int)):=y.out.2.cell 0;clear z s T hy I L
    gi_wp2
    try go_wp2_with fail
    go_roundw
    case rel=>exact⟨k+1,j,C.out,G,rfl,by omega,Ld (by rw[List.range_succ];exact F.out),y⟩
    case measure=>simp[intOf];omega
   ·obtain ⟨j,hj⟩:=nM (i+size);have d1:¬(size:Int)≤(r:Int):=by omega
    have d2:(r:Int)<(size:Int):=by omega
    have e1:(i:Int)+(size:Int)=(j:Int):=by omega
    have e2:(i:Int)+(r:Int)=(N:Int):=by omega
    have e3:¬N=i:=by omega
    have e5:(N:Int)≤(c:Int):=by omega
    have E:Hid (uj g o N size k=.slice (some ⟨g,o+i,none⟩) r r):=Ld (by unfold uj;rw[←R.out,←hr,Nat.min_eq_right (by omega)]);have b7:j≤N+1000:=by omega
    have G:Hid (j=(k+1)*size):=Ld (by rw[hj,R.out,Nat.succ_mul]);clear hj hr b'
    go_wp2_with fail
    refine wp_region_quiet_below (by kernel_rfl) (by kernel_rfl) ?_
    repeat(quiet_step (fail))
    refine wpQuiet_nil ?_;intro _ M;obtain⟨⟨V,B⟩,q⟩:=M;obtain⟨D,u⟩:=nM (grow (redrawn wr V) B);have m:Hid (aa wr D):=Ld (by rw[u];exact below_regrown _ V B);rw[q,←u];clear q u q1 q2;have I:D.cell? ⟨p,0,none⟩=some (.slice (some ⟨g,o,none⟩) N c):=m.out.cell_ U;have L:D.cell? ⟨d,0,none⟩=some (.int .i64 (size:Int)):=m.out.cell_ c2;clear U c2
    go_upto_region 4 with fail
    refine(wpIn_wide (n:=3)).1 ?_;obtain⟨fn,tmps,b0,bo,hy,Z⟩:=HY.out (List.range k) k D (by rw[List.length_range];exact C.out) (HJ.out _ _ _ H.out m.out) trivial (by rw[List.length_range]);rw[E.out]at hy;have T:=Ld Z;clear Z
    gi_wp2
    refine T.out.mono ?_;rintro e O ⟨rfl,z,s⟩;have F:=Ld z;have y:Hid (ab O p 33 #[.slice (some ⟨g,o,none⟩) N c]∧ab O d 3 #[.int .i64 (size:Int)]):=Ld ⟨s.1.trans (m.out.blk v.out.1),s.2.trans (m.out.blk v.out.2)⟩;have b1:O.cell? ⟨d,0,none⟩=some (.int .i64 (size:Int)):=y.out.2.cell 0;clear z s T hy I L
    gi_wp2
    try go_wp2_with fail
    go_roundw
    case rel=>exact⟨k+1,j,C.out,G,rfl,by omega,Ld (by rw[List.range_succ];exact F.out),y⟩
    case measure=>simp[intOf];omega
  ·have b8:k=ri N size:=by
    rcases Nat.lt_or_ge k (ri N size)with h|h
    ·have:=(mu (N:=N) h1).1 h;rw[←R.out]at this;omega
    ·omega
   subst b8
   go_wp2_with fail
   go_end0
   exact⟨⟨_,rfl⟩,_,rfl,H.out⟩
end Go.Proofs.YtfchcdbfalgdlaaGreatDoor
namespace Go.Proofs.YtfchcdbfalgdlaaGreatDoor
open _root_.Go.Proofs.Tryz
open Go.RowKit
section
variable {P:Program}{ops:Array Oper}{Q:Exit→Act→World→Prop}{S:World→Prop}{last:Nat}
theorem bH{i:Nat}{o:Oper}{j:List (Bool×Nat)}{a:Act}{w:World}{T:TypeId}{d:TypeDesc}{b off:Nat}{cs:List Value}(m:ops[i]?=some o)(q:Region.wanted o (yielded ops a.tmps)=true)(x:Operand)(c:o.op=.load T x)(r:a.eval x=.pointer (some ⟨b,off,none⟩))
    (l:∀w',S w'→w'.rangeAt b off cs) (hu:P.underlying T=some d) (hd:d.isRow=true) (hi:(P.info? T).map (·.size)=some cs.length)
    (h:cL P ops S last Q j (a.put o.dst (.agg cs.toArray)) w):cL P ops S last Q ((true,i)::j) a w:=
 ⟨o,m,by
  rw[if_pos q];refine⟨_,fun p=>?_,h⟩;unfold execOp
  simp only[c,r,Instr.loadAt,Instr.sureAddr,Sem.run_bind,Sem.run_pure,Result.andThen_ok,run_loadVar_mid p.w b off T cs d (l _ p.h) hu hd hi]⟩
theorem rL{i:Nat}{o:Oper}{d:List (Bool×Nat)}{a:Act}{w:World}{T e:TypeId}{n len cap:Nat}{A:Option Addr}(l:ops[i]?=some o)(q:Region.wanted o (yielded ops a.tmps)=true)(x:Operand)(c:o.op=.sliceToArrayPointer T x)(r:a.eval x=.slice A len cap)
    (hu:P.underlying T=some (.array n e)) (j:n≤len)
    (h:cL P ops S last Q d (a.put o.dst (.pointer A)) w):cL P ops S last Q ((true,i)::d) a w:=
 ⟨o,l,by
  rw[if_pos q];refine⟨_,fun p=>?_,h⟩;unfold execOp;have m:=run_arrayAt (P:=P) (w:=p.w) T e n A len cap hu j
  simp only[c,r,Sem.run_bind,m,Result.andThen_ok,Sem.run_pure]⟩
end
theorem eD{P:Program}{w:World}{ops:Array Oper}{rest:List Oper}{o:Oper}{a:Act}{Q:Exit→Act→World→Prop}(r:o.guard=none)(d s:Operand)(B F:TypeId)
    (J:o.op=.call {callee:=.builtin .copy,args:= #[d,s],argTypes:= #[B,F]}) (elem:TypeId) (hu:P.underlying B=some (.slice elem)) (y:(P.info? elem).map (·.size)=some 1)
    (g off c l:Nat) (G:Option Addr) (i m:Nat) (hd:a.eval d=.slice (some ⟨g,off,none⟩) c l) (L:a.eval s=.slice G i m)
    (cur:List Value) (t:TypeId) (C:ab w g t cur.toArray) (cs:List Value) (I:cs.length=Nat.min i c) {q:Nat→Prop}
    (u:∃n xs,Rd q w 1 G n xs∧xs.take cs.length=cs) (p:off+cs.length≤cur.length) (h1:∀v∈cs,v.oneCell'=true)
    (h:∀w',ab w' g t (splice cur off cs).toArray→Fr (fun k=>k=g) w w'→wpList P ops Q rest (a.put o.dst (goInt cs.length)) w'):wpList P ops Q (o::rest) a w:=by
 by_cases h0:cs.length=0
 ·obtain rfl:cs=[]:=List.eq_nil_of_length_eq_zero h0;refine wpList_copy_nothing r d s B F J elem hu y (some ⟨g,off,none⟩) G c l i m hd L (by simpa using I.symm) ?_;exact h w (by simpa[splice]using C) (Fr.refl _ _)
 ·obtain⟨n,xs,H,z⟩:=u
  have D:0<n:=by
   have h2:=H.1;have N:=congrArg List.length z;rw[List.length_take]at N;omega
  obtain⟨M,rfl,-,-,O⟩:=H.2 D;refine wpList_copy_own r d s B F J elem hu y g off c l M i m hd L cur.toArray t C cs I (fun j v E=>O j v ?_) (by simpa using p) h1 ?_
  ·have R:=(List.getElem?_eq_some_iff.1 E).1;rw[←z,List.getElem?_take_of_lt R]at E;exact E
  ·obtain⟨T,U⟩:=ej (cs':=(cur.toArray.toList.take off++(cs++cur.toArray.toList.drop (off+cs.length))).toArray) C;exact h _ (by simpa[splice]using T) U
theorem ab.rangeOf{w:World}{T:TypeId}{g:Nat}{cs:Array Value}(c:ab w g T cs):w.rangeAt g 0 cs.toList:=fun j v d=>by
 rw[c.cell,Nat.zero_add]
 simpa using d
end Go.Proofs.YtfchcdbfalgdlaaGreatDoor
