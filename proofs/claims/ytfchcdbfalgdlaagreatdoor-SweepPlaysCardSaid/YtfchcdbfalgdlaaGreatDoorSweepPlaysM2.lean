/- Texts of one proof. No condition but each one's own. -/
import Derived.Test.YtfchcdbfalgdlaaGreatDoorSweepPlaysM1
import Derived.Maps.OwnOps
import Derived.Maps.OwnSet
import Derived.Maps.Views
import Derived.Great.BuildSlice
import Derived.IntWalk
import Derived.OwnWalkIn
import Derived.TacticsInMore
import Derived.LoopNIn
import Derived.LoopIn
import Derived.Laws.Cover3
import Derived.Laws.CopyOwn
import Derived.Shelf.Abstract
set_option maxHeartbeats 4000000
set_option maxRecDepth 100000
set_option linter.unusedVariables false
set_option linter.unusedSimpArgs false
namespace Go.Proofs.YtfchcdbfalgdlaaGreatDoor
open _root_.Go.Proofs.Tryz
open Go.RowKit Go.Sort
def kL:List Int:=[1116352408,1899447441,3049323471,3921009573,961987163,1508970993,2453635748,2870763221,3624381080,310598401,607225278,1426881987,1925078388,2162078206,2614888103,3248222580,3835390401,4022224774,264347078,604807628,770255983,1249150122,1555081692,1996064986,2554220882,2821834349,2952996808,3210313671,3336571891,3584528711,113926993,338241895,666307205,773529912,1294757372,1396182291,1695183700,1986661051,2177026350,2456956037,2730485921,2820302411,3259730800,3345764771,3516065817,3600352804,4094571909,275423344,430227734,506948616,659060556,883997877,958139571,1322822218,1537002063,1747873779,1955562222,2024104815,2227730452,2361852424,2428436474,2756734187,3204031479,3329325298]
structure H8 where
 a:Int
 b:Int
 c:Int
 d:Int
 e:Int
 f:Int
 g:Int
 h:Int
def H8.arr(x:H8):Array Value:= #[.int .u32 x.a,.int .u32 x.b,.int .u32 x.c,.int .u32 x.d,.int .u32 x.e,.int .u32 x.f,.int .u32 x.g,.int .u32 x.h]
structure H8.Ok(x:H8):Prop where
 a:0<=x.a/\x.a<4294967296
 b:0<=x.b/\x.b<4294967296
 c:0<=x.c/\x.c<4294967296
 d:0<=x.d/\x.d<4294967296
 e:0<=x.e/\x.e<4294967296
 f:0<=x.f/\x.f<4294967296
 g:0<=x.g/\x.g<4294967296
 h:0<=x.h/\x.h<4294967296
def H8.list(x:H8):List Int:=[x.a,x.b,x.c,x.d,x.e,x.f,x.g,x.h]
theorem H8.arr_list(x:H8):x.arr=aQ 8 x.list:=rfl
def iH:H8:=⟨1779033703,3144134277,1013904242,2773480762,1359893119,2600822924,528734635,1541459225⟩
theorem Gs:iH.Ok:=by constructor<;>decide
theorem Ha:∀t,0<=at_ kL t/\at_ kL t<4294967296:=λt=>by
 unfold at_;rw[List.getD_eq_getElem?_getD]
 cases h:kL[t]? with
 |none=>simp
 |some x=>
  have hm:x∈kL:=List.mem_of_getElem? h;have key:∀x∈kL,0<=x/\x<4294967296:=by decide
  exact key x hm
theorem H8.ok_b{x:H8}(h:x.Ok):∀t,0<=at_ x.list t/\at_ x.list t<4294967296:=λt=>by
 unfold at_;rw[List.getD_eq_getElem?_getD]
 cases e:x.list[t]? with
 |none=>simp
 |some y=>
  have hm:y∈x.list:=List.mem_of_getElem? e;unfold H8.list at hm;simp only[List.mem_cons,List.not_mem_nil,or_false]at hm;rcases hm with rfl|rfl|rfl|rfl|rfl|rfl|rfl|rfl
  ·exact h.a
  ·exact h.b
  ·exact h.c
  ·exact h.d
  ·exact h.e
  ·exact h.f
  ·exact h.g
  ·exact h.h
def kq(a b:Int):Int:=bits .and .u32 a b
def Gx(a:Int):Int:=bits .xor .u32 (if IntKind.u32.signed=true then-1 else IntKind.u32.max) a
theorem oU(a b:Int):bS a b=(a+b)%4294967296:=by
 unfold bS;rw[IntKind.wrap_u32]
theorem Gg(p a b:Int):bS p (bS a b)=(p+(a+b))%4294967296:=by
 rw[oU,oU];omega
def cP(k w:Int)(x:H8):Int:=bS (bS (bS (bS x.h (fY (fY (eH x.e 6) (eH x.e 11)) (eH x.e 25))) (fY (kq x.e x.f) (kq (Gx x.e) x.g))) k) w
def cQ(x:H8):Int:=bS (fY (fY (eH x.a 2) (eH x.a 13)) (eH x.a 22)) (fY (fY (kq x.a x.b) (kq x.a x.c)) (kq x.b x.c))
def cR(k w:Int)(x:H8):H8:=⟨bS (cP k w x) (cQ x),x.a,x.b,x.c,bS x.d (cP k w x),x.e,x.f,x.g⟩
def nv(K:Nat->Int)(W:List Int)(S:H8):Nat->H8
 | 0=>S
 |t+1=>cR (K t) (at_ W t) (nv K W S t)
theorem Gl{k w:Int}{x:H8}(h:x.Ok):(cR k w x).Ok:=⟨fL _ _,h.a,h.b,h.c,fL _ _,h.e,h.f,h.g⟩
theorem oF{K:Nat->Int}{W:List Int}{S:H8}(h:S.Ok):∀t,(nv K W S t).Ok
 | 0=>h
 |t+1=>Gl (oF h t)
def H8.add(x y:H8):H8:=⟨bS x.a y.a,bS x.b y.b,bS x.c y.c,bS x.d y.d,bS x.e y.e,bS x.f y.f,bS x.g y.g,bS x.h y.h⟩
theorem H8.add_ok(x y:H8):(x.add y).Ok:=⟨fL _ _,fL _ _,fL _ _,fL _ _,fL _ _,fL _ _,fL _ _,fL _ _⟩
def iF(R S:List Int)(i:Nat):List Int:=(List.range 8).map λj=>if j<i then bS (at_ R j) (at_ S j)else at_ R j
theorem Df(x y:H8):aQ 8 (iF x.list y.list 8)=(x.add y).arr:=rfl
theorem qV(R S:List Int)(i:Nat):(iF R S i).length=8:=by simp[iF]
theorem AQ{R S:List Int}{i:Nat}(h:i<8):at_ (iF R S i) i=at_ R i:=by
 rcases (by omega:i=0\/i=1\/i=2\/i=3\/i=4\/i=5\/i=6\/i=7)with rfl|rfl|rfl|rfl|rfl|rfl|rfl|rfl<;>rfl
theorem zb{R S:List Int}{i:Nat}(h:i<8):(aQ 8 (iF R S i)).setIfInBounds i (.int .u32 (bS (at_ R i) (at_ S i)))=aQ 8 (iF R S (i+1)):=by
 rcases (by omega:i=0\/i=1\/i=2\/i=3\/i=4\/i=5\/i=6\/i=7)with rfl|rfl|rfl|rfl|rfl|rfl|rfl|rfl<;>rfl
def ij(S:H8)(s:List Int):H8:=(nv (λt=>at_ kL t) (aP s 64) S 64).add S
theorem Bg(S:H8)(s:List Int):(ij S s).Ok:=H8.add_ok _ _
def fP(b:List Int):List Int:=b++[128]++List.replicate ((119-b.length%64)%64) 0++bj 8 (8*b.length)
def eY(p:List Int):Nat->H8
 | 0=>iH
 |k+1=>ij (eY p k) ((p.drop (64*k)).take 64)
theorem kZ(p:List Int):∀k,(eY p k).Ok
 | 0=>Gs
 |_+1=>Bg _ _
def kD(b:List Int):List Int:=(eY (fP b) ((fP b).length/64)).list.flatMap λx=>bj 4 x.toNat
theorem mE(b:List Int):(fP b).length%64=0:=by
 simp only[fP,List.length_append,List.length_replicate,aw,List.length_cons,List.length_nil];omega
theorem uL{b:List Int}(h:ba b):ba (fP b):=by
 intro x c;unfold fP at c;simp only[List.mem_append,List.mem_cons,List.not_mem_nil,or_false]at c;rcases c with((c|rfl)|c)|c
 ·exact h x c
 ·omega
 ·have:=List.eq_of_mem_replicate c;omega
 ·exact eQ _ _ x c
theorem iL(b:List Int):(kD b).length=32:=rfl
theorem yl(b:List Int):ba (kD b):=by
 intro x c;unfold kD at c;obtain⟨y,-,d⟩:=List.mem_flatMap.1 c;exact eQ _ _ x d
theorem DC{c:List Int}{t:Nat}(h:t<64)(hl:c.length=64)(w:World):(Instr.index 250 (.agg (aQ 64 c)) (.int .i64 (t:Int))).run prog w=.ok (.int .u32 (at_ c t)) w:=by
 have m:(sizeOf 44).run prog w=.ok 1 w:=by
  first|exact sizeOf44 w|simp[sizeOf44,go_sem]|kernel_rfl
 have d:(aQ 64 c)[t]?=some (.int .u32 (at_ c t)):=dh (by rw[hl];exact h)
 have l:(part 44 (aQ 64 c) t).run prog w=.ok (.int .u32 (at_ c t)) w:=by
  have i:(isAgg 44).run prog w=.ok false w:=by
   first|kernel_rfl|simp[isAgg,run_underlying underlying44,go_sem]
  simp[part,i,d,go_sem]
 have j:(t:Int)<64:=by omega
 simp[Instr.index,run_underlying underlying250,asIntOf,m,l,j,go_sem];rw[if_pos h,d];simp
theorem sO (S:H8) (s:List Int) (w:World) (hK:∀t,t<64->w.cell? ⟨4,t,none⟩=some (.int .u32 (at_ kL t))) (hS:S.Ok) (hs:s.length=64) (hb:ba s):Calls prog 167 #[.agg S.arr,.agg (ag s)] w λe w'=>e= .returned (.agg (ij S s).arr)/\aa w w':=by
 have HS:=Ld hs;have HB:=Ld hb;have HO:=Ld hS;have HK:=Ld hK;clear hs hb hS hK;have G:Hid (aQ 8 (iF (nv (λt=>at_ kL t) (aP s 64) S 64).list S.list 8)=(ij S s).arr):=Ld (Df _ _);obtain⟨K,T⟩:∃K:Nat->Int,K=λt=>at_ kL t:=⟨_,rfl⟩
 have i9:∀t,0<=K t/\K t<4294967296:=λt=>by rw[T];exact Ha t
 have k8:=Ld i9;have j6:Hid (∀t,t<64->w.cell? ⟨4,t,none⟩=some (.int .u32 (K t))):=Ld (by rw[T];exact HK.out);rw[<-T]at G;clear T i9 HK;obtain⟨RA,g8⟩:=nM ((ij S s).arr);rw[<-g8];have k':=Ld g8;clear g8;obtain⟨a,b,c,d,e,f,g,hz⟩:=S;unfold H8.arr;dsimp only
 go_enter func167,ntmps167
 go_upto_region 2 with fail;obtain⟨w1,z⟩:=nM ((((w.alloc (.cells #[.int .u32 a,.int .u32 b,.int .u32 c,.int .u32 d,.int .u32 e,.int .u32 f,.int .u32 g,.int .u32 hz] 243)).alloc (.cells (ag s) 67)).alloc (.cells #[.int .u32 0,.int .u32 0,.int .u32 0,.int .u32 0,.int .u32 0,.int .u32 0,.int .u32 0,.int .u32 0] 243)).alloc (.cells #[.int .u32 a,.int .u32 b,.int .u32 c,.int .u32 d,.int .u32 e,.int .u32 f,.int .u32 g,.int .u32 hz] 243):World);obtain⟨b3,V⟩:=nM (w.heap.size+1);obtain⟨b4,X⟩:=nM (w.heap.size+1+1);obtain⟨b5,Y⟩:=nM (w.heap.size+1+1+1);obtain⟨b2,U⟩:=nM (w.heap.size);have i5:Hid (aa w w1):=Ld (by rw[z];exact aa.al (aa.al (aa.al (aa.al (aa.refl _) _) _) _) _);have q:Hid (ac w1 b2 243 (H8.arr ⟨a,b,c,d,e,f,g,hz⟩)):=Ld (by rw[z,U];exact(((ac.new _ _ _).alloc _).alloc _).alloc _);have j3:Hid (ac w1 b3 67 (ag s)):=Ld (by rw[z,V];exact((ac.new' _ _ _ (by simp)).alloc _).alloc _);have r:Hid (ac w1 b4 243 (aQ 8 [])):=Ld (by rw[z,X];exact(ac.new' _ _ _ (by simp)).alloc _);have l:Hid (ac w1 b5 243 (H8.arr ⟨a,b,c,d,e,f,g,hz⟩)):=Ld (by rw[z,Y];exact ac.new' _ _ _ (by simp));have HZ:Hid (b2=w.heap.size/\b3=w.heap.size+1/\b4=w.heap.size+2/\b5=w.heap.size+3):=Ld ⟨U,V,X,Y⟩;rw[<-z,<-Y,<-X,<-V,<-U];clear z U V X Y;have j':(ag s).size=64:=by rw[aq,HS.out]
 go_wp2_with (refine cE 18 rfl ?_;refine ae rfl _ rfl underlying67 rfl (by rw[j'];rfl) rfl j3.out ?_)
 refine(xE s w1 HS.out HB.out).mono ?_;rintro ee w2 ⟨rfl,L⟩;have q:=Ld (L.blk q.out);have l:=Ld (L.blk l.out);have r:=Ld (L.blk r.out);have i6:Hid (aa w w2):=Ld (i5.out.tr L);clear L j';obtain⟨F,b9⟩:=nM (aP s 64);have k1:=Ld b9;have g7:Hid (F.length=64):=Ld (by rw[b9];exact dV s 64);rw[<-b9];clear b9
 go_wp2_with fail;go_loopw [20] (λi wr=>∃(t:Nat),t<=64/\i=.int .i64 t/\Hid (aa w wr)/\Hid (ac wr b4 243 (aQ 8 []))/\Hid (ac wr b2 243 (H8.arr ⟨a,b,c,d,e,f,g,hz⟩))/\Hid (ac wr b5 243 (nv K F ⟨a,b,c,d,e,f,g,hz⟩ t).arr)) (λi _=>64-(intOf i).toNat)
 case atStart=>exact⟨0,Nat.zero_le _,rfl,i6,r,q,l⟩
 case round=>
  clear q r l i6 i5;obtain⟨t,ht,rfl,HN,r,q,l⟩:=hrel
  by_cases b7:t<64
  ·have l2:(0:Int)<=(t:Int):=by omega
   have l3:(t:Int)<64:=by omega
   have i2:=oF (K:=K) (W:=F) HO.out t;obtain⟨x,hx⟩:=nM (nv K F ⟨a,b,c,d,e,f,g,hz⟩ t);rw[<-hx]at i2;have HX:=Ld hx;have u:Hid (ac wr b5 243 x.arr):=Ld (by rw[hx];exact l.out);clear hx l;obtain⟨B,xb,xc,xd,C,xf,xg,xh⟩:=x;have i':0<=B/\B<4294967296:=i2.a;have i0:0<=C/\C<4294967296:=i2.e;have c0:wr.cell? ⟨b5,0,none⟩=some (.int .u32 B):=u.out.cell 0;have c1:wr.cell? ⟨b5,1,none⟩=some (.int .u32 xb):=u.out.cell 1;have c2:wr.cell? ⟨b5,2,none⟩=some (.int .u32 xc):=u.out.cell 2;have c3:wr.cell? ⟨b5,3,none⟩=some (.int .u32 xd):=u.out.cell 3;have c4:wr.cell? ⟨b5,4,none⟩=some (.int .u32 C):=u.out.cell 4;have c5:wr.cell? ⟨b5,5,none⟩=some (.int .u32 xf):=u.out.cell 5;have c6:wr.cell? ⟨b5,6,none⟩=some (.int .u32 xg):=u.out.cell 6;have c7:wr.cell? ⟨b5,7,none⟩=some (.int .u32 xh):=u.out.cell 7;have k5:(aQ 64 F)[t]?=some (.int .u32 (at_ F t)):=dh (by rw[g7.out];exact b7);have k6:(aQ 64 F).size=64:=ia (by rw[g7.out];exact Nat.le_refl _);have k2:=DC b7 g7.out
   go_wp2_with fail;refine ah (aa wr) [(true,0),(true,1),(true,2),(true,3),(true,4),(true,5),(true,6),(true,7),(true,8),(true,9),(true,10),(true,11),(true,12),(true,13),(true,14),(true,15),(true,16),(true,17)] (by kernel_rfl) (by kernel_rfl) (aa.dr (aa.refl wr)) (λk3=>?_);have q0:∀p:HW (aa wr),p.w.cell? ⟨b5,0,none⟩=some (.int .u32 B):=λp=>p.h.cell_ c0
   have q1:∀p:HW (aa wr),p.w.cell? ⟨b5,1,none⟩=some (.int .u32 xb):=λp=>p.h.cell_ c1
   have q2:∀p:HW (aa wr),p.w.cell? ⟨b5,2,none⟩=some (.int .u32 xc):=λp=>p.h.cell_ c2
   have q4:∀p:HW (aa wr),p.w.cell? ⟨b5,4,none⟩=some (.int .u32 C):=λp=>p.h.cell_ c4
   have q5:∀p:HW (aa wr),p.w.cell? ⟨b5,5,none⟩=some (.int .u32 xf):=λp=>p.h.cell_ c5
   have q6:∀p:HW (aa wr),p.w.cell? ⟨b5,6,none⟩=some (.int .u32 xg):=λp=>p.h.cell_ c6
   iterate 18 (refine af (o:=.mk ..) rfl (λK hK=>?_);go_simp;refine hK _ ?_;clear hK K)
   clear q0 q1 q2 q4 q5 q6 k3;refine au ?_;have k7:=cell_regrown (show(wr.drew).cell? ⟨b5,7,none⟩=some (.int .u32 xh)from c7);have kK:=cell_regrown (show(wr.drew).cell? ⟨4,t,none⟩=some (.int .u32 (K t))from HN.out.cell_ (j6.out t b7))
   have cT:∀(x:Int) (k:Nat),(0<=x/\x<4294967296)->(1<=k/\k<=31)->∀d os,Calls prog 175 #[.int .u32 x,.int .i64 (k:Int)] (grow (redrawn wr.drew d) os) λe w''=>e= .returned (.int .u32 (eH x k))/\∃p:Regrown,w''=grow (redrawn wr.drew p.d) p.os:=
    λx k hx hk=>cn (λW _=>(kQ x k W hx hk).mono λe w' h=>⟨h.1,by rw[<-h.2];exact aa.refl _⟩)
   have t1:=cT C 6 i0 (by omega);have t2:=cT C 11 i0 (by omega);have t3:=cT C 25 i0 (by omega);clear cT k2 k5 k6
   go_wp2_with fail;refine wp_region_quiet_below (by kernel_rfl) (by kernel_rfl) ?_
   repeat(quiet_step (first|exact t1 _ _|exact t2 _ _|exact t3 _ _))
   refine wpQuiet_nil ?_;intro _ k4;obtain⟨⟨dq,j2⟩,b1⟩:=k4;obtain⟨y,g9⟩:=nM (grow (redrawn wr.drew dq) j2);have m:Hid (aa wr y):=Ld (aa.tr (aa.dr (aa.refl wr)) (by rw[g9];exact below_regrown _ dq j2));rw[b1,<-g9];clear b1 g9 t1 t2 t3 k7 kK;obtain⟨pv,i3⟩:=nM (cP (K t) (at_ F t) ⟨B,xb,xc,xd,C,xf,xg,xh⟩);have b0:IntKind.u32.wrap (IntKind.u32.wrap (IntKind.u32.wrap (IntKind.u32.wrap (xh+bits BinOp.xor .u32 (bits BinOp.xor .u32 (eH C 6) (eH C 11)) (eH C 25))+bits BinOp.xor .u32 (bits BinOp.and .u32 C xf) (bits BinOp.and .u32 (bits BinOp.xor .u32 (if IntKind.u32.signed=true then-1 else IntKind.u32.max) C) xg))+K t)+at_ F t)=pv:=i3.symm;rw[b0];have j9:=Ld i3;clear i3 b0;have d3:y.cell? ⟨b5,3,none⟩=some (.int .u32 xd):=m.out.cell_ c3;clear c0 c1 c2 c3 c4 c5 c6 c7
   go_wp2_with fail;refine(kQ B 2 y i' (by omega)).mono ?_;rintro ee w5 ⟨rfl,rfl⟩
   go_wp2_with fail;refine(kQ B 13 y i' (by omega)).mono ?_;rintro ee w5 ⟨rfl,rfl⟩
   go_wp2_with fail;refine(kQ B 22 y i' (by omega)).mono ?_;rintro ee w5 ⟨rfl,rfl⟩;have j4:Hid (ac y b5 243 (H8.arr ⟨B,xb,xc,xd,C,xf,xg,xh⟩)):=Ld (m.out.blk u.out)
   go_wp2_with ((with_reducible refine eC ⟨none,.store 243 (.tmp 5) _,_,_,_,_⟩ ?_);refine ao rfl (.tmp 5) (.tmp 95) rfl rfl rfl rfl j4.out rfl (by simp[Value.oneCell']) ?_;intro w8 N O;have g4:=Ld N;have J:=Ld O;clear N O)
   have j8:Hid (aa w w8):=Ld ((HN.out.tr m.out).fr J.out (λk hk=>by have:=HZ.out;omega));have c8:Hid (ac w8 b2 243 (H8.arr ⟨a,b,c,d,e,f,g,hz⟩)):=Ld ((m.out.blk q.out).fr J.out (by have:=HZ.out;omega));have d':Hid (ac w8 b4 243 (aQ 8 [])):=Ld ((m.out.blk r.out).fr J.out (by have:=HZ.out;omega))
   have g3:Hid (ac w8 b5 243 (nv K F ⟨a,b,c,d,e,f,g,hz⟩ (t+1)).arr):=Ld (by
    show ac w8 b5 243 (cR (K t) (at_ F t) (nv K F ⟨a,b,c,d,e,f,g,hz⟩ t)).arr;rw[<-HX.out];have e1:bS pv (cQ ⟨B,xb,xc,xd,C,xf,xg,xh⟩)=(pv+(fY (fY (eH B 2) (eH B 13)) (eH B 22)+fY (fY (kq B xb) (kq B xc)) (kq xb xc)))%4294967296:=Gg _ _ _;have e2:=oU xd pv;unfold cR H8.arr;rw[<-j9.out];dsimp only;rw[e1,e2]
    exact g4.out)
   go_roundw
   case rel=>exact⟨t+1,by omega,by go_num,j8,d',c8,g3⟩
   case measure=>simp[intOf];omega
  ·have b':Hid (t=64):=Ld (by omega);have i1:¬(t:Int)<64:=by omega
   obtain⟨R,hR⟩:=nM (nv K F ⟨a,b,c,d,e,f,g,hz⟩ 64);have k9:Hid R.Ok:=Ld (by rw[hR];exact oF HO.out 64);have D:Hid (ac wr b5 243 (aQ 8 (iF R.list (H8.list ⟨a,b,c,d,e,f,g,hz⟩) 0))):=Ld (by rw[hR,<-b'.out];exact l.out);obtain⟨E,M⟩:=nM (H8.list ⟨a,b,c,d,e,f,g,hz⟩);have H:Hid (ac wr b2 243 (aQ 8 E)):=Ld (by rw[M];exact q.out);have k0:Hid (E.length=8):=Ld (by rw[M];rfl);have g5:Hid (aQ 8 (iF R.list E 8)=(ij ⟨a,b,c,d,e,f,g,hz⟩ s).arr):=Ld (by rw[hR,M,k1.out];exact G.out);rw[<-M]at D;have g6:=HN;have I:=r;clear hR M l q G HN r;obtain⟨wo,j1⟩:=nM (wr:World);rw[<-j1]at D H g6 I⊢;clear j1
   go_wp2_with fail;clear i1 b7 ht b'
   go_loopw [97] (λi wr=>∃(k:Nat),k<=8/\i=.int .i64 k/\Hid (aa w wr)/\Hid (ac wr b4 243 (aQ 8 []))/\Hid (ac wr b2 243 (aQ 8 E))/\Hid (ac wr b5 243 (aQ 8 (iF R.list E k)))) (λi _=>8-(intOf i).toNat)
   case atStart=>exact⟨0,Nat.zero_le _,rfl,g6,I,H,D⟩
   case round=>
    clear g6 I H D;obtain⟨k,hk,rfl,HN,r,q,l⟩:=hrel
    by_cases Z:k<8
    ·have l':(0:Int)<=(k:Int):=by omega
     have l1:(k:Int)<8:=by omega
     have c5:wr.cell? ⟨b5,k,none⟩=some (.int .u32 (at_ R.list k)):=by
      rw[l.out.cell k,dh (by rw[qV];exact Z),AQ Z]
     have c2:wr.cell? ⟨b2,k,none⟩=some (.int .u32 (at_ E k)):=by
      rw[q.out.cell k,dh (by rw[k0.out];exact Z)]
     have j5:=Ld c5;have d5:=cell_regrown c5;have d2:=cell_regrown c2;clear c5 c2
     go_wp2_with fail;refine dY 8 (by kernel_rfl) (by kernel_rfl) ?_;simp only[List.take_succ_cons,List.take_zero,List.drop_succ_cons,List.drop_zero]
     repeat(quiet_step (fail))
     refine wpQuiet_nil ?_;intro y i7;have m:Hid (aa wr y):=Ld i7;have e5:y.cell? ⟨b5,k,none⟩=some (.int .u32 (at_ R.list k)):=m.out.cell_ j5.out;have f5:y.frozen? ⟨b5,k,none⟩=false:=(m.out.blk l.out).frozen k;clear d5 d2 i7;obtain⟨v,hv⟩:=nM (bS (at_ R.list k) (at_ E k));have j0:IntKind.u32.wrap (at_ R.list k+at_ E k)=v:=hv.symm
     try rw[j0]
     have HV:=Ld hv;clear hv j0;have HF:Hid (Fr (λj=>j=b5) y (y.setCell ⟨b5,k,none⟩ (.int .u32 v))):=Ld ((Fr.refl (λj=>j=b5) y).setCell (p:=⟨b5,k,none⟩) (λ_=>rfl) _);have j7:Hid (aa w (y.setCell ⟨b5,k,none⟩ (.int .u32 v))):=Ld ((HN.out.tr m.out).fr HF.out (λk hk=>by have:=HZ.out;omega));have c9:Hid (ac (y.setCell ⟨b5,k,none⟩ (.int .u32 v)) b4 243 (aQ 8 [])):=Ld ((m.out.blk r.out).fr HF.out (by have:=HZ.out;omega));have c':Hid (ac (y.setCell ⟨b5,k,none⟩ (.int .u32 v)) b2 243 (aQ 8 E)):=Ld ((m.out.blk q.out).fr HF.out (by have:=HZ.out;omega))
     have f':Hid (ac (y.setCell ⟨b5,k,none⟩ (.int .u32 v)) b5 243 (aQ 8 (iF R.list E (k+1)))):=Ld (by
      have:=(m.out.blk l.out).set k (.int .u32 v);rw[HV.out,zb Z]at this;rw[HV.out]
      exact this)
     go_wp2_with fail;go_roundw
     case rel=>exact⟨k+1,by omega,by go_num,j7,c9,c',f'⟩
     case measure=>simp[intOf];omega
    ·obtain rfl:k=8:=by omega
     have b8:(aQ 8 (iF R.list E 8)).size=8:=ia (by rw[qV];exact Nat.le_refl _);have i4:(aQ 8 []).size=(aQ 8 (iF R.list E 8)).size:=by rw[b8];exact ia (by simp)
     go_wp2_with (first
      |(refine cE 109 rfl ?_;refine ae rfl _ rfl underlying243 rfl (by rw[b8];rfl) rfl l.out ?_)
      |((with_reducible refine eC ⟨none,.store 243 (.tmp 4) _,_,_,_,_⟩ ?_);refine ao rfl (.tmp 4) (.tmp 109) rfl (by rw[b8];rfl) rfl rfl r.out i4 (vG _ _) ?_;intro w8 N O;have g4:=Ld N;have J:=Ld O;clear N O))
     rw[k'.out,<-g5.out];exact bodyPost_ret (v:=.agg (aQ 8 (iF R.list E 8))) (eh rfl _ _ b4 _ _ rfl g4.out underlying243 rfl (by rw[b8];rfl)) rfl ⟨rfl,HN.out.fr J.out (λk hk=>by have:=HZ.out;omega)⟩
end Go.Proofs.YtfchcdbfalgdlaaGreatDoor
namespace Go.Proofs.YtfchcdbfalgdlaaGreatDoor
open _root_.Go.Proofs.Tryz
open Go.RowKit Go.Maps
def Rv(v:Value):Option (DataW Value×List MemPlace):=some (.held v,[])
def yV:DataW Value->Value| .held v=>v|_=>undef
def ly(f:Lit->Option Value)(kl:Lit)(v:Option Value):Lit->Option Value:=λx=>if x.sameKey kl then v else f x
theorem gV{f:Lit->Option Value}{kl:Lit}(c:WideAt.IsKeyLit kl)(v:Option Value):ly f kl v kl=v:=by
 unfold ly;rw[if_pos (by cases kl<;>simp_all [Lit.sameKey,WideAt.IsKeyLit])]
theorem fy{f:Lit->Option Value}{kl x:Lit}(h:x≠kl)(v:Option Value):ly f kl v x=f x:=by
 unfold ly;rw[if_neg (by rw[Maps.sameKey_ne h];simp)]
def aJ(w:World)(P:Program)(k:TypeId)(b n:Nat)(f:Lit->Option Value):Prop:=
 ∃D:DataW Value,w.ownsMap P k Rv b n D/\∀kl,f kl=if Maps.has D kl then some (yV (D.atKey kl (.held undef)))else none
section
variable {P:Program}{k:TypeId}{w w':World}{b n:Nat}{f:Lit->Option Value}
theorem aJ.lt(h:aJ w P k b n f):b<w.heap.size:=by obtain⟨D,c,_⟩:=h;exact c.lt
theorem aJ.mono(h:aJ w P k b n f){m:Nat}(hm:n<=m):aJ w P k b m f:=by obtain⟨D,c,d⟩:=h;exact⟨D,c.mono hm,d⟩
theorem aJ.fr{S:Nat->Prop}(h:aJ w P k b n f)(m:Fr S w w')(p:¬S b):aJ w' P k b n f:=by
 obtain⟨D,i,h2⟩:=h;have c:=i.lt;obtain⟨j,clock,l,F,d,e⟩:=i;exact⟨D,⟨j,clock,(m.block b c p).trans l,F,d,e⟩,h2⟩
theorem aJ.alloc(h:aJ w P k b n f)(o:Obj):aJ (w.alloc o) P k b n f:=h.fr (S:=ic) ((Fr.refl _ _).alloc _) (λx=>x)
theorem aJ.made(w:World)(P:Program)(k:TypeId):aJ (w.alloc (.map #[] 0)) P k w.heap.size 0 (λ_=>none):=
 ⟨.map [],World.ownsMap_made w P k Rv,λkl=>by simp[Maps.has]⟩
theorem aJ.look{t e:TypeId}(h:aJ w P k b n f)(K:Keyed P k)(ht:P.underlying t=some (.map k e)){z:Value}(hz:(zeroValue e).run P w=.ok z w){key:Value}{kl:Lit}(j:keyOf P k key=some kl):
    (Instr.lookup t (.map (some b)) key true).run P w=.ok (.tuple #[(f kl).getD z,.bool (f kl).isSome]) w/\(Instr.lookup t (.map (some b)) key false).run P w=.ok ((f kl).getD z) w:=by
 obtain⟨D,I,C⟩:=h;obtain⟨J,clock,u,F,_,rfl⟩:=I;rcases Maps.fit_look true K ht hz u F j with⟨l,_,p⟩|⟨H,y,_,_,l,m,p,_⟩
 ·have r:=Maps.has_false_of_atKey p;rcases Maps.fit_look false K ht hz u F j with ⟨c,_,d⟩ | ⟨q,G,_,_,c,i,d,_⟩
  ·rw[C kl,r];exact⟨l,c⟩
  ·exact absurd (Maps.has_true_of_atKey d) (by rw[r];simp)
 ·have r:=Maps.has_true_of_atKey p;have E:y=(.held H.val,[]):=by unfold Rv at m;injection m with m;exact m.symm
  rcases Maps.fit_look false K ht hz u F j with⟨c,_,d⟩|⟨q,G,_,_,c,i,d,_⟩
  ·exact absurd (Maps.has_false_of_atKey d) (by rw[r];simp)
  ·have v:G=(.held q.val,[]):=by unfold Rv at i;injection i with i;exact i.symm
   have B:=p (.held undef);have s:=d (.held undef);rw[B,E,v]at s;injection s with s;rw[C kl,r,if_pos rfl,B,E];refine⟨l,?_⟩;rw[c,<-s];rfl
theorem aJ.store{t e:TypeId}(h:aJ w P k b n f)(K:Keyed P k)(ht:P.underlying t=some (.map k e))(q:n<maxLen){key:Value}{kl:Lit}(c:keyOf P k key=some kl)(val:Value):
    ∃w',(Instr.mapUpdate t (.map (some b)) key val).run P w=.ok () w'/\aJ w' P k b (n+1) (ly f kl (some val))/\Fr (λj=>j=b) w w':=by
 obtain⟨D,l,p⟩:=h;obtain⟨w',d,h1,h2⟩:=l.update K ht q c (show Rv val=some (.held val,[])from rfl);refine⟨w',d,⟨_,h1,λx=>?_⟩,(Fr.refl _ _).grown h2 (λj _ m=>by injection m with m;exact m.symm)⟩
 by_cases i:x=kl
 ·subst i;rw[gV (K.key c),Maps.has_put_same l.isMap (K.key c),Maps.atKey_put_same l.isMap (K.key c)];rfl
 ·rw[fy i,Maps.has_put_other i,Maps.atKey_put_other i,p x]
theorem aJ.drop{t e:TypeId}(h:aJ w P k b n f)(K:Keyed P k)(ht:P.underlying t=some (.map k e)){key:Value}{kl:Lit}(c:keyOf P k key=some kl)(ty:TypeId):
    ∃w',(Builtin.delete_ #[t,k] ty #[.map (some b),key]).run P w=.ok (.tuple #[]) w'/\aJ w' P k b n (ly f kl none)/\Fr (λj=>j=b) w w':=by
 obtain⟨D,m,p⟩:=h;obtain⟨w',d,h1,h2⟩:=m.drop K ht c ty;refine⟨w',d,⟨_,h1,λx=>?_⟩,(Fr.refl _ _).grown h2.grown (λj _ l=>by injection l with l;exact l.symm)⟩
 by_cases i:x=kl
 ·subst i;rw[gV (K.key c),Maps.has_del_same];rfl
 ·rw[fy i,Maps.has_del_other i,Maps.atKey_del_other i,p x]
end
section
variable {P:Program}{w:World}{ops:Array Oper}{rest:List Oper}{o:Oper}{a:Act}{Q:Exit->Act->World->Prop}{b n:Nat}{f:Lit->Option Value}
theorem gF{k e t:TypeId}(q:aJ w P k b n f)(K:Keyed P k)(ht:P.underlying t=some (.map k e)){z:Value}(hz:(zeroValue e).run P w=.ok z w)(r:o.guard=none)(m x:Operand)(l:o.op=Op.lookup t m x true)
    (hm:a.eval m=.map (some b)) (key:Value) (kl:Lit) (u:a.eval x=key) (d:keyOf P k key=some kl) (v:Value) (ok:Bool) (s:(f kl).getD z=v) (j:(f kl).isSome=ok)
    (p:wpList P ops Q rest (a.put o.dst (.tuple #[v,.bool ok])) w):wpList P ops Q (o::rest) a w:=by
 refine wpList_plain r λy i=>?_
 have c:=(q.look K ht hz d).1;rw[s,j]at c;unfold Oper.wp;simp[execOp,l,hm,u,c,Result.andThen];exact i _ _ p
theorem qS{k e t:TypeId}(p:aJ w P k b n f)(K:Keyed P k)(ht:P.underlying t=some (.map k e)){z:Value}(hz:(zeroValue e).run P w=.ok z w)(q:o.guard=none)(m x:Operand)(j:o.op=Op.lookup t m x false)
    (hm:a.eval m=.map (some b)) (key:Value) (kl:Lit) (s:a.eval x=key) (d:keyOf P k key=some kl) (v:Value) (r:(f kl).getD z=v)
    (l:wpList P ops Q rest (a.put o.dst v) w):wpList P ops Q (o::rest) a w:=by
 refine wpList_plain q λu i=>?_
 have c:=(p.look K ht hz d).2;rw[r]at c;unfold Oper.wp;simp[execOp,j,hm,s,c,Result.andThen];exact i _ _ l
end
def aK(t:TypeId)(w:World)(b:Nat):Prop:=∃(cs:Array Value) (fz:Nat×Nat),w.heap[b]?=some (.cells cs t fz)
theorem aK.fr{t:TypeId}{w w':World}{S:Nat->Prop}{b:Nat}(h:aK t w b)(d:Fr S w w')(i:¬S b):aK t w' b:=by
 obtain⟨cs,fz,c⟩:=h;exact⟨cs,fz,(d.block b (Array.getElem?_eq_some_iff.1 c).1 i).trans c⟩
theorem aK.not_blk{t d:TypeId}{w:World}{cs:Array Value}{k:Nat}(h:ac w k d cs)(ht:d≠t):¬aK t w k:=by
 rintro⟨cs',fz,c⟩;unfold ac at h;rw[h]at c;injection c with c;injection c with _ c;exact ht c
theorem aK.not_own{t:TypeId}{w:World}{base e s n k:Nat}{v:Value}{xs:List Value}(h:w.ownsRow base e s v n xs)(d:e≠t)(c:v.ownBlock=some k):¬aK t w k:=by
 rcases h.2 with⟨rfl,_⟩|⟨g',cap,cur,rfl,_,i,_⟩
 ·cases c
 ·have:g'=k:=by simpa [Value.ownBlock] using c
  subst this;exact aK.not_blk i d
theorem aK.not_map{t:TypeId}{w:World}{P:Program}{i:TypeId}{b n:Nat}{f:Lit->Option Value}(h:aJ w P i b n f):¬aK t w b:=by
 rintro⟨cs,fz,c⟩;obtain⟨D,⟨j,clock,d,_⟩,_⟩:=h;rw[d]at c
 cases c
def ei(t:TypeId)(w:World)(size:Nat)(A:Option Addr)(n:Nat)(xs:List Value):Prop:=Rd (aK t w) w size A n xs
section
variable {t:TypeId}{w w':World}{S:Nat->Prop}{size n:Nat}{A:Option Addr}{xs:List Value}
theorem ei.fr(h:ei t w size A n xs)(l:Fr S w w')(v:∀k,S k->¬aK t w k):ei t w' size A n xs:=by
 refine⟨h.1,λs=>?_⟩;obtain⟨i,e,m,c,q⟩:=h.2 s;have d:¬S i.block:=λr=>v _ r m
 exact⟨i,e,m.fr l d,Nat.lt_of_lt_of_le c l.size,λj u hu=>by
  have:=q j u hu
  rwa[<-l.cell (p:=i.add j) (by rw[eO];exact c) (by rw[eO];exact d)]at this⟩
theorem ei.new(h:ei t w size A n xs)(c:aa w w'):ei t w' size A n xs:=h.fr (c.toFr ic) (λ_ x=>x.elim)
theorem ei.own{base:Nat}{v:Value}{c:Nat}(h:w.ownsRow base t size v n xs)(l:v=.slice A n c):ei t w size A n xs:=by
 refine⟨h.1,λr=>?_⟩;obtain⟨m,e,s,i,p⟩:=(Rd.own h l).2 r;refine⟨m,e,?_,i,p⟩;subst l;rcases h.2 with⟨d,_⟩|⟨g',j,cur,d,_,q,_⟩
 ·injection d with d;rw[d]at e;cases e
 ·injection d with d;rw[d]at e;injection e with e;subst e;exact⟨_,_,q⟩
theorem ei.nil:ei t w size A 0 []:=Rd.nil
end
end Go.Proofs.YtfchcdbfalgdlaaGreatDoor
namespace Go.Proofs.YtfchcdbfalgdlaaGreatDoor
open _root_.Go.Proofs.Tryz
open Go.RowKit
theorem oI{P:Program}{t e:TypeId}{size bytes:Nat}(E:aY P t e size bytes)(l:size<=16777216)(v:Value)(m:v.cells.size=size)(w:World):
    (Instr.buildSlice t 1 #[(0,v)]).run P w=.ok (.slice (some ⟨w.heap.size,0,none⟩) 1 1) (w.alloc (.cells v.cells e)):=by
 obtain⟨i,z,hi,hz,c,-,d⟩:=E.info;have j:=E.pos;refine run_buildSlice w t e 1 #[(0,v)] v.cells i z E.ht hi hz (by rw[c];omega) (by rw[c];omega) ?_;have h:=Great.fill_whole (s:=i.size) (by omega) [v] ((Array.range (1*i.size)).map (z.cells[·%z.cells.size]!)) (by intro u hu;obtain rfl:=List.mem_singleton.1 hu;omega) (by simp)
 simpa using h
theorem cD{P:Program}{t e:TypeId}{size bytes:Nat}(E:aY P t e size bytes)(l:size<=16777216){ops:Array Oper}{rest:List Oper}{o:Oper}{a:Act}{w:World}{Q:Exit->Act->World->Prop}(i:o.guard=none)(x:Operand)
    (j:o.op=.buildSlice t 1 #[(0,x)]) (cs:Array Value) (m:a.eval x=.agg cs) (d:cs.size=size)
    (h:wpList P ops Q rest (a.put o.dst (.slice (some ⟨w.heap.size,0,none⟩) 1 1)) (w.alloc (.cells cs e))):wpList P ops Q (o::rest) a w:=
 wpList_plain i λ_ c=>by
  unfold Oper.wp execOp;simp only[j,Sem.run_bind,List.map_toArray,List.map_cons,List.map_nil,m,oI E l (.agg cs) d w,Result.andThen_ok];exact c _ _ h
theorem dM{P:Program}{ops:Array Oper}{Q:Exit->Act->World->Prop}{rest:List Oper}{a:Act}{w:World}(o:Oper)(h:wpList P ops Q (o::rest) a w):wpList P ops Q (o::rest) a w:=h
end Go.Proofs.YtfchcdbfalgdlaaGreatDoor
namespace Go.Proofs.YtfchcdbfalgdlaaGreatDoor
open _root_.Go.Proofs.Tryz
open Go.RowKit Go.Maps
theorem it{p:Nat->Prop}(A:Option Addr)(n c:Nat)(xs:List Int)(w:World)(hO:Rd p w 1 A n (an xs))(D:n<=140737488355328):
    Calls prog 138 #[.slice A n c] w λe w'=>(∃s u,e=.returned (.slice s n u)/\w'.ownsRow w.heap.size 5 1 (.slice s n u) n (an xs))/\aa w w':=by
 have y:=Ld hO;rcases A with _|m
 ·have h0:n=0:=by
   rcases Nat.eq_zero_or_pos n with h|h
   ·exact h
   ·obtain⟨m,z,_⟩:=hO.2 h
    cases z
  subst h0;have hz:xs=[]:=List.eq_nil_of_length_eq_zero (by have:=hO.1;rw[ak]at this;omega);subst hz;clear hO;have r:=λw=>Lib.run_eql_slice_nil (P:=prog) w 33 5 none 0 c 0 0 underlying33
  go_enter func138,ntmps138
  go_wp2_with fail;go_ret;exact⟨⟨none,0,rfl,World.ownsRow_nil _ _ _ _⟩,aa.refl w⟩
 ·clear hO;have r:=λw=>Lib.run_eql_slice_nil (P:=prog) w 33 5 (some m) n c 0 0 underlying33
  go_enter func138,ntmps138
  go_wp2_with (at_builtin;refine av kB _ rfl (.tmp 5) (.tmp 6) rfl w.heap.size (.slice (some ⟨w.heap.size,0,none⟩) 0 0) 0 [] rfl (dQ (ac.new w 5 #[]) (Nat.le_refl _)) (some m) n c (an xs) rfl (aa.rd (aa.al (aa.refl w) _) y.out) (aR xs) (by unfold maxLen;omega) (by omega) (by simp) ?_;intro v d1 C d i q;rw[Nat.zero_add];rw[Nat.zero_add,List.nil_append]at d;have l:=Ld d;have j:Hid (aa w C):=Ld ((aa.al (aa.refl w) _).fr i (by intro k B;simp[Value.ownBlock]at B;omega));clear d i q)
  go_ret;exact⟨⟨v,d1,rfl,l.out⟩,j.out⟩
def WS(base g:Nat)(w:World)(k:Nat):Prop:=k=g\/(base<=k/\aK 5 w k)
structure gp(w:World)(base g:Nat)(xs:List Int):Prop where
 st:∃A c,ac w g 168 #[.nilIface,.slice A xs.length c]/\w.ownsRow base 5 1 (.slice A xs.length c) xs.length (an xs)
 gb:base<=g
 byt:ba xs
def FW(base g:Nat)(w w':World):Prop:=Fr (WS base g w) w w'
section
variable {base g:Nat}{w w' w'':World}{xs:List Int}
theorem FW.refl:FW base g w w:=Fr.refl _ _
theorem FW.tr(h:FW base g w w')(k:FW base g w' w''):FW base g w w'':=by
 refine⟨k.os.trans h.os,k.tape.trans h.tape,k.output.trans h.output,Nat.le_trans h.size k.size,λj d i=>?_⟩;have e:=h.block j d i;refine(k.block j (Nat.lt_of_lt_of_le d h.size) (λc=>i ?_)).trans e;rcases c with c|⟨c,cs,fz,l⟩
 ·exact .inl c
 ·exact .inr ⟨c,cs,fz,e.symm.trans l⟩
theorem FW.new(h:aa w w'):FW base g w w':=h.toFr _
theorem gp.lt(h:gp w base g xs):g<w.heap.size:=by obtain⟨A,c,d,_⟩:=h.st;exact d.lt
theorem gp.base_le(h:gp w base g xs):base<=w.heap.size:=by have:=h.lt;have:=h.gb;omega
theorem gp.new(h:gp w base g xs)(d:aa w w'):gp w' base g xs:=by
 obtain⟨A,c,i,j⟩:=h.st;exact⟨⟨A,c,d.blk i,d.own j⟩,h.gb,h.byt⟩
theorem FW.blk(h:FW base g w w'){k t:Nat}{cs:Array Value}(c:ac w k t cs)(ht:t≠5)(d:k≠g):ac w' k t cs:=
 c.fr h (λi=>i.elim d (λx=>aK.not_blk c ht x.2))
theorem FW.toNew(h:FW base g w w'){c:World}(d:aa c w)(j:c.heap.size<=base)(l:base<=g):aa c w':=d.fr h (λk i=>i.elim (λx=>by omega) (λx=>by omega))
end
theorem sf (n:Int) (h:n=1\/n=2\/n=4\/n=8) (w:World):Calls prog 139 #[.int .i64 n] w λe w'=>e= .returned (.bool true)/\w=w':=by
 rcases h with rfl|rfl|rfl|rfl
 all_goals
  go_enter func139,ntmps139
  go_wp2_with fail;go_ret;exact⟨rfl,rfl⟩
theorem cY{w:World}{base e s n k:Nat}{v:Value}{xs:List Value}(h:w.ownsRow base e s v n xs)(c:v.ownBlock=some k):aK e w k:=by
 rcases h.2 with⟨rfl,_⟩|⟨g',cap,cur,rfl,_,d,_⟩
 ·simp[Value.ownBlock]at c
 ·have:g'=k:=by simpa [Value.ownBlock] using c
  subst this;exact⟨_,_,d⟩
theorem yW{base g:Nat}{w y i:World}{xs ys:List Int}{A j:Option Addr}{n m c d1:Nat}(H:gp w base g xs)(E:ac w g 168 #[.nilIface,.slice A n c])(hO:w.ownsRow base 5 1 (.slice A n c) n (an xs))(F:n=xs.length)(C:aa w y)
    (q:Fr (λk=>(Value.slice A n c).ownBlock=some k) y i) (s:i.ownsRow base 5 1 (.slice j (n+m) d1) (n+m) (an xs++an ys)) (hm:ys.length=m) (G:ba ys):
    gp (i.setCell ⟨g,1,none⟩ (.slice j (n+m) d1)) base g (xs++ys)/\FW base g w (i.setCell ⟨g,1,none⟩ (.slice j (n+m) d1)):=by
 have D:(Value.slice A n c).ownBlock≠some g:=bm hO E (by decide);have l:ac i g 168 #[.nilIface,.slice A n c]:=(C.blk E).fr q (λd=>D d);have r:Fr (λk=>k=g) i (i.setCell ⟨g,1,none⟩ (.slice j (n+m) d1)):=(Fr.refl (λk=>k=g) i).setCell (p:=⟨g,1,none⟩) (λ_=>rfl) _
 have z:ac (i.setCell ⟨g,1,none⟩ (.slice j (n+m) d1)) g 168 #[.nilIface,.slice j (n+m) d1]:=by
  have:=l.set 1 (.slice j (n+m) d1)
  simpa using this
 have u:∀k,(Value.slice j (n+m) d1).ownBlock=some k->¬k=g:=λk d e=>by
  subst e;exact bm s l (by decide) d
 refine⟨⟨⟨j,d1,?_,?_⟩,H.gb,λx v=>?_⟩,?_⟩
 ·rw[List.length_append,<-F,hm];exact z
 ·rw [List.length_append,<-F,hm];have e:an (xs++ys)=an xs++an ys:=by simp [an]
  rw[e];exact bg s r (λk d=>u k d)
 ·rcases List.mem_append.1 v with v | v
  ·exact H.byt x v
  ·exact G x v
 ·have hF:FW base g w y:=FW.new C;have B:FW base g y i:=q.mono (λk _ d=>.inr ⟨(am hO k d).1,cY (C.own hO) d⟩);exact(hF.tr B).tr (r.mono (λk _ d=>.inl d))
theorem mV{base g:Nat}{w:World}{xs:List Int}{p:Nat->Prop}(h:gp w base g xs)(B:Option Addr)(m d:Nat)(ys:List Int)(F:Rd p w 1 B m (an ys))(I:ba ys)(hl:xs.length+m<=140737488355328):
    Calls prog 147 #[.pointer (some ⟨g,0,none⟩),.slice B m d] w λe w'=>e=.returned (.pointer (some ⟨g,0,none⟩))/\gp w' base g (xs++ys)/\FW base g w w':=by
 obtain⟨A,c,E,hO⟩:=h.st;have hm:ys.length=m:=by have:=F.1;rw[ak]at this;omega
 have H:=Ld h;have v:=Ld E;have C:=Ld hO;have N:=Ld F;have O:=Ld I;have M:=Ld hm;have s:(Value.slice A xs.length c).ownBlock≠some g:=bm hO E (by decide);have l:=Ld s;obtain⟨n,G⟩:=nM (xs.length);rw[<-G]at v C l hl;have z:=Ld G;clear h I E hO F hm s G;have U:w.cell? ⟨g,1,none⟩=some (.slice A n c):=v.out.cell 1
 go_enter func147,ntmps147
 go_wp2_with (at_builtin;refine av (o:=⟨some 13,_,_,_,_,_⟩) kB _ rfl (.tmp 11) (.tmp 12) rfl base (.slice A n c) n (an xs) rfl C.out B m d (an ys) rfl N.out (aR ys) (by unfold maxLen;omega) (by omega) H.out.base_le ?_;intro T d1 J r i q;have j:Hid (ac J g 168 #[.nilIface,.slice A n c]):=Ld (v.out.fr i (λR=>l.out R));have f3:=j.out.frozen 1;have V:J.cell? ⟨g,1,none⟩=some (.slice A n c):=j.out.cell 1;have D:=Ld r;have y:=Ld i;have L:=Ld q;clear r i q)
 go_ret;have u:=yW (ys:=ys) H.out v.out C.out z.out (aa.refl w) y.out D.out M.out O.out;exact⟨rfl,u.1,u.2⟩
theorem nF{P:Program}{ops:Array Oper}{o:Oper}{a:Act}{K:Act->World->Prop}{Q:Exit->Act->World->Prop}{w:World}{F:Prop}{t e:TypeId}{bytes:Nat}(E:aY P t e 1 bytes)(i:Region.wanted o (yielded ops a.tmps)=true)(x:Operand)
    (c:o.op=.buildSlice t 1 #[(0,x)]) (v:Value) (j:a.eval x=v) (d:v.cells.size=1)
    (h:∀g w',ac w' g e v.cells->aa w w'->w.heap.size<=g->K (a.put o.dst (.slice (some ⟨g,0,none⟩) 1 1)) w'):if Region.wanted o (yielded ops a.tmps)=true then Oper.wp P o a w K Q else F:=by
 rw[if_pos i];unfold Oper.wp execOp;simp only[c,Sem.run_bind,List.map_toArray,List.map_cons,List.map_nil,j,oI E (by decide) v d w,Result.andThen_ok];exact h _ _ (ac.new _ _ _) (aa.al (aa.refl _) _) (Nat.le_refl _)
theorem mO(n k:Nat):(n:Int)/2^(8*(k:Int)).toNat=((n/256^k:Nat):Int):=by
 have c:(8*(k:Int)).toNat=8*k:=by omega
 have d:(2:Nat)^(8*k)=256^k:=by rw[Nat.pow_mul]
 rw[c,Int.natCast_ediv,<-d,Int.natCast_pow];rfl
theorem eU(m:Nat):IntKind.u8.wrap (m:Int)=((m%256:Nat):Int):=by
 simp[IntKind.wrap,IntKind.signed,IntKind.bits]
theorem fU{base g:Nat}{w:World}{xs:List Int}(h:gp w base g xs)(n size:Nat)(hs:size=1\/size=2\/size=4\/size=8)(hn:n<256^size)(hl:xs.length+8<=140737488355328):
    Calls prog 104 #[.pointer (some ⟨g,0,none⟩),.int .u64 n,.int .i64 size] w λe w'=>e=.returned (.pointer (some ⟨g,0,none⟩))/\gp w' base g (xs++bj size n)/\FW base g w w':=by
 have H:=Ld h;have C:=λw=>sf size (by omega) w
 have b8:size<=8:=by omega
 have b7:1<=size:=by omega
 clear h
 go_enter func104,ntmps104
 go_wp2_with fail;refine(C w).mono ?_;rintro e w0 ⟨rfl,rfl⟩;have kD:=mO n size;rw[Nat.div_eq_of_lt hn]at kD;clear C
 by_cases h8:size<8
 all_goals
  have R:decide ((size:Int)<8)=decide (size<8):=decide_eq_decide.2 (by omega)
  go_wp2_with fail;clear kD R
  go_loopw [7] (λi wr=>∃j:Nat,j<=size/\i=.int .i64 ((j:Int)-1)/\Hid (gp wr base g (xs++(bj size n).take (size-j)))/\Hid (FW base g w wr)) (λi _=>(intOf i+1).toNat)
  case atStart=>exact⟨size,Nat.le_refl _,rfl,Ld (by simpa using H.out),Ld FW.refl⟩
  case round=>
   obtain⟨j,hj,rfl,E,U⟩:=hrel;rcases Nat.eq_zero_or_pos j with h0|h0
   ·subst h0
    go_wp2_with fail;go_ret;have Y:=E.out;rw[Nat.sub_zero,List.take_of_length_le (by rw[aw];exact Nat.le_refl _)]at Y;exact⟨rfl,Y,U.out⟩
   ·obtain⟨k,rfl⟩:∃k,j=k+1:=⟨j-1,by omega⟩
    have u:(((k+1:Nat):Int)-1)=(k:Int):=by omega
    rw[u];obtain⟨A,c,N,hO⟩:=E.out.st
    have r:(xs++(bj size n).take (size-(k+1))).length=xs.length+(size-(k+1)):=by
     rw[List.length_append,List.length_take,aw];omega
    rw[r]at N hO;have D:=Ld N;have L:=Ld hO;clear N hO r u
    go_wp2_with fail;have V:wr.cell? ⟨g,1,none⟩=some (.slice A (xs.length+(size-(k+1))) c):=D.out.cell 1;refine fi (iU ⟨g,1,none⟩ (.slice A (xs.length+(size-(k+1))) c)) 14 [(true,0),(true,1),(true,2),(true,3),(true,4),(true,5),(true,6),(true,7),(true,8),(true,9),(false,10),(false,11),(true,12),(true,13),(false,14)] (by kernel_rfl) (by kernel_rfl) V (λb3=>?_);have cp:=iU.all ⟨g,1,none⟩ (.slice A (xs.length+(size-(k+1))) c);have kD:=mO n k
    have O:IntKind.u8.wrap ((n:Int)/256^k)=((aL n k:Nat):Int):=by
     rw[show(n:Int)/256^k=((n/256^k:Nat):Int)from by simp,eU];rfl
    have T:IntKind.i64.wrap (8*(k:Int))=8*k:=IntWalk.i64_in _ (by omega);have b0:(0:Int)<=8*(k:Int):=by omega
    have Z:8*(k:Int)<=64:=by omega
    iterate 10 (refine af (o:=.mk ..) rfl (λK d=>?_);go_simp;refine d _ ?_;clear d K)
    refine aj (o:=.mk ..) rfl (λK d=>?_) (.inl rfl);refine nF kB rfl (.tmp 45) rfl (.int .u8 (aL n k:Nat)) (by rfl) rfl ?_;intro gb F z l b1;simp only[Act.put,bC,bD,bF];have l:aa wr F:=aa.tr (aa.dr (aa.refl _)) l;have X:F.cell? ⟨g,1,none⟩=some (.slice A (xs.length+(size-(k+1))) c):=l.cell_ V;refine d.out _ _ (λ_=>X) ?_;clear d K;clear O kD T;have m:Hid (aa wr F):=Ld l;have G:Hid (ac F gb 5 #[.int .u8 (aL n k:Nat)]):=Ld z;clear l z;refine aj (o:=.mk ..) rfl (λK d=>?_) (.inl rfl);refine ce kB _ (by rfl) (.tmp 40) (.tmp 46) (by rfl) base (.slice A (xs.length+(size-(k+1))) c) (xs.length+(size-(k+1))) _ (by rfl) (m.out.own L.out) (some ⟨gb,0,none⟩) 1 1 [.int .u8 (aL n k:Nat)] (by rfl) (Rd.ofBlk (p:=λ_=>True) G.out 1 1 rfl trivial) (by simp[Value.oneCell']) (by unfold maxLen;omega) (by omega) (Nat.le_trans E.out.base_le m.out.size) ?_;intro A4 d4 w5 B q y;simp only[Act.put,bC,bD,bF];have v:Hid ((Value.slice A (xs.length+(size-(k+1))) c).ownBlock≠some g):=Ld (bm L.out D.out (by decide));have c5:w5.cell? ⟨g,1,none⟩=some (.slice A (xs.length+(size-(k+1))) c):=q.cell_some X (λu=>v.out u);have I:Hid (ac w5 g 168 #[.nilIface,.slice A (xs.length+(size-(k+1))) c]):=Ld ((m.out.blk D.out).fr q (λu=>v.out u));have f5:=I.out.frozen 1;have J:=Ld q;have M:=Ld B;have b':=Ld y;clear q B y;refine d.out _ _ (λ_=>c5) ?_;clear d K
    iterate 2 (refine af (o:=.mk ..) rfl (λK d=>?_);go_simp;refine d _ ?_;clear d K)
    refine aj (o:=.mk ..) rfl (λK d=>?_) (.inl rfl);go_simp;refine d.out _ _ (λh=>absurd rfl h) ?_;clear d K;refine au ?_
    go_wp2_with fail;go_roundw
    case rel=>
     have s:=yW (ys:=[((aL n k:Nat):Int)]) E.out D.out L.out (by rw[List.length_append,List.length_take,aw];omega) m.out J.out M.out rfl (λx hx=>by
      rw[List.mem_singleton]at hx;subst hx;have:=qZ n k
      omega)
     rw[List.append_assoc,<-oY size n k (by omega)]at s;exact⟨k,by omega,rfl,Ld s.1,Ld (U.out.tr s.2)⟩
    case measure=>simp[intOf]
theorem As{base g:Nat}{w:World}{xs:List Int}(h:gp w base g xs)(b:Bool)(hl:xs.length+8<=140737488355328):
    Calls prog 105 #[.pointer (some ⟨g,0,none⟩),.bool b] w λe w'=>e=.returned (.pointer (some ⟨g,0,none⟩))/\gp w' base g (xs++[if b then 1 else 0])/\FW base g w w':=by
 cases b
 ·have c:=Ld (fU h 0 1 (by omega) (by omega) hl);clear h
  go_enter func105,ntmps105
  go_wp2_with fail;refine c.out.mono ?_;rintro e j ⟨rfl,h1,h2⟩;have d:=Ld h1;have i:=Ld h2;clear h1 h2 c
  go_wp2_with fail;go_ret;exact⟨rfl,d.out,i.out⟩
 ·have c:=Ld (fU h 1 1 (by omega) (by omega) hl);clear h
  go_enter func105,ntmps105
  go_wp2_with fail;refine c.out.mono ?_;rintro e j ⟨rfl,h1,h2⟩;have d:=Ld h1;have i:=Ld h2;clear h1 h2 c
  go_wp2_with fail;go_ret;exact⟨rfl,d.out,i.out⟩
theorem qu{base g:Nat}{w:World}{xs:List Int}{p:Nat->Prop}(h:gp w base g xs)(B:Option Addr)(m d:Nat)(ys:List Int)(l:Rd p w 1 B m (an ys))(q:ba ys)(hm:m<=65535)(hl:xs.length+m+8<=140737488355328)(r:∀k,p k->k≠g/\(k<base\/¬aK 5 w k)):
    Calls prog 106 #[.pointer (some ⟨g,0,none⟩),.slice B m d] w λe w'=>e=.returned (.pointer (some ⟨g,0,none⟩))/\gp w' base g (xs++bj 2 m++ys)/\FW base g w w':=by
 have j:=Ld (fU h m 2 (by omega) (by omega) (by omega));have C:=Ld l;have y:=Ld q;have z:=Ld r;clear h l q r
 go_enter func106,ntmps106
 go_wp2_with fail;refine j.out.mono ?_;rintro e E ⟨rfl,h1,h2⟩;have s:=Ld h1;have i:=Ld h2;clear h1 h2 j
 go_wp2_with fail
 refine(mV s.out B m d ys (C.out.fr i.out (λk D c=>by
  have:=z.out k D;rcases c with c|c
  ·exact this.1 c
  ·rcases this.2 with h | h
   ·omega
   ·exact h c.2)) y.out (by rw[List.length_append,aw];omega)).mono ?_
 rintro e F ⟨rfl,h1,h2⟩;have u:=Ld h1;have v:=Ld h2;clear h1 h2
 go_wp2_with fail;go_ret;exact⟨rfl,u.out,i.out.tr v.out⟩
theorem lm{base g:Nat}{w:World}{xs:List Int}(h:gp w base g xs)(hl:xs.length<=140737488355328):
    Calls prog 107 #[.pointer (some ⟨g,0,none⟩)] w λe w'=>(∃A c,e=.returned (.tuple #[.slice A xs.length c,.nilIface])/\w'.ownsRow w.heap.size 5 1 (.slice A xs.length c) xs.length (an xs))/\aa w w':=by
 obtain⟨A,c,j,hO⟩:=h.st;have r:=Ld j;have q:=Ld (it A xs.length c xs w (Rd.own hO rfl) hl);have s:w.cell? ⟨g,0,none⟩=some .nilIface:=j.cell 0;have u:w.cell? ⟨g,1,none⟩=some (.slice A xs.length c):=j.cell 1;clear h j hO
 go_enter func107,ntmps107
 go_wp2_with fail;refine q.out.mono ?_;rintro e v ⟨⟨p,d1,rfl,i⟩,d⟩;have m:=Ld i;have l:=Ld d;clear i d
 go_wp2_with fail;go_ret2;exact⟨⟨p,d1,rfl,m.out⟩,l.out⟩
end Go.Proofs.YtfchcdbfalgdlaaGreatDoor
namespace Go.Proofs.YtfchcdbfalgdlaaGreatDoor
open _root_.Go.Proofs.Tryz
open Go.RowKit Go.Sort
def zN(n:Nat):Nat:=(119-n%64)%64
theorem qD(n:Nat):(n+1+zN n)%64=56/\zN n<64:=by unfold zN;omega
theorem FV{n k:Nat}(h:k<zN n):(n+1+k)%64≠56:=by unfold zN at h;omega
def ej(xs:List Int)(k:Nat):List Int:=xs++[128]++List.replicate k 0
theorem fe(xs:List Int)(k:Nat):(ej xs k).length=xs.length+1+k:=by simp[ej];omega
theorem rM(xs:List Int)(k:Nat):ej xs (k+1)=ej xs k++[0]:=by simp[ej,List.replicate_succ']
theorem lh(xs:List Int):fP xs=ej xs (zN xs.length)++bj 8 (8*xs.length):=rfl
theorem oP(a b:List Int):an (a++b)=an a++an b:=by simp[an]
def uh(w wr:World)(v:Value)(L:List Int):Prop:=wr.ownsRow w.heap.size 5 1 v L.length (an L)/\aa w wr
theorem DT{p:Nat->Prop}(A:Option Addr)(n c:Nat)(xs:List Int)(w:World)(hR:Rd p w 1 A n (an xs))(hn:n<=1000000000):
    Calls prog 166 #[.slice A n c] w λe w'=>(∃A' c',e=.returned (.slice A' (fP xs).length c')/\w'.ownsRow w.heap.size 5 1 (.slice A' (fP xs).length c') (fP xs).length (an (fP xs)))/\aa w w':=by
 have r:Hid (xs.length=n):=Ld (by have:=hR.1;rw[ak]at this;omega);have HC:=Ld (it A n c xs w hR (by omega));have c6:=(qD n).2;have b1:=Ld (qD n).1;obtain⟨z,hz⟩:=nM (zN n);rw[<-hz]at c6 b1;have HZ:=Ld hz;clear hR hz
 go_enter func166,ntmps166
 go_wp2_with fail;refine HC.out.mono ?_;rintro e w1 ⟨⟨A1,d1,rfl,b8⟩,b7⟩;have L:=Ld b8;have Z:=Ld b7;clear b8 b7 HC;have I:Hid (aa w (w1.alloc (.cells #[.int .u8 128] 5))):=Ld (aa.al Z.out _)
 go_wp2_with (refine cE 8 rfl ?_;refine av kB _ rfl (.tmp 6) (.tmp 7) rfl w.heap.size (.slice A1 n d1) n (an xs) rfl (aa.own (aa.al (aa.refl w1) _) L.out) (some ⟨w1.heap.size,0,none⟩) 1 1 [.int .u8 128] rfl (Rd.ofBlk (p:=λ_=>True) (ac.new w1 5 #[.int .u8 128]) 1 1 rfl trivial) (by simp[Value.oneCell']) (by unfold maxLen;omega) (by omega) I.out.size ?_;intro A2 d2 w3 b9 b3 c3;have U:=Ld b3;have b0:=Ld b9;clear b9 b3 c3)
 have b':Hid (aa w w3):=Ld (I.out.fr U.out (λk hk=>(am L.out k hk).1))
 have V:Hid (uh w w3 (.slice A2 (n+1) d2) (ej xs 0)):=Ld ⟨by
  rw[fe,r.out];have e:an (ej xs 0)=an xs++[.int .u8 128]:=by simp[ej,an]
  rw[e]
  exact b0.out,b'.out⟩
 clear L Z I b0 U b'
 go_loopg [3] z (λg v wr=>∃(k N:Nat) (A:Option Addr) (d:Nat),k<=z/\z-k<=g/\Hid (N=n+1+k)/\v=.slice A N d/\Hid (uh w wr (.slice A N d) (ej xs k)))
 case atStart=>exact⟨0,n+1,A2,d2,Nat.zero_le _,by omega,Ld rfl,rfl,V⟩
 case round=>
  clear V;obtain⟨k,N,A3,d3,hk,hg,H,rfl,m⟩:=hrel;have c8:N<=2000000000:=by have:=H.out;omega
  by_cases c5:k<z
  ·have hm:((N:Int)%64==56)=false:=beq_eq_false_iff_ne.2 (by
    have h1:=H.out;have h2:=FV (n:=n) (k:=k) (by rw[<-HZ.out];exact c5)
    omega)
   have c0:((N:Int)%64 != 56)=true:=by simp[bne,hm]
   have s:wr.ownsRow w.heap.size 5 1 (.slice A3 N d3) N (an (ej xs k)):=by
    have:=m.out.1
    rwa[fe,r.out,<-H.out]at this
   have q:=Ld s;clear s
   go_wp2_with (refine cE 15 rfl ?_;refine av kB _ rfl (.tmp 13) (.tmp 14) rfl w.heap.size (.slice A3 N d3) N (an (ej xs k)) rfl (aa.own (aa.al (aa.refl wr) _) q.out) (some ⟨wr.heap.size,0,none⟩) 1 1 [.int .u8 0] rfl (Rd.ofBlk (p:=λ_=>True) (ac.new wr 5 #[.int .u8 0]) 1 1 rfl trivial) (by simp[Value.oneCell']) (by unfold maxLen;omega) (by omega) (aa.al m.out.2 _).size ?_;intro A5 d5 w5 y u R;have E:=Ld u;have O:=Ld y;clear y u R)
   go_roundg (z-(k+1))
   case measure=>omega
   case rel=>
    refine⟨k+1,N+1,A5,d5,by omega,by omega,Ld (by have:=H.out;omega),rfl,Ld ⟨?_,(aa.al m.out.2 _).fr E.out (λj hj=>(am q.out j hj).1)⟩⟩;rw[fe,r.out,rM,oP,show n+1+(k+1)=N+1 by have:=H.out;omega];exact O.out
  ·obtain rfl:z=k:=by omega
   have hm:((N:Int)%64==56)=true:=beq_iff_eq.2 (by
    have h1:=H.out;have h2:=b1.out
    omega)
   have c0:((N:Int)%64 != 56)=false:=by simp[bne,hm]
   have Y:Hid (uh w wr (.slice A3 N d3) (ej xs z++(bj 8 (8*n)).take (8-8))):=Ld (by simpa using m.out);have J:Hid ((ej xs z).length=N):=Ld (by rw[fe,r.out,H.out]);clear m
   go_wp2_with fail;clear hm c0
   go_loopw [3,4] (λv i wr=>∃(j:Nat) (A:Option Addr) (d:Nat),j<=8/\i=.int .i64 (8*(j:Int)-8)/\v=.slice A (N+(8-j)) d/\Hid (uh w wr (.slice A (N+(8-j)) d) (ej xs z++(bj 8 (8*n)).take (8-j)))) (λ_ i _=>(intOf i+8).toNat)
   case atStart=>exact⟨8,A3,d3,Nat.le_refl _,rfl,rfl,Y⟩
   case round=>
    clear Y;obtain⟨j,A6,d6,hj,rfl,rfl,m⟩:=hrel;rcases Nat.eq_zero_or_pos j with h0|h0
    ·subst h0
     have C:(ej xs z++(bj 8 (8*n)).take (8-0))=fP xs:=by
      rw[lh,r.out,<-HZ.out,Nat.sub_zero,List.take_of_length_le (by rw[aw];exact Nat.le_refl _)]
     have F:=m.out;rw[C]at F;have B:(fP xs).length=N+8:=by rw[lh,List.length_append,aw,r.out,<-HZ.out,J.out]
     have X:=Ld F;have B:=Ld B;clear m F C
     go_wp2_with fail;go_ret;rw[B.out];have:=X.out.1;rw[B.out]at this;exact⟨⟨A6,d6,rfl,this⟩,X.out.2⟩
    ·obtain⟨k,rfl⟩:∃k,j=k+1:=⟨j-1,by omega⟩
     have hk:(8*((k+1:Nat):Int)-8)=8*(k:Int):=by omega
     rw[hk];obtain⟨M,hM⟩:=nM (N+(8-(k+1)));rw[<-hM]at m⊢;have G:=Ld hM;have c7:M<=2000000010:=by omega
     have D:(ej xs z++(bj 8 (8*n)).take (8-(k+1))).length=M:=by
      rw[List.length_append,List.length_take,aw,J.out];omega
     have s:=m.out.1;rw[D]at s;have q:=Ld s;obtain⟨l,T⟩:=nM (8*n);rw[<-T]at m q;have c1:=Ld T;have kD:=mO l k
     have c9:IntKind.u8.wrap ((l:Int)/256^k)=((aL l k:Nat):Int):=by
      rw[show(l:Int)/256^k=((l/256^k:Nat):Int)from by simp,eU];rfl
     have hv:((8:Int)*(n:Int))=(l:Int):=by omega
     have g3:IntKind.u64.wrap (l:Int)=(l:Int):=by rw[IntKind.wrap_u64];omega
     clear T;have d':(0:Int)<=8*(k:Int):=by omega
     have c4:8*(k:Int)<64:=by omega
     have f':8*(k:Int)<=56:=by omega
     clear hk s D hM
     go_wp2_with (refine cE 29 rfl ?_;refine av kB _ rfl (.tmp 20) (.tmp 28) rfl w.heap.size (.slice A6 M d6) M (an (ej xs z++(bj 8 l).take (8-(k+1)))) rfl (aa.own (aa.al (aa.refl wr) _) q.out) (some ⟨wr.heap.size,0,none⟩) 1 1 [.int .u8 (aL l k:Nat)] rfl (Rd.ofBlk (p:=λ_=>True) (ac.new wr 5 #[.int .u8 (aL l k:Nat)]) 1 1 rfl trivial) (by simp[Value.oneCell']) (by unfold maxLen;omega) (by omega) (aa.al m.out.2 _).size ?_;intro A5 d5 w5 y u R;have E:=Ld u;have O:=Ld y;clear y u R)
     go_roundw
     case rel=>
      refine⟨k,A5,d5,by omega,rfl,?_,Ld ⟨?_,(aa.al m.out.2 _).fr E.out (λj hj=>(am q.out j hj).1)⟩⟩
      ·congr 1
       have:=G.out;omega
      ·have h1:=O.out
       have e1:(ej xs z++(bj 8 l).take (8-k)).length=M+1:=by
        rw[List.length_append,List.length_take,aw,J.out];have:=G.out;omega
       have e2:an (ej xs z++(bj 8 l).take (8-k))=an (ej xs z++(bj 8 l).take (8-(k+1)))++[.int .u8 (aL l k:Nat)]:=by
        rw[oY 8 l k (by omega),<-List.append_assoc,oP (ej xs z++_)];rfl
       rw[<-c1.out,e1,e2,show N+(8-k)=M+1 by have:=G.out;omega];exact h1
     case measure=>simp[intOf];omega
theorem Cq{p:Nat->Prop}(A:Option Addr)(n c:Nat)(xs:List Int)(w:World)(hR:Rd p w 1 A n (an xs))(hn:n<=1000000000):
    Calls prog 164 #[.slice A n c] w λe w'=>(∃A' c',e=.returned (.slice A' (fP xs).length c')/\w'.ownsRow w.heap.size 5 1 (.slice A' (fP xs).length c') (fP xs).length (an (fP xs)))/\aa w w':=by
 have m:Hid (xs.length=n):=Ld (by have:=hR.1;rw[ak]at this;omega);have HR:=Ld hR;have g6:=(qD n).2;obtain⟨z,hz⟩:=nM (zN n);rw[<-hz]at g6;have HZ:=Ld hz;obtain⟨r,hr⟩:=nM (n%64);have f':(n:Int)%64=(r:Int):=by omega
 have g3:(119-(r:Int))%64=(z:Int):=by rw[hz];unfold zN;omega
 have g4:(r:Int)<64:=by omega
 have d':(0:Int)<=(r:Int):=by omega
 clear hR hz hr
 go_enter func164,ntmps164
 go_wp2_with (first
  |(refine cE 15 rfl ?_;refine av kB _ rfl (.tmp 13) (.tmp 14) rfl w.heap.size (.slice (some ⟨w.heap.size,0,none⟩) 0 0) 0 [] rfl (dQ (ac.new w 5 #[]) (Nat.le_refl _)) A n c (an xs) rfl (aa.rd (aa.al (aa.refl w) _) HR.out) (aR xs) (by unfold maxLen;omega) (by omega) (by simp) ?_;intro A1 d1 w1 X b9 c6;rw[Nat.zero_add];rw[Nat.zero_add,List.nil_append]at X;have T:=Ld X;have b3:Hid (aa w w1):=Ld ((aa.al (aa.refl w) _).fr b9 (by intro k F;simp[Value.ownBlock]at F;omega));clear X b9 c6;have O:Hid (aa w (w1.alloc (.cells #[.int .u8 128] 5))):=Ld (aa.al b3.out _))
  |(refine cE 18 rfl ?_;refine av kB _ rfl (.tmp 16) (.tmp 17) rfl w.heap.size (.slice A1 n d1) n (an xs) rfl (aa.own (aa.al (aa.refl w1) _) T.out) (some ⟨w1.heap.size,0,none⟩) 1 1 [.int .u8 128] rfl (Rd.ofBlk (p:=λ_=>True) (ac.new w1 5 #[.int .u8 128]) 1 1 rfl trivial) (by simp[Value.oneCell']) (by unfold maxLen;omega) (by omega) O.out.size ?_;intro A2 d2 w3 c3 c0 c7;have Y:=Ld c0;have b8:=Ld c3;clear c3 c0 c7))
 have b7:Hid (aa w w3):=Ld (O.out.fr Y.out (λk F=>(am T.out k F).1))
 have b':Hid (uh w w3 (.slice A2 (n+1+0) d2) (ej xs 0)):=Ld ⟨by
  rw[fe,m.out];have e:an (ej xs 0)=an xs++[.int .u8 128]:=by simp[ej,an]
  rw[e]
  exact b8.out,b7.out⟩
 clear T b3 O b8 Y b7 HR f' g3 g4 d'
 go_loopw [4,5] (λv i wr=>∃(k:Nat) (A:Option Addr) (d:Nat),k<=z/\i=.int .i64 k/\v=.slice A (n+1+k) d/\Hid (uh w wr (.slice A (n+1+k) d) (ej xs k))) (λ_ i _=>z-(intOf i).toNat)
 case atStart=>exact⟨0,A2,d2,Nat.zero_le _,rfl,rfl,b'⟩
 case round=>
  clear b';obtain⟨k,A3,d3,F,rfl,rfl,s⟩:=hrel;have c4:(0:Int)<=(k:Int):=by omega
  by_cases c9:k<z
  ·obtain ⟨N,D⟩:=nM (n+1+k);have c8:N<=2000000000:=by omega
   have q:wr.ownsRow w.heap.size 5 1 (.slice A3 N d3) N (an (ej xs k)):=by
    have:=s.out.1
    rwa[fe,m.out,<-D]at this
   have u:=Ld q;rw[<-D];have c5:=Ld D;clear q D
   go_wp2_with (refine cE 26 rfl ?_;refine av kB _ rfl (.tmp 24) (.tmp 25) rfl w.heap.size (.slice A3 N d3) N (an (ej xs k)) rfl (aa.own (aa.al (aa.refl wr) _) u.out) (some ⟨wr.heap.size,0,none⟩) 1 1 [.int .u8 0] rfl (Rd.ofBlk (p:=λ_=>True) (ac.new wr 5 #[.int .u8 0]) 1 1 rfl trivial) (by simp[Value.oneCell']) (by unfold maxLen;omega) (by omega) (aa.al s.out.2 _).size ?_;intro A5 d5 w5 B y V;have H:=Ld y;have U:=Ld B;clear B y V)
   go_roundw
   case measure=>simp[intOf];omega
   case rel=>
    have c1:n+1+(k+1)=N+1:=by have:=c5.out;omega
    refine⟨k+1,A5,d5,by omega,by go_num,by rw[c1],Ld ⟨?_,(aa.al s.out.2 _).fr H.out (λj hj=>(am u.out j hj).1)⟩⟩;rw[fe,m.out,rM,oP,c1];exact U.out
  ·obtain ⟨N,D⟩:=nM (n+1+k);have c8:N<=2000000000:=by omega
   have b0:Hid (k=z):=Ld (by omega);rw[<-D]
   have J:Hid (uh w wr (.slice A3 N d3) (ej xs z++(bj 8 (8*n)).take (8-8))):=Ld (by
    have:=s.out;rw[<-D,b0.out]at this
    simpa using this)
   have R:Hid ((ej xs z).length=N):=Ld (by rw[fe,m.out,D,b0.out]);obtain⟨l,E⟩:=nM (8*n);rw[<-E]at J;have g7:=Ld E;have hv:((n:Int)*8)=(l:Int):=by omega
   have g5:IntKind.u64.wrap (l:Int)=(l:Int):=by rw[IntKind.wrap_u64];omega
   have Z:Hid (ej xs z++(bj 8 l).take (8-0)=fP xs):=Ld (by
    rw[lh,m.out,<-HZ.out,E,Nat.sub_zero,List.take_of_length_le (by rw[aw];exact Nat.le_refl _)])
   clear s D E
   go_wp2_with fail;clear hv g5 c9 F c4
   go_loopw [4,7] (λv i wr=>∃(j:Nat) (A:Option Addr) (d:Nat),j<=8/\i=.int .i64 ((j:Int)-1)/\v=.slice A (N+(8-j)) d/\Hid (uh w wr (.slice A (N+(8-j)) d) (ej xs z++(bj 8 l).take (8-j)))) (λ_ i _=>(intOf i+1).toNat)
   case atStart=>exact⟨8,A3,d3,Nat.le_refl _,rfl,rfl,J⟩
   case round=>
    clear J;obtain⟨j,A6,d6,hj,rfl,rfl,s⟩:=hrel;rcases Nat.eq_zero_or_pos j with h0|h0
    ·subst h0;have I:=s.out;rw [Z.out] at I;have C:(fP xs).length=N+8:=by rw [lh,List.length_append,aw,m.out,<-HZ.out,R.out]
     have b1:=Ld I;have C:=Ld C;clear s I Z
     go_wp2_with fail;go_ret;rw[C.out];have:=b1.out.1;rw[C.out]at this;exact⟨⟨A6,d6,rfl,this⟩,b1.out.2⟩
    ·obtain⟨k,rfl⟩:∃k,j=k+1:=⟨j-1,by omega⟩
     have F:(((k+1:Nat):Int)-1)=(k:Int):=by omega
     rw[F];obtain⟨M,hM⟩:=nM (N+(8-(k+1)));rw[<-hM]at s⊢;have L:=Ld hM;have g8:M<=2000000010:=by omega
     have G:(ej xs z++(bj 8 l).take (8-(k+1))).length=M:=by
      rw[List.length_append,List.length_take,aw,R.out];omega
     have q:=s.out.1;rw[G]at q;have u:=Ld q;have kD:=mO l k
     have g9:IntKind.u8.wrap ((l:Int)/256^k)=((aL l k:Nat):Int):=by
      rw[show(l:Int)/256^k=((l/256^k:Nat):Int)from by simp,eU];rfl
     have c4:(0:Int)<=8*(k:Int):=by omega
     have i':8*(k:Int)<=56:=by omega
     have i0:(0:Int)<=(k:Int):=by omega
     clear F q G hM
     go_wp2_with (refine cE 43 rfl ?_;refine av kB _ rfl (.tmp 35) (.tmp 42) rfl w.heap.size (.slice A6 M d6) M (an (ej xs z++(bj 8 l).take (8-(k+1)))) rfl (aa.own (aa.al (aa.refl wr) _) u.out) (some ⟨wr.heap.size,0,none⟩) 1 1 [.int .u8 (aL l k:Nat)] rfl (Rd.ofBlk (p:=λ_=>True) (ac.new wr 5 #[.int .u8 (aL l k:Nat)]) 1 1 rfl trivial) (by simp[Value.oneCell']) (by unfold maxLen;omega) (by omega) (aa.al s.out.2 _).size ?_;intro A5 d5 w5 B y V;have H:=Ld y;have U:=Ld B;clear B y V)
     go_roundw
     case rel=>
      refine⟨k,A5,d5,by omega,rfl,?_,Ld ⟨?_,(aa.al s.out.2 _).fr H.out (λj hj=>(am u.out j hj).1)⟩⟩
      ·congr 1
       have:=L.out;omega
      ·have h1:=U.out
       have e1:(ej xs z++(bj 8 l).take (8-k)).length=M+1:=by
        rw[List.length_append,List.length_take,aw,R.out];have:=L.out;omega
       have e2:an (ej xs z++(bj 8 l).take (8-k))=an (ej xs z++(bj 8 l).take (8-(k+1)))++[.int .u8 (aL l k:Nat)]:=by
        rw[oY 8 l k (by omega),<-List.append_assoc,oP (ej xs z++_)];rfl
       rw[e1,e2,show N+(8-k)=M+1 by have:=L.out;omega];exact h1
     case measure=>simp[intOf]
section
variable {P:Program}{md:Region.Mode}{ops:Array Oper}{Q:Exit->Act->World->Prop}{S:World->Prop}{last n:Nat}
theorem Oper.wide_of{o:Oper}{a:Act}{w:World}{K:Act->World->Prop}(h:o.wp P a w K Q):o.wpIn Fence.wide n P a w K Q:=by
 unfold Oper.wp at h;refine⟨λ_ _=>trivial,?_⟩;show o.uponIn Fence.wide n P a K Q ((execOp a.eval o).run P w);generalize (execOp a.eval o).run P w=r at*
 cases r with
 |ok x w'=>
  cases x<;>simp only[Oper.upon,Oper.uponIn]at h⊢<;>
   first
    |exact h
    |exact⟨λh=>by simp[Fence.wide]at h,callsIn_wide.2 h⟩
    | exact ⟨λh => by simp [Fence.wide] at h, λc cs _ => by
        obtain⟨v,w',r,s⟩:=h c cs
        exact⟨v,w',r,stepsIn_wide.2 s⟩⟩
 |halt x w'=>cases x<;>simp only[Oper.upon,Oper.uponIn]at h⊢<;>exact h
theorem qy(d:¬LetsOut Q):∀(c:Nat) (listed:Array Bool) (a:Act) (w:World),wpAny P md ops Q c listed a w->wpAnyIn Fence.wide n P md ops Q c listed a w
 | 0,_,_,_,h=>h
 | c + 1, listed, a, w, h => ⟨h.1, λi hi => by
     have h1:=wpOp_mono (λa w=>qy d c _ a w) (h.2 i hi);unfold wpOp at h1;unfold wpOpIn
     cases ho:ops[i]? with
     |none=>simpa[ho]using h1
     |some o=>
      simp only[ho]at h1⊢
      by_cases j:Region.wanted o (yielded ops a.tmps)=true
      ·rw [if_pos j] at h1 ⊢;rcases h1 with h1 | h1
       ·exact Oper.wide_of h1
       ·exact absurd h1.2 d
      ·rw[if_neg j]at h1⊢
       exact⟨λ_ _=>trivial,h1⟩⟩
def jc(Q:Exit->Act->World->Prop)(e:Exit)(a:Act)(w:World):Prop:=match e with| .panic _=>False| .outgrown=>False|e=>Q e a w
theorem jc.imp{Q:Exit->Act->World->Prop}(e:Exit)(a:Act)(w:World)(h:jc Q e a w):Q e a w:=by
 cases e<;>first|exact h|exact h.elim
theorem jc.not:¬LetsOut (jc Q):=λ⟨_,_,h⟩=>h
theorem kT{id:Nat}{a:Act}{w:World}{l:List Oper}(r:Nat)(hm:P.follows .mixedOrders=true)(hd:l.all iM=true)
    (h:wpAny P .any l.toArray (jc Q) l.toArray.size (Array.replicate l.toArray.size false) a w.drew):(Code.region id l.toArray true).wpIn (Fence.wide.inRound r) n P Q a w:=by
 refine wpIn_mono (Q:=jc Q) (wpIn_region_any hm (gD r rfl ?_ _ _ _ _ (qy jc.not _ _ _ _ h))) jc.imp;intro i o d;have c:l[i]?=some o:=by simpa using d
 exact List.all_eq_true.1 hd o (List.mem_of_getElem? c)
theorem nL{id:Nat}{a:Act}{w:World}{l:List Oper}(r:Nat)(S:World->Prop)(c:List (Bool×Nat))(hm:P.follows .mixedOrders=true)
    (d:(l.all iM&&Region.noSelect l.toArray&&decide (c.length=l.toArray.size)&&lC .any l.toArray c (Array.replicate l.toArray.size false))=true) (hS:S w.drew)
    (h:Nonempty (HW S)->dc P l.toArray S l.toArray.size (jc Q) c a w.drew):(Code.region id l.toArray true).wpIn (Fence.wide.inRound r) n P Q a w:=by
 simp only[Bool.and_eq_true,decide_eq_true_eq]at d;obtain⟨⟨⟨h0,h1⟩,h2⟩,i⟩:=d;refine kT r hm h0 (wpAny_of_held (S:=S) _ _ _ _ ?_);have:=ey (Q:=jc Q) rfl h1 (λ_ _ _ _ _ h=>h) c _ _ _ i hS (h ⟨⟨_,hS⟩⟩)
 rwa[h2]at this
theorem gL{id:Nat}{a:Act}{w:World}{l:List Oper}(r:Nat)(S:World->Prop)(last:Nat)(c:List (Bool×Nat))(hm:P.follows .mixedOrders=true)
    (d:(l.all iM&&Region.noSelect l.toArray&&decide (c.length=l.toArray.size)&&uG .any l.toArray last c (Array.replicate l.toArray.size false))=true) (hS:S w.drew)
    (h:Nonempty (HW S)->dc P l.toArray S last (jc Q) c a w.drew):(Code.region id l.toArray true).wpIn (Fence.wide.inRound r) n P Q a w:=by
 simp only[Bool.and_eq_true,decide_eq_true_eq]at d;obtain⟨⟨⟨h0,h1⟩,h2⟩,i⟩:=d;refine kT r hm h0 (ma (S:=S) (last:=last) _ _ _ _ ?_);have:=ez (Q:=jc Q) h1 (λ_ _ _ _ _ h=>h) c _ _ _ i (λ_=>hS) (h ⟨⟨_,hS⟩⟩)
 rwa[h2]at this
theorem jF{a:Act}{w:World}(h:Q .normal a w):dc P ops S last (jc Q) [] a w:=h
end
end Go.Proofs.YtfchcdbfalgdlaaGreatDoor
namespace Go.Proofs.YtfchcdbfalgdlaaGreatDoor
open _root_.Go.Proofs.Tryz
open Go.RowKit Go.Maps Go.Sort
attribute [local go_sem] Oper.semAt_some
theorem rh(A:Option Addr)(n c:Nat)(size:Nat)(h1:1<=size)(i:size<=1000)(w:World):
    Calls prog 159 #[.slice A n c,.int .i64 (size:Int)] w λe w'=>e=.returned (.func (.func 169) #[] #[.pointer (some ⟨w.heap.size,0,none⟩),.pointer (some ⟨w.heap.size+1,0,none⟩)])/\w'=(w.alloc (.cells #[.slice A n c] 33)).alloc (.cells #[.int .i64 (size:Int)] 3):=by
 have d:¬((size:Int)<1):=by omega
 go_enter func159,ntmps159
 go_wp2_with fail;go_ret;exact⟨rfl,rfl⟩
def sK(N size:Nat):Nat:=(N+size-1)/size
theorem nh{N size k:Nat}(h:1<=size):k<sK N size↔k*size<N:=by
 unfold sK;rw[Nat.lt_div_iff_mul_lt (by omega)];omega
def vM(g o N size k:Nat):Value:=.slice (some ⟨g,o+k*size,none⟩) (min size (N-k*size)) (min size (N-k*size))
def sy(x y:Nat)(W c:World):Prop:=c.heap[x]?=W.heap[x]? /\c.heap[y]?=W.heap[y]?
theorem sy.tr{x y:Nat}{A B C:World}(h:sy x y A B)(k:sy x y B C):sy x y A C:=⟨k.1.trans h.1,k.2.trans h.2⟩
theorem sy.puts{x y b:Nat}{W c:World}(d:eN b W c)(i:x<b)(j:y<b):sy x y W c:=by
 obtain⟨l,o,o',hl,-,-,rfl⟩:=d;exact⟨World.putObj_heap_other (by omega),World.putObj_heap_other (by omega)⟩
theorem sy.fr{x y:Nat}{S:Nat->Prop}{W c:World}(d:Fr S W c)(i:x<W.heap.size/\¬S x)(j:y<W.heap.size/\¬S y):sy x y W c:=⟨d.block x i.1 i.2,d.block y j.1 j.2⟩
theorem sL(g o N c size p d:Nat)(w:World)(X:ac w p 33 #[.slice (some ⟨g,o,none⟩) N c])(Y:ac w d 3 #[.int .i64 (size:Int)])(h1:1<=size)(hs:size<=1000)(hN:N<=1000000000)(hc:N<=c)(b3:c<=maxLen):
    vR (λpre k=>k=pre.length) prog 169 #[.pointer (some ⟨p,0,none⟩),.pointer (some ⟨d,0,none⟩)] (λk:Nat=> #[vM g o N size k]) (λ_ _=>True) (sy p d) (λxs=>xs=List.range (sK N size)) (sK N size) w:=by
 intro l J W hW hJ hY h0;refine callsIn_wide.2 ?_;have HB:Hid (ac W p 33 #[.slice (some ⟨g,o,none⟩) N c]/\ac W d 3 #[.int .i64 (size:Int)]):=Ld ⟨hW.blk X,hW.blk Y⟩;have HY:=Ld hY;have HJ:=Ld hJ;have H0:=Ld h0;clear hY hJ hW X Y h0;show Calls prog 169 #[.func (.yield l) #[] #[],.pointer (some ⟨p,0,none⟩),.pointer (some ⟨d,0,none⟩)] W _;unfold maxLen at b3
 go_enter func169,ntmps169
 go_wp2_with fail;go_loopw [4] (λix wr=>∃(k i:Nat),k<=sK N size/\Hid (i=k*size)/\ix=.int .i64 i/\i<=N+1000/\Hid (J (List.range k) wr)/\Hid (ac wr p 33 #[.slice (some ⟨g,o,none⟩) N c]/\ac wr d 3 #[.int .i64 (size:Int)])) (λix _=>(N:Int).toNat+1000-(intOf ix).toNat)
 case atStart=>exact⟨0,0,Nat.zero_le _,Ld (by omega),rfl,by omega,H0,HB⟩
 case round=>
  clear H0 HB;obtain⟨k,i,hk,R,rfl,hi,H,v⟩:=hrel;have U:wr.cell? ⟨p,0,none⟩=some (.slice (some ⟨g,o,none⟩) N c):=v.out.1.cell 0;have c2:wr.cell? ⟨d,0,none⟩=some (.int .i64 (size:Int)):=v.out.2.cell 0;have c0:(0:Int)<=(i:Int):=by omega
  by_cases b9:i<N
  ·have C:Hid (k<sK N size):=Ld ((nh h1).2 (by rw [<-R.out];exact b9));have c':¬c=i:=by omega
   have c3:i<=N:=by omega
   obtain⟨r,hr⟩:=nM (N-i);have c4:N-i=r:=hr.symm;have b':i+r=N:=by omega
   have q1:=cell_regrown U;have q2:=cell_regrown c2
   by_cases c5:size<=r
   ·obtain ⟨j,hj⟩:=nM (i+size);have d1:(size:Int)<=(r:Int):=by omega
    have d2:¬((r:Int)<(size:Int)):=by omega
    have e1:(i:Int)+(size:Int)=(j:Int):=by omega
    have e2:j-i=size:=by omega
    have e3:¬j=i:=by omega
    have e4:i<=j:=by omega
    have e5:(j:Int)<=(c:Int):=by omega
    have E:Hid (vM g o N size k=.slice (some ⟨g,o+i,none⟩) size size):=Ld (by unfold vM;rw[<-R.out,Nat.min_eq_left (by omega)]);have b7:j<=N:=by omega
    have G:Hid (j=(k+1)*size):=Ld (by rw[hj,R.out,Nat.succ_mul]);clear hj hr b'
    go_wp2_with fail;refine wp_region_quiet_below (by kernel_rfl) (by kernel_rfl) ?_
    repeat(quiet_step (fail))
    refine wpQuiet_nil ?_;intro _ M;obtain⟨⟨V,B⟩,q⟩:=M;obtain⟨D,u⟩:=nM (grow (redrawn wr V) B);have m:Hid (aa wr D):=Ld (by rw[u];exact below_regrown _ V B);rw[q,<-u];clear q u q1 q2;have I:D.cell? ⟨p,0,none⟩=some (.slice (some ⟨g,o,none⟩) N c):=m.out.cell_ U;have L:D.cell? ⟨d,0,none⟩=some (.int .i64 (size:Int)):=m.out.cell_ c2;clear U c2
    go_upto_region 4 with fail;refine(wpIn_wide (n:=3)).1 ?_;obtain⟨fn,tmps,b0,bo,hy,Z⟩:=HY.out (List.range k) k D (by rw[List.length_range];exact C.out) (HJ.out _ _ _ H.out m.out) trivial (by rw[List.length_range]);rw[E.out]at hy;have T:=Ld Z;clear Z
    gi_wp2
    refine T.out.mono ?_;rintro e O ⟨rfl,z,s⟩;have F:=Ld z;have y:Hid (ac O p 33 #[.slice (some ⟨g,o,none⟩) N c]/\ac O d 3 #[.int .i64 (size:Int)]):=Ld ⟨s.1.trans (m.out.blk v.out.1),s.2.trans (m.out.blk v.out.2)⟩;have b1:O.cell? ⟨d,0,none⟩=some (.int .i64 (size:Int)):=y.out.2.cell 0;clear z s T hy I L
    gi_wp2
    try go_wp2_with fail
    go_roundw
    case rel=>exact⟨k+1,j,C.out,G,rfl,by omega,Ld (by rw[List.range_succ];exact F.out),y⟩
    case measure=>simp[intOf];omega
   ·obtain ⟨j,hj⟩:=nM (i+size);have d1:¬(size:Int)<=(r:Int):=by omega
    have d2:(r:Int)<(size:Int):=by omega
    have e1:(i:Int)+(size:Int)=(j:Int):=by omega
    have e2:(i:Int)+(r:Int)=(N:Int):=by omega
    have e3:¬N=i:=by omega
    have e5:(N:Int)<=(c:Int):=by omega
    have E:Hid (vM g o N size k=.slice (some ⟨g,o+i,none⟩) r r):=Ld (by unfold vM;rw[<-R.out,<-hr,Nat.min_eq_right (by omega)]);have b7:j<=N+1000:=by omega
    have G:Hid (j=(k+1)*size):=Ld (by rw[hj,R.out,Nat.succ_mul]);clear hj hr b'
    go_wp2_with fail;refine wp_region_quiet_below (by kernel_rfl) (by kernel_rfl) ?_
    repeat(quiet_step (fail))
    refine wpQuiet_nil ?_;intro _ M;obtain⟨⟨V,B⟩,q⟩:=M;obtain⟨D,u⟩:=nM (grow (redrawn wr V) B);have m:Hid (aa wr D):=Ld (by rw[u];exact below_regrown _ V B);rw[q,<-u];clear q u q1 q2;have I:D.cell? ⟨p,0,none⟩=some (.slice (some ⟨g,o,none⟩) N c):=m.out.cell_ U;have L:D.cell? ⟨d,0,none⟩=some (.int .i64 (size:Int)):=m.out.cell_ c2;clear U c2
    go_upto_region 4 with fail;refine(wpIn_wide (n:=3)).1 ?_;obtain⟨fn,tmps,b0,bo,hy,Z⟩:=HY.out (List.range k) k D (by rw[List.length_range];exact C.out) (HJ.out _ _ _ H.out m.out) trivial (by rw[List.length_range]);rw[E.out]at hy;have T:=Ld Z;clear Z
    gi_wp2
    refine T.out.mono ?_;rintro e O ⟨rfl,z,s⟩;have F:=Ld z;have y:Hid (ac O p 33 #[.slice (some ⟨g,o,none⟩) N c]/\ac O d 3 #[.int .i64 (size:Int)]):=Ld ⟨s.1.trans (m.out.blk v.out.1),s.2.trans (m.out.blk v.out.2)⟩;have b1:O.cell? ⟨d,0,none⟩=some (.int .i64 (size:Int)):=y.out.2.cell 0;clear z s T hy I L
    gi_wp2
    try go_wp2_with fail
    go_roundw
    case rel=>exact⟨k+1,j,C.out,G,rfl,by omega,Ld (by rw[List.range_succ];exact F.out),y⟩
    case measure=>simp[intOf];omega
  ·have b8:k=sK N size:=by
    rcases Nat.lt_or_ge k (sK N size)with h|h
    ·have:=(nh (N:=N) h1).1 h;rw[<-R.out]at this;omega
    ·omega
   subst b8
   go_wp2_with fail;go_end0
   exact⟨⟨_,rfl⟩,_,rfl,H.out⟩
end Go.Proofs.YtfchcdbfalgdlaaGreatDoor
namespace Go.Proofs.YtfchcdbfalgdlaaGreatDoor
open _root_.Go.Proofs.Tryz
open Go.RowKit
section
variable {P:Program}{ops:Array Oper}{Q:Exit->Act->World->Prop}{S:World->Prop}{last:Nat}
theorem bM{i:Nat}{o:Oper}{j:List (Bool×Nat)}{a:Act}{w:World}{T:TypeId}{d:TypeDesc}{b off:Nat}{cs:List Value}(m:ops[i]?=some o)(q:Region.wanted o (yielded ops a.tmps)=true)(x:Operand)(c:o.op=.load T x)(r:a.eval x=.pointer (some ⟨b,off,none⟩))
    (l:∀w',S w'->w'.rangeAt b off cs) (hu:P.underlying T=some d) (hd:d.isRow=true) (hi:(P.info? T).map (·.size)=some cs.length)
    (h:dc P ops S last Q j (a.put o.dst (.agg cs.toArray)) w):dc P ops S last Q ((true,i)::j) a w:=
 ⟨o,m,by
  rw[if_pos q];refine⟨_,λp=>?_,h⟩;unfold execOp
  simp only[c,r,Instr.loadAt,Instr.sureAddr,Sem.run_bind,Sem.run_pure,Result.andThen_ok,run_loadVar_mid p.w b off T cs d (l _ p.h) hu hd hi]⟩
theorem tu{i:Nat}{o:Oper}{d:List (Bool×Nat)}{a:Act}{w:World}{T e:TypeId}{n len cap:Nat}{A:Option Addr}(l:ops[i]?=some o)(q:Region.wanted o (yielded ops a.tmps)=true)(x:Operand)(c:o.op=.sliceToArrayPointer T x)(r:a.eval x=.slice A len cap)
    (hu:P.underlying T=some (.array n e)) (j:n<=len)
    (h:dc P ops S last Q d (a.put o.dst (.pointer A)) w):dc P ops S last Q ((true,i)::d) a w:=
 ⟨o,l,by
  rw[if_pos q];refine⟨_,λp=>?_,h⟩;unfold execOp;have m:=run_arrayAt (P:=P) (w:=p.w) T e n A len cap hu j
  simp only[c,r,Sem.run_bind,m,Result.andThen_ok,Sem.run_pure]⟩
end
theorem eV{P:Program}{w:World}{ops:Array Oper}{rest:List Oper}{o:Oper}{a:Act}{Q:Exit->Act->World->Prop}(r:o.guard=none)(d s:Operand)(B F:TypeId)
    (J:o.op=.call {callee:=.builtin .copy,args:= #[d,s],argTypes:= #[B,F]}) (elem:TypeId) (hu:P.underlying B=some (.slice elem)) (y:(P.info? elem).map (·.size)=some 1)
    (g off c l:Nat) (G:Option Addr) (i m:Nat) (hd:a.eval d=.slice (some ⟨g,off,none⟩) c l) (L:a.eval s=.slice G i m)
    (cur:List Value) (t:TypeId) (C:ac w g t cur.toArray) (cs:List Value) (I:cs.length=Nat.min i c) {q:Nat->Prop}
    (u:∃n xs,Rd q w 1 G n xs/\xs.take cs.length=cs) (p:off+cs.length<=cur.length) (h1:∀v∈cs,v.oneCell'=true)
    (h:∀w',ac w' g t (splice cur off cs).toArray->Fr (λk=>k=g) w w'->wpList P ops Q rest (a.put o.dst (goInt cs.length)) w'):wpList P ops Q (o::rest) a w:=by
 by_cases h0:cs.length=0
 ·obtain rfl:cs=[]:=List.eq_nil_of_length_eq_zero h0;refine wpList_copy_nothing r d s B F J elem hu y (some ⟨g,off,none⟩) G c l i m hd L (by simpa using I.symm) ?_;exact h w (by simpa[splice]using C) (Fr.refl _ _)
 ·obtain⟨n,xs,H,z⟩:=u
  have D:0<n:=by
   have h2:=H.1;have N:=congrArg List.length z;rw[List.length_take]at N;omega
  obtain⟨M,rfl,-,-,O⟩:=H.2 D;refine wpList_copy_own r d s B F J elem hu y g off c l M i m hd L cur.toArray t C cs I (λj v E=>O j v ?_) (by simpa using p) h1 ?_
  ·have R:=(List.getElem?_eq_some_iff.1 E).1;rw[<-z,List.getElem?_take_of_lt R]at E;exact E
  ·obtain⟨T,U⟩:=eJ (cs':=(cur.toArray.toList.take off++(cs++cur.toArray.toList.drop (off+cs.length))).toArray) C;exact h _ (by simpa[splice]using T) U
theorem ac.rangeOf{w:World}{T:TypeId}{g:Nat}{cs:Array Value}(c:ac w g T cs):w.rangeAt g 0 cs.toList:=λj v d=>by
 rw[c.cell,Nat.zero_add]
 simpa using d
end Go.Proofs.YtfchcdbfalgdlaaGreatDoor
namespace Go.Proofs.YtfchcdbfalgdlaaGreatDoor
open _root_.Go.Proofs.Tryz
open Go.RowKit Go.Sort
attribute [local go_sem] Oper.semAt_some
structure dC(gk gi:Nat)(w:World):Prop where
 k:∀t,t<64->w.cell? ⟨gk,t,none⟩=some (.int .u32 (at_ kL t))
 i:w.rangeAt gi 0 iH.arr.toList
theorem dC.new{gk c:Nat}{w w':World}(h:dC gk c w)(d:aa w w'):dC gk c w':=⟨λt ht=>d.cell_ (h.k t ht),λj v i=>d.cell_ (h.i j v i)⟩
theorem dC.lt{gk c:Nat}{w:World}(h:dC gk c w):gk<w.heap.size/\c<w.heap.size:=⟨World.block_lt_of_cell? w _ (h.k 0 (by decide)),World.block_lt_of_cell? w _ (h.i 0 _ rfl)⟩
def EH(c:Nat)(d:World)(p:List Int)(s:List Nat)(W:World):Prop:=Fr (λj=>j=c\/d.heap.size<=j) d W/\ac W c 243 (eY p s.length).arr
theorem EH.new{d:Nat}{j:World}{p:List Int}{s:List Nat}{W c:World}(h:EH d j p s W)(i:aa W c):EH d j p s c:=⟨h.1.trans (i.toFr _),i.blk h.2⟩
theorem EH.puts{i:Nat}{c:World}{p:List Int}{s:List Nat}{W d:World}(h:EH i c p s W)(l:eN c.heap.size W d):EH i c p s d:=⟨h.1.trans (l.fr (λj m=>.inr m)),l.blk h.2⟩
theorem DB{x:H8}{t:Nat}(h:t<8)(w:World):(Instr.index 243 (.agg x.arr) (.int .i64 (t:Int))).run prog w=.ok (.int .u32 (at_ x.list t)) w:=by
 have l:(sizeOf 44).run prog w=.ok 1 w:=by
  first|exact sizeOf44 w|simp[sizeOf44,go_sem]|kernel_rfl
 have c:x.arr[t]?=some (.int .u32 (at_ x.list t)):=by rw[H8.arr_list];exact dh h
 have d:(isAgg 44).run prog w=.ok false w:=by
  first|kernel_rfl|simp[isAgg,run_underlying underlying44,go_sem]
 have j:(part 44 x.arr t).run prog w=.ok (.int .u32 (at_ x.list t)) w:=by
  simp[part,d,c,go_sem]
 have i:(t:Int)<8:=by omega
 simp[Instr.index,run_underlying underlying243,asIntOf,l,j,i,go_sem];rw[if_pos h,c];simp
theorem Eg(b t:Nat)(h:t<8)(w:World):(Instr.sliceAt 211 (.pointer (some ⟨b,0,none⟩)) (some (.int .i64 (4*(t:Int)))) none none).run prog w=.ok (.slice (some ⟨b,4*t,none⟩) (32-4*t) (32-4*t)) w:=by
 have c:(prog.arrayLen 211)=32:=by kernel_rfl
 have d:(prog.elem 211)=5:=by kernel_rfl
 have hu:prog.underlying 211=some (.array (prog.arrayLen 211) (prog.elem 211)):=by rw[c,d];exact underlying211
 have j:(sizeOf 5).run prog w=.ok 1 w:=by
  first|exact sizeOf5 w|simp[sizeOf5,go_sem]|kernel_rfl
 rw[run_sliceAt_array_l (P:=prog) w 211 ⟨b,0,none⟩ hu .i64 (4*(t:Int)) (by omega) (by rw[c];omega),d,c,j];have i:(4*(t:Int)).toNat=4*t:=by omega
 simp only[Result.andThen_ok,slicedAt,i];rw[if_neg (by omega),gM,Nat.mul_one]
def mD(x:H8)(k:Nat):List Int:=((x.list.take k).flatMap λy=>bj 4 y.toNat)++List.replicate (32-4*k) 0
theorem FG(x:H8):mD x 8=x.list.flatMap λy=>bj 4 y.toNat:=by simp[mD,H8.list]
theorem BQ{x:H8}{k:Nat}(h:k<=8):(mD x k).length=32:=by
 rcases (by omega:k=0\/k=1\/k=2\/k=3\/k=4\/k=5\/k=6\/k=7\/k=8)with rfl|rfl|rfl|rfl|rfl|rfl|rfl|rfl|rfl<;>rfl
theorem BR(x:H8){k:Nat}(h:k<8):splice (an (mD x k)) (4*k) (an (bj 4 (at_ x.list k).toNat))=an (mD x (k+1)):=by
 rcases (by omega:k=0\/k=1\/k=2\/k=3\/k=4\/k=5\/k=6\/k=7)with rfl|rfl|rfl|rfl|rfl|rfl|rfl|rfl<;>rfl
theorem Fd{N:Nat}(h:N%64=0):sK N 64=N/64:=by unfold sK;omega
theorem Et{q:Nat->Prop}(A:Option Addr)(n c:Nat)(xs:List Int)(w:World)(hL:dC 4 2 w)(hR:Rd q w 1 A n (an xs))(hb:ba xs)(hn:n<=500000000):
    Calls prog 157 #[.slice A n c] w λe w'=>e=.returned (.agg (ag (kD xs)))/\aa w w':=by
 have HL:=Ld hL;have HR:=Ld hR;have i9:=Ld (uL hb);have G:=Ld (mE xs);have l7:xs.length=n:=by have:=hR.1;rw[ak]at this;omega
 have b1:(fP xs).length<=n+80/\64<=(fP xs).length:=by
  have h1:=mE xs;have h2:=(qD xs.length).2;rw[lh,List.length_append,fe,aw]at h1⊢;omega
 have HH:Hid (kD xs=(eY (fP xs) ((fP xs).length/64)).list.flatMap λx=>bj 4 x.toNat):=Ld rfl;obtain⟨RA,g9⟩:=nM (ag (kD xs));rw[<-g9];have k5:=Ld g9;have H:=Ld (λW (E:aa w W)=>DT A n c xs W (E.rd hR) (by omega));obtain⟨p,hp⟩:=nM (fP xs);rw[<-hp]at i9 G HH H b1;obtain⟨N,E⟩:=nM (p.length);rw[<-E]at G HH H b1;have k4:=Ld E;clear hL hR hb l7 hp E g9 HR;refine(callsIn_wide (n:=3)).1 ?_;refine callsIn_of_wp_marks func157 rfl trivial ?_ rfl;refine wpIn_wide.2 ?_;simp only[ntmps157,List.size_toArray,List.length_cons,List.length_nil,Nat.reduceAdd,Nat.reduceSub,Array.replicate_succ,Array.replicate_zero,List.push_toArray,List.append_toArray,List.nil_append,List.cons_append]
 go_wp2_with (refine cE 8 rfl ?_;refine dH rfl _ rfl rfl ((HL.out.new (aa.al (aa.refl w) _)).i) underlying243 rfl rfl ?_;dsimp only[iH,H8.arr])
 have hz:(#[.int .u8 0,.int .u8 0,.int .u8 0,.int .u8 0,.int .u8 0,.int .u8 0,.int .u8 0,.int .u8 0,.int .u8 0,.int .u8 0,.int .u8 0,.int .u8 0,.int .u8 0,.int .u8 0,.int .u8 0,.int .u8 0,.int .u8 0,.int .u8 0,.int .u8 0,.int .u8 0,.int .u8 0,.int .u8 0,.int .u8 0,.int .u8 0,.int .u8 0,.int .u8 0,.int .u8 0,.int .u8 0,.int .u8 0,.int .u8 0,.int .u8 0,.int .u8 0]:Array Value)=ag (List.replicate 32 0):=rfl;rw[hz];obtain⟨w1,b7⟩:=nM ((w.alloc (.cells (ag (List.replicate 32 0)) 211)).alloc (.cells #[.int .u32 1779033703,.int .u32 3144134277,.int .u32 1013904242,.int .u32 2773480762,.int .u32 1359893119,.int .u32 2600822924,.int .u32 528734635,.int .u32 1541459225] 243):World);obtain⟨b2,c1⟩:=nM (w.heap.size);obtain⟨C,c3⟩:=nM (w.heap.size+1);have X:Hid (aa w w1):=Ld (by rw[b7];exact aa.al (aa.al (aa.refl _) _) _);have y:Hid (ac w1 b2 211 (ag (List.replicate 32 0))):=Ld (by rw[b7,c1,<-hz];exact(ac.new _ _ _).alloc _);have b9:Hid (ac w1 C 243 (eY p 0).arr):=Ld (by rw[b7,c3];exact ac.new' _ _ _ (by simp));have HZ:Hid (b2=w.heap.size/\C=w.heap.size+1):=Ld ⟨c1,c3⟩;rw[<-b7,<-c3,<-c1];clear b7 c1 c3 hz;refine(H.out w1 X.out).mono ?_;rintro e w2 ⟨⟨A1,d1,rfl,hO⟩,j3⟩;obtain⟨g,cap,hv,k8,k9⟩:=dv hO (by omega);injection hv with l3 l4 l5;subst l3 l5;have HO:=Ld hO;have r:=Ld j3;clear hO j3 l4 H
 go_wp2_with fail;refine(rh (some ⟨g,0,none⟩) N d1 64 (by decide) (by decide) w2).mono ?_;rintro e w3 ⟨rfl,b8⟩;have u:Hid (aa w2 w3):=Ld (by rw[b8];exact aa.al (aa.al (aa.refl _) _) _);have j7:=sL g 0 N d1 64 w2.heap.size (w2.heap.size+1) w3 (by rw[b8];exact(ac.new _ _ _).alloc _) (by rw[b8];exact ac.new' _ _ _ (by simp)) (by decide) (by decide) (by omega) k8 k9;have k':w3.heap.size=w2.heap.size+2:=by rw[b8];simp
 have i4:=Ld j7;have z:=Ld k';have b0:Hid (EH C w3 p [] w3):=Ld ⟨Fr.refl _ _,u.out.blk (r.out.blk b9.out)⟩;have V:Hid (C<w2.heap.size/\g<w2.heap.size/\g≠C):=Ld ⟨(r.out.blk b9.out).lt,(am HO.out g rfl).2,λe=>bm HO.out (r.out.blk b9.out) (by decide) (by rw[e];rfl)⟩
 have T:Hid (∀j v,(an p)[j]?=some v->w3.cell? ⟨g,j,none⟩=some v):=Ld λj v hj=>by
  obtain⟨g',o',he,-,-,hc⟩:=(Rd.own HO.out rfl).out (by omega) (by omega);injection he with he;injection he with e1 e2;subst e1 e2;have:=hc j v hj;rw[Nat.zero_add]at this;exact u.out.cell_ this
 clear b8 j7 k' b9 HO
 go_wp2_with fail
 refine lu rfl (enters_of func169 (by kernel_rfl) rfl) (λk:Nat=> #[vM g 0 N 64 k]) (λ_=>rfl) i4.out (λx W J hg hp=>trivial) (λh k=>h.tr k) (λW J hp=>sy.puts hp (by have:=z.out;omega) (by have:=z.out;omega))
  (EH C w3 p) (λs A B h E=>h.new E) (λs A B h hp=>h.puts hp) b0.out ?a1 ?assign ?body ?done
 case assign=>
  intro l x W K hK
  gi_wp2
  exact hK
 case body=>
  rintro lp pre k W b1 ⟨hF,hB⟩ hG rfl;obtain⟨k,hk⟩:=nM (pre.length);rw[<-hk]at b1 hB⊢;have l1:k*64<N:=(nh (by decide)).1 b1;have i5:Hid (k*64+64<=N):=Ld (by have:=G.out;omega)
  have j5:vM g 0 N 64 k=.slice (some ⟨g,k*64,none⟩) 64 64:=by
   unfold vM;rw[Nat.min_eq_left (by have:=i5.out;omega),Nat.zero_add]
  rw[j5];obtain⟨st,c5⟩:=nM (eY p k);rw[<-c5]at hB;obtain⟨bl,Y⟩:=nM ((p.drop (64*k)).take 64);have g6:Hid (eY p (k+1)=ij st bl):=Ld (by rw[c5,Y];rfl)
  have c':Hid (bl.length=64/\ba bl):=Ld ⟨by rw [Y,List.length_take,List.length_drop];have:=i5.out;have:=k4.out;omega,by
   rw[Y];intro x hx
   exact i9.out x (List.mem_of_mem_drop (List.mem_of_mem_take hx))⟩
  have k6:Hid (∀J,aa W J->J.rangeAt g (k*64) (an bl)):=Ld λJ E j v hj=>by
   have h1:(an p)[k*64+j]?=some v:=by
    rw[<-hj,Y];unfold an
    rw[List.getElem?_map,List.getElem?_map,List.getElem?_take_of_lt (by
     have:=(List.getElem?_eq_some_iff.1 hj).1;rw[ak]at this;have:=c'.out.1
     omega),List.getElem?_drop,Nat.mul_comm]
   have h2:=T.out _ v h1
   exact E.cell_ (hF.cell_some h2 (λF=>by
    have O:g=C\/w3.heap.size<=g:=F;have:=V.out;have:=z.out
    omega))
  have g5:Hid st.Ok:=Ld (by rw[c5];exact kZ p k);have i2:=Ld hB;have U:=Ld hF
  have k7:Hid (∀J,aa W J->∀t,t<64->J.cell? ⟨4,t,none⟩=some (.int .u32 (at_ kL t))):=Ld λJ E t ht=>E.cell_ (hF.cell_some (u.out.cell_ (r.out.cell_ (X.out.cell_ (HL.out.k t ht)))) (λF=>by
   have O:4=C\/w3.heap.size<=4:=F;have h1:=HL.out.lt;have h2:=HZ.out;have h3:=z.out;have h4:=V.out
   omega))
  have k3:Hid (pre.length=k):=Ld hk.symm;clear c5 Y hB hF j5 hG hk l1
  gi_wp2
  refine gL lp (aa W) 5 [(true,0),(true,1),(true,2),(true,3),(false,4),(false,5)] (by kernel_rfl) (by kernel_rfl) (aa.dr (aa.refl W)) (λl2=>?_);refine bM (o:=.mk ..) rfl rfl (.tmp 3) rfl rfl (λJ E=>(E.blk i2.out).rangeOf) underlying243 rfl rfl ?_;simp only[Act.put,bC,bD,bF];refine af (o:=.mk ..) rfl (λK hK=>?_);go_simp;refine hK _ ?_;clear hK K;refine tu (o:=.mk ..) rfl rfl (.tmp 14) rfl rfl underlying67 (Nat.le_refl _) ?_;simp only[Act.put,bC,bD,bF];refine bM (o:=.mk ..) rfl rfl (.tmp 15) rfl rfl (λJ E=>k6.out J E) underlying67 rfl (by rw[ak,c'.out.1];rfl) ?_;simp only[Act.put,bC,bD,bF];refine aj (o:=.mk ..) rfl (λK hK=>?_) (.inl rfl);go_simp;have i':=sO st bl W.drew (k7.out _ (aa.dr (aa.refl W))) g5.out c'.out.1 c'.out.2;unfold ag at i';refine i'.mono ?_;rintro e w4 ⟨rfl,j4⟩;have f':Hid (aa W w4):=Ld (aa.tr (aa.dr (aa.refl W)) j4);clear i' j4;go_simp;refine hK.out _ _ (λ_=>f'.out) ?_;clear hK K;refine aj (o:=.mk ..) rfl (λK hK=>?_) (.inl rfl);refine cZ (cs:=(ij st bl).arr) rfl (.tmp 3) (.tmp 17) rfl rfl rfl rfl (f'.out.blk i2.out) rfl (by simp[H8.arr,Value.oneCell']) ?_;intro w5 j0 j2;simp only[Act.put,bC,bD,bF];refine hK.out _ _ (λh=>absurd rfl h) ?_;have m:=Ld j0;have c8:Hid (Fr (λj=>j=C) W w5):=Ld ((f'.out.toFr _).trans j2);clear hK K l2 j0 j2;refine jF ?_
  gi_wp2
  refine⟨iE.fr c8.out (λk o hB F=>by
   have O:k=C:=F;have:=V.out;have:=z.out
   omega),sy.fr c8.out ⟨by have:=U.out.size;have:=z.out;omega,λF=>?_⟩ ⟨by have:=U.out.size;have:=z.out;omega,λF=>?_⟩,U.out.trans (c8.out.mono (λk _ F=>.inl F)),?_⟩
  ·have O:w2.heap.size=C:=F;have:=V.out;omega
  ·have O:w2.heap.size+1=C:=F;have:=V.out;omega
  ·rw[List.length_append,List.length_singleton,k3.out,g6.out];exact m.out
 case done=>
  rintro D fs W hD j6 ⟨hF,hB⟩ j1;obtain⟨x,hx⟩:=nM (eY p (N/64));have j':ac W C 243 x.arr:=by rw[hx,<-Fd G.out];rw[j6,List.length_range]at hB;exact hB
  have g7:Hid x.Ok:=Ld (by rw[hx];exact kZ _ _);have k1:Hid (kD xs=mD x 8):=Ld (by rw[HH.out,FG,hx]);have i3:=Ld j';have U:=Ld hF
  have g4:Hid (aa w W):=Ld (((X.out.tr r.out).tr u.out).fr hF (λk F=>by
   have O:k=C\/w3.heap.size<=k:=F;have h2:=HZ.out;have h1:=X.out.size;have h3:=r.out.size;have h4:=u.out.size
   omega))
  have R:Hid (ac W b2 211 (ag (List.replicate 32 0))):=Ld ((u.out.blk (r.out.blk y.out)).fr hF (λF=>by
   have O:b2=C\/w3.heap.size<=b2:=F;have h2:=HZ.out;have h1:=(u.out.blk (r.out.blk y.out)).lt
   omega))
  have HM:Hid (dm w.heap.size [D] W):=Ld (dm.cons (dm.nil _ W) (λ_ h=>by cases h) (by have:=X.out.size;have:=r.out.size;have:=u.out.size;omega) j1);clear hx j6 hB j' hF hD j1 i4 T b0;dsimp only
  go_wp2_with (refine cE 18 rfl ?_;refine ae rfl _ rfl underlying243 rfl rfl rfl ((i3.out.alloc _)) ?_)
  have hz:(#[.int .u8 0,.int .u8 0,.int .u8 0,.int .u8 0,.int .u8 0,.int .u8 0,.int .u8 0,.int .u8 0,.int .u8 0,.int .u8 0,.int .u8 0,.int .u8 0,.int .u8 0,.int .u8 0,.int .u8 0,.int .u8 0,.int .u8 0,.int .u8 0,.int .u8 0,.int .u8 0,.int .u8 0,.int .u8 0,.int .u8 0,.int .u8 0,.int .u8 0,.int .u8 0,.int .u8 0,.int .u8 0,.int .u8 0,.int .u8 0,.int .u8 0,.int .u8 0]:Array Value)=(an (mD x 0)).toArray:=rfl;rw[hz];obtain⟨W1,L⟩:=nM (W.alloc (.cells (an (mD x 0)).toArray 211):World);obtain⟨b5,c4⟩:=nM (W.heap.size);have i7:Hid (aa w W1):=Ld (by rw[L];exact aa.al g4.out _);have m:Hid (ac W1 b5 211 (an (mD x 0)).toArray):=Ld (by rw[L,c4,<-hz];exact ac.new _ _ _);have b':Hid (ac W1 b2 211 (ag (List.replicate 32 0))):=Ld (by rw[L];exact R.out.alloc _);have i6:Hid (dm w.heap.size [D] W1):=Ld (by rw[L];exact HM.out.new (aa.al (aa.refl _) _));have g8:Hid (w.heap.size<=b5/\b2≠b5/\w.heap.size<=b2):=Ld ⟨by rw[c4];exact g4.out.size,by have:=R.out.lt;omega,by have:=HZ.out;omega⟩;rw[<-L,<-c4];clear L c4 hz g4 R HM i3 U y
  go_loopw [19] (λi wr=>∃(k:Nat),k<=8/\i=.int .i64 k/\Hid (aa w wr)/\Hid (ac wr b5 211 (an (mD x k)).toArray)/\Hid (ac wr b2 211 (ag (List.replicate 32 0)))/\Hid (dm w.heap.size [D] wr)) (λi _=>8-(intOf i).toNat)
  case atStart=>exact⟨0,Nat.zero_le _,rfl,i7,m,b',i6⟩
  case round=>
   clear i7 m b' i6;obtain⟨k,hk,rfl,HN,m,y,HM⟩:=hrel
   by_cases i1:k<8
   ·have m0:(0:Int)<=(k:Int):=by omega
    have m1:(k:Int)<8:=by omega
    have l':=DB (x:=x) i1;have m3:=Eg b5 k i1;obtain⟨d,j9⟩:=nM ((at_ x.list k).toNat);have l8:=H8.ok_b g7.out k;have hy:at_ x.list k=(d:Int):=by omega
    have m':(d:Int)<4294967296:=by omega
    have l9:(0:Int)<=(d:Int):=by omega
    have g6:Hid (splice (an (mD x k)) (4*k) (an (bj 4 d))=an (mD x (k+1))):=Ld (by rw[j9];exact BR x i1)
    have v3:IntKind.u8.wrap ((d:Int)/16777216)=((aL d 3:Nat):Int):=by
     rw[show(d:Int)/16777216=((d/16777216:Nat):Int)from by simp,eU];rfl
    have v2:IntKind.u8.wrap ((d:Int)/65536)=((aL d 2:Nat):Int):=by
     rw[show(d:Int)/65536=((d/65536:Nat):Int)from by simp,eU];rfl
    have v1:IntKind.u8.wrap ((d:Int)/256)=((aL d 1:Nat):Int):=by
     rw[show(d:Int)/256=((d/256:Nat):Int)from by simp,eU];rfl
    have v0:IntKind.u8.wrap (d:Int)=((aL d 0:Nat):Int):=by
     rw[eU];unfold aL;rw[Nat.pow_zero,Nat.div_one]
    rw[hy]at l';clear j9 l8 hy;have c9:Hid ((an (mD x k)).length=32):=Ld (by rw[ak,BQ hk])
    go_wp2_with (refine cE 38 rfl ?_;refine eV (q:=λ_=>True) rfl (.tmp 25) (.tmp 37) 33 33 rfl 5 underlying33 rfl b5 (4*k) (32-4*k) (32-4*k) (some ⟨wr.heap.size,0,none⟩) 4 4 rfl rfl (an (mD x k)) 211 (m.out.alloc _) (an (bj 4 d)) (by rw[ak,aw];show 4=min 4 (32-4*k);omega) ⟨4,an (bj 4 d),Rd.ofBlk (ac.new wr 5 #[.int .u8 (aL d 3:Nat),.int .u8 (aL d 2:Nat),.int .u8 (aL d 1:Nat),.int .u8 (aL d 0:Nat)]) 1 4 rfl trivial,List.take_length⟩ (by rw[c9.out,ak,aw];omega) (aR _) ?_;intro w8 M Z;rw[g6.out]at M;have c7:=Ld M;have I:Hid (Fr (λj=>j=b5) wr w8):=Ld (((aa.al (aa.refl wr) _).toFr _).trans Z);clear M Z)
    have g3:Hid (aa w w8):=Ld (HN.out.fr I.out (λj hj=>by have:=g8.out;omega));have c6:Hid (ac w8 b2 211 (ag (List.replicate 32 0))):=Ld (y.out.fr I.out (by have:=g8.out;omega))
    have d':Hid (dm w.heap.size [D] w8):=Ld (HM.out.fr I.out (λj hj=>by
     have i0:j=b5:=hj;rw[i0]
     exact iN m.out))
    go_roundw
    case rel=>exact⟨k+1,by omega,by go_num,g3,c7,c6,d'⟩
    case measure=>simp[intOf];omega
   ·have k2:Hid (k=8):=Ld (by omega);have m2:¬(k:Int)<8:=by omega
    have k0:Hid (ac wr b5 211 (ag (kD xs))):=Ld (by rw[k1.out,<-k2.out];exact m.out);have j8:(ag (kD xs)).size=32:=by rw[aq,iL]
    have c0:=Ld j8;clear j8 m
    go_wp2_with (first
     |(refine cE 40 rfl ?_;refine ae rfl _ rfl underlying211 rfl (by rw[c0.out];rfl) rfl k0.out ?_)
     |((with_reducible refine eC ⟨none,.store 211 (.tmp 2) _,_,_,_,_⟩ ?_);refine ao rfl (.tmp 2) (.tmp 40) rfl (by rw[c0.out];rfl) rfl rfl y.out (by rw[c0.out,aq,List.length_replicate]) (bH _) ?_;intro w8 M Z;have c7:=Ld M;have I:=Ld Z;clear M Z))
    have d':Hid (dm w.heap.size [D] w8):=Ld (HM.out.fr I.out (λj hj=>by
     have i0:j=b2:=hj;rw[i0]
     exact iN y.out))
    have g3:Hid (aa w w8):=Ld (HN.out.fr I.out (λj hj=>by have:=g8.out;omega));rw[k5.out];refine eS [D] w8 d'.out (λJ hS=>⟨.agg (ag (kD xs)),eh rfl _ _ b2 _ _ rfl (hS.cells b2 _ c7.out rfl) underlying211 rfl (by rw[c0.out];rfl),rfl,?_⟩);exact g3.out.trans (hS.below)
end Go.Proofs.YtfchcdbfalgdlaaGreatDoor
