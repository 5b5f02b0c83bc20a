/- Texts of one proof. No condition but each one's own. -/
import Derived.Test.YtfchcdbfalgdlaaGreatDoorSweepOpensM2
import Derived.Shelf.Abstract
set_option maxHeartbeats 4000000
set_option maxRecDepth 100000
set_option linter.unusedVariables false
set_option linter.unusedSimpArgs false
namespace Go.Proofs.YtfchcdbfalgdlaaGreatDoor
open _root_.Go.Proofs.Tryz
open Go.RowKit Go.Sort
attribute [local go_sem] Oper.semAt_some
structure dp(gk gi:Nat)(w:World):Prop where
 k:∀t,t<64→w.cell? ⟨gk,t,none⟩=some (.int .u32 (at_ kL t))
 i:w.rangeAt gi 0 iH.arr.toList
theorem dp.new{gk b:Nat}{w w':World}(h:dp gk b w)(c:aa w w'):dp gk b w':=⟨fun t ht=>c.cell_ (h.k t ht),fun j v d=>c.cell_ (h.i j v d)⟩
theorem dp.lt{gk b:Nat}{w:World}(h:dp gk b w):gk<w.heap.size∧b<w.heap.size:=⟨World.block_lt_of_cell? w _ (h.k 0 (by decide)),World.block_lt_of_cell? w _ (h.i 0 _ rfl)⟩
def CL(b:Nat)(c:World)(p:List Int)(s:List Nat)(W:World):Prop:=Fr (fun j=>j=b∨c.heap.size≤j) c W∧ab W b 243 (eF p s.length).arr
theorem CL.new{c:Nat}{f:World}{p:List Int}{s:List Nat}{W b:World}(h:CL c f p s W)(d:aa W b):CL c f p s b:=⟨h.1.trans (d.toFr _),d.blk h.2⟩
theorem CL.puts{d:Nat}{b:World}{p:List Int}{s:List Nat}{W c:World}(h:CL d b p s W)(f:et b.heap.size W c):CL d b p s c:=⟨h.1.trans (f.fr (fun j g=>.inr g)),f.blk h.2⟩
theorem BE{x:H8}{t:Nat}(h:t<8)(w:World):(Instr.index 243 (.agg x.arr) (.int .i64 (t:Int))).run prog w=.ok (.int .u32 (at_ x.list t)) w:=by
 have g:(sizeOf 44).run prog w=.ok 1 w:=by
  first|exact sizeOf44 w|simp[sizeOf44,go_sem]|kernel_rfl
 have b:x.arr[t]?=some (.int .u32 (at_ x.list t)):=by rw[H8.arr_list];exact cK h
 have c:(isAgg 44).run prog w=.ok false w:=by
  first|kernel_rfl|simp[isAgg,run_underlying underlying44,go_sem]
 have f:(part 44 x.arr t).run prog w=.ok (.int .u32 (at_ x.list t)) w:=by
  simp[part,c,b,go_sem]
 have d:(t:Int)<8:=by omega
 simp[Instr.index,run_underlying underlying243,asIntOf,g,f,d,go_sem];rw[if_pos h,b];simp
theorem Cn(b t:Nat)(h:t<8)(w:World):(Instr.sliceAt 211 (.pointer (some ⟨b,0,none⟩)) (some (.int .i64 (4*(t:Int)))) none none).run prog w=.ok (.slice (some ⟨b,4*t,none⟩) (32-4*t) (32-4*t)) w:=by
 have c:(prog.arrayLen 211)=32:=by kernel_rfl
 have d:(prog.elem 211)=5:=by kernel_rfl
 have hu:prog.underlying 211=some (.array (prog.arrayLen 211) (prog.elem 211)):=by rw[c,d];exact underlying211
 have g:(sizeOf 5).run prog w=.ok 1 w:=by
  first|exact sizeOf5 w|simp[sizeOf5,go_sem]|kernel_rfl
 rw[run_sliceAt_array_l (P:=prog) w 211 ⟨b,0,none⟩ hu .i64 (4*(t:Int)) (by omega) (by rw[c];omega),d,c,g];have f:(4*(t:Int)).toNat=4*t:=by omega
 simp only[Result.andThen_ok,slicedAt,f];rw[if_neg (by omega),gg,Nat.mul_one]
def mA(x:H8)(k:Nat):List Int:=((x.list.take k).flatMap fun y=>aY 4 y.toNat)++List.replicate (32-4*k) 0
theorem DN(x:H8):mA x 8=x.list.flatMap fun y=>aY 4 y.toNat:=by simp[mA,H8.list]
theorem zU{x:H8}{k:Nat}(h:k≤8):(mA x k).length=32:=by
 rcases (by omega:k=0∨k=1∨k=2∨k=3∨k=4∨k=5∨k=6∨k=7∨k=8)with rfl|rfl|rfl|rfl|rfl|rfl|rfl|rfl|rfl<;>rfl
theorem zV(x:H8){k:Nat}(h:k<8):splice (am (mA x k)) (4*k) (am (aY 4 (at_ x.list k).toNat))=am (mA x (k+1)):=by
 rcases (by omega:k=0∨k=1∨k=2∨k=3∨k=4∨k=5∨k=6∨k=7)with rfl|rfl|rfl|rfl|rfl|rfl|rfl|rfl<;>rfl
theorem Dl{N:Nat}(h:N%64=0):ri N 64=N/64:=by unfold ri;omega
theorem Cz{q:Nat→Prop}(A:Option Addr)(n c:Nat)(xs:List Int)(w:World)(hL:dp 4 2 w)(hR:Rd q w 1 A n (am xs))(hb:aU xs)(hn:n≤500000000):
    Calls prog 157 #[.slice A n c] w fun e w'=>e=.returned (.agg (af (jL xs)))∧aa w w':=by
 have HL:=Ld hL;have HR:=Ld hR;have i5:=Ld (tw hb);have E:=Ld (lJ xs);have l3:xs.length=n:=by have:=hR.1;rw[ah]at this;omega
 have V:(fv xs).length≤n+80∧64≤(fv xs).length:=by
  have h1:=lJ xs;have h2:=(pw xs.length).2;rw[kr,List.length_append,eK,av]at h1⊢;omega
 have HH:Hid (jL xs=(eF (fv xs) ((fv xs).length/64)).list.flatMap fun x=>aY 4 x.toNat):=Ld rfl;obtain⟨RA,g6⟩:=nM (af (jL xs));rw[←g6];have k2:=Ld g6;have F:=Ld (fun W (z:aa w W)=>BW A n c xs W (z.rd hR) (by omega));obtain⟨p,hp⟩:=nM (fv xs);rw[←hp]at i5 E HH F V;obtain⟨N,z⟩:=nM (p.length);rw[←z]at E HH F V;have k1:=Ld z;clear hL hR hb l3 hp z g6 HR;refine(callsIn_wide (n:=3)).1 ?_;refine callsIn_of_wp_marks func157 rfl trivial ?_ rfl;refine wpIn_wide.2 ?_;simp only[ntmps157,List.size_toArray,List.length_cons,List.length_nil,Nat.reduceAdd,Nat.reduceSub,Array.replicate_succ,Array.replicate_zero,List.push_toArray,List.append_toArray,List.nil_append,List.cons_append]
 go_wp2_with (refine cg 8 rfl ?_;refine cF rfl _ rfl rfl ((HL.out.new (aa.al (aa.refl w) _)).i) underlying243 rfl rfl ?_;dsimp only[iH,H8.arr])
 obtain⟨w1,X⟩:=nM ((w.alloc (.cells #[.int .u8 0,.int .u8 0,.int .u8 0,.int .u8 0,.int .u8 0,.int .u8 0,.int .u8 0,.int .u8 0,.int .u8 0,.int .u8 0,.int .u8 0,.int .u8 0,.int .u8 0,.int .u8 0,.int .u8 0,.int .u8 0,.int .u8 0,.int .u8 0,.int .u8 0,.int .u8 0,.int .u8 0,.int .u8 0,.int .u8 0,.int .u8 0,.int .u8 0,.int .u8 0,.int .u8 0,.int .u8 0,.int .u8 0,.int .u8 0,.int .u8 0,.int .u8 0] 211)).alloc (.cells #[.int .u32 1779033703,.int .u32 3144134277,.int .u32 1013904242,.int .u32 2773480762,.int .u32 1359893119,.int .u32 2600822924,.int .u32 528734635,.int .u32 1541459225] 243):World);obtain⟨b2,b9⟩:=nM (w.heap.size);obtain⟨y,c'⟩:=nM (w.heap.size+1);have hz:(#[.int .u8 0,.int .u8 0,.int .u8 0,.int .u8 0,.int .u8 0,.int .u8 0,.int .u8 0,.int .u8 0,.int .u8 0,.int .u8 0,.int .u8 0,.int .u8 0,.int .u8 0,.int .u8 0,.int .u8 0,.int .u8 0,.int .u8 0,.int .u8 0,.int .u8 0,.int .u8 0,.int .u8 0,.int .u8 0,.int .u8 0,.int .u8 0,.int .u8 0,.int .u8 0,.int .u8 0,.int .u8 0,.int .u8 0,.int .u8 0,.int .u8 0,.int .u8 0]:Array Value)=af (List.replicate 32 0):=by rfl
 have S:Hid (aa w w1):=Ld (by rw[X];exact aa.al (aa.al (aa.refl _) _) _);have r:Hid (ab w1 b2 211 (af (List.replicate 32 0))):=Ld (by rw[X,b9,←hz];exact(ab.new _ _ _).alloc _);have b1:Hid (ab w1 y 243 (eF p 0).arr):=Ld (by rw[X,c'];exact ab.new' _ _ _ (by simp));have HZ:Hid (b2=w.heap.size∧y=w.heap.size+1):=Ld ⟨b9,c'⟩;rw[←X,←c',←b9];clear X b9 c' hz;refine(F.out w1 S.out).mono ?_;rintro e w2 ⟨⟨A1,d1,rfl,hO⟩,j0⟩;obtain⟨g,cap,hv,k5,k6⟩:=dh hO (by omega);injection hv with l' l1 l2;subst l' l2;have HO:=Ld hO;have f:=Ld j0;clear hO j0 l1 F
 go_wp2_with fail
 refine(pX (some ⟨g,0,none⟩) N d1 64 (by decide) (by decide) w2).mono ?_;rintro e Z ⟨rfl,Y⟩;have m:Hid (aa w2 Z):=Ld (by rw[Y];exact aa.al (aa.al (aa.refl _) _) _);have j4:=rj g 0 N d1 64 w2.heap.size (w2.heap.size+1) Z (by rw[Y];exact(ab.new _ _ _).alloc _) (by rw[Y];exact ab.new' _ _ _ (by simp)) (by decide) (by decide) (by omega) k5 k6;have j7:Z.heap.size=w2.heap.size+2:=by rw[Y];simp
 have i1:=Ld j4;have u:=Ld j7;have b0:Hid (CL y Z p [] Z):=Ld ⟨Fr.refl _ _,m.out.blk (f.out.blk b1.out)⟩;have R:Hid (y<w2.heap.size∧g<w2.heap.size∧g≠y):=Ld ⟨(f.out.blk b1.out).lt,(ak HO.out g rfl).2,fun e=>bG HO.out (f.out.blk b1.out) (by decide) (by rw[e];rfl)⟩
 have O:Hid (∀j v,(am p)[j]?=some v→Z.cell? ⟨g,j,none⟩=some v):=Ld fun j v hj=>by
  obtain⟨g',o',he,-,-,hc⟩:=(Rd.own HO.out rfl).out (by omega) (by omega);injection he with he;injection he with e1 e2;subst e1 e2;have:=hc j v hj;rw[Nat.zero_add]at this;exact m.out.cell_ this
 clear Y j4 j7 b1 HO
 go_wp2_with fail
 refine kC rfl (enters_of func169 (by kernel_rfl) rfl) (fun k:Nat=> #[uj g 0 N 64 k]) (fun _=>rfl) i1.out (fun x W H hg hp=>trivial) (fun h k=>h.tr k) (fun W H hp=>qV.puts hp (by have:=u.out;omega) (by have:=u.out;omega))
  (CL y Z p) (fun s A B h z=>h.new z) (fun s A B h hp=>h.puts hp) b0.out ?a1 ?assign ?body ?done
 case assign=>
  intro l x W K hK
  gi_wp2
  exact hK
 case body=>
  rintro lp pre k W V ⟨hF,hB⟩ hG rfl;obtain⟨k,hk⟩:=nM (pre.length);rw[←hk]at V hB⊢;have k8:k*64<N:=(mu (by decide)).1 V;have i2:Hid (k*64+64≤N):=Ld (by have:=E.out;omega)
  have j2:uj g 0 N 64 k=.slice (some ⟨g,k*64,none⟩) 64 64:=by
   unfold uj;rw[Nat.min_eq_left (by have:=i2.out;omega),Nat.zero_add]
  rw[j2];obtain⟨st,c1⟩:=nM (eF p k);rw[←c1]at hB;obtain⟨bl,T⟩:=nM ((p.drop (64*k)).take 64);have g3:Hid (eF p (k+1)=gL st bl):=Ld (by rw[c1,T];rfl)
  have b7:Hid (bl.length=64∧aU bl):=Ld ⟨by rw [T,List.length_take,List.length_drop];have:=i2.out;have:=k1.out;omega,by
   rw[T];intro x hx
   exact i5.out x (List.mem_of_mem_drop (List.mem_of_mem_take hx))⟩
  have k3:Hid (∀H,aa W H→H.rangeAt g (k*64) (am bl)):=Ld fun H z j v hj=>by
   have h1:(am p)[k*64+j]?=some v:=by
    rw[←hj,T];unfold am
    rw[List.getElem?_map,List.getElem?_map,List.getElem?_take_of_lt (by
     have:=(List.getElem?_eq_some_iff.1 hj).1;rw[ah]at this;have:=b7.out.1
     omega),List.getElem?_drop,Nat.mul_comm]
   have h2:=O.out _ v h1
   exact z.cell_ (hF.cell_some h2 (fun C=>by
    have L:g=y∨Z.heap.size≤g:=C;have:=R.out;have:=u.out
    omega))
  have f':Hid st.Ok:=Ld (by rw[c1];exact ki p k);have i':=Ld hB;have P:=Ld hF
  have k4:Hid (∀H,aa W H→∀t,t<64→H.cell? ⟨4,t,none⟩=some (.int .u32 (at_ kL t))):=Ld fun H z t ht=>z.cell_ (hF.cell_some (m.out.cell_ (f.out.cell_ (S.out.cell_ (HL.out.k t ht)))) (fun C=>by
   have L:4=y∨Z.heap.size≤4:=C;have h1:=HL.out.lt;have h2:=HZ.out;have h3:=u.out;have h4:=R.out
   omega))
  have k0:Hid (pre.length=k):=Ld hk.symm;clear c1 T hB hF j2 hG hk k8
  gi_wp2
  refine gc lp (aa W) 5 [(true,0),(true,1),(true,2),(true,3),(false,4),(false,5)] (by kernel_rfl) (by kernel_rfl) (aa.dr (aa.refl W)) (fun k9=>?_);refine bH (o:=.mk ..) rfl rfl (.tmp 3) rfl rfl (fun H z=>(z.blk i'.out).rangeOf) underlying243 rfl rfl ?_;simp only[Act.put,bK,bM,bO];refine ae (o:=.mk ..) rfl (fun K hK=>?_);go_simp;refine hK _ ?_;clear hK K;refine rL (o:=.mk ..) rfl rfl (.tmp 14) rfl rfl underlying67 (Nat.le_refl _) ?_;simp only[Act.put,bK,bM,bO];refine bH (o:=.mk ..) rfl rfl (.tmp 15) rfl rfl (fun H z=>k3.out H z) underlying67 rfl (by rw[ah,b7.out.1];rfl) ?_;simp only[Act.put,bK,bM,bO];refine aj (o:=.mk ..) rfl (fun K hK=>?_) (.inl rfl);go_simp;have g7:=rn st bl W.drew (k4.out _ (aa.dr (aa.refl W))) f'.out b7.out.1 b7.out.2;unfold af at g7;refine g7.mono ?_;rintro e w4 ⟨rfl,j1⟩;have c8:Hid (aa W w4):=Ld (aa.tr (aa.dr (aa.refl W)) j1);clear g7 j1;go_simp;refine hK.out _ _ (fun _=>c8.out) ?_;clear hK K;refine aj (o:=.mk ..) rfl (fun K hK=>?_) (.inl rfl);refine cu (cs:=(gL st bl).arr) rfl (.tmp 3) (.tmp 17) rfl rfl rfl rfl (c8.out.blk i'.out) rfl (by simp[H8.arr,Value.oneCell']) ?_;intro w5 i7 j';simp only[Act.put,bK,bM,bO];refine hK.out _ _ (fun h=>absurd rfl h) ?_;have d:=Ld i7;have c5:Hid (Fr (fun j=>j=y) W w5):=Ld ((c8.out.toFr _).trans j');clear hK K k9 i7 j';refine je ?_
  gi_wp2
  refine⟨ic.fr c5.out (fun k o hB C=>by
   have L:k=y:=C;have:=R.out;have:=u.out
   omega),qV.fr c5.out ⟨by have:=P.out.size;have:=u.out;omega,fun C=>?_⟩ ⟨by have:=P.out.size;have:=u.out;omega,fun C=>?_⟩,P.out.trans (c5.out.mono (fun k _ C=>.inl C)),?_⟩
  ·have L:w2.heap.size=y:=C;have:=R.out;omega
  ·have L:w2.heap.size+1=y:=C;have:=R.out;omega
  ·rw[List.length_append,List.length_singleton,k0.out,g3.out];exact d.out
 case done=>
  rintro D fs W hD j3 ⟨hF,hB⟩ i9;obtain⟨x,hx⟩:=nM (eF p (N/64));have i6:ab W y 243 x.arr:=by rw[hx,←Dl E.out];rw[j3,List.length_range]at hB;exact hB
  have g4:Hid x.Ok:=Ld (by rw[hx];exact ki _ _);have j9:Hid (jL xs=mA x 8):=Ld (by rw[HH.out,DN,hx]);have i0:=Ld i6;have P:=Ld hF
  have d':Hid (aa w W):=Ld (((S.out.tr f.out).tr m.out).fr hF (fun k C=>by
   have L:k=y∨Z.heap.size≤k:=C;have h2:=HZ.out;have h1:=S.out.size;have h3:=f.out.size;have h4:=m.out.size
   omega))
  have M:Hid (ab W b2 211 (af (List.replicate 32 0))):=Ld ((m.out.blk (f.out.blk r.out)).fr hF (fun C=>by
   have L:b2=y∨Z.heap.size≤b2:=C;have h2:=HZ.out;have h1:=(m.out.blk (f.out.blk r.out)).lt
   omega))
  have HM:Hid (dc w.heap.size [D] W):=Ld (dc.cons (dc.nil _ W) (fun _ h=>by cases h) (by have:=S.out.size;have:=f.out.size;have:=m.out.size;omega) i9);clear hx j3 hB i6 hF hD i9 i1 O b0;dsimp only
  go_wp2_with (refine cg 18 rfl ?_;refine ac rfl _ rfl underlying243 rfl rfl rfl ((i0.out.alloc _)) ?_)
  obtain⟨W1,I⟩:=nM (W.alloc (.cells #[.int .u8 0,.int .u8 0,.int .u8 0,.int .u8 0,.int .u8 0,.int .u8 0,.int .u8 0,.int .u8 0,.int .u8 0,.int .u8 0,.int .u8 0,.int .u8 0,.int .u8 0,.int .u8 0,.int .u8 0,.int .u8 0,.int .u8 0,.int .u8 0,.int .u8 0,.int .u8 0,.int .u8 0,.int .u8 0,.int .u8 0,.int .u8 0,.int .u8 0,.int .u8 0,.int .u8 0,.int .u8 0,.int .u8 0,.int .u8 0,.int .u8 0,.int .u8 0] 211):World);obtain⟨b5,c0⟩:=nM (W.heap.size);have hz:(#[.int .u8 0,.int .u8 0,.int .u8 0,.int .u8 0,.int .u8 0,.int .u8 0,.int .u8 0,.int .u8 0,.int .u8 0,.int .u8 0,.int .u8 0,.int .u8 0,.int .u8 0,.int .u8 0,.int .u8 0,.int .u8 0,.int .u8 0,.int .u8 0,.int .u8 0,.int .u8 0,.int .u8 0,.int .u8 0,.int .u8 0,.int .u8 0,.int .u8 0,.int .u8 0,.int .u8 0,.int .u8 0,.int .u8 0,.int .u8 0,.int .u8 0,.int .u8 0]:Array Value)=(am (mA x 0)).toArray:=by rfl
  have i4:Hid (aa w W1):=Ld (by rw[I];exact aa.al d'.out _);have d:Hid (ab W1 b5 211 (am (mA x 0)).toArray):=Ld (by rw[I,c0,←hz];exact ab.new _ _ _);have b':Hid (ab W1 b2 211 (af (List.replicate 32 0))):=Ld (by rw[I];exact M.out.alloc _);have i3:Hid (dc w.heap.size [D] W1):=Ld (by rw[I];exact HM.out.new (aa.al (aa.refl _) _));have g5:Hid (w.heap.size≤b5∧b2≠b5∧w.heap.size≤b2):=Ld ⟨by rw[c0];exact d'.out.size,by have:=M.out.lt;omega,by have:=HZ.out;omega⟩;rw[←I,←c0];clear I c0 hz d' M HM i0 P r
  go_loopw [19] (fun i wr=>∃(k:Nat),k≤8∧i=.int .i64 k∧Hid (aa w wr)∧Hid (ab wr b5 211 (am (mA x k)).toArray)∧Hid (ab wr b2 211 (af (List.replicate 32 0)))∧Hid (dc w.heap.size [D] wr)) (fun i _=>8-(intOf i).toNat)
  case atStart=>exact⟨0,Nat.zero_le _,rfl,i4,d,b',i3⟩
  case round=>
   clear i4 d b' i3;obtain⟨k,hk,rfl,HN,d,r,HM⟩:=hrel
   by_cases g9:k<8
   ·have l8:(0:Int)≤(k:Int):=by omega
    have l9:(k:Int)<8:=by omega
    have k7:=BE (x:=x) g9;have m0:=Cn b5 k g9;obtain⟨b,j6⟩:=nM ((at_ x.list k).toNat);have l4:=H8.ok_b g4.out k;have hy:at_ x.list k=(b:Int):=by omega
    have l7:(b:Int)<4294967296:=by omega
    have l5:(0:Int)≤(b:Int):=by omega
    have g3:Hid (splice (am (mA x k)) (4*k) (am (aY 4 b))=am (mA x (k+1))):=Ld (by rw[j6];exact zV x g9)
    have v3:IntKind.u8.wrap ((b:Int)/16777216)=((aK b 3:Nat):Int):=by
     rw[show(b:Int)/16777216=((b/16777216:Nat):Int)from by simp,eB];rfl
    have v2:IntKind.u8.wrap ((b:Int)/65536)=((aK b 2:Nat):Int):=by
     rw[show(b:Int)/65536=((b/65536:Nat):Int)from by simp,eB];rfl
    have v1:IntKind.u8.wrap ((b:Int)/256)=((aK b 1:Nat):Int):=by
     rw[show(b:Int)/256=((b/256:Nat):Int)from by simp,eB];rfl
    have v0:IntKind.u8.wrap (b:Int)=((aK b 0:Nat):Int):=by
     rw[eB];unfold aK;rw[Nat.pow_zero,Nat.div_one]
    rw[hy]at k7;clear j6 l4 hy;have c6:Hid ((am (mA x k)).length=32):=Ld (by rw[ah,zU hk])
    go_wp2_with (refine cg 38 rfl ?_;refine eD (q:=fun _=>True) rfl (.tmp 25) (.tmp 37) 33 33 rfl 5 underlying33 rfl b5 (4*k) (32-4*k) (32-4*k) (some ⟨wr.heap.size,0,none⟩) 4 4 rfl rfl (am (mA x k)) 211 (d.out.alloc _) (am (aY 4 b)) (by rw[ah,av];show 4=min 4 (32-4*k);omega) ⟨4,am (aY 4 b),Rd.ofBlk (ab.new wr 5 #[.int .u8 (aK b 3:Nat),.int .u8 (aK b 2:Nat),.int .u8 (aK b 1:Nat),.int .u8 (aK b 0:Nat)]) 1 4 rfl trivial,List.take_length⟩ (by rw[c6.out,ah,av];omega) (aM _) ?_;intro w8 J U;rw[g3.out]at J;have c4:=Ld J;have G:Hid (Fr (fun j=>j=b5) wr w8):=Ld (((aa.al (aa.refl wr) _).toFr _).trans U);clear J U)
    have c9:Hid (aa w w8):=Ld (HN.out.fr G.out (fun j hj=>by have:=g5.out;omega));have c3:Hid (ab w8 b2 211 (af (List.replicate 32 0))):=Ld (r.out.fr G.out (by have:=g5.out;omega))
    have c7:Hid (dc w.heap.size [D] w8):=Ld (HM.out.fr G.out (fun j hj=>by
     have g8:j=b5:=hj;rw[g8]
     exact iq d.out))
    go_roundw
    case rel=>exact⟨k+1,by omega,by go_num,c9,c4,c3,c7⟩
    case measure=>simp[intOf];omega
   ·have k':Hid (k=8):=Ld (by omega);have m':¬(k:Int)<8:=by omega
    have j8:Hid (ab wr b5 211 (af (jL xs))):=Ld (by rw[j9.out,←k'.out];exact d.out);have j5:(af (jL xs)).size=32:=by rw[au,io]
    have b8:=Ld j5;clear j5 d
    go_wp2_with (first
     |(refine cg 40 rfl ?_;refine ac rfl _ rfl underlying211 rfl (by rw[b8.out];rfl) rfl j8.out ?_)
     |((with_reducible refine aA ⟨none,.store 211 (.tmp 2) _,_,_,_,_⟩ ?_);refine an rfl (.tmp 2) (.tmp 40) rfl (by rw[b8.out];rfl) rfl rfl r.out (by rw[b8.out,au,List.length_replicate]) (bw _) ?_;intro w8 J U;have c4:=Ld J;have G:=Ld U;clear J U))
    have c7:Hid (dc w.heap.size [D] w8):=Ld (HM.out.fr G.out (fun j hj=>by
     have g8:j=b2:=hj;rw[g8]
     exact iq r.out))
    have c9:Hid (aa w w8):=Ld (HN.out.fr G.out (fun j hj=>by have:=g5.out;omega));rw[k2.out];refine ez [D] w8 c7.out (fun H hS=>⟨.agg (af (jL xs)),dM rfl _ _ b2 _ _ rfl (hS.cells b2 _ c4.out rfl) underlying211 rfl (by rw[b8.out];rfl),rfl,?_⟩);exact c9.out.trans (hS.below)
end Go.Proofs.YtfchcdbfalgdlaaGreatDoor
