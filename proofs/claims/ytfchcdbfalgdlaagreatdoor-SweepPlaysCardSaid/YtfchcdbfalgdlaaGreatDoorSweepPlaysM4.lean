/- Texts of one proof. No condition but each one's own. -/
import Derived.Test.YtfchcdbfalgdlaaGreatDoorSweepPlaysM2
import Derived.Lib.SlMapMerge
import Derived.Maps.RangeWalk
import Derived.Shelf.SlMaps.Clone
import Derived.Deep.Slices
import Derived.Deep.Fields
import Derived.OpenShut
import Derived.SizedLaws
set_option maxHeartbeats 4000000
set_option maxRecDepth 100000
set_option linter.unusedVariables false
set_option linter.unusedSimpArgs false
namespace Go.Proofs.YtfchcdbfalgdlaaGreatDoor
open _root_.Go.Proofs.Tryz
open Go.RowKit Go.Sort
def fB(s:List Int)(t:Nat):Nat->Int
 | 0=>0
 |i+1=>fB s t i*256+at_ s (4*t+i)
theorem Dl(s:List Int)(t:Nat):fB s t 4=iG s t:=by
 unfold iG fB fB fB fB fB;rw[Int.zero_mul,Int.zero_add,Nat.add_zero]
theorem Gi{s:List Int}(c:ba s)(i:Nat):0<=at_ s i/\at_ s i<256:=by
 unfold at_;rw[List.getD_eq_getElem?_getD]
 cases h:s[i]? with
 |none=>simp
 |some x=>exact c x (List.mem_of_getElem? h)
theorem xY{s:List Int}(c:ba s)(t:Nat):∀i,0<=fB s t i/\fB s t i<256^i
 | 0=>by simp[fB]
 |i+1=>by
  have:=xY c t i;have h2:=Gi c (4*t+i);rw[Int.pow_succ];unfold fB;omega
theorem Bb{s:List Int}(c:ba s)(t:Nat){i:Nat}(hi:i<4):0<=fB s t i/\fB s t i<16777216:=by
 have:=xY c t i;rcases (by omega:i=0\/i=1\/i=2\/i=3)with rfl|rfl|rfl|rfl<;>omega
theorem CO(n:Nat)(L:List Int)(h:L.length<n):aQ n (L++[0])=aQ n L:=by
 unfold aQ;obtain⟨m,hm⟩:∃m,n-L.length=m+1:=⟨n-L.length-1,by omega⟩
 have h2:n-(L++[0]).length=m:=by simp;omega
 rw[hm,h2,List.replicate_succ,List.append_assoc];rfl
theorem Aq{n:Nat}{L:List Int}(x v:Int)(h:L.length<n):(aQ n (L++[x])).setIfInBounds L.length (.int .u32 v)=aQ n (L++[v]):=by
 unfold aQ;rw[bC]
 congr 1
 have h2:n-(L++[x]).length=n-(L++[v]).length:=by simp
 rw[h2,List.map_append,List.map_append,List.set_append_left _ _ (by simp),List.map_append,List.set_append_right _ _ (by simp)];simp
theorem CN{n:Nat}{L:List Int}(x:Int)(h:L.length<n):(aQ n (L++[x]))[L.length]?=some (.int .u32 x):=by
 rw[dh (by simp)];simp[at_]
theorem En(s:List Int){t:Nat}(h:t<16):aP s (t+1)=aP s t++[iG s t]:=by simp[aP,h]
theorem Em(s:List Int){t:Nat}(h:¬t<16):aP s (t+1)=aP s t++[bS (bS (bS (at_ (aP s t) (t-16)) (GC (at_ (aP s t) (t-15)))) (at_ (aP s t) (t-7))) (GD (at_ (aP s t) (t-2)))]:=by simp[aP,h]
theorem tK (x:Int) (k:Nat) (i:Int) (e:i=(k:Int)) (l:0<=x/\x<4294967296) (j:1<=k/\k<=31) (w:World):∀d os,Calls prog 173 #[.int .u32 x,.int .i64 i] (grow (redrawn w d) os) λe c=>e= .returned (.int .u32 (eH x k))/\∃p:Regrown,c=grow (redrawn w p.d) p.os:=
 e▸cn (λW _=>(fF x k W l j).mono λe w' h=>⟨h.1,by rw[<-h.2];exact aa.refl _⟩)
set_option maxHeartbeats 8000000 in
theorem qJ (S:H8) (A:Option Addr) (cap:Nat) (s:List Int) (w:World) (hK:∀t,t<64->w.cell? ⟨3,t,none⟩=some (.int .u32 (at_ kL t))) (hS:S.Ok) (hR:Rd (λb=>b<w.heap.size) w 1 A 64 (an s)) (hb:ba s):Calls prog 165 #[.agg S.arr,.slice A 64 cap] w λe w'=>e= .returned (.agg (ij S s).arr)/\aa w w':=by
 have hs:s.length=64:=by have:=hR.1;rw[ak]at this;omega
 obtain⟨bB,oB,rfl,-,-,l1⟩:=hR.out (by omega) (by omega)
 have m4:Hid (∀m,m<64->w.cell? ⟨bB,oB+m,none⟩=some (.int .u8 (at_ s m))):=Ld λm hm=>l1 m _ (by
  unfold an at_;rw[List.getElem?_map,List.getElem?_eq_getElem (by omega),List.getD_eq_getElem?_getD,List.getElem?_eq_getElem (by omega)]
  rfl)
 have HS:=Ld hs;have HB:=Ld hb;have HO:=Ld hS;have b0:Hid (ij S s=(nv (λt=>at_ kL t) (aP s 64) S 64).add S):=Ld rfl;obtain⟨K,j3⟩:∃K:Nat->Int,K=λt=>at_ kL t:=⟨_,rfl⟩
 have HK:Hid (∀t,t<64->w.cell? ⟨3,t,none⟩=some (.int .u32 (K t))):=Ld (by rw[j3];exact hK);rw[<-j3]at b0;clear hs hb hS hK j3 l1 hR;obtain⟨RA,j4⟩:=nM ((ij S s).arr);rw[<-j4];have m9:=Ld j4;clear j4;obtain⟨a,b,c,d,e,f,g,hz⟩:=S;unfold H8.arr;dsimp only
 go_enter func165,ntmps165
 go_upto_region 2 with fail;obtain⟨w1,X⟩:=nM (((w.alloc (.cells #[.int .u32 a,.int .u32 b,.int .u32 c,.int .u32 d,.int .u32 e,.int .u32 f,.int .u32 g,.int .u32 hz] 243)).alloc (.cells #[.int .u32 0,.int .u32 0,.int .u32 0,.int .u32 0,.int .u32 0,.int .u32 0,.int .u32 0,.int .u32 0] 243)).alloc (.cells #[.int .u32 0,.int .u32 0,.int .u32 0,.int .u32 0,.int .u32 0,.int .u32 0,.int .u32 0,.int .u32 0,.int .u32 0,.int .u32 0,.int .u32 0,.int .u32 0,.int .u32 0,.int .u32 0,.int .u32 0,.int .u32 0,.int .u32 0,.int .u32 0,.int .u32 0,.int .u32 0,.int .u32 0,.int .u32 0,.int .u32 0,.int .u32 0,.int .u32 0,.int .u32 0,.int .u32 0,.int .u32 0,.int .u32 0,.int .u32 0,.int .u32 0,.int .u32 0,.int .u32 0,.int .u32 0,.int .u32 0,.int .u32 0,.int .u32 0,.int .u32 0,.int .u32 0,.int .u32 0,.int .u32 0,.int .u32 0,.int .u32 0,.int .u32 0,.int .u32 0,.int .u32 0,.int .u32 0,.int .u32 0,.int .u32 0,.int .u32 0,.int .u32 0,.int .u32 0,.int .u32 0,.int .u32 0,.int .u32 0,.int .u32 0,.int .u32 0,.int .u32 0,.int .u32 0,.int .u32 0,.int .u32 0,.int .u32 0,.int .u32 0,.int .u32 0] 250):World);obtain⟨b2,g6⟩:=nM (w.heap.size);obtain⟨b4,g7⟩:=nM (w.heap.size+1);obtain⟨b5,g8⟩:=nM (w.heap.size+1+1);have l9:(#[.int .u32 0,.int .u32 0,.int .u32 0,.int .u32 0,.int .u32 0,.int .u32 0,.int .u32 0,.int .u32 0,.int .u32 0,.int .u32 0,.int .u32 0,.int .u32 0,.int .u32 0,.int .u32 0,.int .u32 0,.int .u32 0,.int .u32 0,.int .u32 0,.int .u32 0,.int .u32 0,.int .u32 0,.int .u32 0,.int .u32 0,.int .u32 0,.int .u32 0,.int .u32 0,.int .u32 0,.int .u32 0,.int .u32 0,.int .u32 0,.int .u32 0,.int .u32 0,.int .u32 0,.int .u32 0,.int .u32 0,.int .u32 0,.int .u32 0,.int .u32 0,.int .u32 0,.int .u32 0,.int .u32 0,.int .u32 0,.int .u32 0,.int .u32 0,.int .u32 0,.int .u32 0,.int .u32 0,.int .u32 0,.int .u32 0,.int .u32 0,.int .u32 0,.int .u32 0,.int .u32 0,.int .u32 0,.int .u32 0,.int .u32 0,.int .u32 0,.int .u32 0,.int .u32 0,.int .u32 0,.int .u32 0,.int .u32 0,.int .u32 0,.int .u32 0]:Array Value)=aQ 64 []:=by rfl
 have k3:Hid (aa w w1):=Ld (by rw[X];exact aa.al (aa.al (aa.al (aa.refl _) _) _) _);have l:Hid (ac w1 b2 243 (H8.arr ⟨a,b,c,d,e,f,g,hz⟩)):=Ld (by rw[X,g6];exact((ac.new _ _ _).alloc _).alloc _);have y:Hid (ac w1 b4 243 (aQ 8 [])):=Ld (by rw[X,g7];exact(ac.new' _ _ _ (by simp)).alloc _);have r:Hid (ac w1 b5 250 (aQ 64 [])):=Ld (by rw[X,g8,<-l9];exact ac.new' _ _ _ (by simp));have HZ:Hid (b2=w.heap.size/\b4=w.heap.size+1/\b5=w.heap.size+2):=Ld ⟨g6,g7,g8⟩;rw[<-X,<-g8,<-g7,<-g6];clear X g6 g7 g8 l9;obtain⟨SA,j5⟩:=nM (H8.arr ⟨a,b,c,d,e,f,g,hz⟩);rw[<-j5]at l;have k5:=Ld j5;clear j5
 go_wp2_with fail;go_loopw [6] (λi wr=>∃(t:Nat),t<=64/\i=.int .i64 t/\Hid (aa w wr)/\Hid (ac wr b2 243 SA)/\Hid (ac wr b4 243 (aQ 8 []))/\Hid (ac wr b5 250 (aQ 64 (aP s t)))) (λi _=>64-(intOf i).toNat)
 case atStart=>exact⟨0,Nat.zero_le _,rfl,k3,l,y,r⟩
 case round=>
  clear l y r k3;obtain⟨t,ht,rfl,R,l,y,r⟩:=hrel
  by_cases F:t<64
  ·have n6:(0:Int)<=(t:Int):=by omega
   have n7:(t:Int)<64:=by omega
   have T:(aP s t).length=t:=dV s t;have G:=Ld T;clear T
   by_cases k8:t<16
   ·have hd:decide ((t:Int)<16)=true:=decide_eq_true (by omega)
    have b7:Hid (ac wr b5 250 (aQ 64 (aP s t++[fB s t 0]))):=Ld (by
     have:=CO 64 (aP s t) (by rw[G.out];exact F);show ac wr b5 250 (aQ 64 (aP s t++[0]));rw[this]
     exact r.out)
    clear r;obtain⟨wo,g5⟩:=nM (wr:World);rw[<-g5]at R l y b7⊢;clear g5
    go_wp2_with fail;go_loopw [7] (λi wr=>∃(k:Nat),k<=4/\i=.int .i64 k/\Hid (aa w wr)/\Hid (ac wr b2 243 SA)/\Hid (ac wr b4 243 (aQ 8 []))/\Hid (ac wr b5 250 (aQ 64 (aP s t++[fB s t k])))) (λi _=>4-(intOf i).toNat)
    case atStart=>exact⟨0,Nat.zero_le _,rfl,R,l,y,b7⟩
    case round=>
     clear l y b7 R;obtain⟨k,hk,rfl,R,l,y,r⟩:=hrel
     by_cases n5:k<4
     ·have o0:(0:Int)<=(k:Int):=by omega
      have o1:(k:Int)<4:=by omega
      obtain⟨t4,l5⟩:=nM (4*t);obtain⟨m,hm⟩:=nM (t4+k);have e1:(4*(t:Int))=(t4:Int):=by omega
      have e2:((t4:Int)+(k:Int))=(m:Int):=by omega
      have w1:IntKind.i64.wrap (t4:Int)=(t4:Int):=IntWalk.i64_in _ (by omega);have w2:IntKind.i64.wrap (m:Int)=(m:Int):=IntWalk.i64_in _ (by omega);have o2:(m:Int)<64:=by omega
      obtain⟨pt,i'⟩:=nM (fB s t k);obtain⟨x,hx⟩:=nM (at_ s m);obtain⟨q,hq⟩:=nM (pt*256);obtain⟨pn,k0⟩:=nM (q+x);have l4:=Bb HB.out t n5;have l8:=Gi HB.out m;rw[<-i']at l4;rw[<-hx]at l8;have f1:IntKind.u32.wrap (pt*256)=q:=by rw[hq];exact iz _ (by omega) (by omega)
      have f2:IntKind.u32.wrap x=x:=iz _ (by omega) (by omega);have f3:IntKind.u32.wrap (q+x)=pn:=by rw[k0];exact iz _ (by omega) (by omega)
      have m7:Hid (pn=fB s t (k+1)):=Ld (by rw[k0,hq,i',hx,hm,l5];rfl)
      have c5:wr.cell? ⟨b5,t,none⟩=some (.int .u32 pt):=by
       have:=CN (n:=64) (L:=aP s t) (fB s t k) (by rw[G.out];exact F);rw[G.out]at this;rw[r.out.cell t,this,i']
      have cB:wr.cell? ⟨bB,oB+m,none⟩=some (.int .u8 x):=by rw[hx];exact R.out.cell_ (m4.out m (by omega))
      have m2:=Ld c5;have d5:=cell_regrown c5;have dB:=cell_regrown cB;clear c5 cB l5 hm i' hx hq k0 l4 l8
      go_wp2_with fail;refine dY 15 (by kernel_rfl) (by kernel_rfl) ?_;simp only[List.take_succ_cons,List.take_zero,List.drop_succ_cons,List.drop_zero]
      repeat(quiet_step (fail))
      refine wpQuiet_nil ?_;intro B I;have z:Hid (aa wr B):=Ld I;have e5:B.cell? ⟨b5,t,none⟩=some (.int .u32 pt):=z.out.cell_ m2.out;have f5:B.frozen? ⟨b5,t,none⟩=false:=(z.out.blk r.out).frozen t;clear d5 dB I f1 f2 f3 e1 e2 w1 w2;have HF:Hid (Fr (λj=>j=b5) B (B.setCell ⟨b5,t,none⟩ (.int .u32 pn))):=Ld ((Fr.refl (λj=>j=b5) B).setCell (p:=⟨b5,t,none⟩) (λ_=>rfl) _);have j1:Hid (aa w (B.setCell ⟨b5,t,none⟩ (.int .u32 pn))):=Ld ((R.out.tr z.out).fr HF.out (λk hk=>by have:=HZ.out;omega));have b3:Hid (ac (B.setCell ⟨b5,t,none⟩ (.int .u32 pn)) b4 243 (aQ 8 [])):=Ld ((z.out.blk y.out).fr HF.out (by have:=HZ.out;omega));have b1:Hid (ac (B.setCell ⟨b5,t,none⟩ (.int .u32 pn)) b2 243 SA):=Ld ((z.out.blk l.out).fr HF.out (by have:=HZ.out;omega))
      have i9:Hid (ac (B.setCell ⟨b5,t,none⟩ (.int .u32 pn)) b5 250 (aQ 64 (aP s t++[fB s t (k+1)]))):=Ld (by
       have:=(z.out.blk r.out).set t (.int .u32 pn);have h2:=Aq (n:=64) (L:=aP s t) (fB s t k) pn (by rw[G.out];exact F);rw[G.out]at h2;rw[h2]at this;rw[<-m7.out]
       exact this)
      go_wp2_with fail;go_roundw
      case rel=>exact⟨k+1,by omega,by go_num,j1,b1,b3,i9⟩
      case measure=>simp[intOf];omega
     ·obtain rfl:k=4:=by omega
      have b8:Hid (ac wr b5 250 (aQ 64 (aP s (t+1)))):=Ld (by rw[En s k8,<-Dl];exact r.out)
      go_wp2_with fail;go_roundw
      case rel=>exact⟨t+1,by omega,by go_num,R,l,y,b8⟩
      case measure=>simp[intOf];omega
   ·have hd:decide ((t:Int)<16)=false:=decide_eq_false (by omega);obtain⟨xx,i1⟩:=nM (at_ (aP s t) (t-15));obtain⟨yy,i3⟩:=nM (at_ (aP s t) (t-2));obtain⟨J,j2⟩:∃i,i=t-15:=⟨_,rfl⟩
    obtain⟨i2,h2⟩:∃i,i=t-2:=⟨_,rfl⟩
    obtain⟨i16,d'⟩:∃i,i=t-16:=⟨_,rfl⟩
    obtain⟨Y,h7⟩:∃i,i=t-7:=⟨_,rfl⟩
    have n1:((t:Int)-15)=(J:Int):=by omega
    have e2:((t:Int)-2)=(i2:Int):=by omega
    have n3:((t:Int)-16)=(i16:Int):=by omega
    have e7:((t:Int)-7)=(Y:Int):=by omega
    have T:(aP s t).length=t:=dV s t;have j':Hid ((aQ 64 (aP s t))[J]?=some (.int .u32 xx)):=Ld (by rw[i1,<-j2];exact dh (by omega));have m1:Hid ((aQ 64 (aP s t))[i2]?=some (.int .u32 yy)):=Ld (by rw[i3,<-h2];exact dh (by omega));have j0:Hid ((aQ 64 (aP s t))[i16]?=some (.int .u32 (at_ (aP s t) i16))):=Ld (dh (by omega));have m3:Hid ((aQ 64 (aP s t))[Y]?=some (.int .u32 (at_ (aP s t) Y))):=Ld (dh (by omega));have j6:0<=xx/\xx<4294967296:=by rw[i1];exact tR HS.out HB.out t _
    have j7:0<=yy/\yy<4294967296:=by rw[i3];exact tR HS.out HB.out t _
    have o3:(J:Int)<64:=by omega
    have l2:(i2:Int)<64:=by omega
    have o4:(i16:Int)<64:=by omega
    have l7:(Y:Int)<64:=by omega
    have n8:IntKind.i64.wrap (J:Int)=(J:Int):=IntWalk.i64_in _ (by omega);have w2:IntKind.i64.wrap (i2:Int)=(i2:Int):=IntWalk.i64_in _ (by omega);have n9:IntKind.i64.wrap (i16:Int)=(i16:Int):=IntWalk.i64_in _ (by omega);have w7:IntKind.i64.wrap (Y:Int)=(Y:Int):=IntWalk.i64_in _ (by omega);have k6:=Ld i1;have k7:=Ld i3;have HI:Hid (J=t-15/\i2=t-2/\i16=t-16/\Y=t-7):=Ld ⟨j2,h2,d',h7⟩;have d15:=cell_regrown (show wr.cell? ⟨b5,J,none⟩=some (.int .u32 xx)from(r.out.cell J).trans j'.out);have d2:=cell_regrown (show wr.cell? ⟨b5,i2,none⟩=some (.int .u32 yy)from(r.out.cell i2).trans m1.out);clear T i1 i3 j2 h2 d' h7
    go_wp2_with fail;refine wp_region_quiet_below (by kernel_rfl) (by kernel_rfl) ?_
    repeat(quiet_step (fail))
    refine wpQuiet_nil ?_;intro _ g4;obtain⟨⟨dq,M⟩,D⟩:=g4;obtain⟨B,E⟩:=nM (grow (redrawn wr dq) M);have z:Hid (aa wr B):=Ld (by rw[E];exact below_regrown _ dq M);rw[D,<-E];clear D E d15 d2;have C:Hid (ac B b5 250 (aQ 64 (aP s t))):=Ld (z.out.blk r.out)
    go_wp2_with fail;refine(fF xx 7 B j6 (by omega)).mono ?_;rintro ee w5 ⟨rfl,rfl⟩
    go_wp2_with fail;refine(fF xx 18 B j6 (by omega)).mono ?_;rintro ee w5 ⟨rfl,rfl⟩
    go_wp2_with fail;refine(fF yy 17 B j7 (by omega)).mono ?_;rintro ee w5 ⟨rfl,rfl⟩
    go_wp2_with fail;refine(fF yy 19 B j7 (by omega)).mono ?_;rintro ee w5 ⟨rfl,rfl⟩;have d16:=cell_regrown (show B.cell? ⟨b5,i16,none⟩=some (.int .u32 (at_ (aP s t) i16))from(C.out.cell i16).trans j0.out);have d7:=cell_regrown (show B.cell? ⟨b5,Y,none⟩=some (.int .u32 (at_ (aP s t) Y))from(C.out.cell Y).trans m3.out)
    go_wp2_with fail;refine dY 15 (by kernel_rfl) (by kernel_rfl) ?_;simp only[List.take_succ_cons,List.take_zero,List.drop_succ_cons,List.drop_zero]
    repeat(quiet_step (fail))
    refine wpQuiet_nil ?_;intro Wr k9;have V:Hid (aa B Wr):=Ld k9;obtain⟨v,hv⟩:=qq (n:=64) (L:=aP s t) F;have c5:Wr.cell? ⟨b5,t,none⟩=some v:=((V.out.blk C.out).cell t).trans hv;have f5:Wr.frozen? ⟨b5,t,none⟩=false:=(V.out.blk C.out).frozen t;obtain⟨val,U⟩:=nM ((bS (bS (bS (at_ (aP s t) i16) (GC xx)) (at_ (aP s t) Y)) (GD yy)));have b':IntKind.u32.wrap (IntKind.u32.wrap (IntKind.u32.wrap (at_ (aP s t) i16+bits BinOp.xor .u32 (bits BinOp.xor .u32 (eH xx 7) (eH xx 18)) (xx/8))+at_ (aP s t) Y)+bits BinOp.xor .u32 (bits BinOp.xor .u32 (eH yy 17) (eH yy 19)) (yy/1024))=val:=U.symm;rw[b'];have HF:Hid (Fr (λk=>k=b5) Wr (Wr.setCell ⟨b5,t,none⟩ (.int .u32 val))):=Ld ((Fr.refl (λk=>k=b5) Wr).setCell (p:=⟨b5,t,none⟩) (λ_=>rfl) _);have j1:Hid (aa w (Wr.setCell ⟨b5,t,none⟩ (.int .u32 val))):=Ld (((R.out.tr z.out).tr V.out).fr HF.out (λk hk=>by have:=HZ.out;omega))
    have m':Hid (ac (Wr.setCell ⟨b5,t,none⟩ (.int .u32 val)) b5 250 (aQ 64 (aP s (t+1)))):=Ld (by
     have:=(V.out.blk C.out).set t (.int .u32 val);have h2:=qt (n:=64) (L:=aP s t) val (by rw[dV];exact F);rw[dV]at h2;rw[h2,U,k6.out,k7.out,HI.out.2.2.1,HI.out.2.2.2]at this;rw[U,k6.out,k7.out,HI.out.2.2.1,HI.out.2.2.2,Em s k8]
     exact this)
    have b1:Hid (ac (Wr.setCell ⟨b5,t,none⟩ (.int .u32 val)) b2 243 SA):=Ld (((z.out.tr V.out).blk l.out).fr HF.out (by have:=HZ.out;omega));have b3:Hid (ac (Wr.setCell ⟨b5,t,none⟩ (.int .u32 val)) b4 243 (aQ 8 [])):=Ld (((z.out.tr V.out).blk y.out).fr HF.out (by have:=HZ.out;omega));clear k9 hv d16 d7 U b' j6 j7 n1 e2 n3 e7 n8 w2 n9 w7
    go_wp2_with fail;go_roundw
    case rel=>exact⟨t+1,by omega,by go_num,j1,b1,b3,m'⟩
    case measure=>simp[intOf];omega
  ·have c9:Hid (t=64):=Ld (by omega);have f':¬(t:Int)<64:=by omega
   obtain⟨Z,i0⟩:=nM (aP s 64);have n0:Hid (Z.length=64):=Ld (by rw[i0];exact dV s 64);have b9:Hid (ac wr b5 250 (aQ 64 Z)):=Ld (by rw[i0];have:=r.out;rwa[c9.out]at this);have i4:Hid (ij ⟨a,b,c,d,e,f,g,hz⟩ s=(nv K Z ⟨a,b,c,d,e,f,g,hz⟩ 64).add ⟨a,b,c,d,e,f,g,hz⟩):=Ld (by rw[i0];exact b0.out);have u:Hid (ac wr b2 243 (H8.arr ⟨a,b,c,d,e,f,g,hz⟩)):=Ld (by rw[<-k5.out];exact l.out);clear i0 r b0 l k5;obtain⟨wo,g5⟩:=nM (wr:World);rw[<-g5]at b9 u R y⊢;clear g5 F ht c9;have q0:=cell_regrown (show wo.cell? ⟨b2,0,none⟩=some (.int .u32 a)from u.out.cell 0);have q1:=cell_regrown (show wo.cell? ⟨b2,1,none⟩=some (.int .u32 b)from u.out.cell 1);have q2:=cell_regrown (show wo.cell? ⟨b2,2,none⟩=some (.int .u32 c)from u.out.cell 2);have q3:=cell_regrown (show wo.cell? ⟨b2,3,none⟩=some (.int .u32 d)from u.out.cell 3);have q4:=cell_regrown (show wo.cell? ⟨b2,4,none⟩=some (.int .u32 e)from u.out.cell 4);have q5:=cell_regrown (show wo.cell? ⟨b2,5,none⟩=some (.int .u32 f)from u.out.cell 5);have q6:=cell_regrown (show wo.cell? ⟨b2,6,none⟩=some (.int .u32 g)from u.out.cell 6);have q7:=cell_regrown (show wo.cell? ⟨b2,7,none⟩=some (.int .u32 hz)from u.out.cell 7)
   go_wp2_with fail;refine wp_region_quiet_below (by kernel_rfl) (by kernel_rfl) ?_
   repeat(quiet_step (fail))
   refine wpQuiet_nil ?_;intro _ g4;obtain⟨⟨dq,M⟩,D⟩:=g4;obtain⟨B,E⟩:=nM (grow (redrawn wo dq) M);have I:aa wo B:=by rw[E];exact below_regrown _ dq M
   have k4:Hid (aa w B):=Ld (R.out.tr I);have C:Hid (ac B b5 250 (aQ 64 Z)):=Ld (I.blk b9.out);have c':Hid (ac B b2 243 (H8.arr ⟨a,b,c,d,e,f,g,hz⟩)):=Ld (I.blk u.out);have c8:Hid (ac B b4 243 (aQ 8 [])):=Ld (I.blk y.out);rw[D,<-E];clear D E I q0 q1 q2 q3 q4 q5 q6 q7 b9 u y R f'
   go_wp2_with fail;go_loopw [12,13,14,15,16,17,18,19,20] (λva vb vc vd ve vf vg vh i wr=>∃(t:Nat) (N xb xc xd O xf xg xh:Int),t<=64/\i=.int .i64 t/\va=.int .u32 N/\vb=.int .u32 xb/\vc=.int .u32 xc/\vd=.int .u32 xd/\ve=.int .u32 O/\vf=.int .u32 xf/\vg=.int .u32 xg/\vh=.int .u32 xh/\Hid ((⟨N,xb,xc,xd,O,xf,xg,xh⟩:H8)=nv K Z ⟨a,b,c,d,e,f,g,hz⟩ t)/\Hid (aa w wr)/\Hid (ac wr b2 243 (H8.arr ⟨a,b,c,d,e,f,g,hz⟩))/\Hid (ac wr b4 243 (aQ 8 []))/\Hid (ac wr b5 250 (aQ 64 Z))) (λ_ _ _ _ _ _ _ _ i _=>64-(intOf i).toNat)
   case atStart=>exact⟨0,a,b,c,d,e,f,g,hz,Nat.zero_le _,rfl,rfl,rfl,rfl,rfl,rfl,rfl,rfl,rfl,Ld rfl,k4,c',c8,C⟩
   case round=>
    clear k4 c' c8 C;obtain⟨t,N,xb,xc,xd,O,xf,xg,xh,ht,rfl,rfl,rfl,rfl,rfl,rfl,rfl,rfl,rfl,HX,R,l,y,r⟩:=hrel;have g9:=oF (K:=K) (W:=Z) HO.out t;rw[<-HX.out]at g9;have j8:0<=N/\N<4294967296:=g9.a;have j9:0<=O/\O<4294967296:=g9.e;clear g9
    by_cases F:t<64
    ·have n6:(0:Int)<=(t:Int):=by omega
     have n7:(t:Int)<64:=by omega
     have kW:=cell_regrown (show wr.cell? ⟨b5,t,none⟩=some (.int .u32 (at_ Z t))from(r.out.cell t).trans (dh (by rw[n0.out];exact F)));have kK:=cell_regrown (show wr.cell? ⟨3,t,none⟩=some (.int .u32 (K t))from R.out.cell_ (HK.out t F));have t1:=tK O 6 6 rfl j9 (by omega) wr;have t2:=tK O 11 11 rfl j9 (by omega) wr;have t3:=tK O 25 25 rfl j9 (by omega) wr
     go_wp2_with fail;refine wp_region_quiet_below (by kernel_rfl) (by kernel_rfl) ?_
     repeat(quiet_step (with_reducible (first|exact t1 _ _|exact t2 _ _|exact t3 _ _)))
     refine wpQuiet_nil ?_;intro _ g4;obtain⟨⟨dq,M⟩,D⟩:=g4;obtain⟨B,E⟩:=nM (grow (redrawn wr dq) M);have z:Hid (aa wr B):=Ld (by rw[E];exact below_regrown _ dq M);rw[D,<-E];clear D E t1 t2 t3 kW kK;obtain⟨pv,k1⟩:=nM (cP (K t) (at_ Z t) ⟨N,xb,xc,xd,O,xf,xg,xh⟩);have g3:IntKind.u32.wrap (IntKind.u32.wrap (IntKind.u32.wrap (IntKind.u32.wrap (xh+bits BinOp.xor .u32 (bits BinOp.xor .u32 (eH O 6) (eH O 11)) (eH O 25))+bits BinOp.xor .u32 (bits BinOp.and .u32 O xf) (bits BinOp.and .u32 (bits BinOp.xor .u32 (if IntKind.u32.signed=true then-1 else IntKind.u32.max) O) xg))+K t)+at_ Z t)=pv:=k1.symm;rw[g3];have m8:=Ld k1;clear k1 g3
     go_wp2_with fail;refine(fF N 2 B j8 (by omega)).mono ?_;rintro ee w5 ⟨rfl,rfl⟩
     go_wp2_with fail;refine(fF N 13 B j8 (by omega)).mono ?_;rintro ee w5 ⟨rfl,rfl⟩
     go_wp2_with fail;refine(fF N 22 B j8 (by omega)).mono ?_;rintro ee w5 ⟨rfl,rfl⟩;have i5:=Ld (z.out.blk l.out);have i6:=Ld (z.out.blk y.out);have b8:=Ld (z.out.blk r.out);have m6:=Ld (R.out.tr z.out)
     go_wp2_with fail;go_roundw
     case rel=>
      refine⟨t+1,_,_,_,_,_,_,_,_,by omega,by go_num,rfl,rfl,rfl,rfl,rfl,rfl,rfl,rfl,Ld ?_,m6,i5,i6,b8⟩;show _=cR (K t) (at_ Z t) (nv K Z ⟨a,b,c,d,e,f,g,hz⟩ t);rw[<-HX.out];have e1:bS pv (cQ ⟨N,xb,xc,xd,O,xf,xg,xh⟩)=(pv+(fY (fY (eH N 2) (eH N 13)) (eH N 22)+fY (fY (kq N xb) (kq N xc)) (kq xb xc))%4294967296)%4294967296:=by unfold cQ;rw[oU,oU]
      have e2:=oU xd pv;unfold cR;rw[<-m8.out];dsimp only;rw[e1,e2];rfl
     case measure=>simp[intOf];omega
    ·have n':Hid (t=64):=Ld (by omega);have f':¬(t:Int)<64:=by omega
     have c0:wr.cell? ⟨b2,0,none⟩=some (.int .u32 a):=l.out.cell 0;have c1:wr.cell? ⟨b2,1,none⟩=some (.int .u32 b):=l.out.cell 1;have c2:wr.cell? ⟨b2,2,none⟩=some (.int .u32 c):=l.out.cell 2;have c3:wr.cell? ⟨b2,3,none⟩=some (.int .u32 d):=l.out.cell 3;have c4:wr.cell? ⟨b2,4,none⟩=some (.int .u32 e):=l.out.cell 4;have c5:wr.cell? ⟨b2,5,none⟩=some (.int .u32 f):=l.out.cell 5;have c6:wr.cell? ⟨b2,6,none⟩=some (.int .u32 g):=l.out.cell 6;have c7:wr.cell? ⟨b2,7,none⟩=some (.int .u32 hz):=l.out.cell 7;have k2:(aQ 8 []).size=8:=ia (by simp)
     go_wp2_with ((with_reducible refine eC ⟨none,.store 243 (.tmp 4) _,_,_,_,_⟩ ?_);refine ao rfl (.tmp 4) (.tmp 198) rfl rfl rfl rfl y.out k2 (by simp[Value.oneCell']) ?_;intro w8 l' l3;have m0:=Ld l';have m5:=Ld l3;clear l' l3)
     have k':(ij ⟨a,b,c,d,e,f,g,hz⟩ s).arr= #[.int .u32 ((a+N)%4294967296),.int .u32 ((b+xb)%4294967296),.int .u32 ((c+xc)%4294967296),.int .u32 ((d+xd)%4294967296),.int .u32 ((e+O)%4294967296),.int .u32 ((f+xf)%4294967296),.int .u32 ((g+xg)%4294967296),.int .u32 ((hz+xh)%4294967296)]:=by
      have hx:=HX.out;rw[n'.out]at hx;rw[i4.out,<-hx];simp only[H8.add,H8.arr,oU,Int.add_comm]
     rw[m9.out,k'];exact bodyPost_ret (v:=.agg _) (eh rfl _ _ b4 _ _ rfl m0.out underlying243 rfl rfl) rfl ⟨rfl,R.out.fr m5.out (λk hk=>by have:=HZ.out;omega)⟩
def gy(h:List Int)(i:Nat):List Int:=h.take i++List.replicate (h.length-i) 0
theorem xy(h:List Int):gy h h.length=h:=by simp[gy]
theorem xz{h:List Int}{i:Nat}(hi:i<=h.length):(gy h i).length=h.length:=by simp[gy];omega
theorem xB{h:List Int}{i:Nat}(hi:i<h.length):(gy h i).set i (at_ h i)=gy h (i+1):=by
 unfold gy at_;obtain⟨m,hm⟩:∃m,h.length-i=m+1:=⟨h.length-i-1,by omega⟩
 have h2:h.length-(i+1)=m:=by omega
 have hl:(h.take i).length=i:=by rw[List.length_take];omega
 rw[hm,h2,List.replicate_succ,List.set_append_right _ _ (by omega),hl,Nat.sub_self,bD,List.getD_eq_getElem?_getD,List.getElem?_eq_getElem hi,List.take_succ_eq_append_getElem hi,List.append_assoc];rfl
theorem Cw(s:List Int)(i:Nat)(v:Int):(ag s).setIfInBounds i (.int .u8 v)=ag (s.set i v):=by
 unfold ag an;rw[bC,List.map_set]
def pC(x:H8):List Int:=x.list.flatMap λy=>bj 4 y.toNat
theorem oz(x:H8):(pC x).length=32:=rfl
theorem Fs(x:H8){i:Nat}(h:i<32):at_ (pC x) i=((aL (at_ x.list (i/4)).toNat (3-i%4):Nat):Int):=by
 rcases (by omega:i=0\/i=1\/i=2\/i=3\/i=4\/i=5\/i=6\/i=7\/i=8\/i=9\/i=10\/i=11\/i=12\/i=13\/i=14\/i=15\/i=16\/i=17\/i=18\/i=19\/i=20\/i=21\/i=22\/i=23\/i=24\/i=25\/i=26\/i=27\/i=28\/i=29\/i=30\/i=31)with rfl|rfl|rfl|rfl|rfl|rfl|rfl|rfl|rfl|rfl|rfl|rfl|rfl|rfl|rfl|rfl|rfl|rfl|rfl|rfl|rfl|rfl|rfl|rfl|rfl|rfl|rfl|rfl|rfl|rfl|rfl|rfl<;>rfl
theorem CB(n k:Nat):IntKind.u8.wrap ((n:Int)/2^(8*(k:Int)).toNat)=((aL n k:Nat):Int):=by
 rw[mO,eU];rfl
theorem Aj(n k:Nat):(n:Int)/2^(8*k)%256=((aL n k:Nat):Int):=by
 have h:=CB n k;have e:(8*(k:Int)).toNat=8*k:=by omega
 rw[IntKind.wrap_u8,e]at h;exact h
structure cX(gk gi:Nat)(w:World):Prop where
 k:∀t,t<64->w.cell? ⟨gk,t,none⟩=some (.int .u32 (at_ kL t))
 i:w.rangeAt gi 0 iH.arr.toList
theorem cX.new{gk c:Nat}{w w':World}(h:cX gk c w)(d:aa w w'):cX gk c w':=⟨λt ht=>d.cell_ (h.k t ht),λj v i=>d.cell_ (h.i j v i)⟩
theorem cX.lt{gk c:Nat}{w:World}(h:cX gk c w):gk<w.heap.size/\c<w.heap.size:=⟨World.block_lt_of_cell? w _ (h.k 0 (by decide)),World.block_lt_of_cell? w _ (h.i 0 _ rfl)⟩
theorem vl{q:Nat->Prop}(A:Option Addr)(n c:Nat)(xs:List Int)(w:World)(hL:cX 3 1 w)(hR:Rd q w 1 A n (an xs))(hb:ba xs)(hn:n<=500000000):
    Calls prog 155 #[.slice A n c] w λe w'=>e=.returned (.agg (ag (kD xs)))/\aa w w':=by
 have HL:=Ld hL;have g5:=Ld (uL hb);have F:=Ld (mE xs);have l3:xs.length=n:=by have:=hR.1;rw[ak]at this;omega
 have i4:(fP xs).length<=n+80/\64<=(fP xs).length:=by
  have h1:=mE xs;have h2:=(qD xs.length).2;rw[lh,List.length_append,fe,aw]at h1⊢;omega
 have HH:Hid (kD xs=pC (eY (fP xs) ((fP xs).length/64))):=Ld rfl;obtain⟨RA,c9⟩:=nM (ag (kD xs));rw[<-c9];have j6:=Ld c9;have G:=Ld (λW (L:aa w W)=>Cq A n c xs W (L.rd hR) (by omega));obtain⟨p,hp⟩:=nM (fP xs);rw[<-hp]at g5 F HH G i4;obtain⟨N,L⟩:=nM (p.length);rw[<-L]at F HH G i4;have j5:=Ld L;clear hL hR hb l3 hp L c9
 go_enter func155,ntmps155
 go_upto_region 1 with fail;have hz:(#[.int .u8 0,.int .u8 0,.int .u8 0,.int .u8 0,.int .u8 0,.int .u8 0,.int .u8 0,.int .u8 0,.int .u8 0,.int .u8 0,.int .u8 0,.int .u8 0,.int .u8 0,.int .u8 0,.int .u8 0,.int .u8 0,.int .u8 0,.int .u8 0,.int .u8 0,.int .u8 0,.int .u8 0,.int .u8 0,.int .u8 0,.int .u8 0,.int .u8 0,.int .u8 0,.int .u8 0,.int .u8 0,.int .u8 0,.int .u8 0,.int .u8 0,.int .u8 0]:Array Value)=ag (List.replicate 32 0):=rfl;rw[hz];obtain⟨w1,b9⟩:=nM (w.alloc (.cells (ag (List.replicate 32 0)) 211):World);obtain⟨b2,Z⟩:=nM (w.heap.size);have J:Hid (aa w w1):=Ld (by rw[b9];exact aa.al (aa.refl _) _);have I:Hid (ac w1 b2 211 (ag (List.replicate 32 0))):=Ld (by rw[b9,Z,<-hz];exact ac.new _ _ _);have HZ:=Ld Z;rw[<-b9,<-Z];clear b9 Z hz
 go_wp2_with fail;refine(G.out w1 J.out).mono ?_;rintro e w2 ⟨⟨A1,d1,rfl,hO⟩,g8⟩;obtain⟨g,cap,hv,l8,m'⟩:=dv hO (by omega);injection hv with l' l1 l2;subst l' l2;have HO:=Ld hO;have B:=Ld g8;clear hO g8 l1 G
 go_wp2_with (refine cE 10 rfl ?_;refine dH rfl _ rfl rfl (((HL.out.new J.out).new B.out).i) underlying243 rfl rfl ?_;dsimp only[iH,H8.arr])
 obtain⟨y,c'⟩:=nM (w2.alloc (.cells #[.int .u32 1779033703,.int .u32 3144134277,.int .u32 1013904242,.int .u32 2773480762,.int .u32 1359893119,.int .u32 2600822924,.int .u32 528734635,.int .u32 1541459225] 243):World);obtain⟨b4,b3⟩:=nM (w2.heap.size);have s:Hid (aa w2 y):=Ld (by rw[c'];exact aa.al (aa.refl _) _);have d:Hid (ac y b4 243 (eY p 0).arr):=Ld (by rw[c',b3];exact ac.new _ _ _);have b':Hid (ac y b2 211 (ag (List.replicate 32 0))):=Ld (s.out.blk (B.out.blk I.out));have z:Hid (b4=w2.heap.size/\g<w2.heap.size/\b2<w2.heap.size/\g≠b4):=Ld ⟨b3,(am HO.out g rfl).2,(B.out.blk I.out).lt,by have:=(am HO.out g rfl).2;omega⟩
 have O:Hid (∀j v,(an p)[j]?=some v->y.cell? ⟨g,j,none⟩=some v):=Ld λj v hj=>by
  obtain⟨g',o',he,-,-,hc⟩:=(Rd.own HO.out rfl).out (by omega) (by omega);injection he with he;injection he with e1 e2;subst e1 e2;have:=hc j v hj;rw[Nat.zero_add]at this;exact s.out.cell_ this
 have S:Hid (aa w y):=Ld ((J.out.tr B.out).tr s.out);rw[<-c',<-b3];clear c' b3 I;have g3:Hid (Fr (λj=>j=b4\/y.heap.size<=j) y y):=Ld (Fr.refl _ _)
 go_loopw [5] (λi wr=>∃(k i0:Nat),k<=N/64/\Hid (i0=64*k)/\i0<=N/\i=.int .i64 i0/\Hid (Fr (λj=>j=b4\/y.heap.size<=j) y wr)/\Hid (ac wr b4 243 (eY p k).arr)) (λi _=>N-(intOf i).toNat)
 case atStart=>exact⟨0,0,Nat.zero_le _,Ld rfl,Nat.zero_le _,rfl,g3,d⟩
 case round=>
  clear g3 d;obtain⟨k,i,hk,HI,hi,rfl,HF,d⟩:=hrel
  by_cases m6:i<N
  ·have m5:i+64<=N:=by have:=F.out;have:=HI.out;omega
   have k5:k+1<=N/64:=by have:=F.out;have:=HI.out;omega
   obtain⟨j,hj⟩:=nM (i+64);have e1:(i:Int)+64=(j:Int):=by omega
   have m9:IntKind.i64.wrap (j:Int)=(j:Int):=IntWalk.i64_in _ (by omega);have m3:j-i=64:=by omega
   have m1:i<=j:=by omega
   have m2:j<=d1:=by omega
   have k3:j<=N:=by omega
   have m0:(0:Int)<=(i:Int):=by omega
   have l9:¬d1=i:=by omega
   have HJ:Hid (j=64*(k+1)):=Ld (by have:=HI.out;omega);obtain⟨st,b8⟩:=nM (eY p k);rw[<-b8]at d;obtain⟨bl,U⟩:=nM ((p.drop (64*k)).take 64);have k':Hid (eY p (k+1)=ij st bl):=Ld (by rw[b8,U];rfl);have C:bl.length=64:=by rw[U,List.length_take,List.length_drop];have:=HI.out;have:=j5.out;omega
   have j0:Hid (ba bl):=Ld (by
    rw[U];intro x hx
    exact g5.out x (List.mem_of_mem_drop (List.mem_of_mem_take hx)))
   have j7:Hid (∀T,aa wr T->Rd (λb=>b<T.heap.size) T 1 (some ⟨g,i,none⟩) 64 (an bl)):=Ld λT L=>by
    refine⟨by rw[ak,C],λ_=>⟨_,rfl,?_,?_,λj v hj=>?_⟩⟩
    ·have:=z.out;have:=s.out.size;have:=HF.out.size;have:=L.size;show g<T.heap.size;omega
    ·have:=z.out;have:=s.out.size;have:=HF.out.size;have:=L.size;show g<T.heap.size;omega
    ·have k1:j<64:=by
      have:=(List.getElem?_eq_some_iff.1 hj).1
      rwa[ak,C]at this
     have h1:(an p)[i+j]?=some v:=by
      rw[<-hj,U];unfold an;rw[List.getElem?_map,List.getElem?_map,List.getElem?_take_of_lt k1,List.getElem?_drop,HI.out]
     have h2:=O.out _ v h1
     have h3:(⟨g,i,none⟩:Addr).add j=⟨g,i+j,none⟩:=by
      unfold Addr.add
      by_cases k2:j=0<;>simp[k2]
     rw[h3]
     exact L.cell_ (HF.out.cell_some h2 (λhs=>by
      have f':g=b4\/y.heap.size<=g:=hs;have:=z.out;have:=s.out.size
      omega))
   have c7:Hid st.Ok:=Ld (by rw[b8];exact kZ p k)
   have j9:Hid (∀T,aa wr T->∀t,t<64->T.cell? ⟨3,t,none⟩=some (.int .u32 (at_ kL t))):=Ld λT L t ht=>L.cell_ (HF.out.cell_some (S.out.cell_ (HL.out.k t ht)) (λhs=>by
    have f':3=b4\/y.heap.size<=3:=hs;have h1:=HL.out.lt;have h2:=S.out.size;have h3:=J.out.size;have h4:=B.out.size;have h5:=z.out
    omega))
   clear b8 U C hj
   go_wp2_with fail;refine fi (aa wr) 7 [(true,0),(true,1),(true,2),(true,3),(true,4),(true,5),(false,6),(false,7)] (by kernel_rfl) (by kernel_rfl) (aa.dr (aa.refl wr)) (λk7=>?_);refine bM (o:=.mk ..) rfl rfl (.tmp 4) rfl rfl (λT L=>(L.blk d.out).rangeOf) underlying243 rfl rfl ?_;simp only[Act.put,bC,bD,bF]
   iterate 5 (refine af (o:=.mk ..) rfl (λK hK=>?_);go_simp;refine hK _ ?_;clear hK K)
   refine aj (o:=.mk ..) rfl (λK hK=>?_) (.inl rfl);go_simp;have i1:=qJ st (some ⟨g,i,none⟩) (d1-i) bl wr.drew (j9.out _ (aa.dr (aa.refl wr))) c7.out (j7.out _ (aa.dr (aa.refl wr))) j0.out;refine i1.mono ?_;rintro e w4 ⟨rfl,g9⟩;have c5:Hid (aa wr w4):=Ld (aa.tr (aa.dr (aa.refl wr)) g9);clear i1 g9;go_simp;refine hK.out _ _ (λ_=>c5.out) ?_;clear hK K;refine aj (o:=.mk ..) rfl (λK hK=>?_) (.inl rfl);refine cZ (cs:=(ij st bl).arr) rfl (.tmp 4) (.tmp 23) rfl rfl rfl rfl (c5.out.blk d.out) rfl (by simp[H8.arr,Value.oneCell']) ?_;intro w5 g6 g7;simp only[Act.put,bC,bD,bF];refine hK.out _ _ (λh=>absurd rfl h) ?_;have i9:Hid (ac w5 b4 243 (eY p (k+1)).arr):=Ld (by rw[k'.out];exact g6);have j2:Hid (Fr (λj=>j=b4\/y.heap.size<=j) y w5):=Ld ((HF.out.trans (c5.out.toFr _)).trans (g7.mono (λk _ hs=>.inl hs)));clear hK K k7 g6 g7;refine au ?_
   go_wp2_with fail;go_roundw
   case rel=>exact⟨k+1,j,k5,HJ,k3,rfl,j2,i9⟩
   case measure=>simp[intOf];omega
  ·have k0:i=N:=by omega
   have i3:k=N/64:=by have:=HI.out;omega
   subst k0;obtain⟨x,hx⟩:=nM (eY p k);rw[<-hx]at d;have c8:Hid x.Ok:=Ld (by rw[hx];exact kZ _ _);have j3:Hid (kD xs=pC x):=Ld (by rw[HH.out,hx,<-i3])
   have V:Hid (aa w wr):=Ld (S.out.fr HF.out (λk hs=>by
    have f':k=b4\/y.heap.size<=k:=hs;have h2:=z.out;have h1:=J.out.size;have h3:=B.out.size;have h4:=s.out.size
    omega))
   have D:Hid (ac wr b2 211 (ag (List.replicate 32 0))):=Ld (b'.out.fr HF.out (λhs=>by
    have f':b2=b4\/y.heap.size<=b2:=hs;have h2:=z.out;have h4:=s.out.size
    omega))
   have E:Hid (b4<wr.heap.size/\b2<wr.heap.size/\w.heap.size<=b4):=Ld ⟨d.out.lt,D.out.lt,by have:=z.out;have:=J.out.size;have:=B.out.size;omega⟩;clear hx i3 HF O b' HI hk hi;obtain⟨wo,i6⟩:=nM (wr:World);rw[<-i6]at d V D E⊢;clear i6
   go_wp2_with fail;have hz:(#[.int .u8 0,.int .u8 0,.int .u8 0,.int .u8 0,.int .u8 0,.int .u8 0,.int .u8 0,.int .u8 0,.int .u8 0,.int .u8 0,.int .u8 0,.int .u8 0,.int .u8 0,.int .u8 0,.int .u8 0,.int .u8 0,.int .u8 0,.int .u8 0,.int .u8 0,.int .u8 0,.int .u8 0,.int .u8 0,.int .u8 0,.int .u8 0,.int .u8 0,.int .u8 0,.int .u8 0,.int .u8 0,.int .u8 0,.int .u8 0,.int .u8 0,.int .u8 0]:Array Value)=ag (gy (pC x) 0):=rfl;rw[hz];obtain⟨W1,M⟩:=nM (wo.alloc (.cells (ag (gy (pC x) 0)) 211):World);obtain⟨b6,b7⟩:=nM (wo.heap.size);have g4:Hid (aa w W1):=Ld (by rw[M];exact aa.al V.out _);have l:Hid (ac W1 b6 211 (ag (gy (pC x) 0))):=Ld (by rw[M,b7,<-hz];exact ac.new _ _ _);have b0:Hid (ac W1 b2 211 (ag (List.replicate 32 0))):=Ld (by rw[M];exact D.out.alloc _);have b1:Hid (ac W1 b4 243 x.arr):=Ld (by rw[M];exact d.out.alloc _);have Y:Hid (w.heap.size<=b6/\b2≠b6/\b4≠b6/\w.heap.size<=b2):=Ld ⟨by rw[b7];exact V.out.size,by have:=E.out;omega,by have:=E.out;omega,by have:=HZ.out;omega⟩;rw[<-M,<-b7];clear M b7 hz V D d E
   go_loopw [7] (λi wr=>∃(k:Nat),k<=32/\i=.int .i64 k/\Hid (aa w wr)/\Hid (ac wr b6 211 (ag (gy (pC x) k)))/\Hid (ac wr b2 211 (ag (List.replicate 32 0)))/\Hid (ac wr b4 243 x.arr)) (λi _=>32-(intOf i).toNat)
   case atStart=>exact⟨0,Nat.zero_le _,rfl,g4,l,b0,b1⟩
   case round=>
    clear g4 l b0 b1;obtain⟨k,hk,rfl,HN,l,I,d⟩:=hrel
    by_cases d':k<32
    ·have m4:(0:Int)<=(k:Int):=by omega
     have k4:(k:Int)<32:=by omega
     obtain⟨r,hr⟩:=nM (k/4);obtain⟨m,hm⟩:=nM (3-k%4);have e1:(k:Int)/4=(r:Int):=by omega
     obtain⟨r4,k8⟩:=nM (k%4);have e2:(k:Int)%4=(r4:Int):=by omega
     have e3:(24:Int)-8*(r4:Int)=8*(m:Int):=by omega
     have m8:(r:Int)<8:=by omega
     have m7:(m:Int)<4:=by omega
     have k9:(r4:Int)<4:=by omega
     obtain⟨yn,i7⟩:=nM ((at_ x.list r).toNat);have l4:=H8.ok_b c8.out r;have hy:at_ x.list r=(yn:Int):=by omega
     have c4:wr.cell? ⟨b4,r,none⟩=some (.int .u32 (yn:Int)):=by
      rw[<-hy,d.out.cell r,H8.arr_list];exact dh (by show r<8;omega)
     have HV:Hid (at_ (pC x) k=((aL yn m:Nat):Int)):=Ld (by rw[Fs x d',<-hr,<-hm,i7])
     have c6:∃u,wr.cell? ⟨b6,k,none⟩=some u:=by
      rw[l.out.cell k,mM (by rw[xz (by rw[oz];omega),oz];exact d')];exact⟨_,rfl⟩
     obtain⟨u6,c6⟩:=c6;have f6:wr.frozen? ⟨b6,k,none⟩=false:=l.out.frozen k;have l7:(yn:Int)<4294967296:=by omega
     have l5:0<=(yn:Int):=by omega
     have j8:Hid ((yn:Int)/2^(8*m)%256=at_ (pC x) k):=Ld (by rw[HV.out];exact Aj yn m);clear hr hm k8 i7 hy l4
     go_wp2_with fail;rw[j8.out]
     have c3:Hid (ac (wr.setCell ⟨b6,k,none⟩ (.int .u8 (at_ (pC x) k))) b6 211 (ag (gy (pC x) (k+1)))):=Ld (by
      have:=l.out.set k (.int .u8 (at_ (pC x) k));rw[Cw,xB (by rw[oz];exact d')]at this
      exact this)
     have R:Hid (Fr (λj=>j=b6) wr (wr.setCell ⟨b6,k,none⟩ (.int .u8 (at_ (pC x) k)))):=Ld ((Fr.refl (λj=>j=b6) wr).setCell (p:=⟨b6,k,none⟩) (λ_=>rfl) _);have j4:Hid (aa w (wr.setCell ⟨b6,k,none⟩ (.int .u8 (at_ (pC x) k)))):=Ld (HN.out.fr R.out (λj hj=>by have:=Y.out;omega));have c0:Hid (ac (wr.setCell ⟨b6,k,none⟩ (.int .u8 (at_ (pC x) k))) b2 211 (ag (List.replicate 32 0))):=Ld (I.out.fr R.out (by have:=Y.out;omega));have c1:Hid (ac (wr.setCell ⟨b6,k,none⟩ (.int .u8 (at_ (pC x) k))) b4 243 x.arr):=Ld (d.out.fr R.out (by have:=Y.out;omega));go_roundw
     case rel=>exact⟨k+1,by omega,by go_num,j4,c3,c0,c1⟩
     case measure=>simp[intOf];omega
    ·obtain rfl:k=32:=by omega
     have k6:¬((32:Nat):Int)<32:=by omega
     have i5:(ag (pC x)).size=32:=by rw[aq,oz]
     have X:=Ld i5
     have j1:Hid (ac wr b6 211 (ag (pC x))):=Ld (by
      have h:=l.out;have e:gy (pC x) 32=pC x:=xy (pC x);rw[e]at h
      exact h)
     clear i5 l
     go_wp2_with (first
      |(refine cE 41 rfl ?_;refine ae rfl _ rfl underlying211 rfl (by rw[X.out];rfl) rfl j1.out ?_)
      |((with_reducible refine eC ⟨none,.store 211 (.tmp 2) _,_,_,_,_⟩ ?_);refine ao rfl (.tmp 2) (.tmp 41) rfl (by rw[X.out];rfl) rfl rfl I.out (by rw[X.out,aq,List.length_replicate]) (bH _) ?_;intro w8 i' i2;have j':=Ld i';have R:=Ld i2;clear i' i2))
     rw[j6.out,j3.out];exact bodyPost_ret (v:=.agg (ag (pC x))) (eh rfl _ _ b2 _ _ rfl j'.out underlying211 rfl (by rw[X.out];rfl)) rfl ⟨rfl,HN.out.fr R.out (λj hj=>by have:=Y.out;omega)⟩
end Go.Proofs.YtfchcdbfalgdlaaGreatDoor
namespace Go.Proofs.YtfchcdbfalgdlaaGreatDoor
open _root_.Go.Proofs.Tryz
open Go.RowKit Go.Maps
open Go.WideElems (Fit rg)
def Gy(h f:Lit->Option Value):Lit->Option Value:=λx=>match h x with|some v=>some v|none=>f x
theorem uJ{l:List Nat}:∀{m:Nat},l.Nodup->(∀x∈l,x<m)->l.length<=m:=by
 intro m
 induction m generalizing l with
 | zero=>intro _ h;cases l with
  |nil=>simp
  |cons x l=>exact absurd (h x (by simp)) (by omega)
 |succ m j=>
  intro c h
  have:=j (l:=l.erase m) (c.erase _) (λx d=>by
   have h1:=h x (List.mem_of_mem_erase d);have h2:x≠m:=λe=>by subst e;exact(List.Nodup.not_mem_erase c) d
   omega)
  have i:=List.length_erase (a:=m) (l:=l);split at i<;>omega
section
variable {P:Program}{k:TypeId}{w w':World}{b n:Nat}{f:Lit->Option Value}
theorem aJ.clear{t e:TypeId}(h:aJ w P k b n f)(ht:P.underlying t=some (.map k e))(ty:TypeId):
    ∃w',(Builtin.clear_ #[t] ty #[.map (some b)]).run P w=.ok (.tuple #[]) w'/\aJ w' P k b 0 (λ_=>none)/\Fr (λj=>j=b) w w':=by
 obtain⟨D,⟨m,clock,d,F,l,q⟩,r⟩:=h;have c:=MapKept.heap_set (o':=.map #[] clock) d;refine⟨{w with heap:=w.heap.setIfInBounds b (.map #[] clock)},by simp[Builtin.clear_,run_underlying ht,MapKept.run_getObj_map d,MapKept.run_setObj_map _ d,Result.andThen],⟨.map [],⟨#[],clock,c.1,⟨by simp,MapKept.stamped_empty clock,by simp⟩,Nat.le_refl _,rfl⟩,λkl=>by simp[Maps.has]⟩,⟨rfl,rfl,rfl,by simp,λj _ i=>c.2 j i⟩⟩
theorem aJ.tight{q:IntKind}(h:aJ w P k b n f)(K:Keyed P k)(m:Nat)(G:∀kl,f kl≠none->∃a:Nat,kl=.int q a/\a<m):aJ w P k b m f:=by
 obtain⟨D,⟨l,clock,E,F,J,rfl⟩,C⟩:=h;refine⟨_,⟨l,clock,E,F,?_,rfl⟩,C⟩;have I:=Maps.fit_apart K F
 have i:∀p∈l.toList.map (rg P k Rv),∃a:Nat,p.1=.int q a/\a<m:=λp d=>by
  refine G p.1 ?_;rw[C p.1]
  have:Maps.has (DataW.map ((l.toList.map (rg P k Rv)).foldr DataW.insert [])) p.1=true:=
   List.any_eq_true.2 ⟨p,mem_sorted.2 d,WideAt.sameKey_self ((Maps.fit_keys F|>λM=>K.one.key (M p d)))⟩
  rw[this];simp
 have j:((l.toList.map (rg P k Rv)).map λp=>match p.1 with| .int _ a=>a.toNat|_=>0).length<=m:=by
  refine uJ ?_ ?_
  ·rw[List.Nodup,List.pairwise_map];refine List.Pairwise.imp_of_mem ?_ I;intro p r d z y t;obtain⟨a,s,_⟩:=i p d;obtain⟨c,B,_⟩:=i r z;rw[s,B]at t;simp at t;exact y (by rw[s,B,t])
  ·intro x L;obtain⟨p,d,rfl⟩:=List.mem_map.1 L;obtain⟨a,s,u⟩:=i p d;rw[s]
   simpa using u
 simpa using j
theorem wL{c d i:DataW Value}{left:Lit->Bool}(m:Merged c d i left)(hl:∀k,left k=false){j l:Lit->Option Value}
    (hd:∀kl,j kl=if Maps.has d kl then some (yV (d.atKey kl (.held undef)))else none) (q:∀kl,l kl=if Maps.has i kl then some (yV (i.atKey kl (.held undef)))else none):
    ∀kl,Gy l j kl=if Maps.has c kl then some (yV (c.atKey kl (.held undef)))else none:=by
 intro kl;have h1:=m.1 kl;have h2:=m.2 kl (.held undef);rw[hl kl]at h1 h2;simp only[Bool.not_false,Bool.and_true]at h1 h2;unfold Gy;rw[q kl,hd kl,h1,h2]
 cases Maps.has i kl<;>cases Maps.has d kl<;>simp
theorem aJ.cloned{t:TypeId}(h:aJ w P k b n f):∃o,(Extern.MapsClone.clone #[.iface t (.map (some b))]).run P w=.ok (.iface t (.map (some w.heap.size))) (w.alloc o)/\aJ (w.alloc o) P k w.heap.size n f:=by
 obtain⟨D,⟨d,clock,j,F,c,i⟩,l⟩:=h;exact⟨_,run_maps_clone_sl w t j,⟨D,⟨d,clock,(MapKept.heap_alloc w _).1,F,c,i⟩,l⟩⟩
end
section
variable {P:Program}{w:World}{ops:Array Oper}{rest:List Oper}{o:Oper}{a:Act}{Q:Exit->Act->World->Prop}{b n:Nat}{f:Lit->Option Value}
theorem qQ{k e t:TypeId}(q:aJ w P k b n f)(ht:P.underlying t=some (.map k e))(r:o.guard=none)(m:Operand)(i:o.op=Op.call {callee:=Callee.builtin Builtin.clear,args:= #[m],argTypes:= #[t]})
    (hm:a.eval m=.map (some b))
    (l:∀w',aJ w' P k b 0 (λ_=>none)->Fr (λj=>j=b) w w'->wpList P ops Q rest (a.put o.dst (.tuple #[])) w'):wpList P ops Q (o::rest) a w:=by
 refine wpList_plain r λy d=>?_
 obtain⟨w',c,s,u⟩:=q.clear ht o.type;unfold Oper.wp;simp[execOp,i,resolve,invoke,builtin,hm,c,Result.andThen];exact d _ _ (l w' s u)
end
end Go.Proofs.YtfchcdbfalgdlaaGreatDoor
namespace Go.Proofs.YtfchcdbfalgdlaaGreatDoor
open _root_.Go.Proofs.Tryz
open Go.RowKit Go.ChangeShapes Go.WideShapes Go.Deep
theorem wn{α:Type}(f:α->List Value)(k:Nat):∀L:List α,(∀x∈L,(f x).length=k)->(L.flatMap f).length=L.length*k
 | [],_=>by simp
 |x::L,h=>by
  rw[List.flatMap_cons,List.length_append,h x (by simp),wn f k L (λy c=>h y (by simp[c])),List.length_cons,Nat.succ_mul];omega
theorem ta{α:Type}(f:α->List Value)(k:Nat):∀(L:List α) (i j:Nat) (hi:i<L.length),(∀x∈L,(f x).length=k)->j<k->(L.flatMap f)[i*k+j]?=(f L[i])[j]?
 | [],i,j,hi,_,_=>by simp at hi
 |x::L,0,j,hi,h,c=>by
  rw[List.flatMap_cons,Nat.zero_mul,Nat.zero_add,List.getElem?_append_left (by rw[h x (by simp)];exact c)];rfl
 |x::L,i+1,j,hi,h,c=>by
  have d:=h x (by simp);rw[List.flatMap_cons,List.getElem?_append_right (by rw[d,Nat.succ_mul];omega),d];have:(i+1)*k+j-k=i*k+j:=by rw[Nat.succ_mul];omega
  rw[this,ta f k L i j (by simpa using hi) (λy l=>h y (by simp[l])) c];rfl
theorem Fq{α:Type}(f:α->List Value)(k:Nat)(d:0<k)(L:List α)(h:∀x∈L,(f x).length=k)(q:Nat)(u:Value)(hu:(L.flatMap f)[q]?=some u):∃(i j:Nat) (hi:i<L.length),j<k/\q=i*k+j/\(f L[i])[j]?=some u:=by
 have hl:=wn f k L h;have l:q<L.length*k:=by rw[<-hl];exact(List.getElem?_eq_some_iff.1 hu).1
 have hd:q/k<L.length:=Nat.div_lt_of_lt_mul (by rwa[Nat.mul_comm]at l);have hm:q%k<k:=Nat.mod_lt _ d;have c:q=q/k*k+q%k:=by rw[Nat.mul_comm];exact(Nat.div_add_mod q k).symm
 refine⟨q/k,q%k,hd,hm,c,?_⟩;rw[<-ta f k L (q/k) (q%k) hd h hm,<-c,hu]
theorem yu{α:Type}{Q:Nat->α->Prop}:∀n,(∀i,i<n->∃x,Q i x)->∃L:List α,L.length=n/\∀i (hi:i<L.length),Q i L[i]
 | 0,_=>⟨[],rfl,λi hi=>by simp at hi⟩
 |n+1,h=>by
  obtain⟨L,hl,d⟩:=yu n λi hi=>h i (by omega)
  obtain⟨x,j⟩:=h n (by omega);refine⟨L++[x],by simp[hl],λi hi=>?_⟩
  by_cases c:i<L.length
  ·rw[List.getElem_append_left c];exact d i c
  ·have:i=n:=by simp at hi;omega
   subst this;rw[List.getElem_append_right (by omega)]
   simpa[hl]using j
def Sz{H:Type}(P:Program)(t:TypeId)(d:DataW H):Prop:=(d.weights P t).all (·<=reachBytes)=true
section
variable {H:Type}{enc:TypeId×Value->H}{P:Program}{w:World}
theorem Sz.of{i:List TypeId}{c:List (DataW H)}(h:(DataW.weightsEach P i c).all (·<=reachBytes)=true){j:Nat}{t:TypeId}{d:DataW H}(ht:i[j]?=some t)(hd:c[j]?=some d):Sz P t d:=by
 unfold Sz;rw[List.all_eq_true]at h⊢;exact λx l=>h x (DataW.weights_mem_each ht hd x l)
theorem jY{e:TypeId}:∀{c:List (DataW H)} {d:DataW H},d∈c->∀n∈d.weights P e,n∈DataW.weightsAll P e c
 |d0::c,d,hd,n,i=>by
  rcases List.mem_cons.1 hd with rfl|hd
  ·simp only[DataW.weightsAll,List.mem_append];exact .inl i
  ·simp only[DataW.weightsAll,List.mem_append];exact .inr (jY hd n i)
theorem Sz.slice{t e:TypeId}(ht:P.underlying t=some (.slice e)){xs ys:List (DataW H)}(h:Sz P t (.slice xs ys)):(xs.length+ys.length)*P.bytesOf e<=reachBytes/\∀d∈xs,Sz P e d:=by
 unfold Sz at h;simp only[DataW.weights,ht,List.all_cons,List.all_append,Bool.and_eq_true,decide_eq_true_eq]at h;refine⟨h.1,λd hd=>?_⟩;unfold Sz;rw[List.all_eq_true];exact λx c=>List.all_eq_true.1 h.2.1 x (jY hd x c)
theorem Sz.struct{t:TypeId}{c:Array Field}(ht:P.underlying t=some (.struct c)){xs:List (DataW H)}(h:Sz P t (.agg xs)){j:Nat}{f:Field}{d:DataW H}(i:c[j]?=some f)(hd:xs[j]?=some d):Sz P f.type d:=by
 unfold Sz at h;simp only[DataW.weights,ht]at h;exact Sz.of h (j:=j) (by simp[i]) hd
theorem mQ{t e:TypeId}(ht:P.underlying t=some (.slice e)){α:Type}(f:α->List Value)(k:Nat)(Z:P.cellsOf e=k)(l:0<k)(Good:α->Prop)
    (J:∀(cs:List Value) (m:Nat) (y:DataW H×List MemPlace),cs.length=k->DataW.trod enc P w 0 (λ_=>true) true m e cs=some y->Sz P e y.1->∃x:α,f x=cs/\Good x)
    {B:Nat} {v:Value} {y:DataW H×List MemPlace} (h:DataW.trod enc P w 0 (λ_=>true) true B t [v]=some y) (G:Sz P t y.1):
    ∃(A:Option Addr) (n c:Nat) (L:List α),v=.slice A n c/\n<=c/\c<=maxLen/\c*P.bytesOf e<=reachBytes/\L.length=n/\Rd (λb=>b<w.heap.size) w k A n (L.flatMap f)/\(∀x∈L,Good x)/\(∀x∈L,(f x).length=k):=by
 rcases open_slice ht h with⟨r,_⟩|⟨a,len,cap,m,n,D,X,r,_,hl,hm,F,rfl,hi⟩
 ·simp at r;subst r;exact⟨none,0,0,[],rfl,Nat.le_refl _,Nat.zero_le _,by simp,rfl,Rd.nil,by simp,by simp⟩
 ·simp at r;subst r;simp at F;subst F;obtain⟨s,R⟩:=G.slice ht;simp only[List.length_map,List.length_range]at s
  have key:∀i,i<len->∃x:α,Good x/\(f x).length=k/\∀j,j<k->w.cell? (a.add (i*k+j))=(f x)[j]? :=by
   intro i N;obtain⟨cs',V,S⟩:=hi i (by omega);rw[Z]at V;obtain⟨_,E,I⟩:=World.cells?_some V;obtain⟨x,z,Y⟩:=J cs' n (D i,X i) E S (R _ (List.mem_map_of_mem (List.mem_range.2 N)));refine⟨x,Y,by rw[z];exact E,λj O=>?_⟩;rw[z,<-I j O,uk]
  obtain⟨L,U,C⟩:=yu len key;have d:∀x∈L,(f x).length=k:=λx z=>by obtain⟨i,hi,rfl⟩:=List.getElem_of_mem z;exact(C i hi).2.1
  refine⟨some a,len,_,L,rfl,hl,hm,by rw[Nat.add_sub_cancel' hl]at s;exact s,U,⟨by rw[wn f k L d,U],λhn=>⟨a,rfl,?_,?_,?_⟩⟩,λx z=>by obtain⟨i,hi,rfl⟩:=List.getElem_of_mem z;exact(C i hi).1,d⟩
  ·have h0:=(C 0 (by omega)).2.2 0 l;have G:(f (L[0]'(by omega)))[0]?=some ((f (L[0]'(by omega)))[0]'(by rw[d _ (List.getElem_mem _)];exact l)):=List.getElem?_eq_getElem _;rw[G]at h0;have:=World.block_lt_of_cell? w _ h0
   rwa[eO]at this
  ·have h0:=(C 0 (by omega)).2.2 0 l;have G:(f (L[0]'(by omega)))[0]?=some ((f (L[0]'(by omega)))[0]'(by rw[d _ (List.getElem_mem _)];exact l)):=List.getElem?_eq_getElem _;rw[G]at h0;have:=World.block_lt_of_cell? w _ h0
   rwa[eO]at this
  ·intro q u hu;obtain⟨i,j,M,O,rfl,T⟩:=Fq f k l L d q u hu;rw[(C i M).2.2 j O,T]
theorem iJ{q:TypeId}{r:Array Field}(t:P.underlying q=some (.struct r)){m:Nat}{cs:List Value}{y:DataW H×List MemPlace}(h:DataW.trod enc P w 0 (λ_=>true) true m q cs=some y)(hz:Sz P q y.1){j:Nat}{c:Field}(i:r[j]?=some c)(u:P.cellsOf c.type=1)(l:c.offset<cs.length):
    ∃n z,DataW.trod enc P w 0 (λ_=>true) true n c.type [cs[c.offset]]=some z/\Sz P c.type z.1:=by
 obtain⟨xs,n,_,rfl,_,d,B⟩:=DataW.trod_struct t h;have:=B j c i;rw[u,List.drop_eq_getElem_cons l]at this;have s:j<xs.length:=by rw[d];exact(Array.getElem?_eq_some_iff.1 i).1
 rw[List.getElem?_eq_getElem s]at this;exact⟨n,_,this,hz.struct t i (by simp[s])⟩
theorem sh{t e:TypeId}{k:IntKind}(ht:P.underlying t=some (.slice e))(z:P.underlying e=some (.int k))(u:P.cellsOf e=1)
    {d:Nat} {v:Value} {y:DataW H×List MemPlace} (h:DataW.trod enc P w 0 (λ_=>true) true d t [v]=some y) (B:Sz P t y.1):
    ∃(A:Option Addr) (n c:Nat) (xs:List Int),v=.slice A n c/\n<=c/\c<=maxLen/\c*P.bytesOf e<=reachBytes/\xs.length=n/\Rd (λb=>b<w.heap.size) w 1 A n (xs.map (Value.int k))/\∀x∈xs,(Lit.int k x).wf=true:=by
 obtain⟨A,n,c,L,h1,h2,j,l,q,r,s,-⟩:=mQ (k:=1) ht (λx:Int=>[Value.int k x]) u (by omega) (λx=>(Lit.int k x).wf=true) (λcs m y hl i _=>by
  obtain⟨a,rfl,_,g⟩:=DataW.trod_int z i
  exact⟨a,rfl,g⟩) h B
 refine⟨A,n,c,L,h1,h2,j,l,q,?_,s⟩
 rwa[show L.flatMap (λx=>[Value.int k x])=L.map (Value.int k)from List.map_eq_flatMap.symm]at r
end
end Go.Proofs.YtfchcdbfalgdlaaGreatDoor
namespace Go.Proofs.YtfchcdbfalgdlaaGreatDoor
open _root_.Go.Proofs.Tryz
open Go.RowKit Go.Maps
def aS(s:List Int):Prop:=s.length=64/\ba s
def az:List Int:=List.replicate 64 0
theorem bh:aS az:=⟨by simp[az],λx c=>by simp[az]at c;omega⟩
def ji(xs:List Int):List Value:=xs.map (Value.int .i64)
theorem Br(xs:List Int):(ji xs).length=xs.length:=by simp[ji]
theorem uC(xs:List Int)(x:Int):ji (xs++[x])=ji xs++[.int .i64 x]:=by simp[ji]
theorem Hi:aY prog 89 3 1 8:=aY.mk' (z:=.int .i64 0) underlying89 (by kernel_rfl) rfl (by decide)
theorem kI:Keyed prog 3:=int_keyed underlying3
structure DP where
 size:Nat
 sure:Int->Option (List Int)
 fresh:Int->Option (List Int)
 order:List Int
 fuse:Int
 down:Bool
def tZ(F:Int->Option (List Int))(a:Int)(s:Option (List Int)):Int->Option (List Int):=λx=>if x=a then s else F x
structure DP.Ok(p:DP):Prop where
 s1:1<=p.size
 s2:p.size<=16384
 sureR:∀a s,p.sure a=some s->(0<=a/\a<p.size)/\aS s
 freshR:∀a s,p.fresh a=some s->(0<=a/\a<p.size)/\aS s
 nod:p.order.Nodup
 ord:∀a,a∈p.order↔p.fresh a≠none
 fz: -1<=p.fuse/\p.fuse<=9223372036854775807
def DP.new(n:Nat):DP:=⟨n,λ_=>none,λ_=>none,[],-1,false⟩
def DP.get(p:DP)(a:Int):List Int:=match p.fresh a with|some s=>s|none=>(p.sure a).getD az
def DP.put(p:DP)(a:Int)(s:List Int):DP:={p with order:=if p.fresh a=none then p.order++[a]else p.order,fresh:=tZ p.fresh a (some s)}
def DP.burn(p:DP):DP:={p with fuse:=if 0<p.fuse then p.fuse-1 else p.fuse}
def DP.write(p:DP)(a:Int)(s:List Int):DP:=p.burn.put a s
def DP.sync(p:DP):DP:={p with sure:=λa=>match p.fresh a with|some s=>some s|none=>p.sure a,fresh:=λ_=>none,order:=[]}
def cutS(p:DP)(keep:List Bool):Nat->Int->Option (List Int)
 | 0=>p.sure
 |j+1=>if keep.getD j false=true then tZ (cutS p keep j) (p.order.getD j 0) (p.fresh (p.order.getD j 0))else cutS p keep j
def DP.cut(p:DP)(keep:List Bool):DP:=⟨p.size,cutS p keep p.order.length,λ_=>none,[],-1,false⟩
theorem DP.new_ok{n:Nat}(h1:1<=n)(h2:n<=16384):(DP.new n).Ok:=
 ⟨h1,h2,λ_ _ h=>by simp[DP.new]at h,λ_ _ h=>by simp[DP.new]at h,by simp[DP.new],λa=>by simp[DP.new],by simp[DP.new]⟩
theorem DP.Ok.get{p:DP}(h:p.Ok)(a:Int):aS (p.get a):=by
 unfold DP.get
 cases hf:p.fresh a with
 |some s=>exact(h.freshR a s hf).2
 |none=>
  cases hs:p.sure a with
  |some s=>exact(h.sureR a s hs).2
  |none=>exact bh
theorem DP.Ok.inOrd{p:DP}(h:p.Ok){a:Int}(c:a∈p.order):0<=a/\a<p.size:=by
 have:=(h.ord a).1 c
 cases hf:p.fresh a with
 |none=>exact absurd hf this
 |some s=>exact(h.freshR a s hf).1
theorem DP.Ok.len{p:DP}(h:p.Ok):p.order.length<=p.size:=by
 have:(p.order.map Int.toNat).length<=p.size:=by
  refine uJ ?_ ?_
  ·rw[List.Nodup,List.pairwise_map];refine List.Pairwise.imp_of_mem ?_ h.nod;intro x y c d i j;have:=h.inOrd c;have:=h.inOrd d;omega
  ·intro x c;obtain⟨y,d,rfl⟩:=List.mem_map.1 c;have:=h.inOrd d;omega
 simpa using this
theorem DP.Ok.put{p:DP}(h:p.Ok){a:Int}(j:0<=a/\a<p.size){s:List Int}(l:aS s):(p.put a s).Ok:=by
 refine⟨h.s1,h.s2,h.sureR,?_,?_,?_,?_⟩
 ·intro b t c;simp only[DP.put,tZ]at c;split at c
  ·next e=>subst e;injection c with c;subst c;exact⟨j,l⟩
  ·exact h.freshR b t c
 ·simp only[DP.put];split
  ·next d=>
   rw[List.nodup_append];refine⟨h.nod,by simp,?_⟩;intro x m y i e;simp at i;subst i e;exact(h.ord x).1 m d
  ·exact h.nod
 ·intro b;simp only[DP.put,tZ]
  by_cases e:b=a
  ·subst e;simp only[if_true];split
   ·simp
   ·next d=>simp[(h.ord b).2 d]
  ·rw[if_neg e];split
   ·simp[e,h.ord b]
   ·exact h.ord b
 ·exact h.fz
theorem DP.Ok.burn{p:DP}(h:p.Ok):p.burn.Ok:=⟨h.s1,h.s2,h.sureR,h.freshR,h.nod,h.ord,by have:=h.fz;simp only[DP.burn];split<;>omega⟩
theorem DP.Ok.write{p:DP}(h:p.Ok){a:Int}(c:0<=a/\a<p.size){s:List Int}(d:aS s):(p.write a s).Ok:=h.burn.put c d
theorem DP.Ok.sync{p:DP}(h:p.Ok):p.sync.Ok:=by
 refine⟨h.s1,h.s2,?_,by simp[DP.sync],by simp[DP.sync],by simp[DP.sync],h.fz⟩;intro a s c;simp only[DP.sync]at c
 cases hf:p.fresh a with
 |some t=>rw[hf]at c;injection c with c;subst c;exact h.freshR a t hf
 |none=>rw[hf]at c;exact h.sureR a s c
theorem ow{p:DP}(h:p.Ok)(keep:List Bool):∀j a s,cutS p keep j a=some s->(0<=a/\a<p.size)/\aS s
 | 0,a,s,c=>h.sureR a s c
 |j+1,a,s,c=>by
  simp only[cutS]at c;split at c
  ·simp only[tZ]at c;split at c
   ·next e=>subst e;exact h.freshR _ s c
   ·exact ow h keep j a s c
  ·exact ow h keep j a s c
theorem DP.Ok.cut{p:DP}(h:p.Ok)(keep:List Bool):(p.cut keep).Ok:=
 ⟨h.s1,h.s2,ow h keep _,by simp[DP.cut],by simp[DP.cut],by simp[DP.cut],by simp[DP.cut]⟩
def mf(F:Int->Option (List Int)):Lit->Option Value
 | .int .i64 a=>(F a).map λs=>.agg (ag s)
 |_=>none
theorem BH(F:Int->Option (List Int))(a:Int)(s:Option (List Int)):ly (mf F) (.int .i64 a) (s.map λs=>.agg (ag s))=mf (tZ F a s):=by
 funext x
 by_cases h:x=.int .i64 a
 ·subst h;rw[gV (by trivial)];simp[mf,tZ]
 ·rw[fy h];unfold mf tZ;split
  ·next b=>rw[if_neg (by rintro rfl;exact h rfl)]
  ·rfl
theorem Gv (F G:Int->Option (List Int)):Gy (mf F) (mf G)=mf λa=>match F a with | some s=>some s | none=>G a:=by
 funext x
 unfold Gy mf;split
 ·next b v h => split at h
                ·next a=>cases hF:F a with
                 |none=>rw[hF]at h;cases h
                 |some s=>rw[hF]at h;simp[←h,hF]
                ·cases h
 ·next b h => split at h
              ·next a=>cases hF:F a with
               |none=>simp[hF]
               |some s=>rw[hF]at h;cases h
              ·rfl
theorem tn:mf (λ_=>none)=λ_=>none:=by funext x;unfold mf;split<;>rfl
theorem BG{F:Int->Option (List Int)}{n:Nat}(h:∀a s,F a=some s->(0<=a/\a<n)/\aS s){kl:Lit}{v:Value}(c:mf F kl=some v):∃s,v=.agg (ag s)/\aS s:=by
 unfold mf at c;split at c
 ·next a=>cases hF:F a with
  |none=>rw[hF]at c;cases c
  |some s=>rw[hF]at c;injection c with c;exact⟨s,c.symm,(h a s hF).2⟩
 ·cases c
theorem tm{F:Int->Option (List Int)}{n:Nat}(h:∀a s,F a=some s->(0<=a/\a<n)/\aS s)(kl:Lit)(c:mf F kl≠none):∃a:Nat,kl=.int .i64 a/\a<n:=by
 unfold mf at c;split at c
 ·next a=>cases hF:F a with
  |none=>rw[hF]at c;exact absurd rfl c
  |some s=>
   have:=(h a s hF).1;obtain⟨m,rfl⟩:=Int.eq_ofNat_of_zero_le this.1;exact⟨m,rfl,by omega⟩
 ·exact absurd rfl c
structure Dk(w:World)(base g bs bf:Nat)(v:Value)(p:DP):Prop where
 blk:ac w g 120 #[.int .i64 p.size,.map (some bs),.map (some bf),v,.int .i64 p.fuse,.bool p.down]
 ms:aJ w prog 3 bs p.size (mf p.sure)
 mw:aJ w prog 3 bf p.size (mf p.fresh)
 own:w.ownsRow base 3 1 v p.order.length (ji p.order)
 ne:bs≠bf
 lo:base<=g/\base<=bs/\base<=bf
 ok:p.Ok
def bW(g bs bf:Nat)(v:Value)(k:Nat):Prop:=k=g\/k=bs\/k=bf\/v.ownBlock=some k
section
variable {w w':World}{base g bs bf:Nat}{v:Value}{p:DP}
theorem Dk.fr{S:Nat->Prop}(h:Dk w base g bs bf v p)(c:Fr S w w')(d:∀k,S k->¬bW g bs bf v k):Dk w' base g bs bf v p:=
 ⟨h.blk.fr c (λk=>d _ k (.inl rfl)),h.ms.fr c (λk=>d _ k (.inr (.inl rfl))),h.mw.fr c (λk=>d _ k (.inr (.inr (.inl rfl)))),bg h.own c (λ_ i k=>d _ k (.inr (.inr (.inr i)))),h.ne,h.lo,h.ok⟩
theorem Dk.new(h:Dk w base g bs bf v p)(c:aa w w'):Dk w' base g bs bf v p:=h.fr (c.toFr ic) (λ_ x=>x.elim)
theorem Dk.ours(h:Dk w base g bs bf v p):∀k,bW g bs bf v k->base<=k/\k<w.heap.size:=by
 rintro k (rfl|rfl|rfl|c)
 ·exact⟨h.lo.1,h.blk.lt⟩
 ·exact⟨h.lo.2.1,h.ms.lt⟩
 ·exact⟨h.lo.2.2,h.mw.lt⟩
 ·exact am h.own k c
theorem mp{t:TypeId}{cs:Array Value}{P:Program}{k:TypeId}{n b:Nat}{f:Lit->Option Value}{g:Nat}(h:ac w g t cs)(hm:aJ w P k b n f):g≠b:=by
 rintro rfl;obtain⟨D,⟨d,clock,c,_⟩,_⟩:=hm;unfold ac at h;rw[h]at c
 cases c
theorem yC{e s m k:Nat}{xs:List Value}{P:Program}{i:TypeId}{n b:Nat}{f:Lit->Option Value}(h:w.ownsRow base e s v m xs)(hm:aJ w P i b n f)(c:v.ownBlock=some k):k≠b:=by
 rcases h.2 with⟨rfl,_⟩|⟨g',cap,cur,rfl,_,d,_⟩
 ·cases c
 ·have:g'=k:=by simpa [Value.ownBlock] using c
  subst this;exact mp (t:=e) d hm
theorem Dk.gs(h:Dk w base g bs bf v p):g≠bs:=mp h.blk h.ms
theorem Dk.gf(h:Dk w base g bs bf v p):g≠bf:=mp h.blk h.mw
theorem Dk.vg(h:Dk w base g bs bf v p):v.ownBlock≠some g:=bm h.own h.blk (by decide)
theorem Dk.vs(h:Dk w base g bs bf v p):∀k,v.ownBlock=some k->k≠bs:=λ_ c=>yC h.own h.ms c
theorem Dk.vf(h:Dk w base g bs bf v p):∀k,v.ownBlock=some k->k≠bf:=λ_ c=>yC h.own h.mw c
end
theorem tl {w:World} {base g bs bf:Nat} {v:Value} {p:DP} (h:Dk w base g bs bf v p) {a:Int} (h0:0<=a) (h1:a<p.size):Calls prog 71 #[.pointer (some ⟨g,0,none⟩),.int .i64 a] w λe w'=>e= .returned .nilIface/\w=w':=by
 have c:=h.blk.cell 0;have d:=h.ok.s2;clear h;have t0:decide (a<0)=false:=decide_eq_false (by omega)
 go_enter func71,ntmps71
 go_wp2_with fail;go_ret;exact⟨rfl,rfl⟩
theorem yw {w:World} {base g bs bf:Nat} {v:Value} {p:DP} (h:Dk w base g bs bf v p) {a:Int} (h1:¬(0<=a/\a<p.size)):Calls prog 71 #[.pointer (some ⟨g,0,none⟩),.int .i64 a] w λe w'=>e= .returned (.iface 38 (.int .i64 1))/\w=w':=by
 have c:=h.blk.cell 0;have d:=h.ok.s2;clear h
 by_cases h0:a<0
 ·have t0:decide (a<0)=true:=decide_eq_true h0
  go_enter func71,ntmps71
  go_wp2_with fail;go_ret;exact⟨rfl,rfl⟩
 ·have h2:(p.size:Int)<=a:=by omega
  have t0:decide (a<0)=false:=decide_eq_false h0;clear h1
  go_enter func71,ntmps71
  go_wp2_with fail;go_ret;exact⟨rfl,rfl⟩
theorem yz (n:Int) (w:World) (h:¬(1<=n/\n<=16384)):Calls prog 22 #[.int .i64 n] w λe w'=>e= .returned (.tuple #[.pointer none,.iface 38 (.int .i64 1)])/\w=w':=by
 by_cases h0:n<1
 ·go_enter func22,ntmps22
  go_wp2_with fail;go_ret2;exact⟨rfl,rfl⟩
 ·have h2:16384<n:=by omega
  clear h
  go_enter func22,ntmps22
  go_wp2_with fail;go_ret2;exact⟨rfl,rfl⟩
theorem new_ok (n : Nat) (w : World) (base : Nat) (d : base <= w.heap.size) (h1 : 1 <= n) (h2 : n <= 16384) : Calls prog 22 #[.int .i64 n] w λe w' => e = .returned (.tuple #[.pointer (some ⟨w.heap.size + 2, 0, none⟩), .nilIface]) /\
    Dk w' base (w.heap.size+2) w.heap.size (w.heap.size+1) (.slice none 0 0) (DP.new n)/\aa w w':=by
 have c:= @run_makeMap prog
 go_enter func22,ntmps22
 go_wp2_with fail;go_ret2;refine⟨rfl,⟨?_,?_,?_,World.ownsRow_nil _ _ _ _,by omega,by omega,DP.new_ok h1 h2⟩,((aa.refl w).al _ |>.al _).al _⟩
 ·exact ac.new' _ _ _ (by simp)
 ·rw[show mf (DP.new n).sure=λ_=>none from tn];exact(((aJ.made w prog 3).alloc _).alloc _).mono (by omega)
 ·rw[show mf (DP.new n).fresh=λ_=>none from tn];have:=((aJ.made (w.alloc (.map #[] 0)) prog 3).alloc (.cells #[.int .i64 n,.map (some w.heap.size),.map (some (w.heap.size+1)),.slice none 0 0,.int .i64 (-1),.bool false] 120)).mono (show 0<=n by omega)
  simpa[DP.new]using this
theorem wH {w:World} {base g bs bf:Nat} {v:Value} {p:DP} (h:Dk w base g bs bf v p):Calls prog 90 #[.pointer (some ⟨g,0,none⟩)] w λe w'=>e= .returned (.int .i64 p.size)/\w=w':=by
 have c:=h.blk.cell 0;clear h
 go_enter func90,ntmps90
 go_wp2_with fail;go_ret;exact⟨rfl,rfl⟩
theorem EB {w:World} {base g bs bf:Nat} {v:Value} {p:DP} (h:Dk w base g bs bf v p):Calls prog 42 #[.pointer (some ⟨g,0,none⟩)] w λe w'=>e= .returned (.int .i64 p.order.length)/\w=w':=by
 have d:=h.blk.cell 3;obtain⟨A,c,rfl,-,-,-,-⟩:=eT h.own;clear h
 go_enter func42,ntmps42
 go_wp2_with fail;go_ret;exact⟨rfl,rfl⟩
def DP.fused(p:DP)(a:Int):DP:={p with fuse:=max a (-1)}
theorem Dy {w:World} {base g bs bf:Nat} {v:Value} {p:DP} (h:Dk w base g bs bf v p) {a:Int} (i:(Lit.int .i64 a).wf=true):Calls prog 27 #[.pointer (some ⟨g,0,none⟩),.int .i64 a] w λe w'=>e= .returned (.tuple #[])/\Dk w' base g bs bf v (p.fused a)/\Fr (λk=>k=g) w w':=by
 have q:=bounds_i64 i;have f4:=h.blk.frozen 4;have m:=h.blk.cell 4
 have key:∀n:Int,max a (-1)=n->Dk (w.setCell ⟨g,4,none⟩ (.int .i64 n)) base g bs bf v (p.fused a):=λn l=>by
  have c:Fr (λk=>k=g) w (w.setCell ⟨g,4,none⟩ (.int .i64 n)):=(Fr.refl _ w).setCell (S:=λk=>k=g) (p:=⟨g,4,none⟩) (λ_=>rfl) _;refine⟨?_,h.ms.fr c (λe=>h.gs e.symm),h.mw.fr c (λe=>h.gf e.symm),bg h.own c (λk j e=>h.vg (by rw[j,e])),h.ne,h.lo,⟨h.ok.s1,h.ok.s2,h.ok.sureR,h.ok.freshR,h.ok.nod,h.ok.ord,by simp only[DP.fused];omega⟩⟩;have:=h.blk.set 4 (.int .i64 n)
  simpa[DP.fused,l]using this
 have d:=Ld key;clear h key
 go_enter func27,ntmps27
 go_wp2_with fail
 all_goals
  go_end0
  exact⟨rfl,d.out _ (by omega),(Fr.refl _ w).setCell (S:=λk=>k=g) (p:=⟨g,4,none⟩) (λ_=>rfl) _⟩
theorem tx (w:World):Calls prog 34 #[.nilIface] w λe w'=>e= .returned (.int .i64 0)/\w=w':=by
 go_enter func34,ntmps34
 go_wp2_with fail;go_ret;exact⟨rfl,rfl⟩
theorem xo(n:Int)(w:World):(Instr.typeAssert (.iface 38 (.int .i64 n)) 27 38 true).run prog w=.ok (.tuple #[.int .i64 n,.bool true]) w:=by
 simp[Instr.typeAssert,run_underlying underlying38]
theorem uK (n:Int) (w:World) (c:(n==0)=false):Calls prog 34 #[.iface 38 (.int .i64 n)] w λe w'=>e= .returned (.int .i64 n)/\w=w':=by
 have i:=xo n;have d:(n != 0)=true:=by simp[bne,c]
 go_enter func34,ntmps34
 go_wp2_with fail;go_ret;exact⟨rfl,rfl⟩
theorem bO:(prog.info? 68).map (λi=>(i.zero,i.size))=some (some (.agg (ag az)),64):=by kernel_rfl
theorem Az(w:World):(zeroValue 68).run prog w=.ok (.agg (ag az)) w:=(zero_of_info bO).1 w
theorem Fx{a:Int}(h0:0<=a)(h1:a<16384):keyOf prog 3 (.int .i64 a)=some (.int .i64 a):=
 keyOf_int_mk underlying3 (by simp[Lit.wf,IntKind.min,IntKind.max,IntKind.signed,IntKind.bits];omega)
theorem zt{p:DP}{a:Int}{s:List Int}(h:p.fresh a=some s):p.get a=s:=by simp[DP.get,h]
theorem Bq{p:DP}{a:Int}(h:p.fresh a=none):p.get a=(p.sure a).getD az:=by simp[DP.get,h]
theorem Eb {w:World} {base g bs bf:Nat} {v:Value} {p:DP} (h:Dk w base g bs bf v p) {a:Int} (h0:0<=a) (h1:a<p.size):Calls prog 91 #[.pointer (some ⟨g,0,none⟩),.int .i64 a] w λe w'=>e= .returned (.tuple #[.agg (ag (p.get a)),.nilIface])/\aa w w':=by
 have H:=Ld h;have B:=Fx h0 (by have:=h.ok.s2;omega);have D:=Ld B;clear h B
 go_enter func91,ntmps91
 go_wp2_with fail;obtain⟨E,l⟩:=nM (w.alloc (.cells #[.int .u8 0,.int .u8 0,.int .u8 0,.int .u8 0,.int .u8 0,.int .u8 0,.int .u8 0,.int .u8 0,.int .u8 0,.int .u8 0,.int .u8 0,.int .u8 0,.int .u8 0,.int .u8 0,.int .u8 0,.int .u8 0,.int .u8 0,.int .u8 0,.int .u8 0,.int .u8 0,.int .u8 0,.int .u8 0,.int .u8 0,.int .u8 0,.int .u8 0,.int .u8 0,.int .u8 0,.int .u8 0,.int .u8 0,.int .u8 0,.int .u8 0,.int .u8 0,.int .u8 0,.int .u8 0,.int .u8 0,.int .u8 0,.int .u8 0,.int .u8 0,.int .u8 0,.int .u8 0,.int .u8 0,.int .u8 0,.int .u8 0,.int .u8 0,.int .u8 0,.int .u8 0,.int .u8 0,.int .u8 0,.int .u8 0,.int .u8 0,.int .u8 0,.int .u8 0,.int .u8 0,.int .u8 0,.int .u8 0,.int .u8 0,.int .u8 0,.int .u8 0,.int .u8 0,.int .u8 0,.int .u8 0,.int .u8 0,.int .u8 0,.int .u8 0] 68):World);have d:Hid (aa w E):=Ld (by rw[l];exact aa.al (aa.refl _) _);have t:Hid (ac E w.heap.size 68 (ag az)):=Ld (by rw[l];exact ac.new _ _ _);have c:=Ld (H.out.new d.out);rw[<-l];clear l;refine(tl c.out h0 h1).mono ?_;rintro e L ⟨rfl,rfl⟩;have c2:=c.out.blk.cell 2
 cases hf:p.fresh a with
 |some s=>
  have y:=Ld (zt hf);have u:=Ld hf;have r:=Ld (c.out.ok.freshR a s hf).2;clear hf
  go_wp2_with (first
   |(refine cE 22 rfl ?_;refine gF (o:=⟨some 22,_,_,_,_,_⟩) c.out.mw kI underlying118 (Az _) rfl (.tmp 20) (.tmp 21) rfl rfl _ _ rfl D.out (.agg (ag s)) true (by simp[mf,u.out]) (by simp[mf,u.out]) ?_)
   |(refine cE 7 rfl ?_;refine aH (s:=s) rfl rfl rfl _ _ rfl bO rfl rfl rfl r.out.1 ?_)
   |(refine cE 26 rfl ?_;refine fo (s:=s) rfl _ rfl underlying68 rfl rfl (ac.new _ _ _) r.out.1 ?_)
   |((with_reducible refine eC ⟨none,.store 68 (.tmp 4) _,_,_,_,_⟩ ?_);refine bN (s:=s) (s0:=az) rfl (.tmp 4) (.tmp 26) rfl rfl rfl rfl (t.out.alloc _) rfl r.out.1 ?_;intro I i j;have m:=Ld i;have q:=Ld j;clear i j))
  refine bodyPost_ret (dj rfl _ _ rfl m.out underlying68 rfl r.out.1) rfl ?_;exact⟨by rw[y.out];rfl,(d.out.al _).fr q.out (λk B=>by have:=d.out.size;omega)⟩
 |none=>
  have y:=Ld (Bq hf);have u:=Ld hf;obtain⟨s,C⟩:=nM ((p.sure a).getD az)
  have z:aS s:=by
   have:=c.out.ok.get a
   rwa[y.out,<-C]at this
  have F:(mf p.sure (.int .i64 a)).getD (.agg (ag az))=.agg (ag s):=by
   rw[C]
   cases hq:p.sure a<;>simp[mf,hq]
  rw[<-C]at y;have r:=Ld z;have G:=Ld F;clear hf C z F;have J:=λo:Obj=>(aa.al (aa.refl E) o).cell_ (c.out.blk.cell 1)
  go_wp2_with (first
   |(refine cE 22 rfl ?_;refine gF (o:=⟨some 22,_,_,_,_,_⟩) c.out.mw kI underlying118 (Az _) rfl (.tmp 20) (.tmp 21) rfl rfl _ _ rfl D.out (.agg (ag az)) false (by simp[mf,u.out]) (by simp[mf,u.out]) ?_)
   |(refine cE 7 rfl ?_;refine aH (s:=az) rfl rfl rfl _ _ rfl bO rfl rfl rfl bh.1 ?_)
   |(refine cE 32 rfl ?_;refine qS (o:=⟨some 32,_,_,_,_,_⟩) (c.out.ms.alloc _) kI underlying118 (Az _) rfl (.tmp 30) (.tmp 31) rfl rfl _ _ rfl D.out (.agg (ag s)) G.out ?_)
   |((with_reducible refine eC ⟨none,.store 68 (.tmp 4) _,_,_,_,_⟩ ?_);refine bN (s:=s) (s0:=az) rfl (.tmp 4) (.tmp 32) rfl rfl rfl rfl (t.out.alloc _) rfl r.out.1 ?_;intro I i j;have m:=Ld i;have q:=Ld j;clear i j))
  refine bodyPost_ret (dj rfl _ _ rfl m.out underlying68 rfl r.out.1) rfl ?_;exact⟨by rw[y.out];rfl,(d.out.al _).fr q.out (λk B=>by have:=d.out.size;omega)⟩
theorem Ck{z:Option Addr}{a n:Int}{w:World}(d:∀w',aa w w'->Calls prog 71 #[.pointer z,.int .i64 a] w' λe u=>e=.returned (.iface 38 (.int .i64 n))/\w'=u):
    Calls prog 91 #[.pointer z,.int .i64 a] w λe w'=>e=.returned (.tuple #[.agg (ag az),.iface 38 (.int .i64 n)])/\aa w w':=by
 have B:=Ld d;have m:∀w,(Instr.build 68 #[]).run prog w=.ok (.agg (ag az)) w:=λ_=>by kernel_rfl
 clear d
 go_enter func91,ntmps91
 go_wp2_with fail;obtain⟨y,c⟩:=nM (w.alloc (.cells #[.int .u8 0,.int .u8 0,.int .u8 0,.int .u8 0,.int .u8 0,.int .u8 0,.int .u8 0,.int .u8 0,.int .u8 0,.int .u8 0,.int .u8 0,.int .u8 0,.int .u8 0,.int .u8 0,.int .u8 0,.int .u8 0,.int .u8 0,.int .u8 0,.int .u8 0,.int .u8 0,.int .u8 0,.int .u8 0,.int .u8 0,.int .u8 0,.int .u8 0,.int .u8 0,.int .u8 0,.int .u8 0,.int .u8 0,.int .u8 0,.int .u8 0,.int .u8 0,.int .u8 0,.int .u8 0,.int .u8 0,.int .u8 0,.int .u8 0,.int .u8 0,.int .u8 0,.int .u8 0,.int .u8 0,.int .u8 0,.int .u8 0,.int .u8 0,.int .u8 0,.int .u8 0,.int .u8 0,.int .u8 0,.int .u8 0,.int .u8 0,.int .u8 0,.int .u8 0,.int .u8 0,.int .u8 0,.int .u8 0,.int .u8 0,.int .u8 0,.int .u8 0,.int .u8 0,.int .u8 0,.int .u8 0,.int .u8 0,.int .u8 0,.int .u8 0] 68):World);have i:Hid (aa w y):=Ld (by rw[c];exact aa.al (aa.refl _) _);have q:Hid (ac y w.heap.size 68 (ag az)):=Ld (by rw[c];exact ac.new _ _ _);rw[<-c];clear c;refine(B.out y i.out).mono ?_;rintro e D ⟨rfl,rfl⟩
 go_wp2_with (first
     |((with_reducible refine eC ⟨none,.store 68 (.tmp 4) _,_,_,_,_⟩ ?_);refine bN (s:=az) (s0:=az) rfl (.tmp 4) (.tmp 14) rfl rfl rfl rfl q.out rfl bh.1 ?_;intro E j l;have r:=Ld j;have t:=Ld l;clear j l))
 refine bodyPost_ret (dj rfl _ _ rfl r.out underlying68 rfl bh.1) rfl ?_;exact⟨rfl,i.out.fr t.out (λk C=>by omega)⟩
theorem Cl{w:World}{base g bs bf:Nat}{v:Value}{p:DP}(h:Dk w base g bs bf v p){a:Int}(h1:¬(0<=a/\a<p.size)):Calls prog 91 #[.pointer (some ⟨g,0,none⟩),.int .i64 a] w λe w'=>e=.returned (.tuple #[.agg (ag az),.iface 38 (.int .i64 1)])/\aa w w':=Ck λw' c=>yw (h.new c) h1
theorem Aw{l:Option Addr}{a n:Int}{s:List Int}{w:World}(c:∀w',aa w w'->Calls prog 71 #[.pointer l,.int .i64 a] w' λe j=>e=.returned (.iface 38 (.int .i64 n))/\w'=j):
    Calls prog 31 #[.pointer l,.int .i64 a,.agg (ag s)] w λe w'=>e=.returned (.iface 38 (.int .i64 n))/\aa w w':=by
 have q:=Ld c;clear c
 go_enter func31,ntmps31
 go_wp2_with fail;obtain⟨m,d⟩:=nM (w.alloc (.cells (ag s) 68):World);have i:Hid (aa w m):=Ld (by rw[d];exact aa.al (aa.refl _) _);rw[<-d];clear d;refine(q.out m i.out).mono ?_;rintro e r ⟨rfl,rfl⟩
 go_wp2_with fail;go_ret;exact⟨rfl,i.out⟩
theorem Ay{w:World}{base g bs bf:Nat}{v:Value}{p:DP}(h:Dk w base g bs bf v p){a:Int}(s:List Int)(h1:¬(0<=a/\a<p.size)):Calls prog 31 #[.pointer (some ⟨g,0,none⟩),.int .i64 a,.agg (ag s)] w λe w'=>e=.returned (.iface 38 (.int .i64 1))/\aa w w':=Aw λw' c=>yw (h.new c) h1
def DP.fall(p:DP):DP:={p with down:=true}
theorem DP.Ok.fall{p:DP}(h:p.Ok):p.fall.Ok:=⟨h.s1,h.s2,h.sureR,h.freshR,h.nod,h.ord,h.fz⟩
theorem Dk.setDown{w:World}{base g bs bf:Nat}{v:Value}{p:DP}(h:Dk w base g bs bf v p)(b:Bool):Dk (w.setCell ⟨g,5,none⟩ (.bool b)) base g bs bf v {p with down:=b}:=by
 have c:Fr (λk=>k=g) w (w.setCell ⟨g,5,none⟩ (.bool b)):=(Fr.refl _ w).setCell (S:=λk=>k=g) (p:=⟨g,5,none⟩) (λ_=>rfl) _;refine⟨?_,h.ms.fr c (λe=>h.gs e.symm),h.mw.fr c (λe=>h.gf e.symm),bg h.own c (λk d e=>h.vg (by rw[d,e])),h.ne,h.lo,⟨h.ok.s1,h.ok.s2,h.ok.sureR,h.ok.freshR,h.ok.nod,h.ok.ord,h.ok.fz⟩⟩;have:=h.blk.set 5 (.bool b)
 simpa using this
theorem Dk.setFuse{w:World}{base g bs bf:Nat}{v:Value}{p:DP}(h:Dk w base g bs bf v p)(n:Int)(i: -1<=n/\n<=9223372036854775807):Dk (w.setCell ⟨g,4,none⟩ (.int .i64 n)) base g bs bf v {p with fuse:=n}:=by
 have c:Fr (λk=>k=g) w (w.setCell ⟨g,4,none⟩ (.int .i64 n)):=(Fr.refl _ w).setCell (S:=λk=>k=g) (p:=⟨g,4,none⟩) (λ_=>rfl) _;refine⟨?_,h.ms.fr c (λe=>h.gs e.symm),h.mw.fr c (λe=>h.gf e.symm),bg h.own c (λk d e=>h.vg (by rw[d,e])),h.ne,h.lo,⟨h.ok.s1,h.ok.s2,h.ok.sureR,h.ok.freshR,h.ok.nod,h.ok.ord,i⟩⟩;have:=h.blk.set 4 (.int .i64 n)
 simpa using this
theorem xP{w:World}{base g bs bf:Nat}{v:Value}{p:DP}(h:Dk w base g bs bf v p){a:Int}(s:List Int)(h0:0<=a)(h1:a<p.size)(hd:p.fuse=0\/p.down=true):
    Calls prog 31 #[.pointer (some ⟨g,0,none⟩),.int .i64 a,.agg (ag s)] w λe w'=>e=.returned (.iface 38 (.int .i64 14))/\Dk w' base g bs bf v p.fall/\Fr (λk=>k=g) w w':=by
 have H:=Ld h;clear h
 by_cases hz:p.fuse=0
 ·clear hd;have q:(p.fuse==0)=true:=by simp [hz]
  clear hz
  go_enter func31,ntmps31
  go_wp2_with fail;obtain⟨l,d⟩:=nM (w.alloc (.cells (ag s) 68):World);have i:Hid (aa w l):=Ld (by rw[d];exact aa.al (aa.refl _) _);have c:=Ld (H.out.new i.out);rw[<-d];clear d;refine(tl c.out h0 h1).mono ?_;rintro e y ⟨rfl,rfl⟩;have t:=c.out.blk.cell 4;have u:=c.out.blk.cell 5;have f5:=c.out.blk.frozen 5
  go_wp2_with fail;go_ret;exact⟨rfl,c.out.setDown true,(i.out.toFr _).setCell (S:=λk=>k=g) (p:=⟨g,5,none⟩) (λ_=>rfl) _⟩
 ·have q:(p.fuse==0)=false:=by simp [hz]
  have j:p.down=true:=hd.resolve_left hz;clear hd hz;have r:Hid (p.fall=p):=Ld (by cases p;simp only[DP.fall];simp only at j;rw[j]);have m:=Ld j;clear j
  go_enter func31,ntmps31
  go_wp2_with fail;obtain⟨l,d⟩:=nM (w.alloc (.cells (ag s) 68):World);have i:Hid (aa w l):=Ld (by rw[d];exact aa.al (aa.refl _) _);have c:=Ld (H.out.new i.out);rw[<-d];clear d;refine(tl c.out h0 h1).mono ?_;rintro e y ⟨rfl,rfl⟩;have t:=c.out.blk.cell 4;have u:l.cell? ⟨g,5,none⟩=some (.bool true):=by rw[c.out.blk.cell 5];simp[m.out]
  go_wp2_with fail;go_ret;exact⟨rfl,by rw[r.out];exact c.out,i.out.toFr _⟩
theorem yI{l y z m:World}{base g bs bf n:Nat}{v v3:Value}{p:DP}(c:Dk l base g bs bf v p){a:Int}{s:List Int}(E:0<=a/\a<p.size)(F:aS s)
    (h2:Fr (λk=>v.ownBlock=some k) l y) (D:y.ownsRow base 3 1 v3 (p.put a s).order.length (ji (p.put a s).order))
    (C:∀k,v3.ownBlock=some k->v.ownBlock=some k\/l.heap.size<=k) (q:Fr (λk=>k=g) y z) (r:ac z g 120 #[.int .i64 p.size,.map (some bs),.map (some bf),v3,.int .i64 p.fuse,.bool p.down])
    (B:aJ m prog 3 bf n (ly (mf p.fresh) (.int .i64 a) (some (.agg (ag s))))) (j:Fr (λk=>k=bf) z m):
    Dk m base g bs bf v3 (p.put a s)/\Fr (bW g bs bf v) l m:=by
 have i:=c.ok.put E F
 have u:∀k,v3.ownBlock=some k->k≠g:=λk d e=>by
  rcases C k d with h|h
  ·exact c.vg (by rw[h,e])
  ·have:=c.blk.lt;omega
 have t:∀k,v3.ownBlock=some k->k≠bf:=λk d e=>by
  rcases C k d with h|h
  ·exact c.vf k h e
  ·have:=c.mw.lt;omega
 refine⟨⟨r.fr j c.gf,?_,?_,bg (bg D q u) j t,c.ne,c.lo,i⟩,?_⟩
 ·exact((c.ms.fr h2 (λe=>c.vs _ e rfl)).fr q (λe=>c.gs e.symm)).fr j c.ne
 ·have:ly (mf p.fresh) (.int .i64 a) (some (.agg (ag s)))=mf (p.put a s).fresh:=BH p.fresh a (some s);rw[this]at B;exact B.tight kI _ λkl d=>tm i.freshR kl d
 ·exact((h2.mono λb _ h=>.inr (.inr (.inr h))).trans (q.mono λb _ h=>.inl h)).trans (j.mono λb _ h=>.inr (.inr (.inl h)))
theorem CV{w:World}{base g bs bf:Nat}{v:Value}{p:DP}(h:Dk w base g bs bf v p){a:Int}{s:List Int}(h0:0<=a)(h1:a<p.size)(hs:aS s)(hd:p.down=false)(hf:p.fuse≠0):
    Calls prog 31 #[.pointer (some ⟨g,0,none⟩),.int .i64 a,.agg (ag s)] w λe w'=>e=.returned .nilIface/\∃v',Dk w' base g bs bf v' (p.write a s)/\Fr (bW g bs bf v) w w'/\∀k,v'.ownBlock=some k->v.ownBlock=some k\/w.heap.size<=k:=by
 have H:=Ld h;have HK:=Ld (Fx h0 (by have:=h.ok.s2;omega));have HS:=Ld hs;have j3:(p.fuse==0)=false:=by simp[hf]
 have j1:=h.ok.fz;have g8:=Ld hd;clear h hs hd
 go_enter func31,ntmps31
 go_wp2_with fail;obtain⟨G,E⟩:=nM (w.alloc (.cells (ag s) 68):World);have b8:Hid (aa w G):=Ld (by rw[E];exact aa.al (aa.refl _) _);have b3:Hid (ac G w.heap.size 68 (ag s)):=Ld (by rw[E];exact ac.new _ _ _);have l:=Ld (H.out.new b8.out);rw[<-E];clear E;refine(tl l.out h0 h1).mono ?_;rintro e y ⟨rfl,rfl⟩
 obtain⟨y,g3,m,b7⟩:∃y,y=(if 0<p.fuse then G.setCell ⟨g,4,none⟩ (.int .i64 (p.fuse-1))else G)/\Hid (Dk y base g bs bf v p.burn)/\Hid (Fr (λk=>k=g) G y):=by
  refine⟨_,rfl,?_,?_⟩
  ·by_cases hp:0<p.fuse
   ·rw [if_pos hp];have:=l.out.setFuse (p.fuse-1) (by omega);have e:p.burn={p with fuse:=p.fuse-1}:=by simp [DP.burn,if_pos hp]
    exact Ld (by rw[e];exact this)
   ·rw [if_neg hp];have e:p.burn=p:=by simp [DP.burn,if_neg hp]
    exact Ld (by rw[e];exact l.out)
  ·by_cases hp:0<p.fuse
   ·rw[if_pos hp];exact Ld ((Fr.refl _ G).setCell (S:=λk=>k=g) (p:=⟨g,4,none⟩) (λ_=>rfl) _)
   ·rw[if_neg hp];exact Ld (Fr.refl _ _)
 have c4:=l.out.blk.cell 4;have f4:=l.out.blk.frozen 4;have c5:G.cell? ⟨g,5,none⟩=some (.bool false):=by rw[l.out.blk.cell 5];simp[g8.out]
 have L:¬w.heap.size=g:=λe=>by have:=H.out.blk.lt;omega
 have g5:=Ld (b3.out.fr b7.out L);have b9:=Ld g3;clear g3
 go_upto_region 10 with(fail)
 all_goals
  first
   |rw[show G.setCell ⟨g,4,none⟩ (.int .i64 (p.fuse-1))=y from by rw[b9.out,if_pos (by assumption)]]
   |rw[show G=y from by rw[b9.out,if_neg (by omega)]]
  clear c4 f4 c5 b3 j3 j1 hf;have z:Hid (Fr (bW g bs bf v) w y):=Ld ((b8.out.toFr _).trans (b7.out.mono λb _ hb=>.inl hb));have d2:=m.out.blk.cell 2;have j4:base<=y.heap.size:=by have:=m.out.lo.1;have:=m.out.blk.lt;omega
  obtain⟨r,b1⟩:=nM (y.alloc (.cells (ag ((p.fresh a).getD az)) 68):World);have u:Hid (aa y r):=Ld (by rw[b1];exact aa.al (aa.refl _) _);have N:=Ld (aa.blk u.out g5.out);have d:=Ld (m.out.new u.out);have e2:=d.out.blk.cell 2;have e3:=d.out.blk.cell 3;have j':=d.out.blk.frozen 3;have c0:=Ld b1;clear b1
  cases hfr:p.fresh a with
  |some s0=>
   as_aux_lemma=>
   have i5:=Ld (m.out.ok.freshR a s0 hfr).2;have i:=Ld hfr;clear hfr;have U:Hid (y.alloc (.cells (ag s0) 68)=r):=Ld (by rw[c0.out,i.out];rfl);have i1:Hid (aJ r.drew prog 3 bf p.size (mf p.fresh)):=Ld (d.out.mw.fr (S:=ic) ((Fr.refl _ _).drew) (λx=>x));obtain⟨w5,b0,B,j⟩:=i1.out.store kI underlying118 (by have:=d.out.ok.s2;have:p.burn.size=p.size:=rfl;unfold maxLen;omega) HK.out (.agg (an s).toArray);have T:Hid (aJ w5 prog 3 bf (p.size+1) (ly (mf p.fresh) (.int .i64 a) (some (.agg (ag s))))):=Ld B;have R:=Ld j;have Z:w5.rangeAt w.heap.size 0 (an s)/\w5.cell? ⟨g,2,none⟩=some (.map (some bf)):=⟨((N.out.drew).fr j (λe=>by have:=H.out.mw.lt;omega)).range,(d.out.blk.drew.fr j d.out.gf).cell 2⟩
   have Y:r.drew.rangeAt w.heap.size 0 (an s)/\r.drew.cell? ⟨g,2,none⟩=some (.map (some bf)):=⟨N.out.drew.range,e2⟩
   have hu:=underlying68;have hi:(prog.info? 68).map (·.size)=some (an s).length:=by rw[ak,HS.out.1];rfl
   clear B j
   go_wp2_with (first
    |(refine cE 47 rfl ?_;refine gF (o:=⟨some 47,_,_,_,_,_⟩) m.out.mw kI underlying118 (Az _) rfl (.tmp 45) (.tmp 46) rfl rfl _ _ rfl HK.out (.agg (ag s0)) true (by simp[DP.burn,mf,i.out]) (by simp[DP.burn,mf,i.out]) ?_)
    |(refine cE 8 rfl ?_;refine aH (s:=s0) rfl rfl rfl _ _ rfl bO rfl rfl rfl i5.out.1 ?_;rw[U.out]))
   go_region_held3 (λw'=>w'.rangeAt w.heap.size 0 (an s)/\w'.cell? ⟨g,2,none⟩=some (.map (some bf))) (first|exact Z|exact Y) (fail)
   go_wp2_with fail;go_ret
   have hO:r.ownsRow base 3 1 v (p.burn.put a s).order.length (ji (p.burn.put a s).order):=by
    have e:(p.burn.put a s).order=p.order:=by simp[DP.put,DP.burn,i.out]
    rw[e];exact d.out.own
   have hE:=yI d.out ⟨h0,h1⟩ HS.out (Fr.refl _ _) hO (λk hk=>.inl hk) (Fr.refl _ _) d.out.blk T.out R.out.ofDrew;exact⟨rfl,v,hE.1,(z.out.trans (u.out.toFr _)).trans hE.2,λk hk=>.inl hk⟩
  |none=>
   as_aux_lemma=>
   have i:=Ld hfr;clear hfr;have U:Hid (y.alloc (.cells (ag az) 68)=r):=Ld (by rw[c0.out,i.out];rfl);have X:r.ownsRow base 3 1 v p.order.length (ji p.order):=d.out.own;obtain⟨A,c,rfl,j6,j5,-,-⟩:=eT X;have M:p.order.length<=p.size:=l.out.ok.len;have d':p.size<=16384:=l.out.ok.s2;have c9:p.order.length+1<=maxLen:=by unfold maxLen;omega
   have i0:=Ld M;have i6:=Ld d';have i2:=Ld c9;have i3:=Ld X;have c8:(p.order.length+1)*8<=140737488355328:=by omega
   have g7:=Ld c8;have j0:base<=r.heap.size:=by have:=u.out.size;omega
   have i7:=Ld d.out.vg;clear M d' c9 X c8
   go_upto_region 13 with (first
    |(refine cE 47 rfl ?_;refine gF (o:=⟨some 47,_,_,_,_,_⟩) m.out.mw kI underlying118 (Az _) rfl (.tmp 45) (.tmp 46) rfl rfl _ _ rfl HK.out (.agg (ag az)) false (by simp[DP.burn,mf,i.out]) (by simp[DP.burn,mf,i.out]) ?_)
    |(refine cE 8 rfl ?_;refine aH (s:=az) rfl rfl rfl _ _ rfl bO rfl rfl rfl bh.1 ?_;rw[U.out])
    |(at_builtin;refine av Hi _ rfl (.tmp 56) (.tmp 58) rfl base (.slice A p.order.length c) p.order.length (ji p.order) rfl (aa.own (aa.al (aa.refl r) _) i3.out) (some ⟨r.heap.size,0,none⟩) 1 1 [.int .i64 a] rfl (Rd.ofBlk (p:=λ_=>True) (t:=3) (cs:= #[.int .i64 a]) (ac.new' _ _ _ rfl) 1 1 rfl trivial) (by simp[Value.oneCell']) i2.out g7.out (by simp;omega) ?_;intro A' c' w3 c7 V c1;have C:=(d.out.blk.alloc (.cells #[.int .i64 a] 3)).fr V (λe=>i7.out e);have m3:=C.cell 3;have q3:=C.frozen 3;have g6:=Ld C;have i4:=Ld c7;have g9:=Ld V;have g4:=Ld c1;clear C c7 V c1))
   have q:Fr (λk=>(Value.slice A p.order.length c).ownBlock=some k) r w3:=((Fr.refl _ r).alloc _).trans g9.out;obtain⟨w4,F⟩:=nM (w3.setCell ⟨g,3,none⟩ (.slice A' (p.order.length+1) c'):World);have D:Fr (λk=>k=g) w3 w4:=by rw[F];exact(Fr.refl (λk=>k=g) w3).setCell (p:=⟨g,3,none⟩) (λ_=>rfl) _
   have c3:ac w4 g 120 #[.int .i64 p.burn.size,.map (some bs),.map (some bf),.slice A' (p.order.length+1) c',.int .i64 p.burn.fuse,.bool p.burn.down]:=by rw[F];exact g6.out.set 3 _
   have c6:=(d.out.mw.fr q (λe=>d.out.vf _ e rfl)).fr (S:=λk=>k=g) D.drew (λe=>d.out.gf e.symm);have J:ac w4 w.heap.size 68 (ag s):=(N.out.fr q (λe=>by have:=H.out.ours _ (.inr (.inr (.inr e)));omega)).fr D L;rw[<-F];clear F m3 q3;have b':=Ld q;have i':=Ld D;have O:=Ld c3;have I:=Ld J;have j2:p.burn.size<maxLen:=by have:=i6.out;have:p.burn.size=p.size:=rfl;unfold maxLen;omega
   obtain⟨w5,b0,B,j⟩:=c6.store kI underlying118 j2 HK.out (.agg (an s).toArray);have T:Hid (aJ w5 prog 3 bf (p.size+1) (ly (mf p.fresh) (.int .i64 a) (some (.agg (ag s))))):=Ld B;have R:=Ld j;have i9:=O.out.cell 2;have Z:w5.rangeAt w.heap.size 0 (an s)/\w5.cell? ⟨g,2,none⟩=some (.map (some bf)):=⟨((I.out.drew).fr j (λe=>by have:=H.out.mw.lt;omega)).range,(O.out.drew.fr j d.out.gf).cell 2⟩
   have Y:w4.drew.rangeAt w.heap.size 0 (an s)/\w4.drew.cell? ⟨g,2,none⟩=some (.map (some bf)):=⟨I.out.drew.range,i9⟩
   have hu:=underlying68;have hi:(prog.info? 68).map (·.size)=some (an s).length:=by rw[ak,HS.out.1];rfl
   clear B j c6 q D c3 J e3 j' d2 e2
   go_region_held3 (λw'=>w'.rangeAt w.heap.size 0 (an s)/\w'.cell? ⟨g,2,none⟩=some (.map (some bf))) (first|exact Z|exact Y) (fail)
   go_wp2_with fail;go_ret;have he:(p.burn.put a s).order=p.order++[a]:=by simp[DP.put,DP.burn,i.out]
   have f':∀k,(Value.slice A' (p.order.length+1) c').ownBlock=some k->(Value.slice A p.order.length c).ownBlock=some k\/r.heap.size<=k:=λk hk=>by
    rcases g4.out k hk with h|h
    ·exact .inl h
    ·right;simp at h;omega
   have hE:=yI (v3:=.slice A' (p.order.length+1) c') d.out ⟨h0,h1⟩ HS.out b'.out (by rw[he,uC,List.length_append];exact i4.out) f' i'.out O.out T.out R.out.ofDrew;refine⟨rfl,_,hE.1,(z.out.trans (u.out.toFr _)).trans hE.2,λk hk=>?_⟩;rcases f' k hk with h|h
   ·exact .inl h
   ·right
    have:=u.out.size;have:=z.out.size;omega
end Go.Proofs.YtfchcdbfalgdlaaGreatDoor
