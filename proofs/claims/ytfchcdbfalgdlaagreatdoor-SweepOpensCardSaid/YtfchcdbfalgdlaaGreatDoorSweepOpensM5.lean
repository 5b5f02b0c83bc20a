/- Texts of one proof. No condition but each one's own. -/
import Derived.Test.YtfchcdbfalgdlaaGreatDoorSweepOpensM3
import Derived.Lib.SlMapMerge
import Derived.Maps.RangeWalk
import Derived.Shelf.SlMaps.Clone
import Derived.Deep.Slices
import Derived.Deep.Fields
import Derived.OpenShut
import Derived.SizedLaws
set_option maxHeartbeats 4000000
set_option maxRecDepth 100000
set_option linter.unusedVariables false
set_option linter.unusedSimpArgs false
namespace Go.Proofs.YtfchcdbfalgdlaaGreatDoor
open _root_.Go.Proofs.Tryz
open Go.RowKit Go.Sort
def eW(s:List Int)(t:Nat):Nat→Int
 | 0=>0
 |i+1=>eW s t i*256+at_ s (4*t+i)
theorem Bl(s:List Int)(t:Nat):eW s t 4=ik s t:=by
 unfold ik eW eW eW eW eW;rw[Int.zero_mul,Int.zero_add,Nat.add_zero]
theorem Eu{s:List Int}(c:aU s)(i:Nat):0≤at_ s i∧at_ s i<256:=by
 unfold at_;rw[List.getD_eq_getElem?_getD]
 cases h:s[i]? with
 |none=>simp
 |some x=>exact c x (List.mem_of_getElem? h)
theorem vU{s:List Int}(c:aU s)(t:Nat):∀i,0≤eW s t i∧eW s t i<256^i
 | 0=>by simp[eW]
 |i+1=>by
  have:=vU c t i;have h2:=Eu c (4*t+i);rw[Int.pow_succ];unfold eW;omega
theorem zh{s:List Int}(c:aU s)(t:Nat){i:Nat}(hi:i<4):0≤eW s t i∧eW s t i<16777216:=by
 have:=vU c t i;rcases (by omega:i=0∨i=1∨i=2∨i=3)with rfl|rfl|rfl|rfl<;>omega
theorem AR(n:Nat)(L:List Int)(h:L.length<n):aN n (L++[0])=aN n L:=by
 unfold aN;obtain⟨m,c⟩:∃m,n-L.length=m+1:=⟨n-L.length-1,by omega⟩
 have h2:n-(L++[0]).length=m:=by simp;omega
 rw[c,h2,List.replicate_succ,List.append_assoc];rfl
theorem yC{n:Nat}{L:List Int}(x v:Int)(h:L.length<n):(aN n (L++[x])).setIfInBounds L.length (.int .u32 v)=aN n (L++[v]):=by
 unfold aN;rw[bK]
 congr 1
 have h2:n-(L++[x]).length=n-(L++[v]).length:=by simp
 rw[h2,List.map_append,List.map_append,List.set_append_left _ _ (by simp),List.map_append,List.set_append_right _ _ (by simp)];simp
theorem AQ{n:Nat}{L:List Int}(x:Int)(h:L.length<n):(aN n (L++[x]))[L.length]?=some (.int .u32 x):=by
 rw[cK (by simp)];simp[at_]
theorem Cu(s:List Int){t:Nat}(h:t<16):aL s (t+1)=aL s t++[ik s t]:=by simp[aL,h]
theorem Ct(s:List Int){t:Nat}(h:¬t<16):aL s (t+1)=aL s t++[bI (bI (bI (at_ (aL s t) (t-16)) (EQ (at_ (aL s t) (t-15)))) (at_ (aL s t) (t-7))) (ER (at_ (aL s t) (t-2)))]:=by simp[aL,h]
theorem rZ (x:Int) (k:Nat) (i:Int) (e:i=(k:Int)) (l:0≤x∧x<4294967296) (j:1≤k∧k≤31) (w:World):∀d os,Calls prog 173 #[.int .u32 x,.int .i64 i] (grow (redrawn w d) os) fun e c=>e= .returned (.int .u32 (ef x k))∧∃p:Regrown,c=grow (redrawn w p.d) p.os:=
 e▸bV (fun W _=>(eZ x k W l j).mono fun e w' h=>⟨h.1,by rw[←h.2];exact aa.refl _⟩)
set_option maxHeartbeats 8000000 in
theorem pF (S:H8) (A:Option Addr) (cap:Nat) (s:List Int) (w:World) (hK:∀t,t<64→w.cell? ⟨3,t,none⟩=some (.int .u32 (at_ kL t))) (hS:S.Ok) (hR:Rd (fun b=>b<w.heap.size) w 1 A 64 (am s)) (hb:aU s):Calls prog 165 #[.agg S.arr,.slice A 64 cap] w fun e w'=>e= .returned (.agg (gL S s).arr)∧aa w w':=by
 have hs:s.length=64:=by have:=hR.1;rw[ah]at this;omega
 obtain⟨bB,oB,rfl,-,-,l1⟩:=hR.out (by omega) (by omega)
 have m4:Hid (∀m,m<64→w.cell? ⟨bB,oB+m,none⟩=some (.int .u8 (at_ s m))):=Ld fun m hm=>l1 m _ (by
  unfold am at_;rw[List.getElem?_map,List.getElem?_eq_getElem (by omega),List.getD_eq_getElem?_getD,List.getElem?_eq_getElem (by omega)]
  rfl)
 have HS:=Ld hs;have HB:=Ld hb;have HO:=Ld hS;have b0:Hid (gL S s=(mE (fun t=>at_ kL t) (aL s 64) S 64).add S):=Ld rfl;obtain⟨K,j3⟩:∃K:Nat→Int,K=fun t=>at_ kL t:=⟨_,rfl⟩
 have HK:Hid (∀t,t<64→w.cell? ⟨3,t,none⟩=some (.int .u32 (K t))):=Ld (by rw[j3];exact hK);rw[←j3]at b0;clear hs hb hS hK j3 l1 hR;obtain⟨RA,j4⟩:=nM ((gL S s).arr);rw[←j4];have m9:=Ld j4;clear j4;obtain⟨a,b,c,d,e,f,g,N⟩:=S;unfold H8.arr;dsimp only
 go_enter func165,ntmps165
 go_upto_region 2 with fail
 obtain⟨w1,Y⟩:=nM (((w.alloc (.cells #[.int .u32 a,.int .u32 b,.int .u32 c,.int .u32 d,.int .u32 e,.int .u32 f,.int .u32 g,.int .u32 N] 243)).alloc (.cells #[.int .u32 0,.int .u32 0,.int .u32 0,.int .u32 0,.int .u32 0,.int .u32 0,.int .u32 0,.int .u32 0] 243)).alloc (.cells #[.int .u32 0,.int .u32 0,.int .u32 0,.int .u32 0,.int .u32 0,.int .u32 0,.int .u32 0,.int .u32 0,.int .u32 0,.int .u32 0,.int .u32 0,.int .u32 0,.int .u32 0,.int .u32 0,.int .u32 0,.int .u32 0,.int .u32 0,.int .u32 0,.int .u32 0,.int .u32 0,.int .u32 0,.int .u32 0,.int .u32 0,.int .u32 0,.int .u32 0,.int .u32 0,.int .u32 0,.int .u32 0,.int .u32 0,.int .u32 0,.int .u32 0,.int .u32 0,.int .u32 0,.int .u32 0,.int .u32 0,.int .u32 0,.int .u32 0,.int .u32 0,.int .u32 0,.int .u32 0,.int .u32 0,.int .u32 0,.int .u32 0,.int .u32 0,.int .u32 0,.int .u32 0,.int .u32 0,.int .u32 0,.int .u32 0,.int .u32 0,.int .u32 0,.int .u32 0,.int .u32 0,.int .u32 0,.int .u32 0,.int .u32 0,.int .u32 0,.int .u32 0,.int .u32 0,.int .u32 0,.int .u32 0,.int .u32 0,.int .u32 0,.int .u32 0] 250):World);obtain⟨b2,g6⟩:=nM (w.heap.size);obtain⟨b4,g7⟩:=nM (w.heap.size+1);obtain⟨b5,g8⟩:=nM (w.heap.size+1+1);have l9:(#[.int .u32 0,.int .u32 0,.int .u32 0,.int .u32 0,.int .u32 0,.int .u32 0,.int .u32 0,.int .u32 0,.int .u32 0,.int .u32 0,.int .u32 0,.int .u32 0,.int .u32 0,.int .u32 0,.int .u32 0,.int .u32 0,.int .u32 0,.int .u32 0,.int .u32 0,.int .u32 0,.int .u32 0,.int .u32 0,.int .u32 0,.int .u32 0,.int .u32 0,.int .u32 0,.int .u32 0,.int .u32 0,.int .u32 0,.int .u32 0,.int .u32 0,.int .u32 0,.int .u32 0,.int .u32 0,.int .u32 0,.int .u32 0,.int .u32 0,.int .u32 0,.int .u32 0,.int .u32 0,.int .u32 0,.int .u32 0,.int .u32 0,.int .u32 0,.int .u32 0,.int .u32 0,.int .u32 0,.int .u32 0,.int .u32 0,.int .u32 0,.int .u32 0,.int .u32 0,.int .u32 0,.int .u32 0,.int .u32 0,.int .u32 0,.int .u32 0,.int .u32 0,.int .u32 0,.int .u32 0,.int .u32 0,.int .u32 0,.int .u32 0,.int .u32 0]:Array Value)=aN 64 []:=by rfl
 have k3:Hid (aa w w1):=Ld (by rw[Y];exact aa.al (aa.al (aa.al (aa.refl _) _) _) _);have l:Hid (ab w1 b2 243 (H8.arr ⟨a,b,c,d,e,f,g,N⟩)):=Ld (by rw[Y,g6];exact((ab.new _ _ _).alloc _).alloc _);have y:Hid (ab w1 b4 243 (aN 8 [])):=Ld (by rw[Y,g7];exact(ab.new' _ _ _ (by simp)).alloc _);have r:Hid (ab w1 b5 250 (aN 64 [])):=Ld (by rw[Y,g8,←l9];exact ab.new' _ _ _ (by simp));have HZ:Hid (b2=w.heap.size∧b4=w.heap.size+1∧b5=w.heap.size+2):=Ld ⟨g6,g7,g8⟩;rw[←Y,←g8,←g7,←g6];clear Y g6 g7 g8 l9;obtain⟨SA,j5⟩:=nM (H8.arr ⟨a,b,c,d,e,f,g,N⟩);rw[←j5]at l;have k5:=Ld j5;clear j5
 go_wp2_with fail
 go_loopw [6] (fun i wr=>∃(t:Nat),t≤64∧i=.int .i64 t∧Hid (aa w wr)∧Hid (ab wr b2 243 SA)∧Hid (ab wr b4 243 (aN 8 []))∧Hid (ab wr b5 250 (aN 64 (aL s t)))) (fun i _=>64-(intOf i).toNat)
 case atStart=>exact⟨0,Nat.zero_le _,rfl,k3,l,y,r⟩
 case round=>
  clear l y r k3;obtain⟨t,ht,rfl,T,l,y,r⟩:=hrel
  by_cases F:t<64
  ·have n5:(0:Int)≤(t:Int):=by omega
   have n6:(t:Int)<64:=by omega
   have U:(aL s t).length=t:=dy s t;have G:=Ld U;clear U
   by_cases k8:t<16
   ·have hd:decide ((t:Int)<16)=true:=decide_eq_true (by omega)
    have b7:Hid (ab wr b5 250 (aN 64 (aL s t++[eW s t 0]))):=Ld (by
     have:=AR 64 (aL s t) (by rw[G.out];exact F);show ab wr b5 250 (aN 64 (aL s t++[0]));rw[this]
     exact r.out)
    clear r;obtain⟨wo,g5⟩:=nM (wr:World);rw[←g5]at T l y b7⊢;clear g5
    go_wp2_with fail
    go_loopw [7] (fun i wr=>∃(k:Nat),k≤4∧i=.int .i64 k∧Hid (aa w wr)∧Hid (ab wr b2 243 SA)∧Hid (ab wr b4 243 (aN 8 []))∧Hid (ab wr b5 250 (aN 64 (aL s t++[eW s t k])))) (fun i _=>4-(intOf i).toNat)
    case atStart=>exact⟨0,Nat.zero_le _,rfl,T,l,y,b7⟩
    case round=>
     clear l y b7 T;obtain⟨k,hk,rfl,T,l,y,r⟩:=hrel
     by_cases n3:k<4
     ·have n9:(0:Int)≤(k:Int):=by omega
      have o0:(k:Int)<4:=by omega
      obtain⟨t4,l5⟩:=nM (4*t);obtain⟨m,hm⟩:=nM (t4+k);have e1:(4*(t:Int))=(t4:Int):=by omega
      have e2:((t4:Int)+(k:Int))=(m:Int):=by omega
      have w1:IntKind.i64.wrap (t4:Int)=(t4:Int):=IntWalk.i64_in _ (by omega);have w2:IntKind.i64.wrap (m:Int)=(m:Int):=IntWalk.i64_in _ (by omega);have o1:(m:Int)<64:=by omega
      obtain⟨pt,i'⟩:=nM (eW s t k);obtain⟨x,hx⟩:=nM (at_ s m);obtain⟨q,hq⟩:=nM (pt*256);obtain⟨pn,k0⟩:=nM (q+x);have l4:=zh HB.out t n3;have l8:=Eu HB.out m;rw[←i']at l4;rw[←hx]at l8;have f1:IntKind.u32.wrap (pt*256)=q:=by rw[hq];exact gY _ (by omega) (by omega)
      have f2:IntKind.u32.wrap x=x:=gY _ (by omega) (by omega);have f3:IntKind.u32.wrap (q+x)=pn:=by rw[k0];exact gY _ (by omega) (by omega)
      have m7:Hid (pn=eW s t (k+1)):=Ld (by rw[k0,hq,i',hx,hm,l5];rfl)
      have c5:wr.cell? ⟨b5,t,none⟩=some (.int .u32 pt):=by
       have:=AQ (n:=64) (L:=aL s t) (eW s t k) (by rw[G.out];exact F);rw[G.out]at this;rw[r.out.cell t,this,i']
      have cB:wr.cell? ⟨bB,oB+m,none⟩=some (.int .u8 x):=by rw[hx];exact T.out.cell_ (m4.out m (by omega))
      have m2:=Ld c5;have d5:=cell_regrown c5;have dB:=cell_regrown cB;clear c5 cB l5 hm i' hx hq k0 l4 l8
      go_wp2_with fail
      refine dE 15 (by kernel_rfl) (by kernel_rfl) ?_;simp only[List.take_succ_cons,List.take_zero,List.drop_succ_cons,List.drop_zero]
      repeat(quiet_step (fail))
      refine wpQuiet_nil ?_;intro B I;have z:Hid (aa wr B):=Ld I;have e5:B.cell? ⟨b5,t,none⟩=some (.int .u32 pt):=z.out.cell_ m2.out;have f5:B.frozen? ⟨b5,t,none⟩=false:=(z.out.blk r.out).frozen t;clear d5 dB I f1 f2 f3 e1 e2 w1 w2;have HF:Hid (Fr (fun j=>j=b5) B (B.setCell ⟨b5,t,none⟩ (.int .u32 pn))):=Ld ((Fr.refl (fun j=>j=b5) B).setCell (p:=⟨b5,t,none⟩) (fun _=>rfl) _);have j1:Hid (aa w (B.setCell ⟨b5,t,none⟩ (.int .u32 pn))):=Ld ((T.out.tr z.out).fr HF.out (fun k hk=>by have:=HZ.out;omega));have b3:Hid (ab (B.setCell ⟨b5,t,none⟩ (.int .u32 pn)) b4 243 (aN 8 [])):=Ld ((z.out.blk y.out).fr HF.out (by have:=HZ.out;omega));have b1:Hid (ab (B.setCell ⟨b5,t,none⟩ (.int .u32 pn)) b2 243 SA):=Ld ((z.out.blk l.out).fr HF.out (by have:=HZ.out;omega))
      have i9:Hid (ab (B.setCell ⟨b5,t,none⟩ (.int .u32 pn)) b5 250 (aN 64 (aL s t++[eW s t (k+1)]))):=Ld (by
       have:=(z.out.blk r.out).set t (.int .u32 pn);have h2:=yC (n:=64) (L:=aL s t) (eW s t k) pn (by rw[G.out];exact F);rw[G.out]at h2;rw[h2]at this;rw[←m7.out]
       exact this)
      go_wp2_with fail
      go_roundw
      case rel=>exact⟨k+1,by omega,by go_num,j1,b1,b3,i9⟩
      case measure=>simp[intOf];omega
     ·obtain rfl:k=4:=by omega
      have b8:Hid (ab wr b5 250 (aN 64 (aL s (t+1)))):=Ld (by rw[Cu s k8,←Bl];exact r.out)
      go_wp2_with fail
      go_roundw
      case rel=>exact⟨t+1,by omega,by go_num,T,l,y,b8⟩
      case measure=>simp[intOf];omega
   ·have hd:decide ((t:Int)<16)=false:=decide_eq_false (by omega);obtain⟨xx,i1⟩:=nM (at_ (aL s t) (t-15));obtain⟨yy,i3⟩:=nM (at_ (aL s t) (t-2));obtain⟨J,j2⟩:∃i,i=t-15:=⟨_,rfl⟩
    obtain⟨i2,h2⟩:∃i,i=t-2:=⟨_,rfl⟩
    obtain⟨i16,d'⟩:∃i,i=t-16:=⟨_,rfl⟩
    obtain⟨Z,h7⟩:∃i,i=t-7:=⟨_,rfl⟩
    have n1:((t:Int)-15)=(J:Int):=by omega
    have e2:((t:Int)-2)=(i2:Int):=by omega
    have n2:((t:Int)-16)=(i16:Int):=by omega
    have e7:((t:Int)-7)=(Z:Int):=by omega
    have U:(aL s t).length=t:=dy s t;have j':Hid ((aN 64 (aL s t))[J]?=some (.int .u32 xx)):=Ld (by rw[i1,←j2];exact cK (by omega));have m1:Hid ((aN 64 (aL s t))[i2]?=some (.int .u32 yy)):=Ld (by rw[i3,←h2];exact cK (by omega));have j0:Hid ((aN 64 (aL s t))[i16]?=some (.int .u32 (at_ (aL s t) i16))):=Ld (cK (by omega));have m3:Hid ((aN 64 (aL s t))[Z]?=some (.int .u32 (at_ (aL s t) Z))):=Ld (cK (by omega));have j6:0≤xx∧xx<4294967296:=by rw[i1];exact sm HS.out HB.out t _
    have j7:0≤yy∧yy<4294967296:=by rw[i3];exact sm HS.out HB.out t _
    have o2:(J:Int)<64:=by omega
    have l2:(i2:Int)<64:=by omega
    have o3:(i16:Int)<64:=by omega
    have l7:(Z:Int)<64:=by omega
    have n7:IntKind.i64.wrap (J:Int)=(J:Int):=IntWalk.i64_in _ (by omega);have w2:IntKind.i64.wrap (i2:Int)=(i2:Int):=IntWalk.i64_in _ (by omega);have n8:IntKind.i64.wrap (i16:Int)=(i16:Int):=IntWalk.i64_in _ (by omega);have w7:IntKind.i64.wrap (Z:Int)=(Z:Int):=IntWalk.i64_in _ (by omega);have k6:=Ld i1;have k7:=Ld i3;have HI:Hid (J=t-15∧i2=t-2∧i16=t-16∧Z=t-7):=Ld ⟨j2,h2,d',h7⟩;have d15:=cell_regrown (show wr.cell? ⟨b5,J,none⟩=some (.int .u32 xx)from(r.out.cell J).trans j'.out);have d2:=cell_regrown (show wr.cell? ⟨b5,i2,none⟩=some (.int .u32 yy)from(r.out.cell i2).trans m1.out);clear U i1 i3 j2 h2 d' h7
    go_wp2_with fail
    refine wp_region_quiet_below (by kernel_rfl) (by kernel_rfl) ?_
    repeat(quiet_step (fail))
    refine wpQuiet_nil ?_;intro _ g4;obtain⟨⟨dq,M⟩,D⟩:=g4;obtain⟨B,E⟩:=nM (grow (redrawn wr dq) M);have z:Hid (aa wr B):=Ld (by rw[E];exact below_regrown _ dq M);rw[D,←E];clear D E d15 d2;have C:Hid (ab B b5 250 (aN 64 (aL s t))):=Ld (z.out.blk r.out)
    go_wp2_with fail
    refine(eZ xx 7 B j6 (by omega)).mono ?_;rintro ee w5 ⟨rfl,rfl⟩
    go_wp2_with fail
    refine(eZ xx 18 B j6 (by omega)).mono ?_;rintro ee w5 ⟨rfl,rfl⟩
    go_wp2_with fail
    refine(eZ yy 17 B j7 (by omega)).mono ?_;rintro ee w5 ⟨rfl,rfl⟩
    go_wp2_with fail
    refine(eZ yy 19 B j7 (by omega)).mono ?_;rintro ee w5 ⟨rfl,rfl⟩;have d16:=cell_regrown (show B.cell? ⟨b5,i16,none⟩=some (.int .u32 (at_ (aL s t) i16))from(C.out.cell i16).trans j0.out);have d7:=cell_regrown (show B.cell? ⟨b5,Z,none⟩=some (.int .u32 (at_ (aL s t) Z))from(C.out.cell Z).trans m3.out)
    go_wp2_with fail
    refine dE 15 (by kernel_rfl) (by kernel_rfl) ?_;simp only[List.take_succ_cons,List.take_zero,List.drop_succ_cons,List.drop_zero]
    repeat(quiet_step (fail))
    refine wpQuiet_nil ?_;intro Wr k9;have X:Hid (aa B Wr):=Ld k9;obtain⟨v,hv⟩:=pf (n:=64) (L:=aL s t) F;have c5:Wr.cell? ⟨b5,t,none⟩=some v:=((X.out.blk C.out).cell t).trans hv;have f5:Wr.frozen? ⟨b5,t,none⟩=false:=(X.out.blk C.out).frozen t;obtain⟨val,V⟩:=nM ((bI (bI (bI (at_ (aL s t) i16) (EQ xx)) (at_ (aL s t) Z)) (ER yy)));have b':IntKind.u32.wrap (IntKind.u32.wrap (IntKind.u32.wrap (at_ (aL s t) i16+bits BinOp.xor .u32 (bits BinOp.xor .u32 (ef xx 7) (ef xx 18)) (xx/8))+at_ (aL s t) Z)+bits BinOp.xor .u32 (bits BinOp.xor .u32 (ef yy 17) (ef yy 19)) (yy/1024))=val:=V.symm;rw[b'];have HF:Hid (Fr (fun k=>k=b5) Wr (Wr.setCell ⟨b5,t,none⟩ (.int .u32 val))):=Ld ((Fr.refl (fun k=>k=b5) Wr).setCell (p:=⟨b5,t,none⟩) (fun _=>rfl) _);have j1:Hid (aa w (Wr.setCell ⟨b5,t,none⟩ (.int .u32 val))):=Ld (((T.out.tr z.out).tr X.out).fr HF.out (fun k hk=>by have:=HZ.out;omega))
    have m':Hid (ab (Wr.setCell ⟨b5,t,none⟩ (.int .u32 val)) b5 250 (aN 64 (aL s (t+1)))):=Ld (by
     have:=(X.out.blk C.out).set t (.int .u32 val);have h2:=pg (n:=64) (L:=aL s t) val (by rw[dy];exact F);rw[dy]at h2;rw[h2,V,k6.out,k7.out,HI.out.2.2.1,HI.out.2.2.2]at this;rw[V,k6.out,k7.out,HI.out.2.2.1,HI.out.2.2.2,Ct s k8]
     exact this)
    have b1:Hid (ab (Wr.setCell ⟨b5,t,none⟩ (.int .u32 val)) b2 243 SA):=Ld (((z.out.tr X.out).blk l.out).fr HF.out (by have:=HZ.out;omega));have b3:Hid (ab (Wr.setCell ⟨b5,t,none⟩ (.int .u32 val)) b4 243 (aN 8 [])):=Ld (((z.out.tr X.out).blk y.out).fr HF.out (by have:=HZ.out;omega));clear k9 hv d16 d7 V b' j6 j7 n1 e2 n2 e7 n7 w2 n8 w7
    go_wp2_with fail
    go_roundw
    case rel=>exact⟨t+1,by omega,by go_num,j1,b1,b3,m'⟩
    case measure=>simp[intOf];omega
  ·have c9:Hid (t=64):=Ld (by omega);have f':¬(t:Int)<64:=by omega
   obtain⟨ws,i0⟩:=nM (aL s 64);have n0:Hid (ws.length=64):=Ld (by rw[i0];exact dy s 64);have b9:Hid (ab wr b5 250 (aN 64 ws)):=Ld (by rw[i0];have:=r.out;rwa[c9.out]at this);have i4:Hid (gL ⟨a,b,c,d,e,f,g,N⟩ s=(mE K ws ⟨a,b,c,d,e,f,g,N⟩ 64).add ⟨a,b,c,d,e,f,g,N⟩):=Ld (by rw[i0];exact b0.out);have u:Hid (ab wr b2 243 (H8.arr ⟨a,b,c,d,e,f,g,N⟩)):=Ld (by rw[←k5.out];exact l.out);clear i0 r b0 l k5;obtain⟨wo,g5⟩:=nM (wr:World);rw[←g5]at b9 u T y⊢;clear g5 F ht c9;have q0:=cell_regrown (show wo.cell? ⟨b2,0,none⟩=some (.int .u32 a)from u.out.cell 0);have q1:=cell_regrown (show wo.cell? ⟨b2,1,none⟩=some (.int .u32 b)from u.out.cell 1);have q2:=cell_regrown (show wo.cell? ⟨b2,2,none⟩=some (.int .u32 c)from u.out.cell 2);have q3:=cell_regrown (show wo.cell? ⟨b2,3,none⟩=some (.int .u32 d)from u.out.cell 3);have q4:=cell_regrown (show wo.cell? ⟨b2,4,none⟩=some (.int .u32 e)from u.out.cell 4);have q5:=cell_regrown (show wo.cell? ⟨b2,5,none⟩=some (.int .u32 f)from u.out.cell 5);have q6:=cell_regrown (show wo.cell? ⟨b2,6,none⟩=some (.int .u32 g)from u.out.cell 6);have q7:=cell_regrown (show wo.cell? ⟨b2,7,none⟩=some (.int .u32 N)from u.out.cell 7)
   go_wp2_with fail
   refine wp_region_quiet_below (by kernel_rfl) (by kernel_rfl) ?_
   repeat(quiet_step (fail))
   refine wpQuiet_nil ?_;intro _ g4;obtain⟨⟨dq,M⟩,D⟩:=g4;obtain⟨B,E⟩:=nM (grow (redrawn wo dq) M);have I:aa wo B:=by rw[E];exact below_regrown _ dq M
   have k4:Hid (aa w B):=Ld (T.out.tr I);have C:Hid (ab B b5 250 (aN 64 ws)):=Ld (I.blk b9.out);have c':Hid (ab B b2 243 (H8.arr ⟨a,b,c,d,e,f,g,N⟩)):=Ld (I.blk u.out);have c8:Hid (ab B b4 243 (aN 8 [])):=Ld (I.blk y.out);rw[D,←E];clear D E I q0 q1 q2 q3 q4 q5 q6 q7 b9 u y T f'
   go_wp2_with fail
   go_loopw [12,13,14,15,16,17,18,19,20] (fun va vb vc vd ve vf vg vh i wr=>∃(t:Nat) (O xb xc xd R xf xg xh:Int),t≤64∧i=.int .i64 t∧va=.int .u32 O∧vb=.int .u32 xb∧vc=.int .u32 xc∧vd=.int .u32 xd∧ve=.int .u32 R∧vf=.int .u32 xf∧vg=.int .u32 xg∧vh=.int .u32 xh∧Hid ((⟨O,xb,xc,xd,R,xf,xg,xh⟩:H8)=mE K ws ⟨a,b,c,d,e,f,g,N⟩ t)∧Hid (aa w wr)∧Hid (ab wr b2 243 (H8.arr ⟨a,b,c,d,e,f,g,N⟩))∧Hid (ab wr b4 243 (aN 8 []))∧Hid (ab wr b5 250 (aN 64 ws))) (fun _ _ _ _ _ _ _ _ i _=>64-(intOf i).toNat)
   case atStart=>exact⟨0,a,b,c,d,e,f,g,N,Nat.zero_le _,rfl,rfl,rfl,rfl,rfl,rfl,rfl,rfl,rfl,Ld rfl,k4,c',c8,C⟩
   case round=>
    clear k4 c' c8 C;obtain⟨t,O,xb,xc,xd,R,xf,xg,xh,ht,rfl,rfl,rfl,rfl,rfl,rfl,rfl,rfl,rfl,HX,T,l,y,r⟩:=hrel;have g9:=nA (K:=K) (W:=ws) HO.out t;rw[←HX.out]at g9;have j8:0≤O∧O<4294967296:=g9.a;have j9:0≤R∧R<4294967296:=g9.e;clear g9
    by_cases F:t<64
    ·have n5:(0:Int)≤(t:Int):=by omega
     have n6:(t:Int)<64:=by omega
     have kW:=cell_regrown (show wr.cell? ⟨b5,t,none⟩=some (.int .u32 (at_ ws t))from(r.out.cell t).trans (cK (by rw[n0.out];exact F)));have kK:=cell_regrown (show wr.cell? ⟨3,t,none⟩=some (.int .u32 (K t))from T.out.cell_ (HK.out t F));have t1:=rZ R 6 6 rfl j9 (by omega) wr;have t2:=rZ R 11 11 rfl j9 (by omega) wr;have t3:=rZ R 25 25 rfl j9 (by omega) wr
     go_wp2_with fail
     refine wp_region_quiet_below (by kernel_rfl) (by kernel_rfl) ?_
     repeat(quiet_step (with_reducible (first|exact t1 _ _|exact t2 _ _|exact t3 _ _)))
     refine wpQuiet_nil ?_;intro _ g4;obtain⟨⟨dq,M⟩,D⟩:=g4;obtain⟨B,E⟩:=nM (grow (redrawn wr dq) M);have z:Hid (aa wr B):=Ld (by rw[E];exact below_regrown _ dq M);rw[D,←E];clear D E t1 t2 t3 kW kK;obtain⟨pv,k1⟩:=nM (cP (K t) (at_ ws t) ⟨O,xb,xc,xd,R,xf,xg,xh⟩);have g3:IntKind.u32.wrap (IntKind.u32.wrap (IntKind.u32.wrap (IntKind.u32.wrap (xh+bits BinOp.xor .u32 (bits BinOp.xor .u32 (ef R 6) (ef R 11)) (ef R 25))+bits BinOp.xor .u32 (bits BinOp.and .u32 R xf) (bits BinOp.and .u32 (bits BinOp.xor .u32 (if IntKind.u32.signed=true then-1 else IntKind.u32.max) R) xg))+K t)+at_ ws t)=pv:=k1.symm;rw[g3];have m8:=Ld k1;clear k1 g3
     go_wp2_with fail
     refine(eZ O 2 B j8 (by omega)).mono ?_;rintro ee w5 ⟨rfl,rfl⟩
     go_wp2_with fail
     refine(eZ O 13 B j8 (by omega)).mono ?_;rintro ee w5 ⟨rfl,rfl⟩
     go_wp2_with fail
     refine(eZ O 22 B j8 (by omega)).mono ?_;rintro ee w5 ⟨rfl,rfl⟩;have i5:=Ld (z.out.blk l.out);have i6:=Ld (z.out.blk y.out);have b8:=Ld (z.out.blk r.out);have m6:=Ld (T.out.tr z.out)
     go_wp2_with fail
     go_roundw
     case rel=>
      refine⟨t+1,_,_,_,_,_,_,_,_,by omega,by go_num,rfl,rfl,rfl,rfl,rfl,rfl,rfl,rfl,Ld ?_,m6,i5,i6,b8⟩;show _=cR (K t) (at_ ws t) (mE K ws ⟨a,b,c,d,e,f,g,N⟩ t);rw[←HX.out];have e1:bI pv (cQ ⟨O,xb,xc,xd,R,xf,xg,xh⟩)=(pv+(fF (fF (ef O 2) (ef O 13)) (ef O 22)+fF (fF (jC O xb) (jC O xc)) (jC xb xc))%4294967296)%4294967296:=by unfold cQ;rw[nL,nL]
      have e2:=nL xd pv;unfold cR;rw[←m8.out];dsimp only;rw[e1,e2];rfl
     case measure=>simp[intOf];omega
    ·have n':Hid (t=64):=Ld (by omega);have f':¬(t:Int)<64:=by omega
     have c0:wr.cell? ⟨b2,0,none⟩=some (.int .u32 a):=l.out.cell 0;have c1:wr.cell? ⟨b2,1,none⟩=some (.int .u32 b):=l.out.cell 1;have c2:wr.cell? ⟨b2,2,none⟩=some (.int .u32 c):=l.out.cell 2;have c3:wr.cell? ⟨b2,3,none⟩=some (.int .u32 d):=l.out.cell 3;have c4:wr.cell? ⟨b2,4,none⟩=some (.int .u32 e):=l.out.cell 4;have c5:wr.cell? ⟨b2,5,none⟩=some (.int .u32 f):=l.out.cell 5;have c6:wr.cell? ⟨b2,6,none⟩=some (.int .u32 g):=l.out.cell 6;have c7:wr.cell? ⟨b2,7,none⟩=some (.int .u32 N):=l.out.cell 7;have k2:(aN 8 []).size=8:=gF (by simp)
     go_wp2_with ((with_reducible refine aA ⟨none,.store 243 (.tmp 4) _,_,_,_,_⟩ ?_);refine an rfl (.tmp 4) (.tmp 198) rfl rfl rfl rfl y.out k2 (by simp[Value.oneCell']) ?_;intro w8 l' l3;have m0:=Ld l';have m5:=Ld l3;clear l' l3)
     have k':(gL ⟨a,b,c,d,e,f,g,N⟩ s).arr= #[.int .u32 ((a+O)%4294967296),.int .u32 ((b+xb)%4294967296),.int .u32 ((c+xc)%4294967296),.int .u32 ((d+xd)%4294967296),.int .u32 ((e+R)%4294967296),.int .u32 ((f+xf)%4294967296),.int .u32 ((g+xg)%4294967296),.int .u32 ((N+xh)%4294967296)]:=by
      have hx:=HX.out;rw[n'.out]at hx;rw[i4.out,←hx];simp only[H8.add,H8.arr,nL,Int.add_comm]
     rw[m9.out,k'];exact bodyPost_ret (v:=.agg _) (dM rfl _ _ b4 _ _ rfl m0.out underlying243 rfl rfl) rfl ⟨rfl,T.out.fr m5.out (fun k hk=>by have:=HZ.out;omega)⟩
def fZ(h:List Int)(i:Nat):List Int:=h.take i++List.replicate (h.length-i) 0
theorem vr(h:List Int):fZ h h.length=h:=by simp[fZ]
theorem vt{h:List Int}{i:Nat}(hi:i≤h.length):(fZ h i).length=h.length:=by simp[fZ];omega
theorem vu{h:List Int}{i:Nat}(hi:i<h.length):(fZ h i).set i (at_ h i)=fZ h (i+1):=by
 unfold fZ at_;obtain⟨m,c⟩:∃m,h.length-i=m+1:=⟨h.length-i-1,by omega⟩
 have h2:h.length-(i+1)=m:=by omega
 have hl:(h.take i).length=i:=by rw[List.length_take];omega
 rw[c,h2,List.replicate_succ,List.set_append_right _ _ (by omega),hl,Nat.sub_self,bM,List.getD_eq_getElem?_getD,List.getElem?_eq_getElem hi,List.take_succ_eq_append_getElem hi,List.append_assoc];rfl
theorem Ay(s:List Int)(i:Nat)(v:Int):(af s).setIfInBounds i (.int .u8 v)=af (s.set i v):=by
 unfold af am;rw[bK,List.map_set]
def py(x:H8):List Int:=x.list.flatMap fun y=>aY 4 y.toNat
theorem nu(x:H8):(py x).length=32:=rfl
theorem Dz(x:H8){i:Nat}(h:i<32):at_ (py x) i=((aK (at_ x.list (i/4)).toNat (3-i%4):Nat):Int):=by
 rcases (by omega:i=0∨i=1∨i=2∨i=3∨i=4∨i=5∨i=6∨i=7∨i=8∨i=9∨i=10∨i=11∨i=12∨i=13∨i=14∨i=15∨i=16∨i=17∨i=18∨i=19∨i=20∨i=21∨i=22∨i=23∨i=24∨i=25∨i=26∨i=27∨i=28∨i=29∨i=30∨i=31)with rfl|rfl|rfl|rfl|rfl|rfl|rfl|rfl|rfl|rfl|rfl|rfl|rfl|rfl|rfl|rfl|rfl|rfl|rfl|rfl|rfl|rfl|rfl|rfl|rfl|rfl|rfl|rfl|rfl|rfl|rfl|rfl<;>rfl
theorem AD(n k:Nat):IntKind.u8.wrap ((n:Int)/2^(8*(k:Int)).toNat)=((aK n k:Nat):Int):=by
 rw[lV,eB];rfl
theorem yv(n k:Nat):(n:Int)/2^(8*k)%256=((aK n k:Nat):Int):=by
 have h:=AD n k;have e:(8*(k:Int)).toNat=8*k:=by omega
 rw[IntKind.wrap_u8,e]at h;exact h
structure cM(gk gi:Nat)(w:World):Prop where
 k:∀t,t<64→w.cell? ⟨gk,t,none⟩=some (.int .u32 (at_ kL t))
 i:w.rangeAt gi 0 iH.arr.toList
theorem cM.new{gk c:Nat}{w w':World}(h:cM gk c w)(d:aa w w'):cM gk c w':=⟨fun t ht=>d.cell_ (h.k t ht),fun j v i=>d.cell_ (h.i j v i)⟩
theorem cM.lt{gk c:Nat}{w:World}(h:cM gk c w):gk<w.heap.size∧c<w.heap.size:=⟨World.block_lt_of_cell? w _ (h.k 0 (by decide)),World.block_lt_of_cell? w _ (h.i 0 _ rfl)⟩
theorem tQ{q:Nat→Prop}(A:Option Addr)(n c:Nat)(xs:List Int)(w:World)(hL:cM 3 1 w)(hR:Rd q w 1 A n (am xs))(hb:aU xs)(hn:n≤500000000):
    Calls prog 155 #[.slice A n c] w fun e w'=>e=.returned (.agg (af (jL xs)))∧aa w w':=by
 have HL:=Ld hL;have g5:=Ld (tw hb);have F:=Ld (lJ xs);have l3:xs.length=n:=by have:=hR.1;rw[ah]at this;omega
 have i4:(fv xs).length≤n+80∧64≤(fv xs).length:=by
  have h1:=lJ xs;have h2:=(pw xs.length).2;rw[kr,List.length_append,eK,av]at h1⊢;omega
 have HH:Hid (jL xs=py (eF (fv xs) ((fv xs).length/64))):=Ld rfl;obtain⟨RA,c9⟩:=nM (af (jL xs));rw[←c9];have j6:=Ld c9;have G:=Ld (fun W (L:aa w W)=>As A n c xs W (L.rd hR) (by omega));obtain⟨p,hp⟩:=nM (fv xs);rw[←hp]at g5 F HH G i4;obtain⟨N,L⟩:=nM (p.length);rw[←L]at F HH G i4;have j5:=Ld L;clear hL hR hb l3 hp L c9
 go_enter func155,ntmps155
 go_upto_region 1 with fail
 obtain⟨w1,b9⟩:=nM (w.alloc (.cells #[.int .u8 0,.int .u8 0,.int .u8 0,.int .u8 0,.int .u8 0,.int .u8 0,.int .u8 0,.int .u8 0,.int .u8 0,.int .u8 0,.int .u8 0,.int .u8 0,.int .u8 0,.int .u8 0,.int .u8 0,.int .u8 0,.int .u8 0,.int .u8 0,.int .u8 0,.int .u8 0,.int .u8 0,.int .u8 0,.int .u8 0,.int .u8 0,.int .u8 0,.int .u8 0,.int .u8 0,.int .u8 0,.int .u8 0,.int .u8 0,.int .u8 0,.int .u8 0] 211):World);obtain⟨b2,Z⟩:=nM (w.heap.size);have hz:(#[.int .u8 0,.int .u8 0,.int .u8 0,.int .u8 0,.int .u8 0,.int .u8 0,.int .u8 0,.int .u8 0,.int .u8 0,.int .u8 0,.int .u8 0,.int .u8 0,.int .u8 0,.int .u8 0,.int .u8 0,.int .u8 0,.int .u8 0,.int .u8 0,.int .u8 0,.int .u8 0,.int .u8 0,.int .u8 0,.int .u8 0,.int .u8 0,.int .u8 0,.int .u8 0,.int .u8 0,.int .u8 0,.int .u8 0,.int .u8 0,.int .u8 0,.int .u8 0]:Array Value)=af (List.replicate 32 0):=by rfl
 have J:Hid (aa w w1):=Ld (by rw[b9];exact aa.al (aa.refl _) _);have I:Hid (ab w1 b2 211 (af (List.replicate 32 0))):=Ld (by rw[b9,Z,←hz];exact ab.new _ _ _);have HZ:=Ld Z;rw[←b9,←Z];clear b9 Z hz
 go_wp2_with fail
 refine(G.out w1 J.out).mono ?_;rintro e w2 ⟨⟨A1,d1,rfl,hO⟩,g8⟩;obtain⟨g,cap,hv,l8,m'⟩:=dh hO (by omega);injection hv with l' l1 l2;subst l' l2;have HO:=Ld hO;have B:=Ld g8;clear hO g8 l1 G
 go_wp2_with (refine cg 10 rfl ?_;refine cF rfl _ rfl rfl (((HL.out.new J.out).new B.out).i) underlying243 rfl rfl ?_;dsimp only[iH,H8.arr])
 obtain⟨y,c'⟩:=nM (w2.alloc (.cells #[.int .u32 1779033703,.int .u32 3144134277,.int .u32 1013904242,.int .u32 2773480762,.int .u32 1359893119,.int .u32 2600822924,.int .u32 528734635,.int .u32 1541459225] 243):World);obtain⟨b4,b3⟩:=nM (w2.heap.size);have s:Hid (aa w2 y):=Ld (by rw[c'];exact aa.al (aa.refl _) _);have d:Hid (ab y b4 243 (eF p 0).arr):=Ld (by rw[c',b3];exact ab.new _ _ _);have b':Hid (ab y b2 211 (af (List.replicate 32 0))):=Ld (s.out.blk (B.out.blk I.out));have z:Hid (b4=w2.heap.size∧g<w2.heap.size∧b2<w2.heap.size∧g≠b4):=Ld ⟨b3,(ak HO.out g rfl).2,(B.out.blk I.out).lt,by have:=(ak HO.out g rfl).2;omega⟩
 have O:Hid (∀j v,(am p)[j]?=some v→y.cell? ⟨g,j,none⟩=some v):=Ld fun j v hj=>by
  obtain⟨g',o',he,-,-,hc⟩:=(Rd.own HO.out rfl).out (by omega) (by omega);injection he with he;injection he with e1 e2;subst e1 e2;have:=hc j v hj;rw[Nat.zero_add]at this;exact s.out.cell_ this
 have S:Hid (aa w y):=Ld ((J.out.tr B.out).tr s.out);rw[←c',←b3];clear c' b3 I;have g3:Hid (Fr (fun j=>j=b4∨y.heap.size≤j) y y):=Ld (Fr.refl _ _)
 go_loopw [5] (fun i wr=>∃(k i0:Nat),k≤N/64∧Hid (i0=64*k)∧i0≤N∧i=.int .i64 i0∧Hid (Fr (fun j=>j=b4∨y.heap.size≤j) y wr)∧Hid (ab wr b4 243 (eF p k).arr)) (fun i _=>N-(intOf i).toNat)
 case atStart=>exact⟨0,0,Nat.zero_le _,Ld rfl,Nat.zero_le _,rfl,g3,d⟩
 case round=>
  clear g3 d;obtain⟨k,i,hk,HI,hi,rfl,HF,d⟩:=hrel
  by_cases m6:i<N
  ·have m5:i+64≤N:=by have:=F.out;have:=HI.out;omega
   have k5:k+1≤N/64:=by have:=F.out;have:=HI.out;omega
   obtain⟨j,hj⟩:=nM (i+64);have e1:(i:Int)+64=(j:Int):=by omega
   have m9:IntKind.i64.wrap (j:Int)=(j:Int):=IntWalk.i64_in _ (by omega);have m3:j-i=64:=by omega
   have m1:i≤j:=by omega
   have m2:j≤d1:=by omega
   have k3:j≤N:=by omega
   have m0:(0:Int)≤(i:Int):=by omega
   have l9:¬d1=i:=by omega
   have HJ:Hid (j=64*(k+1)):=Ld (by have:=HI.out;omega);obtain⟨st,b8⟩:=nM (eF p k);rw[←b8]at d;obtain⟨bl,U⟩:=nM ((p.drop (64*k)).take 64);have k':Hid (eF p (k+1)=gL st bl):=Ld (by rw[b8,U];rfl);have C:bl.length=64:=by rw[U,List.length_take,List.length_drop];have:=HI.out;have:=j5.out;omega
   have j0:Hid (aU bl):=Ld (by
    rw[U];intro x hx
    exact g5.out x (List.mem_of_mem_drop (List.mem_of_mem_take hx)))
   have j7:Hid (∀T,aa wr T→Rd (fun b=>b<T.heap.size) T 1 (some ⟨g,i,none⟩) 64 (am bl)):=Ld fun T L=>by
    refine⟨by rw[ah,C],fun _=>⟨_,rfl,?_,?_,fun j v hj=>?_⟩⟩
    ·have:=z.out;have:=s.out.size;have:=HF.out.size;have:=L.size;show g<T.heap.size;omega
    ·have:=z.out;have:=s.out.size;have:=HF.out.size;have:=L.size;show g<T.heap.size;omega
    ·have k1:j<64:=by
      have:=(List.getElem?_eq_some_iff.1 hj).1
      rwa[ah,C]at this
     have h1:(am p)[i+j]?=some v:=by
      rw[←hj,U];unfold am;rw[List.getElem?_map,List.getElem?_map,List.getElem?_take_of_lt k1,List.getElem?_drop,HI.out]
     have h2:=O.out _ v h1
     have h3:(⟨g,i,none⟩:Addr).add j=⟨g,i+j,none⟩:=by
      unfold Addr.add
      by_cases k2:j=0<;>simp[k2]
     rw[h3]
     exact L.cell_ (HF.out.cell_some h2 (fun hs=>by
      have f':g=b4∨y.heap.size≤g:=hs;have:=z.out;have:=s.out.size
      omega))
   have c7:Hid st.Ok:=Ld (by rw[b8];exact ki p k)
   have j9:Hid (∀T,aa wr T→∀t,t<64→T.cell? ⟨3,t,none⟩=some (.int .u32 (at_ kL t))):=Ld fun T L t ht=>L.cell_ (HF.out.cell_some (S.out.cell_ (HL.out.k t ht)) (fun hs=>by
    have f':3=b4∨y.heap.size≤3:=hs;have h1:=HL.out.lt;have h2:=S.out.size;have h3:=J.out.size;have h4:=B.out.size;have h5:=z.out
    omega))
   clear b8 U C hj
   go_wp2_with fail
   refine fU (aa wr) 7 [(true,0),(true,1),(true,2),(true,3),(true,4),(true,5),(false,6),(false,7)] (by kernel_rfl) (by kernel_rfl) (aa.dr (aa.refl wr)) (fun k7=>?_);refine bH (o:=.mk ..) rfl rfl (.tmp 4) rfl rfl (fun T L=>(L.blk d.out).rangeOf) underlying243 rfl rfl ?_;simp only[Act.put,bK,bM,bO]
   iterate 5 (refine ae (o:=.mk ..) rfl (fun K hK=>?_);go_simp;refine hK _ ?_;clear hK K)
   refine aj (o:=.mk ..) rfl (fun K hK=>?_) (.inl rfl);go_simp;have i1:=pF st (some ⟨g,i,none⟩) (d1-i) bl wr.drew (j9.out _ (aa.dr (aa.refl wr))) c7.out (j7.out _ (aa.dr (aa.refl wr))) j0.out;refine i1.mono ?_;rintro e w4 ⟨rfl,g9⟩;have c5:Hid (aa wr w4):=Ld (aa.tr (aa.dr (aa.refl wr)) g9);clear i1 g9;go_simp;refine hK.out _ _ (fun _=>c5.out) ?_;clear hK K;refine aj (o:=.mk ..) rfl (fun K hK=>?_) (.inl rfl);refine cu (cs:=(gL st bl).arr) rfl (.tmp 4) (.tmp 23) rfl rfl rfl rfl (c5.out.blk d.out) rfl (by simp[H8.arr,Value.oneCell']) ?_;intro w5 g6 g7;simp only[Act.put,bK,bM,bO];refine hK.out _ _ (fun h=>absurd rfl h) ?_;have i9:Hid (ab w5 b4 243 (eF p (k+1)).arr):=Ld (by rw[k'.out];exact g6);have j2:Hid (Fr (fun j=>j=b4∨y.heap.size≤j) y w5):=Ld ((HF.out.trans (c5.out.toFr _)).trans (g7.mono (fun k _ hs=>.inl hs)));clear hK K k7 g6 g7;refine ao ?_
   go_wp2_with fail
   go_roundw
   case rel=>exact⟨k+1,j,k5,HJ,k3,rfl,j2,i9⟩
   case measure=>simp[intOf];omega
  ·have k0:i=N:=by omega
   have i3:k=N/64:=by have:=HI.out;omega
   subst k0;obtain⟨x,hx⟩:=nM (eF p k);rw[←hx]at d;have c8:Hid x.Ok:=Ld (by rw[hx];exact ki _ _);have j3:Hid (jL xs=py x):=Ld (by rw[HH.out,hx,←i3])
   have V:Hid (aa w wr):=Ld (S.out.fr HF.out (fun k hs=>by
    have f':k=b4∨y.heap.size≤k:=hs;have h2:=z.out;have h1:=J.out.size;have h3:=B.out.size;have h4:=s.out.size
    omega))
   have D:Hid (ab wr b2 211 (af (List.replicate 32 0))):=Ld (b'.out.fr HF.out (fun hs=>by
    have f':b2=b4∨y.heap.size≤b2:=hs;have h2:=z.out;have h4:=s.out.size
    omega))
   have E:Hid (b4<wr.heap.size∧b2<wr.heap.size∧w.heap.size≤b4):=Ld ⟨d.out.lt,D.out.lt,by have:=z.out;have:=J.out.size;have:=B.out.size;omega⟩;clear hx i3 HF O b' HI hk hi;obtain⟨wo,i6⟩:=nM (wr:World);rw[←i6]at d V D E⊢;clear i6
   go_wp2_with fail
   obtain⟨W1,M⟩:=nM (wo.alloc (.cells #[.int .u8 0,.int .u8 0,.int .u8 0,.int .u8 0,.int .u8 0,.int .u8 0,.int .u8 0,.int .u8 0,.int .u8 0,.int .u8 0,.int .u8 0,.int .u8 0,.int .u8 0,.int .u8 0,.int .u8 0,.int .u8 0,.int .u8 0,.int .u8 0,.int .u8 0,.int .u8 0,.int .u8 0,.int .u8 0,.int .u8 0,.int .u8 0,.int .u8 0,.int .u8 0,.int .u8 0,.int .u8 0,.int .u8 0,.int .u8 0,.int .u8 0,.int .u8 0] 211):World);obtain⟨b6,b7⟩:=nM (wo.heap.size);have hz:(#[.int .u8 0,.int .u8 0,.int .u8 0,.int .u8 0,.int .u8 0,.int .u8 0,.int .u8 0,.int .u8 0,.int .u8 0,.int .u8 0,.int .u8 0,.int .u8 0,.int .u8 0,.int .u8 0,.int .u8 0,.int .u8 0,.int .u8 0,.int .u8 0,.int .u8 0,.int .u8 0,.int .u8 0,.int .u8 0,.int .u8 0,.int .u8 0,.int .u8 0,.int .u8 0,.int .u8 0,.int .u8 0,.int .u8 0,.int .u8 0,.int .u8 0,.int .u8 0]:Array Value)=af (fZ (py x) 0):=by rfl
   have g4:Hid (aa w W1):=Ld (by rw[M];exact aa.al V.out _);have l:Hid (ab W1 b6 211 (af (fZ (py x) 0))):=Ld (by rw[M,b7,←hz];exact ab.new _ _ _);have b0:Hid (ab W1 b2 211 (af (List.replicate 32 0))):=Ld (by rw[M];exact D.out.alloc _);have b1:Hid (ab W1 b4 243 x.arr):=Ld (by rw[M];exact d.out.alloc _);have Y:Hid (w.heap.size≤b6∧b2≠b6∧b4≠b6∧w.heap.size≤b2):=Ld ⟨by rw[b7];exact V.out.size,by have:=E.out;omega,by have:=E.out;omega,by have:=HZ.out;omega⟩;rw[←M,←b7];clear M b7 hz V D d E
   go_loopw [7] (fun i wr=>∃(k:Nat),k≤32∧i=.int .i64 k∧Hid (aa w wr)∧Hid (ab wr b6 211 (af (fZ (py x) k)))∧Hid (ab wr b2 211 (af (List.replicate 32 0)))∧Hid (ab wr b4 243 x.arr)) (fun i _=>32-(intOf i).toNat)
   case atStart=>exact⟨0,Nat.zero_le _,rfl,g4,l,b0,b1⟩
   case round=>
    clear g4 l b0 b1;obtain⟨k,hk,rfl,HN,l,I,d⟩:=hrel
    by_cases d':k<32
    ·have m4:(0:Int)≤(k:Int):=by omega
     have k4:(k:Int)<32:=by omega
     obtain⟨r,hr⟩:=nM (k/4);obtain⟨m,hm⟩:=nM (3-k%4);have e1:(k:Int)/4=(r:Int):=by omega
     obtain⟨r4,k8⟩:=nM (k%4);have e2:(k:Int)%4=(r4:Int):=by omega
     have e3:(24:Int)-8*(r4:Int)=8*(m:Int):=by omega
     have m8:(r:Int)<8:=by omega
     have m7:(m:Int)<4:=by omega
     have k9:(r4:Int)<4:=by omega
     obtain⟨yn,i7⟩:=nM ((at_ x.list r).toNat);have l4:=H8.ok_b c8.out r;have hy:at_ x.list r=(yn:Int):=by omega
     have c4:wr.cell? ⟨b4,r,none⟩=some (.int .u32 (yn:Int)):=by
      rw[←hy,d.out.cell r,H8.arr_list];exact cK (by show r<8;omega)
     have HV:Hid (at_ (py x) k=((aK yn m:Nat):Int)):=Ld (by rw[Dz x d',←hr,←hm,i7])
     have c6:∃u,wr.cell? ⟨b6,k,none⟩=some u:=by
      rw[l.out.cell k,lT (by rw[vt (by rw[nu];omega),nu];exact d')];exact⟨_,rfl⟩
     obtain⟨u6,c6⟩:=c6;have f6:wr.frozen? ⟨b6,k,none⟩=false:=l.out.frozen k;have l7:(yn:Int)<4294967296:=by omega
     have l5:0≤(yn:Int):=by omega
     have j8:Hid ((yn:Int)/2^(8*m)%256=at_ (py x) k):=Ld (by rw[HV.out];exact yv yn m);clear hr hm k8 i7 hy l4
     go_wp2_with fail
     rw[j8.out]
     have c3:Hid (ab (wr.setCell ⟨b6,k,none⟩ (.int .u8 (at_ (py x) k))) b6 211 (af (fZ (py x) (k+1)))):=Ld (by
      have:=l.out.set k (.int .u8 (at_ (py x) k));rw[Ay,vu (by rw[nu];exact d')]at this
      exact this)
     have R:Hid (Fr (fun j=>j=b6) wr (wr.setCell ⟨b6,k,none⟩ (.int .u8 (at_ (py x) k)))):=Ld ((Fr.refl (fun j=>j=b6) wr).setCell (p:=⟨b6,k,none⟩) (fun _=>rfl) _);have j4:Hid (aa w (wr.setCell ⟨b6,k,none⟩ (.int .u8 (at_ (py x) k)))):=Ld (HN.out.fr R.out (fun j hj=>by have:=Y.out;omega));have c0:Hid (ab (wr.setCell ⟨b6,k,none⟩ (.int .u8 (at_ (py x) k))) b2 211 (af (List.replicate 32 0))):=Ld (I.out.fr R.out (by have:=Y.out;omega));have c1:Hid (ab (wr.setCell ⟨b6,k,none⟩ (.int .u8 (at_ (py x) k))) b4 243 x.arr):=Ld (d.out.fr R.out (by have:=Y.out;omega));go_roundw
     case rel=>exact⟨k+1,by omega,by go_num,j4,c3,c0,c1⟩
     case measure=>simp[intOf];omega
    ·obtain rfl:k=32:=by omega
     have k6:¬((32:Nat):Int)<32:=by omega
     have i5:(af (py x)).size=32:=by rw[au,nu]
     have X:=Ld i5
     have j1:Hid (ab wr b6 211 (af (py x))):=Ld (by
      have h:=l.out;have e:fZ (py x) 32=py x:=vr (py x);rw[e]at h
      exact h)
     clear i5 l
     go_wp2_with (first
      |(refine cg 41 rfl ?_;refine ac rfl _ rfl underlying211 rfl (by rw[X.out];rfl) rfl j1.out ?_)
      |((with_reducible refine aA ⟨none,.store 211 (.tmp 2) _,_,_,_,_⟩ ?_);refine an rfl (.tmp 2) (.tmp 41) rfl (by rw[X.out];rfl) rfl rfl I.out (by rw[X.out,au,List.length_replicate]) (bw _) ?_;intro w8 i' i2;have j':=Ld i';have R:=Ld i2;clear i' i2))
     rw[j6.out,j3.out];exact bodyPost_ret (v:=.agg (af (py x))) (dM rfl _ _ b2 _ _ rfl j'.out underlying211 rfl (by rw[X.out];rfl)) rfl ⟨rfl,HN.out.fr R.out (fun j hj=>by have:=Y.out;omega)⟩
end Go.Proofs.YtfchcdbfalgdlaaGreatDoor
namespace Go.Proofs.YtfchcdbfalgdlaaGreatDoor
open _root_.Go.Proofs.Tryz
open Go.RowKit Go.Maps
open Go.WideElems (Fit rg)
def EM(h f:Lit→Option Value):Lit→Option Value:=fun x=>match h x with|some v=>some v|none=>f x
theorem tu{l:List Nat}:∀{m:Nat},l.Nodup→(∀x∈l,x<m)→l.length≤m:=by
 intro m
 induction m generalizing l with
 | zero=>intro _ h;cases l with
  |nil=>simp
  |cons x l=>exact absurd (h x (by simp)) (by omega)
 |succ m j=>
  intro c h
  have:=j (l:=l.erase m) (c.erase _) (fun x d=>by
   have h1:=h x (List.mem_of_mem_erase d);have h2:x≠m:=fun e=>by subst e;exact(List.Nodup.not_mem_erase c) d
   omega)
  have i:=List.length_erase (a:=m) (l:=l);split at i<;>omega
section
variable {P:Program}{k:TypeId}{w w':World}{b n:Nat}{f:Lit→Option Value}
theorem aH.clear{t e:TypeId}(h:aH w P k b n f)(ht:P.underlying t=some (.map k e))(ty:TypeId):
    ∃w',(Builtin.clear_ #[t] ty #[.map (some b)]).run P w=.ok (.tuple #[]) w'∧aH w' P k b 0 (fun _=>none)∧Fr (fun j=>j=b) w w':=by
 obtain⟨D,⟨m,clock,d,F,l,q⟩,r⟩:=h;have c:=MapKept.heap_set (o':=.map #[] clock) d;refine⟨{w with heap:=w.heap.setIfInBounds b (.map #[] clock)},by simp[Builtin.clear_,run_underlying ht,MapKept.run_getObj_map d,MapKept.run_setObj_map _ d,Result.andThen],⟨.map [],⟨#[],clock,c.1,⟨by simp,MapKept.stamped_empty clock,by simp⟩,Nat.le_refl _,rfl⟩,fun kl=>by simp[Maps.has]⟩,⟨rfl,rfl,rfl,by simp,fun j _ i=>c.2 j i⟩⟩
theorem aH.tight{q:IntKind}(h:aH w P k b n f)(K:Keyed P k)(m:Nat)(G:∀kl,f kl≠none→∃a:Nat,kl=.int q a∧a<m):aH w P k b m f:=by
 obtain⟨D,⟨l,clock,E,F,J,rfl⟩,C⟩:=h;refine⟨_,⟨l,clock,E,F,?_,rfl⟩,C⟩;have I:=Maps.fit_apart K F
 have i:∀p∈l.toList.map (rg P k Rv),∃a:Nat,p.1=.int q a∧a<m:=fun p d=>by
  refine G p.1 ?_;rw[C p.1]
  have:Maps.has (DataW.map ((l.toList.map (rg P k Rv)).foldr DataW.insert [])) p.1=true:=
   List.any_eq_true.2 ⟨p,mem_sorted.2 d,WideAt.sameKey_self ((Maps.fit_keys F|>fun M=>K.one.key (M p d)))⟩
  rw[this];simp
 have j:((l.toList.map (rg P k Rv)).map fun p=>match p.1 with| .int _ a=>a.toNat|_=>0).length≤m:=by
  refine tu ?_ ?_
  ·rw[List.Nodup,List.pairwise_map];refine List.Pairwise.imp_of_mem ?_ I;intro p r d z y t;obtain⟨a,s,_⟩:=i p d;obtain⟨c,B,_⟩:=i r z;rw[s,B]at t;simp at t;exact y (by rw[s,B,t])
  ·intro x L;obtain⟨p,d,rfl⟩:=List.mem_map.1 L;obtain⟨a,s,u⟩:=i p d;rw[s]
   simpa using u
 simpa using j
theorem uP{c d i:DataW Value}{left:Lit→Bool}(m:Merged c d i left)(hl:∀k,left k=false){j l:Lit→Option Value}
    (hd:∀kl,j kl=if Maps.has d kl then some (wZ (d.atKey kl (.held undef)))else none) (q:∀kl,l kl=if Maps.has i kl then some (wZ (i.atKey kl (.held undef)))else none):
    ∀kl,EM l j kl=if Maps.has c kl then some (wZ (c.atKey kl (.held undef)))else none:=by
 intro kl;have h1:=m.1 kl;have h2:=m.2 kl (.held undef);rw[hl kl]at h1 h2;simp only[Bool.not_false,Bool.and_true]at h1 h2;unfold EM;rw[q kl,hd kl,h1,h2]
 cases Maps.has i kl<;>cases Maps.has d kl<;>simp
theorem aH.cloned{t:TypeId}(h:aH w P k b n f):∃o,(Extern.MapsClone.clone #[.iface t (.map (some b))]).run P w=.ok (.iface t (.map (some w.heap.size))) (w.alloc o)∧aH (w.alloc o) P k w.heap.size n f:=by
 obtain⟨D,⟨d,clock,j,F,c,i⟩,l⟩:=h;exact⟨_,run_maps_clone_sl w t j,⟨D,⟨d,clock,(MapKept.heap_alloc w _).1,F,c,i⟩,l⟩⟩
end
section
variable {P:Program}{w:World}{ops:Array Oper}{rest:List Oper}{o:Oper}{a:Act}{Q:Exit→Act→World→Prop}{b n:Nat}{f:Lit→Option Value}
theorem pM{k e t:TypeId}(q:aH w P k b n f)(ht:P.underlying t=some (.map k e))(r:o.guard=none)(m:Operand)(i:o.op=Op.call {callee:=Callee.builtin Builtin.clear,args:= #[m],argTypes:= #[t]})
    (s:a.eval m=.map (some b))
    (l:∀w',aH w' P k b 0 (fun _=>none)→Fr (fun j=>j=b) w w'→wpList P ops Q rest (a.put o.dst (.tuple #[])) w'):wpList P ops Q (o::rest) a w:=by
 refine wpList_plain r fun z d=>?_
 obtain⟨w',c,u,y⟩:=q.clear ht o.type;unfold Oper.wp;simp[execOp,i,resolve,invoke,builtin,s,c,Result.andThen];exact d _ _ (l w' u y)
end
end Go.Proofs.YtfchcdbfalgdlaaGreatDoor
namespace Go.Proofs.YtfchcdbfalgdlaaGreatDoor
open _root_.Go.Proofs.Tryz
open Go.RowKit Go.ChangeShapes Go.WideShapes Go.Deep
theorem uD{α:Type}(f:α→List Value)(k:Nat):∀L:List α,(∀x∈L,(f x).length=k)→(L.flatMap f).length=L.length*k
 | [],_=>by simp
 |x::L,h=>by
  rw[List.flatMap_cons,List.length_append,h x (by simp),uD f k L (fun y c=>h y (by simp[c])),List.length_cons,Nat.succ_mul];omega
theorem od{α:Type}(f:α→List Value)(k:Nat):∀(L:List α) (i j:Nat) (hi:i<L.length),(∀x∈L,(f x).length=k)→j<k→(L.flatMap f)[i*k+j]?=(f L[i])[j]?
 | [],i,j,hi,_,_=>by simp at hi
 |x::L,0,j,hi,h,c=>by
  rw[List.flatMap_cons,Nat.zero_mul,Nat.zero_add,List.getElem?_append_left (by rw[h x (by simp)];exact c)];rfl
 |x::L,i+1,j,hi,h,c=>by
  have d:=h x (by simp);rw[List.flatMap_cons,List.getElem?_append_right (by rw[d,Nat.succ_mul];omega),d];have:(i+1)*k+j-k=i*k+j:=by rw[Nat.succ_mul];omega
  rw[this,od f k L i j (by simpa using hi) (fun y l=>h y (by simp[l])) c];rfl
theorem Dx{α:Type}(f:α→List Value)(k:Nat)(l:0<k)(L:List α)(h:∀x∈L,(f x).length=k)(q:Nat)(u:Value)(hu:(L.flatMap f)[q]?=some u):∃(i j:Nat) (hi:i<L.length),j<k∧q=i*k+j∧(f L[i])[j]?=some u:=by
 have hl:=uD f k L h;have m:q<L.length*k:=by rw[←hl];exact(List.getElem?_eq_some_iff.1 hu).1
 have hd:q/k<L.length:=Nat.div_lt_of_lt_mul (by rwa[Nat.mul_comm]at m);have d:q%k<k:=Nat.mod_lt _ l;have c:q=q/k*k+q%k:=by rw[Nat.mul_comm];exact(Nat.div_add_mod q k).symm
 refine⟨q/k,q%k,hd,d,c,?_⟩;rw[←od f k L (q/k) (q%k) hd h d,←c,hu]
theorem ww{α:Type}{Q:Nat→α→Prop}:∀n,(∀i,i<n→∃x,Q i x)→∃L:List α,L.length=n∧∀i (hi:i<L.length),Q i L[i]
 | 0,_=>⟨[],rfl,fun i hi=>by simp at hi⟩
 |n+1,h=>by
  obtain⟨L,hl,d⟩:=ww n fun i hi=>h i (by omega)
  obtain⟨x,j⟩:=h n (by omega);refine⟨L++[x],by simp[hl],fun i hi=>?_⟩
  by_cases c:i<L.length
  ·rw[List.getElem_append_left c];exact d i c
  ·have:i=n:=by simp at hi;omega
   subst this;rw[List.getElem_append_right (by omega)]
   simpa[hl]using j
def Sz{H:Type}(P:Program)(t:TypeId)(d:DataW H):Prop:=(d.weights P t).all (·≤reachBytes)=true
section
variable {H:Type}{enc:TypeId×Value→H}{P:Program}{w:World}
theorem Sz.of{i:List TypeId}{c:List (DataW H)}(h:(DataW.weightsEach P i c).all (·≤reachBytes)=true){j:Nat}{t:TypeId}{d:DataW H}(ht:i[j]?=some t)(hd:c[j]?=some d):Sz P t d:=by
 unfold Sz;rw[List.all_eq_true]at h⊢;exact fun x l=>h x (DataW.weights_mem_each ht hd x l)
theorem ju{e:TypeId}:∀{c:List (DataW H)} {d:DataW H},d∈c→∀n∈d.weights P e,n∈DataW.weightsAll P e c
 |d0::c,d,hd,n,i=>by
  rcases List.mem_cons.1 hd with rfl|hd
  ·simp only[DataW.weightsAll,List.mem_append];exact .inl i
  ·simp only[DataW.weightsAll,List.mem_append];exact .inr (ju hd n i)
theorem Sz.slice{t e:TypeId}(ht:P.underlying t=some (.slice e)){xs ys:List (DataW H)}(h:Sz P t (.slice xs ys)):(xs.length+ys.length)*P.bytesOf e≤reachBytes∧∀d∈xs,Sz P e d:=by
 unfold Sz at h;simp only[DataW.weights,ht,List.all_cons,List.all_append,Bool.and_eq_true,decide_eq_true_eq]at h;refine⟨h.1,fun d hd=>?_⟩;unfold Sz;rw[List.all_eq_true];exact fun x c=>List.all_eq_true.1 h.2.1 x (ju hd x c)
theorem AM{t e:TypeId}(ht:P.underlying t=some (.slice e)){α:Type}(f:α→List Value)(k:Nat)(Z:P.cellsOf e=k)(l:0<k)(Good:α→Prop)
    (J:∀(cs:List Value) (m:Nat) (y:DataW H×List MemPlace),cs.length=k→DataW.trod enc P w 0 (fun _=>true) true m e cs=some y→Sz P e y.1→∃x:α,f x=cs∧Good x)
    {B:Nat} {v:Value} {y:DataW H×List MemPlace} (h:DataW.trod enc P w 0 (fun _=>true) true B t [v]=some y) (G:Sz P t y.1):
    ∃(A:Option Addr) (n c:Nat) (L:List α),v=.slice A n c∧n≤c∧c≤maxLen∧c*P.bytesOf e≤reachBytes∧L.length=n∧Rd (fun b=>b<w.heap.size) w k A n (L.flatMap f)∧(∀x∈L,Good x)∧(∀x∈L,(f x).length=k):=by
 rcases open_slice ht h with⟨r,_⟩|⟨a,len,cap,m,n,D,X,r,_,hl,hm,F,rfl,hi⟩
 ·simp at r;subst r;exact⟨none,0,0,[],rfl,Nat.le_refl _,Nat.zero_le _,by simp,rfl,Rd.nil,by simp,by simp⟩
 ·simp at r;subst r;simp at F;subst F;obtain⟨s,R⟩:=G.slice ht;simp only[List.length_map,List.length_range]at s
  have key:∀i,i<len→∃x:α,Good x∧(f x).length=k∧∀j,j<k→w.cell? (a.add (i*k+j))=(f x)[j]? :=by
   intro i N;obtain⟨cs',V,S⟩:=hi i (by omega);rw[Z]at V;obtain⟨_,E,I⟩:=World.cells?_some V;obtain⟨x,z,Y⟩:=J cs' n (D i,X i) E S (R _ (List.mem_map_of_mem (List.mem_range.2 N)));refine⟨x,Y,by rw[z];exact E,fun j O=>?_⟩;rw[z,←I j O,sM]
  obtain⟨L,U,C⟩:=ww len key;have d:∀x∈L,(f x).length=k:=fun x z=>by obtain⟨i,hi,rfl⟩:=List.getElem_of_mem z;exact(C i hi).2.1
  refine⟨some a,len,_,L,rfl,hl,hm,by rw[Nat.add_sub_cancel' hl]at s;exact s,U,⟨by rw[uD f k L d,U],fun hn=>⟨a,rfl,?_,?_,?_⟩⟩,fun x z=>by obtain⟨i,hi,rfl⟩:=List.getElem_of_mem z;exact(C i hi).1,d⟩
  ·have h0:=(C 0 (by omega)).2.2 0 l;have G:(f (L[0]'(by omega)))[0]?=some ((f (L[0]'(by omega)))[0]'(by rw[d _ (List.getElem_mem _)];exact l)):=List.getElem?_eq_getElem _;rw[G]at h0;have:=World.block_lt_of_cell? w _ h0
   rwa[eu]at this
  ·have h0:=(C 0 (by omega)).2.2 0 l;have G:(f (L[0]'(by omega)))[0]?=some ((f (L[0]'(by omega)))[0]'(by rw[d _ (List.getElem_mem _)];exact l)):=List.getElem?_eq_getElem _;rw[G]at h0;have:=World.block_lt_of_cell? w _ h0
   rwa[eu]at this
  ·intro q u hu;obtain⟨i,j,M,O,rfl,T⟩:=Dx f k l L d q u hu;rw[(C i M).2.2 j O,T]
end
end Go.Proofs.YtfchcdbfalgdlaaGreatDoor
namespace Go.Proofs.YtfchcdbfalgdlaaGreatDoor
open _root_.Go.Proofs.Tryz
open Go.RowKit Go.Maps
def aJ(s:List Int):Prop:=s.length=64∧aU s
def aw:List Int:=List.replicate 64 0
theorem aX:aJ aw:=⟨by simp[aw],fun x c=>by simp[aw]at c;omega⟩
def nj(xs:List Int):List Value:=xs.map (Value.int .i64)
theorem zx(xs:List Int):(nj xs).length=xs.length:=by simp[nj]
theorem zw(xs:List Int)(x:Int):nj (xs++[x])=nj xs++[.int .i64 x]:=by simp[nj]
theorem FG:aW prog 89 3 1 8:=aW.mk' (z:=.int .i64 0) underlying89 (by kernel_rfl) rfl (by decide)
theorem kI:Keyed prog 3:=int_keyed underlying3
structure DP where
 size:Nat
 sure:Int→Option (List Int)
 fresh:Int→Option (List Int)
 order:List Int
 fuse:Int
 down:Bool
def sH(F:Int→Option (List Int))(a:Int)(s:Option (List Int)):Int→Option (List Int):=fun x=>if x=a then s else F x
structure DP.Ok(p:DP):Prop where
 s1:1≤p.size
 s2:p.size≤16384
 sureR:∀a s,p.sure a=some s→(0≤a∧a<p.size)∧aJ s
 freshR:∀a s,p.fresh a=some s→(0≤a∧a<p.size)∧aJ s
 nod:p.order.Nodup
 ord:∀a,a∈p.order↔p.fresh a≠none
 fz: -1≤p.fuse∧p.fuse≤9223372036854775807
def DP.new(n:Nat):DP:=⟨n,fun _=>none,fun _=>none,[],-1,false⟩
def DP.get(p:DP)(a:Int):List Int:=match p.fresh a with|some s=>s|none=>(p.sure a).getD aw
def DP.put(p:DP)(a:Int)(s:List Int):DP:={p with order:=if p.fresh a=none then p.order++[a]else p.order,fresh:=sH p.fresh a (some s)}
def DP.burn(p:DP):DP:={p with fuse:=if 0<p.fuse then p.fuse-1 else p.fuse}
def DP.write(p:DP)(a:Int)(s:List Int):DP:=p.burn.put a s
def DP.sync(p:DP):DP:={p with sure:=fun a=>match p.fresh a with|some s=>some s|none=>p.sure a,fresh:=fun _=>none,order:=[]}
def jc(p:DP)(c:List Bool):Nat→Int→Option (List Int)
 | 0=>p.sure
 |j+1=>if c.getD j false=true then sH (jc p c j) (p.order.getD j 0) (p.fresh (p.order.getD j 0))else jc p c j
def DP.cut(p:DP)(c:List Bool):DP:=⟨p.size,jc p c p.order.length,fun _=>none,[],-1,false⟩
theorem DP.new_ok{n:Nat}(h1:1≤n)(h2:n≤16384):(DP.new n).Ok:=
 ⟨h1,h2,fun _ _ h=>by simp[DP.new]at h,fun _ _ h=>by simp[DP.new]at h,by simp[DP.new],fun a=>by simp[DP.new],by simp[DP.new]⟩
theorem DP.Ok.get{p:DP}(h:p.Ok)(a:Int):aJ (p.get a):=by
 unfold DP.get
 cases hf:p.fresh a with
 |some s=>exact(h.freshR a s hf).2
 |none=>
  cases hs:p.sure a with
  |some s=>exact(h.sureR a s hs).2
  |none=>exact aX
theorem DP.Ok.inOrd{p:DP}(h:p.Ok){a:Int}(c:a∈p.order):0≤a∧a<p.size:=by
 have:=(h.ord a).1 c
 cases hf:p.fresh a with
 |none=>exact absurd hf this
 |some s=>exact(h.freshR a s hf).1
theorem DP.Ok.len{p:DP}(h:p.Ok):p.order.length≤p.size:=by
 have:(p.order.map Int.toNat).length≤p.size:=by
  refine tu ?_ ?_
  ·rw[List.Nodup,List.pairwise_map];refine List.Pairwise.imp_of_mem ?_ h.nod;intro x y c d i j;have:=h.inOrd c;have:=h.inOrd d;omega
  ·intro x c;obtain⟨y,d,rfl⟩:=List.mem_map.1 c;have:=h.inOrd d;omega
 simpa using this
theorem DP.Ok.put{p:DP}(h:p.Ok){a:Int}(j:0≤a∧a<p.size){s:List Int}(l:aJ s):(p.put a s).Ok:=by
 refine⟨h.s1,h.s2,h.sureR,?_,?_,?_,?_⟩
 ·intro b t c;simp only[DP.put,sH]at c;split at c
  ·next e=>subst e;injection c with c;subst c;exact⟨j,l⟩
  ·exact h.freshR b t c
 ·simp only[DP.put];split
  ·next d=>
   rw[List.nodup_append];refine⟨h.nod,by simp,?_⟩;intro x m y i e;simp at i;subst i e;exact(h.ord x).1 m d
  ·exact h.nod
 ·intro b;simp only[DP.put,sH]
  by_cases e:b=a
  ·subst e;simp only[if_true];split
   ·simp
   ·next d=>simp[(h.ord b).2 d]
  ·rw[if_neg e];split
   ·simp[e,h.ord b]
   ·exact h.ord b
 ·exact h.fz
theorem DP.Ok.burn{p:DP}(h:p.Ok):p.burn.Ok:=⟨h.s1,h.s2,h.sureR,h.freshR,h.nod,h.ord,by have:=h.fz;simp only[DP.burn];split<;>omega⟩
theorem DP.Ok.write{p:DP}(h:p.Ok){a:Int}(c:0≤a∧a<p.size){s:List Int}(d:aJ s):(p.write a s).Ok:=h.burn.put c d
theorem DP.Ok.sync{p:DP}(h:p.Ok):p.sync.Ok:=by
 refine⟨h.s1,h.s2,?_,by simp[DP.sync],by simp[DP.sync],by simp[DP.sync],h.fz⟩;intro a s c;simp only[DP.sync]at c
 cases hf:p.fresh a with
 |some t=>rw[hf]at c;injection c with c;subst c;exact h.freshR a t hf
 |none=>rw[hf]at c;exact h.sureR a s c
theorem nt{p:DP}(h:p.Ok)(c:List Bool):∀j a s,jc p c j a=some s→(0≤a∧a<p.size)∧aJ s
 | 0,a,s,d=>h.sureR a s d
 |j+1,a,s,d=>by
  simp only[jc]at d;split at d
  ·simp only[sH]at d;split at d
   ·next e=>subst e;exact h.freshR _ s d
   ·exact nt h c j a s d
  ·exact nt h c j a s d
theorem DP.Ok.cut{p:DP}(h:p.Ok)(c:List Bool):(p.cut c).Ok:=
 ⟨h.s1,h.s2,nt h c _,by simp[DP.cut],by simp[DP.cut],by simp[DP.cut],by simp[DP.cut]⟩
def mf(F:Int→Option (List Int)):Lit→Option Value
 | .int .i64 a=>(F a).map fun s=>.agg (af s)
 |_=>none
theorem zI(F:Int→Option (List Int))(a:Int)(s:Option (List Int)):kE (mf F) (.int .i64 a) (s.map fun s=>.agg (af s))=mf (sH F a s):=by
 funext x
 by_cases h:x=.int .i64 a
 ·subst h;rw[gB (by trivial)];simp[mf,sH]
 ·rw[eU h];unfold mf sH;split
  ·next b=>rw[if_neg (by rintro rfl;exact h rfl)]
  ·rfl
theorem EJ (F G:Int→Option (List Int)):EM (mf F) (mf G)=mf fun a=>match F a with | some s=>some s | none=>G a:=by
 funext x
 unfold EM mf;split
 ·next b v h => split at h
                ·next a=>cases hF:F a with
                 |none=>rw[hF]at h;cases h
                 |some s=>rw[hF]at h;simp[←h,hF]
                ·cases h
 ·next b h => split at h
              ·next a=>cases hF:F a with
               |none=>simp[hF]
               |some s=>rw[hF]at h;cases h
              ·rfl
theorem rJ:mf (fun _=>none)=fun _=>none:=by funext x;unfold mf;split<;>rfl
theorem zH{F:Int→Option (List Int)}{n:Nat}(h:∀a s,F a=some s→(0≤a∧a<n)∧aJ s){kl:Lit}{v:Value}(c:mf F kl=some v):∃s,v=.agg (af s)∧aJ s:=by
 unfold mf at c;split at c
 ·next a=>cases hF:F a with
  |none=>rw[hF]at c;cases c
  |some s=>rw[hF]at c;injection c with c;exact⟨s,c.symm,(h a s hF).2⟩
 ·cases c
theorem rI{F:Int→Option (List Int)}{n:Nat}(h:∀a s,F a=some s→(0≤a∧a<n)∧aJ s)(kl:Lit)(c:mf F kl≠none):∃a:Nat,kl=.int .i64 a∧a<n:=by
 unfold mf at c;split at c
 ·next a=>cases hF:F a with
  |none=>rw[hF]at c;exact absurd rfl c
  |some s=>
   have:=(h a s hF).1;obtain⟨m,rfl⟩:=Int.eq_ofNat_of_zero_le this.1;exact⟨m,rfl,by omega⟩
 ·exact absurd rfl c
structure Dk(w:World)(base g bs bf:Nat)(v:Value)(p:DP):Prop where
 blk:ab w g 120 #[.int .i64 p.size,.map (some bs),.map (some bf),v,.int .i64 p.fuse,.bool p.down]
 ms:aH w prog 3 bs p.size (mf p.sure)
 mw:aH w prog 3 bf p.size (mf p.fresh)
 own:w.ownsRow base 3 1 v p.order.length (nj p.order)
 ne:bs≠bf
 lo:base≤g∧base≤bs∧base≤bf
 ok:p.Ok
def bJ(g bs bf:Nat)(v:Value)(k:Nat):Prop:=k=g∨k=bs∨k=bf∨v.ownBlock=some k
section
variable {w w':World}{base g bs bf:Nat}{v:Value}{p:DP}
theorem Dk.fr{S:Nat→Prop}(h:Dk w base g bs bf v p)(c:Fr S w w')(d:∀k,S k→¬bJ g bs bf v k):Dk w' base g bs bf v p:=
 ⟨h.blk.fr c (fun k=>d _ k (.inl rfl)),h.ms.fr c (fun k=>d _ k (.inr (.inl rfl))),h.mw.fr c (fun k=>d _ k (.inr (.inr (.inl rfl)))),bD h.own c (fun _ i k=>d _ k (.inr (.inr (.inr i)))),h.ne,h.lo,h.ok⟩
theorem Dk.new(h:Dk w base g bs bf v p)(c:aa w w'):Dk w' base g bs bf v p:=h.fr (c.toFr ia) (fun _ x=>x.elim)
theorem Dk.ours(h:Dk w base g bs bf v p):∀k,bJ g bs bf v k→base≤k∧k<w.heap.size:=by
 rintro k (rfl|rfl|rfl|c)
 ·exact⟨h.lo.1,h.blk.lt⟩
 ·exact⟨h.lo.2.1,h.ms.lt⟩
 ·exact⟨h.lo.2.2,h.mw.lt⟩
 ·exact ak h.own k c
theorem lA{t:TypeId}{cs:Array Value}{P:Program}{k:TypeId}{n b:Nat}{f:Lit→Option Value}{g:Nat}(h:ab w g t cs)(d:aH w P k b n f):g≠b:=by
 rintro rfl;obtain⟨D,⟨i,clock,c,_⟩,_⟩:=d;unfold ab at h;rw[h]at c
 cases c
theorem wJ{e s m k:Nat}{xs:List Value}{P:Program}{j:TypeId}{n b:Nat}{f:Lit→Option Value}(h:w.ownsRow base e s v m xs)(i:aH w P j b n f)(c:v.ownBlock=some k):k≠b:=by
 rcases h.2 with⟨rfl,_⟩|⟨g',cap,cur,rfl,_,d,_⟩
 ·cases c
 ·have:g'=k:=by simpa [Value.ownBlock] using c
  subst this;exact lA (t:=e) d i
theorem Dk.gs(h:Dk w base g bs bf v p):g≠bs:=lA h.blk h.ms
theorem Dk.gf(h:Dk w base g bs bf v p):g≠bf:=lA h.blk h.mw
theorem Dk.vg(h:Dk w base g bs bf v p):v.ownBlock≠some g:=bG h.own h.blk (by decide)
theorem Dk.vs(h:Dk w base g bs bf v p):∀k,v.ownBlock=some k→k≠bs:=fun _ c=>wJ h.own h.ms c
theorem Dk.vf(h:Dk w base g bs bf v p):∀k,v.ownBlock=some k→k≠bf:=fun _ c=>wJ h.own h.mw c
end
theorem rH {w:World} {base g bs bf:Nat} {v:Value} {p:DP} (h:Dk w base g bs bf v p) {a:Int} (h0:0≤a) (h1:a<p.size):Calls prog 71 #[.pointer (some ⟨g,0,none⟩),.int .i64 a] w fun e w'=>e= .returned .nilIface∧w=w':=by
 have c:=h.blk.cell 0;have d:=h.ok.s2;clear h;have t0:decide (a<0)=false:=decide_eq_false (by omega)
 go_enter func71,ntmps71
 go_wp2_with fail
 go_ret;exact⟨rfl,rfl⟩
theorem wD {w:World} {base g bs bf:Nat} {v:Value} {p:DP} (h:Dk w base g bs bf v p) {a:Int} (h1:¬(0≤a∧a<p.size)):Calls prog 71 #[.pointer (some ⟨g,0,none⟩),.int .i64 a] w fun e w'=>e= .returned (.iface 38 (.int .i64 1))∧w=w':=by
 have c:=h.blk.cell 0;have d:=h.ok.s2;clear h
 by_cases h0:a<0
 ·have t0:decide (a<0)=true:=decide_eq_true h0
  go_enter func71,ntmps71
  go_wp2_with fail
  go_ret;exact⟨rfl,rfl⟩
 ·have h2:(p.size:Int)≤a:=by omega
  have t0:decide (a<0)=false:=decide_eq_false h0;clear h1
  go_enter func71,ntmps71
  go_wp2_with fail
  go_ret;exact⟨rfl,rfl⟩
theorem new_ok (n : Nat) (w : World) (base : Nat) (d : base ≤ w.heap.size) (h1 : 1 ≤ n) (h2 : n ≤ 16384) : Calls prog 22 #[.int .i64 n] w fun e w' => e = .returned (.tuple #[.pointer (some ⟨w.heap.size + 2, 0, none⟩), .nilIface]) ∧
    Dk w' base (w.heap.size+2) w.heap.size (w.heap.size+1) (.slice none 0 0) (DP.new n)∧aa w w':=by
 have c:= @run_makeMap prog
 go_enter func22,ntmps22
 go_wp2_with fail
 go_ret2
 refine⟨rfl,⟨?_,?_,?_,World.ownsRow_nil _ _ _ _,by omega,by omega,DP.new_ok h1 h2⟩,((aa.refl w).al _ |>.al _).al _⟩
 ·exact ab.new' _ _ _ (by simp)
 ·rw[show mf (DP.new n).sure=fun _=>none from rJ];exact(((aH.made w prog 3).alloc _).alloc _).mono (by omega)
 ·rw[show mf (DP.new n).fresh=fun _=>none from rJ];have:=((aH.made (w.alloc (.map #[] 0)) prog 3).alloc (.cells #[.int .i64 n,.map (some w.heap.size),.map (some (w.heap.size+1)),.slice none 0 0,.int .i64 (-1),.bool false] 120)).mono (show 0≤n by omega)
  simpa[DP.new]using this
theorem uL {w:World} {base g bs bf:Nat} {v:Value} {p:DP} (h:Dk w base g bs bf v p):Calls prog 90 #[.pointer (some ⟨g,0,none⟩)] w fun e w'=>e= .returned (.int .i64 p.size)∧w=w':=by
 have c:=h.blk.cell 0;clear h
 go_enter func90,ntmps90
 go_wp2_with fail
 go_ret;exact⟨rfl,rfl⟩
theorem rO (w:World):Calls prog 34 #[.nilIface] w fun e w'=>e= .returned (.int .i64 0)∧w=w':=by
 go_enter func34,ntmps34
 go_wp2_with fail
 go_ret;exact⟨rfl,rfl⟩
theorem vi(n:Int)(w:World):(Instr.typeAssert (.iface 38 (.int .i64 n)) 27 38 true).run prog w=.ok (.tuple #[.int .i64 n,.bool true]) w:=by
 simp[Instr.typeAssert,run_underlying underlying38]
theorem tv (n:Int) (w:World) (c:(n==0)=false):Calls prog 34 #[.iface 38 (.int .i64 n)] w fun e w'=>e= .returned (.int .i64 n)∧w=w':=by
 have i:=vi n;have d:(n != 0)=true:=by simp[bne,c]
 go_enter func34,ntmps34
 go_wp2_with fail
 go_ret;exact⟨rfl,rfl⟩
theorem bE:(prog.info? 68).map (fun i=>(i.zero,i.size))=some (some (.agg (af aw)),64):=by kernel_rfl
theorem yJ(w:World):(zeroValue 68).run prog w=.ok (.agg (af aw)) w:=(zero_of_info bE).1 w
theorem DD{a:Int}(h0:0≤a)(h1:a<16384):keyOf prog 3 (.int .i64 a)=some (.int .i64 a):=
 keyOf_int_mk underlying3 (by simp[Lit.wf,IntKind.min,IntKind.max,IntKind.signed,IntKind.bits];omega)
theorem xD{p:DP}{a:Int}{s:List Int}(h:p.fresh a=some s):p.get a=s:=by simp[DP.get,h]
theorem zv{p:DP}{a:Int}(h:p.fresh a=none):p.get a=(p.sure a).getD aw:=by simp[DP.get,h]
theorem Cg {w:World} {base g bs bf:Nat} {v:Value} {p:DP} (h:Dk w base g bs bf v p) {a:Int} (h0:0≤a) (h1:a<p.size):Calls prog 91 #[.pointer (some ⟨g,0,none⟩),.int .i64 a] w fun e w'=>e= .returned (.tuple #[.agg (af (p.get a)),.nilIface])∧aa w w':=by
 have H:=Ld h;have B:=DD h0 (by have:=h.ok.s2;omega);have D:=Ld B;clear h B
 go_enter func91,ntmps91
 go_wp2_with fail
 obtain⟨E,l⟩:=nM (w.alloc (.cells #[.int .u8 0,.int .u8 0,.int .u8 0,.int .u8 0,.int .u8 0,.int .u8 0,.int .u8 0,.int .u8 0,.int .u8 0,.int .u8 0,.int .u8 0,.int .u8 0,.int .u8 0,.int .u8 0,.int .u8 0,.int .u8 0,.int .u8 0,.int .u8 0,.int .u8 0,.int .u8 0,.int .u8 0,.int .u8 0,.int .u8 0,.int .u8 0,.int .u8 0,.int .u8 0,.int .u8 0,.int .u8 0,.int .u8 0,.int .u8 0,.int .u8 0,.int .u8 0,.int .u8 0,.int .u8 0,.int .u8 0,.int .u8 0,.int .u8 0,.int .u8 0,.int .u8 0,.int .u8 0,.int .u8 0,.int .u8 0,.int .u8 0,.int .u8 0,.int .u8 0,.int .u8 0,.int .u8 0,.int .u8 0,.int .u8 0,.int .u8 0,.int .u8 0,.int .u8 0,.int .u8 0,.int .u8 0,.int .u8 0,.int .u8 0,.int .u8 0,.int .u8 0,.int .u8 0,.int .u8 0,.int .u8 0,.int .u8 0,.int .u8 0,.int .u8 0] 68):World);have d:Hid (aa w E):=Ld (by rw[l];exact aa.al (aa.refl _) _);have t:Hid (ab E w.heap.size 68 (af aw)):=Ld (by rw[l];exact ab.new _ _ _);have c:=Ld (H.out.new d.out);rw[←l];clear l;refine(rH c.out h0 h1).mono ?_;rintro e L ⟨rfl,rfl⟩;have c2:=c.out.blk.cell 2
 cases hf:p.fresh a with
 |some s=>
  have y:=Ld (xD hf);have u:=Ld hf;have r:=Ld (c.out.ok.freshR a s hf).2;clear hf
  go_wp2_with (first
   |(refine cg 22 rfl ?_;refine fT (o:=⟨some 22,_,_,_,_,_⟩) c.out.mw kI underlying118 (yJ _) rfl (.tmp 20) (.tmp 21) rfl rfl _ _ rfl D.out (.agg (af s)) true (by simp[mf,u.out]) (by simp[mf,u.out]) ?_)
   |(refine cg 7 rfl ?_;refine aG (s:=s) rfl rfl rfl _ _ rfl bE rfl rfl rfl r.out.1 ?_)
   |(refine cg 26 rfl ?_;refine eP (s:=s) rfl _ rfl underlying68 rfl rfl (ab.new _ _ _) r.out.1 ?_)
   |((with_reducible refine aA ⟨none,.store 68 (.tmp 4) _,_,_,_,_⟩ ?_);refine bu (s:=s) (s0:=aw) rfl (.tmp 4) (.tmp 26) rfl rfl rfl rfl (t.out.alloc _) rfl r.out.1 ?_;intro I i j;have m:=Ld i;have q:=Ld j;clear i j))
  refine bodyPost_ret (cN rfl _ _ rfl m.out underlying68 rfl r.out.1) rfl ?_;exact⟨by rw[y.out];rfl,(d.out.al _).fr q.out (fun k B=>by have:=d.out.size;omega)⟩
 |none=>
  have y:=Ld (zv hf);have u:=Ld hf;obtain⟨s,C⟩:=nM ((p.sure a).getD aw)
  have z:aJ s:=by
   have:=c.out.ok.get a
   rwa[y.out,←C]at this
  have F:(mf p.sure (.int .i64 a)).getD (.agg (af aw))=.agg (af s):=by
   rw[C]
   cases hq:p.sure a<;>simp[mf,hq]
  rw[←C]at y;have r:=Ld z;have G:=Ld F;clear hf C z F;have J:=fun o:Obj=>(aa.al (aa.refl E) o).cell_ (c.out.blk.cell 1)
  go_wp2_with (first
   |(refine cg 22 rfl ?_;refine fT (o:=⟨some 22,_,_,_,_,_⟩) c.out.mw kI underlying118 (yJ _) rfl (.tmp 20) (.tmp 21) rfl rfl _ _ rfl D.out (.agg (af aw)) false (by simp[mf,u.out]) (by simp[mf,u.out]) ?_)
   |(refine cg 7 rfl ?_;refine aG (s:=aw) rfl rfl rfl _ _ rfl bE rfl rfl rfl aX.1 ?_)
   |(refine cg 32 rfl ?_;refine pN (o:=⟨some 32,_,_,_,_,_⟩) (c.out.ms.alloc _) kI underlying118 (yJ _) rfl (.tmp 30) (.tmp 31) rfl rfl _ _ rfl D.out (.agg (af s)) G.out ?_)
   |((with_reducible refine aA ⟨none,.store 68 (.tmp 4) _,_,_,_,_⟩ ?_);refine bu (s:=s) (s0:=aw) rfl (.tmp 4) (.tmp 32) rfl rfl rfl rfl (t.out.alloc _) rfl r.out.1 ?_;intro I i j;have m:=Ld i;have q:=Ld j;clear i j))
  refine bodyPost_ret (cN rfl _ _ rfl m.out underlying68 rfl r.out.1) rfl ?_;exact⟨by rw[y.out];rfl,(d.out.al _).fr q.out (fun k B=>by have:=d.out.size;omega)⟩
theorem Am{z:Option Addr}{a n:Int}{w:World}(d:∀w',aa w w'→Calls prog 71 #[.pointer z,.int .i64 a] w' fun e u=>e=.returned (.iface 38 (.int .i64 n))∧w'=u):
    Calls prog 91 #[.pointer z,.int .i64 a] w fun e w'=>e=.returned (.tuple #[.agg (af aw),.iface 38 (.int .i64 n)])∧aa w w':=by
 have B:=Ld d;have m:∀w,(Instr.build 68 #[]).run prog w=.ok (.agg (af aw)) w:=fun _=>by kernel_rfl
 clear d
 go_enter func91,ntmps91
 go_wp2_with fail
 obtain⟨y,c⟩:=nM (w.alloc (.cells #[.int .u8 0,.int .u8 0,.int .u8 0,.int .u8 0,.int .u8 0,.int .u8 0,.int .u8 0,.int .u8 0,.int .u8 0,.int .u8 0,.int .u8 0,.int .u8 0,.int .u8 0,.int .u8 0,.int .u8 0,.int .u8 0,.int .u8 0,.int .u8 0,.int .u8 0,.int .u8 0,.int .u8 0,.int .u8 0,.int .u8 0,.int .u8 0,.int .u8 0,.int .u8 0,.int .u8 0,.int .u8 0,.int .u8 0,.int .u8 0,.int .u8 0,.int .u8 0,.int .u8 0,.int .u8 0,.int .u8 0,.int .u8 0,.int .u8 0,.int .u8 0,.int .u8 0,.int .u8 0,.int .u8 0,.int .u8 0,.int .u8 0,.int .u8 0,.int .u8 0,.int .u8 0,.int .u8 0,.int .u8 0,.int .u8 0,.int .u8 0,.int .u8 0,.int .u8 0,.int .u8 0,.int .u8 0,.int .u8 0,.int .u8 0,.int .u8 0,.int .u8 0,.int .u8 0,.int .u8 0,.int .u8 0,.int .u8 0,.int .u8 0,.int .u8 0] 68):World);have i:Hid (aa w y):=Ld (by rw[c];exact aa.al (aa.refl _) _);have q:Hid (ab y w.heap.size 68 (af aw)):=Ld (by rw[c];exact ab.new _ _ _);rw[←c];clear c;refine(B.out y i.out).mono ?_;rintro e D ⟨rfl,rfl⟩
 go_wp2_with (first
     |((with_reducible refine aA ⟨none,.store 68 (.tmp 4) _,_,_,_,_⟩ ?_);refine bu (s:=aw) (s0:=aw) rfl (.tmp 4) (.tmp 14) rfl rfl rfl rfl q.out rfl aX.1 ?_;intro E j l;have r:=Ld j;have t:=Ld l;clear j l))
 refine bodyPost_ret (cN rfl _ _ rfl r.out underlying68 rfl aX.1) rfl ?_;exact⟨rfl,i.out.fr t.out (fun k C=>by omega)⟩
theorem An{w:World}{base g bs bf:Nat}{v:Value}{p:DP}(h:Dk w base g bs bf v p){a:Int}(h1:¬(0≤a∧a<p.size)):Calls prog 91 #[.pointer (some ⟨g,0,none⟩),.int .i64 a] w fun e w'=>e=.returned (.tuple #[.agg (af aw),.iface 38 (.int .i64 1)])∧aa w w':=Am fun w' c=>wD (h.new c) h1
theorem yG{l:Option Addr}{a n:Int}{s:List Int}{w:World}(c:∀w',aa w w'→Calls prog 71 #[.pointer l,.int .i64 a] w' fun e j=>e=.returned (.iface 38 (.int .i64 n))∧w'=j):
    Calls prog 31 #[.pointer l,.int .i64 a,.agg (af s)] w fun e w'=>e=.returned (.iface 38 (.int .i64 n))∧aa w w':=by
 have q:=Ld c;clear c
 go_enter func31,ntmps31
 go_wp2_with fail
 obtain⟨m,d⟩:=nM (w.alloc (.cells (af s) 68):World);have i:Hid (aa w m):=Ld (by rw[d];exact aa.al (aa.refl _) _);rw[←d];clear d;refine(q.out m i.out).mono ?_;rintro e r ⟨rfl,rfl⟩
 go_wp2_with fail
 go_ret;exact⟨rfl,i.out⟩
theorem yI{w:World}{base g bs bf:Nat}{v:Value}{p:DP}(h:Dk w base g bs bf v p){a:Int}(s:List Int)(h1:¬(0≤a∧a<p.size)):Calls prog 31 #[.pointer (some ⟨g,0,none⟩),.int .i64 a,.agg (af s)] w fun e w'=>e=.returned (.iface 38 (.int .i64 1))∧aa w w':=yG fun w' c=>wD (h.new c) h1
def DP.fall(p:DP):DP:={p with down:=true}
theorem DP.Ok.fall{p:DP}(h:p.Ok):p.fall.Ok:=⟨h.s1,h.s2,h.sureR,h.freshR,h.nod,h.ord,h.fz⟩
theorem Dk.setDown{w:World}{base g bs bf:Nat}{v:Value}{p:DP}(h:Dk w base g bs bf v p)(b:Bool):Dk (w.setCell ⟨g,5,none⟩ (.bool b)) base g bs bf v {p with down:=b}:=by
 have c:Fr (fun k=>k=g) w (w.setCell ⟨g,5,none⟩ (.bool b)):=(Fr.refl _ w).setCell (S:=fun k=>k=g) (p:=⟨g,5,none⟩) (fun _=>rfl) _;refine⟨?_,h.ms.fr c (fun e=>h.gs e.symm),h.mw.fr c (fun e=>h.gf e.symm),bD h.own c (fun k d e=>h.vg (by rw[d,e])),h.ne,h.lo,⟨h.ok.s1,h.ok.s2,h.ok.sureR,h.ok.freshR,h.ok.nod,h.ok.ord,h.ok.fz⟩⟩;have:=h.blk.set 5 (.bool b)
 simpa using this
theorem Dk.setFuse{w:World}{base g bs bf:Nat}{v:Value}{p:DP}(h:Dk w base g bs bf v p)(n:Int)(i: -1≤n∧n≤9223372036854775807):Dk (w.setCell ⟨g,4,none⟩ (.int .i64 n)) base g bs bf v {p with fuse:=n}:=by
 have c:Fr (fun k=>k=g) w (w.setCell ⟨g,4,none⟩ (.int .i64 n)):=(Fr.refl _ w).setCell (S:=fun k=>k=g) (p:=⟨g,4,none⟩) (fun _=>rfl) _;refine⟨?_,h.ms.fr c (fun e=>h.gs e.symm),h.mw.fr c (fun e=>h.gf e.symm),bD h.own c (fun k d e=>h.vg (by rw[d,e])),h.ne,h.lo,⟨h.ok.s1,h.ok.s2,h.ok.sureR,h.ok.freshR,h.ok.nod,h.ok.ord,i⟩⟩;have:=h.blk.set 4 (.int .i64 n)
 simpa using this
theorem vK{w:World}{base g bs bf:Nat}{v:Value}{p:DP}(h:Dk w base g bs bf v p){a:Int}(s:List Int)(h0:0≤a)(h1:a<p.size)(hd:p.fuse=0∨p.down=true):
    Calls prog 31 #[.pointer (some ⟨g,0,none⟩),.int .i64 a,.agg (af s)] w fun e w'=>e=.returned (.iface 38 (.int .i64 14))∧Dk w' base g bs bf v p.fall∧Fr (fun k=>k=g) w w':=by
 have H:=Ld h;clear h
 by_cases l:p.fuse=0
 ·clear hd;have r:(p.fuse==0)=true:=by simp [l]
  clear l
  go_enter func31,ntmps31
  go_wp2_with fail
  obtain⟨m,d⟩:=nM (w.alloc (.cells (af s) 68):World);have i:Hid (aa w m):=Ld (by rw[d];exact aa.al (aa.refl _) _);have c:=Ld (H.out.new i.out);rw[←d];clear d;refine(rH c.out h0 h1).mono ?_;rintro e z ⟨rfl,rfl⟩;have u:=c.out.blk.cell 4;have y:=c.out.blk.cell 5;have f5:=c.out.blk.frozen 5
  go_wp2_with fail
  go_ret;exact⟨rfl,c.out.setDown true,(i.out.toFr _).setCell (S:=fun k=>k=g) (p:=⟨g,5,none⟩) (fun _=>rfl) _⟩
 ·have r:(p.fuse==0)=false:=by simp [l]
  have j:p.down=true:=hd.resolve_left l;clear hd l;have t:Hid (p.fall=p):=Ld (by cases p;simp only[DP.fall];simp only at j;rw[j]);have q:=Ld j;clear j
  go_enter func31,ntmps31
  go_wp2_with fail
  obtain⟨m,d⟩:=nM (w.alloc (.cells (af s) 68):World);have i:Hid (aa w m):=Ld (by rw[d];exact aa.al (aa.refl _) _);have c:=Ld (H.out.new i.out);rw[←d];clear d;refine(rH c.out h0 h1).mono ?_;rintro e z ⟨rfl,rfl⟩;have u:=c.out.blk.cell 4;have y:m.cell? ⟨g,5,none⟩=some (.bool true):=by rw[c.out.blk.cell 5];simp[q.out]
  go_wp2_with fail
  go_ret;exact⟨rfl,by rw[t.out];exact c.out,i.out.toFr _⟩
theorem wO{l y z m:World}{base g bs bf n:Nat}{v v3:Value}{p:DP}(c:Dk l base g bs bf v p){a:Int}{s:List Int}(E:0≤a∧a<p.size)(F:aJ s)
    (h2:Fr (fun k=>v.ownBlock=some k) l y) (D:y.ownsRow base 3 1 v3 (p.put a s).order.length (nj (p.put a s).order))
    (C:∀k,v3.ownBlock=some k→v.ownBlock=some k∨l.heap.size≤k) (q:Fr (fun k=>k=g) y z) (r:ab z g 120 #[.int .i64 p.size,.map (some bs),.map (some bf),v3,.int .i64 p.fuse,.bool p.down])
    (B:aH m prog 3 bf n (kE (mf p.fresh) (.int .i64 a) (some (.agg (af s))))) (j:Fr (fun k=>k=bf) z m):
    Dk m base g bs bf v3 (p.put a s)∧Fr (bJ g bs bf v) l m:=by
 have i:=c.ok.put E F
 have u:∀k,v3.ownBlock=some k→k≠g:=fun k d e=>by
  rcases C k d with h|h
  ·exact c.vg (by rw[h,e])
  ·have:=c.blk.lt;omega
 have t:∀k,v3.ownBlock=some k→k≠bf:=fun k d e=>by
  rcases C k d with h|h
  ·exact c.vf k h e
  ·have:=c.mw.lt;omega
 refine⟨⟨r.fr j c.gf,?_,?_,bD (bD D q u) j t,c.ne,c.lo,i⟩,?_⟩
 ·exact((c.ms.fr h2 (fun e=>c.vs _ e rfl)).fr q (fun e=>c.gs e.symm)).fr j c.ne
 ·have:kE (mf p.fresh) (.int .i64 a) (some (.agg (af s)))=mf (p.put a s).fresh:=zI p.fresh a (some s);rw[this]at B;exact B.tight kI _ fun kl d=>rI i.freshR kl d
 ·exact((h2.mono fun b _ h=>.inr (.inr (.inr h))).trans (q.mono fun b _ h=>.inl h)).trans (j.mono fun b _ h=>.inr (.inr (.inl h)))
theorem AW{w:World}{base g bs bf:Nat}{v:Value}{p:DP}(h:Dk w base g bs bf v p){a:Int}{s:List Int}(h0:0≤a)(h1:a<p.size)(hs:aJ s)(hd:p.down=false)(hf:p.fuse≠0):
    Calls prog 31 #[.pointer (some ⟨g,0,none⟩),.int .i64 a,.agg (af s)] w fun e w'=>e=.returned .nilIface∧∃v',Dk w' base g bs bf v' (p.write a s)∧Fr (bJ g bs bf v) w w'∧∀k,v'.ownBlock=some k→v.ownBlock=some k∨w.heap.size≤k:=by
 have H:=Ld h;have HK:=Ld (DD h0 (by have:=h.ok.s2;omega));have HS:=Ld hs;have j3:(p.fuse==0)=false:=by simp[hf]
 have j1:=h.ok.fz;have g8:=Ld hd;clear h hs hd
 go_enter func31,ntmps31
 go_wp2_with fail
 obtain⟨G,E⟩:=nM (w.alloc (.cells (af s) 68):World);have b8:Hid (aa w G):=Ld (by rw[E];exact aa.al (aa.refl _) _);have b3:Hid (ab G w.heap.size 68 (af s)):=Ld (by rw[E];exact ab.new _ _ _);have l:=Ld (H.out.new b8.out);rw[←E];clear E;refine(rH l.out h0 h1).mono ?_;rintro e y ⟨rfl,rfl⟩
 obtain⟨y,g3,m,b7⟩:∃y,y=(if 0<p.fuse then G.setCell ⟨g,4,none⟩ (.int .i64 (p.fuse-1))else G)∧Hid (Dk y base g bs bf v p.burn)∧Hid (Fr (fun k=>k=g) G y):=by
  refine⟨_,rfl,?_,?_⟩
  ·by_cases hp:0<p.fuse
   ·rw [if_pos hp];have:=l.out.setFuse (p.fuse-1) (by omega);have e:p.burn={p with fuse:=p.fuse-1}:=by simp [DP.burn,if_pos hp]
    exact Ld (by rw[e];exact this)
   ·rw [if_neg hp];have e:p.burn=p:=by simp [DP.burn,if_neg hp]
    exact Ld (by rw[e];exact l.out)
  ·by_cases hp:0<p.fuse
   ·rw[if_pos hp];exact Ld ((Fr.refl _ G).setCell (S:=fun k=>k=g) (p:=⟨g,4,none⟩) (fun _=>rfl) _)
   ·rw[if_neg hp];exact Ld (Fr.refl _ _)
 have c4:=l.out.blk.cell 4;have f4:=l.out.blk.frozen 4;have c5:G.cell? ⟨g,5,none⟩=some (.bool false):=by rw[l.out.blk.cell 5];simp[g8.out]
 have L:¬w.heap.size=g:=fun e=>by have:=H.out.blk.lt;omega
 have g5:=Ld (b3.out.fr b7.out L);have b9:=Ld g3;clear g3
 go_upto_region 10 with(fail)
 all_goals
  first
   |rw[show G.setCell ⟨g,4,none⟩ (.int .i64 (p.fuse-1))=y from by rw[b9.out,if_pos (by assumption)]]
   |rw[show G=y from by rw[b9.out,if_neg (by omega)]]
  clear c4 f4 c5 b3 j3 j1 hf;have z:Hid (Fr (bJ g bs bf v) w y):=Ld ((b8.out.toFr _).trans (b7.out.mono fun b _ hb=>.inl hb));have d2:=m.out.blk.cell 2;have j4:base≤y.heap.size:=by have:=m.out.lo.1;have:=m.out.blk.lt;omega
  obtain⟨r,b1⟩:=nM (y.alloc (.cells (af ((p.fresh a).getD aw)) 68):World);have u:Hid (aa y r):=Ld (by rw[b1];exact aa.al (aa.refl _) _);have N:=Ld (aa.blk u.out g5.out);have d:=Ld (m.out.new u.out);have e2:=d.out.blk.cell 2;have e3:=d.out.blk.cell 3;have j':=d.out.blk.frozen 3;have c0:=Ld b1;clear b1
  cases hfr:p.fresh a with
  |some s0=>
   as_aux_lemma=>
   have i5:=Ld (m.out.ok.freshR a s0 hfr).2;have i:=Ld hfr;clear hfr;have U:Hid (y.alloc (.cells (af s0) 68)=r):=Ld (by rw[c0.out,i.out];rfl);have i1:Hid (aH r.drew prog 3 bf p.size (mf p.fresh)):=Ld (d.out.mw.fr (S:=ia) ((Fr.refl _ _).drew) (fun x=>x));obtain⟨w5,b0,B,j⟩:=i1.out.store kI underlying118 (by have:=d.out.ok.s2;have:p.burn.size=p.size:=rfl;unfold maxLen;omega) HK.out (.agg (am s).toArray);have T:Hid (aH w5 prog 3 bf (p.size+1) (kE (mf p.fresh) (.int .i64 a) (some (.agg (af s))))):=Ld B;have R:=Ld j;have Z:w5.rangeAt w.heap.size 0 (am s)∧w5.cell? ⟨g,2,none⟩=some (.map (some bf)):=⟨((N.out.drew).fr j (fun e=>by have:=H.out.mw.lt;omega)).range,(d.out.blk.drew.fr j d.out.gf).cell 2⟩
   have Y:r.drew.rangeAt w.heap.size 0 (am s)∧r.drew.cell? ⟨g,2,none⟩=some (.map (some bf)):=⟨N.out.drew.range,e2⟩
   have hu:=underlying68;have hi:(prog.info? 68).map (·.size)=some (am s).length:=by rw[ah,HS.out.1];rfl
   clear B j
   go_wp2_with (first
    |(refine cg 47 rfl ?_;refine fT (o:=⟨some 47,_,_,_,_,_⟩) m.out.mw kI underlying118 (yJ _) rfl (.tmp 45) (.tmp 46) rfl rfl _ _ rfl HK.out (.agg (af s0)) true (by simp[DP.burn,mf,i.out]) (by simp[DP.burn,mf,i.out]) ?_)
    |(refine cg 8 rfl ?_;refine aG (s:=s0) rfl rfl rfl _ _ rfl bE rfl rfl rfl i5.out.1 ?_;rw[U.out]))
   go_region_held3 (fun w'=>w'.rangeAt w.heap.size 0 (am s)∧w'.cell? ⟨g,2,none⟩=some (.map (some bf))) (first|exact Z|exact Y) (fail)
   go_wp2_with fail
   go_ret
   have hO:r.ownsRow base 3 1 v (p.burn.put a s).order.length (nj (p.burn.put a s).order):=by
    have e:(p.burn.put a s).order=p.order:=by simp[DP.put,DP.burn,i.out]
    rw[e];exact d.out.own
   have hE:=wO d.out ⟨h0,h1⟩ HS.out (Fr.refl _ _) hO (fun k hk=>.inl hk) (Fr.refl _ _) d.out.blk T.out R.out.ofDrew;exact⟨rfl,v,hE.1,(z.out.trans (u.out.toFr _)).trans hE.2,fun k hk=>.inl hk⟩
  |none=>
   as_aux_lemma=>
   have i:=Ld hfr;clear hfr;have U:Hid (y.alloc (.cells (af aw) 68)=r):=Ld (by rw[c0.out,i.out];rfl);have X:r.ownsRow base 3 1 v p.order.length (nj p.order):=d.out.own;obtain⟨A,c,rfl,j6,j5,-,-⟩:=gx X;have M:p.order.length≤p.size:=l.out.ok.len;have d':p.size≤16384:=l.out.ok.s2;have c9:p.order.length+1≤maxLen:=by unfold maxLen;omega
   have i0:=Ld M;have i6:=Ld d';have i2:=Ld c9;have i3:=Ld X;have c8:(p.order.length+1)*8≤140737488355328:=by omega
   have g7:=Ld c8;have j0:base≤r.heap.size:=by have:=u.out.size;omega
   have i7:=Ld d.out.vg;clear M d' c9 X c8
   go_upto_region 13 with (first
    |(refine cg 47 rfl ?_;refine fT (o:=⟨some 47,_,_,_,_,_⟩) m.out.mw kI underlying118 (yJ _) rfl (.tmp 45) (.tmp 46) rfl rfl _ _ rfl HK.out (.agg (af aw)) false (by simp[DP.burn,mf,i.out]) (by simp[DP.burn,mf,i.out]) ?_)
    |(refine cg 8 rfl ?_;refine aG (s:=aw) rfl rfl rfl _ _ rfl bE rfl rfl rfl aX.1 ?_;rw[U.out])
    |(at_builtin;refine aq FG _ rfl (.tmp 56) (.tmp 58) rfl base (.slice A p.order.length c) p.order.length (nj p.order) rfl (aa.own (aa.al (aa.refl r) _) i3.out) (some ⟨r.heap.size,0,none⟩) 1 1 [.int .i64 a] rfl (Rd.ofBlk (p:=fun _=>True) (t:=3) (cs:= #[.int .i64 a]) (ab.new' _ _ _ rfl) 1 1 rfl trivial) (by simp[Value.oneCell']) i2.out g7.out (by simp;omega) ?_;intro A' c' w3 c7 V c1;have C:=(d.out.blk.alloc (.cells #[.int .i64 a] 3)).fr V (fun e=>i7.out e);have m3:=C.cell 3;have q3:=C.frozen 3;have g6:=Ld C;have i4:=Ld c7;have g9:=Ld V;have g4:=Ld c1;clear C c7 V c1))
   have q:Fr (fun k=>(Value.slice A p.order.length c).ownBlock=some k) r w3:=((Fr.refl _ r).alloc _).trans g9.out;obtain⟨w4,F⟩:=nM (w3.setCell ⟨g,3,none⟩ (.slice A' (p.order.length+1) c'):World);have D:Fr (fun k=>k=g) w3 w4:=by rw[F];exact(Fr.refl (fun k=>k=g) w3).setCell (p:=⟨g,3,none⟩) (fun _=>rfl) _
   have c3:ab w4 g 120 #[.int .i64 p.burn.size,.map (some bs),.map (some bf),.slice A' (p.order.length+1) c',.int .i64 p.burn.fuse,.bool p.burn.down]:=by rw[F];exact g6.out.set 3 _
   have c6:=(d.out.mw.fr q (fun e=>d.out.vf _ e rfl)).fr (S:=fun k=>k=g) D.drew (fun e=>d.out.gf e.symm);have J:ab w4 w.heap.size 68 (af s):=(N.out.fr q (fun e=>by have:=H.out.ours _ (.inr (.inr (.inr e)));omega)).fr D L;rw[←F];clear F m3 q3;have b':=Ld q;have i':=Ld D;have O:=Ld c3;have I:=Ld J;have j2:p.burn.size<maxLen:=by have:=i6.out;have:p.burn.size=p.size:=rfl;unfold maxLen;omega
   obtain⟨w5,b0,B,j⟩:=c6.store kI underlying118 j2 HK.out (.agg (am s).toArray);have T:Hid (aH w5 prog 3 bf (p.size+1) (kE (mf p.fresh) (.int .i64 a) (some (.agg (af s))))):=Ld B;have R:=Ld j;have i9:=O.out.cell 2;have Z:w5.rangeAt w.heap.size 0 (am s)∧w5.cell? ⟨g,2,none⟩=some (.map (some bf)):=⟨((I.out.drew).fr j (fun e=>by have:=H.out.mw.lt;omega)).range,(O.out.drew.fr j d.out.gf).cell 2⟩
   have Y:w4.drew.rangeAt w.heap.size 0 (am s)∧w4.drew.cell? ⟨g,2,none⟩=some (.map (some bf)):=⟨I.out.drew.range,i9⟩
   have hu:=underlying68;have hi:(prog.info? 68).map (·.size)=some (am s).length:=by rw[ah,HS.out.1];rfl
   clear B j c6 q D c3 J e3 j' d2 e2
   go_region_held3 (fun w'=>w'.rangeAt w.heap.size 0 (am s)∧w'.cell? ⟨g,2,none⟩=some (.map (some bf))) (first|exact Z|exact Y) (fail)
   go_wp2_with fail
   go_ret;have he:(p.burn.put a s).order=p.order++[a]:=by simp[DP.put,DP.burn,i.out]
   have f':∀k,(Value.slice A' (p.order.length+1) c').ownBlock=some k→(Value.slice A p.order.length c).ownBlock=some k∨r.heap.size≤k:=fun k hk=>by
    rcases g4.out k hk with h|h
    ·exact .inl h
    ·right;simp at h;omega
   have hE:=wO (v3:=.slice A' (p.order.length+1) c') d.out ⟨h0,h1⟩ HS.out b'.out (by rw[he,zw,List.length_append];exact i4.out) f' i'.out O.out T.out R.out.ofDrew;refine⟨rfl,_,hE.1,(z.out.trans (u.out.toFr _)).trans hE.2,fun k hk=>?_⟩;rcases f' k hk with h|h
   ·exact .inl h
   ·right
    have:=u.out.size;have:=z.out.size;omega
def DP.forget(p:DP):DP:={p with fresh:=fun _=>none,order:=[]}
theorem DP.Ok.forget{p:DP}(h:p.Ok):p.forget.Ok:=⟨h.s1,h.s2,h.sureR,by simp[DP.forget],by simp[DP.forget],by simp[DP.forget],h.fz⟩
theorem qh {w:World} {base g bs bf:Nat} {v:Value} {p:DP} (h:Dk w base g bs bf v p):Calls prog 65 #[.pointer (some ⟨g,0,none⟩)] w fun e w'=>e= .returned (.tuple #[])∧Dk w' base g bs bf (.slice none 0 0) p.forget∧Fr (fun k=>k=g∨k=bf) w w':=by
 have H:=Ld h;have c2:=h.blk.cell 2;clear h
 go_enter func65,ntmps65
 go_wp2_with ((with_reducible refine aA ⟨none,.call _,_,_,_,_⟩ ?_);refine pM H.out.mw underlying118 rfl (.tmp 5) rfl rfl ?_;intro s l d;have c:=H.out.blk.fr d H.out.gf;have d3:=c.cell 3;have f3:=c.frozen 3;have q:=Ld l;have j:=Ld d;have m:=Ld c;clear l d c)
 go_end0
 have i:Fr (fun k=>k=g) s (s.setCell ⟨g,3,none⟩ (.slice none 0 0)):=(Fr.refl _ _).setCell (S:=fun k=>k=g) (p:=⟨g,3,none⟩) (fun _=>rfl) _;refine⟨rfl,⟨m.out.set 3 _,(H.out.ms.fr j.out H.out.ne).fr i (fun e=>H.out.gs e.symm),?_,World.ownsRow_nil _ _ _ _,H.out.ne,H.out.lo,H.out.ok.forget⟩,(j.out.mono fun b _ r=>.inr r).trans (i.mono fun b _ r=>.inl r)⟩;have:=(q.out.fr i (fun e=>H.out.gf e.symm)).mono (show 0≤p.size by omega);rw[←rJ]at this;exact this
theorem zo(q bs nd F:Nat)(fd fs:Lit→Option Value)(w:World)(hd:aH w prog 3 q nd fd)(hs:aH w prog 3 bs F fs)(c3:q≠bs)(u:∀kl v,fs kl=some v→∃s,v=.agg (af s)∧aJ s)(b':nd+F≤maxLen):
    Calls prog 110 #[.map (some q),.map (some bs)] w fun e w'=>e=.returned (.tuple #[])∧aH w' prog 3 q (nd+F) (EM fs fd)∧Fr (fun k=>k=q) w w':=by
 obtain⟨Dd,hd,R⟩:=hd;obtain⟨G,hs,S⟩:=hs;have c8:=hd.lt;have c9:=hs.lt;have g3:=hs.size_le;have b1:=Ld R;have I:=Ld S;have M:=Ld u;clear R S u
 go_enter func110,ntmps110
 go_wp2_with (at_range;refine wpList_range_own _ rfl _ 118 rfl 3 68 kI underlying118 Rv bs F _ rfl hs ?_;intro w0 X T c4)
 go_frame
 go_loopw [8] (fun _ wr => ∃ (left : Lit → Bool) (iF : Nat) (d : DataW Value), wr.ranges prog 3 Rv bs w.heap.size F G left iF ∧ iF ≤ Maps.size G ∧
     wr.ownsMap prog 3 Rv q (nd+(Maps.size G-iF)) d∧Merged d Dd G left∧Hid (Fr (fun k=>k=q) w wr))
  (fun _ wr=>wr.rangeLeft bs w.heap.size)
 case atStart=>
  exact⟨_,_,Dd,X,Nat.le_refl _,(hd.kept T (by simp)).mono (by omega),merged_start Dd G,Ld ((Fr.refl _ w).grown T (fun k _ h=>by cases h))⟩
 case round=>
  obtain⟨left,iF,d,V,d',l,hM,J⟩:=hrel
  go_wp2_with (at_next;refine wpList_next_ranges _ rfl _ rfl 3 kI Rv id id (fun key _ _=>⟨key,rfl⟩) (fun v _ _=>⟨v,rfl⟩) bs w.heap.size F _ _ _ rfl V ?_ ?_)
  ·intro b9 c0
   go_wp2_with fail
   go_end0
   subst b9;exact⟨rfl,⟨d,l.mono (by omega),uP hM c0 b1.out I.out⟩,J.out⟩
  ·intro x c kl yd yp w1 EA r f' hv z Y c1 B c5 c';have hy:yd= .held c∧yp= []:=by unfold Rv at hv;injection hv with hv;injection hv with h1 h2;exact ⟨h1.symm,h2.symm⟩
   obtain⟨s,i,y⟩:=M.out kl c (by
    rw[I.out kl,Maps.has_true_of_atKey z,if_pos rfl,z,hy.1];rfl)
   rw[i]at c';have C:keyOf prog 3 x=some kl:=r;obtain⟨w2,m⟩:=nM (w1.alloc (.cells (af s) 68):World);have b8:aa w1 w2:=by rw[m];exact aa.al (aa.refl _) _
   have O:ab w2 w1.heap.size 68 (af s):=by rw[m];exact ab.new _ _ _
   have j:w1.grownBy w2 none:=by rw[m];exact World.grownBy_alloc _ _ _
   have D:=(l.kept B (fun e=>by have:=Option.some.inj e;omega)).kept j (by simp);have Z:=Y.kept j (by simp) (by simp);have c6:Rv (.agg (af s))=some (yd,yp):=by rw[hy.1,hy.2,i];rfl
   have b7:Hid (w1.alloc (.cells (af s) 68)=w2):=Ld m.symm;have b0:=Ld O;have N:=Ld y;have b3:=Ld B;have L:=Ld j;have HY:=Ld hy;have c7:=Ld i;clear m O y b8 c4 c5 B j hy hv;subst i
   go_wp2_with (first
    |(refine cg 5 rfl ?_;refine dD rfl rfl bE ?_)
    |((with_reducible refine aA ⟨none,.store 68 _ _,_,_,_,_⟩ ?_);refine mc rfl (.tmp 5) (.tmp 12) rfl rfl aX.1 N.out.1 rfl rfl ?_;rw[b7.out])
    |(refine cg 15 rfl ?_;refine eP (s:=s) rfl _ rfl underlying68 rfl rfl b0.out N.out.1 ?_)
    |(at_mapUpdate;refine wpList_mapUpdate_own _ rfl _ _ _ 118 rfl 3 68 kI underlying118 Rv q _ _ rfl D (by omega) _ _ _ rfl rfl C yd yp c6 ?_;intro w3 E U;go_frame))
   have t:=Z.kept U (fun e=>c3 (Option.some.inj e).symm) (fun e=>by have:=Option.some.inj e;omega);go_roundw
   case rel=>
    refine⟨_,EA,_,t,by omega,E.mono (by omega),?_,Ld (((J.out.grown b3.out (fun k hk e=>by cases e;exact absurd hk (Nat.lt_irrefl _))).grown L.out (fun k _ e=>by cases e)).grown U (fun k _ e=>by cases e;rfl))⟩;exact merged_step hM l.isMap (kI.key r) z
   case measure=>rw[t.left_eq,V.left_eq];exact c1
theorem yz {w:World} {base g bs bf:Nat} {v:Value} {p:DP} (h:Dk w base g bs bf v p) (hd:p.down=true):Calls prog 57 #[.pointer (some ⟨g,0,none⟩)] w fun e w'=>e= .returned (.iface 38 (.int .i64 14))∧w=w':=by
 have c:w.cell? ⟨g,5,none⟩=some (.bool true):=by rw[h.blk.cell 5];simp[hd]
 clear h hd
 go_enter func57,ntmps57
 go_wp2_with fail
 go_ret;exact⟨rfl,rfl⟩
theorem CA {w:World} {base g bs bf:Nat} {v:Value} {p:DP} (h:Dk w base g bs bf v p) (hd:p.down=false):Calls prog 57 #[.pointer (some ⟨g,0,none⟩)] w fun e w'=>e= .returned .nilIface∧Dk w' base g bs bf (.slice none 0 0) p.sync∧Fr (fun k=>k=g∨k=bs∨k=bf) w w':=by
 have H:=Ld h;have I:w.cell? ⟨g,5,none⟩=some (.bool false):=by rw[h.blk.cell 5];simp[hd]
 have G:w.cell? ⟨g,1,none⟩=some (.map (some bs)):=h.blk.cell 1;have c2:w.cell? ⟨g,2,none⟩=some (.map (some bf)):=h.blk.cell 2;have c:p.size+p.size≤maxLen:=by have:=h.ok.s2;unfold maxLen;omega
 have E:=Ld c;clear h hd c
 go_enter func57,ntmps57
 go_wp2_with fail
 go_region_held3 (fun w'=>w'.cell? ⟨g,1,none⟩=some (.map (some bs))∧w'.cell? ⟨g,2,none⟩=some (.map (some bf)))
  (first|exact z|go_keep)
  ((go_at_call 110;refine(zo bs bf p.size p.size _ _ _ (H.out.ms.fr (S:=ia) ((Fr.refl _ w).drew) (fun x=>x)) (H.out.mw.fr (S:=ia) ((Fr.refl _ w).drew) (fun x=>x)) H.out.ne (fun kl v F=>zH H.out.ok.freshR F) E.out).mono ?_;rintro e D ⟨rfl,r,j⟩;have d:=H.out.blk.drew.fr j H.out.gs;have z:D.cell? ⟨g,1,none⟩=some (.map (some bs))∧D.cell? ⟨g,2,none⟩=some (.map (some bf)):=⟨d.cell 1,d.cell 2⟩;have y:=Ld r;have i:=Ld j.ofDrew;have s:=Ld d;clear r j d))
 go_wp2_with fail
 have l:Dk D base g bs bf v {p with sure:=p.sync.sure}:=by
  refine⟨s.out,?_,H.out.mw.fr i.out (fun e=>H.out.ne e.symm),bD H.out.own i.out (fun k C=>H.out.vs k C),H.out.ne,H.out.lo,⟨H.out.ok.s1,H.out.ok.s2,H.out.ok.sync.sureR,H.out.ok.freshR,H.out.ok.nod,H.out.ok.ord,H.out.ok.fz⟩⟩;have:=y.out;rw[EJ]at this;exact this.tight kI _ fun kl C=>rI H.out.ok.sync.sureR kl C
 refine(qh l).mono ?_;rintro e J ⟨rfl,m,q⟩;have t:=Ld m;have u:=Ld q;clear m q l
 go_wp2_with fail
 go_ret;exact⟨rfl,t.out,(i.out.mono fun b _ B=>.inr (.inl B)).trans (u.out.mono fun b _ B=>B.imp id .inr)⟩
end Go.Proofs.YtfchcdbfalgdlaaGreatDoor
