/- Texts of one proof. No condition but each one's own. -/
import Derived.Test.YtfchcdbfalgdlaaGreatDoorSweepPlaysM26
import Derived.Test.YtfchcdbfalgdlaaGreatDoorSweepPlaysM27
set_option maxHeartbeats 4000000
set_option maxRecDepth 100000
set_option linter.unusedVariables false
set_option linter.unusedSimpArgs false
namespace Go.Proofs.YtfchcdbfalgdlaaGreatDoor
open _root_.Go.Proofs.Tryz
open Go.RowKit Go.Sort
theorem pU(g:Nat)(hg:g<4294967296)(w:World)(hL:cX 3 1 w):
    Calls prog 120 #[.int .u32 g] w λe w'=>e=.returned (.agg (ag (dx g)))/\aa w w':=by
 have HL:=Ld hL;have HG:=Ld hg;have k1:IntKind.u64.wrap (g:Int)=(g:Int):=by rw[IntKind.wrap_u64];omega
 have n0:((4:Nat):Int)=4:=rfl;clear hL hg
 go_enter func120,ntmps120
 go_upto_region 1 with fail;refine fX λY U=>?_
 obtain⟨b2,F⟩:=nm w.heap.size;have c6:Hid (aa w Y):=Ld (by rw[U.out];exact(aa.refl _).al _);have M:Hid (ac Y b2 68 (ag az)):=Ld (by rw[U.out,F];exact ac.new _ _ _);have HZ:Hid (b2=w.heap.size/\b2<Y.heap.size):=Ld ⟨F,M.out.lt⟩;rw[<-F];clear U F
 go_wp2_with fail;refine(fw g 4 Y (by omega) (by have:=HG.out;omega)).mono ?_;rintro e b ⟨rfl,hO,E⟩;obtain⟨B,hB⟩:=nm (some (⟨Y.heap.size,0,none⟩:Addr));rw[<-hB]at hO⊢;obtain⟨D,r⟩:=nm Y.heap.size;rw[<-r]at hO;have HO:=Ld hO;have O:Hid (aa w b):=Ld (c6.out.tr E);have b1:Hid (ac b b2 68 (ag az)):=Ld (E.blk M.out);have j:Hid (b2<D/\D<=b.heap.size):=Ld ⟨by have:=HZ.out;omega,by rw[r];exact E.size⟩;clear hO E M c6 hB r;have kc:=λ(w:World) (C:Array Value) (n c:Nat)=>Lib.run_convert_bytes_const (P:=prog) w 33 5 C n c underlying33 underlying5
 have c9:Hid (Rd (λ_=>True) (b.alloc (.cells (ag kC) 5 (16,17))) 1 (some ⟨b.heap.size,0,none⟩) 16 (an kC)):=Ld (uX (World.alloc_heap_new b _) rfl rfl)
 go_wp2_with (refine cE 12 rfl ?_;refine ot kB _ rfl (.tmp 10) (.tmp 11) rfl b.heap.size (some ⟨b.heap.size,0,none⟩) 16 (an kC) rfl c9.out (by decide) B 4 4 (an (bj 4 g)) rfl (((aa.refl b).al _).rd (Rd.own HO.out rfl)) (by decide) (by decide) (by decide) (by simp) ?_;intro Aa da wa g5 g4;have c8:Hid (wa.ownsRow b.heap.size 5 1 (.slice Aa (16+4) da) (16+4) (an (kC++bj 4 g))):=Ld (by unfold an;rw[List.map_append];exact g5);have S:Hid (aa b wa):=Ld (((aa.refl b).al _).tr g4);clear g5 g4)
 clear kc c9;refine(vl Aa 20 da (kC++bj 4 g) wa ((HL.out.new O.out).new S.out) (Rd.own c8.out rfl) (λx hx=>(List.mem_append.1 hx).elim (uv x) (eQ _ _ x)) (by omega)).mono ?_;rintro e V ⟨rfl,g3⟩;have d':Hid (jE g=bj 4 g++(kD (kC++bj 4 g)).take 16):=Ld rfl;obtain⟨X,T⟩:=nm (kD (kC++bj 4 g));rw[<-T]at d'⊢;have i:Hid (X.length=32):=Ld (by rw[T];exact iL _);have c7:Hid (aa b V):=Ld (S.out.tr g3);have i0:Hid ((ag X).size=32):=Ld (by rw[aq,i.out]);clear g3 T S c8
 go_upto_region 3 with(refine cE 4 rfl ?_;refine aH (s:=X) rfl rfl rfl _ _ rfl zu rfl rfl rfl i.out ?_)
 go_upto_region 4 with fail;refine fX λv u=>?_
 obtain⟨b9,G⟩:=nm V.heap.size;obtain⟨l,d⟩:=nm (V.heap.size+1);have g6:Hid (ac v b9 211 (ag X)):=Ld (by rw[u.out,G];exact(ac.new _ _ _).alloc _);have Z:Hid (ac v l 68 (an az).toArray):=Ld (by rw[u.out,d];exact ac.new' _ _ _ (by simp));have R:Hid (aa b v):=Ld (c7.out.tr (by rw[u.out];exact(aa.refl _).al2 _ _));have z:Hid (b9=V.heap.size/\l=V.heap.size+1/\b.heap.size<=V.heap.size/\v.heap.size=V.heap.size+2):=Ld ⟨G,d,c7.out.size,by rw[u.out];simp⟩;rw[<-d,<-G];clear u G d;have b3:Hid (ac v b2 68 (ag az)):=Ld (R.out.blk b1.out)
 have c3:Hid (Rd (λ_=>True) v 1 (some ⟨b9,0,none⟩) 16 (an (X.take 16))):=Ld (by
  have h:=Rd.ofBlk (p:=λ_=>True) g6.out 1 32 (by rw[aq,i.out]) trivial;rw[eu]at h
  exact Rd.take h (by omega))
 have c5:Hid ((Value.slice B 4 4).ownBlock≠some b2/\(Value.slice B 4 4).ownBlock≠some l):=Ld ⟨λh=>by have h1:=am HO.out _ h;have:=j.out;omega,λh=>by have h1:=am HO.out _ h;have:=z.out;omega⟩;have f':Hid ((an (jE g)).length=20):=Ld (by rw[ak,kE]);have g8:Hid (splice (an az) 0 (an (jE g))=an (dx g)):=Ld (iv (by rw[kE];omega));have y:Hid ((ag (dx g)).size=64):=Ld (by rw[aq,(fN g).1]);refine ah (λ_=>True) [(true,0),(true,1),(true,2),(false,3),(false,4)] (by kernel_rfl) (by kernel_rfl) trivial (λi1=>?_)
 iterate 3 (refine af (o:=.mk ..) rfl (λK hK=>?_);go_simp;refine hK _ ?_;clear hK K)
 refine tp (o:=.mk ..) kB v.drew rfl rfl (.tmp 15) (.tmp 16) rfl D (.slice B 4 4) 4 (an (bj 4 g)) rfl ((aa.dr (aa.refl v)).own (R.out.own HO.out)) (some ⟨b9,0,none⟩) 16 _ (an (X.take 16)) rfl ((aa.dr (aa.refl v)).rd c3.out) (aR _) (by unfold maxLen;omega) (by omega) (by show _<=v.heap.size;have:=j.out;have:=z.out;omega) ?_;intro A1 d1 g9 I H c4;have f:=Fr.ofDrew H;have g7:Hid (g9.ownsRow D 5 1 (.slice A1 20 d1) 20 (an (jE g))):=Ld (by rw[d'.out];unfold an;rw[List.map_append];exact I);have b7:=Ld (b3.out.fr f (λh=>c5.out.1 h));have N:=Ld (Z.out.fr f (λh=>c5.out.2 h));have c':=Ld f;clear I H c4 f;refine⟨λ_=>trivial,?_⟩;refine rH (o:=.mk ..) (q:=λk=>(Value.slice A1 20 d1).ownBlock=some k) rfl rfl (.tmp 14) (.tmp 17) 33 33 rfl 5 underlying33 rfl l 0 64 64 A1 20 d1 rfl rfl (an az) 68 N.out (an (jE g)) (by rw[f'.out];rfl) ⟨20,an (jE g),Rd.own g7.out rfl,List.take_length⟩ (by rw[f'.out];decide) (aR _) ?_;intro i' m t;rw[g8.out]at m;have b':Hid (ac i' l 68 (ag (dx g))):=Ld m;have c0:=Ld t;have b8:=Ld (b7.out.fr t (by have:=j.out;have:=z.out;omega));clear m t;refine⟨λ_=>trivial,?_⟩;refine au ?_
 go_wp2_with (first
  |(refine cE 19 rfl ?_;refine ae rfl _ rfl underlying68 rfl (by rw[y.out];rfl) rfl b'.out ?_)
  |((with_reducible refine eC ⟨none,.store 68 (.tmp 2) _,_,_,_,_⟩ ?_);refine ao rfl (.tmp 2) (.tmp 19) rfl (by rw[y.out];rfl) rfl rfl b8.out (by rw[y.out];rfl) (bH _) ?_;intro i2 J L;have b0:=Ld J;have c1:=Ld L;clear J L))
 exact bodyPost_ret (jK rfl _ _ b2 _ _ rfl b0.out underlying68 rfl (by rw[y.out];rfl)) rfl ⟨rfl,(((O.out.tr R.out).fr c'.out (λk hk=>by have h1:=am HO.out _ hk;have:=j.out;have:=HZ.out;omega)).fr c0.out (λk hk=>by have:=j.out;have:=z.out;have:=O.out.size;omega)).fr c1.out (λk hk=>by have:=HZ.out;omega)⟩
theorem xj(r:RP)(t:Option Addr)(u:Nat)(A2:Option Addr)(c2:Nat){n:Nat}(hz:r.size=n)(h2:2<=n)(s:n<=16384)(g:Nat)(w:World):
    Calls prog 73 #[.agg (gI r t u A2 c2),.int .u32 g] w λe w'=>e=.returned (.tuple #[.int .i64 (gj g n),.int .i64 (hlf n)])/\aa w w':=by
 obtain⟨h,d⟩:=nm (hlf n);obtain⟨f,j⟩:=nm (gj g n);have i:h=(n-2)/2:=d;have b:f=2+g%2*h:=by rw[j,d];rfl
 rw[<-d,<-j];have v:IntKind.i64.wrap ((n:Int)-2)=((n-2:Nat):Int):=by rw[IntWalk.i64_in _ (by omega)];omega
 have z:Int.tdiv ((n-2:Nat):Int) 2=(h:Int):=by rw[Int.tdiv_eq_ediv_of_nonneg (by omega)];omega
 have B:Int.tmod (g:Int) 2=((g%2:Nat):Int):=by rw[Int.tmod_eq_emod_of_nonneg (by omega)];omega
 obtain⟨q,l⟩:=nm (g%2);have o:q=0\/q=1:=by omega
 rw[<-l]at b B;have p:IntKind.i64.wrap (2+(h:Int))=((2+h:Nat):Int):=by rw[IntWalk.i64_in _ (by omega)];omega
 have C:IntKind.u32.wrap (q:Int)=(q:Int):=by rw[IntKind.wrap_u32];omega
 have y:IntKind.i64.wrap (h:Int)=(h:Int):=IntWalk.i64_in _ (by omega);obtain⟨m,hm⟩:=nm (n-2);rw[<-hm]at v z;unfold gI;rw[hz];rcases o with rfl|rfl
 ·have k:Hid (f=2):=Ld (by omega);clear h2 s d j i b l hm hz p
  go_enter func73,ntmps73
  go_wp2_with fail;go_ret2;exact⟨by rw[k.out];rfl,by first|exact(aa.refl _).al _|exact aa.refl _⟩
 ·obtain⟨f2,c⟩:=nm (2+h);rw[<-c]at p;have k:Hid (f=f2):=Ld (by omega);clear h2 s d j i b l hm hz c
  go_enter func73,ntmps73
  go_wp2_with fail;go_ret2;exact⟨by rw[k.out];rfl,by first|exact(aa.refl _).al _|exact aa.refl _⟩
theorem Dm(c:Int):fK c=true↔c≠0/\c≠8/\c≠9:=by unfold fK;exact decide_eq_true_iff
theorem oc (c:Int) (w:World):Calls prog 83 #[.int .i64 c] w λe w'=>e= .returned (.bool (fK c))/\w=w':=by
 by_cases h0:c=0
 ·subst h0
  go_enter func83,ntmps83
  go_wp2_with fail;go_ret;exact⟨rfl,rfl⟩
 ·by_cases b:c=8
  ·subst b
   go_enter func83,ntmps83
   go_wp2_with fail;go_ret;exact⟨rfl,rfl⟩
  ·by_cases d:c=9
   ·subst d
    go_enter func83,ntmps83
    go_wp2_with fail;go_ret;exact⟨rfl,rfl⟩
   ·rw[(Dm c).2 ⟨h0,b,d⟩]
    go_enter func83,ntmps83
    go_wp2_with fail;go_ret;exact⟨by simp[h0,b,d],rfl⟩
end Go.Proofs.YtfchcdbfalgdlaaGreatDoor
