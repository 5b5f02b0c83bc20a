/- Texts of one proof. No condition but each one's own. -/
import Derived.Test.YtfchcdbfalgdlaaGreatDoorSweepPlaysM24
import Derived.Test.YtfchcdbfalgdlaaGreatDoorSweepPlaysM25
set_option maxHeartbeats 4000000
set_option maxRecDepth 100000
set_option linter.unusedVariables false
set_option linter.unusedSimpArgs false
namespace Go.Proofs.YtfchcdbfalgdlaaGreatDoor
open _root_.Go.Proofs.Tryz
open Go.RowKit Go.Sort
theorem uX{w:World}{g T:Nat}{fz:Nat×Nat}{cs:Array Value}{xs:List Value}{n:Nat}(h:w.heap[g]?=some (.cells cs T fz))(b:cs.toList=xs)(c:xs.length=n):Rd (λ_=>True) w 1 (some ⟨g,0,none⟩) n xs:=by
 subst b;refine⟨by omega,λ_=>⟨_,rfl,trivial,(Array.getElem?_eq_some_iff.1 h).1,λj u hu=>?_⟩⟩;rw[gM]
 simpa[World.cell?,h]using hu
theorem DI(g:Nat):bj 4 g++(kD [kC,bj 4 g].flatten).take 16=jE g:=by simp[jE]
theorem mz(g:Nat)(hg:g<4294967296)(w:World)(hL:dC 4 2 w):
    Calls prog 94 #[.int .u32 g] w λe w'=>e=.returned (.tuple #[.agg (ag (dx g)),.nilIface])/\aa w w':=by
 have HL:=Ld hL;have HG:=Ld hg;have k1:IntKind.u64.wrap (g:Int)=(g:Int):=by rw[IntKind.wrap_u64];omega
 have n0:((4:Nat):Int)=4:=rfl;clear hL hg
 go_enter func94,ntmps94
 go_upto_region 2 with fail;refine fX λw1 L=>?_
 obtain⟨b2,H⟩:=nm w.heap.size;obtain⟨gw,J⟩:=nm (w.heap.size+1);have c9:Hid (aa w w1):=Ld (by rw[L.out];exact(aa.refl _).al2 _ _);have c7:Hid (ac w1 b2 68 (ag az)):=Ld (by rw[L.out,H];exact(ac.new _ _ _).alloc _);have g3:Hid (gp w1 gw gw []):=Ld ⟨⟨none,0,by rw[L.out,J];exact ac.new' _ _ _ (by simp),World.ownsRow_nil _ _ _ _⟩,Nat.le_refl _,λx hx=>nomatch hx⟩;have HZ:Hid (b2=w.heap.size/\gw=w.heap.size+1):=Ld ⟨H,J⟩;rw[<-J,<-H];clear L H J
 go_wp2_with fail;refine(fU g3.out g 4 (by omega) (by have:=HG.out;omega) (by simp)).mono ?_;rintro e w2 ⟨rfl,g7,g5⟩;have Y:=Ld g7;have U:=Ld g5;clear g7 g5
 go_wp2_with fail;refine(lm Y.out (by simp[aw])).mono ?_;rintro e y ⟨⟨B,d,rfl,hO⟩,G⟩;rw[List.nil_append,aw]at hO⊢;have HO:=Ld hO;have V:Hid (aa w y):=Ld ((U.out.toNew c9.out (by have:=HZ.out;omega) (Nat.le_refl _)).tr G);have b3:Hid (ac y b2 68 (ag az)):=Ld (G.blk (U.out.blk c7.out (by decide) (by have:=HZ.out;omega)));have m:Hid (b2<w2.heap.size/\w2.heap.size<=y.heap.size):=Ld ⟨by have h1:=Y.out.lt;have:=HZ.out;omega,G.size⟩;clear hO G U Y g3 c7 c9;have kc:=λ(w:World) (C:Array Value) (n c:Nat)=>Lib.run_convert_bytes_const (P:=prog) w 33 5 C n c underlying33 underlying5
 go_wp2_with fail;clear kc;obtain⟨bp,c6⟩:=nm (y.heap.size+1);refine kw λw7 M=>?_
 have D:Hid (aa y w7):=Ld (by rw[M.out];exact(aa.refl _).al2 _ _)
 have HP:Hid (mi w7 bp 0 [kC,bj 4 g]):=Ld ⟨λi l hl=>by
  have hB:ac w7 bp 33 #[.slice (some ⟨y.heap.size,0,none⟩) 16 16,.slice B 4 d]:=by rw[M.out,c6];exact ac.new' _ _ _ (by simp)
  match i,hl with
  | 0,hl=>
   obtain rfl:kC=l:=by simpa using hl
   exact⟨uv,some ⟨y.heap.size,0,none⟩,16,hB.cell 0,uX (by rw[M.out];exact(Below.heap_alloc _ _ _ (by simp)).trans (World.alloc_heap_new y _)) rfl rfl⟩
  | 1,hl=>
   obtain rfl:bj 4 g=l:=by simpa using hl
   exact⟨eQ _ _,B,d,by rw[aw];exact hB.cell 1,by rw[aw];exact D.out.rd ((Rd.own HO.out rfl).imp (λ_ _=>trivial))⟩
  |(i+2),hl=>simp at hl⟩
 rw[<-c6];clear M c6;refine(BL bp 0 2 [kC,bj 4 g] 2 rfl w7 ((HL.out.new V.out).new D.out) (by simp) HP.out (by simp) (by simp[kC,aw]) (by simp)).mono ?_;rintro e w8 ⟨rfl,g6⟩;have f':Hid (jE g=bj 4 g++(kD [kC,bj 4 g].flatten).take 16):=Ld (DI g).symm;obtain⟨HS,Z⟩:=nm (kD [kC,bj 4 g].flatten);rw[<-Z]at f'⊢;have j:Hid (HS.length=32):=Ld (by rw[Z];exact iL _);have d':Hid (aa y w8):=Ld (D.out.tr g6);have i2:Hid ((ag HS).size=32):=Ld (by rw[aq,j.out]);clear g6 Z HP D
 go_upto_region 6 with(refine cE 7 rfl ?_;refine aH (s:=HS) rfl rfl rfl _ _ rfl pB rfl rfl rfl j.out ?_)
 go_upto_region 7 with fail;refine fX λz v=>?_
 obtain⟨b9,I⟩:=nm w8.heap.size;obtain⟨r,b⟩:=nm (w8.heap.size+1);have g8:Hid (ac z b9 211 (ag HS)):=Ld (by rw[v.out,I];exact(ac.new _ _ _).alloc _);have b':Hid (ac z r 68 (an az).toArray):=Ld (by rw[v.out,b];exact ac.new' _ _ _ (by simp));have X:Hid (aa y z):=Ld (d'.out.tr (by rw[v.out];exact(aa.refl _).al2 _ _));have F:Hid (b9=w8.heap.size/\r=w8.heap.size+1/\y.heap.size<=w8.heap.size/\z.heap.size=w8.heap.size+2):=Ld ⟨I,b,d'.out.size,by rw[v.out];simp⟩;rw[<-b,<-I];clear v I b;have b7:Hid (ac z b2 68 (ag az)):=Ld (X.out.blk b3.out)
 have c4:Hid (Rd (λ_=>True) z 1 (some ⟨b9,0,none⟩) 16 (an (HS.take 16))):=Ld (by
  have h:=Rd.ofBlk (p:=λ_=>True) g8.out 1 32 (by rw[aq,j.out]) trivial;rw[eu]at h
  exact Rd.take h (by omega))
 have c8:Hid ((Value.slice B 4 d).ownBlock≠some b2/\(Value.slice B 4 d).ownBlock≠some r):=Ld ⟨λh=>by have h1:=am HO.out _ h;have:=m.out;omega,λh=>by have h1:=am HO.out _ h;have:=F.out;omega⟩;have g4:Hid ((an (jE g)).length=20):=Ld (by rw[ak,kE]);have i':Hid (splice (an az) 0 (an (jE g))=an (dx g)):=Ld (iv (by rw[kE];omega));have E:Hid ((ag (dx g)).size=64):=Ld (by rw[aq,(fN g).1]);refine ah (λ_=>True) [(true,0),(true,1),(true,2),(false,3),(false,4)] (by kernel_rfl) (by kernel_rfl) trivial (λi3=>?_)
 iterate 3 (refine af (o:=.mk ..) rfl (λK hK=>?_);go_simp;refine hK _ ?_;clear hK K)
 refine tp (o:=.mk ..) kB z.drew rfl rfl (.tmp 29) (.tmp 30) rfl w2.heap.size (.slice B 4 d) 4 (an (bj 4 g)) rfl ((aa.dr (aa.refl z)).own (X.out.own HO.out)) (some ⟨b9,0,none⟩) 16 _ (an (HS.take 16)) rfl ((aa.dr (aa.refl z)).rd c4.out) (aR _) (by unfold maxLen;omega) (by omega) (by show _<=z.heap.size;have:=m.out;have:=F.out;omega) ?_;intro A1 d1 i0 O N c5;have f:=Fr.ofDrew N;have g9:Hid (i0.ownsRow w2.heap.size 5 1 (.slice A1 20 d1) 20 (an (jE g))):=Ld (by rw[f'.out];unfold an;rw[List.map_append];exact O);have b8:=Ld (b7.out.fr f (λh=>c8.out.1 h));have T:=Ld (b'.out.fr f (λh=>c8.out.2 h));have c0:=Ld f;clear O N c5 f;refine⟨λ_=>trivial,?_⟩;refine rH (o:=.mk ..) (q:=λk=>(Value.slice A1 20 d1).ownBlock=some k) rfl rfl (.tmp 28) (.tmp 31) 33 33 rfl 5 underlying33 rfl r 0 64 64 A1 20 d1 rfl rfl (an az) 68 T.out (an (jE g)) (by rw[g4.out];rfl) ⟨20,an (jE g),Rd.own g9.out rfl,List.take_length⟩ (by rw[g4.out];decide) (aR _) ?_;intro i1 t u;rw[i'.out]at t;have b0:Hid (ac i1 r 68 (ag (dx g))):=Ld t;have c1:=Ld u;have c':=Ld (b8.out.fr u (by have:=m.out;have:=F.out;omega));clear t u;refine⟨λ_=>trivial,?_⟩;refine au ?_
 go_wp2_with (first
  |(refine cE 33 rfl ?_;refine ae rfl _ rfl underlying68 rfl (by rw[E.out];rfl) rfl b0.out ?_)
  |((with_reducible refine eC ⟨none,.store 68 (.tmp 2) _,_,_,_,_⟩ ?_);refine ao rfl (.tmp 2) (.tmp 33) rfl (by rw[E.out];rfl) rfl rfl c'.out (by rw[E.out];rfl) (bH _) ?_;intro i4 R S;have b1:=Ld R;have c3:=Ld S;clear R S))
 exact bodyPost_ret (fg rfl _ _ b2 _ _ rfl b1.out underlying68 rfl (by rw[E.out];rfl)) rfl ⟨rfl,(((V.out.tr X.out).fr c0.out (λk hk=>by have h1:=am HO.out _ hk;have:=m.out;have:=HZ.out;omega)).fr c1.out (λk hk=>by have:=m.out;have:=F.out;have:=V.out.size;omega)).fr c3.out (λk hk=>by have:=HZ.out;omega)⟩
end Go.Proofs.YtfchcdbfalgdlaaGreatDoor
