/- Texts of one proof. No condition but each one's own. -/
import Derived.Test.YtfchcdbfalgdlaaGreatDoorSweepPlaysM2
import Derived.Shelf.Bytes.SlJoin
set_option maxHeartbeats 4000000
set_option maxRecDepth 100000
set_option linter.unusedVariables false
set_option linter.unusedSimpArgs false
namespace Go.Proofs.YtfchcdbfalgdlaaGreatDoor
open _root_.Go.Proofs.Tryz
open Go.RowKit Go.Shelf
def zw:Go.Shelf.Ren:=⟨λ| 14=>158 | 15=>168 |n=>n,λ| 26=>98 | 22=>33 | 3=>3 | 4=>4 | 0=>0 | 9=>9 | 20=>20 | 5=>5 |n=>n,λ|n=>n⟩
theorem Gt:Go.Proofs.SlLaysJ.n14 prog zw:={
 mixed:=by kernel_rfl
 f14:=func158.trans (congrArg some (by kernel_rfl))
 f15:=func168.trans (congrArg some (by kernel_rfl))
 t0:=underlying0
 a0:=isAgg0
 z0:=sizeOf0
 v0:=zeroValue0
 t3:=underlying3
 a3:=isAgg3
 z3:=sizeOf3
 v3:=zeroValue3
 t4:=underlying4
 a4:=isAgg4
 z4:=sizeOf4
 v4:=zeroValue4
 t9:=underlying9
 a9:=isAgg9
 z9:=sizeOf9
 v9:=zeroValue9
 t20:=underlying20
 a20:=isAgg20
 z20:=sizeOf20
 v20:=zeroValue20
 t22:=underlying33
 a22:=isAgg33
 z22:=sizeOf33
 v22:=zeroValue33
 t26:=underlying98
 a26:=isAgg98
 z26:=sizeOf98
 v26:=zeroValue98
 t5:=underlying5
 z5:=sizeOf5
 i5:=by kernel_rfl}
def xJ(l:List Int):List UInt8:=l.map λx=>UInt8.ofNat x.toNat
theorem oO(l:List Int):(xJ l).length=l.length:=by simp[xJ]
theorem Ey(a b:List Int):xJ (a++b)=xJ a++xJ b:=by simp[xJ]
theorem vH(ls:List (List Int)):(ls.map xJ).flatten=xJ ls.flatten:=by
 induction ls with
 |nil=>rfl
 |cons a r b=>rw[List.map_cons,List.flatten_cons,List.flatten_cons,Ey,b]
theorem zx(ls:List (List UInt8)):Lib.join ls []=ls.flatten:=by
 cases ls with
 |nil=>rfl
 |cons a r=>
  rw[Lib.join_cons]
  have h:∀l:List (List UInt8),Lib.joinTail [] l=l.flatten:=by
   intro l;simp[Lib.joinTail]
  rw[h,List.flatten_cons]
theorem zC(ls:List (List UInt8)):Lib.lens ls=ls.flatten.length:=by
 simp[Lib.lens,List.length_flatten]
theorem Ez{s t:List Int}(b:ba s)(ht:ba t)(h:xJ s=xJ t):s=t:=by
 have:=xZ b ht;unfold xJ at h;rw[h]at this
 simpa using this
structure mi(w:World)(b o:Nat)(ls:List (List Int)):Prop where
 at_:∀(i:Nat) l,ls[i]?=some l->ba l/\∃A d,w.cell? ⟨b,o+i,none⟩=some (.slice A l.length d)/\Rd (λ_=>True) w 1 A l.length (an l)
theorem Bt(b o c:Nat)(ls:List (List Int))(w:World)(h2:2<=ls.length)(O:mi w b o ls)(t:ls.length<=c)(R:ls.flatten.length<=1000000000)(b0:ls.length<=1000000):
    Calls prog 158 #[.slice (some ⟨b,o,none⟩) ls.length c,.slice none 0 0] w λe w'=>∃A d,e=.returned (.slice A ls.flatten.length d)/\Rd (λk=>w.heap.size<=k) w' 1 A ls.flatten.length (an ls.flatten)/\aa w w':=by
 have r:ba ls.flatten:=by
  intro x n;obtain⟨l,hl,L⟩:=List.mem_flatten.1 n;obtain⟨i,hi⟩:=List.getElem?_of_mem hl;exact(O.at_ i l hi).1 x L
 have f:∀i l,ls[i]?=some l->∃v,w.cell? ⟨b,o+i,none⟩=some v/\Lib.HoldsBytes w v (xJ l):=by
  intro i l hl;obtain⟨Y,A,d,s,P⟩:=O.at_ i l hl;refine⟨_,s,A,d,by rw[oO],λV=>?_,λa F j x n=>?_⟩
  ·rcases Nat.eq_zero_or_pos l.length with h0 | h0
   ·rw[List.eq_nil_of_length_eq_zero h0];rfl
   ·obtain⟨T,p,_⟩:=P.2 h0;rw[V]at p
    cases p
  ·have m:j<l.length:=by
    have:=(List.getElem?_eq_some_iff.1 n).1
    rwa[oO]at this
   obtain⟨T,p,-,-,G⟩:=P.2 (by omega);rw[F]at p;injection p with p;subst p
   have J:x=UInt8.ofNat (l[j]).toNat:=by
    unfold xJ at n;rw[List.getElem?_map,List.getElem?_eq_getElem m]at n;injection n with n;exact n.symm
   have Z:=Y l[j] (List.getElem_mem _)
   have M:((x.toNat:Nat):Int)=l[j]:=by
    rw[J,UInt8.toNat_ofNat'];omega
   rw[M];exact G j _ (by unfold an;rw[List.getElem?_map,List.getElem?_eq_getElem m];rfl)
 have E:Lib.PartsAt w ⟨b,o,none⟩ ((List.range ls.length).map λi=>(w.cell? ⟨b,o+i,none⟩).getD undef) (ls.map xJ):=by
  refine⟨by simp,λi v B=>?_,λi v l B hl=>?_⟩
  ·rw[List.getElem?_map]at B;obtain⟨j,m,rfl⟩:=Option.map_eq_some_iff.1 B
   have hi:i<ls.length:=by
    have:=(List.getElem?_eq_some_iff.1 m).1
    simpa using this
   have q:j=i:=by
    rw[List.getElem?_range hi]at m;injection m with m;exact m.symm
   subst q;obtain⟨v,s,-⟩:=f j ls[j] (List.getElem?_eq_getElem hi);rw[Lib.add_plain2,s];rfl
  ·rw[List.getElem?_map]at B hl;obtain⟨j,m,rfl⟩:=Option.map_eq_some_iff.1 B;obtain⟨l0,z,rfl⟩:=Option.map_eq_some_iff.1 hl;have hi:i<ls.length:=(List.getElem?_eq_some_iff.1 z).1
   have q:j=i:=by
    rw[List.getElem?_range hi]at m;injection m with m;exact m.symm
   subst q;obtain⟨v,s,hh⟩:=f j l0 z;rw[s];exact hh
 have m:=Any.bytes_Join_many Gt b o ls.length c _ (ls.map xJ) (.slice none 0 0) [] w (by simp) h2 E t ⟨none,0,rfl,λ_=>rfl,λa F=>by cases F⟩ (by omega)
  (by rw[zC,vH,oO,List.length_nil,Nat.zero_mul];omega)
 refine m.mono ?_;rintro e w' ⟨v',rfl,hF,X⟩;rw[zx,vH]at hF;obtain⟨g,cap,S,rfl,hg,H,b',hz,N,C,y,-⟩:=hF;rw[oO]at H C⊢;have D:S.take ls.flatten.length=ls.flatten:=Ez (λx n=>N x (List.mem_of_mem_take n)) r C;refine⟨_,_,rfl,⟨by rw[ak,Nat.mul_one],λhn=>⟨_,rfl,hg,?_,λj u hu=>?_⟩⟩,X⟩
 ·have:=y 0 (by omega);exact World.block_lt_of_cell? w' _ this
 ·have I:j<ls.flatten.length:=by
   have:=(List.getElem?_eq_some_iff.1 hu).1
   rwa[ak]at this
  rw[gM,y j (by omega),<-hu];unfold an;rw[List.getElem?_map]
  have U:ls.flatten[j]?=S[j]? :=by
   rw[<-D,List.getElem?_take_of_lt I]
  rw[U,List.getD_eq_getElem?_getD,List.getElem?_eq_getElem (by omega)];rfl
end Go.Proofs.YtfchcdbfalgdlaaGreatDoor
namespace Go.Proofs.YtfchcdbfalgdlaaGreatDoor
open _root_.Go.Proofs.Tryz
open Go.RowKit Go.Sort
theorem mi.new{w w':World}{b o:Nat}{ls:List (List Int)}(h:mi w b o ls)(c:aa w w'):mi w' b o ls:=
 ⟨λi l hl=>by
  obtain⟨g,A,d,j,f⟩:=h.at_ i l hl
  exact⟨g,A,d,c.cell_ j,c.rd f⟩⟩
theorem mi.byt{w:World}{b o:Nat}{ls:List (List Int)}(h:mi w b o ls):ba ls.flatten:=by
 intro x d;obtain⟨l,hl,c⟩:=List.mem_flatten.1 d;obtain⟨i,hi⟩:=List.getElem?_of_mem hl;exact(h.at_ i l hi).1 x c
theorem BL(b o c:Nat)(ls:List (List Int))(m:Nat)(hm:m=ls.length)(w:World)(P:dC 4 2 w)(h2:2<=ls.length)(G:mi w b o ls)(j:ls.length<=c)(C:ls.flatten.length<=500000000)(D:ls.length<=1000000):
    Calls prog 141 #[.slice (some ⟨b,o,none⟩) m c] w λe w'=>e=.returned (.agg (ag (kD ls.flatten)))/\aa w w':=by
 subst hm;have S:=Ld P;have T:=Ld G;have O:=Ld G.byt;have L:=Ld (λW (Y:aa w W)=>Bt b o c ls W h2 (G.new Y) j (by omega) D);obtain⟨ln,l⟩:=nM (ls.length);obtain⟨F,B⟩:=nM (ls.flatten);rw[<-B]at O C L⊢;rw[<-l]at L⊢;clear P G h2 j D B l T;have E:(ag (kD F)).size=32:=by rw[aq,iL]
 have f:=Ld E;obtain⟨X,r⟩:=nM (ag (kD F));have t:=Ld r;rw[<-r]at f⊢;clear E r
 go_enter func141,ntmps141
 go_upto_region 1 with fail;have hz:(#[.int .u8 0,.int .u8 0,.int .u8 0,.int .u8 0,.int .u8 0,.int .u8 0,.int .u8 0,.int .u8 0,.int .u8 0,.int .u8 0,.int .u8 0,.int .u8 0,.int .u8 0,.int .u8 0,.int .u8 0,.int .u8 0,.int .u8 0,.int .u8 0,.int .u8 0,.int .u8 0,.int .u8 0,.int .u8 0,.int .u8 0,.int .u8 0,.int .u8 0,.int .u8 0,.int .u8 0,.int .u8 0,.int .u8 0,.int .u8 0,.int .u8 0,.int .u8 0]:Array Value)=ag (List.replicate 32 0):=rfl;rw[hz];obtain⟨N,i⟩:=nM (w.alloc (.cells (ag (List.replicate 32 0)) 211):World);obtain⟨b2,g⟩:=nM (w.heap.size);have n:Hid (aa w N):=Ld (by rw[i];exact aa.al (aa.refl _) _);have H:Hid (ac N b2 211 (ag (List.replicate 32 0))):=Ld (by rw[i,g,<-hz];exact ac.new _ _ _);have V:=Ld g;rw[<-i,<-g];clear i g hz
 go_wp2_with fail;refine(L.out N n.out).mono ?_;rintro e Z ⟨A,d,rfl,R,u⟩;have U:=Ld R;have p:=Ld u;clear R u
 go_wp2_with fail;refine(Et A F.length d F Z ((S.out.new n.out).new p.out) U.out O.out (by omega)).mono ?_;rintro e w3 ⟨rfl,q⟩;have M:=Ld q;have s:Hid (ac w3 b2 211 (ag (List.replicate 32 0))):=Ld (q.blk (p.out.blk H.out));clear q;rw[<-t.out]
 go_wp2_with ((with_reducible refine eC ⟨none,.store 211 (.tmp 2) _,_,_,_,_⟩ ?_);refine ao rfl (.tmp 2) (.tmp 5) rfl (by rw[f.out];rfl) rfl rfl s.out (by rw[f.out,aq,List.length_replicate]) (by rw[t.out];exact bH _) ?_;intro w8 y z;have I:=Ld y;have J:=Ld z;clear y z)
 exact bodyPost_ret (v:=.agg X) (eh rfl _ _ b2 _ _ rfl I.out underlying211 rfl (by rw[f.out];rfl)) rfl ⟨rfl,((n.out.tr p.out).tr M.out).fr J.out (λk hk=>by have:=V.out;omega)⟩
end Go.Proofs.YtfchcdbfalgdlaaGreatDoor
