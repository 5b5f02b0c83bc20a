/- Texts of one proof. No condition but each one's own. -/
import Derived.Test.YtfchcdbfalgdlaaGreatDoorSweepPlaysM23
import Derived.Test.YtfchcdbfalgdlaaGreatDoorSweepPlaysM36
import Derived.Laws.Tables
set_option maxHeartbeats 4000000
set_option maxRecDepth 100000
set_option linter.unusedVariables false
set_option linter.unusedSimpArgs false
namespace Go.Proofs.YtfchcdbfalgdlaaGreatDoor
open _root_.Go.Proofs.Tryz
open Go.RowKit Go.Maps Go.Sort
def iq:Nat->Rs->List PC->List PC×Rs
 | 0,s,out=>(out,s)
 |n+1,s,out=>if s.e=0 then iq n (co s).2 (out++[(co s).1])else(out,s)
def mI(xs:List Int):Option (List PC):=
 if(iq ((⟨xs,0⟩:Rs).num 2).1 ((⟨xs,0⟩:Rs).num 2).2 []).2.fin=0/\dN (iq ((⟨xs,0⟩:Rs).num 2).1 ((⟨xs,0⟩:Rs).num 2).2 []).1=true then some (iq ((⟨xs,0⟩:Rs).num 2).1 ((⟨xs,0⟩:Rs).num 2).2 []).1 else none
theorem uw{s:Rs}(h:s.fin=0):s.e=0:=by
 unfold Rs.fin at h;split at h
 ·omega
 ·next h0=>omega
theorem xW(s:Rs):(s.bad 2).fin≠0:=by
 unfold Rs.bad Rs.fin;split<;>simp_all
theorem CG{s:Rs}(h:s.e≠0):(co s).1.k=[]/\(co s).2=s:=by
 unfold co;rw[uy h];dsimp only;rw[if_neg (by decide),ra h];exact⟨rfl,rfl⟩
theorem mJ{s:Rs}(h:s.e≠0)(n:Nat)(out:List PC):iq n s out=(out,s):=by
 cases n with
 |zero=>rfl
 |succ n=>unfold iq;rw[if_neg h]
theorem yG{s:Rs}(h:s.e≠0)(n:Nat)(out:List PC):(nY n s out).2.fin≠0:=by
 cases n with
 |zero=>
  unfold nY Rs.fin;dsimp only;rw[if_pos h];exact h
 |succ n=>
  unfold nY;obtain⟨h1,h2⟩:=CG h;rw[if_pos h1];exact xW _
theorem BW(n:Nat):∀(s:Rs) (out:List PC),s.e=0->((nY n s out).2.fin=0/\dN (nY n s out).1=true->iq n s out=nY n s out)/\((iq n s out).2.fin=0/\dN (iq n s out).1=true->iq n s out=nY n s out):=by
 induction n with
 |zero=>intro s out _;exact⟨λ_=>rfl,λ_=>rfl⟩
 |succ n p=>
  intro s out l;unfold nY iq;rw[if_pos l]
  by_cases i:(co s).1.k=[]
  ·rw[if_pos i];refine⟨λh=>absurd h.1 (xW _),λh=>?_⟩;exfalso
   have key_l19:∀(m:Nat) (t:Rs) (o:List PC),(∃c∈o,c.k=[])->dN (iq m t o).1=false:=by
    intro m
    induction m with
    |zero=>
     intro t o ⟨c,g,d⟩;unfold iq dN
     have:o.all lx=false:=by
      cases ha:o.all lx with
      |false=>rfl
      |true=>
       have h1:=List.all_eq_true.1 ha c g;unfold lx at h1;rw[d]at h1;simp at h1
     dsimp only;rw[this];simp
    |succ m f=>
     intro t o j;unfold iq;split
     ·obtain⟨c,g,d⟩:=j;exact f _ _ ⟨c,List.mem_append_left _ g,d⟩
     ·have:=f t o j;rw[mJ (by assumption)]at this;exact this
   have:=key_l19 n (co s).2 (out++[(co s).1]) ⟨_,List.mem_append_right _ (List.mem_singleton_self _),i⟩;rw[this]at h
   cases h.2
  ·rw[if_neg i]
   by_cases b:(co s).2.e=0
   ·exact p _ _ b
   ·refine⟨λh=>absurd h.1 (yG b n _),λh=>?_⟩;rw[mJ b]at h;exact absurd (uw h.1) b
theorem Ae(xs:List Int):mI xs=eG xs:=by
 unfold mI eG
 by_cases b:((⟨xs,0⟩:Rs).num 2).2.e=0
 ·obtain⟨h1,h2⟩:=BW ((⟨xs,0⟩:Rs).num 2).1 ((⟨xs,0⟩:Rs).num 2).2 [] b
  by_cases c:(nY ((⟨xs,0⟩:Rs).num 2).1 ((⟨xs,0⟩:Rs).num 2).2 []).2.fin=0/\dN (nY ((⟨xs,0⟩:Rs).num 2).1 ((⟨xs,0⟩:Rs).num 2).2 []).1=true
  ·rw[h1 c]
  ·by_cases d:(iq ((⟨xs,0⟩:Rs).num 2).1 ((⟨xs,0⟩:Rs).num 2).2 []).2.fin=0/\dN (iq ((⟨xs,0⟩:Rs).num 2).1 ((⟨xs,0⟩:Rs).num 2).2 []).1=true
   ·rw[h2 d]
   ·rw[if_neg c,if_neg d]
 ·rw[if_neg (λh=>by rw[mJ b]at h;exact b (uw h.1)),if_neg (λh=>absurd h.1 (yG b _ _))]
structure GJ(p:Nat->Prop)(w:World)(b4:Nat)(s:Rs)(m:Nat)(A':Option Addr)(c':Nat)(L:List Ch)(wr:World):Prop where
 new:aa w wr
 bz:w.heap.size<=b4
 rd:∃A n c,ac wr b4 194 #[.slice A n c,.int .i64 s.e]/\mY p wr A n c s
 own:wr.ownsRow w.heap.size 153 3 (.slice A' m c') m (L.flatMap Ch.cells)
 el:∀c∈L,c.In p wr
 sz:∀c∈L,c.k.n<=16/\c.v.n<=16384
def vU(q:Nat->Prop)(r:Option (List PC))(e:Ending)(w':World):Prop:=
 (r=none/\e=.returned (.tuple #[.slice none 0 0,.bool false]))\/
 (∃(A:Option Addr) (n c:Nat) (L:List Ch),r=some (L.map cK)/\e=.returned (.tuple #[.slice A n c,.bool true])/\ou w' A n L/\EW q w' A n L)
set_option maxHeartbeats 16000000 in
theorem xi{p:Nat->Prop}(A:Option Addr)(n c:Nat)(xs:List Int)(w:World)(hR:Rd p w 1 A n (an xs))(hp:∀k,p k->k<w.heap.size)(hb:ba xs)(z4:n<=c)(C:c<=9223372036854775807):
    Calls prog 78 #[.slice A n c] w λe w'=>vU p (mI xs) e w'/\aa w w':=by
 have z':mY p w A n c ⟨xs,0⟩:=⟨hR,hb,z4,C⟩
 have v9:=Ld z';have HP:=Ld hp;obtain⟨N,hN⟩:=nM (((⟨xs,0⟩:Rs).num 2).1);obtain⟨s0,u2⟩:=nM (((⟨xs,0⟩:Rs).num 2).2)
 have B5:N<65536:=by
  rw[hN];unfold Rs.num;have h1:=fm (xs:=((⟨xs,0⟩:Rs).raw 2).1) (raw_byt (s:=⟨xs,0⟩) hb 2);have h2:=pO (⟨xs,0⟩:Rs) 2;have h3:256^((⟨xs,0⟩:Rs).raw 2).1.length<=256^2:=Nat.pow_le_pow_right (by decide) h2;exact Nat.lt_of_lt_of_le h1 h3
 obtain⟨r,hr⟩:=nM (iq N s0 []);obtain⟨q,hq⟩:=nM (mI xs);rw[<-hq];unfold mI at hq;rw[<-hN,<-u2,<-hr]at hq;have B0:=Ld hN;have B1:=Ld u2;have y0:=Ld hr;have HQ:=Ld hq;clear hR hb hN u2 hr hq z' hp z4 C
 go_enter func78,ntmps78
 go_upto_region 2 with fail;obtain⟨w1,p6⟩:=nM (w.alloc (.cells #[.slice A n c,.int .i64 0] 194):World);obtain⟨b4,s7⟩:=nM (w.heap.size);have r0:Hid (aa w w1):=Ld (by rw[p6];exact aa.al (aa.refl _) _);have q0:Hid (ac w1 b4 194 #[.slice A n c,.int .i64 0]):=Ld (by rw[p6,s7];exact ac.new _ _ _);have HZ:Hid (w.heap.size<=b4):=Ld (by omega);rw[<-p6,<-s7];clear p6 s7;have c0:w1.cell? ⟨b4,0,none⟩=some (.slice A n c):=q0.out.cell 0;have c1:w1.cell? ⟨b4,1,none⟩=some (.int .i64 0):=q0.out.cell 1;have r4:=Ld (Cj (v9.out.new r0.out) 2 (by omega) (λk f=>Nat.lt_of_lt_of_le (HP.out k f) r0.out.size));unfold rV at r4
 go_wp2_with fail;refine r4.out.mono ?_;rintro e w2 ⟨⟨A2,n2,c2,rfl,u1⟩,s6⟩;rw[<-B0.out];rw[<-B1.out]at u1⊢;unfold rV;obtain⟨e2,s8⟩:=nM (s0.e);rw[<-s8];have z9:=Ld s8;have g9:=Ld u1;have B':=Ld s6;have m4:=Ld (s6.blk q0.out);clear u1 s6 s8 c0 c1 r4;have c0:w2.cell? ⟨b4,0,none⟩=some (.slice A n c):=m4.out.cell 0;have c1:w2.cell? ⟨b4,1,none⟩=some (.int .i64 0):=m4.out.cell 1;have f0:w2.frozen? ⟨b4,0,none⟩=false:=m4.out.frozen 0;have f1:w2.frozen? ⟨b4,1,none⟩=false:=m4.out.frozen 1
 go_upto_region 3 with fail;obtain⟨w3,p7⟩:=nM ((w2.setCell ⟨b4,0,none⟩ (.slice A2 n2 c2)).setCell ⟨b4,1,none⟩ (.int .i64 e2):World);have s5:Fr (λk=>k=b4) w2 w3:=by rw[p7];exact((Fr.refl (λk=>k=b4) w2).setCell (p:=⟨b4,0,none⟩) (λ_=>rfl) _).setCell (p:=⟨b4,1,none⟩) (λ_=>rfl) _
 have u':∀k,p k->¬k=b4:=λk f e=>by have:=HP.out k f;have:=HZ.out;omega
 have v5:=Ld u';have HI:Hid (GJ p w b4 s0 0 none 0 [] w3):=Ld ⟨(r0.out.tr B'.out).fr s5 (λk f=>by have:=HZ.out;omega),HZ.out,⟨A2,n2,c2,by rw[p7,<-z9.out];exact bQ m4.out _ _,⟨g9.out.rd.fr s5 u',g9.out.byt,g9.out.nc,g9.out.cm⟩⟩,World.ownsRow_nil _ _ _ _,(λc C=>nomatch C),λc C=>nomatch C⟩;have v7:Hid (r=iq (N-0) s0 (([]:List Ch).map cK)):=Ld y0.out;rw[<-p7];clear p7 s5 u' c0 c1 f0 f1 m4 g9 v9
 go_wp2_with fail;go_loopw [6,7] (λo i wr=>∃(j m:Nat) (s:Rs) (A':Option Addr) (c':Nat) (L:List Ch),j<=N/\m<=j/\i=.int .i64 j/\o=.slice A' m c'/\Hid (GJ p w b4 s m A' c' L wr)/\Hid (r=iq (N-j) s (L.map cK))) (λo i _=>N-(intOf i).toNat)
 case atStart=>exact⟨0,0,s0,none,0,[],Nat.zero_le _,Nat.le_refl _,rfl,rfl,HI,v7⟩
 case round=>
  obtain⟨j,m,s,A',c',L,hj,hm,rfl,rfl,M,p3⟩:=hrel;clear HI v7;obtain⟨Ar,nr,cr,y5,z0⟩:=M.out.rd;have i5:=Ld y5;have y2:=Ld z0;clear y5 z0;have c1:wr.cell? ⟨b4,1,none⟩=some (.int .i64 s.e):=i5.out.cell 1;have c0:wr.cell? ⟨b4,0,none⟩=some (.slice Ar nr cr):=i5.out.cell 0
  by_cases m8:j<N/\s.e=0
  ·obtain⟨p',he⟩:=m8;have z1:decide ((j:Int)<(N:Int))=true:=decide_eq_true (by omega);have o9:decide (j<N)=true:=decide_eq_true p';rw[he]at c1 i5;obtain⟨i0,y9⟩:∃i0,N-j=i0+1:=⟨N-j-1,by omega⟩
   obtain rfl:i0=N-(j+1):=by omega
   have v2:=Ld y9;have u7:=Ld he;have C1:(0:Int)<=(j:Int):=by omega
   have m5:=Ld (Ba y2.out (λk f=>Nat.lt_of_lt_of_le (HP.out k f) M.out.new.size));unfold rV at m5;rw[he]at m5;obtain⟨s1,z7⟩:=nM (s.flag.2);obtain⟨key_l19,m0⟩:=nM ((s1.bytes 16).1);obtain⟨s2,z8⟩:=nM ((s1.bytes 16).2);obtain⟨kn,t'⟩:=nM (key_l19.length);have n0:Hid (kn<=16):=Ld (by rw[t',m0];exact kv s1 16);have p5:=Ld z7;have b':=Ld m0;have m7:=Ld z8;have p1:=Ld t';clear y9 he z7 m0 z8 t'
   cases hb:s.flag.1
   ·as_aux_lemma=>
    have k5:Hid (co s=(⟨key_l19,[],true⟩,s2)):=Ld (by unfold co;rw[hb,if_neg (by decide),<-p5.out,<-m7.out,<-b'.out]);have q5:=Ld hb
    go_wp2_with fail;refine m5.out.mono ?_;rintro e w4 ⟨⟨A4,n4,c4,rfl,m2⟩,i3⟩;rw[q5.out];rw[<-p5.out]at m2⊢;unfold rV;obtain⟨e4,l5⟩:=nM (s1.e);rw[<-l5];have q3:=Ld l5;have r3:=Ld m2;have D:=Ld i3;clear m2 i3 l5 m5 c0 c1 hb
    go_upto_region 8 with fail;obtain⟨w5,i4⟩:=nM (w4.alloc (.cells #[.slice A4 n4 c4,.int .i64 e4] 194):World);obtain⟨b,j1⟩:=nM (w4.heap.size);have r1:Hid (aa wr w5):=Ld (by rw[i4];exact aa.al D.out _);have k4:Hid (mY p w5 A4 n4 c4 s1):=Ld (by rw[i4];exact r3.out.new (aa.al (aa.refl _) _));have z:Hid (ac w5 b 194 #[.slice A4 n4 c4,.int .i64 e4]):=Ld (by rw[i4,j1];exact ac.new _ _ _);have i':Hid (wr.heap.size<=b):=Ld (by rw[j1];exact D.out.size);rw[<-i4,<-j1];clear i4 j1;have l:w5.cell? ⟨b,0,none⟩=some (.slice A4 n4 c4):=z.out.cell 0;have t:w5.cell? ⟨b,1,none⟩=some (.int .i64 e4):=z.out.cell 1;have u:w5.frozen? ⟨b,0,none⟩=false:=z.out.frozen 0;have y:w5.frozen? ⟨b,1,none⟩=false:=z.out.frozen 1;have U:=nk k4.out 16 (by omega);unfold rV at U;rw[<-q3.out]at U;have j7:=Ld U;clear U
    go_wp2_with fail;refine j7.out.mono ?_;rintro e w6 ⟨⟨E,S,A7,n7,c7,rfl,l9,m',m3⟩,l1⟩;rw[<-b'.out,<-p1.out]at l9;rw[<-m7.out]at m3;rw[<-b'.out,<-p1.out,<-m7.out];unfold rV;obtain⟨e7,l7⟩:=nM (s2.e);rw[<-l7];have q4:=Ld l7;have g8:=Ld m3;have g4:=Ld l9;have q7:Hid (ba key_l19):=Ld (by rw[b'.out];exact gU k4.out.byt 16);have n5:Hid (aa wr w6):=Ld (r1.out.tr l1);have B:=Ld (l1.blk z.out);clear l t u y;clear m3 l9 m' l1 l7 j7 z k4;have l:w6.cell? ⟨b,0,none⟩=some (.slice A4 n4 c4):=B.out.cell 0;have t:w6.cell? ⟨b,1,none⟩=some (.int .i64 e4):=B.out.cell 1;have u:w6.frozen? ⟨b,0,none⟩=false:=B.out.frozen 0;have y:w6.frozen? ⟨b,1,none⟩=false:=B.out.frozen 1
    go_upto_region 9 with fail;obtain⟨w7,j3⟩:=nM ((w6.setCell ⟨b,0,none⟩ (.slice A7 n7 c7)).setCell ⟨b,1,none⟩ (.int .i64 e7):World);have i1:Fr (λk=>k=b) w6 w7:=by rw[j3];exact((Fr.refl (λk=>k=b) w6).setCell (p:=⟨b,0,none⟩) (λ_=>rfl) _).setCell (p:=⟨b,1,none⟩) (λ_=>rfl) _
    have b1:Hid (ac w7 b 194 #[(.slice A7 n7 c7),(.int .i64 e7)]):=Ld (by rw[j3];exact bQ B.out _ _);have P:=Ld i1;rw[<-j3];clear j3 i1;clear l t u y;have k':Hid (aa wr w7):=Ld (n5.out.fr P.out (λk f=>by have:=i'.out;omega));have m1:∀k,p k->k<wr.heap.size:=λk f=>Nat.lt_of_lt_of_le (HP.out k f) M.out.new.size
    have c8:=Ld m1;have n9:Hid (mY p w7 A7 n7 c7 s2):=Ld ⟨g8.out.rd.fr P.out (λk f e=>by have:=c8.out k f;have:=i'.out;omega),g8.out.byt,g8.out.nc,g8.out.cm⟩;have g5:Hid (Rd p w7 1 E kn (an key_l19)):=Ld (g4.out.fr P.out (λk f e=>by have:=c8.out k f;have:=i'.out;omega));clear m1 g8 g4 B n5 P
    go_upto_region 10 with fail;obtain⟨Y,j4⟩:=nM (w7.alloc (.cells #[.slice E kn S,.slice none 0 0,.bool true] 153):World);obtain⟨d,T⟩:=nM (w7.heap.size);have H:Hid (aa w7 Y):=Ld (by rw[j4];exact aa.al (aa.refl _) _);have b0:Hid (ac Y d 153 #[.slice E kn S,.slice none 0 0,.bool true]):=Ld (by rw[j4,T];exact ac.new _ _ _);have R:Hid (wr.heap.size<=d/\b<d):=Ld (by rw[T];exact⟨k'.out.size,b1.out.lt⟩);rw[<-j4,<-T];clear j4 T;have k3:Hid (aa wr Y):=Ld (k'.out.tr H.out);have j8:=Ld (n9.out.new H.out);have i7:=Ld (H.out.rd g5.out);have G:=Ld (H.out.blk b1.out);clear n9 g5 b1 k' H;have l:Y.cell? ⟨b,0,none⟩=some (.slice A7 n7 c7):=G.out.cell 0;have t:Y.cell? ⟨b,1,none⟩=some (.int .i64 e7):=G.out.cell 1;have u:Y.frozen? ⟨b,0,none⟩=false:=G.out.frozen 0;have y:Y.frozen? ⟨b,1,none⟩=false:=G.out.frozen 1;have F:Hid (ac Y b4 194 #[.slice Ar nr cr,.int .i64 0]):=Ld (k3.out.blk i5.out);have k7:Y.cell? ⟨b4,0,none⟩=some (.slice Ar nr cr):=F.out.cell 0;have k8:Y.cell? ⟨b4,1,none⟩=some (.int .i64 0):=F.out.cell 1;have k9:Y.frozen? ⟨b4,0,none⟩=false:=F.out.frozen 0;have l':Y.frozen? ⟨b4,1,none⟩=false:=F.out.frozen 1;have k0:Y.cell? ⟨d,0,none⟩=some (.slice E kn S):=b0.out.cell 0;have k1:Y.cell? ⟨d,1,none⟩=some (.slice none 0 0):=b0.out.cell 1;have k2:Y.cell? ⟨d,2,none⟩=some (.bool true):=b0.out.cell 2
    go_upto_region 15 with fail;obtain⟨Z,j5⟩:=nM ((Y.setCell ⟨b4,0,none⟩ (.slice A7 n7 c7)).setCell ⟨b4,1,none⟩ (.int .i64 e7):World);have i2:Fr (λk=>k=b4) Y Z:=by rw[j5];exact((Fr.refl (λk=>k=b4) Y).setCell (p:=⟨b4,0,none⟩) (λ_=>rfl) _).setCell (p:=⟨b4,1,none⟩) (λ_=>rfl) _
    have g3:Hid (ac Z b4 194 #[(.slice A7 n7 c7),(.int .i64 e7)]):=Ld (by rw[j5];exact bQ F.out _ _);have g:=Ld i2;rw[<-j5];clear j5 i2;clear l t u y;clear k7 k8 k9 l';clear k0 k1 k2;have l3:b4<wr.heap.size:=i5.out.lt;have O:Hid (ac Z d 153 #[.slice E kn S,.slice none 0 0,.bool true]):=Ld (b0.out.fr g.out (by have:=R.out;omega));have d':∀k,p k->¬k=b4:=v5.out;have j0:Hid (mY p Z A7 n7 c7 s2):=Ld ⟨j8.out.rd.fr g.out d',j8.out.byt,j8.out.nc,j8.out.cm⟩;have q8:Hid (Rd p Z 1 E kn (an key_l19)):=Ld (i7.out.fr g.out d');have q1:Hid ((⟨⟨E,kn,S,key_l19⟩,⟨none,0,0,[]⟩,true⟩:Ch).In p Z):=Ld ⟨⟨q8.out,q7.out⟩,⟨jJ _,λx hx=>nomatch hx⟩⟩;have n8:Hid (aa w Z):=Ld ((M.out.new.tr k3.out).fr g.out (λk f=>by have:=M.out.bz;omega))
    have p0:∀k,(Value.slice A' m c').ownBlock=some k->¬k=b4:=λk f e=>by
     subst e;exact bm M.out.own i5.out (by decide) f
    have j':Hid (Z.ownsRow w.heap.size 153 3 (.slice A' m c') m (L.flatMap Ch.cells)):=Ld (bg (k3.out.own M.out.own) g.out p0)
    have r':Hid (∀c∈L,c.In p Z):=Ld (λc C=>by
     have:=(M.out.el c C).new k3.out
     exact⟨⟨this.k.rd.fr g.out d',this.k.byt⟩,⟨this.v.rd.fr g.out d',this.v.byt⟩⟩)
    clear d' p0;have k0:Z.cell? ⟨d,0,none⟩=some (.slice E kn S):=O.out.cell 0;have k1:Z.cell? ⟨d,1,none⟩=some (.slice none 0 0):=O.out.cell 1;have k2:Z.cell? ⟨d,2,none⟩=some (.bool true):=O.out.cell 2
    go_wp2_with (first
     |((with_reducible refine dM ⟨some 58,.buildSlice _ _ _,_,_,_,_⟩ ?_);refine cD Gb (by decide) rfl (.tmp 57) rfl #[.slice E kn S,.slice none 0 0,.bool true] rfl rfl ?_)
     |(at_builtin;refine dM ⟨some 59,_,_,_,_,_⟩ ?_;refine dG ?_))
    refine⟨?_⟩;refine av (o:=⟨some 59,_,_,_,_,_⟩) Gb _ rfl (.tmp 56) (.tmp 58) rfl w.heap.size (.slice A' m c') m (L.flatMap Ch.cells) rfl (aa.own (aa.al (aa.refl _) _) j'.out) _ 1 1 [.slice E kn S,.slice none 0 0,.bool true] rfl (Rd.ofBlk (p:=λ_=>True) (ac.new _ 153 #[.slice E kn S,.slice none 0 0,.bool true]) 3 1 rfl trivial) (cF ⟨⟨E,kn,S,key_l19⟩,⟨none,0,0,[]⟩,true⟩) (by unfold maxLen;omega) (by omega) (by have:=n8.out.size;simp;omega) ?_;intro AF dF wF o8 o5 s';have I:=((aa.al (aa.refl Z) (.cells #[.slice E kn S,.slice none 0 0,.bool true] 153)).toFr (λk=>(Value.slice A' m c').ownBlock=some k)).trans o5;have X:∀k,p k->¬(Value.slice A' m c').ownBlock=some k:=λk f e=>by have:=(am j'.out k e).1;have:=HP.out k f;omega
    have q6 : Hid (GJ p w b4 s2 (m + 1) AF dF (L ++ [⟨⟨E, kn, S, key_l19⟩, ⟨none, 0, 0, []⟩, true⟩]) wF) := Ld ⟨n8.out.fr I (λk f => (am j'.out k f).1), M.out.bz, ⟨A7, n7, c7, by rw [<- q4.out]; exact g3.out.fr I (λf => bm j'.out g3.out (by decide) f), ⟨j0.out.rd.fr I X, j0.out.byt, j0.out.nc, j0.out.cm⟩⟩, by rw [List.flatMap_append]; simpa [Ch.cells] using o8, λc C => by
        rcases List.mem_append.1 C with C|C
        ·have:=r'.out c C;exact⟨⟨this.k.rd.fr I X,this.k.byt⟩,⟨this.v.rd.fr I X,this.v.byt⟩⟩
        ·rw[List.mem_singleton.1 C];have:=q1.out;exact⟨⟨this.k.rd.fr I X,this.k.byt⟩,⟨this.v.rd.fr I X,this.v.byt⟩⟩,λc C=>by
        rcases List.mem_append.1 C with C|C
        ·exact M.out.sz c C
        ·rw[List.mem_singleton.1 C]
         exact⟨n0.out,Nat.zero_le _⟩⟩
    have r2:Hid (r=iq (N-(j+1)) s2 ((L++[(⟨⟨E,kn,S,key_l19⟩,⟨none,0,0,[]⟩,true⟩:Ch)]).map cK)):=Ld (by
     have h1:=p3.out;rw[v2.out]at h1;unfold iq at h1;rw[if_pos u7.out,k5.out]at h1;rw[h1,List.map_append]
     rfl)
    clear o8 o5 s' I X k0 k1 k2 l3
    go_wp2_with fail;go_roundw
    case rel=>exact⟨j+1,m+1,_,AF,dF,_,by omega,by omega,by go_num,rfl,q6,r2⟩
    case measure=>simp[intOf];omega
   ·as_aux_lemma=>
    obtain⟨val,j2⟩:=nM ((s2.bytes 16384).1);obtain⟨s3,u3⟩:=nM ((s2.bytes 16384).2);obtain⟨vn,u6⟩:=nM (val.length);have k5:Hid (co s=(⟨key_l19,val,false⟩,s3)):=Ld (by unfold co;rw[hb,if_pos rfl,<-p5.out,<-m7.out,<-b'.out,<-j2,<-u3]);have k6:=Ld j2;have y3:=Ld u3;have y4:=Ld u6;have r5:Hid (vn<=16384):=Ld (by rw[u6,j2];exact kv s2 16384);clear j2 u3 u6;have q5:=Ld hb
    go_wp2_with fail;refine m5.out.mono ?_;rintro e w4 ⟨⟨A4,n4,c4,rfl,m2⟩,i3⟩;rw[q5.out];rw[<-p5.out]at m2⊢;unfold rV;obtain⟨e4,l5⟩:=nM (s1.e);rw[<-l5];have q3:=Ld l5;have r3:=Ld m2;have D:=Ld i3;clear m2 i3 l5 m5 c0 c1 hb
    go_upto_region 8 with fail;obtain⟨w5,i4⟩:=nM (w4.alloc (.cells #[.slice A4 n4 c4,.int .i64 e4] 194):World);obtain⟨b,j1⟩:=nM (w4.heap.size);have r1:Hid (aa wr w5):=Ld (by rw[i4];exact aa.al D.out _);have k4:Hid (mY p w5 A4 n4 c4 s1):=Ld (by rw[i4];exact r3.out.new (aa.al (aa.refl _) _));have z:Hid (ac w5 b 194 #[.slice A4 n4 c4,.int .i64 e4]):=Ld (by rw[i4,j1];exact ac.new _ _ _);have i':Hid (wr.heap.size<=b):=Ld (by rw[j1];exact D.out.size);rw[<-i4,<-j1];clear i4 j1;have l:w5.cell? ⟨b,0,none⟩=some (.slice A4 n4 c4):=z.out.cell 0;have t:w5.cell? ⟨b,1,none⟩=some (.int .i64 e4):=z.out.cell 1;have u:w5.frozen? ⟨b,0,none⟩=false:=z.out.frozen 0;have y:w5.frozen? ⟨b,1,none⟩=false:=z.out.frozen 1;have U:=nk k4.out 16 (by omega);unfold rV at U;rw[<-q3.out]at U;have j7:=Ld U;clear U
    go_wp2_with fail;refine j7.out.mono ?_;rintro e w6 ⟨⟨E,S,A7,n7,c7,rfl,l9,m',m3⟩,l1⟩;rw[<-b'.out,<-p1.out]at l9;rw[<-m7.out]at m3;rw[<-b'.out,<-p1.out,<-m7.out];unfold rV;obtain⟨e7,l7⟩:=nM (s2.e);rw[<-l7];have q4:=Ld l7;have g8:=Ld m3;have g4:=Ld l9;have q7:Hid (ba key_l19):=Ld (by rw[b'.out];exact gU k4.out.byt 16);have n5:Hid (aa wr w6):=Ld (r1.out.tr l1);have B:=Ld (l1.blk z.out);clear l t u y;clear m3 l9 m' l1 l7 j7 z k4;have l:w6.cell? ⟨b,0,none⟩=some (.slice A4 n4 c4):=B.out.cell 0;have t:w6.cell? ⟨b,1,none⟩=some (.int .i64 e4):=B.out.cell 1;have u:w6.frozen? ⟨b,0,none⟩=false:=B.out.frozen 0;have y:w6.frozen? ⟨b,1,none⟩=false:=B.out.frozen 1
    go_upto_region 9 with fail;obtain⟨w7,j3⟩:=nM ((w6.setCell ⟨b,0,none⟩ (.slice A7 n7 c7)).setCell ⟨b,1,none⟩ (.int .i64 e7):World);have i1:Fr (λk=>k=b) w6 w7:=by rw[j3];exact((Fr.refl (λk=>k=b) w6).setCell (p:=⟨b,0,none⟩) (λ_=>rfl) _).setCell (p:=⟨b,1,none⟩) (λ_=>rfl) _
    have b1:Hid (ac w7 b 194 #[(.slice A7 n7 c7),(.int .i64 e7)]):=Ld (by rw[j3];exact bQ B.out _ _);have P:=Ld i1;rw[<-j3];clear j3 i1;clear l t u y;have k':Hid (aa wr w7):=Ld (n5.out.fr P.out (λk f=>by have:=i'.out;omega));have m1:∀k,p k->k<wr.heap.size:=λk f=>Nat.lt_of_lt_of_le (HP.out k f) M.out.new.size
    have c8:=Ld m1;have n9:Hid (mY p w7 A7 n7 c7 s2):=Ld ⟨g8.out.rd.fr P.out (λk f e=>by have:=c8.out k f;have:=i'.out;omega),g8.out.byt,g8.out.nc,g8.out.cm⟩;have g5:Hid (Rd p w7 1 E kn (an key_l19)):=Ld (g4.out.fr P.out (λk f e=>by have:=c8.out k f;have:=i'.out;omega));clear m1 g8 g4 B n5 P
    go_upto_region 10 with fail;obtain⟨Y,j4⟩:=nM (w7.alloc (.cells #[.slice E kn S,.slice none 0 0,.bool false] 153):World);obtain⟨d,T⟩:=nM (w7.heap.size);have H:Hid (aa w7 Y):=Ld (by rw[j4];exact aa.al (aa.refl _) _);have b0:Hid (ac Y d 153 #[.slice E kn S,.slice none 0 0,.bool false]):=Ld (by rw[j4,T];exact ac.new _ _ _);have R:Hid (wr.heap.size<=d/\b<d):=Ld (by rw[T];exact⟨k'.out.size,b1.out.lt⟩);rw[<-j4,<-T];clear j4 T;have k3:Hid (aa wr Y):=Ld (k'.out.tr H.out);have j8:=Ld (n9.out.new H.out);have i7:=Ld (H.out.rd g5.out);have G:=Ld (H.out.blk b1.out);clear n9 g5 b1 k' H;have l:Y.cell? ⟨b,0,none⟩=some (.slice A7 n7 c7):=G.out.cell 0;have t:Y.cell? ⟨b,1,none⟩=some (.int .i64 e7):=G.out.cell 1;have u:Y.frozen? ⟨b,0,none⟩=false:=G.out.frozen 0;have y:Y.frozen? ⟨b,1,none⟩=false:=G.out.frozen 1;have U:=nk j8.out 16384 (by omega);unfold rV at U;rw[<-q4.out]at U;have j7:=Ld U;clear U
    go_wp2_with fail;refine j7.out.mono ?_;rintro e w9 ⟨⟨Av,cv,c5,f',c9,rfl,u4,u5,u0⟩,y8⟩;rw[<-k6.out,<-y4.out]at u4;rw[<-y3.out]at u0;rw[<-k6.out,<-y4.out,<-y3.out];unfold rV;obtain⟨j9,l4⟩:=nM (s3.e);rw[<-l4];have q2:=Ld l4;have v8:=Ld u0;have o2:=Ld u4;have B2:Hid (ba val):=Ld (by rw[k6.out];exact gU j8.out.byt 16384);have n6:=Ld y8;clear l t u y;clear u0 u4 u5 y8 l4 j7
    go_upto_region 12 with fail;obtain⟨wA,p8⟩:=nM (w9.alloc (.cells #[.slice c5 f' c9,.int .i64 j9] 194):World);obtain⟨r7,l2⟩:=nM (w9.heap.size);have i9:Hid (aa w9 wA):=Ld (by rw[p8];exact aa.al (aa.refl _) _);have m9:Hid (ac wA r7 194 #[.slice c5 f' c9,.int .i64 j9]):=Ld (by rw[p8,l2];exact ac.new _ _ _);rw[<-p8,<-l2];clear p8 l2;have g6:Hid (aa Y wA):=Ld (n6.out.tr i9.out);have u9:Hid (aa wr wA):=Ld (k3.out.tr g6.out);have b8:=Ld (g6.out.blk G.out);have j6:=Ld (g6.out.blk b0.out);have o0:=Ld (v8.out.new i9.out);have o3:=Ld (i9.out.rd o2.out);have n1:=Ld (g6.out.rd i7.out);clear G b0 v8 o2 i7 i9 n6 g6 j8;have l:wA.cell? ⟨b,0,none⟩=some (.slice A7 n7 c7):=b8.out.cell 0;have t:wA.cell? ⟨b,1,none⟩=some (.int .i64 e7):=b8.out.cell 1;have u:wA.frozen? ⟨b,0,none⟩=false:=b8.out.frozen 0;have y:wA.frozen? ⟨b,1,none⟩=false:=b8.out.frozen 1;have r8:wA.cell? ⟨r7,0,none⟩=some (.slice c5 f' c9):=m9.out.cell 0;have r9:wA.cell? ⟨r7,1,none⟩=some (.int .i64 j9):=m9.out.cell 1
    go_upto_region 13 with fail;obtain⟨wB,p9⟩:=nM ((wA.setCell ⟨b,0,none⟩ (.slice c5 f' c9)).setCell ⟨b,1,none⟩ (.int .i64 j9):World);have o6:Fr (λk=>k=b) wA wB:=by rw[p9];exact((Fr.refl (λk=>k=b) wA).setCell (p:=⟨b,0,none⟩) (λ_=>rfl) _).setCell (p:=⟨b,1,none⟩) (λ_=>rfl) _
    have n':Hid (ac wB b 194 #[(.slice c5 f' c9),(.int .i64 j9)]):=Ld (by rw[p9];exact bQ b8.out _ _);have c3:=Ld o6;rw[<-p9];clear p9 o6;clear l t u y;clear r8 r9;have m1:∀k,p k->k<wr.heap.size:=c8.out;have v':Hid (aa wr wB):=Ld (u9.out.fr c3.out (λk f=>by have:=i'.out;omega));have b3:Hid (ac wB d 153 #[.slice E kn S,.slice none 0 0,.bool false]):=Ld (j6.out.fr c3.out (by have:=R.out;omega));have o1:Hid (mY p wB c5 f' c9 s3):=Ld ⟨o0.out.rd.fr c3.out (λk f e=>by have:=c8.out k f;have:=i'.out;omega),o0.out.byt,o0.out.nc,o0.out.cm⟩;have o4:Hid (Rd p wB 1 Av vn (an val)):=Ld (o3.out.fr c3.out (λk f e=>by have:=c8.out k f;have:=i'.out;omega));have n3:Hid (Rd p wB 1 E kn (an key_l19)):=Ld (n1.out.fr c3.out (λk f e=>by have:=c8.out k f;have:=i'.out;omega));clear o0 o3 n1 j6 b8 u9 m1 c3;have k1:wB.cell? ⟨d,1,none⟩=some (.slice none 0 0):=b3.out.cell 1;have B9:wB.frozen? ⟨d,1,none⟩=false:=b3.out.frozen 1
    go_upto_region 14 with fail;obtain⟨wC,q'⟩:=nM (wB.setCell ⟨d,1,none⟩ (.slice Av vn cv):World);have y6:Fr (λk=>k=d) wB wC:=by rw[q'];exact(Fr.refl (λk=>k=d) wB).setCell (p:=⟨d,1,none⟩) (λ_=>rfl) _
    have b7:Hid (ac wC d 153 #[.slice E kn S,.slice Av vn cv,.bool false]):=Ld (by
     have:=b3.out.set 1 (.slice Av vn cv);rw[q']
     simpa using this)
    have m6:=Ld y6;rw[<-q'];clear q' y6 k1 B9;have p2:Hid (aa wr wC):=Ld (v'.out.fr m6.out (λk f=>by have:=R.out;omega));have i6:=Ld (n'.out.fr m6.out (by have:=R.out;omega));have p4:Hid (mY p wC c5 f' c9 s3):=Ld ⟨o1.out.rd.fr m6.out (λk f e=>by have:=c8.out k f;have:=R.out;omega),o1.out.byt,o1.out.nc,o1.out.cm⟩;have r6:Hid (Rd p wC 1 Av vn (an val)):=Ld (o4.out.fr m6.out (λk f e=>by have:=c8.out k f;have:=R.out;omega));have q9:Hid (Rd p wC 1 E kn (an key_l19)):=Ld (n3.out.fr m6.out (λk f e=>by have:=c8.out k f;have:=R.out;omega));clear o1 o4 n3 b3 n' v' m6 k3;have l:wC.cell? ⟨b,0,none⟩=some (.slice c5 f' c9):=i6.out.cell 0;have t:wC.cell? ⟨b,1,none⟩=some (.int .i64 j9):=i6.out.cell 1;have u:wC.frozen? ⟨b,0,none⟩=false:=i6.out.frozen 0;have y:wC.frozen? ⟨b,1,none⟩=false:=i6.out.frozen 1;have F:Hid (ac wC b4 194 #[.slice Ar nr cr,.int .i64 0]):=Ld (p2.out.blk i5.out);have k7:wC.cell? ⟨b4,0,none⟩=some (.slice Ar nr cr):=F.out.cell 0;have k8:wC.cell? ⟨b4,1,none⟩=some (.int .i64 0):=F.out.cell 1;have k9:wC.frozen? ⟨b4,0,none⟩=false:=F.out.frozen 0;have l':wC.frozen? ⟨b4,1,none⟩=false:=F.out.frozen 1;have k0:wC.cell? ⟨d,0,none⟩=some (.slice E kn S):=b7.out.cell 0;have k1:wC.cell? ⟨d,1,none⟩=some (.slice Av vn cv):=b7.out.cell 1;have k2:wC.cell? ⟨d,2,none⟩=some (.bool false):=b7.out.cell 2
    go_upto_region 15 with fail;obtain⟨Z,j5⟩:=nM ((wC.setCell ⟨b4,0,none⟩ (.slice c5 f' c9)).setCell ⟨b4,1,none⟩ (.int .i64 j9):World);have i2:Fr (λk=>k=b4) wC Z:=by rw[j5];exact((Fr.refl (λk=>k=b4) wC).setCell (p:=⟨b4,0,none⟩) (λ_=>rfl) _).setCell (p:=⟨b4,1,none⟩) (λ_=>rfl) _
    have g3:Hid (ac Z b4 194 #[(.slice c5 f' c9),(.int .i64 j9)]):=Ld (by rw[j5];exact bQ F.out _ _);have g:=Ld i2;rw[<-j5];clear j5 i2;clear l t u y;clear k7 k8 k9 l';clear k0 k1 k2;have l3:b4<wr.heap.size:=i5.out.lt;have O:Hid (ac Z d 153 #[.slice E kn S,.slice Av vn cv,.bool false]):=Ld (b7.out.fr g.out (by have:=R.out;omega));have d':∀k,p k->¬k=b4:=v5.out;have j0:Hid (mY p Z c5 f' c9 s3):=Ld ⟨p4.out.rd.fr g.out d',p4.out.byt,p4.out.nc,p4.out.cm⟩;have q8:Hid (Rd p Z 1 E kn (an key_l19)):=Ld (q9.out.fr g.out d');have q1:Hid ((⟨⟨E,kn,S,key_l19⟩,⟨Av,vn,cv,val⟩,false⟩:Ch).In p Z):=Ld ⟨⟨q8.out,q7.out⟩,⟨r6.out.fr g.out d',B2.out⟩⟩;have n8:Hid (aa w Z):=Ld ((M.out.new.tr p2.out).fr g.out (λk f=>by have:=M.out.bz;omega))
    have p0:∀k,(Value.slice A' m c').ownBlock=some k->¬k=b4:=λk f e=>by
     subst e;exact bm M.out.own i5.out (by decide) f
    have j':Hid (Z.ownsRow w.heap.size 153 3 (.slice A' m c') m (L.flatMap Ch.cells)):=Ld (bg (p2.out.own M.out.own) g.out p0)
    have r':Hid (∀c∈L,c.In p Z):=Ld (λc C=>by
     have:=(M.out.el c C).new p2.out
     exact⟨⟨this.k.rd.fr g.out d',this.k.byt⟩,⟨this.v.rd.fr g.out d',this.v.byt⟩⟩)
    clear d' p0;have k0:Z.cell? ⟨d,0,none⟩=some (.slice E kn S):=O.out.cell 0;have k1:Z.cell? ⟨d,1,none⟩=some (.slice Av vn cv):=O.out.cell 1;have k2:Z.cell? ⟨d,2,none⟩=some (.bool false):=O.out.cell 2
    go_wp2_with (first
     |((with_reducible refine dM ⟨some 58,.buildSlice _ _ _,_,_,_,_⟩ ?_);refine cD Gb (by decide) rfl (.tmp 57) rfl #[.slice E kn S,.slice Av vn cv,.bool false] rfl rfl ?_)
     |(at_builtin;refine dM ⟨some 59,_,_,_,_,_⟩ ?_;refine dG ?_))
    refine⟨?_⟩;refine av (o:=⟨some 59,_,_,_,_,_⟩) Gb _ rfl (.tmp 56) (.tmp 58) rfl w.heap.size (.slice A' m c') m (L.flatMap Ch.cells) rfl (aa.own (aa.al (aa.refl _) _) j'.out) _ 1 1 [.slice E kn S,.slice Av vn cv,.bool false] rfl (Rd.ofBlk (p:=λ_=>True) (ac.new _ 153 #[.slice E kn S,.slice Av vn cv,.bool false]) 3 1 rfl trivial) (cF ⟨⟨E,kn,S,key_l19⟩,⟨Av,vn,cv,val⟩,false⟩) (by unfold maxLen;omega) (by omega) (by have:=n8.out.size;simp;omega) ?_;intro AF dF wF o8 o5 s';have I:=((aa.al (aa.refl Z) (.cells #[.slice E kn S,.slice Av vn cv,.bool false] 153)).toFr (λk=>(Value.slice A' m c').ownBlock=some k)).trans o5;have X:∀k,p k->¬(Value.slice A' m c').ownBlock=some k:=λk f e=>by have:=(am j'.out k e).1;have:=HP.out k f;omega
    have q6 : Hid (GJ p w b4 s3 (m + 1) AF dF (L ++ [⟨⟨E, kn, S, key_l19⟩, ⟨Av, vn, cv, val⟩, false⟩]) wF) := Ld ⟨n8.out.fr I (λk f => (am j'.out k f).1), M.out.bz, ⟨c5, f', c9, by rw [<- q2.out]; exact g3.out.fr I (λf => bm j'.out g3.out (by decide) f), ⟨j0.out.rd.fr I X, j0.out.byt, j0.out.nc, j0.out.cm⟩⟩, by rw [List.flatMap_append]; simpa [Ch.cells] using o8, λc C => by
        rcases List.mem_append.1 C with C|C
        ·have:=r'.out c C;exact⟨⟨this.k.rd.fr I X,this.k.byt⟩,⟨this.v.rd.fr I X,this.v.byt⟩⟩
        ·rw[List.mem_singleton.1 C];have:=q1.out;exact⟨⟨this.k.rd.fr I X,this.k.byt⟩,⟨this.v.rd.fr I X,this.v.byt⟩⟩,λc C=>by
        rcases List.mem_append.1 C with C|C
        ·exact M.out.sz c C
        ·rw[List.mem_singleton.1 C]
         exact⟨n0.out,r5.out⟩⟩
    have r2:Hid (r=iq (N-(j+1)) s3 ((L++[(⟨⟨E,kn,S,key_l19⟩,⟨Av,vn,cv,val⟩,false⟩:Ch)]).map cK)):=Ld (by
     have h1:=p3.out;rw[v2.out]at h1;unfold iq at h1;rw[if_pos u7.out,k5.out]at h1;rw[h1,List.map_append]
     rfl)
    clear o8 o5 s' I X k0 k1 k2 l3
    go_wp2_with fail;go_roundw
    case rel=>exact⟨j+1,m+1,_,AF,dF,_,by omega,by omega,by go_num,rfl,q6,r2⟩
    case measure=>simp[intOf];omega
  ·have l8:(L.map cK,s)=r:=by
    rw[p3.out]
    by_cases B8:j=N
    ·subst B8;rw[Nat.sub_self];rfl
    ·exact(mJ (λh=>m8 ⟨by omega,h⟩) _ _).symm
   have z5:r.1=L.map cK:=by rw[<-l8]
   have z6:r.2=s:=by rw[<-l8]
   have hq:=HQ.out;have y7:ko L:=λc C=>⟨(M.out.el c C).k.len,(M.out.el c C).v.len⟩
   rw[z5,z6,fE y7]at hq;have V:=Ld hq;have HE:=Ld (λW (hN:aa wr W)=>Dx (y2.out.new hN));unfold rV at HE;have o7:L.length=m:=by have:=M.out.own.1;rw[ng]at this;omega
   have C':=Ld o7;have HC:=Ld (λW (hN:aa wr W)=>lV A' m c' L W (Rd.own (hN.own M.out.own) rfl) o7 (by omega) (λc C=>by have:=M.out.sz c C;unfold maxLen;omega));have y1:Hid (ou wr A' m L):=Ld ⟨dS (Rd.own M.out.own rfl),o7,λc C=>Ch.In.szs (M.out.el c C)⟩;have y':Hid (EW p wr A' m L):=Ld ⟨(Rd.own M.out.own rfl).imp (λk f=>cY M.out.own f),o7,M.out.el⟩;obtain⟨es,z2⟩:=nM (s.e);obtain⟨fs,z3⟩:=nM (s.fin);rw[<-z2]at c1 m8 HE i5;rw[<-z3]at HE V;clear l8 z5 z6 hq o7 p3 y0 HQ y7 z2 z3
   by_cases p':j<N
   ·have he:¬es=0:=λh=>m8 ⟨p',h⟩
    have hz:((es:Int)==0)=false:=by simp;omega
    have C0:decide ((es:Int)=0)=false:=decide_eq_false (by omega);have z1:decide ((j:Int)<(N:Int))=true:=decide_eq_true (by omega);have o9:decide (j<N)=true:=decide_eq_true p';clear m8
    go_wp2_with fail;refine(HE.out wr (aa.refl _)).mono ?_;rintro e w4 ⟨rfl,i3⟩;have D:=Ld i3;clear i3 HE c0 c1
    by_cases hf:fs=0
    ·subst hf
     go_wp2_with fail;refine(HC.out w4 D.out).mono ?_;rintro e w5 ⟨rfl,rfl⟩
     by_cases J:bY L=true
     ·rw[J];have g7:Hid (q=some (L.map cK)):=Ld (by rw[V.out,if_pos ⟨by first|rfl|trivial,J⟩]);clear V J
      go_wp2_with fail;go_ret2;exact⟨.inr ⟨A',m,c',L,g7.out,rfl,y1.out.new D.out,y'.out.new D.out⟩,M.out.new.tr D.out⟩
     ·have J:bY L=false:=by simpa using J
      rw[J];have g7:Hid (q=none):=Ld (by rw[V.out,if_neg (λh=>by rw[J]at h;cases h.2)]);clear V J
      go_wp2_with fail;go_ret2;exact⟨.inl ⟨g7.out,rfl⟩,M.out.new.tr D.out⟩
    ·have B7:((fs:Int)==0)=false:=by simp;omega
     have s9:((fs:Int) != 0)=true:=by simp;omega
     have B6:decide ((fs:Int)=0)=false:=decide_eq_false (by omega);have g7:Hid (q=none):=Ld (by rw[V.out,if_neg (λh=>hf h.1)]);clear V
     go_wp2_with fail;go_ret2;exact⟨.inl ⟨g7.out,rfl⟩,M.out.new.tr D.out⟩
   ·have z1:decide ((j:Int)<(N:Int))=false:=decide_eq_false (by omega);have o9:decide (j<N)=false:=decide_eq_false p';clear m8
    go_wp2_with fail;refine(HE.out wr (aa.refl _)).mono ?_;rintro e w4 ⟨rfl,i3⟩;have D:=Ld i3;clear i3 HE c0 c1
    by_cases hf:fs=0
    ·subst hf
     go_wp2_with fail;refine(HC.out w4 D.out).mono ?_;rintro e w5 ⟨rfl,rfl⟩
     by_cases J:bY L=true
     ·rw[J];have g7:Hid (q=some (L.map cK)):=Ld (by rw[V.out,if_pos ⟨by first|rfl|trivial,J⟩]);clear V J
      go_wp2_with fail;go_ret2;exact⟨.inr ⟨A',m,c',L,g7.out,rfl,y1.out.new D.out,y'.out.new D.out⟩,M.out.new.tr D.out⟩
     ·have J:bY L=false:=by simpa using J
      rw[J];have g7:Hid (q=none):=Ld (by rw[V.out,if_neg (λh=>by rw[J]at h;cases h.2)]);clear V J
      go_wp2_with fail;go_ret2;exact⟨.inl ⟨g7.out,rfl⟩,M.out.new.tr D.out⟩
    ·have B7:((fs:Int)==0)=false:=by simp;omega
     have s9:((fs:Int) != 0)=true:=by simp;omega
     have B6:decide ((fs:Int)=0)=false:=decide_eq_false (by omega);have g7:Hid (q=none):=Ld (by rw[V.out,if_neg (λh=>hf h.1)]);clear V
     go_wp2_with fail;go_ret2;exact⟨.inl ⟨g7.out,rfl⟩,M.out.new.tr D.out⟩
end Go.Proofs.YtfchcdbfalgdlaaGreatDoor
namespace Go.Proofs.YtfchcdbfalgdlaaGreatDoor
open _root_.Go.Proofs.Tryz
open Go.RowKit
theorem jS{P:Program}{b:Array Oper}{rest:List Oper}{o:Oper}{a:Act}{w:World}{Q:Exit->Act->World->Prop}(m:Region.wanted o (yielded b a.tmps)=true)(t:TypeId)(l:List (Nat×Operand))(j:o.op=.build t l.toArray)(d:List (Nat×Value))(k:(l.map λ(i,x)=>(i,a.eval x))=d)(cells:Array Value)(g:P.built t d=some cells)
    (h:wpList P b Q rest (a.put o.dst (.agg cells)) w):wpList P b Q (o::rest) a w:=
 cH m λK f=>by
  have c:P.built t (l.toArray.map λ(i,x)=>(i,a.eval x)).toList=some cells:=by rw[List.map_toArray,k];exact g
  refine wp_build t l.toArray j (by rw[c];rfl) ?_;rw[c];exact f _ _ h
end Go.Proofs.YtfchcdbfalgdlaaGreatDoor
