/- Texts of one proof. No condition but each one's own. -/
import Derived.Test.YtfchcdbfalgdlaaGreatDoorSweepOpensM23
import Derived.Test.YtfchcdbfalgdlaaGreatDoorSweepOpensM36
import Derived.Laws.Tables
set_option maxHeartbeats 4000000
set_option maxRecDepth 100000
set_option linter.unusedVariables false
set_option linter.unusedSimpArgs false
namespace Go.Proofs.YtfchcdbfalgdlaaGreatDoor
open _root_.Go.Proofs.Tryz
open Go.RowKit Go.Maps Go.Sort
def gS:Nat→Rs→List PC→List PC×Rs
 | 0,s,out=>(out,s)
 |n+1,s,out=>if s.e=0 then gS n (bZ s).2 (out++[(bZ s).1])else(out,s)
def lO(xs:List Int):Option (List PC):=
 if(gS ((⟨xs,0⟩:Rs).num 2).1 ((⟨xs,0⟩:Rs).num 2).2 []).2.fin=0∧dv (gS ((⟨xs,0⟩:Rs).num 2).1 ((⟨xs,0⟩:Rs).num 2).2 []).1=true then some (gS ((⟨xs,0⟩:Rs).num 2).1 ((⟨xs,0⟩:Rs).num 2).2 []).1 else none
theorem sX{s:Rs}(h:s.fin=0):s.e=0:=by
 unfold Rs.fin at h;split at h
 ·omega
 ·next h0=>omega
theorem vS(s:Rs):(s.bad 2).fin≠0:=by
 unfold Rs.bad Rs.fin;split<;>simp_all
theorem AJ{s:Rs}(h:s.e≠0):(bZ s).1.k=[]∧(bZ s).2=s:=by
 unfold bZ;rw[sZ h];dsimp only;rw[if_neg (by decide),pV h];exact⟨rfl,rfl⟩
theorem lP{s:Rs}(h:s.e≠0)(n:Nat)(out:List PC):gS n s out=(out,s):=by
 cases n with
 |zero=>rfl
 |succ n=>unfold gS;rw[if_neg h]
theorem wN{s:Rs}(h:s.e≠0)(n:Nat)(out:List PC):(prs n s out).2.fin≠0:=by
 cases n with
 |zero=>
  unfold prs Rs.fin;dsimp only;rw[if_pos h];exact h
 |succ n=>
  unfold prs;obtain⟨h1,h2⟩:=AJ h;rw[if_pos h1];exact vS _
theorem zZ(n:Nat):∀(s:Rs) (out:List PC),s.e=0→((prs n s out).2.fin=0∧dv (prs n s out).1=true→gS n s out=prs n s out)∧((gS n s out).2.fin=0∧dv (gS n s out).1=true→gS n s out=prs n s out):=by
 induction n with
 |zero=>intro s out _;exact⟨fun _=>rfl,fun _=>rfl⟩
 |succ n p=>
  intro s out l;unfold prs gS;rw[if_pos l]
  by_cases i:(bZ s).1.k=[]
  ·rw[if_pos i];refine⟨fun h=>absurd h.1 (vS _),fun h=>?_⟩;exfalso
   have key_l19:∀(m:Nat) (t:Rs) (o:List PC),(∃c∈o,c.k=[])→dv (gS m t o).1=false:=by
    intro m
    induction m with
    |zero=>
     intro t o ⟨c,g,d⟩;unfold gS dv
     have:o.all jN=false:=by
      cases ha:o.all jN with
      |false=>rfl
      |true=>
       have h1:=List.all_eq_true.1 ha c g;unfold jN at h1;rw[d]at h1;simp at h1
     dsimp only;rw[this];simp
    |succ m f=>
     intro t o j;unfold gS;split
     ·obtain⟨c,g,d⟩:=j;exact f _ _ ⟨c,List.mem_append_left _ g,d⟩
     ·have:=f t o j;rw[lP (by assumption)]at this;exact this
   have:=key_l19 n (bZ s).2 (out++[(bZ s).1]) ⟨_,List.mem_append_right _ (List.mem_singleton_self _),i⟩;rw[this]at h
   cases h.2
  ·rw[if_neg i]
   by_cases b:(bZ s).2.e=0
   ·exact p _ _ b
   ·refine⟨fun h=>absurd h.1 (wN b n _),fun h=>?_⟩;rw[lP b]at h;exact absurd (sX h.1) b
theorem ym(xs:List Int):lO xs=dL xs:=by
 unfold lO dL
 by_cases b:((⟨xs,0⟩:Rs).num 2).2.e=0
 ·obtain⟨h1,h2⟩:=zZ ((⟨xs,0⟩:Rs).num 2).1 ((⟨xs,0⟩:Rs).num 2).2 [] b
  by_cases c:(prs ((⟨xs,0⟩:Rs).num 2).1 ((⟨xs,0⟩:Rs).num 2).2 []).2.fin=0∧dv (prs ((⟨xs,0⟩:Rs).num 2).1 ((⟨xs,0⟩:Rs).num 2).2 []).1=true
  ·rw[h1 c]
  ·by_cases d:(gS ((⟨xs,0⟩:Rs).num 2).1 ((⟨xs,0⟩:Rs).num 2).2 []).2.fin=0∧dv (gS ((⟨xs,0⟩:Rs).num 2).1 ((⟨xs,0⟩:Rs).num 2).2 []).1=true
   ·rw[h2 d]
   ·rw[if_neg c,if_neg d]
 ·rw[if_neg (fun h=>by rw[lP b]at h;exact b (sX h.1)),if_neg (fun h=>absurd h.1 (wN b _ _))]
structure EY(p:Nat→Prop)(w:World)(b4:Nat)(s:Rs)(m:Nat)(A':Option Addr)(c':Nat)(L:List Ch)(wr:World):Prop where
 new:aa w wr
 bz:w.heap.size≤b4
 rd:∃A n c,ab wr b4 194 #[.slice A n c,.int .i64 s.e]∧ml p wr A n c s
 own:wr.ownsRow w.heap.size 153 3 (.slice A' m c') m (L.flatMap Ch.cells)
 el:∀c∈L,c.In p wr
 sz:∀c∈L,c.k.n≤16∧c.v.n≤16384
def uo(q:Nat→Prop)(r:Option (List PC))(e:Ending)(w':World):Prop:=
 (r=none∧e=.returned (.tuple #[.slice none 0 0,.bool false]))∨
 (∃(A:Option Addr) (n c:Nat) (L:List Ch),r=some (L.map cZ)∧e=.returned (.tuple #[.slice A n c,.bool true])∧px w' A n L∧Db q w' A n L)
set_option maxHeartbeats 16000000 in
theorem uV{p:Nat→Prop}(A:Option Addr)(n c:Nat)(xs:List Int)(w:World)(hR:Rd p w 1 A n (am xs))(hp:∀k,p k→k<w.heap.size)(hb:aU xs)(z3:n≤c)(C:c≤9223372036854775807):
    Calls prog 78 #[.slice A n c] w fun e w'=>uo p (lO xs) e w'∧aa w w':=by
 have y9:ml p w A n c ⟨xs,0⟩:=⟨hR,hb,z3,C⟩
 have v8:=Ld y9;have HP:=Ld hp;obtain⟨N,hN⟩:=nM (((⟨xs,0⟩:Rs).num 2).1);obtain⟨s0,u1⟩:=nM (((⟨xs,0⟩:Rs).num 2).2)
 have B2:N<65536:=by
  rw[hN];unfold Rs.num;have h1:=eC (xs:=((⟨xs,0⟩:Rs).raw 2).1) (raw_byt (s:=⟨xs,0⟩) hb 2);have h2:=oG (⟨xs,0⟩:Rs) 2;have h3:256^((⟨xs,0⟩:Rs).raw 2).1.length≤256^2:=Nat.pow_le_pow_right (by decide) h2;exact Nat.lt_of_lt_of_le h1 h3
 obtain⟨r,hr⟩:=nM (gS N s0 []);obtain⟨q,hq⟩:=nM (lO xs);rw[←hq];unfold lO at hq;rw[←hN,←u1,←hr]at hq;have B':=Ld hN;have B0:=Ld u1;have y':=Ld hr;have HQ:=Ld hq;clear hR hb hN u1 hr hq y9 hp z3 C
 go_enter func78,ntmps78
 go_upto_region 2 with fail
 obtain⟨w1,p6⟩:=nM (w.alloc (.cells #[.slice A n c,.int .i64 0] 194):World);obtain⟨b4,s6⟩:=nM (w.heap.size);have r0:Hid (aa w w1):=Ld (by rw[p6];exact aa.al (aa.refl _) _);have q0:Hid (ab w1 b4 194 #[.slice A n c,.int .i64 0]):=Ld (by rw[p6,s6];exact ab.new _ _ _);have HZ:Hid (w.heap.size≤b4):=Ld (by omega);rw[←p6,←s6];clear p6 s6;have c0:w1.cell? ⟨b4,0,none⟩=some (.slice A n c):=q0.out.cell 0;have c1:w1.cell? ⟨b4,1,none⟩=some (.int .i64 0):=q0.out.cell 1;have r4:=Ld (Al (v8.out.new r0.out) 2 (by omega) (fun k f=>Nat.lt_of_lt_of_le (HP.out k f) r0.out.size));unfold rV at r4
 go_wp2_with fail
 refine r4.out.mono ?_;rintro e w2 ⟨⟨A2,n2,c2,rfl,u0⟩,s5⟩;rw[←B'.out];rw[←B0.out]at u0⊢;unfold rV;obtain⟨e2,s7⟩:=nM (s0.e);rw[←s7];have z8:=Ld s7;have g9:=Ld u0;have z9:=Ld s5;have m4:=Ld (s5.blk q0.out);clear u0 s5 s7 c0 c1 r4;have c0:w2.cell? ⟨b4,0,none⟩=some (.slice A n c):=m4.out.cell 0;have c1:w2.cell? ⟨b4,1,none⟩=some (.int .i64 0):=m4.out.cell 1;have f0:w2.frozen? ⟨b4,0,none⟩=false:=m4.out.frozen 0;have f1:w2.frozen? ⟨b4,1,none⟩=false:=m4.out.frozen 1
 go_upto_region 3 with fail
 obtain⟨w3,p7⟩:=nM ((w2.setCell ⟨b4,0,none⟩ (.slice A2 n2 c2)).setCell ⟨b4,1,none⟩ (.int .i64 e2):World);have s4:Fr (fun k=>k=b4) w2 w3:=by rw[p7];exact((Fr.refl (fun k=>k=b4) w2).setCell (p:=⟨b4,0,none⟩) (fun _=>rfl) _).setCell (p:=⟨b4,1,none⟩) (fun _=>rfl) _
 have t':∀k,p k→¬k=b4:=fun k f e=>by have:=HP.out k f;have:=HZ.out;omega
 have v2:=Ld t';have HI:Hid (EY p w b4 s0 0 none 0 [] w3):=Ld ⟨(r0.out.tr z9.out).fr s4 (fun k f=>by have:=HZ.out;omega),HZ.out,⟨A2,n2,c2,by rw[p7,←z8.out];exact bF m4.out _ _,⟨g9.out.rd.fr s4 t',g9.out.byt,g9.out.nc,g9.out.cm⟩⟩,World.ownsRow_nil _ _ _ _,(fun c C=>nomatch C),fun c C=>nomatch C⟩;have v5:Hid (r=gS (N-0) s0 (([]:List Ch).map cZ)):=Ld y'.out;rw[←p7];clear p7 s4 t' c0 c1 f0 f1 m4 g9 v8
 go_wp2_with fail
 go_loopw [6,7] (fun o i wr=>∃(j m:Nat) (s:Rs) (A':Option Addr) (c':Nat) (L:List Ch),j≤N∧m≤j∧i=.int .i64 j∧o=.slice A' m c'∧Hid (EY p w b4 s m A' c' L wr)∧Hid (r=gS (N-j) s (L.map cZ))) (fun o i _=>N-(intOf i).toNat)
 case atStart=>exact⟨0,0,s0,none,0,[],Nat.zero_le _,Nat.le_refl _,rfl,rfl,HI,v5⟩
 case round=>
  obtain⟨j,m,s,A',c',L,hj,hm,rfl,rfl,O,p3⟩:=hrel;clear HI v5;obtain⟨Ar,nr,cr,y4,z'⟩:=O.out.rd;have i5:=Ld y4;have y1:=Ld z';clear y4 z';have c1:wr.cell? ⟨b4,1,none⟩=some (.int .i64 s.e):=i5.out.cell 1;have c0:wr.cell? ⟨b4,0,none⟩=some (.slice Ar nr cr):=i5.out.cell 0
  by_cases m8:j<N∧s.e=0
  ·obtain⟨p',he⟩:=m8;have z0:decide ((j:Int)<(N:Int))=true:=decide_eq_true (by omega);have o9:decide (j<N)=true:=decide_eq_true p';rw[he]at c1 i5;obtain⟨i0,y8⟩:∃i0,N-j=i0+1:=⟨N-j-1,by omega⟩
   obtain rfl:i0=N-(j+1):=by omega
   have v':=Ld y8;have u6:=Ld he;have C0:(0:Int)≤(j:Int):=by omega
   have m5:=Ld (zg y1.out (fun k f=>Nat.lt_of_lt_of_le (HP.out k f) O.out.new.size));unfold rV at m5;rw[he]at m5;obtain⟨s1,z6⟩:=nM (s.flag.2);obtain⟨key_l19,m0⟩:=nM ((s1.bytes 16).1);obtain⟨s2,z7⟩:=nM ((s1.bytes 16).2);obtain⟨M,s9⟩:=nM (key_l19.length);have n0:Hid (M≤16):=Ld (by rw[s9,m0];exact jF s1 16);have p5:=Ld z6;have b':=Ld m0;have m7:=Ld z7;have p1:=Ld s9;clear y8 he z6 m0 z7 s9
   cases hb:s.flag.1
   ·as_aux_lemma=>
    have k5:Hid (bZ s=(⟨key_l19,[],true⟩,s2)):=Ld (by unfold bZ;rw[hb,if_neg (by decide),←p5.out,←m7.out,←b'.out]);have q5:=Ld hb
    go_wp2_with fail
    refine m5.out.mono ?_;rintro e w4 ⟨⟨A4,n4,c4,rfl,m2⟩,i3⟩;rw[q5.out];rw[←p5.out]at m2⊢;unfold rV;obtain⟨e4,l5⟩:=nM (s1.e);rw[←l5];have q3:=Ld l5;have r3:=Ld m2;have D:=Ld i3;clear m2 i3 l5 m5 c0 c1 hb
    go_upto_region 8 with fail
    obtain⟨w5,i4⟩:=nM (w4.alloc (.cells #[.slice A4 n4 c4,.int .i64 e4] 194):World);obtain⟨b,j1⟩:=nM (w4.heap.size);have r1:Hid (aa wr w5):=Ld (by rw[i4];exact aa.al D.out _);have k4:Hid (ml p w5 A4 n4 c4 s1):=Ld (by rw[i4];exact r3.out.new (aa.al (aa.refl _) _));have z:Hid (ab w5 b 194 #[.slice A4 n4 c4,.int .i64 e4]):=Ld (by rw[i4,j1];exact ab.new _ _ _);have i':Hid (wr.heap.size≤b):=Ld (by rw[j1];exact D.out.size);rw[←i4,←j1];clear i4 j1;have l:w5.cell? ⟨b,0,none⟩=some (.slice A4 n4 c4):=z.out.cell 0;have t:w5.cell? ⟨b,1,none⟩=some (.int .i64 e4):=z.out.cell 1;have u:w5.frozen? ⟨b,0,none⟩=false:=z.out.frozen 0;have y:w5.frozen? ⟨b,1,none⟩=false:=z.out.frozen 1;have V:=my k4.out 16 (by omega);unfold rV at V;rw[←q3.out]at V;have j7:=Ld V;clear V
    go_wp2_with fail
    refine j7.out.mono ?_;rintro e w6 ⟨⟨E,T,A7,n7,c7,rfl,l9,m',m3⟩,l1⟩;rw[←b'.out,←p1.out]at l9;rw[←m7.out]at m3;rw[←b'.out,←p1.out,←m7.out];unfold rV;obtain⟨e7,l7⟩:=nM (s2.e);rw[←l7];have q4:=Ld l7;have g8:=Ld m3;have g4:=Ld l9;have q7:Hid (aU key_l19):=Ld (by rw[b'.out];exact gv k4.out.byt 16);have n5:Hid (aa wr w6):=Ld (r1.out.tr l1);have B:=Ld (l1.blk z.out);clear l t u y;clear m3 l9 m' l1 l7 j7 z k4;have l:w6.cell? ⟨b,0,none⟩=some (.slice A4 n4 c4):=B.out.cell 0;have t:w6.cell? ⟨b,1,none⟩=some (.int .i64 e4):=B.out.cell 1;have u:w6.frozen? ⟨b,0,none⟩=false:=B.out.frozen 0;have y:w6.frozen? ⟨b,1,none⟩=false:=B.out.frozen 1
    go_upto_region 9 with fail
    obtain⟨w7,j3⟩:=nM ((w6.setCell ⟨b,0,none⟩ (.slice A7 n7 c7)).setCell ⟨b,1,none⟩ (.int .i64 e7):World);have i1:Fr (fun k=>k=b) w6 w7:=by rw[j3];exact((Fr.refl (fun k=>k=b) w6).setCell (p:=⟨b,0,none⟩) (fun _=>rfl) _).setCell (p:=⟨b,1,none⟩) (fun _=>rfl) _
    have b1:Hid (ab w7 b 194 #[(.slice A7 n7 c7),(.int .i64 e7)]):=Ld (by rw[j3];exact bF B.out _ _);have R:=Ld i1;rw[←j3];clear j3 i1;clear l t u y;have k':Hid (aa wr w7):=Ld (n5.out.fr R.out (fun k f=>by have:=i'.out;omega));have m1:∀k,p k→k<wr.heap.size:=fun k f=>Nat.lt_of_lt_of_le (HP.out k f) O.out.new.size
    have c8:=Ld m1;have n9:Hid (ml p w7 A7 n7 c7 s2):=Ld ⟨g8.out.rd.fr R.out (fun k f e=>by have:=c8.out k f;have:=i'.out;omega),g8.out.byt,g8.out.nc,g8.out.cm⟩;have g5:Hid (Rd p w7 1 E M (am key_l19)):=Ld (g4.out.fr R.out (fun k f e=>by have:=c8.out k f;have:=i'.out;omega));clear m1 g8 g4 B n5 R
    go_upto_region 10 with fail
    obtain⟨Z,j4⟩:=nM (w7.alloc (.cells #[.slice E M T,.slice none 0 0,.bool true] 153):World);obtain⟨d,U⟩:=nM (w7.heap.size);have H:Hid (aa w7 Z):=Ld (by rw[j4];exact aa.al (aa.refl _) _);have b0:Hid (ab Z d 153 #[.slice E M T,.slice none 0 0,.bool true]):=Ld (by rw[j4,U];exact ab.new _ _ _);have S:Hid (wr.heap.size≤d∧b<d):=Ld (by rw[U];exact⟨k'.out.size,b1.out.lt⟩);rw[←j4,←U];clear j4 U;have k3:Hid (aa wr Z):=Ld (k'.out.tr H.out);have j8:=Ld (n9.out.new H.out);have i7:=Ld (H.out.rd g5.out);have G:=Ld (H.out.blk b1.out);clear n9 g5 b1 k' H;have l:Z.cell? ⟨b,0,none⟩=some (.slice A7 n7 c7):=G.out.cell 0;have t:Z.cell? ⟨b,1,none⟩=some (.int .i64 e7):=G.out.cell 1;have u:Z.frozen? ⟨b,0,none⟩=false:=G.out.frozen 0;have y:Z.frozen? ⟨b,1,none⟩=false:=G.out.frozen 1;have F:Hid (ab Z b4 194 #[.slice Ar nr cr,.int .i64 0]):=Ld (k3.out.blk i5.out);have k7:Z.cell? ⟨b4,0,none⟩=some (.slice Ar nr cr):=F.out.cell 0;have k8:Z.cell? ⟨b4,1,none⟩=some (.int .i64 0):=F.out.cell 1;have k9:Z.frozen? ⟨b4,0,none⟩=false:=F.out.frozen 0;have l':Z.frozen? ⟨b4,1,none⟩=false:=F.out.frozen 1;have k0:Z.cell? ⟨d,0,none⟩=some (.slice E M T):=b0.out.cell 0;have k1:Z.cell? ⟨d,1,none⟩=some (.slice none 0 0):=b0.out.cell 1;have k2:Z.cell? ⟨d,2,none⟩=some (.bool true):=b0.out.cell 2
    go_upto_region 15 with fail
    obtain⟨wE,j5⟩:=nM ((Z.setCell ⟨b4,0,none⟩ (.slice A7 n7 c7)).setCell ⟨b4,1,none⟩ (.int .i64 e7):World);have i2:Fr (fun k=>k=b4) Z wE:=by rw[j5];exact((Fr.refl (fun k=>k=b4) Z).setCell (p:=⟨b4,0,none⟩) (fun _=>rfl) _).setCell (p:=⟨b4,1,none⟩) (fun _=>rfl) _
    have g3:Hid (ab wE b4 194 #[(.slice A7 n7 c7),(.int .i64 e7)]):=Ld (by rw[j5];exact bF F.out _ _);have g:=Ld i2;rw[←j5];clear j5 i2;clear l t u y;clear k7 k8 k9 l';clear k0 k1 k2;have l3:b4<wr.heap.size:=i5.out.lt;have P:Hid (ab wE d 153 #[.slice E M T,.slice none 0 0,.bool true]):=Ld (b0.out.fr g.out (by have:=S.out;omega));have d':∀k,p k→¬k=b4:=v2.out;have j0:Hid (ml p wE A7 n7 c7 s2):=Ld ⟨j8.out.rd.fr g.out d',j8.out.byt,j8.out.nc,j8.out.cm⟩;have q8:Hid (Rd p wE 1 E M (am key_l19)):=Ld (i7.out.fr g.out d');have q1:Hid ((⟨⟨E,M,T,key_l19⟩,⟨none,0,0,[]⟩,true⟩:Ch).In p wE):=Ld ⟨⟨q8.out,q7.out⟩,⟨ji _,fun x hx=>nomatch hx⟩⟩;have n8:Hid (aa w wE):=Ld ((O.out.new.tr k3.out).fr g.out (fun k f=>by have:=O.out.bz;omega))
    have p0:∀k,(Value.slice A' m c').ownBlock=some k→¬k=b4:=fun k f e=>by
     subst e;exact bG O.out.own i5.out (by decide) f
    have j':Hid (wE.ownsRow w.heap.size 153 3 (.slice A' m c') m (L.flatMap Ch.cells)):=Ld (bD (k3.out.own O.out.own) g.out p0)
    have r':Hid (∀c∈L,c.In p wE):=Ld (fun c C=>by
     have:=(O.out.el c C).new k3.out
     exact⟨⟨this.k.rd.fr g.out d',this.k.byt⟩,⟨this.v.rd.fr g.out d',this.v.byt⟩⟩)
    clear d' p0;have k0:wE.cell? ⟨d,0,none⟩=some (.slice E M T):=P.out.cell 0;have k1:wE.cell? ⟨d,1,none⟩=some (.slice none 0 0):=P.out.cell 1;have k2:wE.cell? ⟨d,2,none⟩=some (.bool true):=P.out.cell 2
    go_wp2_with (first
     |((with_reducible refine dH ⟨some 58,.buildSlice _ _ _,_,_,_,_⟩ ?_);refine cn Fb (by decide) rfl (.tmp 57) rfl #[.slice E M T,.slice none 0 0,.bool true] rfl rfl ?_)
     |(at_builtin;refine dH ⟨some 59,_,_,_,_,_⟩ ?_;refine dC ?_))
    refine⟨?_⟩;refine aq (o:=⟨some 59,_,_,_,_,_⟩) Fb _ rfl (.tmp 56) (.tmp 58) rfl w.heap.size (.slice A' m c') m (L.flatMap Ch.cells) rfl (aa.own (aa.al (aa.refl _) _) j'.out) _ 1 1 [.slice E M T,.slice none 0 0,.bool true] rfl (Rd.ofBlk (p:=fun _=>True) (ab.new _ 153 #[.slice E M T,.slice none 0 0,.bool true]) 3 1 rfl trivial) (ch ⟨⟨E,M,T,key_l19⟩,⟨none,0,0,[]⟩,true⟩) (by unfold maxLen;omega) (by omega) (by have:=n8.out.size;simp;omega) ?_;intro AF dF wF o8 o5 s';have I:=((aa.al (aa.refl wE) (.cells #[.slice E M T,.slice none 0 0,.bool true] 153)).toFr (fun k=>(Value.slice A' m c').ownBlock=some k)).trans o5;have Y:∀k,p k→¬(Value.slice A' m c').ownBlock=some k:=fun k f e=>by have:=(ak j'.out k e).1;have:=HP.out k f;omega
    have q6 : Hid (EY p w b4 s2 (m + 1) AF dF (L ++ [⟨⟨E, M, T, key_l19⟩, ⟨none, 0, 0, []⟩, true⟩]) wF) := Ld ⟨n8.out.fr I (fun k f => (ak j'.out k f).1), O.out.bz, ⟨A7, n7, c7, by rw [← q4.out]; exact g3.out.fr I (fun f => bG j'.out g3.out (by decide) f), ⟨j0.out.rd.fr I Y, j0.out.byt, j0.out.nc, j0.out.cm⟩⟩, by rw [List.flatMap_append]; simpa [Ch.cells] using o8, fun c C => by
        rcases List.mem_append.1 C with C|C
        ·have:=r'.out c C;exact⟨⟨this.k.rd.fr I Y,this.k.byt⟩,⟨this.v.rd.fr I Y,this.v.byt⟩⟩
        ·rw[List.mem_singleton.1 C];have:=q1.out;exact⟨⟨this.k.rd.fr I Y,this.k.byt⟩,⟨this.v.rd.fr I Y,this.v.byt⟩⟩,fun c C=>by
        rcases List.mem_append.1 C with C|C
        ·exact O.out.sz c C
        ·rw[List.mem_singleton.1 C]
         exact⟨n0.out,Nat.zero_le _⟩⟩
    have r2:Hid (r=gS (N-(j+1)) s2 ((L++[(⟨⟨E,M,T,key_l19⟩,⟨none,0,0,[]⟩,true⟩:Ch)]).map cZ)):=Ld (by
     have h1:=p3.out;rw[v'.out]at h1;unfold gS at h1;rw[if_pos u6.out,k5.out]at h1;rw[h1,List.map_append]
     rfl)
    clear o8 o5 s' I Y k0 k1 k2 l3
    go_wp2_with fail
    go_roundw
    case rel=>exact⟨j+1,m+1,_,AF,dF,_,by omega,by omega,by go_num,rfl,q6,r2⟩
    case measure=>simp[intOf];omega
   ·as_aux_lemma=>
    obtain⟨val,j2⟩:=nM ((s2.bytes 16384).1);obtain⟨s3,u2⟩:=nM ((s2.bytes 16384).2);obtain⟨vn,u5⟩:=nM (val.length);have k5:Hid (bZ s=(⟨key_l19,val,false⟩,s3)):=Ld (by unfold bZ;rw[hb,if_pos rfl,←p5.out,←m7.out,←b'.out,←j2,←u2]);have k6:=Ld j2;have y2:=Ld u2;have y3:=Ld u5;have r5:Hid (vn≤16384):=Ld (by rw[u5,j2];exact jF s2 16384);clear j2 u2 u5;have q5:=Ld hb
    go_wp2_with fail
    refine m5.out.mono ?_;rintro e w4 ⟨⟨A4,n4,c4,rfl,m2⟩,i3⟩;rw[q5.out];rw[←p5.out]at m2⊢;unfold rV;obtain⟨e4,l5⟩:=nM (s1.e);rw[←l5];have q3:=Ld l5;have r3:=Ld m2;have D:=Ld i3;clear m2 i3 l5 m5 c0 c1 hb
    go_upto_region 8 with fail
    obtain⟨w5,i4⟩:=nM (w4.alloc (.cells #[.slice A4 n4 c4,.int .i64 e4] 194):World);obtain⟨b,j1⟩:=nM (w4.heap.size);have r1:Hid (aa wr w5):=Ld (by rw[i4];exact aa.al D.out _);have k4:Hid (ml p w5 A4 n4 c4 s1):=Ld (by rw[i4];exact r3.out.new (aa.al (aa.refl _) _));have z:Hid (ab w5 b 194 #[.slice A4 n4 c4,.int .i64 e4]):=Ld (by rw[i4,j1];exact ab.new _ _ _);have i':Hid (wr.heap.size≤b):=Ld (by rw[j1];exact D.out.size);rw[←i4,←j1];clear i4 j1;have l:w5.cell? ⟨b,0,none⟩=some (.slice A4 n4 c4):=z.out.cell 0;have t:w5.cell? ⟨b,1,none⟩=some (.int .i64 e4):=z.out.cell 1;have u:w5.frozen? ⟨b,0,none⟩=false:=z.out.frozen 0;have y:w5.frozen? ⟨b,1,none⟩=false:=z.out.frozen 1;have V:=my k4.out 16 (by omega);unfold rV at V;rw[←q3.out]at V;have j7:=Ld V;clear V
    go_wp2_with fail
    refine j7.out.mono ?_;rintro e w6 ⟨⟨E,T,A7,n7,c7,rfl,l9,m',m3⟩,l1⟩;rw[←b'.out,←p1.out]at l9;rw[←m7.out]at m3;rw[←b'.out,←p1.out,←m7.out];unfold rV;obtain⟨e7,l7⟩:=nM (s2.e);rw[←l7];have q4:=Ld l7;have g8:=Ld m3;have g4:=Ld l9;have q7:Hid (aU key_l19):=Ld (by rw[b'.out];exact gv k4.out.byt 16);have n5:Hid (aa wr w6):=Ld (r1.out.tr l1);have B:=Ld (l1.blk z.out);clear l t u y;clear m3 l9 m' l1 l7 j7 z k4;have l:w6.cell? ⟨b,0,none⟩=some (.slice A4 n4 c4):=B.out.cell 0;have t:w6.cell? ⟨b,1,none⟩=some (.int .i64 e4):=B.out.cell 1;have u:w6.frozen? ⟨b,0,none⟩=false:=B.out.frozen 0;have y:w6.frozen? ⟨b,1,none⟩=false:=B.out.frozen 1
    go_upto_region 9 with fail
    obtain⟨w7,j3⟩:=nM ((w6.setCell ⟨b,0,none⟩ (.slice A7 n7 c7)).setCell ⟨b,1,none⟩ (.int .i64 e7):World);have i1:Fr (fun k=>k=b) w6 w7:=by rw[j3];exact((Fr.refl (fun k=>k=b) w6).setCell (p:=⟨b,0,none⟩) (fun _=>rfl) _).setCell (p:=⟨b,1,none⟩) (fun _=>rfl) _
    have b1:Hid (ab w7 b 194 #[(.slice A7 n7 c7),(.int .i64 e7)]):=Ld (by rw[j3];exact bF B.out _ _);have R:=Ld i1;rw[←j3];clear j3 i1;clear l t u y;have k':Hid (aa wr w7):=Ld (n5.out.fr R.out (fun k f=>by have:=i'.out;omega));have m1:∀k,p k→k<wr.heap.size:=fun k f=>Nat.lt_of_lt_of_le (HP.out k f) O.out.new.size
    have c8:=Ld m1;have n9:Hid (ml p w7 A7 n7 c7 s2):=Ld ⟨g8.out.rd.fr R.out (fun k f e=>by have:=c8.out k f;have:=i'.out;omega),g8.out.byt,g8.out.nc,g8.out.cm⟩;have g5:Hid (Rd p w7 1 E M (am key_l19)):=Ld (g4.out.fr R.out (fun k f e=>by have:=c8.out k f;have:=i'.out;omega));clear m1 g8 g4 B n5 R
    go_upto_region 10 with fail
    obtain⟨Z,j4⟩:=nM (w7.alloc (.cells #[.slice E M T,.slice none 0 0,.bool false] 153):World);obtain⟨d,U⟩:=nM (w7.heap.size);have H:Hid (aa w7 Z):=Ld (by rw[j4];exact aa.al (aa.refl _) _);have b0:Hid (ab Z d 153 #[.slice E M T,.slice none 0 0,.bool false]):=Ld (by rw[j4,U];exact ab.new _ _ _);have S:Hid (wr.heap.size≤d∧b<d):=Ld (by rw[U];exact⟨k'.out.size,b1.out.lt⟩);rw[←j4,←U];clear j4 U;have k3:Hid (aa wr Z):=Ld (k'.out.tr H.out);have j8:=Ld (n9.out.new H.out);have i7:=Ld (H.out.rd g5.out);have G:=Ld (H.out.blk b1.out);clear n9 g5 b1 k' H;have l:Z.cell? ⟨b,0,none⟩=some (.slice A7 n7 c7):=G.out.cell 0;have t:Z.cell? ⟨b,1,none⟩=some (.int .i64 e7):=G.out.cell 1;have u:Z.frozen? ⟨b,0,none⟩=false:=G.out.frozen 0;have y:Z.frozen? ⟨b,1,none⟩=false:=G.out.frozen 1;have V:=my j8.out 16384 (by omega);unfold rV at V;rw[←q4.out]at V;have j7:=Ld V;clear V
    go_wp2_with fail
    refine j7.out.mono ?_;rintro e w9 ⟨⟨Av,cv,c5,f',c9,rfl,u3,u4,u'⟩,y7⟩;rw[←k6.out,←y3.out]at u3;rw[←y2.out]at u';rw[←k6.out,←y3.out,←y2.out];unfold rV;obtain⟨j9,l4⟩:=nM (s3.e);rw[←l4];have q2:=Ld l4;have v7:=Ld u';have o2:=Ld u3;have B1:Hid (aU val):=Ld (by rw[k6.out];exact gv j8.out.byt 16384);have n6:=Ld y7;clear l t u y;clear u' u3 u4 y7 l4 j7
    go_upto_region 12 with fail
    obtain⟨wA,p8⟩:=nM (w9.alloc (.cells #[.slice c5 f' c9,.int .i64 j9] 194):World);obtain⟨r7,l2⟩:=nM (w9.heap.size);have i9:Hid (aa w9 wA):=Ld (by rw[p8];exact aa.al (aa.refl _) _);have m9:Hid (ab wA r7 194 #[.slice c5 f' c9,.int .i64 j9]):=Ld (by rw[p8,l2];exact ab.new _ _ _);rw[←p8,←l2];clear p8 l2;have g6:Hid (aa Z wA):=Ld (n6.out.tr i9.out);have u7:Hid (aa wr wA):=Ld (k3.out.tr g6.out);have b8:=Ld (g6.out.blk G.out);have j6:=Ld (g6.out.blk b0.out);have o0:=Ld (v7.out.new i9.out);have o3:=Ld (i9.out.rd o2.out);have n1:=Ld (g6.out.rd i7.out);clear G b0 v7 o2 i7 i9 n6 g6 j8;have l:wA.cell? ⟨b,0,none⟩=some (.slice A7 n7 c7):=b8.out.cell 0;have t:wA.cell? ⟨b,1,none⟩=some (.int .i64 e7):=b8.out.cell 1;have u:wA.frozen? ⟨b,0,none⟩=false:=b8.out.frozen 0;have y:wA.frozen? ⟨b,1,none⟩=false:=b8.out.frozen 1;have r8:wA.cell? ⟨r7,0,none⟩=some (.slice c5 f' c9):=m9.out.cell 0;have r9:wA.cell? ⟨r7,1,none⟩=some (.int .i64 j9):=m9.out.cell 1
    go_upto_region 13 with fail
    obtain⟨wB,p9⟩:=nM ((wA.setCell ⟨b,0,none⟩ (.slice c5 f' c9)).setCell ⟨b,1,none⟩ (.int .i64 j9):World);have o6:Fr (fun k=>k=b) wA wB:=by rw[p9];exact((Fr.refl (fun k=>k=b) wA).setCell (p:=⟨b,0,none⟩) (fun _=>rfl) _).setCell (p:=⟨b,1,none⟩) (fun _=>rfl) _
    have n':Hid (ab wB b 194 #[(.slice c5 f' c9),(.int .i64 j9)]):=Ld (by rw[p9];exact bF b8.out _ _);have c3:=Ld o6;rw[←p9];clear p9 o6;clear l t u y;clear r8 r9;have m1:∀k,p k→k<wr.heap.size:=c8.out;have u9:Hid (aa wr wB):=Ld (u7.out.fr c3.out (fun k f=>by have:=i'.out;omega));have b3:Hid (ab wB d 153 #[.slice E M T,.slice none 0 0,.bool false]):=Ld (j6.out.fr c3.out (by have:=S.out;omega));have o1:Hid (ml p wB c5 f' c9 s3):=Ld ⟨o0.out.rd.fr c3.out (fun k f e=>by have:=c8.out k f;have:=i'.out;omega),o0.out.byt,o0.out.nc,o0.out.cm⟩;have o4:Hid (Rd p wB 1 Av vn (am val)):=Ld (o3.out.fr c3.out (fun k f e=>by have:=c8.out k f;have:=i'.out;omega));have n3:Hid (Rd p wB 1 E M (am key_l19)):=Ld (n1.out.fr c3.out (fun k f e=>by have:=c8.out k f;have:=i'.out;omega));clear o0 o3 n1 j6 b8 u7 m1 c3;have k1:wB.cell? ⟨d,1,none⟩=some (.slice none 0 0):=b3.out.cell 1;have B8:wB.frozen? ⟨d,1,none⟩=false:=b3.out.frozen 1
    go_upto_region 14 with fail
    obtain⟨wC,q'⟩:=nM (wB.setCell ⟨d,1,none⟩ (.slice Av vn cv):World);have y5:Fr (fun k=>k=d) wB wC:=by rw[q'];exact(Fr.refl (fun k=>k=d) wB).setCell (p:=⟨d,1,none⟩) (fun _=>rfl) _
    have b7:Hid (ab wC d 153 #[.slice E M T,.slice Av vn cv,.bool false]):=Ld (by
     have:=b3.out.set 1 (.slice Av vn cv);rw[q']
     simpa using this)
    have m6:=Ld y5;rw[←q'];clear q' y5 k1 B8;have p2:Hid (aa wr wC):=Ld (u9.out.fr m6.out (fun k f=>by have:=S.out;omega));have i6:=Ld (n'.out.fr m6.out (by have:=S.out;omega));have p4:Hid (ml p wC c5 f' c9 s3):=Ld ⟨o1.out.rd.fr m6.out (fun k f e=>by have:=c8.out k f;have:=S.out;omega),o1.out.byt,o1.out.nc,o1.out.cm⟩;have r6:Hid (Rd p wC 1 Av vn (am val)):=Ld (o4.out.fr m6.out (fun k f e=>by have:=c8.out k f;have:=S.out;omega));have q9:Hid (Rd p wC 1 E M (am key_l19)):=Ld (n3.out.fr m6.out (fun k f e=>by have:=c8.out k f;have:=S.out;omega));clear o1 o4 n3 b3 n' u9 m6 k3;have l:wC.cell? ⟨b,0,none⟩=some (.slice c5 f' c9):=i6.out.cell 0;have t:wC.cell? ⟨b,1,none⟩=some (.int .i64 j9):=i6.out.cell 1;have u:wC.frozen? ⟨b,0,none⟩=false:=i6.out.frozen 0;have y:wC.frozen? ⟨b,1,none⟩=false:=i6.out.frozen 1;have F:Hid (ab wC b4 194 #[.slice Ar nr cr,.int .i64 0]):=Ld (p2.out.blk i5.out);have k7:wC.cell? ⟨b4,0,none⟩=some (.slice Ar nr cr):=F.out.cell 0;have k8:wC.cell? ⟨b4,1,none⟩=some (.int .i64 0):=F.out.cell 1;have k9:wC.frozen? ⟨b4,0,none⟩=false:=F.out.frozen 0;have l':wC.frozen? ⟨b4,1,none⟩=false:=F.out.frozen 1;have k0:wC.cell? ⟨d,0,none⟩=some (.slice E M T):=b7.out.cell 0;have k1:wC.cell? ⟨d,1,none⟩=some (.slice Av vn cv):=b7.out.cell 1;have k2:wC.cell? ⟨d,2,none⟩=some (.bool false):=b7.out.cell 2
    go_upto_region 15 with fail
    obtain⟨wE,j5⟩:=nM ((wC.setCell ⟨b4,0,none⟩ (.slice c5 f' c9)).setCell ⟨b4,1,none⟩ (.int .i64 j9):World);have i2:Fr (fun k=>k=b4) wC wE:=by rw[j5];exact((Fr.refl (fun k=>k=b4) wC).setCell (p:=⟨b4,0,none⟩) (fun _=>rfl) _).setCell (p:=⟨b4,1,none⟩) (fun _=>rfl) _
    have g3:Hid (ab wE b4 194 #[(.slice c5 f' c9),(.int .i64 j9)]):=Ld (by rw[j5];exact bF F.out _ _);have g:=Ld i2;rw[←j5];clear j5 i2;clear l t u y;clear k7 k8 k9 l';clear k0 k1 k2;have l3:b4<wr.heap.size:=i5.out.lt;have P:Hid (ab wE d 153 #[.slice E M T,.slice Av vn cv,.bool false]):=Ld (b7.out.fr g.out (by have:=S.out;omega));have d':∀k,p k→¬k=b4:=v2.out;have j0:Hid (ml p wE c5 f' c9 s3):=Ld ⟨p4.out.rd.fr g.out d',p4.out.byt,p4.out.nc,p4.out.cm⟩;have q8:Hid (Rd p wE 1 E M (am key_l19)):=Ld (q9.out.fr g.out d');have q1:Hid ((⟨⟨E,M,T,key_l19⟩,⟨Av,vn,cv,val⟩,false⟩:Ch).In p wE):=Ld ⟨⟨q8.out,q7.out⟩,⟨r6.out.fr g.out d',B1.out⟩⟩;have n8:Hid (aa w wE):=Ld ((O.out.new.tr p2.out).fr g.out (fun k f=>by have:=O.out.bz;omega))
    have p0:∀k,(Value.slice A' m c').ownBlock=some k→¬k=b4:=fun k f e=>by
     subst e;exact bG O.out.own i5.out (by decide) f
    have j':Hid (wE.ownsRow w.heap.size 153 3 (.slice A' m c') m (L.flatMap Ch.cells)):=Ld (bD (p2.out.own O.out.own) g.out p0)
    have r':Hid (∀c∈L,c.In p wE):=Ld (fun c C=>by
     have:=(O.out.el c C).new p2.out
     exact⟨⟨this.k.rd.fr g.out d',this.k.byt⟩,⟨this.v.rd.fr g.out d',this.v.byt⟩⟩)
    clear d' p0;have k0:wE.cell? ⟨d,0,none⟩=some (.slice E M T):=P.out.cell 0;have k1:wE.cell? ⟨d,1,none⟩=some (.slice Av vn cv):=P.out.cell 1;have k2:wE.cell? ⟨d,2,none⟩=some (.bool false):=P.out.cell 2
    go_wp2_with (first
     |((with_reducible refine dH ⟨some 58,.buildSlice _ _ _,_,_,_,_⟩ ?_);refine cn Fb (by decide) rfl (.tmp 57) rfl #[.slice E M T,.slice Av vn cv,.bool false] rfl rfl ?_)
     |(at_builtin;refine dH ⟨some 59,_,_,_,_,_⟩ ?_;refine dC ?_))
    refine⟨?_⟩;refine aq (o:=⟨some 59,_,_,_,_,_⟩) Fb _ rfl (.tmp 56) (.tmp 58) rfl w.heap.size (.slice A' m c') m (L.flatMap Ch.cells) rfl (aa.own (aa.al (aa.refl _) _) j'.out) _ 1 1 [.slice E M T,.slice Av vn cv,.bool false] rfl (Rd.ofBlk (p:=fun _=>True) (ab.new _ 153 #[.slice E M T,.slice Av vn cv,.bool false]) 3 1 rfl trivial) (ch ⟨⟨E,M,T,key_l19⟩,⟨Av,vn,cv,val⟩,false⟩) (by unfold maxLen;omega) (by omega) (by have:=n8.out.size;simp;omega) ?_;intro AF dF wF o8 o5 s';have I:=((aa.al (aa.refl wE) (.cells #[.slice E M T,.slice Av vn cv,.bool false] 153)).toFr (fun k=>(Value.slice A' m c').ownBlock=some k)).trans o5;have Y:∀k,p k→¬(Value.slice A' m c').ownBlock=some k:=fun k f e=>by have:=(ak j'.out k e).1;have:=HP.out k f;omega
    have q6 : Hid (EY p w b4 s3 (m + 1) AF dF (L ++ [⟨⟨E, M, T, key_l19⟩, ⟨Av, vn, cv, val⟩, false⟩]) wF) := Ld ⟨n8.out.fr I (fun k f => (ak j'.out k f).1), O.out.bz, ⟨c5, f', c9, by rw [← q2.out]; exact g3.out.fr I (fun f => bG j'.out g3.out (by decide) f), ⟨j0.out.rd.fr I Y, j0.out.byt, j0.out.nc, j0.out.cm⟩⟩, by rw [List.flatMap_append]; simpa [Ch.cells] using o8, fun c C => by
        rcases List.mem_append.1 C with C|C
        ·have:=r'.out c C;exact⟨⟨this.k.rd.fr I Y,this.k.byt⟩,⟨this.v.rd.fr I Y,this.v.byt⟩⟩
        ·rw[List.mem_singleton.1 C];have:=q1.out;exact⟨⟨this.k.rd.fr I Y,this.k.byt⟩,⟨this.v.rd.fr I Y,this.v.byt⟩⟩,fun c C=>by
        rcases List.mem_append.1 C with C|C
        ·exact O.out.sz c C
        ·rw[List.mem_singleton.1 C]
         exact⟨n0.out,r5.out⟩⟩
    have r2:Hid (r=gS (N-(j+1)) s3 ((L++[(⟨⟨E,M,T,key_l19⟩,⟨Av,vn,cv,val⟩,false⟩:Ch)]).map cZ)):=Ld (by
     have h1:=p3.out;rw[v'.out]at h1;unfold gS at h1;rw[if_pos u6.out,k5.out]at h1;rw[h1,List.map_append]
     rfl)
    clear o8 o5 s' I Y k0 k1 k2 l3
    go_wp2_with fail
    go_roundw
    case rel=>exact⟨j+1,m+1,_,AF,dF,_,by omega,by omega,by go_num,rfl,q6,r2⟩
    case measure=>simp[intOf];omega
  ·have l8:(L.map cZ,s)=r:=by
    rw[p3.out]
    by_cases B7:j=N
    ·subst B7;rw[Nat.sub_self];rfl
    ·exact(lP (fun h=>m8 ⟨by omega,h⟩) _ _).symm
   have z4:r.1=L.map cZ:=by rw[←l8]
   have z5:r.2=s:=by rw[←l8]
   have hq:=HQ.out;have y6:jB L:=fun c C=>⟨(O.out.el c C).k.len,(O.out.el c C).v.len⟩
   rw[z4,z5,gy y6]at hq;have X:=Ld hq;have HE:=Ld (fun W (hN:aa wr W)=>Bw (y1.out.new hN));unfold rV at HE;have o7:L.length=m:=by have:=O.out.own.1;rw[mt]at this;omega
   have B9:=Ld o7;have HC:=Ld (fun W (hN:aa wr W)=>uX A' m c' L W (Rd.own (hN.own O.out.own) rfl) o7 (by omega) (fun c C=>by have:=O.out.sz c C;unfold maxLen;omega));have y0:Hid (px wr A' m L):=Ld ⟨dw (Rd.own O.out.own rfl),o7,fun c C=>Ch.In.szs (O.out.el c C)⟩;have v9:Hid (Db p wr A' m L):=Ld ⟨(Rd.own O.out.own rfl).imp (fun k f=>cJ O.out.own f),o7,O.out.el⟩;obtain⟨es,z1⟩:=nM (s.e);obtain⟨fs,z2⟩:=nM (s.fin);rw[←z1]at c1 m8 HE i5;rw[←z2]at HE X;clear l8 z4 z5 hq o7 p3 y' HQ y6 z1 z2
   by_cases p':j<N
   ·have he:¬es=0:=fun h=>m8 ⟨p',h⟩
    have hz:((es:Int)==0)=false:=by simp;omega
    have C':decide ((es:Int)=0)=false:=decide_eq_false (by omega);have z0:decide ((j:Int)<(N:Int))=true:=decide_eq_true (by omega);have o9:decide (j<N)=true:=decide_eq_true p';clear m8
    go_wp2_with fail
    refine(HE.out wr (aa.refl _)).mono ?_;rintro e w4 ⟨rfl,i3⟩;have D:=Ld i3;clear i3 HE c0 c1
    by_cases hf:fs=0
    ·subst hf
     go_wp2_with fail
     refine(HC.out w4 D.out).mono ?_;rintro e w5 ⟨rfl,rfl⟩
     by_cases J:dg L=true
     ·rw[J];have g7:Hid (q=some (L.map cZ)):=Ld (by rw[X.out,if_pos ⟨by first|rfl|trivial,J⟩]);clear X J
      go_wp2_with fail
      go_ret2
      exact⟨.inr ⟨A',m,c',L,g7.out,rfl,y0.out.new D.out,v9.out.new D.out⟩,O.out.new.tr D.out⟩
     ·have J:dg L=false:=by simpa using J
      rw[J];have g7:Hid (q=none):=Ld (by rw[X.out,if_neg (fun h=>by rw[J]at h;cases h.2)]);clear X J
      go_wp2_with fail
      go_ret2
      exact⟨.inl ⟨g7.out,rfl⟩,O.out.new.tr D.out⟩
    ·have B6:((fs:Int)==0)=false:=by simp;omega
     have s8:((fs:Int) != 0)=true:=by simp;omega
     have B5:decide ((fs:Int)=0)=false:=decide_eq_false (by omega);have g7:Hid (q=none):=Ld (by rw[X.out,if_neg (fun h=>hf h.1)]);clear X
     go_wp2_with fail
     go_ret2
     exact⟨.inl ⟨g7.out,rfl⟩,O.out.new.tr D.out⟩
   ·have z0:decide ((j:Int)<(N:Int))=false:=decide_eq_false (by omega);have o9:decide (j<N)=false:=decide_eq_false p';clear m8
    go_wp2_with fail
    refine(HE.out wr (aa.refl _)).mono ?_;rintro e w4 ⟨rfl,i3⟩;have D:=Ld i3;clear i3 HE c0 c1
    by_cases hf:fs=0
    ·subst hf
     go_wp2_with fail
     refine(HC.out w4 D.out).mono ?_;rintro e w5 ⟨rfl,rfl⟩
     by_cases J:dg L=true
     ·rw[J];have g7:Hid (q=some (L.map cZ)):=Ld (by rw[X.out,if_pos ⟨by first|rfl|trivial,J⟩]);clear X J
      go_wp2_with fail
      go_ret2
      exact⟨.inr ⟨A',m,c',L,g7.out,rfl,y0.out.new D.out,v9.out.new D.out⟩,O.out.new.tr D.out⟩
     ·have J:dg L=false:=by simpa using J
      rw[J];have g7:Hid (q=none):=Ld (by rw[X.out,if_neg (fun h=>by rw[J]at h;cases h.2)]);clear X J
      go_wp2_with fail
      go_ret2
      exact⟨.inl ⟨g7.out,rfl⟩,O.out.new.tr D.out⟩
    ·have B6:((fs:Int)==0)=false:=by simp;omega
     have s8:((fs:Int) != 0)=true:=by simp;omega
     have B5:decide ((fs:Int)=0)=false:=decide_eq_false (by omega);have g7:Hid (q=none):=Ld (by rw[X.out,if_neg (fun h=>hf h.1)]);clear X
     go_wp2_with fail
     go_ret2
     exact⟨.inl ⟨g7.out,rfl⟩,O.out.new.tr D.out⟩
end Go.Proofs.YtfchcdbfalgdlaaGreatDoor
namespace Go.Proofs.YtfchcdbfalgdlaaGreatDoor
open _root_.Go.Proofs.Tryz
open Go.RowKit
theorem jq{P:Program}{b:Array Oper}{rest:List Oper}{o:Oper}{a:Act}{w:World}{Q:Exit→Act→World→Prop}(m:Region.wanted o (yielded b a.tmps)=true)(t:TypeId)(l:List (Nat×Operand))(j:o.op=.build t l.toArray)(d:List (Nat×Value))(k:(l.map fun(i,x)=>(i,a.eval x))=d)(cells:Array Value)(g:P.built t d=some cells)
    (h:wpList P b Q rest (a.put o.dst (.agg cells)) w):wpList P b Q (o::rest) a w:=
 cw m fun K f=>by
  have c:P.built t (l.toArray.map fun(i,x)=>(i,a.eval x)).toList=some cells:=by rw[List.map_toArray,k];exact g
  refine wp_build t l.toArray j (by rw[c];rfl) ?_;rw[c];exact f _ _ h
end Go.Proofs.YtfchcdbfalgdlaaGreatDoor
