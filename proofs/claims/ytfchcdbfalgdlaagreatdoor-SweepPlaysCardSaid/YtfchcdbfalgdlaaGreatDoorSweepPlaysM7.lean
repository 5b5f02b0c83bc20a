/- Texts of one proof. No condition but each one's own. -/
import Derived.Test.YtfchcdbfalgdlaaGreatDoorSweepPlaysM2
import Derived.Laws.BitsAllLaws
set_option maxHeartbeats 4000000
set_option maxRecDepth 100000
set_option linter.unusedVariables false
set_option linter.unusedSimpArgs false
namespace Go.Proofs.YtfchcdbfalgdlaaGreatDoor
open _root_.Go.Proofs.Tryz
open Go.RowKit Go.Maps
def qH(e:Nat):Value:=if e=0 then .nilIface else .iface 38 (.int .i64 e)
theorem eR:qH 0=.nilIface:=rfl
theorem gG{e:Nat}(h:e≠0):qH e=.iface 38 (.int .i64 e):=if_neg h
structure go(w:World)(g:Nat)(s:Rs):Prop where
 st:∃A c,ac w g 209 #[qH s.e,.slice A s.xs.length c]/\ei 5 w 1 A s.xs.length (an s.xs)/\s.xs.length<=c
 byt:ba s.xs
 len:s.xs.length<=140737488355328
section
variable {g:Nat}{w w':World}{s:Rs}
theorem go.lt(h:go w g s):g<w.heap.size:=by obtain⟨A,c,b,_⟩:=h.st;exact b.lt
theorem go.new(h:go w g s)(b:aa w w'):go w' g s:=by
 obtain⟨A,c,d,i,f⟩:=h.st;exact⟨⟨A,c,b.blk d,i.new b,f⟩,h.byt,h.len⟩
theorem go.fr{S:Nat->Prop}(h:go w g s)(hF:Fr S w w')(f:¬S g)(hS:∀k,S k->¬aK 5 w k):go w' g s:=by
 obtain⟨A,c,b,i,d⟩:=h.st;exact⟨⟨A,c,b.fr hF f,i.fr hF hS,d⟩,h.byt,h.len⟩
end
theorem Rd.take{p:Nat->Prop}{w:World}{A:Option Addr}{n:Nat}{xs:List Int}(h:Rd p w 1 A n (an xs)){k:Nat}(d:k<=n):Rd p w 1 A k (an (xs.take k)):=by
 have hl:xs.length=n:=by have:=h.1;rw[ak]at this;omega
 refine⟨by rw[ak,List.length_take];omega,λf=>?_⟩;obtain⟨b,e,h1,h2,c⟩:=h.2 (by omega);refine⟨b,e,h1,h2,λj u hu=>c j u ?_⟩;have:an (xs.take k)=(an xs).take k:=by simp[an]
 rw[this,List.getElem?_take]at hu;split at hu
 ·exact hu
 ·cases hu
theorem jg{p:Nat->Prop}(A:Option Addr)(n c:Nat)(xs:List Int)(w:World)(hO:Rd p w 1 A n (an xs))(m:ba xs)(o:n<=140737488355328):
    Calls prog 92 #[.slice A n c] w λe w'=>∃g,e=.returned (.pointer (some ⟨g,0,none⟩))/\go w' g ⟨xs,0⟩/\aa w w'/\w.heap.size<=g:=by
 have q:xs.length=n:=by have:=hO.1;rw[ak]at this;omega
 have u:=Ld (it A n c xs w hO o);have t:=Ld m;have k:=Ld q;clear hO m q
 go_enter func92,ntmps92
 go_wp2_with fail;refine u.out.mono ?_;rintro e r ⟨⟨l,d1,rfl,j⟩,f⟩;have d:=Ld j;have b:=Ld f;clear j f
 go_wp2_with fail;go_ret;have i:=aa.al (aa.refl r) (.cells #[.nilIface,.slice l n d1] 209);refine⟨r.heap.size,rfl,⟨⟨l,d1,?_,?_,?_⟩,t.out,by rw[k.out];exact o⟩,b.out.tr i,b.out.size⟩
 ·rw[k.out];exact ac.new _ _ _
 ·rw[k.out];exact(ei.own d.out rfl).new i
 ·rw[k.out];obtain⟨v,y,h1,h2,-⟩:=eT d.out;injection h1 with _ _ z;omega
theorem zq(g T:Nat)(v:Value)(e c:Nat)(w:World)(b:ac w g T #[qH e,v])(i:1<=c):
    Calls prog 146 #[.pointer (some ⟨g,0,none⟩),.iface 38 (.int .i64 c)] w λx w'=>x=.returned (.tuple #[])/\ac w' g T #[qH (if e=0 then c else e),v]/\Fr (λk=>k=g) w w':=by
 have f:w.cell? ⟨g,0,none⟩=some (qH e):=b.cell 0;have f0:=b.frozen 0;have d:=Ld b;clear b
 by_cases h0:e=0
 ·subst h0;rw[eR]at f
  go_enter func146,ntmps146
  go_wp2_with fail;go_end0
  refine⟨rfl,?_,(Fr.refl (λk=>k=g) w).setCell (p:=⟨g,0,none⟩) (λ_=>rfl) _⟩;have:=d.out.set 0 (.iface 38 (.int .i64 c));show ac _ g T #[qH c,v];rw[gG (e:=c) (by omega)]
  simpa using this
 ·rw[gG h0]at f;rw[if_neg h0];clear h0
  go_enter func146,ntmps146
  go_wp2_with fail;go_end0
  exact⟨rfl,d.out,Fr.refl _ _⟩
theorem gx{g:Nat}{s:Rs}{w:World}(h:go w g s)(c:Nat)(u:1<=c):
    Calls prog 100 #[.pointer (some ⟨g,0,none⟩),.iface 38 (.int .i64 c)] w λx w'=>x=.returned (.tuple #[])/\go w' g (s.bad c)/\Fr (λk=>k=g) w w':=by
 obtain⟨A,d,p,q,l⟩:=h.st;have r:=Ld (zq g 209 _ s.e c w p u);have H:=Ld h;have t:=Ld q;have f:=Ld l;clear h p q l
 go_enter func100,ntmps100
 go_wp2_with fail;refine r.out.mono ?_;rintro e y ⟨rfl,b,j⟩;have n:=Ld b;have i:=Ld j;clear b j
 go_wp2_with fail;go_end0
 have m:ei 5 y 1 A s.xs.length (an s.xs):=t.out.fr i.out (λk v=>by
  subst v;obtain⟨z,B,o,_⟩:=H.out.st
  exact aK.not_blk o (by decide))
 refine⟨rfl,?_,i.out⟩;have b:=n.out;unfold Rs.bad
 by_cases h0:s.e=0
 ·rw[if_pos h0]at b⊢;exact⟨⟨A,d,b,m,f.out⟩,H.out.byt,H.out.len⟩
 ·rw[if_neg h0]at b⊢;exact⟨⟨A,d,b,m,f.out⟩,H.out.byt,H.out.len⟩
theorem jp{g:Nat}{s:Rs}{w:World}(h:go w g s):
    Calls prog 145 #[.pointer (some ⟨g,0,none⟩)] w λx w'=>x=.returned (.int .i64 s.left)/\w=w':=by
 obtain⟨A,d,b,i,c⟩:=h.st;have f:w.cell? ⟨g,0,none⟩=some (qH s.e):=b.cell 0;have j:w.cell? ⟨g,1,none⟩=some (.slice A s.xs.length d):=b.cell 1;clear h b i c;unfold Rs.left
 by_cases h0:s.e=0
 ·rw[h0,eR]at f;rw[if_pos h0];clear h0
  go_enter func145,ntmps145
  go_wp2_with fail;go_ret;exact⟨rfl,rfl⟩
 ·rw[gG h0]at f;rw[if_neg h0];clear h0
  go_enter func145,ntmps145
  go_wp2_with fail;go_ret;exact⟨rfl,rfl⟩
theorem yq(s:Rs):s.left<=s.xs.length:=by
 unfold Rs.left;split<;>omega
theorem rz{s:Rs}(h:0<s.left):s.e=0/\s.left=s.xs.length:=by
 unfold Rs.left at h⊢;split at h
 ·next h0=>exact⟨h0,by rw[if_pos h0]⟩
 ·omega
theorem kJ{g:Nat}{s:Rs}{w:World}(h:go w g s)(n:Nat)(hn:n<=140737488355328):
    Calls prog 140 #[.pointer (some ⟨g,0,none⟩),.int .i64 n] w λx w'=>(∃A c,x=.returned (.slice A (s.raw n).1.length c)/\w'.ownsRow w.heap.size 5 1 (.slice A (s.raw n).1.length c) (s.raw n).1.length (an (s.raw n).1))/\go w' g (s.raw n).2/\Fr (λk=>k=g) w w':=by
 have S:=Ld (jp h);have X:=Ld (gx h 2 (by omega));have b0:=yq s;have P:=h.len
 by_cases I:s.left<n
 ·have y:s.raw n=([],s.bad 2):=by unfold Rs.raw;rw [if_pos I]
  rw[y];generalize s.left=l at*;clear y
  go_enter func140,ntmps140
  go_wp2_with fail;refine S.out.mono ?_;rintro e w1 ⟨rfl,rfl⟩;have hd:decide ((l:Int)<(n:Int))=true:=decide_eq_true (by omega)
  go_wp2_with fail;refine X.out.mono ?_;rintro e t ⟨rfl,M,L⟩;have Z:=Ld M;have V:=Ld L;clear M L
  go_wp2_with fail;go_ret;exact⟨⟨none,0,rfl,World.ownsRow_nil _ _ _ _⟩,Z.out,V.out⟩
 ·have y:s.raw n=(s.xs.take n,⟨s.xs.drop n,s.e⟩):=by unfold Rs.raw;rw [if_neg I]
  rw[y];dsimp only
  by_cases R:n=0
  ·subst R;rw[List.take_zero,List.drop_zero];have hd:decide ((s.left:Int)<0)=false:=decide_eq_false (by omega);have H:=Ld h;generalize s.left=l at*;clear y h
   go_enter func140,ntmps140
   go_wp2_with fail;refine S.out.mono ?_;rintro e w1 ⟨rfl,rfl⟩
   go_wp2_with fail;go_ret;exact⟨⟨none,0,rfl,World.ownsRow_nil _ _ _ _⟩,H.out,Fr.refl _ _⟩
  ·obtain ⟨he,O⟩:=rz (s:=s) (by omega);have m:n<=s.xs.length:=by omega
   obtain⟨A,d,u,T,F⟩:=h.st;obtain⟨l,hl⟩:=nM (s.xs.length);rw[<-hl]at u T F m P;have hd:decide ((l:Int)<(n:Int))=false:=decide_eq_false (by omega);rw[O,<-hl]at S;rw[he,eR]at u;have J:(s.xs.take n).length=n:=by rw[List.length_take];omega
   rw[J];have D:=Ld u;have Y:Hid (ei 5 w 1 A l (an s.xs)):=Ld T;have z:=Ld F;have HX:=Ld hl;have HE:=Ld he;have U:=Ld h.byt;have b7:=Ld J;have c1:w.cell? ⟨g,1,none⟩=some (.slice A l d):=u.cell 1;have f1:=u.frozen 1
   obtain⟨i,o,rfl,-⟩:∃i o,A=some ⟨i,o,none⟩/\True:=by
    obtain⟨i,o,hA,_⟩:=T.out (by omega) (by omega);exact⟨i,o,hA,trivial⟩
   clear y h u T F hl he O b0 I J
   go_enter func140,ntmps140
   go_wp2_with fail;refine S.out.mono ?_;rintro e w1 ⟨rfl,rfl⟩;have E:=Ld m
   by_cases N:d=n
   ·subst N;obtain rfl:l=d:=by have:=z.out;omega
    go_wp2_with fail;refine(it (some ⟨i,o,none⟩) l l (s.xs.take l) w (Rd.take Y.out E.out) (by omega)).mono ?_;rintro e t ⟨⟨A2,d2,rfl,r⟩,b⟩;have q:=Ld r;have f:=Ld b;have c1:t.cell? ⟨g,1,none⟩=some (.slice (some ⟨i,o,none⟩) l l):=(b.blk D.out).cell 1;have f1:t.frozen? ⟨g,1,none⟩=false:=(b.blk D.out).frozen 1;clear r b
    go_wp2_with fail;go_ret;have j:=λv=>(Fr.refl (λk=>k=g) t).setCell (p:=⟨g,1,none⟩) (λ_=>rfl) v
    have C:∀k,k=g->¬aK 5 t k:=λk G=>by subst G;exact aK.not_blk (f.out.blk D.out) (by decide)
    have m:∀k,(Value.slice A2 l d2).ownBlock=some k->¬k=g:=λk G e=>C k e (cY q.out G)
    have b':s.xs.drop l=[]:=List.drop_eq_nil_of_le (by rw[<-HX.out];exact Nat.le_refl _);rw[b'];refine⟨⟨A2,d2,rfl,bg q.out (j _) m⟩,⟨⟨some ⟨i,o,none⟩,0,?_,ei.nil,Nat.le_refl _⟩,(λx y=>nomatch y),Nat.zero_le _⟩,(f.out.toFr _).trans (j _)⟩;have u:=(f.out.blk D.out).set 1 (.slice (some ⟨i,o,none⟩) 0 0);dsimp only;rw[HE.out,eR]
    simpa using u
   ·have b1:n<d:=by have:=z.out;omega
    go_wp2_with fail;refine(it (some ⟨i,o,none⟩) n d (s.xs.take n) w (Rd.take Y.out E.out) (by omega)).mono ?_;rintro e t ⟨⟨A2,d2,rfl,r⟩,b⟩;have q:=Ld r;have f:=Ld b;have c1:t.cell? ⟨g,1,none⟩=some (.slice (some ⟨i,o,none⟩) l d):=(b.blk D.out).cell 1;have f1:t.frozen? ⟨g,1,none⟩=false:=(b.blk D.out).frozen 1;clear r b
    go_wp2_with fail;go_ret;have j:=λv=>(Fr.refl (λk=>k=g) t).setCell (p:=⟨g,1,none⟩) (λ_=>rfl) v
    have C:∀k,k=g->¬aK 5 t k:=λk G=>by subst G;exact aK.not_blk (f.out.blk D.out) (by decide)
    have m:∀k,(Value.slice A2 n d2).ownBlock=some k->¬k=g:=λk G e=>C k e (cY q.out G)
    have B:(s.xs.drop n).length=l-n:=by rw[List.length_drop,HX.out]
    have b3:ei 5 t 1 (some ⟨i,o+n,none⟩) (l-n) (an (s.xs.drop n)):=by
     have h1:=Rd.drop (cap:=d) (Y.out.new f.out) E.out z.out;rw[if_neg N,Option.map_some,Nat.mul_one]at h1
     have h2:(⟨i,o,none⟩:Addr).add n=⟨i,o+n,none⟩:=by
      unfold Addr.add;rw[if_neg R]
     rw[h2]at h1;have h3:(an s.xs).drop n=an (s.xs.drop n):=by simp[an]
     rw[h3]at h1;exact h1
    refine⟨⟨A2,d2,rfl,bg q.out (j _) m⟩,⟨⟨some ⟨i,o+n,none⟩,d-n,?_,?_,?_⟩,?_,?_⟩,(f.out.toFr _).trans (j _)⟩
    ·have u:=(f.out.blk D.out).set 1 (.slice (some ⟨i,o+n,none⟩) (l-n) (d-n));dsimp only;rw[B,HE.out,eR]
     simpa using u
    ·dsimp only;rw[B];exact b3.fr (j _) C
    ·dsimp only;rw[B];have:=z.out;omega
    ·exact λx y=>U.out x (List.mem_of_mem_drop y)
    ·dsimp only;rw[B];omega
theorem FE(v y:Nat)(b:v<256^7)(c:y<256):bits .or .u64 ((v:Int)*256) (y:Int)=((v*256+y:Nat):Int):=by
 rw[show(v:Int)*256=((v*256:Nat):Int) by simp,u64_or_nat _ _ (by omega) (by omega)]
 congr 1
 rw[show v*256=v<<<8 by rw[Nat.shiftLeft_eq],Nat.shiftLeft_add_eq_or_of_lt (by omega)]
theorem pO(s:Rs)(n:Nat):(s.raw n).1.length<=n:=by
 unfold Rs.raw;split
 ·simp
 ·simp;omega
theorem raw_byt{s:Rs}(h:ba s.xs)(n:Nat):ba (s.raw n).1:=by
 unfold Rs.raw;split
 ·intro x b;cases b
 ·exact λx b=>h x (List.mem_of_mem_take b)
theorem dw{g:Nat}{s:Rs}{w:World}(h:go w g s)(size:Nat)(P:size=1\/size=2\/size=4\/size=8):
    Calls prog 93 #[.pointer (some ⟨g,0,none⟩),.int .i64 size] w λx w'=>x=.returned (.int .u64 (s.num size).1)/\go w' g (s.num size).2/\Fr (λk=>k=g) w w':=by
 have D:=Ld (λw=>sf size (by omega) w);have HW:=Ld (kJ h size (by omega));have r:=pO s size;have d:=raw_byt h.byt size;unfold Rs.num;dsimp only;obtain⟨bs,q⟩:=nM ((s.raw size).1);rw[<-q]at HW r d⊢;obtain⟨m,hm⟩:=nM (bs.length);rw[<-hm]at HW r;have O:m<=8:=by omega
 have C:=Ld hm;have p:=Ld d;clear q hm d h P
 go_enter func93,ntmps93
 go_wp2_with fail;refine(D.out _).mono ?_;rintro e V ⟨rfl,rfl⟩
 go_wp2_with fail;refine HW.out.mono ?_;rintro e T ⟨⟨A,c,rfl,hO⟩,E,hF⟩;have I:=Ld hO;have J:=Ld E;have H:=Ld hF;clear hO E hF HW D
 go_wp2_with fail;go_loop [5,18] (λn i=>∃j:Nat,j<=m/\i=.int .i64 j/\n=.int .u64 (aU (bs.take j))) (λn i=>m-(intOf i).toNat)
 case atStart=>exact⟨0,Nat.zero_le _,rfl,rfl⟩
 case round=>
  obtain⟨j,U,rfl,rfl⟩:=hrel
  by_cases z:j<m
  ·obtain ⟨L,o,rfl,-,-,G⟩:=(Rd.own I.out rfl).out (by omega) (by omega);have l:j<bs.length:=by rw [<-C.out];exact z
   have f:T.cell? ⟨L,o+j,none⟩=some (.int .u8 bs[j]):=G j _ (by simp[an,l]);have b:=lk l;have F:=p.out bs[j] (List.getElem_mem _);have B:=fm (xs:=bs.take j) (λx R=>p.out x (List.mem_of_mem_take R));rw[List.length_take,Nat.min_eq_left (by omega)]at B;have t:aU (bs.take j)<256^7:=Nat.lt_of_lt_of_le B (Nat.pow_le_pow_right (by decide) (by omega));generalize bs[j]=x at f b F;generalize aU (bs.take j)=v at b t⊢;obtain⟨y,rfl⟩:∃y:Nat,x=(y:Int):=⟨x.toNat,by omega⟩
   have u:=Ld b;have S:y<256:=by omega
   have M:(0:Int)<=(j:Int):=by omega
   have N:(j:Int)<(m:Int):=by omega
   clear b G B F l
   go_wp2_with fail;refine⟨⟨j+1,by omega,by go_num,?_⟩,by simp[intOf];omega⟩;rw[u.out,FE v y t S];simp
  ·obtain rfl:j=m:=by omega
   go_wp2_with fail;go_ret;rw[List.take_of_length_le (by rw[<-C.out];exact Nat.le_refl _)];exact⟨rfl,J.out,H.out⟩
theorem FD(x y:Nat)(b:x<256)(c:y<256):bits .or .i64 ((x:Int)*256) (y:Int)=((x*256+y:Nat):Int):=by
 rw[bits_join .i64 63 (by decide) (λn h0 h1=>IntWalk.i64_in n (by omega)) 8 _ _ (by omega) (by omega) (by omega) (by omega) (by omega) (by omega)];simp
theorem Hg{xs:List Int}(c:ba xs)(h:2<=xs.length):∃x y:Nat,x<256/\y<256/\xs[0]?=some (x:Int)/\xs[1]?=some (y:Int)/\aU (xs.take 2)=x*256+y:=by
 match xs,h with
 |a::b::r,_=>
  have f:=c a (by simp);have d:=c b (by simp);refine⟨a.toNat,b.toNat,by omega,by omega,by simp;omega,by simp;omega,by simp[aU]⟩
theorem go.left1{g:Nat}{s:Rs}{w:World}(h:go w g s)(hl:0<s.left):∃b o c,ac w g 209 #[.nilIface,.slice (some ⟨b,o,none⟩) s.xs.length c]/\(∀j x,s.xs[j]?=some x->w.cell? ⟨b,o+j,none⟩=some (.int .u8 x))/\s.left=s.xs.length:=by
 obtain⟨i,d⟩:=rz hl;obtain⟨A,c,f,l,n⟩:=h.st;obtain⟨b,o,rfl,-,-,k⟩:=Rd.out l (by omega) (by omega);rw[i,eR]at f;refine⟨b,o,c,f,λj x m=>k j _ ?_,d⟩;unfold an;rw[List.getElem?_map,m];rfl
theorem lQ{g:Nat}{s:Rs}{w:World}(h:go w g s)(b:Nat)(b':b<=140737488355328):
    Calls prog 99 #[.pointer (some ⟨g,0,none⟩),.int .i64 b] w λx w'=>(∃A c,x=.returned (.slice A (s.bytes b).1.length c)/\∃base,w.heap.size<=base/\w'.ownsRow base 5 1 (.slice A (s.bytes b).1.length c) (s.bytes b).1.length (an (s.bytes b).1))/\go w' g (s.bytes b).2/\Fr (λk=>k=g) w w':=by
 have L:=Ld (jp h);have b3:=Ld (gx h 2 (by omega));have U:=yq s;have c5:=h.len
 by_cases t:s.left<2
 ·have hx:s.bytes b=([],s.bad 2):=by unfold Rs.bytes;rw [if_pos t]
  rw[hx];generalize s.left=l at*;clear hx;have hd:decide ((l:Int)<2)=true:=decide_eq_true (by omega)
  go_enter func99,ntmps99
  go_wp2_with fail;refine L.out.mono ?_;rintro e X ⟨rfl,rfl⟩
  go_wp2_with fail;refine b3.out.mono ?_;rintro e Y ⟨rfl,r,O⟩;have b9:=Ld r;have b0:=Ld O;clear r O
  go_wp2_with fail;go_ret;exact⟨⟨none,0,rfl,w.heap.size,Nat.le_refl _,World.ownsRow_nil _ _ _ _⟩,b9.out,b0.out⟩
 ·obtain ⟨gA,o,c,hb,hq,E⟩:=h.left1 (by omega);obtain ⟨x,y,hx,hy,h0,h1,V⟩:=Hg h.byt (by omega);have k0:w.cell? ⟨gA,o,none⟩=some (.int .u8 x):=hq 0 _ h0;have k1:w.cell? ⟨gA,o+1,none⟩=some (.int .u8 y):=hq 1 _ h1;have M:w.cell? ⟨g,1,none⟩=some (.slice (some ⟨gA,o,none⟩) s.xs.length c):=hb.cell 1;have z:=FD x y hx hy;obtain ⟨v,J⟩:=nM (x*256+y);rw [<-J] at V z;have c6:v<65536:=by omega
  have F:s.xs.length=s.left:=E.symm;rw[F]at M;have r:=kJ h 2 (by omega);have H:=Ld h
  by_cases n:b<v\/s.left-2<v
  ·have u:s.bytes b=([],s.bad 2):=by unfold Rs.bytes;rw [if_neg t,V,if_pos n]
   rw[u];have D:s.left<=140737488355328:=by omega
   clear u r F E U;obtain⟨l,hl⟩:=nM (s.left);rw[<-hl]at L M t n D;have C:=Ld hl.symm;clear hl;have hd:decide ((l:Int)<2)=false:=decide_eq_false (by omega);clear J h h0 h1 hq hb V
   by_cases c7:b<v
   ·have T:decide (b<v)=true:=decide_eq_true (by omega)
    go_enter func99,ntmps99
    go_wp2_with fail;refine L.out.mono ?_;rintro e X ⟨rfl,rfl⟩
    go_wp2_with fail;go_quiet (fail)
    obtain⟨Z,d⟩:=nM (w.drewN nq:World);have f:Hid (aa w Z):=Ld (by rw[d];exact aa.dn (aa.refl _) _);have B:=Ld (gx (H.out.new f.out) 2 (by omega));rw[<-d];clear d k0 k1 M z
    go_wp2_with fail;refine B.out.mono ?_;rintro e Y ⟨rfl,m,j⟩;have q:=Ld m;have p:=Ld ((f.out.toFr _).trans j);clear m j
    go_wp2_with fail;go_ret;exact⟨⟨none,0,rfl,w.heap.size,Nat.le_refl _,World.ownsRow_nil _ _ _ _⟩,q.out,p.out⟩
   ·have T:decide (b<v)=false:=decide_eq_false (by omega);have c4:decide ((l:Int)-2<(v:Int))=true:=decide_eq_true (by omega)
    go_enter func99,ntmps99
    go_wp2_with fail;refine L.out.mono ?_;rintro e X ⟨rfl,rfl⟩
    go_wp2_with fail;go_quiet (fail)
    obtain⟨Z,d⟩:=nM (w.drewN nq:World);have f:Hid (aa w Z):=Ld (by rw[d];exact aa.dn (aa.refl _) _);have B:=Ld (gx (H.out.new f.out) 2 (by omega));have i:=jp (H.out.new f.out);rw[C.out]at i;have i:=Ld i;rw[<-d];clear d k0 k1 M z
    go_wp2_with fail;refine i.out.mono ?_;rintro e X ⟨rfl,rfl⟩
    go_wp2_with fail;refine B.out.mono ?_;rintro e Y ⟨rfl,m,j⟩;have q:=Ld m;have p:=Ld ((f.out.toFr _).trans j);clear m j
    go_wp2_with fail;go_ret;exact⟨⟨none,0,rfl,w.heap.size,Nat.le_refl _,World.ownsRow_nil _ _ _ _⟩,q.out,p.out⟩
  ·have u:s.bytes b=(s.raw 2).2.raw v:=by unfold Rs.bytes;rw [if_neg t,V,if_neg n]
   rw[u];obtain⟨s2,I⟩:=nM ((s.raw 2).2);rw[<-I];obtain⟨m3,G⟩:=nM ((s2.raw v).1.length);rw[<-G];have c0:=Ld I;have b7:=Ld G;clear I G;have D:s.left<=140737488355328:=by omega
   clear u r F E U;obtain⟨l,hl⟩:=nM (s.left);rw[<-hl]at L M t n D;have C:=Ld hl.symm;clear hl;have hd:decide ((l:Int)<2)=false:=decide_eq_false (by omega);clear J h h0 h1 hq hb V;have T:decide (b<v)=false:=decide_eq_false (by omega);have c4:decide ((l:Int)-2<(v:Int))=false:=decide_eq_false (by omega);clear n
   go_enter func99,ntmps99
   go_wp2_with fail;refine L.out.mono ?_;rintro e X ⟨rfl,rfl⟩
   go_wp2_with fail;go_quiet (fail)
   obtain⟨Z,d⟩:=nM (w.drewN nq:World);have f:Hid (aa w Z):=Ld (by rw[d];exact aa.dn (aa.refl _) _);have i:=jp (H.out.new f.out);rw[C.out]at i;have i:=Ld i;rw[<-d];clear d k0 k1 M z
   go_wp2_with fail;refine i.out.mono ?_;rintro e X ⟨rfl,rfl⟩
   go_wp2_with fail;refine(kJ (H.out.new f.out) 2 (by omega)).mono ?_;rintro e Y ⟨⟨A2,c2,rfl,-⟩,m,j⟩;have q:=Ld m;have p:Hid (Fr (λk=>k=g) w Y):=Ld ((f.out.toFr _).trans j);clear m j;rw[<-c0.out]at q;generalize (s.raw 2).1.length=m2;have N:=Ld (kJ q.out v (by omega));rw[<-b7.out]at N
   go_wp2_with fail;refine N.out.mono ?_;rintro e w3 ⟨⟨A3,c3,rfl,R⟩,S,P⟩;have b8:=Ld R;have c':=Ld S;have b1:=Ld (p.out.trans P);clear R S P
   go_wp2_with fail;go_ret;exact⟨⟨A3,c3,rfl,Y.heap.size,p.out.size,b8.out⟩,c'.out,b1.out⟩
theorem pR{g:Nat}{s:Rs}{w:World}(h:go w g s):
    Calls prog 101 #[.pointer (some ⟨g,0,none⟩)] w λx w'=>x=.returned (qH s.fin)/\w=w':=by
 obtain⟨A,c,d,k,j⟩:=h.st;have f:w.cell? ⟨g,0,none⟩=some (qH s.e):=d.cell 0;have i:w.cell? ⟨g,1,none⟩=some (.slice A s.xs.length c):=d.cell 1;unfold Rs.fin;clear d k j h
 by_cases h0:s.e=0
 ·rw[h0,eR]at f;rw[if_neg (by omega)];obtain⟨n,b⟩:=nM (s.xs.length);rw[<-b]at i⊢;clear b h0
  by_cases b:0<n
  ·have hd:decide ((0:Int)<(n:Int))=true:=decide_eq_true (by omega);rw[if_pos b,gG (by omega)]
   go_enter func101,ntmps101
   go_wp2_with fail;go_ret;exact⟨rfl,rfl⟩
  ·have hd:decide ((0:Int)<(n:Int))=false:=decide_eq_false (by omega);rw[if_neg b,eR]
   go_enter func101,ntmps101
   go_wp2_with fail;go_ret;exact⟨rfl,rfl⟩
 ·rw[if_pos h0];rw[gG h0]at f⊢;clear h0
  go_enter func101,ntmps101
  go_wp2_with fail;go_ret;exact⟨rfl,rfl⟩
theorem ym:(prog.info? 5).map (λi=>(i.zero,i.size,i.bytes))=some (some (.int .u8 0),1,1):=by kernel_rfl
theorem oE(n:Nat):(madeCells (Value.int .u8 0).cells (n*1)).toList=an (List.replicate n 0):=by
 have b:(Value.int .u8 0).cells= #[.int .u8 0]:=rfl;rw[b];apply List.ext_getElem
 ·simp[madeCells,an]
 ·intro i h1 h2;simp[madeCells,an,Nat.mod_one]
theorem DG{w c:World}{size n:Nat}{v:Value}(h:c.ownsRow w.heap.size 5 1 v size (madeCells (Value.int .u8 0).cells (size*1)).toList):∃b:List Int,b.length=size/\b.drop size=(bj size n).drop size/\c.ownsRow w.heap.size 5 1 v size (an b):=by
 rw[oE]at h;exact⟨List.replicate size 0,by simp,by rw[List.drop_eq_nil_of_le (by simp),List.drop_eq_nil_of_le (by rw[aw];exact Nat.le_refl _)],h⟩
theorem fw(n size:Nat)(w:World)(hs:size<=1000)(Z:n<18446744073709551616):
    Calls prog 131 #[.int .u64 n,.int .i64 size] w λe w'=>e=.returned (.slice (some ⟨w.heap.size,0,none⟩) size size)/\w'.ownsRow w.heap.size 5 1 (.slice (some ⟨w.heap.size,0,none⟩) size size) size (an (bj size n))/\aa w w':=by
 obtain⟨i0,hi,z,d,c⟩:=info_parts ym
 go_enter func131,ntmps131
 go_wp2_with ((with_reducible refine dM ⟨some 8,.makeSlice _ _ _,_,_,_,_⟩ ?_);refine wpList_make_full _ rfl _ _ 33 rfl w.heap.size 5 i0 (.int .u8 0) 1 underlying33 hi z d .i64 .i64 size size size rfl rfl rfl rfl (by rw[c];omega) (by unfold maxLen;omega) (Nat.le_refl _) ?_;intro J o q;have m:Hid (∃b:List Int,b.length=size/\b.drop size=(bj size n).drop size/\J.ownsRow w.heap.size 5 1 (.slice (some ⟨w.heap.size,0,none⟩) size size) size (an b)):=Ld (DG o);have C:Hid (aa w J):=Ld ((aa.refl w).fr ((Fr.refl ic w).grown q (λ_ _ h=>by cases h)) (λk h=>h.elim));clear o q)
 clear hi z d c;have l:Hid (∃b:List Int,b.length=size/\b.drop size=(bj size n).drop size/\J.ownsRow w.heap.size 5 1 (.slice (some ⟨w.heap.size,0,none⟩) size size) size (an b)):=m;obtain⟨B,G⟩:=nM (w.heap.size);rw[<-G]at l⊢;have L:=Ld G;clear G m
 go_loopw [0,6] (λv i wr=>∃j:Nat,j<=size/\i=.int .i64 ((j:Int)-1)/\v=.int .u64 ((n/256^(size-j):Nat):Int)/\Hid (∃b:List Int,b.length=size/\b.drop j=(bj size n).drop j/\wr.ownsRow B 5 1 (.slice (some ⟨B,0,none⟩) size size) size (an b))/\Hid (aa w wr)) (λv i _=>(intOf i+1).toNat)
 case atStart=>exact⟨size,Nat.le_refl _,by simp,by simp,l,C⟩
 case round=>
  obtain⟨j,V,rfl,rfl,N,M⟩:=hrel;rcases Nat.eq_zero_or_pos j with h0|h0
  ·subst h0
   go_wp2_with fail;go_ret;obtain⟨b,d,c,hO⟩:=N.out;rw[List.drop_zero,List.drop_zero]at c;rw[c]at hO;rw[<-L.out];exact⟨rfl,hO,M.out⟩
  ·obtain⟨k,rfl⟩:∃k,j=k+1:=⟨j-1,by omega⟩
   have O:(((k+1:Nat):Int)-1)=(k:Int):=by omega
   rw[O];obtain⟨b,d,c,hO⟩:=N.out;obtain⟨v,y⟩:=nM (n/256^(size-(k+1)));rw[<-y];have b3:v<18446744073709551616:=by rw[y];exact Nat.lt_of_le_of_lt (Nat.div_le_self _ _) Z
   have P:v/256=n/256^(size-k):=by
    rw[y,Nat.div_div_eq_div_mul,<-Nat.pow_succ]
    congr 2
    omega
   have hm:v%256=aL n (size-1-k):=by
    rw[y];unfold aL;rw[show size-1-k=size-(k+1) by omega]
   have t:k<b.length:=by omega
   have U:wr.cell? ⟨B,k,none⟩=some (.int .u8 b[k]):=by
    rw[hO.cellAt k (by omega)];unfold an;rw[List.getElem?_map,List.getElem?_eq_getElem t];rfl
   have fj:wr.frozen? ⟨B,k,none⟩=false:=hO.frozenAt k;have u:=(hO.stored k (.int .u8 ((v%256:Nat):Int))).1;have r:=(hO.stored k (.int .u8 ((v%256:Nat):Int))).2;generalize b[k]=zk at U;have D:=Ld u;have R:=Ld r;have E:=Ld d;have F:=Ld c;have T:=Ld P;have S:=Ld hm;have X:(0:Int)<=(k:Int):=by omega
   have Y:(k:Int)<(size:Int):=by omega
   have b0:(0:Int)<=(v:Int):=by omega
   have b1:(v:Int)<18446744073709551616:=by omega
   have b':=eU v;clear u r d c P hm y hO O
   go_wp2_with fail;have f:((v:Int)%256)=((v%256:Nat):Int):=by omega
   refine⟨⟨k,by omega,rfl,?_,Ld ⟨b.set k ((v%256:Nat):Int),by rw[List.length_set];exact E.out,?_,?_⟩,Ld ?_⟩,by simp[intOf]⟩
   ·rw[<-T.out]
    congr 1
   ·have H:k<(b.set k ((v%256:Nat):Int)).length:=by rw [List.length_set];exact t
    have I:k<(bj size n).length:=by rw[aw];omega
    rw[List.drop_eq_getElem_cons H,List.drop_eq_getElem_cons I,List.getElem_set_self,xX,<-S.out,List.drop_set_of_lt (by omega),F.out]
   ·rw[f];have:=D.out;unfold an at this⊢;rw[List.map_set];exact this
   ·rw[f];exact M.out.fr ((Fr.refl (λj=>j=B) wr).setCell (p:=⟨B,k,none⟩) (λ_=>rfl) _) (λj V=>by have:=L.out;omega)
theorem ib{p:Nat->Prop}(A:Option Addr)(n c:Nat)(xs:List Int)(w:World)(r:Rd p w 1 A n (an xs))(C:ba xs)(L:n<=8):
    Calls prog 122 #[.slice A n c] w λe w'=>e=.returned (.int .u64 (aU xs))/\w=w':=by
 have m:xs.length=n:=by have:=r.1;rw[ak]at this;omega
 have E:=Ld r;have z:=Ld C;have B:=Ld m;clear r C m
 go_enter func122,ntmps122
 go_wp2_with fail;go_loop [3,4] (λv i=>∃j:Nat,j<=n/\i=.int .i64 j/\v=.int .u64 (aU (xs.take j))) (λv i=>n-(intOf i).toNat)
 case atStart=>exact⟨0,Nat.zero_le _,rfl,rfl⟩
 case round=>
  obtain⟨j,J,rfl,rfl⟩:=hrel
  by_cases t:j<n
  ·obtain ⟨F,o,rfl,-,-,D⟩:=E.out.out (by omega) (by omega);have f:j<xs.length:=by rw [B.out];exact t
   have d:w.cell? ⟨F,o+j,none⟩=some (.int .u8 xs[j]):=D j _ (by simp[an,f]);have b:=lk f;have k:=z.out xs[j] (List.getElem_mem _);have u:=fm (xs:=xs.take j) (λx m=>z.out x (List.mem_of_mem_take m));rw[List.length_take,Nat.min_eq_left (by omega)]at u;have l:aU (xs.take j)<256^7:=Nat.lt_of_lt_of_le u (Nat.pow_le_pow_right (by decide) (by omega));generalize xs[j]=x at d b k;generalize aU (xs.take j)=v at b l⊢;obtain⟨y,rfl⟩:∃y:Nat,x=(y:Int):=⟨x.toNat,by omega⟩
   have q:=Ld b;have M:y<256:=by omega
   have G:(0:Int)<=(j:Int):=by omega
   have H:(j:Int)<(n:Int):=by omega
   have I:(v:Int)<72057594037927936:=by omega
   clear b D u k f l
   go_wp2_with fail;refine⟨⟨j+1,by omega,by go_num,?_⟩,by simp[intOf];omega⟩;rw[q.out];simp
  ·obtain rfl:j=n:=by omega
   go_wp2_with fail;go_ret;rw[List.take_of_length_le (by rw[B.out];exact Nat.le_refl _)];exact⟨rfl,rfl⟩
end Go.Proofs.YtfchcdbfalgdlaaGreatDoor
