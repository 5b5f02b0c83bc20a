/- Texts of one proof. No condition but each one's own. -/
import Derived.Test.YtfchcdbfalgdlaaGreatDoorSweepPlaysM43
import Derived.Test.YtfchcdbfalgdlaaGreatDoorSweepPlaysM44
set_option maxHeartbeats 4000000
set_option maxRecDepth 100000
set_option linter.unusedVariables false
set_option linter.unusedSimpArgs false
namespace Go.Proofs.YtfchcdbfalgdlaaGreatDoor
open _root_.Go.Proofs.Tryz
open Go.RowKit Go.Sort
theorem qY:∀t∈bT,t≠102/\t≠177/\t≠120/\t≠3/\t≠5/\t≠123/\t≠153:=by decide
theorem mg.mem{P:Program}{w:World}:∀{L:List nP},mg P w L->∀B∈L,ac w B.b B.t B.x
 |C::L,h,B,b=>by
  rcases List.mem_cons.1 b with rfl|b
  ·exact h.1.1
  ·exact mg.mem h.2.2 B b
section
variable {M:Nat->Prop}{W w w':World}{L:List nP}{R R':World->Prop}{p:DP}{tot gs gd bs bf bt mm:Nat}{X Z:Array Value}{s:SW}{v:Value}
theorem Bx.kps(h:Bx prog bT W w L R)(c:dZ M W w w')(g:∀k,M k->∀t,¬aK t w k)(j:R' w')(l:kh W.heap.size bT R'):Bx prog bT W w' L R':=
 ⟨h.bx.fr c λB b i=>by
  obtain⟨h1,h2,d,f,-⟩:=qY _ (h.ty B b).1
  exact gN (λhm=>g _ hm _ ⟨_,_,h.bx.mem B b⟩) h1.symm h2.symm d.symm f.symm ⟨_,_,h.bx.mem B b⟩ i,h.ty,c.nw h.nw,j,l⟩
theorem bE.kps(h:bE w p tot X)(b:dZ M W w w')(c:∀k,M k->∀t,¬aK t w k):bE w' p tot X:=
 h.fr b λk d ht=>gN (λhm=>c k hm _ ht) (by decide) (by decide) (by decide) (by decide) ht d
theorem ie.kps(h:ie W.heap.size w s tot Z)(f:dZ M W w w')(d:∀k,M k->∀t,¬aK t w k):ie W.heap.size w' s tot Z:=by
 obtain⟨X,Y,A,c,T,e,h1,h2,g,i,j⟩:=h.ex;exact⟨⟨X,Y,A,c,T,e,h1.kps f d,h2.fr f (λk b ht=>gN (λhm=>d k hm _ ht) (by decide) (by decide) (by decide) (by decide) ht b),g.fr f (λk b=>⟨b.1,λht=>gN (λhm=>d k hm _ ht) (by decide) (by decide) (by decide) (by decide) ht b,λht=>gN (λhm=>d k hm _ ht) (by decide) (by decide) (by decide) (by decide) ht b⟩),i,j⟩,h.ok⟩
theorem lj (n:Nat) (s:SW) (tot:Nat) (Z:Array Value):kh n bT (λw=>ie n w s tot Z):=⟨λ_ _ o h=>h.new o,λw w' b t x ht f d hF h=>by
 obtain⟨X,Y,A,c,T,e,h1,h2,j,l,m⟩:=h.ex;obtain⟨-,-,-,-,g,-,i⟩:=qY _ ht
 exact⟨⟨X,Y,A,c,T,e,(bq _ _ _).st w w' b t x ht f d hF h1,(dL _ _).st w w' b t x ht f d hF h2,j.fr hF (λk q=>by
  rw[show k=b from q]
  exact⟨f,aK.not_blk d i,aK.not_blk d g⟩),l,m⟩,h.ok⟩⟩
theorem iQ (base gd bs bf:Nat) (v:Value) (p:DP) {n:Nat}:kh n bT (λw=>Dk w base gd bs bf v p):=⟨λ_ _ g h=>h.new g,λw w' b t x ht j c hF h=>h.fr hF (λk i=>by
 obtain⟨-,-,d,f,-⟩:=qY _ ht;rw[show k=b from i]
 exact gu h c (ac.ne_ c h.blk d) f)⟩
theorem tW (W:World) (gs gd bs bf bt:Nat) (s:SW) (mm:Nat) {n:Nat}:kh n bT (λw=>dO W w gs gd bs bf bt s mm):=⟨λ_ _ y h=>h.new y,λw w' b t x ht B c hF h=>by
 obtain⟨i,j,l,o,q,r,-⟩:=qY _ ht;obtain⟨u,gt,v,X,m,E,h⟩:=h;refine⟨u,gt,v,X,m,E,⟨h.blk.fr hF (λe=>ac.ne_ c h.blk i e.symm),h.dk.fr hF (λk d=>?_),h.lg.fr hF (λe=>ac.ne_ c h.lg.blk j e.symm),h.tb.fr hF (λe=>ac.ne_ c h.tb.blk r e.symm) (λe=>?_) (λk d g=>?_),h.lo,h.ne,h.ct,h.mm,h.gen,h.n4⟩⟩
 ·rw[show k=b from d];exact gu h.dk c (ac.ne_ c h.dk.blk l) o
 ·obtain⟨f,z,-⟩:=h.tb.map;exact aK.not_map z ⟨_,_,by rw[show bt=b from e];exact c⟩
 ·rw[show k=b from d]at g
  exact aK.not_blk c q (h.tb.xs _ g).2⟩
theorem sU(h:Dk w W.heap.size gd bs bf v p):∀k,iY bs bf bs k->∀t,¬aK t w k:=λk b t=>by
 rcases b with rfl|rfl|rfl
 ·exact aK.not_map h.ms
 ·exact aK.not_map h.mw
 ·exact aK.not_map h.ms
theorem CF(h:dO W w gs gd bs bf bt s mm):∀k,iY bs bf bt k->∀t,¬aK t w k:=by
 obtain⟨b,gt,v,X,m,E,h⟩:=h;exact h.mps
end
theorem Fj (n:Nat) (W w:World) (b:aa W w) (h1:1<=n) (h2:n<=16384):Calls prog 22 #[.int .i64 n] w λe w'=>∃gd bs bf,e= .returned (.tuple #[.pointer (some ⟨gd,0,none⟩),.nilIface])/\Dk w' W.heap.size gd bs bf (.slice none 0 0) (DP.new n)/\aa w w':=
 (new_ok n w W.heap.size b.size h1 h2).mono λe w' ⟨c,hd,d⟩=>⟨_,_,_,c,hd,d⟩
theorem Cn (n:Nat) (w:World) (b:(DP.new n).Ok):Calls prog 30 #[.int .i64 n] w λe w'=>∃X,e= .returned (.agg X)/\bE w' (DP.new n) 0 X/\aa w w':=
 (Cm (n:Int) w).mono λe w' ⟨c,d⟩=>⟨_,c,⟨b,RP.new n,none,0,none,0,rfl,⟨ei.nil,ei.nil,by simp[RP.new,RP.Ok]⟩,Mt.new n,by simp[RP.new,RP.tot]⟩,d⟩
theorem FI{D:Nat}{w:World}{p:DP}{tot:Nat}{X:Array Value}(h:bE w p tot X)(ht:tot+hlf p.size<=49000)(hu:Up p)(d:p.size<=3000)(m:jC p<4294967296)(b:D<=w.heap.size)(k:cX 3 1 w):
    Calls prog 35 #[.agg X] w (kY D (opnS p) (tot+hlf p.size) w):=by
 by_cases j:p.size<4
 ·refine(lU (D:=D) h j).mono ?_;rintro e w' ⟨Z,o,q,d,l⟩;refine⟨Z,o,q,λs h=>?_,l⟩;obtain⟨⟨X,Y,A,c,T,f,h1,h2⟩,i⟩:=d s h;exact⟨⟨X,Y,A,c,T,f,h1.up (by omega),h2⟩,i⟩
 ·have hl:=vp h.ok (n:=p.size) (g:=jC p) (by omega) rfl m;have r:hlf p.size<=1500:=by unfold hlf;omega
  exact FJ h ht hu (by omega) b k
theorem qX:∀(bs:List (List Int)) (p:DP) (l:LG),(eb p l bs).1.size=p.size
 | [],_,_=>rfl
 |b::bs,p,l=>by
  rw[zd];split
  ·exact jd p l b
  ·rw[qX bs,jd]
theorem wP(p:DP)(g:Nat):(bU p g).1.size=p.size:=by
 unfold bU;split
 ·exact DP.doWrite_size _ _ _
 ·show((p.doWrite _ _).doSync).size=_;rw[DP.doSync_size,DP.doWrite_size]
theorem An(s:SW):(aN s).1.p.size=s.p.size:=by
 have b:(oV s).1.size=s.p.size:=by
  unfold oV;split
  ·exact lZ _ _
  ·rw[qX,lZ]
 have f:(dD s).1.size=s.p.size:=by
  obtain⟨⟨q,l,c⟩,d⟩:=nm (oV s);rw[<-d]at b;rw[xU s d.symm];split
  ·exact b
  ·split
   ·exact(DP.doSync_size _).trans b
   ·exact(wP _ _).trans ((DP.doSync_size _).trans b)
 unfold aN;split
 ·rfl
 ·split
  ·rfl
  ·simp only;split<;>exact f
theorem FS {D n:Nat} (h:D<=n) (A:Option Addr) (m:Nat) (T:List Ch):kh n bT (λw=>jx D w A m T):=⟨λ_ _ g h=>h.new g,λw w' b t x ht l c hF j=>by
 obtain⟨-,-,-,-,d,-,f⟩:=qY _ ht
 exact j.fr hF (λk i=>by
  rw[show k=b from i]
  exact⟨by omega,aK.not_blk c f,aK.not_blk c d⟩)⟩
theorem oM (A:Option Addr) (m:Nat) (xs:List Value) {n:Nat}:kh n bT (λw=>ei 5 w 1 A m xs):=⟨λ_ _ d h=>h.new d,λw w' b t x ht l f hF i=>by
 obtain⟨-,-,-,-,c,-,j⟩:=qY _ ht
 exact i.fr hF (λk g=>by
  rw[show k=b from g]
  exact aK.not_blk f c)⟩
set_option maxHeartbeats 16000000
theorem qI{D:Nat}{w:World}{s:SW}{tot:Nat}{Z:Array Value}(h:ie D w s tot Z)(A:Option Addr)(n c:Nat)(L:List Ch)(k:jx D w A n L)(C:n<=100000000)(hz:∀c∈L,c.k.n<=maxLen/\c.v.n<=maxLen)(o:bY L=false\/s.broken=true\/65536<(bI L).length):
    Calls prog 40 #[.agg Z,.slice A n c] w (lG D (ed s (L.map cK)) tot w):=by
 have t:=Ld h.row;have G:=Ld h;obtain⟨X,Y,S,V,T,e,h1,h2,-⟩:=h.ex;have H:Hid (bi X Y):=Ld ⟨h1.row,h2.row⟩;have b:Hid (Bx prog bT w w [] (λ_=>True)):=Ld (Bx.start trivial kh.triv);have f:=k.tb.lens;have m:Hid (∀W,aa w W->Calls prog 89 #[.slice A n c] W λe w'=>e=.returned (.bool (bY L))/\W=w'):=Ld λW l=>lV A n c L W (k.new l).rd k.len C hz
 have d:Hid (bY L=true->∀W,aa w W->Calls prog 82 #[.slice A n c] W λe w'=>(∃A2 c2,e=.returned (.slice A2 (bI L).length c2))/\aa W w'):=Ld λg W l=>by
  have B:=dt g;refine(jq A n c L W (k.tb.new l) (by have:=k.len;omega) (λy O=>by have:=B.2.2 y O;omega)).mono ?_;rintro e w' ⟨⟨A2,c2,N,-⟩,u⟩;exact⟨⟨A2,c2,N⟩,u⟩
 obtain⟨F,hF⟩:=nm (ed s (L.map cK))
 have j:Hid ((bY L=false->F=(s,2))/\(bY L=true->s.broken=true->F=(s,10))/\(bY L=true->s.broken=false->65536<(bI L).length->F=(s,3))):=Ld (by
  rw[hF,<-fE f,gE f];unfold ed
  exact⟨λh=>if_pos h,λh h1=>by rw[if_neg (by rw[h];simp),if_pos h1],λh h1 h2=>by rw[if_neg (by rw[h];simp),if_neg (by rw[h1];simp),if_pos h2]⟩)
 rw[<-hF];obtain⟨ok,g⟩:=nm (bY L);obtain⟨bn,q⟩:=nm (bI L).length;obtain⟨br,r⟩:=nm s.broken;rw[<-g]at m j d o;rw[<-q]at j d o;rw[<-r]at j e o;clear h h1 h2 k C hz f hF g q r
 have z:ok=false\/(ok=true/\br=true)\/(ok=true/\br=false/\65536<bn):=by
  rcases o with h|h|h
  ·exact .inl h
  ·cases ok
   ·exact .inl rfl
   ·exact .inr (.inl ⟨rfl,h⟩)
  ·cases ok
   ·exact .inl rfl
   ·cases br
    ·exact .inr (.inr ⟨rfl,rfl,h⟩)
    ·exact .inr (.inl ⟨rfl,rfl⟩)
 clear o;subst e
 go_enter func40,ntmps40
 rcases z with rfl|⟨rfl,rfl⟩|⟨rfl,rfl,I⟩
 focus
  have i:Hid (F=(s,2)):=Ld (j.out.1 rfl)
 rotate_left
 focus
  have i:Hid (F=(s,10)):=Ld (j.out.2.1 rfl rfl)
 rotate_left
 focus
  have i:Hid (F=(s,3)):=Ld (j.out.2.2 rfl rfl I);have J:(65536:Int)<(bn:Int):=by omega
  replace d:=Ld (d.out rfl)
 rotate_left
 all_goals
  go_wp2_with (first
   |(refine dK b.out rfl rfl rfl ca t.out (by decide) ?_;clear b;intro E U b)
   |(refine bP b.out rfl rfl ca zS (by decide) ?_;clear b;intro E b2 b)
   |(go_at_call 89;refine(m.out _ b.out.nw).mono ?_;rintro e P ⟨rfl,rfl⟩)
   |(go_at_call 82;refine(d.out _ b.out.nw).mono ?_;rintro e P ⟨⟨A2,c2,rfl⟩,l⟩;replace b:=Ld (b.out.new l);clear l)
   |(refine eP 4 rfl ?_;refine aM 0 b.out rfl rfl rfl rfl underlying4 rfl H.out.c.2.2 ?_)
   |(refine eP 79 rfl ?_;refine be 0 b.out rfl rfl rfl rfl rfl ?_)
   |(refine gc 79 rfl ?_;refine aX 1 b.out rfl rfl rfl rfl rfl rfl t.out ca ?_;clear b;intro E b))
  refine bodyPost_ret (aE rfl _ _ _ _ _ rfl (b.out.blk 1 rfl) underlying79 rfl (by rw[t.out.sz];kernel_rfl)) rfl ?_;rw[i.out];exact⟨_,rfl,G.out.new b.out.nw,b.out.nw⟩
theorem ie.up{D:Nat}{w:World}{s:SW}{tot b:Nat}{Z:Array Value}(h:ie D w s tot Z)(hl:tot<=b):ie D w s b Z:=by
 obtain⟨X,Y,A,c,T,e,h1,h2⟩:=h.ex;exact⟨⟨X,Y,A,c,T,e,h1.up hl,h2⟩,h.ok⟩
theorem CH(s:SW)(h:(aN s).2≠0):((aN s).1.broken||fK (aN s).2)=(aN s).1.broken:=by
 unfold aN at h⊢;split at h
 ·next b=>rw[if_pos b];rw[b];rfl
 ·next b=>
  rw[if_neg b];split at h
  ·next c=>rw[if_pos c];show(s.broken||false)=s.broken;simp
  ·next c=>
   rw[if_neg c];simp only at h⊢;split at h
   ·next d=>rw[if_pos d];show(fK _||fK _)=fK _;simp
   ·next d=>exact absurd rfl h
theorem CI(s:SW)(h:(aN s).2=0):(aN s).1.broken=s.broken:=by
 unfold aN at h⊢;split at h
 ·next c=>cases h
 ·next c=>
  rw[if_neg c];split at h
  ·next d=>cases h
  ·next d=>
   rw[if_neg d];simp only at h⊢;split at h
   ·next b=>exact absurd h b
   ·next b=>rw[if_neg b]
structure GO(F:SW×Int)(T0:Nat)(LP:List PC)(t0:CT)(N:Nat)(q:DP)(l:LG)(gen:Nat)(c:Int)(T:List Ch)(tt:Nat):Prop where
 f1:c≠0->F=(⟨q,l,t0,gen,fK c⟩,c)
 f2:c=0->q.scode≠0->F=(⟨q.doSync,l,t0,gen,fK q.scode⟩,q.scode)
 f3:c=0->q.scode=0->F=(⟨q.doSync,l,doPs t0 LP,gen,false⟩,0)
 lok:l.Ok N
 qs:q.size=N
 cl:cl T=aI t0
 ch:∀y∈T,oR y
 tt:tt<=T0
theorem Bf{F:SW×Int}{f:List PC}{s3:SW}{c:Int}{g N tt:Nat}{T:List Ch}{t0:CT}(ht:s3.t=t0)(d:s3.broken=false)(h:F=if c≠0 then({s3 with broken:=s3.broken||fK c},c)else if s3.p.scode≠0 then({s3 with p:=s3.p.doSync,broken:=s3.broken||fK s3.p.scode},s3.p.scode)else({s3 with p:=s3.p.doSync,t:=doPs s3.t f},0))(h1:s3.l.Ok N)(h2:s3.p.size=N)(i:cl T=aI t0)(j:∀y∈T,oR y)(k:tt<=g):GO F g f t0 N s3.p s3.l s3.gen c T tt:=by
 subst ht;exact⟨λh0=>by rw[h,if_pos h0,d];rfl,λh0 b=>by rw[h,if_neg (by simpa using h0),if_pos b,d];rfl,λh0 b=>by rw[h,if_neg (by simpa using h0),if_neg (by simpa using b),<-d],h1,h2,i,j,k⟩
theorem sM{D:Nat}{w w':World}{F:SW×Int}{k:Nat}{j:DP}{l:LG}{t1:CT}{gen:Nat}{m:Bool}{o:Int}{b Y:Array Value}{r n c:Nat}{A:Option Addr}{T:List Ch}(u:F=(⟨j,l,t1,gen,m⟩,o))(hd:bE w' j r b)(ht:r<=k)(hl:fZ w' l Y)(i:l.Ok j.size)(q:jx D w' A n T)(g:cl T=aI t1)(f:∀y∈T,oR y)(t:aa w w'):
    lG D F k w (.returned (.tuple #[.agg (eE b Y (.slice A n c) (.int .u32 gen) (.bool m)),.int .i64 o])) w':=by
 subst u;have d:=q.len;subst d;exact⟨_,rfl,⟨⟨b,Y,A,c,T,rfl,hd.up ht,hl,q,g,f⟩,i⟩,t⟩
theorem Ea{T L:List Ch}{t:CT}(f:cl T=aI t)(g:Kn t)(d:∀y∈T,oR y)(b:∀c∈L,ba c.k.xs)(hz:∀c∈L,c.k.n<=16/\c.v.n<=16384):cl (vO T L)=aI (doPs t (L.map cK))/\∀y∈vO T L,oR y:=
 ⟨by rw[<-ox];exact(yL L f g b).1,tG L T d λy i hd=>⟨hd,hz y i⟩⟩
theorem zW{D:Nat}{w:World}{s:SW}{tot:Nat}{Z:Array Value}(h:ie D w s tot Z)(m2:D<=w.heap.size)(hT:ki s.t)(h4:4<=s.p.size)(hg:s.gen<4294967296)(hm:s.t.length<=900000)(ht:tot+(2*s.p.size+(hlf s.p.size+1)*(hlf s.p.size+1))<=50000)(hL:cX 3 1 w)(AC:Option Addr)(nC cC:Nat)(L:List Ch)(hC:jx D w AC nC L)(hn:nC<=100000000)(hz:∀c∈L,c.k.n<=maxLen/\c.v.n<=maxLen):
    Calls prog 40 #[.agg Z,.slice AC nC cC] w (lG D (ed s (L.map cK)) (tot+(2*s.p.size+(hlf s.p.size+1)*(hlf s.p.size+1))) w):=by
 by_cases hE:bY L=false\/s.broken=true\/65536<(bI L).length
 ·refine(qI h AC nC cC L hC hn hz hE).mono ?_;rintro e w' ⟨Z',he,hr,j⟩;exact⟨Z',he,hr.up (by omega),j⟩
 have j2:bY L=true:=by
  cases hc:bY L with
  |true=>rfl
  |false=>exact absurd (.inl hc) hE
 have c8:s.broken=false:=by
  cases hc:s.broken with
  |false=>rfl
  |true=>exact absurd (.inr (.inl hc)) hE
 have h6:(bI L).length<=65536:=by
  have:¬65536<(bI L).length:=λhc=>hE (.inr (.inr hc))
  omega
 clear hE;have n6:=dt j2;have b9:=hC.tb.lens;have o2:=hC.len;have m0:∀y∈L,y.k.n<=16/\y.v.n<=16384:=λy hy=>by have:=n6.2.2 y hy;omega
 have c9:ba (bI L):=by
  rw[gE b9];refine jo λx hx=>?_
  obtain⟨y,hy,rfl⟩:=List.mem_map.1 hx;exact⟨(hC.el y hy).k.byt,(hC.el y hy).v.byt⟩
 have j9:Hid (∀W,aa w W->Calls prog 89 #[.slice AC nC cC] W λe w'=>e=.returned (.bool true)/\W=w'):=Ld λW j=>by
  have h1:=lV AC nC cC L W (hC.new j).rd hC.len hn hz;rw[j2]at h1;exact h1
 obtain⟨b,hb⟩:=nm (bI L);obtain⟨LP,g7⟩:=nm (L.map cK);have k9:b=bw LP:=by rw[hb,g7,gE b9]
 have i4:dN LP=true:=by rw[g7,fE b9,j2]
 rw[<-hb]at h6 c9
 have i7:Hid (∀W,aa w W->Calls prog 82 #[.slice AC nC cC] W λe w'=>∃A2 c2,e=.returned (.slice A2 b.length c2)/\ei 5 w' 1 A2 b.length (an b)/\aa W w'):=Ld λW j=>by
  refine(jq AC nC cC L W (hC.tb.new j) (by omega) m0).mono ?_;rw[<-hb];rintro e w' ⟨⟨A2,c2,he,hO⟩,k7⟩;exact⟨A2,c2,he,ei.own hO rfl,k7⟩
 obtain⟨X,Y,A,c0,T,e,hD,k0,m8,i',hS⟩:=h.ex;obtain⟨N,j⟩:=nm s.p.size;obtain⟨Q,hQ⟩:=nm ((hlf N+1)*(hlf N+1));rw[<-j]at ht h4⊢;rw[<-hQ]at ht⊢;have l7:=h.ok;have i3:=l7.fit;rw[<-j]at l7 i3;obtain⟨B,g3⟩:=nm (aD s.p s.l b).1;obtain⟨l1,d'⟩:=nm (aD s.p s.l b).2.1;obtain⟨c1,g9⟩:=nm (aD s.p s.l b).2.2;have z:=vY hD.ok h.ok c9 (x:=b);rw[<-g3,<-d',<-j]at z;obtain⟨T1,o4⟩:=nm (tot+N)
 have b':Hid (∀W A2 c2,bE W s.p tot X->fZ W s.l Y->aa w W->ei 5 W 1 A2 b.length (an b)->Calls prog 81 #[.agg X,.agg Y,.slice A2 b.length c2] W λe w'=>∃X' Y',e=.returned (.tuple #[.agg X',.agg Y',.int .i64 c1])/\bE w' B T1 X'/\fZ w' l1 Y'/\aa W w'):=Ld λW A2 c2 hd f' V hR=>by
  refine(wR hd (by omega) f' h.ok (hL.new V) A2 b.length c2 b hR c9 (by unfold maxLen;omega)).mono ?_;rintro e w' ⟨X',Y',he,h1,h2,h3⟩;rw[<-g9]at he;rw[<-g3]at h1;rw[<-d']at h2;exact⟨X',Y',he,h1.up (by omega),h2,h3⟩
 obtain⟨T2,m6⟩:=nm (T1+Q);obtain⟨m,I⟩:=nm (aN {s with p:=B,l:=l1});obtain⟨p2,j3⟩:=nm m.1.p;obtain⟨l2,f'⟩:=nm m.1.l;obtain⟨H,b8⟩:=nm m.1.gen;obtain⟨k',b3⟩:=nm m.1.broken;obtain⟨wc,g4⟩:=nm m.2;have j6:m.1.t=s.t:=by rw[I,xH]
 have b0:Hid (∀W Z,ie D W {s with p:=B,l:=l1} T1 Z->aa w W->Calls prog 36 #[.agg Z] W λe w'=>∃X2 Y2 A4 n4 c4 T4,e=.returned (.tuple #[.agg (eE X2 Y2 (.slice A4 n4 c4) (.int .u32 H) (.bool k')),.int .i64 wc])/\(bE w' p2 T2 X2/\fZ w' l2 Y2/\jx D w' A4 n4 T4)/\(cl T4=aI s.t/\(∀y∈T4,oR y)/\l2.Ok p2.size)/\aa W w'):=Ld λW Z hr V=>by
  have h1:=pX hr hT (by show 4<=B.size;omega) hg (by show s.t.length<=1000000;omega) (by show T1+(hlf B.size+1)*(hlf B.size+1)<=50000;rw[z.2.1,<-hQ];omega) (hL.new V);rw[<-I]at h1;have e1:T1+(hlf B.size+1)*(hlf B.size+1)=T2:=by rw[z.2.1,<-hQ,m6]
  simp only at h1;rw[e1]at h1;refine h1.mono ?_;rintro e w' ⟨Z2,he,n5,o3⟩;obtain⟨X2,Y2,A4,c4,T4,e2,k1,k2,k3,k4,k5⟩:=n5.ex;have k6:=n5.ok;rw[<-g4]at he;rw[<-b8,<-b3]at e2;rw[<-j3]at k1 k6;rw[<-f']at k2 k6;rw[j6]at k4;subst e2;exact⟨X2,Y2,A4,_,c4,T4,he,⟨k1,k2,k3⟩,⟨k4,k5,k6⟩,o3⟩
 have l8:m.1.p.size=N:=by rw[I,An];exact z.2.1
 have g8:m.2=0->m.1.broken=false:=λh0=>by rw[I]at h0⊢;rw[CI _ h0];exact c8
 have n8:m.2≠0->(m.1.broken||fK m.2)=m.1.broken:=λh0=>by rw[I]at h0⊢;exact CH _ h0
 obtain⟨q3,j4⟩:=nm (aD m.1.p m.1.l b).1;obtain⟨l3,j1⟩:=nm (aD m.1.p m.1.l b).2.1;obtain⟨c3,l'⟩:=nm (aD m.1.p m.1.l b).2.2;obtain⟨T0,m5⟩:=nm (tot+(2*N+Q));obtain⟨t3,p0⟩:=nm (T2+N)
 have C:Hid (∀W X Y A2 c2,bE W p2 T2 X->fZ W l2 Y->l2.Ok p2.size->aa w W->ei 5 W 1 A2 b.length (an b)->Calls prog 81 #[.agg X,.agg Y,.slice A2 b.length c2] W λe w'=>∃X' Y',e=.returned (.tuple #[.agg X',.agg Y',.int .i64 c3])/\bE w' q3 t3 X'/\fZ w' l3 Y'/\(l3.Ok N/\q3.size=N)/\aa W w'):=Ld λW X Y A2 c2 hd i1 i2 V hR=>by
  rw[j3]at hd i2;rw[f']at i1 i2;have hz:=i2.fit;have k8:=vY hd.ok i2 c9 (x:=b);rw[<-j4,<-j1]at k8;refine(wR hd (by omega) i1 i2 (hL.new V) A2 b.length c2 b hR c9 (by unfold maxLen;omega)).mono ?_;rintro e w' ⟨X',Y',he,h1,h2,h3⟩;rw[<-l']at he;rw[<-j4]at h1;rw[<-j1]at h2;exact⟨X',Y',he,h1.up (by omega),h2,⟨by rw[<-l8];exact k8.2.2,by rw[k8.2.1,l8]⟩,h3⟩
 obtain⟨F,hF⟩:=nm (ed s LP)
 have c6:F=if(di s b).2≠0 then({(di s b).1 with broken:=(di s b).1.broken||fK (di s b).2},(di s b).2)else
     if(di s b).1.p.scode≠0 then({(di s b).1 with p:=(di s b).1.p.doSync,broken:=(di s b).1.broken||fK (di s b).1.p.scode},(di s b).1.p.scode)else
     ({(di s b).1 with p:=(di s b).1.p.doSync,t:=doPs (di s b).1.t LP},0):=by
  rw[hF];unfold ed;rw[if_neg (by rw[i4];simp),if_neg (by rw[c8];simp),if_neg (by rw[<-k9];omega),<-k9]
 have i5:Hid (c1≠8->GO F T0 LP s.t N B l1 s.gen c1 T T1):=Ld λh8=>by
  have ea:di s b=({s with p:=B,l:=l1},c1):=by unfold di;rw[<-g3,<-d',<-g9,if_pos h8]
  rw[ea]at c6;exact Bf (s3:={s with p:=B,l:=l1}) rfl c8 c6 z.2.2 z.2.1 i' hS (by omega)
 have c5:Hid (c1=8->wc≠0->F=(⟨p2,l2,s.t,H,k'⟩,wc)):=Ld λh8 h0=>by
  rw[g4]at h0;have ea:di s b=m:=by unfold di;rw[<-g3,<-d',<-g9,if_neg (by simpa using h8)];simp only;rw[<-I,if_pos h0]
  rw[c6,ea,if_pos h0,n8 h0,g4,j3,f',<-j6,b8,b3]
 have E:Hid (∀T3:List Ch,c1=8->wc=0->l3.Ok N->q3.size=N->cl T3=aI s.t->(∀y∈T3,oR y)->GO F T0 LP s.t N q3 l3 H c3 T3 t3):=Ld λT3 h8 h0 k1 k2 k3 k4=>by
  rw[g4]at h0;rw[b8];have ea:di s b=({m.1 with p:=q3,l:=l3},c3):=by unfold di;rw[<-g3,<-d',<-g9,if_neg (by simpa using h8)];simp only;rw[<-I,if_neg (by simpa using h0),<-j4,<-j1,<-l']
  rw[ea]at c6;exact Bf (s3:={m.1 with p:=q3,l:=l3}) j6 (g8 h0) c6 k1 k2 k3 k4 (by omega)
 rw[<-g7,<-hF,<-m5]
 have o5:T.length=s.t.length:=by
  have h2:=congrArg List.length i';rw[(dU s.t).length_eq]at h2
  simpa[cl]using h2
 have o0:Hid (∀W A' n' c' T',jx D W A' n' T'->cl T'=aI s.t->aa w W->Calls prog 79 #[.slice A' n' c',.slice AC nC cC] W λe w'=>∃A7 n7 c7,e=.returned (.slice A7 n7 c7)/\jx D w' A7 n7 (vO T' L)/\aa W w'):=Ld λW A' n' c' T' hr hc V=>by
  have h2:=congrArg List.length hc;rw[(dU s.t).length_eq]at h2;have h3:T'.length=s.t.length:=by simpa[cl]using h2
  have h4:=hr.len;refine(Ci A' n' c' T' AC nC cC L W hr (hC.new V) (by omega)).mono ?_;rintro e w' ⟨⟨A7,n7,c7,he,p'⟩,k7⟩;exact⟨A7,n7,c7,he,p',k7⟩
 have m1:Hid (∀T':List Ch,cl T'=aI s.t->(∀y∈T',oR y)->cl (vO T' L)=aI (doPs s.t LP)/\∀y∈vO T' L,oR y):=Ld λT' h1 h2=>by
  rw[g7];exact Ea h1 hT.kn h2 (λy hy=>(hC.el y hy).k.byt) m0
 have o:Hid (bi X Y):=Ld ⟨hD.row,k0.row⟩;have HZ:=Ld h.row;have l9:=FS (D:=D) (n:=w.heap.size) m2;have G:=Ld l9;have d:Hid (Bx prog bT w w [] (λw=>bE w s.p tot X/\(fZ w s.l Y/\jx D w A T.length T))):=Ld (Bx.start ⟨hD,k0,m8⟩ ((bq _ _ _).and ((dL _ _).and (l9 _ _ _))));have n9:=Ld (And.intro i' hS);have i9:Hid (T2<=T0/\T0<=50000/\(wc=0->k'=false)):=Ld ⟨by omega,by omega,λh0=>by rw[b3];exact g8 (g4▸h0)⟩;have g5:Hid (∀W X1 Y1,bE W B T1 X1->fZ W l1 Y1->jx D W A T.length T->ie D W {s with p:=B,l:=l1} T1 (eE X1 Y1 (.slice A T.length c0) (.int .u32 s.gen) (.bool false))):=Ld λW X1 Y1 h1 h2 h3=>⟨⟨X1,Y1,A,c0,T,by rw[<-c8],h1,h2,h3,i',hS⟩,by show l1.Ok B.size;rw[z.2.1];exact z.2.2⟩
 rw[c8]at e;obtain⟨gen,i0⟩:=nm s.gen;obtain⟨n,n3⟩:=nm T.length;obtain⟨bn,m9⟩:=nm b.length;rw[<-i0]at e i5 g5 b0;rw[<-n3]at e d g5;rw[<-m9]at i7 b' C h6;have o6:¬(65536:Int)<(bn:Int):=by omega
 clear h m2 hT h4 hg hm ht hL hC hn hz j2 n6 b9 o2 m0 c9 k9 i4 hD k0 m8 i' hS l7 i3 j hQ g3 d' g9 z o4 m6 I l8 j6 g8 n8 j4 j1 l' m5 hF c6 o5 l9 c8 i0 n3 m9 hb g7 h6 j3 f' b8 b3 g4 p0;subst e
 go_enter func40,ntmps40
 go_upto_region 11 with (first
  |(refine dK d.out rfl rfl rfl ca HZ.out (by decide) ?_;clear d;intro u b1 d)
  |(refine bP d.out rfl rfl ca zS (by decide) ?_;clear d;intro u b2 d)
  |(go_at_call 89;refine(j9.out _ d.out.nw).mono ?_;rintro e w3 ⟨rfl,rfl⟩)
  |(go_at_call 82;refine(i7.out _ d.out.nw).mono ?_;rintro e w3 ⟨A2,c2,rfl,m4,j⟩;replace d:=Ld ((d.out.call (R':=λw=>ei 5 w 1 A2 bn (an b)) j m4 (oM _ _ _)).rel (R':=λw=>bE w s.p tot X/\(fZ w s.l Y/\(ei 5 w 1 A2 bn (an b)/\jx D w A n T))) (λh=>⟨h.1.1,h.1.2.1,h.2,h.1.2.2⟩) ((bq _ _ _).and ((dL _ _).and ((oM _ _ _).and (G.out _ _ _)))));clear j m4)
  |(refine eP 4 rfl ?_;refine aM 0 d.out rfl rfl rfl rfl underlying4 rfl o.out.c.2.2 ?_)
  |(refine eP 65 rfl ?_;refine be 2 d.out rfl rfl rfl rfl rfl ?_)
  |(refine eP 75 rfl ?_;refine be 3 d.out rfl rfl rfl rfl rfl ?_)
  |(refine eP 65 rfl ?_;refine pE 0 d.out rfl rfl rfl rfl o.out.x cI o.out.d ?_)
  |(refine eP 75 rfl ?_;refine pE 0 d.out rfl rfl rfl rfl o.out.y fR o.out.l ?_)
  |(go_at_call 81;refine(b'.out _ _ _ d.out.r.1 d.out.r.2.1 d.out.nw d.out.r.2.2.1).mono ?_;rintro e w4 ⟨X1,Y1,rfl,S,U,j⟩;have P:=Ld S.row;have g6:=Ld U.row;replace d:=Ld ((d.out.call (R':=λw=>bE w B T1 X1/\fZ w l1 Y1) j ⟨S,U⟩ ((bq _ _ _).and (dL _ _))).rel (R':=λw=>bE w B T1 X1/\(fZ w l1 Y1/\(ei 5 w 1 A2 bn (an b)/\jx D w A n T))) (λh=>⟨h.2.1,h.2.2,h.1.2.2⟩) ((bq _ _ _).and ((dL _ _).and ((oM _ _ _).and (G.out _ _ _)))));clear j S U)
  |(refine bP d.out rfl rfl cI zR (by decide) ?_;clear d;intro u b6 d)
  |(refine bP d.out rfl rfl fR zL (by decide) ?_;clear d;intro u b7 d)
  |(refine gc 65 rfl ?_;refine aX 2 d.out rfl rfl rfl rfl rfl rfl P.out cI ?_;clear d;intro u d)
  |(refine gc 75 rfl ?_;refine aX 3 d.out rfl rfl rfl rfl rfl rfl g6.out fR ?_;clear d;intro u d)
  |(refine gc 65 rfl ?_;refine qn 0 d.out rfl rfl rfl rfl rfl P.out cI (by rw[o.out.size];decide) (o.out.setD P.out) ?_;clear d;intro u d)
  |(refine gc 75 rfl ?_;refine qn 0 d.out rfl rfl rfl rfl rfl g6.out fR (by rw[bi.size ⟨P.out,o.out.y⟩];decide) (bi.setL ⟨P.out,o.out.y⟩ g6.out) ?_;clear d;intro u d))
 by_cases h8:c1=8
 focus
  subst h8
  replace c5:=Ld (c5.out rfl)
  replace E:=Ld (λT3=>E.out T3 rfl)
  go_upto_region 14 with (first
   |(refine eP 79 rfl ?_;refine be 0 d.out rfl rfl rfl rfl rfl ?_)
   |(refine eP 79 rfl ?_;refine be 4 d.out rfl rfl rfl rfl rfl ?_)
   |(go_at_call 36;refine(b0.out _ _ (g5.out _ _ _ d.out.r.1 d.out.r.2.1 d.out.r.2.2.2) d.out.nw).mono ?_;rintro e w5 ⟨X2,Y2,A4,n4,c4,T4,rfl,j0,m3,j⟩;have r:=Ld j0.1.row;have i:=Ld j0.2.1.row;have O:=Ld m3;replace d:=Ld ((d.out.call (R':=λw=>bE w p2 T2 X2/\fZ w l2 Y2/\jx D w A4 n4 T4) j j0 ((bq _ _ _).and ((dL _ _).and (G.out _ _ _)))).rel (R':=λw=>bE w p2 T2 X2/\(fZ w l2 Y2/\(ei 5 w 1 A2 bn (an b)/\jx D w A4 n4 T4))) (λh=>⟨h.2.1,h.2.2.1,h.1.2.2.1,h.2.2.2⟩) ((bq _ _ _).and ((dL _ _).and ((oM _ _ _).and (G.out _ _ _)))));clear j j0 m3)
   |(refine bP d.out rfl rfl ca zS (by decide) ?_;clear d;intro u p1 d)
   |(refine gc 79 rfl ?_;refine aX 4 d.out rfl rfl rfl rfl rfl rfl (bi.row ⟨r.out,i.out⟩ rfl rfl rfl) ca ?_;clear d;intro u d)
   |(refine gc 79 rfl ?_;refine aX 0 d.out rfl rfl rfl rfl rfl rfl (bi.row ⟨r.out,i.out⟩ rfl rfl rfl) ca ?_;clear d;intro u d))
  clear b0 g5 i5 i7 j9 b'
  by_cases hw:wc=0
  rotate_left
  focus
   have p3:(wc==0)=false:=by simpa using hw
   have J:=Ld (c5.out hw);clear c5 E C
   go_wp2_with (first
    |(refine eP 79 rfl ?_;refine be 0 d.out rfl rfl rfl rfl rfl ?_)
    |(refine gc 79 rfl ?_;refine aX 1 d.out rfl rfl rfl rfl rfl rfl (bi.row ⟨r.out,i.out⟩ rfl rfl rfl) ca ?_;clear d;intro u d))
   refine bodyPost_ret (aE rfl _ _ _ _ _ rfl (d.out.blk 1 rfl) underlying79 rfl (by rw[bi.size ⟨r.out,i.out⟩];kernel_rfl)) rfl ?_;exact sM J.out d.out.r.1 i9.out.1 d.out.r.2.1 O.out.2.2 d.out.r.2.2.2 O.out.1 O.out.2.1 d.out.nw
  have g8:=i9.out.2.2 hw;subst hw g8
  replace E:=Ld (λT3=>E.out T3 rfl)
  go_upto_region 19 with (first
   |(refine eP 65 rfl ?_;refine be 2 d.out rfl rfl rfl rfl rfl ?_)
   |(refine eP 75 rfl ?_;refine be 3 d.out rfl rfl rfl rfl rfl ?_)
   |(refine eP 65 rfl ?_;refine pE 0 d.out rfl rfl rfl rfl r.out cI (bi.d ⟨r.out,i.out⟩) ?_)
   |(refine eP 75 rfl ?_;refine pE 0 d.out rfl rfl rfl rfl i.out fR (bi.l ⟨r.out,i.out⟩) ?_)
   |(go_at_call 81;refine(C.out _ _ _ _ _ d.out.r.1 d.out.r.2.1 O.out.2.2 d.out.nw d.out.r.2.2.1).mono ?_;rintro e w4 ⟨X3,Y3,rfl,S,U,n1,j⟩;have f:=Ld S.row;have g:=Ld U.row;have j7:=Ld n1;replace d:=Ld ((d.out.call (R':=λw=>bE w q3 t3 X3/\fZ w l3 Y3) j ⟨S,U⟩ ((bq _ _ _).and (dL _ _))).rel (R':=λw=>bE w q3 t3 X3/\(fZ w l3 Y3/\jx D w A4 n4 T4)) (λh=>⟨h.2.1,h.2.2,h.1.2.2.2⟩) ((bq _ _ _).and ((dL _ _).and (G.out _ _ _))));clear j S U n1)
   |(refine gc 65 rfl ?_;refine aX 2 d.out rfl rfl rfl rfl rfl rfl f.out cI ?_;clear d;intro u d)
   |(refine gc 75 rfl ?_;refine aX 3 d.out rfl rfl rfl rfl rfl rfl g.out fR ?_;clear d;intro u d)
   |(refine gc 65 rfl ?_;refine qn 0 d.out rfl rfl rfl rfl rfl f.out cI (by rw[bi.size ⟨r.out,i.out⟩];decide) (bi.setD ⟨r.out,i.out⟩ f.out) ?_;clear d;intro u d)
   |(refine gc 75 rfl ?_;refine qn 0 d.out rfl rfl rfl rfl rfl g.out fR (by rw[bi.size ⟨f.out,i.out⟩];decide) (bi.setL ⟨f.out,i.out⟩ g.out) ?_;clear d;intro u d))
  have q:=Ld (E.out T4 j7.out.1 j7.out.2 O.out.1 O.out.2.1);clear c5 E C O j7 r i
 rotate_left
 focus
  have o8:(c1==8)=false:=by simpa using h8
  go_upto_region 19 with fail;have q:=Ld (i5.out h8);have hB:=d.out.rel (R':=λw=>bE w B T1 X1/\(fZ w l1 Y1/\jx D w A n T)) (λh=>⟨h.1,h.2.1,h.2.2.2⟩) ((bq _ _ _).and ((dL _ _).and (G.out _ _ _)));clear d b0 g5 i5 i7 j9 b' c5 E C o8 h8 n9;have d:=Ld hB;clear hB q3 l3 c3 t3 H;obtain⟨q3,rfl⟩:∃x,x=B:=⟨_,rfl⟩
  obtain⟨l3,rfl⟩:∃x,x=l1:=⟨_,rfl⟩
  obtain⟨c3,rfl⟩:∃x,x=c1:=⟨_,rfl⟩
  obtain⟨t3,rfl⟩:∃x,x=T1:=⟨_,rfl⟩
  obtain⟨H,rfl⟩:∃x,x=gen:=⟨_,rfl⟩
  obtain⟨X3,rfl⟩:∃x,x=X1:=⟨_,rfl⟩
  obtain⟨Y3,rfl⟩:∃x,x=Y1:=⟨_,rfl⟩
  obtain⟨A4,rfl⟩:∃x,x=A:=⟨_,rfl⟩
  obtain⟨n4,rfl⟩:∃x,x=n:=⟨_,rfl⟩
  obtain⟨c4,rfl⟩:∃x,x=c0:=⟨_,rfl⟩
  obtain⟨T4,rfl⟩:∃x,x=T:=⟨_,rfl⟩
  have f:=P;have g:=g6;clear P g6
 all_goals
  obtain⟨sc,m'⟩:=nm q3.scode;obtain⟨q5,j5⟩:=nm q3.doSync;have o1:Hid (∀W,bE W q3 t3 X3->Calls prog 72 #[.agg X3] W (gm q5 t3 sc W)):=Ld λW hd=>by rw[m',j5];exact oH hd (by have:=q.out.tt;have:=i9.out.2.1;omega)
  have n0:=q.out.f1;have l4:=q.out.f2;have l5:=q.out.f3;rw[<-m',<-j5]at l4 l5;have i6:=Ld (And.intro n0 (And.intro l4 l5));have j8:Hid (l3.Ok q3.size/\l3.Ok q5.size):=Ld ⟨by rw[q.out.qs];exact q.out.lok,by rw[j5,DP.doSync_size,q.out.qs];exact q.out.lok⟩;have j':=f
  have o7:c3≠0\/(c3=0/\sc≠0)\/(c3=0/\sc=0):=by
   by_cases h0:c3=0
   ·by_cases h1:sc=0
    ·exact .inr (.inr ⟨h0,h1⟩)
    ·exact .inr (.inl ⟨h0,h1⟩)
   ·exact .inl h0
  clear m' j5 n0 l4 l5 o HZ i9;rcases o7 with h0|⟨h0,h1⟩|⟨h0,h1⟩
  focus
   have J:=Ld (i6.out.1 h0);have o9:(c3==0)=false:=by simpa using h0
  rotate_left
  focus
   have J:=Ld (i6.out.2.1 h0 h1);subst h0;have o9:(sc==0)=false:=by simpa using h1
  rotate_left
  focus
   have J:=Ld (i6.out.2.2 h0 h1);subst h0 h1
  rotate_left
  all_goals
   clear i6
   go_wp2_with (first
    |(refine eP 65 rfl ?_;refine be 2 d.out rfl rfl rfl rfl rfl ?_)
    |(refine eP 79 rfl ?_;refine be 0 d.out rfl rfl rfl rfl rfl ?_)
    |(refine eP 65 rfl ?_;refine pE 0 d.out rfl rfl rfl rfl j'.out cI (bi.d ⟨j'.out,g.out⟩) ?_)
    |(refine eP 4 rfl ?_;refine aM 0 d.out rfl rfl rfl rfl underlying4 rfl (bi.c ⟨f.out,g.out⟩).2.2 ?_)
    |(refine eP 77 rfl ?_;refine aM 0 d.out rfl rfl rfl rfl underlying77 rfl (bi.c ⟨f.out,g.out⟩).1 ?_)
    |(go_at_call 72;refine(o1.out _ d.out.r.1).mono ?_;intro e w6 hs;have hb:=d.out.dks hs (λ_ h=>h.2) ((dL _ _).and (G.out _ _ _));clear d hs f;obtain⟨X3,rfl,f,d⟩:=hb)
    |(go_at_call 79;refine(o0.out _ _ _ _ _ d.out.r.2.2 q.out.cl d.out.nw).mono ?_;rintro e w7 ⟨A7,n7,c7,rfl,m7,j⟩;replace d:=Ld ((d.out.call (R':=λw=>jx D w A7 n7 (vO T4 L)) j m7 (G.out _ _ _)));clear j m7)
    |(go_at_call 83;refine(oc _ _).mono ?_;rintro e w6 ⟨rfl,rfl⟩)
    |(refine gc 65 rfl ?_;refine aX 2 d.out rfl rfl rfl rfl rfl rfl f.out cI ?_;clear d;intro u d)
    |(refine gc 65 rfl ?_;refine qn 0 d.out rfl rfl rfl rfl rfl f.out cI (by rw[bi.size ⟨j'.out,g.out⟩];decide) (bi.setD ⟨j'.out,g.out⟩ f.out) ?_;clear d;intro u d)
    |(refine gc 4 rfl ?_;refine og 0 d.out rfl rfl rfl rfl rfl rfl rfl (by kernel_rfl) (by rw[bi.size ⟨f.out,g.out⟩];decide) (bi.set ⟨f.out,g.out⟩ _).2.2 ?_;clear d;intro u d)
    |(refine gc 77 rfl ?_;refine og 0 d.out rfl rfl rfl rfl rfl rfl rfl (by kernel_rfl) (by rw[bi.size ⟨f.out,g.out⟩];decide) (bi.set ⟨f.out,g.out⟩ _).1 ?_;clear d;intro u d)
    |(refine gc 79 rfl ?_;refine aX 1 d.out rfl rfl rfl rfl rfl rfl (bi.row ⟨f.out,g.out⟩ rfl rfl rfl) ca ?_;clear d;intro u d))
   refine bodyPost_ret (aE rfl _ _ _ _ _ rfl (d.out.blk 1 rfl) underlying79 rfl (by rw[bi.size ⟨f.out,g.out⟩];kernel_rfl)) rfl ?_
  ·exact sM J.out d.out.r.1 q.out.tt d.out.r.2.1 j8.out.1 d.out.r.2.2 q.out.cl q.out.ch d.out.nw
  ·exact sM J.out d.out.r.1 q.out.tt d.out.r.2.1 j8.out.2 d.out.r.2.2 q.out.cl q.out.ch d.out.nw
  ·exact sM J.out d.out.r.1.1 q.out.tt d.out.r.1.2.1 j8.out.2 d.out.r.2 (m1.out T4 q.out.cl q.out.ch).1 (m1.out T4 q.out.cl q.out.ch).2 d.out.nw
end Go.Proofs.YtfchcdbfalgdlaaGreatDoor
namespace Go.Proofs.YtfchcdbfalgdlaaGreatDoor
open _root_.Go.Proofs.Tryz
open Go.RowKit Go.Sort Go.Maps
theorem xp (W:World) (hL:dC 4 2 W):Calls prog 7 #[] W λe w'=>e= .returned (.bool true)/\aa W w':=by
 have HL:=Ld hL;obtain⟨c4,c5,c6⟩:=Bn (p:=DP.new 20) (jU.new (n:=20) (by decide) (by decide)).ok (Up.new 20) (by decide);obtain⟨s1,O,o2,o3,o4,o5,o6⟩:=c4.open_ [];rw[c6]at O;have g:=Ld (And.intro O (And.intro o2 (And.intro o3 (And.intro o4 (And.intro o5 o6)))));have f:=Ld (And.intro c5 (wt (Up.new 20) (p:=DP.new 20) (by decide)));clear hL c4 c5 c6 O o2 o3 o4 o5 o6;have kc:=λ(w:World) (C:Array Value) (n c:Nat)=>Lib.run_convert_bytes_const (P:=prog) w 33 5 C n c underlying33 underlying5
 go_enter func7,ntmps7
 go_wp2_with fail;refine(Fk (aa.refl W) 20 (by decide) (by decide)).mono ?_;rintro e w1 ⟨gd,rfl,⟨bs,bf,v1,c0,d'⟩,-⟩;have V:=Ld c0;have z:=Ld d';clear c0 d'
 go_wp2_with fail;refine(EM V.out z.out HL.out (Up.new 20) (by decide)).mono ?_;rintro e w2 ⟨rfl,⟨v2,c1⟩,c7⟩;have y:=Ld c1;have b0:Hid (aa W w2):=Ld (c7.nw z.out);clear c1 c7 V z
 go_wp2_with fail;refine(wO y.out b0.out HL.out f.out.2.1 (by rw[f.out.1];decide) (by rw[f.out.1];decide) g.out.1 g.out.2.1).mono ?_;rintro e d ⟨gs,bt,rfl,g4,-,-,-⟩;have j:=Ld g4;have Y:=Ld y.out.ok;clear g4 y b0
 have i2:∀(w:World) (o:Obj) (C:Array Value) (n c:Nat),(convert 33 33 (.slice (some ⟨w.heap.size+1,0,none⟩) n c)).run prog ((w.alloc o).alloc (.cells C 5))=.ok (.slice (some ⟨w.heap.size+1,0,none⟩) n c) ((w.alloc o).alloc (.cells C 5 (C.size,C.size+1))):=λw o C n c=>by
  have:=kc (w.alloc o) C n c
  simpa using this
 go_wp2_with fail;refine kw λt i=>?_
 have B:Hid (aa d t):=Ld (by rw[i.out];exact(aa.refl _).al2 _ _ |>.al _);obtain⟨q,hq⟩:=nm (λk=>aK 5 t k\/aK 92 t k);have S:Hid (Rd q t 1 (some ⟨d.heap.size,0,none⟩) 1 (an [97])):=Ld (wI (by rw[i.out];exact aa.al (aa.al (aa.refl _) _) _) (by rw[hq];exact .inl ⟨_,_,by rw[i.out];exact(Below.heap_alloc _ _ _ (by simp;omega)).trans ((Below.heap_alloc _ _ _ (by simp)).trans (World.alloc_heap_new d _))⟩))
 have b8:Hid (Rd q t 1 (some ⟨d.heap.size+1,0,none⟩) 1 (an [49])):=Ld (by
  have:=wI (P:=q) (x:=49) (w:=d.alloc (.cells #[.int .u8 97] 5 (1,2))) (W:=t) (by rw[i.out];exact aa.al (aa.refl _) _) (by rw[hq];exact .inl ⟨_,_,by rw[i.out];exact(Below.heap_alloc _ _ _ (by simp)).trans (World.alloc_heap_new _ _)⟩)
  simpa using this)
 have u:Hid (ac t (d.heap.size+1+1) 92 #[.slice (some ⟨d.heap.size,0,none⟩) 1 1,.slice (some ⟨d.heap.size+1,0,none⟩) 1 1,.bool false]):=Ld (by rw[i.out];exact ac.new' _ _ _ (by simp));have T:Hid (Rd q t 3 (some ⟨d.heap.size+1+1,0,none⟩) 1 [.slice (some ⟨d.heap.size,0,none⟩) 1 1,.slice (some ⟨d.heap.size+1,0,none⟩) 1 1,.bool false]):=Ld (Rd.ofBlk u.out 3 1 rfl (by rw[hq];exact .inr ⟨_,_,u.out⟩));have HQ:Hid (nQ W t q):=Ld (by rw[hq];exact λk hk=>.inr hk);have U:=Ld (Dt j.out.ok (FC f.out.2.1 Y.out (by rw[f.out.1];decide) g.out.1) g.out.2.2.2.1 (by rw[g.out.2.2.1];decide) g.out.2.2.2.2.1);clear i hq kc i2
 refine(pk (j.out.new B.out).st (j.out.new B.out).nw HL.out (by rw[f.out.1];decide) j.out.ok.tok (some ⟨d.heap.size+1+1,0,none⟩) 1 1 [⟨⟨some ⟨d.heap.size,0,none⟩,1,1,[97]⟩,⟨some ⟨d.heap.size+1,0,none⟩,1,1,[49]⟩,false⟩] T.out rfl (λc hc=>by
  rw[List.mem_singleton]at hc;subst hc;exact⟨⟨S.out,λx hx=>by simp at hx;omega⟩,⟨b8.out,λx hx=>by simp at hx;omega⟩⟩) HQ.out (by decide) (λc hc=>by
  rw[List.mem_singleton]at hc;subst hc
  exact⟨(show 1<=maxLen by decide),(show 1<=maxLen by decide)⟩)).mono ?_
 rintro e w5 ⟨rfl,l,c8⟩;have g6:([⟨⟨some ⟨d.heap.size,0,none⟩,1,1,[97]⟩,⟨some ⟨d.heap.size+1,0,none⟩,1,1,[49]⟩,false⟩]:List Ch).map cK=[sJ]:=rfl;rw[g6]at l⊢;obtain⟨K5,r,g9,J,I⟩:=U.out;rw[g9,cg];obtain⟨s5,g7⟩:=nm (ed s1 [sJ]).1;rw[<-g7]at l r J I;have F:Hid (FZ W w5 gs gd bs bf bt s5 K5 (600*hlf (ef (DP.new 20)).size+600)):=Ld ⟨l,r,c8.nw (j.out.new B.out).nw⟩;obtain⟨s6,O,o2,o3,o4,o5,o6⟩:=r.open_ [];have D:=Ld (And.intro O (And.intro o2 (And.intro (o5.trans (by rw[J])) o6)));have b9:Hid (s5.p.size=20):=Ld (by rw[I,g.out.2.2.2.2.2,f.out.1];rfl);clear l c8 g6 r g9 J I g7 O o2 o3 o4 o5 o6 U j S b8 u T HQ
 go_wp2_with fail;refine(EK F.out none 0 0 [] Rd.nil (by decide) (λk (hk:False)=>hk.elim)).mono ?_;rintro e w6 ⟨rfl,⟨v6,c3⟩,c9⟩;have b':=Ld c3;have b1:Hid (aa W w6):=Ld (c9.nw F.out.nw);clear c3 c9
 go_wp2_with fail;refine(wO b'.out b1.out HL.out (CP _ _) (by show 4<=s5.p.size;rw[b9.out];decide) (by show s5.p.size<=3000;rw[b9.out];decide) D.out.1 D.out.2.1).mono ?_;rintro e w7 ⟨i4,i3,rfl,g5,-,-,-⟩;have b7:=Ld g5;clear g5 b' b1 F;have kc:=λ(w:World) (C:Array Value) (n c:Nat)=>Lib.run_convert_bytes_const (P:=prog) w 33 5 C n c underlying33 underlying5
 go_wp2_with fail;clear kc;refine kw λw8 N=>?_
 have b3:Hid (aa w7 w8):=Ld (by rw[N.out];exact(aa.refl _).al _);have i':Hid (Rd (λ_=>True) w8 1 (some ⟨w7.heap.size,0,none⟩) 1 (an [97])):=Ld (wI (by rw[N.out];exact aa.refl _) trivial);clear N;refine(Cz (b7.out.new b3.out).st (some ⟨w7.heap.size,0,none⟩) 1 1 [97] i'.out (λx hx=>by simp at hx;omega) (by decide)).mono ?_;rintro e w9 ⟨⟨E,hE,A',c',rfl,g3⟩,f'⟩;have m:dy E=[([97],[49])]:=by rw[hE];exact List.perm_singleton.1 D.out.2.2.1
 have H:(E.lookup [97]).isSome=true/\(kf E [97]).xs=[49]:=by
  cases E with
  |nil=>simp[dy]at m
  |cons e E=>
   simp only[dy,List.map_cons,List.cons.injEq,Prod.mk.injEq]at m;obtain⟨⟨h1,h2⟩,-⟩:=m
   have hl:(e::E).lookup [97]=some e.2:=by
    rw[<-h1];obtain⟨a,b⟩:=e;simp
   rw[hl];refine⟨rfl,?_⟩;unfold kf;rw[hl];exact h2
 have G:=Rd.own g3 rfl;rw[H.2]at G;rw[H.1];have i1:=eI (c:=c') G;have g8:strOfNums [49]=⟨#[49]⟩:=rfl;rw[g8]at i1;have i0:Hid (aa W w9):=Ld ((b7.out.nw.tr b3.out).tr f');clear hE m H g3 G f' g8
 go_wp2_with fail;go_ret;exact⟨rfl,i0.out⟩
end Go.Proofs.YtfchcdbfalgdlaaGreatDoor
