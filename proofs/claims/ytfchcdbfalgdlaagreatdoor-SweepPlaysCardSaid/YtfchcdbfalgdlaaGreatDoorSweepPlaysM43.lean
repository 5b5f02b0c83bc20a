/- Texts of one proof. No condition but each one's own. -/
import Derived.Test.YtfchcdbfalgdlaaGreatDoorSweepPlaysM41
import Derived.Test.YtfchcdbfalgdlaaGreatDoorSweepPlaysM42
set_option maxHeartbeats 4000000
set_option maxRecDepth 100000
set_option linter.unusedVariables false
set_option linter.unusedSimpArgs false
namespace Go.Proofs.YtfchcdbfalgdlaaGreatDoor
open _root_.Go.Proofs.Tryz
open Go.RowKit Go.Sort Ieee
theorem rt{a b d f:Nat}(h1:xS a b d)(h2:vQ ((a:Nat):Int) (b:Int) f)(i:a<=b):(eW d:Int)=(eW f:Int):=by
 obtain⟨-,h1⟩:=h1
 by_cases c:b=0
 ·have g:a=0:=by omega
  subst c g;rw[if_pos rfl]at h1;have:=h2.2;rw[show((0:Nat):Int)=0 from rfl,sZ]at this;simp only[floatBits]at this;rw[show FloatKind.f64.format.div 0 0=none by decide+kernel]at this;simp only at this;subst h1;unfold eW;rw[this,show iX 9221120237041090561=true by decide+kernel];simp
 ·rw[if_neg c]at h1;have:=wz h1 h2
  simpa using this
theorem FM{W w:World}{D F gd bs bf bt mm g3:Nat}{s:SW}{Z:Array Value}(h:dO W w F gd bs bf bt s mm)(g:aa W w)(hr:ie D w s g3 Z)(hT:ki s.t)(hm:mm<=1000000):
    Calls prog 37 #[.pointer (some ⟨F,0,none⟩),.agg Z] w λe w'=>e=.returned (.bool true)/\aa w w':=by
 have b0:s.t.length<=mm/\s.l.size<=16384:=by
  obtain⟨gl,gt,v,X,m,E,h⟩:=h;refine⟨by rw[<-h.ct,du];exact h.mm.2,?_⟩;have h1:=h.lg.ok.fit;have h2:=h.dk.ok.s2;omega
 have hu:=hr.ok.used;have c8:Hid (∀c,aa w c->Calls prog 38 #[.agg Z] c λe w'=>(∃r,e=.returned (.float .f64 r)/\vQ ((s.l.used-gH s:Nat):Int) (s.l.used:Int) r)/\aa c w'):=Ld λc i=>yM (hr.new i) hT (by omega) (by omega)
 have HZ:=Ld hr.row;obtain⟨X,Y,A,c0,T,e,hD,G,b1,d,hS⟩:=hr.ex;have V:=b1.tb;have q:Hid (bi X Y):=Ld ⟨hD.row,G.row⟩
 have P:Hid (∀c,aa w c->Calls prog 17 #[.pointer (some ⟨F,0,none⟩)] c λe w'=>∃g',e=.returned (.pointer (some ⟨g',0,none⟩))/\(∀W2,aa w' W2->Calls prog 84 #[.pointer (some ⟨g',0,none⟩),.slice A T.length c0] W2 λe w2=>e=.returned (.bool true)/\aa W2 w2)/\aa c w'):=Ld λc i=>by
  refine(Ap (h.new i) (g.tr i)).mono ?_;rintro e w' ⟨⟨X',m',E',g',b',he,c9,d',h1,h2,-⟩,U⟩;exact⟨g',he,λW2 c3=>Fv (c9.new c3) (by omega) (by omega) A T.length c0 T (V.new ((i.tr U).tr c3)) (λy hy=>(hS y hy).2) (by rw[d'];exact d),U⟩
 obtain⟨gn,I⟩:=nm s.gen;obtain⟨br,H⟩:=nm s.broken;obtain⟨us,c1⟩:=nm s.l.used;obtain⟨sz,c'⟩:=nm s.l.size;obtain⟨df,b7⟩:=nm (s.l.size-s.l.used);have e1:IntKind.i64.wrap ((sz:Int)-(us:Int))=(df:Int):=by rw[IntWalk.i64_in _ (by omega)];omega
 have c7:Hid (∀c,aa w c->Calls prog 18 #[.pointer (some ⟨F,0,none⟩)] c λe w'=>e=.returned (.int .u32 gn)/\c=w'):=Ld λc i=>by rw[I];exact Cy (h.new i)
 have c4:Hid (∀c,aa w c->Calls prog 20 #[.pointer (some ⟨F,0,none⟩)] c λe w'=>e=.returned (.bool br)/\c=w'):=Ld λc i=>by rw[H];exact wg (h.new i)
 have c5:Hid (∀c,aa w c->Calls prog 19 #[.pointer (some ⟨F,0,none⟩)] c λe w'=>e=.returned (.int .i64 df)/\aa c w'):=Ld λc i=>by rw[b7];exact Bo (h.new i)
 have c6:Hid (∀c,aa w c->Calls prog 12 #[.pointer (some ⟨F,0,none⟩)] c λe w'=>(∃r,e=.returned (.float .f64 r)/\xS (s.l.used-gH s) s.l.used r)/\aa c w'):=Ld λc i=>nW (h.new i) hm hT
 have z:Hid (Y[1]?=some (.int .i64 sz)/\Y[2]?=some (.int .i64 us)):=Ld (by rw[c',c1];exact G.nums);have j:Hid (Bx prog bT w w [] (λ_=>True)):=Ld (Bx.start trivial kh.triv);rw[<-I,<-H]at e;obtain⟨n,hn⟩:=nm T.length;rw[<-hn]at e P;clear h g hr hT hm b0 hu hD G V b1 d hS I H c1 c' b7 hn;have t:=Ld e
 go_enter func37,ntmps37
 go_upto_region 1 with(refine dK j.out rfl rfl rfl ca HZ.out (by decide) ?_;clear j;intro J L j)
 obtain⟨S,hS⟩:∃S:World->Prop,∀w',S w'↔aa J w':=⟨_,λ_=>Iff.rfl⟩
 have f':Nonempty (HW S):=⟨⟨J,(hS _).2 (aa.refl _)⟩⟩
 have d:∀(p:HW S) (k:Nat) (v:Value),Z[k]?=some v->p.w.cell? ⟨L,k,none⟩=some v:=λp k v hv=>(j.out.new ((hS _).1 p.h)).cell 0 rfl k hv
 have q1:∀p:HW S,p.w.cell? ⟨L,11,none⟩=some (.slice A n c0):=λp=>d p 11 _ (by rw[t.out];exact q.out.c.1)
 have q2:∀p:HW S,p.w.cell? ⟨L,12,none⟩=some (.int .u32 gn):=λp=>d p 12 _ (by rw[t.out];exact q.out.c.2.1)
 have q3:∀p:HW S,p.w.cell? ⟨L,13,none⟩=some (.bool br):=λp=>d p 13 _ (by rw[t.out];exact q.out.c.2.2)
 have q4:∀p:HW S,p.w.cell? ⟨L,6,none⟩=some (.int .i64 sz):=λp=>d p 6 _ (by rw[t.out];exact q.out.l 1 _ z.out.1)
 have q5:∀p:HW S,p.w.cell? ⟨L,7,none⟩=some (.int .i64 us):=λp=>d p 7 _ (by rw[t.out];exact q.out.l 2 _ z.out.2)
 clear d e;refine ah S [(true,0),(true,2),(true,3),(false,1),(false,4),(true,5),(true,6),(true,8),(true,9),(false,7),(true,10),(true,11),(true,12),(true,13),(true,15),(true,16),(false,14),(true,17),(true,18),(true,19),(true,20),(true,22),(true,23),(true,24),(true,25),(true,26),(true,27),(true,28),(false,21),(true,29),(true,30),(true,31),(true,32),(true,35),(false,33),(false,34),(false,36),(false,37),(true,38),(true,39),(true,40)] (by kernel_rfl) (by kernel_rfl) ((hS _).2 (aa.dr (aa.refl _))) (λ_=>?_)
 iterate 3 (refine af (o:=.mk ..) rfl (λK b=>?_);go_simp;refine b _ ?_;clear b K)
 refine aj (o:=.mk ..) rfl (λK b=>?_) (.inl rfl);go_simp;refine(P.out _ (j.out.nw.tr (aa.dr (aa.refl _)))).mono ?_;rintro e w2 ⟨g',rfl,R,g⟩;have B:Hid (aa J w2):=Ld ((aa.dr (aa.refl _)).tr g);have M:=Ld (R w2 (aa.refl _));go_simp;refine b.out _ _ (λ_=>(hS _).2 B.out) ?_;clear b K g R;refine aj (o:=.mk ..) rfl (λK b=>?_) (.inl rfl);go_simp;refine M.out.mono ?_;rintro e w3 ⟨rfl,g⟩;have f:Hid (aa J w3):=Ld (B.out.tr g);go_simp;refine b.out _ _ (λ_=>(hS _).2 f.out) ?_;clear b K g M B
 iterate 4 (refine af (o:=.mk ..) rfl (λK b=>?_);go_simp;refine b _ ?_;clear b K)
 refine aj (o:=.mk ..) rfl (λK b=>?_) (.inl rfl);go_simp;refine(c7.out _ (j.out.nw.tr f.out)).mono ?_;rintro e w4 ⟨rfl,rfl⟩;go_simp;refine b.out _ _ (λ_=>(hS _).2 f.out) ?_;clear b K
 iterate 6 (refine af (o:=.mk ..) rfl (λK b=>?_);go_simp;refine b _ ?_;clear b K)
 refine aj (o:=.mk ..) rfl (λK b=>?_) (.inl rfl);go_simp;refine(c4.out _ (j.out.nw.tr f.out)).mono ?_;rintro e w4 ⟨rfl,rfl⟩;go_simp;refine b.out _ _ (λ_=>(hS _).2 f.out) ?_;clear b K
 iterate 11 (refine af (o:=.mk ..) rfl (λK b=>?_);go_simp;refine b _ ?_;clear b K)
 refine aj (o:=.mk ..) rfl (λK b=>?_) (.inl rfl);go_simp;refine(c5.out _ (j.out.nw.tr f.out)).mono ?_;rintro e w5 ⟨rfl,g⟩;have u:Hid (aa J w5):=Ld (f.out.tr g);go_simp;refine b.out _ _ (λ_=>(hS _).2 u.out) ?_;clear b K g f
 iterate 4 (refine af (o:=.mk ..) rfl (λK b=>?_);go_simp;refine b _ ?_;clear b K)
 refine tq 0 (λw' h=>j.out.new ((hS _).1 h)) rfl rfl rfl rfl rfl rfl (by rw[HZ.out.sz];exact ca) ?_;simp only[Act.put,bC,bD,bF];refine aj (o:=.mk ..) rfl (λK b=>?_) (.inl rfl);go_simp;refine(c6.out _ (j.out.nw.tr u.out)).mono ?_;rintro e w6 ⟨⟨r1,rfl,b8⟩,g⟩;have l:Hid (aa J w6):=Ld (u.out.tr g);have N:=Ld b8;go_simp;refine b.out _ _ (λ_=>(hS _).2 l.out) ?_;clear b K g b8 u;refine aj (o:=.mk ..) rfl (λK b=>?_) (.inl rfl);go_simp;refine(uq r1 N.out.1 w6).mono ?_;rintro e w7 ⟨rfl,rfl⟩;go_simp;refine b.out _ _ (λ_=>(hS _).2 l.out) ?_;clear b K;refine aj (o:=.mk ..) rfl (λK b=>?_) (.inl rfl);go_simp;refine(c8.out _ (j.out.nw.tr l.out)).mono ?_;rintro e w8 ⟨⟨r2,rfl,b9⟩,g⟩;have C:Hid (aa J w8):=Ld (l.out.tr g);have O:=Ld b9;go_simp;refine b.out _ _ (λ_=>(hS _).2 C.out) ?_;clear b K g b9 l;refine aj (o:=.mk ..) rfl (λK b=>?_) (.inl rfl);go_simp;refine(uq r2 O.out.1 w8).mono ?_;rintro e w9 ⟨rfl,rfl⟩;rw[<-rt N.out O.out (Nat.sub_le _ _)];go_simp;refine b.out _ _ (λ_=>(hS _).2 C.out) ?_;clear b K
 iterate 3 (refine af (o:=.mk ..) rfl (λK b=>?_);go_simp;refine b _ ?_;clear b K)
 refine au ?_;clear f' q1 q2 q3 q4 q5
 go_wp2_with fail;go_ret;exact⟨rfl,j.out.nw.tr C.out⟩
end Go.Proofs.YtfchcdbfalgdlaaGreatDoor
namespace Go.Proofs.YtfchcdbfalgdlaaGreatDoor
open _root_.Go.Proofs.Tryz
open Go.RowKit Go.Sort
theorem Bx.fsh{c w w':World}{L:List nP}{R:World->Prop}{q:DP}{b:Nat}{X:Array Value}(h:Bx prog bT c w L R)(f:aa w w')(d:bE w' q b X):Bx prog bT c w' L (λw=>bE w q b X/\True):=(h.call f d (bq _ _ _)).rel (λg=>⟨g.2,trivial⟩) ((bq _ _ _).and kh.triv)
theorem qK{w:World}{p:DP}{c:Nat}{X:Array Value}(h:bE w p c X)(i:p.size<4):
    Calls prog 33 #[.agg X] w (gm p c 1 w):=by
 have d:=Ld h.row;have g:=Ld h.size;have j:(p.size:Int)<4:=by omega
 have b:Hid (Bx prog bT w w [] (λw=>bE w p c X)):=Ld (Bx.start h (bq _ _ _));clear h i
 go_enter func33,ntmps33
 go_wp2_with (first
  |(refine dK b.out rfl rfl rfl cI d.out (by decide) ?_;clear b;intro f k b)
  |(refine bP b.out rfl rfl cI zR (by decide) ?_;clear b;intro f b2 b)
  |(refine eP 3 rfl ?_;refine aM 0 b.out rfl rfl rfl rfl underlying3 rfl g.out ?_)
  |(refine be 0 b.out rfl rfl rfl rfl rfl ?_)
  |(refine gc 65 rfl ?_;refine aX 1 b.out rfl rfl rfl rfl rfl rfl d.out cI ?_;clear b;intro f b))
 exact bodyPost_ret (aE rfl _ _ _ _ _ rfl (b.out.blk 1 rfl) underlying65 rfl (by rw[d.out.sz];kernel_rfl)) rfl ⟨_,rfl,b.out.r,b.out.nw⟩
def Hm(w:World)(c b2:Nat)(p:DP)(b k:Nat)(wr:World):Prop:=∃X,jy 5 X/\Bx prog bT w wr [⟨c,65,X⟩,⟨b2,65,CY⟩] (λw=>bE w (pr p k) (b+k) X/\True)
theorem zZ{w:World}{p:DP}{c:Nat}{X:Array Value}(h:bE w p c X)(ht:c<=20000)(hu:Up p)(h4:4<=p.size)(J:cX 3 1 w):
    Calls prog 33 #[.agg X] w (gm (ef p) (c+hlf p.size+3) 0 w):=by
 have R:=Ld h.row;have HS:=Ld h.size;have HL:=Ld J;have b7:¬(p.size:Int)<4:=by omega
 have C:Hid (∀k<2,∀W Y,bE W (pr p k) (c+k) Y->Calls prog 32 #[.agg Y,.int .i64 (k:Int),.agg (ag az)] W (gm (pr p (k+1)) (c+(k+1)) 0 W)):=Ld λk hk W Y hd=>by
  have r:=lc hu k;have h1:=qg hd (by omega) (k:Int) (WalkArith.wf_i64 (by omega)) bh;rw[r.1.wcode (by omega) (by have:=r.2;omega)]at h1;exact h1
 have r:=lc hu 2;obtain⟨q,L⟩:=nm (pr p 2);rw[<-L]at r
 have B:Hid (∀W Y,bE W q (c+2) Y->Calls prog 72 #[.agg Y] W (gm q.doSync (c+2) 0 W)):=Ld λW Y hd=>by
  have h1:=oH hd (by omega);rw[r.1.scode]at h1;exact h1
 have j:Up q.doSync/\q.doSync.size=p.size:=⟨r.1.sync,(DP.doSync_size q).trans r.2⟩
 obtain⟨V,v⟩:=nm q.doSync;rw[<-v]at B j;have f:=fk (g:=1) h4;obtain⟨y,n⟩:=nm (gj 1 p.size);obtain⟨hl,m⟩:=nm (hlf p.size);rw[<-n,<-m]at f;rw[<-m]
 have N:Hid (∀W Y,bE W V (c+2) Y->Calls prog 73 #[.agg Y,.int .u32 1] W λe w'=>e=.returned (.tuple #[.int .i64 y,.int .i64 hl])/\aa W w'):=Ld λW Y hd=>by
  have h1:=pV hd (by omega) 1;rw[j.2,<-n,<-m]at h1;exact h1
 have E:=j.1.wipe (l:=bZ y hl 1) (by show y+hl<=_;rw[j.2];exact f.2.1) (Nat.zero_le _);obtain⟨Z,o⟩:=nm (aB V (bZ y hl 1)).1
 have M:Hid (∀W Y,bE W V (c+2) Y->Calls prog 74 #[.agg Y,.int .i64 y,.int .i64 hl,.int .u32 1] W λe w'=>∃H S,e=.returned (.tuple #[.agg H,.agg S,.int .i64 0])/\bE w' Z (c+hl+2) H/\aa W w'):=Ld λW Y hd=>by
  refine(vi hd (by omega) y hl 1 f.1 (by rw[j.2];exact f.2.1) (by decide) (by decide)).mono ?_;rintro e w' ⟨H,S,he,U,-,-,u⟩;rw[E.1]at he;exact⟨H,S,he,by rw[o];exact U.up (by omega),u⟩
 rw[<-o]at E
 have O:Hid (∀W Y,bE W Z (c+hl+2) Y->cX 3 1 W->Calls prog 75 #[.agg Y,.int .u32 1] W (gm (ef p) (c+hl+3) 0 W)):=Ld λW Y hd J=>by
  have h1:=yN hd (by have:=m;unfold hlf at this;have:=(h.ok).s2;omega) 1 (by decide) J;have h2:ef p=(bU Z 1).1:=by rw[o,n,m,v,L];exact yk
  rw[(E.2.1.proc 1 (by have:=E.2.2;have:=j.2;omega)).1]at h1;rw[h2];exact h1
 have b:Hid (Bx prog bT w w [] (λw=>bE w p c X/\True)):=Ld (Bx.start ⟨h,trivial⟩ ((bq _ _ _).and kh.triv));have HQ:=Ld L;clear h ht hu h4 r j f E v o J L n m
 go_enter func33,ntmps33
 go_wp2_with (first
  |(refine dK b.out rfl rfl rfl cI R.out (by decide) ?_;clear b;intro z b1 b)
  |(refine bP b.out rfl rfl cI zR (by decide) ?_;clear b;intro z b2 b)
  |(refine eP 3 rfl ?_;refine aM 0 b.out rfl rfl rfl rfl underlying3 rfl HS.out ?_))
 go_loopw [4,5,6] (λi _ _ wr=>∃(k:Nat),k<=2/\i=.int .i64 k/\Hid (Hm w b1 b2 p c k wr)) (λi _ _ _=>2-(intOf i).toNat)
 case atStart=>exact⟨0,by omega,rfl,Ld ⟨X,R.out,b.out⟩⟩
 case round=>
  clear R HS b;obtain⟨k,hk,rfl,HF⟩:=hrel;obtain⟨X0,F,D⟩:=HF.out;have b:=Ld D;have b0:=Ld F;clear D F HF
  by_cases s:k<2
  ·have b':(k:Int)<2:=by omega
   have P:=Ld (C.out k s)
   go_wp2_with (first
    |(refine be 0 b.out rfl rfl rfl rfl rfl ?_)
    |(refine be 2 b.out rfl rfl rfl rfl rfl ?_)
    |(refine jS rfl _ [] rfl _ rfl _ GX ?_)
    |(go_at_call 32;refine(P.out _ _ b.out.r.1).mono ?_;intro e w3 t;have G:=b.out.dks t (λ_ _=>trivial) kh.triv;clear b t;obtain⟨I,rfl,d,b⟩:=G)
    |(refine bP b.out rfl rfl cI zR (by decide) ?_;clear b;intro z b5 b)
    |(refine gc 65 rfl ?_;refine aX 2 b.out rfl rfl rfl rfl rfl rfl d.out cI ?_;clear b;intro z b)
    |(refine gc 65 rfl ?_;refine aX 0 b.out rfl rfl rfl rfl rfl rfl d.out cI ?_;clear b;intro z b))
   exact⟨⟨k+1,by omega,by go_num,Ld ⟨I,d.out,b.out.init⟩⟩,by simp[intOf];omega⟩
  ·have b3:¬(k:Int)<2:=by omega
   obtain rfl:k=2:=by omega
   rw[<-HQ.out]at b;clear s C
   go_wp2_with (first
    |(refine be 0 b.out rfl rfl rfl rfl rfl ?_)
    |(go_at_call 72;refine(B.out _ _ b.out.r.1).mono ?_;intro e w3 t;have G:=b.out.dks t (λ_ _=>trivial) kh.triv;clear b t;obtain⟨I,rfl,d,b⟩:=G)
    |(go_at_call 73;refine(N.out _ _ b.out.r.1).mono ?_;rintro e w3 ⟨rfl,u⟩;replace b:=Ld (b.out.new u);clear u)
    |(go_at_call 74;refine(M.out _ _ b.out.r.1).mono ?_;rintro e w4 ⟨I,Y2,rfl,T,u⟩;have hB:=b.out.fsh u T;clear b u;have b:=Ld hB;have d:=Ld T.row;clear hB T)
    |(go_at_call 75;refine(O.out _ _ b.out.r.1 (HL.out.new b.out.nw)).mono ?_;intro e w3 t;have G:=b.out.dks t (λ_ _=>trivial) kh.triv;clear b t;obtain⟨I,rfl,d,b⟩:=G)
    |(refine gc 65 rfl ?_;refine aX 0 b.out rfl rfl rfl rfl rfl rfl d.out cI ?_;clear b;intro z b)
    |(refine gc 65 rfl ?_;refine aX 1 b.out rfl rfl rfl rfl rfl rfl d.out cI ?_;clear b;intro z b))
   exact bodyPost_ret (aE rfl _ _ _ _ _ rfl (b.out.blk 1 rfl) underlying65 rfl (by rw[d.out.sz];kernel_rfl)) rfl ⟨_,rfl,b.out.r.1,b.out.nw⟩
end Go.Proofs.YtfchcdbfalgdlaaGreatDoor
