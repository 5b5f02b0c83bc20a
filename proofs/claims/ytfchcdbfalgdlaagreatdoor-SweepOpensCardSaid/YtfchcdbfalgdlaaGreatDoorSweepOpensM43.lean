/- Texts of one proof. No condition but each one's own. -/
import Derived.Test.YtfchcdbfalgdlaaGreatDoorSweepOpensM41
import Derived.Test.YtfchcdbfalgdlaaGreatDoorSweepOpensM42
set_option maxHeartbeats 4000000
set_option maxRecDepth 100000
set_option linter.unusedVariables false
set_option linter.unusedSimpArgs false
namespace Go.Proofs.YtfchcdbfalgdlaaGreatDoor
open _root_.Go.Proofs.Tryz
open Go.RowKit Go.Sort Ieee
theorem xC{a b d f:Nat}(h1:yR a b d)(h2:yP ((a:Nat):Int) (b:Int) f)(i:a≤b):(gI d:Int)=(gI f:Int):=by
 obtain⟨-,h1⟩:=h1
 by_cases c:b=0
 ·have g:a=0:=by omega
  subst c g;rw[if_pos rfl]at h1;have:=h2.2;rw[show((0:Nat):Int)=0 from rfl,rz]at this;simp only[floatBits]at this;rw[show FloatKind.f64.format.div 0 0=none by decide+kernel]at this;simp only at this;subst h1;unfold gI;rw[this,show kD 9221120237041090561=true by decide+kernel];simp
 ·rw[if_neg c]at h1;have:=uJ h1 h2
  simpa using this
theorem DY{W w:World}{D F gd bs bf bt mm g3:Nat}{s:SW}{Z:Array Value}(h:ea W w F gd bs bf bt s mm)(g:aa W w)(hr:pA D w s g3 Z)(hT:jw s.t)(hm:mm≤1000000):
    Calls prog 37 #[.pointer (some ⟨F,0,none⟩),.agg Z] w fun e w'=>e=.returned (.bool true)∧aa w w':=by
 have b0:s.t.length≤mm∧s.l.size≤16384:=by
  obtain⟨gl,gt,v,X,m,E,h⟩:=h;refine⟨by rw[←h.ct,eH];exact h.mm.2,?_⟩;have h1:=h.lg.ok.fit;have h2:=h.dk.ok.s2;omega
 have hu:=hr.ok.used;have c8:Hid (∀c,aa w c→Calls prog 38 #[.agg Z] c fun e w'=>(∃r,e=.returned (.float .f64 r)∧yP ((s.l.used-iP s:Nat):Int) (s.l.used:Int) r)∧aa c w'):=Ld fun c i=>Ci (hr.new i) hT (by omega) (by omega)
 have HZ:=Ld hr.row;obtain⟨X,Y,A,c0,T,e,hD,G,b1,d,hS⟩:=hr.ex;have V:=b1.tb;have q:Hid (cG X Y):=Ld ⟨hD.row,G.row⟩
 have P:Hid (∀c,aa w c→Calls prog 17 #[.pointer (some ⟨F,0,none⟩)] c fun e w'=>∃g',e=.returned (.pointer (some ⟨g',0,none⟩))∧(∀W2,aa w' W2→Calls prog 84 #[.pointer (some ⟨g',0,none⟩),.slice A T.length c0] W2 fun e w2=>e=.returned (.bool true)∧aa W2 w2)∧aa c w'):=Ld fun c i=>by
  refine(yA (h.new i) (g.tr i)).mono ?_;rintro e w' ⟨⟨X',m',E',g',b',he,c9,d',h1,h2,-⟩,U⟩;exact⟨g',he,fun W2 c3=>DB (c9.new c3) (by omega) (by omega) A T.length c0 T (V.new ((i.tr U).tr c3)) (fun y hy=>(hS y hy).2) (by rw[d'];exact d),U⟩
 obtain⟨gn,I⟩:=nm s.gen;obtain⟨br,H⟩:=nm s.broken;obtain⟨us,c1⟩:=nm s.l.used;obtain⟨sz,c'⟩:=nm s.l.size;obtain⟨df,b7⟩:=nm (s.l.size-s.l.used);have e1:IntKind.i64.wrap ((sz:Int)-(us:Int))=(df:Int):=by rw[IntWalk.i64_in _ (by omega)];omega
 have c7:Hid (∀c,aa w c→Calls prog 18 #[.pointer (some ⟨F,0,none⟩)] c fun e w'=>e=.returned (.int .u32 gn)∧c=w'):=Ld fun c i=>by rw[I];exact AA (h.new i)
 have c4:Hid (∀c,aa w c→Calls prog 20 #[.pointer (some ⟨F,0,none⟩)] c fun e w'=>e=.returned (.bool br)∧c=w'):=Ld fun c i=>by rw[H];exact ux (h.new i)
 have c5:Hid (∀c,aa w c→Calls prog 19 #[.pointer (some ⟨F,0,none⟩)] c fun e w'=>e=.returned (.int .i64 df)∧aa c w'):=Ld fun c i=>by rw[b7];exact zt (h.new i)
 have c6:Hid (∀c,aa w c→Calls prog 12 #[.pointer (some ⟨F,0,none⟩)] c fun e w'=>(∃r,e=.returned (.float .f64 r)∧yR (s.l.used-iP s) s.l.used r)∧aa c w'):=Ld fun c i=>tc (h.new i) hm hT
 have z:Hid (Y[1]?=some (.int .i64 sz)∧Y[2]?=some (.int .i64 us)):=Ld (by rw[c',c1];exact G.nums);have j:Hid (Bx prog bT w w [] (fun _=>True)):=Ld (Bx.start trivial kQ.triv);rw[←I,←H]at e;obtain⟨n,hn⟩:=nm T.length;rw[←hn]at e P;clear h g hr hT hm b0 hu hD G V b1 d hS I H c1 c' b7 hn;have t:=Ld e
 go_enter func37,ntmps37
 go_upto_region 1 with(refine dJ j.out rfl rfl rfl dx HZ.out (by decide) ?_;clear j;intro J L j)
 obtain⟨S,hS⟩:∃S:World→Prop,∀w',S w'↔aa J w':=⟨_,fun _=>Iff.rfl⟩
 have f':Nonempty (HW S):=⟨⟨J,(hS _).2 (aa.refl _)⟩⟩
 have d:∀(p:HW S) (k:Nat) (v:Value),Z[k]?=some v→p.w.cell? ⟨L,k,none⟩=some v:=fun p k v hv=>(j.out.new ((hS _).1 p.h)).cell 0 rfl k hv
 have q1:∀p:HW S,p.w.cell? ⟨L,11,none⟩=some (.slice A n c0):=fun p=>d p 11 _ (by rw[t.out];exact q.out.c.1)
 have q2:∀p:HW S,p.w.cell? ⟨L,12,none⟩=some (.int .u32 gn):=fun p=>d p 12 _ (by rw[t.out];exact q.out.c.2.1)
 have q3:∀p:HW S,p.w.cell? ⟨L,13,none⟩=some (.bool br):=fun p=>d p 13 _ (by rw[t.out];exact q.out.c.2.2)
 have q4:∀p:HW S,p.w.cell? ⟨L,6,none⟩=some (.int .i64 sz):=fun p=>d p 6 _ (by rw[t.out];exact q.out.l 1 _ z.out.1)
 have q5:∀p:HW S,p.w.cell? ⟨L,7,none⟩=some (.int .i64 us):=fun p=>d p 7 _ (by rw[t.out];exact q.out.l 2 _ z.out.2)
 clear d e;refine ag S [(true,0),(true,2),(true,3),(false,1),(false,4),(true,5),(true,6),(true,8),(true,9),(false,7),(true,10),(true,11),(true,12),(true,13),(true,15),(true,16),(false,14),(true,17),(true,18),(true,19),(true,20),(true,22),(true,23),(true,24),(true,25),(true,26),(true,27),(true,28),(false,21),(true,29),(true,30),(true,31),(true,32),(true,35),(false,33),(false,34),(false,36),(false,37),(true,38),(true,39),(true,40)] (by kernel_rfl) (by kernel_rfl) ((hS _).2 (aa.dr (aa.refl _))) (fun _=>?_)
 iterate 3 (refine ae (o:=.mk ..) rfl (fun K b=>?_);go_simp;refine b _ ?_;clear b K)
 refine aj (o:=.mk ..) rfl (fun K b=>?_) (.inl rfl);go_simp;refine(P.out _ (j.out.nw.tr (aa.dr (aa.refl _)))).mono ?_;rintro e w2 ⟨g',rfl,R,g⟩;have B:Hid (aa J w2):=Ld ((aa.dr (aa.refl _)).tr g);have M:=Ld (R w2 (aa.refl _));go_simp;refine b.out _ _ (fun _=>(hS _).2 B.out) ?_;clear b K g R;refine aj (o:=.mk ..) rfl (fun K b=>?_) (.inl rfl);go_simp;refine M.out.mono ?_;rintro e w3 ⟨rfl,g⟩;have f:Hid (aa J w3):=Ld (B.out.tr g);go_simp;refine b.out _ _ (fun _=>(hS _).2 f.out) ?_;clear b K g M B
 iterate 4 (refine ae (o:=.mk ..) rfl (fun K b=>?_);go_simp;refine b _ ?_;clear b K)
 refine aj (o:=.mk ..) rfl (fun K b=>?_) (.inl rfl);go_simp;refine(c7.out _ (j.out.nw.tr f.out)).mono ?_;rintro e w4 ⟨rfl,rfl⟩;go_simp;refine b.out _ _ (fun _=>(hS _).2 f.out) ?_;clear b K
 iterate 6 (refine ae (o:=.mk ..) rfl (fun K b=>?_);go_simp;refine b _ ?_;clear b K)
 refine aj (o:=.mk ..) rfl (fun K b=>?_) (.inl rfl);go_simp;refine(c4.out _ (j.out.nw.tr f.out)).mono ?_;rintro e w4 ⟨rfl,rfl⟩;go_simp;refine b.out _ _ (fun _=>(hS _).2 f.out) ?_;clear b K
 iterate 11 (refine ae (o:=.mk ..) rfl (fun K b=>?_);go_simp;refine b _ ?_;clear b K)
 refine aj (o:=.mk ..) rfl (fun K b=>?_) (.inl rfl);go_simp;refine(c5.out _ (j.out.nw.tr f.out)).mono ?_;rintro e w5 ⟨rfl,g⟩;have u:Hid (aa J w5):=Ld (f.out.tr g);go_simp;refine b.out _ _ (fun _=>(hS _).2 u.out) ?_;clear b K g f
 iterate 4 (refine ae (o:=.mk ..) rfl (fun K b=>?_);go_simp;refine b _ ?_;clear b K)
 refine rK 0 (fun w' h=>j.out.new ((hS _).1 h)) rfl rfl rfl rfl rfl rfl (by rw[HZ.out.sz];exact dx) ?_;simp only[Act.put,bK,bM,bO];refine aj (o:=.mk ..) rfl (fun K b=>?_) (.inl rfl);go_simp;refine(c6.out _ (j.out.nw.tr u.out)).mono ?_;rintro e w6 ⟨⟨r1,rfl,b8⟩,g⟩;have l:Hid (aa J w6):=Ld (u.out.tr g);have N:=Ld b8;go_simp;refine b.out _ _ (fun _=>(hS _).2 l.out) ?_;clear b K g b8 u;refine aj (o:=.mk ..) rfl (fun K b=>?_) (.inl rfl);go_simp;refine(sR r1 N.out.1 w6).mono ?_;rintro e w7 ⟨rfl,rfl⟩;go_simp;refine b.out _ _ (fun _=>(hS _).2 l.out) ?_;clear b K;refine aj (o:=.mk ..) rfl (fun K b=>?_) (.inl rfl);go_simp;refine(c8.out _ (j.out.nw.tr l.out)).mono ?_;rintro e w8 ⟨⟨r2,rfl,b9⟩,g⟩;have C:Hid (aa J w8):=Ld (l.out.tr g);have O:=Ld b9;go_simp;refine b.out _ _ (fun _=>(hS _).2 C.out) ?_;clear b K g b9 l;refine aj (o:=.mk ..) rfl (fun K b=>?_) (.inl rfl);go_simp;refine(sR r2 O.out.1 w8).mono ?_;rintro e w9 ⟨rfl,rfl⟩;rw[←xC N.out O.out (Nat.sub_le _ _)];go_simp;refine b.out _ _ (fun _=>(hS _).2 C.out) ?_;clear b K
 iterate 3 (refine ae (o:=.mk ..) rfl (fun K b=>?_);go_simp;refine b _ ?_;clear b K)
 refine ao ?_;clear f' q1 q2 q3 q4 q5
 go_wp2_with fail
 go_ret;exact⟨rfl,j.out.nw.tr C.out⟩
end Go.Proofs.YtfchcdbfalgdlaaGreatDoor
namespace Go.Proofs.YtfchcdbfalgdlaaGreatDoor
open _root_.Go.Proofs.Tryz
open Go.RowKit Go.Sort
theorem Bx.fsh{c w w':World}{L:List mP}{R:World→Prop}{q:DP}{b:Nat}{X:Array Value}(h:Bx prog bT c w L R)(f:aa w w')(d:bQ w' q b X):Bx prog bT c w' L (fun w=>bQ w q b X∧True):=(h.call f d (bN _ _ _)).rel (fun g=>⟨g.2,trivial⟩) ((bN _ _ _).and kQ.triv)
theorem pG{w:World}{p:DP}{c:Nat}{X:Array Value}(h:bQ w p c X)(i:p.size<4):
    Calls prog 33 #[.agg X] w (fI p c 1 w):=by
 have d:=Ld h.row;have g:=Ld h.size;have j:(p.size:Int)<4:=by omega
 have b:Hid (Bx prog bT w w [] (fun w=>bQ w p c X)):=Ld (Bx.start h (bN _ _ _));clear h i
 go_enter func33,ntmps33
 go_wp2_with (first
  |(refine dJ b.out rfl rfl rfl cH d.out (by decide) ?_;clear b;intro f k b)
  |(refine bW b.out rfl rfl cH zR (by decide) ?_;clear b;intro f b2 b)
  |((with_reducible refine aA ⟨_,.load 3 _,_,_,_,_⟩ ?_);refine aR 0 b.out rfl rfl rfl rfl underlying3 rfl g.out ?_)
  |(refine bh 0 b.out rfl rfl rfl rfl rfl ?_)
  |((with_reducible refine aA ⟨_,.store 65 _ _,_,_,_,_⟩ ?_);refine bj 1 b.out rfl rfl rfl rfl rfl rfl d.out cH ?_;clear b;intro f b))
 exact bodyPost_ret (aI rfl _ _ _ _ _ rfl (b.out.blk 1 rfl) underlying65 rfl (by rw[d.out.sz];kernel_rfl)) rfl ⟨_,rfl,b.out.r,b.out.nw⟩
def FF(w:World)(c b2:Nat)(p:DP)(b k:Nat)(wr:World):Prop:=∃X,iL 5 X∧Bx prog bT w wr [⟨c,65,X⟩,⟨b2,65,Ba⟩] (fun w=>bQ w (oe p k) (b+k) X∧True)
theorem yi{w:World}{p:DP}{c:Nat}{X:Array Value}(h:bQ w p c X)(ht:c≤20000)(hu:Up p)(h4:4≤p.size)(L:cM 3 1 w):
    Calls prog 33 #[.agg X] w (fI (eb p) (c+hlf p.size+3) 0 w):=by
 have S:=Ld h.row;have HS:=Ld h.size;have HL:=Ld L;have b7:¬(p.size:Int)<4:=by omega
 have C:Hid (∀k<2,∀W Y,bQ W (oe p k) (c+k) Y→Calls prog 32 #[.agg Y,.int .i64 (k:Int),.agg (af aw)] W (fI (oe p (k+1)) (c+(k+1)) 0 W)):=Ld fun k hk W Y hd=>by
  have r:=ko hu k;have h1:=lS hd (by omega) (k:Int) (WalkArith.wf_i64 (by omega)) aX;rw[r.1.wcode (by omega) (by have:=r.2;omega)]at h1;exact h1
 have r:=ko hu 2;obtain⟨q,M⟩:=nm (oe p 2);rw[←M]at r
 have B:Hid (∀W Y,bQ W q (c+2) Y→Calls prog 72 #[.agg Y] W (fI q.doSync (c+2) 0 W)):=Ld fun W Y hd=>by
  have h1:=rY hd (by omega);rw[r.1.scode]at h1;exact h1
 have j:Up q.doSync∧q.doSync.size=p.size:=⟨r.1.sync,(DP.doSync_size q).trans r.2⟩
 obtain⟨Z,v⟩:=nm q.doSync;rw[←v]at B j;have f:=eO (g:=1) h4;obtain⟨y,n⟩:=nm (fH 1 p.size);obtain⟨hl,m⟩:=nm (hlf p.size);rw[←n,←m]at f;rw[←m]
 have O:Hid (∀W Y,bQ W Z (c+2) Y→Calls prog 73 #[.agg Y,.int .u32 1] W fun e w'=>e=.returned (.tuple #[.int .i64 y,.int .i64 hl])∧aa W w'):=Ld fun W Y hd=>by
  have h1:=oP hd (by omega) 1;rw[j.2,←n,←m]at h1;exact h1
 have F:=j.1.wipe (l:=bP y hl 1) (by show y+hl≤_;rw[j.2];exact f.2.1) (Nat.zero_le _);obtain⟨q3,o⟩:=nm (az Z (bP y hl 1)).1
 have N:Hid (∀W Y,bQ W Z (c+2) Y→Calls prog 74 #[.agg Y,.int .i64 y,.int .i64 hl,.int .u32 1] W fun e w'=>∃I T,e=.returned (.tuple #[.agg I,.agg T,.int .i64 0])∧bQ w' q3 (c+hl+2) I∧aa W w'):=Ld fun W Y hd=>by
  refine(tN hd (by omega) y hl 1 f.1 (by rw[j.2];exact f.2.1) (by decide) (by decide)).mono ?_;rintro e w' ⟨I,T,he,V,-,-,u⟩;rw[F.1]at he;exact⟨I,T,he,by rw[o];exact V.up (by omega),u⟩
 rw[←o]at F
 have P:Hid (∀W Y,bQ W q3 (c+hl+2) Y→cM 3 1 W→Calls prog 75 #[.agg Y,.int .u32 1] W (fI (eb p) (c+hl+3) 0 W)):=Ld fun W Y hd L=>by
  have h1:=wR hd (by have:=m;unfold hlf at this;have:=(h.ok).s2;omega) 1 (by decide) L;have h2:eb p=(bS q3 1).1:=by rw[o,n,m,v,M];exact wi
  rw[(F.2.1.proc 1 (by have:=F.2.2;have:=j.2;omega)).1]at h1;rw[h2];exact h1
 have b:Hid (Bx prog bT w w [] (fun w=>bQ w p c X∧True)):=Ld (Bx.start ⟨h,trivial⟩ ((bN _ _ _).and kQ.triv));have HQ:=Ld M;clear h ht hu h4 r j f F v o L M n m
 go_enter func33,ntmps33
 go_wp2_with (first
  |(refine dJ b.out rfl rfl rfl cH S.out (by decide) ?_;clear b;intro z b1 b)
  |(refine bW b.out rfl rfl cH zR (by decide) ?_;clear b;intro z b2 b)
  |((with_reducible refine aA ⟨_,.load 3 _,_,_,_,_⟩ ?_);refine aR 0 b.out rfl rfl rfl rfl underlying3 rfl HS.out ?_))
 go_loopw [4,5,6] (fun i _ _ wr=>∃(k:Nat),k≤2∧i=.int .i64 k∧Hid (FF w b1 b2 p c k wr)) (fun i _ _ _=>2-(intOf i).toNat)
 case atStart=>exact⟨0,by omega,rfl,Ld ⟨X,S.out,b.out⟩⟩
 case round=>
  clear S HS b;obtain⟨k,hk,rfl,HF⟩:=hrel;obtain⟨X0,G,E⟩:=HF.out;have b:=Ld E;have b0:=Ld G;clear E G HF
  by_cases s:k<2
  ·have b':(k:Int)<2:=by omega
   have R:=Ld (C.out k s)
   go_wp2_with (first
    |(refine bh 0 b.out rfl rfl rfl rfl rfl ?_)
    |(refine bh 2 b.out rfl rfl rfl rfl rfl ?_)
    |(refine jq rfl _ [] rfl _ rfl _ Fp ?_)
    |(go_at_call 32;refine(R.out _ _ b.out.r.1).mono ?_;intro e w3 t;have H:=b.out.dks t (fun _ _=>trivial) kQ.triv;clear b t;obtain⟨J,rfl,d,b⟩:=H)
    |(refine bW b.out rfl rfl cH zR (by decide) ?_;clear b;intro z b5 b)
    |((with_reducible refine aA ⟨_,.store 65 _ _,_,_,_,_⟩ ?_);refine bj 2 b.out rfl rfl rfl rfl rfl rfl d.out cH ?_;clear b;intro z b)
    |((with_reducible refine aA ⟨_,.store 65 _ _,_,_,_,_⟩ ?_);refine bj 0 b.out rfl rfl rfl rfl rfl rfl d.out cH ?_;clear b;intro z b))
   exact⟨⟨k+1,by omega,by go_num,Ld ⟨J,d.out,b.out.init⟩⟩,by simp[intOf];omega⟩
  ·have b3:¬(k:Int)<2:=by omega
   obtain rfl:k=2:=by omega
   rw[←HQ.out]at b;clear s C
   go_wp2_with (first
    |(refine bh 0 b.out rfl rfl rfl rfl rfl ?_)
    |(go_at_call 72;refine(B.out _ _ b.out.r.1).mono ?_;intro e w3 t;have H:=b.out.dks t (fun _ _=>trivial) kQ.triv;clear b t;obtain⟨J,rfl,d,b⟩:=H)
    |(go_at_call 73;refine(O.out _ _ b.out.r.1).mono ?_;rintro e w3 ⟨rfl,u⟩;have D:=b.out.new u;clear b u;have b:=Ld D;clear D)
    |(go_at_call 74;refine(N.out _ _ b.out.r.1).mono ?_;rintro e w4 ⟨J,Y2,rfl,U,u⟩;have D:=b.out.fsh u U;clear b u;have b:=Ld D;have d:=Ld U.row;clear D U)
    |(go_at_call 75;refine(P.out _ _ b.out.r.1 (HL.out.new b.out.nw)).mono ?_;intro e w3 t;have H:=b.out.dks t (fun _ _=>trivial) kQ.triv;clear b t;obtain⟨J,rfl,d,b⟩:=H)
    |((with_reducible refine aA ⟨_,.store 65 _ _,_,_,_,_⟩ ?_);refine bj 0 b.out rfl rfl rfl rfl rfl rfl d.out cH ?_;clear b;intro z b)
    |((with_reducible refine aA ⟨_,.store 65 _ _,_,_,_,_⟩ ?_);refine bj 1 b.out rfl rfl rfl rfl rfl rfl d.out cH ?_;clear b;intro z b))
   exact bodyPost_ret (aI rfl _ _ _ _ _ rfl (b.out.blk 1 rfl) underlying65 rfl (by rw[d.out.sz];kernel_rfl)) rfl ⟨_,rfl,b.out.r.1,b.out.nw⟩
end Go.Proofs.YtfchcdbfalgdlaaGreatDoor
