/- Texts of one proof. No condition but each one's own. -/
import Derived.Test.YtfchcdbfalgdlaaGreatDoorSweepOpensM43
import Derived.Test.YtfchcdbfalgdlaaGreatDoorSweepOpensM44
import Derived.SevenTiedAt
import Derived.Stop.Joined
set_option maxHeartbeats 4000000
set_option maxRecDepth 100000
set_option linter.unusedVariables false
set_option linter.unusedSimpArgs false
namespace Go.Proofs.YtfchcdbfalgdlaaGreatDoor
open _root_.Go.Proofs.Tryz
open Go.RowKit Go.Sort
theorem vR:∀t∈bT,t≠102∧t≠177∧t≠120∧t≠3∧t≠5∧t≠123∧t≠153:=by decide
theorem lv.mem{P:Program}{w:World}:∀{L:List mP},lv P w L→∀B∈L,ab w B.b B.t B.x
 |C::L,h,B,b=>by
  rcases List.mem_cons.1 b with rfl|b
  ·exact h.1.1
  ·exact lv.mem h.2.2 B b
section
variable {M:Nat→Prop}{W w w':World}{L:List mP}{R R':World→Prop}{p:DP}{tot gs gd bs bf bt mm:Nat}{X Z:Array Value}{s:SW}{v:Value}
theorem Bx.kps(h:Bx prog bT W w L R)(c:dI M W w w')(g:∀k,M k→∀t,¬aO t w k)(l:R' w')(m:kQ W.heap.size bT R'):Bx prog bT W w' L R':=
 ⟨h.bx.fr c fun B b i=>by
  obtain⟨h1,h2,d,f,-⟩:=vR _ (h.ty B b).1
  exact gj (fun j=>g _ j _ ⟨_,_,h.bx.mem B b⟩) h1.symm h2.symm d.symm f.symm ⟨_,_,h.bx.mem B b⟩ i,h.ty,c.nw h.nw,l,m⟩
theorem bQ.kps(h:bQ w p tot X)(b:dI M W w w')(c:∀k,M k→∀t,¬aO t w k):bQ w' p tot X:=
 h.fr b fun k d ht=>gj (fun f=>c k f _ ht) (by decide) (by decide) (by decide) (by decide) ht d
theorem pA.kps(h:pA W.heap.size w s tot Z)(g:dI M W w w')(f:∀k,M k→∀t,¬aO t w k):pA W.heap.size w' s tot Z:=by
 obtain⟨X,Y,A,c,T,e,h1,h2,i,j,l⟩:=h.ex;exact⟨⟨X,Y,A,c,T,e,h1.kps g f,h2.fr g (fun k b ht=>gj (fun d=>f k d _ ht) (by decide) (by decide) (by decide) (by decide) ht b),i.fr g (fun k b=>⟨b.1,fun ht=>gj (fun d=>f k d _ ht) (by decide) (by decide) (by decide) (by decide) ht b,fun ht=>gj (fun d=>f k d _ ht) (by decide) (by decide) (by decide) (by decide) ht b⟩),j,l⟩,h.ok⟩
theorem lY (n:Nat) (s:SW) (tot:Nat) (Z:Array Value):kQ n bT (fun w=>pA n w s tot Z):=⟨fun _ _ o h=>h.new o,fun w w' b t x ht f d hF h=>by
 obtain⟨X,Y,A,c,T,e,h1,h2,j,l,m⟩:=h.ex;obtain⟨-,-,-,-,g,-,i⟩:=vR _ ht
 exact⟨⟨X,Y,A,c,T,e,(bN _ _ _).st w w' b t x ht f d hF h1,(gW _ _).st w w' b t x ht f d hF h2,j.fr hF (fun k q=>by
  rw[show k=b from q]
  exact⟨f,aO.not_blk d i,aO.not_blk d g⟩),l,m⟩,h.ok⟩⟩
theorem go (base gd bs bf:Nat) (v:Value) (p:DP) {n:Nat}:kQ n bT (fun w=>Dk w base gd bs bf v p):=⟨fun _ _ g h=>h.new g,fun w w' b t x ht j c hF h=>h.fr hF (fun k i=>by
 obtain⟨-,-,d,f,-⟩:=vR _ ht;rw[show k=b from i]
 exact fN h c (ab.ne_ c h.blk d) f)⟩
theorem sv (W:World) (gs gd bs bf bt:Nat) (s:SW) (mm:Nat) {n:Nat}:kQ n bT (fun w=>ea W w gs gd bs bf bt s mm):=⟨fun _ _ y h=>h.new y,fun w w' b t x ht B c hF h=>by
 obtain⟨i,j,l,o,q,r,-⟩:=vR _ ht;obtain⟨u,gt,v,X,m,E,h⟩:=h;refine⟨u,gt,v,X,m,E,⟨h.blk.fr hF (fun e=>ab.ne_ c h.blk i e.symm),h.dk.fr hF (fun k d=>?_),h.lg.fr hF (fun e=>ab.ne_ c h.lg.blk j e.symm),h.tb.fr hF (fun e=>ab.ne_ c h.tb.blk r e.symm) (fun e=>?_) (fun k d g=>?_),h.lo,h.ne,h.ct,h.mm,h.gen,h.n4⟩⟩
 ·rw[show k=b from d];exact fN h.dk c (ab.ne_ c h.dk.blk l) o
 ·obtain⟨f,z,-⟩:=h.tb.map;exact aO.not_map z ⟨_,_,by rw[show bt=b from e];exact c⟩
 ·rw[show k=b from d]at g
  exact aO.not_blk c q (h.tb.xs _ g).2⟩
theorem jI(h:Dk w W.heap.size gd bs bf v p):∀k,iZ bs bf bs k→∀t,¬aO t w k:=fun k b t=>by
 rcases b with rfl|rfl|rfl
 ·exact aO.not_map h.ms
 ·exact aO.not_map h.mw
 ·exact aO.not_map h.ms
theorem AI(h:ea W w gs gd bs bf bt s mm):∀k,iZ bs bf bt k→∀t,¬aO t w k:=by
 obtain⟨b,gt,v,X,m,E,h⟩:=h;exact h.mps
end
theorem Dt (n:Nat) (W w:World) (b:aa W w) (h1:1≤n) (h2:n≤16384):Calls prog 22 #[.int .i64 n] w fun e w'=>∃gd bs bf,e= .returned (.tuple #[.pointer (some ⟨gd,0,none⟩),.nilIface])∧Dk w' W.heap.size gd bs bf (.slice none 0 0) (DP.new n)∧aa w w':=
 (new_ok n w W.heap.size b.size h1 h2).mono fun e w' ⟨c,hd,d⟩=>⟨_,_,_,c,hd,d⟩
theorem DU (n:Nat) (w:World) (b:(DP.new n).Ok):Calls prog 30 #[.int .i64 n] w fun e w'=>∃X,e= .returned (.agg X)∧bQ w' (DP.new n) 0 X∧aa w w':=
 (Ao (n:Int) w).mono fun e w' ⟨c,d⟩=>⟨_,c,⟨b,RP.new n,none,0,none,0,rfl,⟨fg.nil,fg.nil,by simp[RP.new,RP.Ok]⟩,Mt.new n,by simp[RP.new,RP.tot]⟩,d⟩
def Eo(W w:World)(gd bs bf:Nat)(p:DP)(e:Ending)(w':World):Prop:=
 match(opnS p).2.2 with
 |some s=>∃gs bt,e=.returned (.tuple #[.pointer (some ⟨gs,0,none⟩),.nilIface])∧ea W w' gs gd bs bf bt s (600*hlf p.size)∧dI (iZ bs bf bs) W w w'
 |none=>e=.returned (.tuple #[.pointer none,dG (opnS p).2.1])∧dI (iZ bs bf bs) W w w'
theorem DI{W w:World}{gd bs bf:Nat}{v:Value}{p:DP}(b:Dk w W.heap.size gd bs bf v p)(i:aa W w)(f:dp 4 2 W)(hu:Up p)(q:p.size≤3000)(j:iF p<4294967296):
    Calls prog 9 #[.pointer (some ⟨gd,0,none⟩)] w (Eo W w gd bs bf p):=by
 by_cases d:p.size<4
 ·have m:opnS p=(p,1,none):=by unfold opnS;rw [if_pos d]
  refine(tW b d).mono ?_;rintro e w' ⟨rfl,rfl⟩;unfold Eo;rw[m];exact⟨rfl,dI.new (aa.refl _)⟩
 ·have hl:=oS b.ok (n:=p.size) (g:=iF p) (by omega) rfl j;have o:hlf p.size≤1500:=by unfold hlf;omega
  refine(qL b i f hu (by omega) (by omega)).mono ?_;intro e w' h;unfold Eo;unfold mj at h
  cases ho:(opnS p).2.2 with
  |none=>rw[ho]at h;exact h
  |some s=>
   rw[ho]at h;obtain⟨gs,bt,k,c,-,-,l⟩:=h;exact⟨gs,bt,k,c.up (Nat.mul_le_mul_left _ hl),l⟩
theorem DV{D:Nat}{w:World}{p:DP}{tot:Nat}{X:Array Value}(h:bQ w p tot X)(ht:tot≤40000)(hu:Up p)(d:p.size≤3000)(m:iF p<4294967296)(b:D≤w.heap.size)(k:cM 3 1 w):
    Calls prog 35 #[.agg X] w (ii D (opnS p) (tot+hlf p.size) w):=by
 by_cases j:p.size<4
 ·refine(oO (D:=D) h j).mono ?_;rintro e w' ⟨Z,o,q,d,l⟩;refine⟨Z,o,q,fun s h=>?_,l⟩;obtain⟨⟨X,Y,A,c,T,f,h1,h2⟩,i⟩:=d s h;exact⟨⟨X,Y,A,c,T,f,h1.up (by omega),h2⟩,i⟩
 ·have hl:=oS h.ok (n:=p.size) (g:=iF p) (by omega) rfl m;have r:hlf p.size≤1500:=by unfold hlf;omega
  exact DW h ht hu (by omega) b k
theorem zT{p:DP}:((opnS p).2.2=none→(opnS p).2.1≠0)∧∀s,(opnS p).2.2=some s→(opnS p).2.1=0∧s.gen=iF p∧s.p.size=p.size∧s.broken=false:=by
 unfold opnS;split
 ·exact⟨fun _=>show(1:Int)≠0 by decide,fun s h=>by cases h⟩
 ·split
  ·exact⟨fun _=>show(2:Int)≠0 by decide,fun s h=>by cases h⟩
  ·dsimp only;split
   ·refine⟨fun h=>(by cases h),fun s h=>?_⟩;injection h with h;subst h;exact⟨rfl,rfl,pj _ _,rfl⟩
   ·exact⟨fun _=>show(2:Int)≠0 by decide,fun s h=>by cases h⟩
section
open Go.WideShapes Go.ChangeShapes
variable {H:Type}{enc:TypeId×Value→H}{w:World}
theorem xU{r:Reach}{g:Nat}{v:Value}{d:DataW H}{p:List MemPlace}(t:Value.okWide prog w r g 62 v)(h:DataW.Trod enc prog w 0 (fun _=>true) true 62 v d p)(u:Sz prog 62 d):
    ∃(A:Option Addr) (n c:Nat) (L:List (List Int)),v=.slice A n c∧n≤maxLen∧L.length=n∧Rd (fun b=>b<w.heap.size) w 64 A n (L.flatMap am)∧∀s∈L,aJ s:=by
 obtain⟨z,E,B,rfl⟩:=okWide_slice underlying62 t;obtain⟨f,o⟩:=h
 obtain⟨A,n,c,L,h1,h2,C,D,i,j,l,-⟩:=AM (k:=64) underlying62 am (by kernel_rfl) (by omega) aJ (fun cs m y hl ht _=>by
  obtain⟨s,e,q⟩:=yB hl ht
  exact⟨s,e.symm,q⟩) o u
 exact⟨A,n,c,L,h1,by omega,i,j,l⟩
end
theorem DS{p:Nat→Prop}{w:World}{A:Option Addr}{n:Nat}{L:List (List Int)}(h:Rd p w 64 A n (L.flatMap am))(q:L.length=n)(b:∀s∈L,aJ s){i:Nat}(hi:i<n):
    ∃(g o:Nat) (hl:i<L.length),A=some ⟨g,o,none⟩∧w.rangeAt g (o+i*64) (am L[i]):=by
 obtain⟨g,o,d,r,k,f⟩:=h.out (by omega) (by omega);have hl:i<L.length:=by omega
 refine⟨g,o,hl,d,fun j v c=>?_⟩
 have l:j<64:=by
  have:=(List.getElem?_eq_some_iff.1 c).1
  rwa[ah,(b _ (List.getElem_mem _)).1]at this
 have:=od am 64 L i j hl (fun x m=>by rw[ah,(b x m).1]) l;rw[Nat.add_assoc];exact f (i*64+j) v (by rw[this,c])
end Go.Proofs.YtfchcdbfalgdlaaGreatDoor
namespace Go.Proofs.YtfchcdbfalgdlaaGreatDoor
open _root_.Go.Proofs.Tryz
open Go.RowKit Go.Sort Go.Maps
theorem vj (W:World) (hL:dp 4 2 W):Calls prog 7 #[] W fun e w'=>e= .returned (.bool true)∧aa W w':=by
 have HL:=Ld hL;obtain⟨c5,c6,c7⟩:=Dy (p:=DP.new 20) (js.new (n:=20) (by decide) (by decide)).ok (Up.new 20) (by decide);obtain⟨s1,S,o2,o3,o4,o5,o6⟩:=c5.open_ [];rw[c7]at S;have g:=Ld (And.intro S (And.intro o2 (And.intro o3 (And.intro o4 (And.intro o5 o6)))));have f:=Ld (And.intro c6 (uF (Up.new 20) (p:=DP.new 20) (by decide)));clear hL c5 c6 c7 S o2 o3 o4 o5 o6;have kc:=fun(w:World) (C:Array Value) (n c:Nat)=>Lib.run_convert_bytes_const (P:=prog) w 33 5 C n c underlying33 underlying5
 go_enter func7,ntmps7
 go_wp2_with fail
 refine(Du (aa.refl W) 20 (by decide) (by decide)).mono ?_;rintro e w1 ⟨gd,rfl,⟨bs,bf,v1,c1,f'⟩,-⟩;have Y:=Ld c1;have z:=Ld f';clear c1 f'
 go_wp2_with fail
 refine(CQ Y.out z.out HL.out (Up.new 20) (by decide)).mono ?_;rintro e w2 ⟨rfl,⟨v2,c3⟩,c8⟩;have y:=Ld c3;have b1:Hid (aa W w2):=Ld (c8.nw z.out);clear c3 c8 Y z
 go_wp2_with fail
 refine(zQ y.out b1.out HL.out f.out.2.1 (by rw[f.out.1];decide) (by rw[f.out.1];decide) g.out.1 g.out.2.1).mono ?_;rintro e d ⟨gs,bt,rfl,g5,-,-,-⟩;have j:=Ld g5;have b':=Ld y.out.ok;clear g5 y b1
 have i3:∀(w:World) (o:Obj) (C:Array Value) (n c:Nat),(convert 33 33 (.slice (some ⟨w.heap.size+1,0,none⟩) n c)).run prog ((w.alloc o).alloc (.cells C 5))=.ok (.slice (some ⟨w.heap.size+1,0,none⟩) n c) ((w.alloc o).alloc (.cells C 5 (C.size,C.size+1))):=fun w o C n c=>by
  have:=kc (w.alloc o) C n c
  simpa using this
 go_wp2_with fail
 refine jG fun t i=>?_
 have B:Hid (aa d t):=Ld (by rw[i.out];exact(aa.refl _).al2 _ _ |>.al _);obtain⟨q,hq⟩:=nm (fun k=>aO 5 t k∨aO 92 t k);have T:Hid (Rd q t 1 (some ⟨d.heap.size,0,none⟩) 1 (am [97])):=Ld (uM (by rw[i.out];exact aa.al (aa.al (aa.refl _) _) _) (by rw[hq];exact .inl ⟨_,_,by rw[i.out];exact(Below.heap_alloc _ _ _ (by simp;omega)).trans ((Below.heap_alloc _ _ _ (by simp)).trans (World.alloc_heap_new d _))⟩))
 have b9:Hid (Rd q t 1 (some ⟨d.heap.size+1,0,none⟩) 1 (am [49])):=Ld (by
  have:=uM (P:=q) (x:=49) (w:=d.alloc (.cells #[.int .u8 97] 5 (1,2))) (W:=t) (by rw[i.out];exact aa.al (aa.refl _) _) (by rw[hq];exact .inl ⟨_,_,by rw[i.out];exact(Below.heap_alloc _ _ _ (by simp)).trans (World.alloc_heap_new _ _)⟩)
  simpa using this)
 have u:Hid (ab t (d.heap.size+1+1) 92 #[.slice (some ⟨d.heap.size,0,none⟩) 1 1,.slice (some ⟨d.heap.size+1,0,none⟩) 1 1,.bool false]):=Ld (by rw[i.out];exact ab.new' _ _ _ (by simp));have U:Hid (Rd q t 3 (some ⟨d.heap.size+1+1,0,none⟩) 1 [.slice (some ⟨d.heap.size,0,none⟩) 1 1,.slice (some ⟨d.heap.size+1,0,none⟩) 1 1,.bool false]):=Ld (Rd.ofBlk u.out 3 1 rfl (by rw[hq];exact .inr ⟨_,_,u.out⟩));have HQ:Hid (mQ W t q):=Ld (by rw[hq];exact fun k hk=>.inr hk);have V:=Ld (Bs j.out.ok (DJ f.out.2.1 b'.out (by rw[f.out.1];decide) g.out.1) g.out.2.2.2.1 (by rw[g.out.2.2.1];decide) g.out.2.2.2.2.1);clear i hq kc i3
 refine(uz (j.out.new B.out).st (j.out.new B.out).nw HL.out (by rw[f.out.1];decide) j.out.ok.tok (some ⟨d.heap.size+1+1,0,none⟩) 1 1 [⟨⟨some ⟨d.heap.size,0,none⟩,1,1,[97]⟩,⟨some ⟨d.heap.size+1,0,none⟩,1,1,[49]⟩,false⟩] U.out rfl (fun c hc=>by
  rw[List.mem_singleton]at hc;subst hc;exact⟨⟨T.out,fun x hx=>by simp at hx;omega⟩,⟨b9.out,fun x hx=>by simp at hx;omega⟩⟩) HQ.out (by decide) (fun c hc=>by
  rw[List.mem_singleton]at hc;subst hc
  exact⟨(show 1≤maxLen by decide),(show 1≤maxLen by decide)⟩)).mono ?_
 rintro e w5 ⟨rfl,l,c9⟩;have g7:([⟨⟨some ⟨d.heap.size,0,none⟩,1,1,[97]⟩,⟨some ⟨d.heap.size+1,0,none⟩,1,1,[49]⟩,false⟩]:List Ch).map cZ=[rh]:=rfl;rw[g7]at l⊢;obtain⟨K5,r,i',N,J⟩:=V.out;rw[i',bY];obtain⟨s5,g8⟩:=nm (eQ s1 [rh]).1;rw[←g8]at l r N J;have F:Hid (Ek W w5 gs gd bs bf bt s5 K5 (600*hlf (eb (DP.new 20)).size+600)):=Ld ⟨l,r,c9.nw (j.out.new B.out).nw⟩;obtain⟨s6,S,o2,o3,o4,o5,o6⟩:=r.open_ [];have D:=Ld (And.intro S (And.intro o2 (And.intro (o5.trans (by rw[N])) o6)));have c0:Hid (s5.p.size=20):=Ld (by rw[J,g.out.2.2.2.2.2,f.out.1];rfl);clear l c9 g7 r i' N J g8 S o2 o3 o4 o5 o6 V j T b9 u U HQ
 go_wp2_with fail
 refine(EB F.out none 0 0 [] Rd.nil (by decide) (fun k (hk:False)=>hk.elim)).mono ?_;rintro e w6 ⟨rfl,⟨v6,c4⟩,d'⟩;have b0:=Ld c4;have b3:Hid (aa W w6):=Ld (d'.nw F.out.nw);clear c4 d'
 go_wp2_with fail
 refine(zQ b0.out b3.out HL.out (Eh _ _) (by show 4≤s5.p.size;rw[c0.out];decide) (by show s5.p.size≤3000;rw[c0.out];decide) D.out.1 D.out.2.1).mono ?_;rintro e w7 ⟨i5,i4,rfl,g6,-,-,-⟩;have b8:=Ld g6;clear g6 b0 b3 F;have kc:=fun(w:World) (C:Array Value) (n c:Nat)=>Lib.run_convert_bytes_const (P:=prog) w 33 5 C n c underlying33 underlying5
 go_wp2_with fail
 clear kc;refine jG fun w8 O=>?_
 have b7:Hid (aa w7 w8):=Ld (by rw[O.out];exact(aa.refl _).al _);have i0:Hid (Rd (fun _=>True) w8 1 (some ⟨w7.heap.size,0,none⟩) 1 (am [97])):=Ld (uM (by rw[O.out];exact aa.refl _) trivial);clear O;refine(AB (b8.out.new b7.out).st (some ⟨w7.heap.size,0,none⟩) 1 1 [97] i0.out (fun x hx=>by simp at hx;omega) (by decide)).mono ?_;rintro e w9 ⟨⟨E,hE,A',c',rfl,g4⟩,g3⟩;have m:cY E=[([97],[49])]:=by rw[hE];exact List.perm_singleton.1 D.out.2.2.1
 have I:(E.lookup [97]).isSome=true∧(jz E [97]).xs=[49]:=by
  cases E with
  |nil=>simp[cY]at m
  |cons e E=>
   simp only[cY,List.map_cons,List.cons.injEq,Prod.mk.injEq]at m;obtain⟨⟨h1,h2⟩,-⟩:=m
   have hl:(e::E).lookup [97]=some e.2:=by
    rw[←h1];obtain⟨a,b⟩:=e;simp
   rw[hl];refine⟨rfl,?_⟩;unfold jz;rw[hl];exact h2
 have G:=Rd.own g4 rfl;rw[I.2]at G;rw[I.1];have i2:=eh (c:=c') G;have g9:strOfNums [49]=⟨#[49]⟩:=rfl;rw[g9]at i2;have i1:Hid (aa W w9):=Ld ((b8.out.nw.tr b7.out).tr g3);clear hE m I g4 G g3 g9
 go_wp2_with fail
 go_ret;exact⟨rfl,i1.out⟩
end Go.Proofs.YtfchcdbfalgdlaaGreatDoor
namespace Go.Proofs.YtfchcdbfalgdlaaGreatDoor
open _root_.Go.Proofs.Tryz
open Go.RowKit Go.Sort Go.ChangeShapes Go.WideShapes Go.ChangeAt
theorem laid_u32{W:World}{n:String}{d:DataW Unit}{r:List (String×DataW Unit)}{P:List MemPlace}{g t N:Nat}(L:List Int)(h:DataW.LaidVars prog W ((n,d)::r) P)(y:prog.globalNamed n=some g)(ht:(prog.globals[g]?).map (·.type)=some t)(hu:prog.underlying t=some (.array N 44))(hd:d=.agg (L.map fun x=>.lit (.int .u32 x)))(hl:L.length=N):
    (∀j,j<N→W.cell? ⟨g,j,none⟩=some (.int .u32 (at_ L j)))∧∃l,DataW.LaidVars prog W r l:=by
 obtain⟨g',S,cs,o,p,q,i,k,I,c,G,_⟩:=h;obtain rfl:=Option.some.inj (y.symm.trans i);obtain rfl:=Option.some.inj (ht.symm.trans k);refine⟨fun j F=>?_,_,G⟩;obtain⟨xs,m,_,ex,_,J,f⟩:=DataW.trod_array hu c;have B:prog.cellsOf 44=1:=by kernel_rfl
 have u:=f j F;rw[B,Nat.mul_one,List.getElem?_eq_getElem (by omega)]at u;obtain⟨z,C,D,_⟩:=DataW.trod_int underlying44 u
 have E:(xs.map (·.1))=L.map fun n=> .lit (.int .u32 n):=by
  have h0:=(Prod.mk.inj ex).1;rw[hd]at h0;exact(DataW.agg.inj h0).symm
 have b:(xs.map (·.1))[j]?=(L.map fun n=>(DataW.lit (.int .u32 n):DataW Unit))[j]? :=by rw[E]
 rw[List.getElem?_map,List.getElem?_map,List.getElem?_eq_getElem (by omega:j<xs.length),List.getElem?_eq_getElem (by omega:j<L.length),D]at b
 have O:z=at_ L j:=by
  simp only[Option.map_some,Option.some.injEq,DataW.lit.injEq,Lit.int.injEq,true_and]at b;unfold at_;rw[b,List.getD,List.getElem?_eq_getElem (by omega:j<L.length)];rfl
 rw[World.var?_cell y I j,←O]
 have:cs.toList[j]?=some (.int .u32 z):=by
  have h0:((cs.toList.drop j).take 1)[0]?=some (.int .u32 z):=by rw[C];rfl
  simpa using h0
 simpa using this
theorem tF{W:World}{g:Nat}(h:∀j,j<8→W.cell? ⟨g,j,none⟩=some (.int .u32 (at_ iH.list j))):W.rangeAt g 0 iH.arr.toList:=fun j v b=>by
 have c:j<8:=by
  have:=(List.getElem?_eq_some_iff.1 b).1;exact this
 rw[Nat.zero_add,h j c,←b];rcases (by omega:j=0∨j=1∨j=2∨j=3∨j=4∨j=5∨j=6∨j=7)with rfl|rfl|rfl|rfl|rfl|rfl|rfl|rfl<;>rfl
theorem AC{W:World}(h:laidMetH prog [("entrust/entrustref02.Constants",Rows.laid_entrust_entrustref02_Constants),("entrust/entrustref02.Initials",Rows.laid_entrust_entrustref02_Initials),("entrust/sha.constants",Rows.laid_entrust_sha_constants),("entrust/sha.initials",Rows.laid_entrust_sha_initials)] W):cM 3 1 W∧dp 4 2 W:=by
 rw[MakeChecks.laidMetH_plain _ _ _ (by kernel_rfl)]at h;obtain⟨j,h,-,-⟩:=h;obtain⟨h1,d,h⟩:=laid_u32 kL h (by kernel_rfl) (by kernel_rfl) underlying250 rfl rfl;obtain⟨h2,f,h⟩:=laid_u32 iH.list h (by kernel_rfl) (by kernel_rfl) underlying243 rfl rfl;obtain⟨b,g,h⟩:=laid_u32 kL h (by kernel_rfl) (by kernel_rfl) underlying250 rfl rfl;obtain⟨c,i,h⟩:=laid_u32 iH.list h (by kernel_rfl) (by kernel_rfl) underlying243 rfl rfl;exact⟨⟨h1,tF h2⟩,⟨b,tF c⟩⟩
end Go.Proofs.YtfchcdbfalgdlaaGreatDoor
namespace Go.Proofs.YtfchcdbfalgdlaaGreatDoor
open _root_.Go.Proofs.Tryz
open Go.RowKit Go.Sort
theorem Aq:fh prog 68 64:=⟨⟨_,underlying68,rfl⟩,by kernel_rfl⟩
theorem FI:(prog.info? 68).map (fun i=>(i.zero,i.size))=some (some (.agg (af aw)),(af aw).size):=by kernel_rfl
theorem Ea{s:List Int}(h:aJ s):iL 64 (af s):=⟨by rw[au,h.1],bw s⟩
theorem Dp{p:DP}(c:p.Ok):iF p<4294967296:=by
 have lt:∀a,gP p a<4294967296:=fun a=>by
  unfold gP;split
  ·have b:=c.rget (a:Int);have h1:=eC (xs:=(p.rget (a:Int)).take 4) (fun x d=>b.2 x (List.mem_of_mem_take d));rw[List.length_take,b.1]at h1;exact h1
  ·decide
 have h1:=lt 0;have h2:=lt 1;unfold iF;omega
structure Fl(W:World)(gd bs bf b7 n:Nat)(k:Nat)(wr:World):Prop where
 ex:∃v p X,Bx prog bT W wr [⟨b7,65,X⟩] (fun w=>bQ w p k X∧Dk w W.heap.size gd bs bf v p)∧iL 5 X∧p.size=n∧Up p
theorem tX(A:Option Addr)(n c:Nat)(L:List (List Int))(fm:Bool)(W:World)(hn:n≤maxLen)(hL:L.length=n)(hR:Rd (fun b=>b<W.heap.size) W 64 A n (L.flatMap am))(hS:∀s∈L,aJ s)(hT:cM 3 1 W∧dp 4 2 W):
    Calls prog 5 #[.slice A n c,.bool fm] W fun e w'=>e=.returned (.bool true)∧aa W w':=by
 have k3:=Ld hL;have HR:=Ld hR;have HS:=Ld hS;have HT:=Ld hT;have b8:=Ld (vj W hT.2);unfold maxLen at hn;clear hL hR hS hT
 by_cases j7:1≤n∧n≤40
 rotate_left
 ·have hh:(n:Int)<1∨(1≤(n:Int)∧40<(n:Int)):=by omega
  clear j7;rcases hh with h1|⟨h1,h2⟩
  ·go_enter func5,ntmps5
   go_wp2_with (go_at_call 7;refine b8.out.mono ?_;rintro e w' ⟨rfl,f⟩;have HN:=Ld f;clear f)
   go_ret;exact⟨rfl,HN.out⟩
  ·go_enter func5,ntmps5
   go_wp2_with (go_at_call 7;refine b8.out.mono ?_;rintro e w' ⟨rfl,f⟩;have HN:=Ld f;clear f)
   go_ret;exact⟨rfl,HN.out⟩
 obtain⟨j4,g6⟩:=j7;have l4:1≤(n:Int):=by omega
 have j5:(n:Int)≤40:=by omega
 have j6:decide (40<(n:Int))=false:=decide_eq_false (by omega);have i3:Hid (∀w,aa W w→Calls prog 22 #[.int .i64 n] w fun e w'=>∃gd bs bf,e=.returned (.tuple #[.pointer (some ⟨gd,0,none⟩),.nilIface])∧Dk w' W.heap.size gd bs bf (.slice none 0 0) (DP.new n)∧aa w w'):=Ld fun w f=>Dt n W w f j4 (by omega)
 have d:Hid (Bx prog bT W W [] (fun _=>True)):=Ld (Bx.start trivial kQ.triv);have V:=Ld (And.intro j4 g6)
 go_enter func5,ntmps5
 go_upto_region 9 with (first
  |(go_at_call 7;refine b8.out.mono ?_;rintro e w1 ⟨rfl,f⟩;have g:=d.out.new f;clear d f;have d:=Ld g;clear g)
  |(go_at_call 22;refine(i3.out _ d.out.nw).mono ?_;rintro e w2 ⟨gd,bs,bf,rfl,P,f⟩;have i4:=Ld P.ok;have g:=(d.out.call f P (go _ _ _ _ _ _)).rel (fun h=>h.2) (go _ _ _ _ _ _);clear d f P;have d:=Ld g;clear g)
  |(go_at_call 30;refine(DU n _ i4.out).mono ?_;rintro e w3 ⟨X0,rfl,P,f⟩;have c9:=Ld P.row;have g:=(d.out.call f P (bN _ _ _)).rel (R':=fun w=>bQ w (DP.new n) 0 X0∧Dk w W.heap.size gd bs bf (.slice none 0 0) (DP.new n)) (fun h=>⟨h.2,h.1⟩) ((bN _ _ _).and (go _ _ _ _ _ _));clear d f P;have d:=Ld g;clear g)
  |(refine bW d.out rfl rfl cH zR (by decide) ?_;clear d;intro w1 b7 d)
  |((with_reducible refine aA ⟨_,.store 65 _ _,_,_,_,_⟩ ?_);refine bj 0 d.out rfl rfl rfl rfl rfl rfl c9.out cH ?_;clear d;intro w4 d))
 have i0:Hid (Fl W gd bs bf b7 n 0 w4):=Ld ⟨⟨.slice none 0 0,DP.new n,X0,d.out,c9.out,rfl,Up.new n⟩⟩;clear d c9 i4 i3 b8
 go_wp2_with fail
 go_loopw [8,9,40] (fun _ _ i wr=>∃(k:Nat),k≤n∧i=.int .i64 k∧Hid (Fl W gd bs bf b7 n k wr)) (fun _ _ i _=>n-(intOf i).toNat)
 case atStart=>exact⟨0,Nat.zero_le _,rfl,i0⟩
 case round=>
  clear i0;obtain⟨k,hk,rfl,HI⟩:=hrel;obtain⟨v,p,X,g,hX,b3,k1⟩:=HI.out.ex;have d:=Ld g;have HX:=Ld hX;have u:=Ld (And.intro b3 k1);clear HI g hX b3 k1
  by_cases g5:k<n
  ·have i1:=Ld g5;have l3:(k:Int)<(n:Int):=by omega
   have l9:(0:Int)≤(k:Int):=by omega
   obtain⟨ga,oa,hl,rfl,C⟩:=DS HR.out k3.out HS.out g5;obtain⟨s,U⟩:=nm L[k];rw[←U]at C;have b':Hid (aJ s):=Ld (by rw[U];exact HS.out _ (List.getElem_mem _));have i9:Hid (∀W',aa W W'→W'.rangeAt ga (oa+k*64) (am s)):=Ld fun W' f j v hv=>f.cell_ (C j v hv)
   have b0:p.wcode (k:Int)=0:=u.out.2.wcode (by omega) (by rw[u.out.1];omega);obtain⟨p2,b1⟩:=nm (p.doWrite (k:Int) s);have i5:Hid (p2.size=n∧Up p2):=Ld ⟨by rw[b1,DP.doWrite_size];exact u.out.1,by rw[b1];exact u.out.2.write _ _⟩
   have k5:Hid (∀w,Dk w W.heap.size gd bs bf v p→Calls prog 31 #[.pointer (some ⟨gd,0,none⟩),.int .i64 (k:Int),.agg (af s)] w fun e w'=>e=.returned .nilIface∧(∃v',Dk w' W.heap.size gd bs bf v' p2)∧dI (iZ bs bf bs) W w w'):=Ld fun w hd=>by
    have h1:=iY hd (k:Int) b'.out;rw[b0,bY,←b1]at h1;exact h1.mono fun e w' ⟨he,v',l1,hf,_⟩=>⟨he,⟨v',l1⟩,dI.of hf (nX hd (.inl rfl) (.inr (.inl rfl)))⟩
   have k6:Hid (∀w,bQ w p k X→Calls prog 32 #[.agg X,.int .i64 (k:Int),.agg (af s)] w (fI p2 (k+1) 0 w)):=Ld fun w hd=>by
    have h1:=lS hd (by omega) (k:Int) (WalkArith.wf_i64 (by omega)) b'.out;rw[b0,←b1]at h1;exact h1
   clear C U b0 b1 hl
   go_wp2_with (first
    |((with_reducible refine aA ⟨_,.load 68 _,_,_,_,_⟩ ?_);refine bh 1 d.out rfl rfl rfl rfl rfl ?_)
    |((with_reducible refine aA ⟨_,.load 68 _,_,_,_,_⟩ ?_);refine cF rfl _ rfl rfl (i9.out _ d.out.nw) underlying68 rfl (by rw[ah,b'.out.1];rfl) ?_)
    |((with_reducible refine aA ⟨_,.load 65 _,_,_,_,_⟩ ?_);refine bh 0 d.out rfl rfl rfl rfl rfl ?_)
    |(refine bW d.out rfl rfl Aq FI (by decide) ?_;clear d;intro w5 b9 d)
    |((with_reducible refine aA ⟨_,.store 68 _ _,_,_,_,_⟩ ?_);refine bj 1 d.out rfl rfl rfl rfl rfl rfl (Ea b'.out) Aq ?_;clear d;intro w6 d)
    |(go_at_call 31;refine(k5.out _ d.out.r.2).mono ?_;rintro e w7 ⟨rfl,⟨v7,P⟩,z⟩;have g:=d.out.kps (R':=fun w=>bQ w p k X∧Dk w W.heap.size gd bs bf v7 p2) z (jI d.out.r.2) ⟨d.out.r.1.kps z (jI d.out.r.2),P⟩ ((bN _ _ _).and (go _ _ _ _ _ _));clear d z P;have d:=Ld g;clear g)
    |(go_at_call 32;refine(k6.out _ d.out.r.1).mono ?_;intro e w8 U;have hb:=d.out.dks U (fun _ h=>h.2) (go _ _ _ _ _ _);clear d U;obtain⟨X8,rfl,l,d⟩:=hb)
    |((with_reducible refine aA ⟨_,.store 65 _ _,_,_,_,_⟩ ?_);refine bj 0 d.out rfl rfl rfl rfl rfl rfl l.out cH ?_;clear d;intro J d))
   have k2:Hid (Fl W gd bs bf b7 n (k+1) J):=Ld ⟨⟨v7,p2,X8,d.out.init,l.out,i5.out⟩⟩;clear d l HX u i5 i9 b';go_roundw
   case rel=>exact⟨k+1,i1.out,by go_num,k2⟩
   case measure=>simp[intOf];have:=i1.out;omega
  ·have l8:¬(k:Int)<(n:Int):=by omega
   have c1:k=n:=by omega
   subst c1;clear g5;have HU:Hid (∀(L:List mP) (w:World) (q:DP) (X:Array Value) (v:Value) (t:Nat),t≤100→Bx prog bT W w L (fun w=>bQ w q t X∧Dk w W.heap.size gd bs bf v q)→Bx prog bT W w L (fun w=>bQ w q 100 X∧Dk w W.heap.size gd bs bf v q)):=Ld fun _ _ _ _ _ _ ht hb=>hb.rel (fun hh=>⟨hh.1.up ht,hh.2⟩) ((bN _ _ _).and (go _ _ _ _ _ _))
   have l2:fm=false∨(fm=true∧k<4)∨(fm=true∧4≤k):=by
    cases fm with
    |false=>exact .inl rfl
    |true=>
     by_cases h4:k<4
     ·exact .inr (.inl ⟨rfl,h4⟩)
     ·exact .inr (.inr ⟨rfl,by omega⟩)
   rcases l2 with rfl|⟨rfl,h4⟩|⟨rfl,h4⟩
   focus
    go_upto_region 22 with fail
    have HZ:Hid (∃q F v1,Bx prog bT W wr [⟨b7,65,F⟩] (fun w=>bQ w q 100 F∧Dk w W.heap.size gd bs bf v1 q)∧iL 5 F∧q.size=k∧Up q):=Ld ⟨p,X,v,HU.out _ _ _ _ _ _ (by have:=V.out;omega) d.out,HX.out,u.out⟩;clear d HU HX u
   rotate_left
   focus
    have G:Hid (∀w,Dk w W.heap.size gd bs bf v p→Calls prog 14 #[.pointer (some ⟨gd,0,none⟩)] w fun e w'=>e=.returned (dG 1)∧w=w'):=Ld fun w hd=>rC hd (by rw[u.out.1];omega)
    have N:Hid (∀w,bQ w p k X→Calls prog 33 #[.agg X] w (fI p k 1 w)):=Ld fun w hd=>pG hd (by rw[u.out.1];omega)
    obtain⟨ev,r⟩:=nm (dG 1);have O:Hid (∀W,Calls prog 34 #[ev] W fun e w'=>e=.returned (.int .i64 1)∧W=w'):=Ld fun W=>by rw[r];exact oy 1 W
    rw[←r]at G;clear r h4
    go_upto_region 22 with (first
     |(go_at_call 14;refine(G.out _ d.out.r.2).mono ?_;rintro e w5 ⟨rfl,rfl⟩)
     |(go_at_call 33;refine(N.out _ d.out.r.1).mono ?_;intro e w8 U;have hb:=d.out.dks U (fun _ h=>h.2) (go _ _ _ _ _ _);clear d U;obtain⟨X8,rfl,l,d⟩:=hb)
     |(go_at_call 34;refine(O.out _).mono ?_;rintro e w5 ⟨rfl,rfl⟩)
     |((with_reducible refine aA ⟨_,.load 65 _,_,_,_,_⟩ ?_);first|(refine bh 0 d.out rfl rfl rfl rfl rfl ?_)|(refine bh 1 d.out rfl rfl rfl rfl rfl ?_))
     |(refine bW d.out rfl rfl cH zR (by decide) ?_;clear d;intro J k8 d)
     |((with_reducible refine aA ⟨_,.store 65 _ _,_,_,_,_⟩ ?_);first|(refine bj 1 d.out rfl rfl rfl rfl rfl rfl l.out cH ?_;clear d;intro J d)|(refine bj 0 d.out rfl rfl rfl rfl rfl rfl l.out cH ?_;clear d;intro J d)))
    have HZ:Hid (∃q F v1,Bx prog bT W J [⟨b7,65,F⟩] (fun w=>bQ w q 100 F∧Dk w W.heap.size gd bs bf v1 q)∧iL 5 F∧q.size=k∧Up q):=Ld ⟨p,X8,v,HU.out _ _ _ _ _ _ (by have:=V.out;omega) d.out.init,l.out,u.out⟩;clear d HU HX u l G N O
   rotate_left
   focus
    have G:Hid (∀w,Dk w W.heap.size gd bs bf v p→aa W w→Calls prog 14 #[.pointer (some ⟨gd,0,none⟩)] w fun e w'=>e=.returned .nilIface∧(∃v',Dk w' W.heap.size gd bs bf v' (eb p))∧dI (iZ bs bf bs) W w w'):=Ld fun w hd f=>CQ hd f HT.out.2 u.out.2 (by rw[u.out.1];omega)
    have N:Hid (∀w,bQ w p k X→aa W w→Calls prog 33 #[.agg X] w (fI (eb p) (k+hlf p.size+3) 0 w)):=Ld fun w hd f=>yi hd (by have:=V.out;omega) u.out.2 (by rw[u.out.1];omega) (HT.out.1.new f)
    have c':=uF u.out.2 (by rw[u.out.1];omega);have c8:Hid (k+hlf p.size+3≤100):=Ld (by rw[u.out.1];have:=V.out;unfold hlf;omega);obtain⟨q,B⟩:=nm (eb p);obtain⟨tq,g9⟩:=nm (k+hlf p.size+3);rw[←B]at G c';rw[←B,←g9]at N;rw[←g9]at c8;have i6:Hid (q.size=k∧Up q):=Ld ⟨c'.2.trans u.out.1,c'.1⟩;clear B g9 h4 c'
    go_upto_region 22 with (first
     |(go_at_call 14;refine(G.out _ d.out.r.2 d.out.nw).mono ?_;rintro e w5 ⟨rfl,⟨v7,P⟩,z⟩;have g:=d.out.kps (R':=fun w=>bQ w p k X∧Dk w W.heap.size gd bs bf v7 q) z (jI d.out.r.2) ⟨d.out.r.1.kps z (jI d.out.r.2),P⟩ ((bN _ _ _).and (go _ _ _ _ _ _));clear d z P;have d:=Ld g;clear g)
     |(go_at_call 33;refine(N.out _ d.out.r.1 d.out.nw).mono ?_;intro e w8 U;have hb:=d.out.dks U (fun _ h=>h.2) (go _ _ _ _ _ _);clear d U;obtain⟨X8,rfl,l,d⟩:=hb)
     |(go_at_call 34;refine(rO _).mono ?_;rintro e w5 ⟨rfl,rfl⟩)
     |((with_reducible refine aA ⟨_,.load 65 _,_,_,_,_⟩ ?_);first|(refine bh 0 d.out rfl rfl rfl rfl rfl ?_)|(refine bh 1 d.out rfl rfl rfl rfl rfl ?_))
     |(refine bW d.out rfl rfl cH zR (by decide) ?_;clear d;intro J k8 d)
     |((with_reducible refine aA ⟨_,.store 65 _ _,_,_,_,_⟩ ?_);first|(refine bj 1 d.out rfl rfl rfl rfl rfl rfl l.out cH ?_;clear d;intro J d)|(refine bj 0 d.out rfl rfl rfl rfl rfl rfl l.out cH ?_;clear d;intro J d)))
    have HZ:Hid (∃q F v1,Bx prog bT W J [⟨b7,65,F⟩] (fun w=>bQ w q 100 F∧Dk w W.heap.size gd bs bf v1 q)∧iL 5 F∧q.size=k∧Up q):=Ld ⟨q,X8,v7,HU.out _ _ _ _ _ _ c8.out d.out.init,l.out,i6.out⟩;clear d HU HX u l G N i6 c8
   all_goals as_aux_lemma=>
    obtain⟨q,F,v1,g,j0,j9,g8⟩:=HZ.out;have d:=Ld g;have l7:=Ld j0;have j8:=g.r.1.ok;have g3:=Dp j8;have g7:q.size≤40:=by rw[j9];exact V.out.2
    have y:Hid (∀w,Dk w W.heap.size gd bs bf v1 q→aa W w→Calls prog 9 #[.pointer (some ⟨gd,0,none⟩)] w (Eo W w gd bs bf q)):=Ld fun w hd f=>DI hd f HT.out.2 g8 (by omega) g3
    have I:Hid (∀w,bQ w q 100 F→aa W w→Calls prog 35 #[.agg F] w (ii W.heap.size (opnS q) (100+hlf q.size) w)):=Ld fun w hd f=>DV hd (by omega) g8 (by omega) g3 f.size (HT.out.1.new f)
    unfold Eo at y;unfold ii at I;have o:=zT (p:=q);have D:=fun s=>BT (p:=q) (s:=s)
    obtain⟨so,c4⟩:=nm (opnS q).2.2;obtain⟨co,c0⟩:=nm (opnS q).2.1;rw[←c4,←c0]at o;rw[←c4]at y D;rw[←c0,←c4]at I
    have y:Hid (∀w,Dk w W.heap.size gd bs bf v1 q→aa W w→Calls prog 9 #[.pointer (some ⟨gd,0,none⟩)] w fun e w'=>(∃s,so=some s∧∃gs bt,e= .returned (.tuple #[.pointer (some ⟨gs,0,none⟩),.nilIface])∧ea W w' gs gd bs bf bt s (600*hlf q.size)∧dI (iZ bs bf bs) W w w')∨(so=none∧e= .returned (.tuple #[.pointer none,dG co])∧dI (iZ bs bf bs) W w w')):=Ld fun w hd f=>(y.out w hd f).mono fun e w' h=>by
     rw[c0];clear I o D
     cases so with
     |none=>exact .inr ⟨rfl,h⟩
     |some s=>exact .inl ⟨s,rfl,h⟩
    have hh:hlf q.size≤19:=by unfold hlf;omega
    obtain⟨B,g4⟩:=nm (hlf q.size);rw[←g4]at y I hh;have i':=Ld g4;clear g j0 j9 g8 j8 g3 g7 c4 c0 g4 HZ
    cases so with
    |none=>
     have l5:co≠0:=o.1 rfl;have m':(co==0)=false:=by simpa using l5
     obtain⟨ev,r⟩:=nm (dG co);have O:Hid (∀W,Calls prog 34 #[ev] W fun e w'=>e=.returned (.int .i64 co)∧W=w'):=Ld fun W=>by rw[r];exact oy co W
     rw[←r]at y;clear r o D
     go_wp2_with (first
      |(go_at_call 9;refine(y.out _ d.out.r.2 d.out.nw).mono ?_;rintro e w5 (⟨s,h0,-⟩|⟨-,rfl,z⟩);(cases h0);have g:=d.out.kps (R':=fun w=>bQ w q 100 F) z (jI d.out.r.2) (d.out.r.1.kps z (jI d.out.r.2)) (bN _ _ _);clear d z;have d:=Ld g;clear g)
      |((with_reducible refine aA ⟨_,.load 65 _,_,_,_,_⟩ ?_);refine bh 0 d.out rfl rfl rfl rfl rfl ?_)
      |(go_at_call 35;refine(I.out _ d.out.r d.out.nw).mono ?_;rintro e w6 ⟨Z,rfl,hZ,-,f⟩;have d':=Ld hZ;have g:=d.out.new f;clear d f hZ;have d:=Ld g;clear g)
      |(refine bW d.out rfl rfl dx zS (by decide) ?_;clear d;intro J k9 d)
      |((with_reducible refine aA ⟨_,.store 79 _ _,_,_,_,_⟩ ?_);refine bj 1 d.out rfl rfl rfl rfl rfl rfl d'.out dx ?_;clear d;intro J d)
      |(go_at_call 34;refine(O.out _).mono ?_;rintro e w7 ⟨rfl,rfl⟩))
     go_ret;exact⟨rfl,d.out.nw⟩
    |some s=>
     obtain⟨b0,j1,b3,l'⟩:=o.2 s rfl;have c1:=D s rfl;subst b0;have c6:=Ld (And.intro j1 (And.intro b3 c1))
     have Y:Hid (∀w gs bt,ea W w gs gd bs bf bt s (600*B)→jw s.t∧s.t.length≤1000000∧4≤s.p.size∧s.gen<4294967296):=Ld fun w gs bt h=>by
      have h1:=h.tok c6.out.2.2;obtain⟨gl,gt,v,X,m,E,h⟩:=h;exact⟨h1.1,by omega,h.n4,h.gen⟩
     obtain⟨s2,c3⟩:=nm (bm s).1;obtain⟨c2,f'⟩:=nm (bm s).2;have c5:Hid (s2.t=s.t):=Ld (by rw[c3];exact vF s);obtain⟨mm,j3⟩:=nm (600*B);rw[←j3]at y Y;have j2:mm≤1000000:=by omega
     have i2:=Ld j2;obtain⟨ev,r⟩:=nm (dG c2);have O:Hid (∀W,Calls prog 34 #[ev] W fun e w'=>e=.returned (.int .i64 c2)∧W=w'):=Ld fun W=>by rw[r];exact oy c2 W
     have k4:Hid (∀w gs bt,ea W w gs gd bs bf bt s mm→aa W w→Calls prog 16 #[.pointer (some ⟨gs,0,none⟩)] w fun e w'=>e=.returned ev∧ea W w' gs gd bs bf bt s2 mm∧dI (iZ bs bf bt) W w w'):=Ld fun w gs bt h f=>by
      rw[r,f',c3];exact qN h f HT.out.2 i2.out (Y.out _ _ _ h).1
     have c7:Hid (∀w gs bt Z,ea W w gs gd bs bf bt s2 mm→pA W.heap.size w s (100+B) Z→jw s.t∧s.t.length≤1000000∧4≤s.p.size∧s.gen<4294967296→aa W w→Calls prog 36 #[.agg Z] w fun e w'=>∃Z',e=.returned (.tuple #[.agg Z',.int .i64 c2])∧pA W.heap.size w' s2 (100+B+(B+1)*(B+1)) Z'∧aa w w'):=Ld fun w gs bt Z _ hr hp f=>by
      have h1:=At hr hp.1 hp.2.2.1 hp.2.2.2 hp.2.1 (by rw[c6.out.2.1,←i'.out];have:(B+1)*(B+1)≤20*20:=Nat.mul_le_mul (by omega) (by omega);omega) (HT.out.1.new f);rw[c6.out.2.1,←i'.out]at h1;unfold nJ at h1;rw[←c3,←f']at h1;exact h1
     have j':Hid (∀w gs bt Z,ea W w gs gd bs bf bt s2 mm→pA W.heap.size w s2 (100+B+(B+1)*(B+1)) Z→jw s.t→aa W w→Calls prog 37 #[.pointer (some ⟨gs,0,none⟩),.agg Z] w fun e w'=>e=.returned (.bool true)∧aa w w'):=Ld fun w gs bt Z h hr ht f=>DY h f hr (by rw[c5.out];exact ht) i2.out
     obtain⟨t2,k0⟩:=nm (100+B+(B+1)*(B+1));rw[←k0]at c7 j';obtain⟨t1,k'⟩:=nm (100+B);rw[←k']at c7 I;clear o D j1 b3 l' c1 c3 f' j3 j2 r k0 k' hh
     go_wp2_with (first
      |(go_at_call 9;refine(y.out _ d.out.r.2 d.out.nw).mono ?_;rintro e w5 (⟨s',h0,gs,bt,rfl,T,z⟩|⟨h0,-⟩);rotate_left;(cases h0);obtain rfl:s=s':=(by injection h0);have i7:=Ld (Y.out _ _ _ T);have g:=d.out.kps (R':=fun w=>bQ w q 100 F∧ea W w gs gd bs bf bt s mm) z (jI d.out.r.2) ⟨d.out.r.1.kps z (jI d.out.r.2),T⟩ ((bN _ _ _).and (sv _ _ _ _ _ _ _ _));clear d z T h0;have d:=Ld g;clear g)
      |((with_reducible refine aA ⟨_,.load 65 _,_,_,_,_⟩ ?_);refine bh 0 d.out rfl rfl rfl rfl rfl ?_)
      |(go_at_call 35;refine(I.out _ d.out.r.1 d.out.nw).mono ?_;rintro e w6 ⟨Z,rfl,hZ,S,f⟩;have d':=Ld hZ;have g:=(d.out.call f (S s rfl) (lY _ _ _ _)).rel (R':=fun w=>pA W.heap.size w s t1 Z∧ea W w gs gd bs bf bt s mm) (fun h=>⟨h.2,h.1.2⟩) ((lY _ _ _ _).and (sv _ _ _ _ _ _ _ _));clear d f hZ S;have d:=Ld g;clear g)
      |(refine bW d.out rfl rfl dx zS (by decide) ?_;clear d;intro J k9 d)
      |((with_reducible refine aA ⟨_,.store 79 _ _,_,_,_,_⟩ ?_);first|(refine bj 1 d.out rfl rfl rfl rfl rfl rfl d'.out dx ?_;clear d;intro J d)|(refine bj 2 d.out rfl rfl rfl rfl rfl rfl k7.out dx ?_;clear d;intro J d))
      |((with_reducible refine aA ⟨_,.load 79 _,_,_,_,_⟩ ?_);first|(refine bh 1 d.out rfl rfl rfl rfl rfl ?_)|(refine bh 2 d.out rfl rfl rfl rfl rfl ?_))
      |(go_at_call 34;first|(with_reducible refine(rO _).mono ?_)|refine(O.out _).mono ?_;rintro e w7 ⟨rfl,rfl⟩)
      |(go_at_call 16;refine(k4.out _ gs bt d.out.r.2 d.out.nw).mono ?_;rintro e w7 ⟨rfl,T,z⟩;have g:=d.out.kps (R':=fun w=>pA W.heap.size w s t1 Z∧ea W w gs gd bs bf bt s2 mm) z (AI d.out.r.2) ⟨d.out.r.1.kps z (AI d.out.r.2),T⟩ ((lY _ _ _ _).and (sv _ _ _ _ _ _ _ _));clear d z T;have d:=Ld g;clear g)
      |(go_at_call 36;refine(c7.out _ gs bt Z d.out.r.2 d.out.r.1 i7.out d.out.nw).mono ?_;rintro e w8 ⟨Z2,rfl,S,f⟩;have k7:=Ld S.row;have g:=(d.out.call f S (lY _ _ _ _)).rel (R':=fun w=>pA W.heap.size w s2 t2 Z2∧ea W w gs gd bs bf bt s2 mm) (fun h=>⟨h.2,h.1.2⟩) ((lY _ _ _ _).and (sv _ _ _ _ _ _ _ _));clear d f S;have d:=Ld g;clear g)
      |(go_at_call 37;refine(j'.out _ gs bt Z2 d.out.r.2 d.out.r.1 i7.out.1 d.out.nw).mono ?_;rintro e m0 ⟨rfl,f⟩;have g:=d.out.new f;clear d f;have d:=Ld g;clear g))
     go_ret;exact⟨rfl,d.out.nw⟩
theorem vv{v0:Value}{W:World}(j:∃(A:Option Addr) (n c:Nat) (L:List (List Int)),v0=.slice A n c∧n≤maxLen∧L.length=n∧Rd (fun b=>b<W.heap.size) W 64 A n (L.flatMap am)∧∀s∈L,aJ s)(d:Bool)
    (i:laidMetH prog [("entrust/entrustref02.Constants",Rows.laid_entrust_entrustref02_Constants),("entrust/entrustref02.Initials",Rows.laid_entrust_entrustref02_Initials),("entrust/sha.constants",Rows.laid_entrust_sha_constants),("entrust/sha.initials",Rows.laid_entrust_sha_initials)] W):
    Calls prog 5 #[v0,.bool d] W fun e w'=>e=.returned (.bool true)∧Below W.heap.size W w':=by
 obtain⟨A,n,c,L,rfl,h1,h2,f,g⟩:=j;exact tX A n c L d W h1 h2 f g (AC i)
end Go.Proofs.YtfchcdbfalgdlaaGreatDoor
