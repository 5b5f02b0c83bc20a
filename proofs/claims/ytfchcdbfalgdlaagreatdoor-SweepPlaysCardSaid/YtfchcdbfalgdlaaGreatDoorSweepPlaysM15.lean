/- Texts of one proof. No condition but each one's own. -/
import Derived.Test.YtfchcdbfalgdlaaGreatDoorSweepPlaysM5
import Derived.Test.YtfchcdbfalgdlaaGreatDoorSweepPlaysM7
set_option maxHeartbeats 4000000
set_option maxRecDepth 100000
set_option linter.unusedVariables false
set_option linter.unusedSimpArgs false
namespace Go.Proofs.YtfchcdbfalgdlaaGreatDoor
open _root_.Go.Proofs.Tryz
open Go.RowKit Go.Maps
theorem kM{α:Type}{P:List α->Prop}(h0:P [])(h1:∀l a,P l->P (l++[a]))(l:List α):P l:=by
 have key:∀l:List α,P l.reverse:=by
  intro l
  induction l with
  |nil=>exact h0
  |cons a l b=>rw[List.reverse_cons];exact h1 _ _ b
 have:=key l.reverse
 rwa[List.reverse_reverse]at this
structure PU where
 pos:Int
 s:List Int
def PU.cells(x:PU):List Value:=.int .i64 x.pos::an x.s
theorem PU.len{x:PU}(h:aS x.s):x.cells.length=65:=by simp[PU.cells,ak,h.1]
theorem PU.one(x:PU):∀u∈x.cells,u.oneCell'=true:=by
 intro u hu;rcases List.mem_cons.1 hu with rfl|hu
 ·rfl
 ·exact aR _ u hu
def cJ(L:List PU):List Value:=L.flatMap PU.cells
theorem jf(L M:List PU):cJ (L++M)=cJ L++cJ M:=by simp[cJ]
theorem la(x:PU):cJ [x]=x.cells:=by simp[cJ]
theorem jD(L:List PU):∀u∈cJ L,u.oneCell'=true:=by
 intro u hu;obtain⟨x,_,b⟩:=List.mem_flatMap.1 hu;exact x.one u b
def cN(L:List PU)(x:Int):Option (List Int):=L.foldl (λb p=>if p.pos=x then some p.s else b) none
theorem ft(L:List PU)(p:PU)(x:Int):cN (L++[p]) x=if p.pos=x then some p.s else cN L x:=by simp[cN,List.foldl_append]
theorem zz (L M:List PU) (x:Int):cN (L++M) x=match cN M x with | some s=>some s | none=>cN L x:=by
 induction M using kM with
 |h0=>simp[cN]
 |h1 M p b=>
  rw[<-List.append_assoc,ft,ft,b];split<;>rfl
theorem pD{L:List PU}{x:Int}:cN L x=none↔x∉L.map PU.pos:=by
 induction L using kM with
 |h0=>simp[cN]
 |h1 L p b=>
  rw[ft];split
  ·next h=>subst h;simp
  ·next h=>rw[b];simp;intro _ e;exact absurd e.symm h
theorem zB{L:List PU}{x:Int}{s:List Int}(h:cN L x=some s):∃p∈L,p.pos=x/\p.s=s:=by
 induction L using kM with
 |h0=>simp[cN]at h
 |h1 L p c=>
  rw[ft]at h;split at h
  ·next e=>injection h with h;exact⟨p,by simp,e,h⟩
  ·obtain⟨q,b,h1,h2⟩:=c h;exact⟨q,by simp[b],h1,h2⟩
def bV(L:List PU):List Int:=L.foldl (λb p=>if p.pos∈b then b else b++[p.pos]) []
theorem jP(L:List PU)(p:PU):bV (L++[p])=if p.pos∈bV L then bV L else bV L++[p.pos]:=by unfold bV;rw[List.foldl_append];rfl
theorem ld(L:List PU):∀x:Int,x∈bV L↔x∈L.map PU.pos:=by
 induction L using kM with
 |h0=>simp[bV]
 |h1 L p b=>
  intro x;rw[jP];split
  ·next h=>
   have c:=(b p.pos).1 h;rw[b];simp only[List.map_append,List.map_cons,List.map_nil,List.mem_append,List.mem_singleton];exact⟨.inl,λd=>d.elim id λe=>e▸c⟩
  ·rw[List.mem_append,b x];simp
theorem nH(L:List PU):(bV L).length<=L.length:=by
 induction L using kM with
 |h0=>simp[bV]
 |h1 L p b=>
  rw[jP];split<;>simp<;>omega
structure RP where
 size:Int
 sure:List PU
 fresh:List PU
 fuse:Int
 down:Bool
def RP.new(n:Int):RP:=⟨n,[],[],-1,false⟩
def RP.burn(r:RP):RP:={r with fuse:=if 0<r.fuse then r.fuse-1 else r.fuse}
def RP.within(r:RP)(a:Int):Bool:=decide (0<=a/\a<r.size)
def RP.wcode(r:RP)(a:Int):Int:=if r.within a=true then(if r.fuse=0\/r.down=true then 14 else 0)else 1
def RP.write(r:RP)(a:Int)(s:List Int):RP:=if r.within a=true then(if r.fuse=0\/r.down=true then {r with down:=true} else {r.burn with fresh:=r.fresh++[⟨a,s⟩]})else r
def RP.scode(r:RP):Int:=if r.down=true then 14 else 0
def RP.sync(r:RP):RP:=if r.down=true then r else {r with sure:=r.sure++r.fresh,fresh:=[]}
def RP.rcode(r:RP)(a:Int):Int:=if r.within a=true then 0 else 1
def RP.rget(r:RP)(a:Int):List Int:=if r.within a=true then(match cN r.fresh a with|some s=>s|none=>(cN r.sure a).getD az)else az
def dR(r:RP)(keep:List Bool):Nat->List PU
 | 0=>r.sure
 |j+1=>if keep.getD j false=true then dR r keep j++[⟨(bV r.fresh).getD j 0,(cN r.fresh ((bV r.fresh).getD j 0)).getD az⟩]else dR r keep j
def RP.cut(r:RP)(keep:List Bool):RP:=⟨r.size,dR r keep (bV r.fresh).length,[],-1,false⟩
def RP.fused(r:RP)(a:Int):RP:={r with fuse:=max a (-1)}
def RP.Ok(r:RP):Prop:=(∀x∈r.sure,aS x.s)/\∀x∈r.fresh,aS x.s
def RP.tot(r:RP):Nat:=r.sure.length+r.fresh.length
structure Mt(p:DP)(r:RP):Prop where
 size:r.size=p.size
 sure:∀x,p.sure x=cN r.sure x
 fresh:∀x,p.fresh x=cN r.fresh x
 order:p.order=bV r.fresh
 fuse:r.fuse=p.fuse
 down:r.down=p.down
theorem Mt.new(n:Nat):Mt (DP.new n) (RP.new n):=⟨rfl,λ_=>rfl,λ_=>rfl,rfl,rfl,rfl⟩
section
variable {p:DP}{r:RP}
theorem Mt.within(h:Mt p r)(a:Int):r.within a=p.within a:=by unfold RP.within DP.within;rw[h.size]
theorem Mt.wcode(h:Mt p r)(a:Int):r.wcode a=p.wcode a:=by unfold RP.wcode DP.wcode;rw[h.within,h.fuse,h.down]
theorem Mt.scode(h:Mt p r):r.scode=p.scode:=by unfold RP.scode DP.scode;rw[h.down]
theorem Mt.rcode(h:Mt p r)(a:Int):r.rcode a=p.rcode a:=by unfold RP.rcode DP.rcode;rw[h.within]
theorem Mt.rget(h:Mt p r)(a:Int):r.rget a=p.rget a:=by
 unfold RP.rget DP.rget DP.get;rw[h.within,h.fresh a,h.sure a];rfl
theorem Mt.write(h:Mt p r)(a:Int)(s:List Int):Mt (p.doWrite a s) (r.write a s):=by
 unfold DP.doWrite RP.write;rw[h.within,h.fuse,h.down];split
 ·split
  ·exact⟨h.size,h.sure,h.fresh,h.order,rfl,rfl⟩
  ·refine⟨h.size,h.sure,?_,?_,?_,h.down⟩
   ·intro x;show tZ p.fresh a (some s) x=cN (r.fresh++[⟨a,s⟩]) x;rw[ft,tZ,<-h.fresh x]
    by_cases e:x=a
    ·subst e;simp
    ·rw[if_neg e,if_neg (λb=>e b.symm)]
   ·show(if p.fresh a=none then p.order++[a]else p.order)=bV (r.fresh++[⟨a,s⟩]);rw[jP,h.order,h.fresh a]
    by_cases e:a∈bV r.fresh
    ·rw[if_pos e,if_neg (λb=>pD.1 b ((ld _ _).1 e))]
    ·rw[if_neg e,if_pos (pD.2 λb=>e ((ld _ _).2 b))]
   ·show(if 0<r.fuse then r.fuse-1 else r.fuse)=if 0<p.fuse then p.fuse-1 else p.fuse
    rw[h.fuse]
 ·exact h
theorem Mt.sync(h:Mt p r):Mt p.doSync r.sync:=by
 unfold DP.doSync RP.sync;rw[h.down];split
 ·exact h
 ·refine⟨h.size,?_,λ_=>rfl,rfl,h.fuse,rfl⟩;intro x;show(match p.fresh x with|some s=>some s|none=>p.sure x)=cN (r.sure++r.fresh) x;rw[zz,h.fresh x,h.sure x]
theorem Mt.cutS(h:Mt p r)(b:p.Ok)(keep:List Bool):∀j,j<=p.order.length->∀x,Go.Proofs.YtfchcdbfalgdlaaGreatDoor.cutS p keep j x=cN (dR r keep j) x
 | 0,_,x=>h.sure x
 |j+1,g,x=>by
  simp only[Go.Proofs.YtfchcdbfalgdlaaGreatDoor.cutS,dR];split
  ·rw [ft,tZ,<-h.order];have c:j<p.order.length:=by omega
   have f:p.order.getD j 0∈p.order:=by rw[List.getD_eq_getElem?_getD,List.getElem?_eq_getElem c];exact List.getElem_mem _
   by_cases e:x=p.order.getD j 0
   ·rw[if_pos e,if_pos e.symm,h.fresh]
    cases hf:cN r.fresh (p.order.getD j 0)with
    |some s=>rfl
    |none=>exact absurd ((h.fresh _).trans hf) ((b.ord _).1 f)
   ·rw[if_neg e,if_neg (λd=>e d.symm)];exact h.cutS b keep j (by omega) x
  ·exact h.cutS b keep j (by omega) x
theorem Mt.cut(h:Mt p r)(b:p.Ok)(keep:List Bool):Mt (p.cut keep) (r.cut keep):=
 ⟨h.size,λx=>by
  show Go.Proofs.YtfchcdbfalgdlaaGreatDoor.cutS p keep p.order.length x=cN (dR r keep (bV r.fresh).length) x;rw[<-h.order]
  exact h.cutS b keep _ (Nat.le_refl _) x,λ_=>rfl,rfl,rfl,rfl⟩
theorem Mt.fused(h:Mt p r)(a:Int):Mt (p.fused a) (r.fused a):=⟨h.size,h.sure,h.fresh,h.order,rfl,h.down⟩
theorem RP.Ok.write(h:r.Ok)(a:Int){s:List Int}(c:aS s):(r.write a s).Ok:=by
 unfold RP.write;split
 ·split
  ·exact h
  ·refine ⟨h.1,λx b=> ?_⟩;rcases List.mem_append.1 b with b | b
   ·exact h.2 x b
   ·obtain rfl:=List.mem_singleton.1 b;exact c
 ·exact h
theorem RP.Ok.sync(h:r.Ok):r.sync.Ok:=by
 unfold RP.sync;split
 ·exact h
 ·refine ⟨λx b=> ?_,by simp⟩;rcases List.mem_append.1 b with b | b
  ·exact h.1 x b
  ·exact h.2 x b
theorem my{L:List PU}(h:∀x∈L,aS x.s)(x:Int):aS ((cN L x).getD az):=by
 cases hl:cN L x with
 |none=>exact bh
 |some s=>obtain⟨q,b,_,e⟩:=zB hl;rw[<-e];exact h q b
theorem sQ(h:r.Ok)(keep:List Bool):∀j,∀x∈dR r keep j,aS x.s
 | 0=>h.1
 |j+1=>by
  intro x b;simp only[dR]at b;split at b
  ·rcases List.mem_append.1 b with b | b
   ·exact sQ h keep j x b
   ·obtain rfl:=List.mem_singleton.1 b;exact my h.2 _
  ·exact sQ h keep j x b
theorem RP.Ok.cut(h:r.Ok)(keep:List Bool):(r.cut keep).Ok:=⟨sQ h keep _,by simp[RP.cut]⟩
theorem mt(r:RP)(keep:List Bool):∀j,(dR r keep j).length<=r.sure.length+j
 | 0=>Nat.le_refl _
 |j+1=>by
  have:=mt r keep j;simp only[dR];split<;>simp<;>omega
theorem RP.tot_write(r:RP)(a:Int)(s:List Int):(r.write a s).tot<=r.tot+1:=by
 unfold RP.write RP.tot;split
 ·split
  ·simp
  ·simp[RP.burn];omega
 ·omega
theorem RP.tot_sync(r:RP):r.sync.tot<=r.tot:=by
 unfold RP.sync RP.tot;split<;>simp
theorem RP.tot_cut(r:RP)(keep:List Bool):(r.cut keep).tot<=r.tot:=by
 have h1:=mt r keep (bV r.fresh).length;have h2:=nH r.fresh;simp only[RP.tot,RP.cut,List.length_nil];omega
end
def gI(r:RP)(b:Option Addr)(c:Nat)(A2:Option Addr)(c2:Nat):Array Value:= #[.int .i64 r.size,.slice b r.sure.length c,.slice A2 r.fresh.length c2,.int .i64 r.fuse,.bool r.down]
structure fp(w:World)(r:RP)(A1 A2:Option Addr):Prop where
 sure:ei 132 w 65 A1 r.sure.length (cJ r.sure)
 fresh:ei 132 w 65 A2 r.fresh.length (cJ r.fresh)
 ok:r.Ok
theorem fp.fr{w w':World}{S:Nat->Prop}{r:RP}{b A2:Option Addr}(h:fp w r b A2)(c:Fr S w w')(d:∀k,S k->¬aK 132 w k):fp w' r b A2:=⟨h.sure.fr c d,h.fresh.fr c d,h.ok⟩
theorem fp.new{w w':World}{r:RP}{b A2:Option Addr}(h:fp w r b A2)(c:aa w w'):fp w' r b A2:=⟨h.sure.new c,h.fresh.new c,h.ok⟩
def mj(w:World)(r:RP)(n:Int)(e:Ending):Prop:=∃b c A2 c2,e=.returned (.tuple #[.agg (gI r b c A2 c2),.int .i64 n])/\fp w r b A2
def EX(w:World)(r:RP)(e:Ending):Prop:=∃b c A2 c2,e=.returned (.agg (gI r b c A2 c2))/\fp w r b A2
theorem zp:aY prog 63 132 65 72:=aY.mk' (z:=.agg (⟨0,az⟩:PU).cells.toArray) underlying63 (by kernel_rfl) rfl (by decide)
theorem wV{q:Nat->Prop}{w:World}{A:Option Addr}{n:Nat}{L:List PU}(h:Rd q w 65 A n (cJ L))(t:L.length=n)(d:∀a∈L,aS a.s){i:Nat}(hi:i<n):
    ∃(g o:Nat) (hl:i<L.length),A=some ⟨g,o,none⟩/\g<w.heap.size/\w.cell? ⟨g,o+i*65,none⟩=some (.int .i64 L[i].pos)/\w.rangeAt g (o+i*65+1) (an L[i].s):=by
 obtain⟨g,o,k,u,c,l⟩:=h.out (by omega) (by omega);have hl:i<L.length:=by omega
 have key:∀j,j<65->∀v,(L[i].cells)[j]?=some v->w.cell? ⟨g,o+i*65+j,none⟩=some v:=λj f v b=>by
  have:=ta PU.cells 65 L i j hl (λx m=>PU.len (d x m)) f;rw[Nat.add_assoc];exact l (i*65+j) v (by rw[cJ,this,b])
 refine⟨g,o,hl,k,c,key 0 (by omega) _ rfl,λj v b=>?_⟩
 have f:j<64:=by
  have:=(List.getElem?_eq_some_iff.1 b).1
  rwa[ak,(d _ (List.getElem_mem _)).1]at this
 rw[Nat.add_assoc];have:=key (1+j) (by omega) v (by simp only[PU.cells];rw[Nat.add_comm,List.getElem?_cons_succ];exact b);exact this
def lM(L:List PU)(x:Int):List Int:=(cN L x).getD az
theorem oy{q:Nat->Prop}(A:Option Addr)(n c:Nat)(L:List PU)(x:Int)(w:World)(V:Rd q w 65 A n (cJ L))(U:L.length=n)(X:∀a∈L,aS a.s)(hn:n<=1000000):
    Calls prog 88 #[.slice A n c,.int .i64 x] w λe w'=>e=.returned (.tuple #[.agg (ag (lM L x)),.bool (cN L x).isSome])/\aa w w':=by
 have Y:=Ld V;have T:=Ld U;have S:=Ld X;clear V U X
 go_enter func88,ntmps88
 go_wp2_with (refine cE 4 rfl ?_;refine dX rfl rfl bO ?_)
 obtain⟨R,f⟩:=nM (w.alloc (.cells (ag az) 68):World);have o:Hid (aa w R):=Ld (by rw[f];exact aa.al (aa.refl _) _);have D:Hid (ac R w.heap.size 68 (ag az)):=Ld (by rw[f];exact ac.new _ _ _);rw[<-f];clear f
 go_loopw [6] (λi wr=>∃(j:Nat),j<=n/\i=.int .i64 ((j:Int)-1)/\wr=R/\Hid (cN L x=cN (L.take j) x)) (λi _=>(intOf i+1).toNat)
 case atStart=>exact⟨n,by omega,by go_num,rfl,Ld (by rw[List.take_of_length_le (by rw[T.out];omega)])⟩
 case round=>
  obtain⟨j,hj,rfl,rfl,z⟩:=hrel;rcases j with _|j
  ·have E:Hid (cN L x=none):=Ld (by rw [z.out];rfl);have m:Hid (lM L x=az):=Ld (by unfold lM;rw [E.out];rfl);have I:∀w,(Instr.build 68 #[]).run prog w= .ok (.agg (ag az)) w:=λ_=>by kernel_rfl
   clear z
   go_wp2_with ((with_reducible refine eC ⟨none,.store 68 (.tmp 4) _,_,_,_,_⟩ ?_);refine bN (s:=az) (s0:=az) rfl (.tmp 4) (.tmp 26) rfl rfl rfl rfl D.out rfl bh.1 ?_;intro w2 b d;have g:=Ld b;have l:=Ld d;clear b d)
   refine bodyPost_ret (dj rfl _ _ rfl g.out underlying68 rfl bh.1) rfl ?_;exact⟨by rw[m.out,E.out];rfl,o.out.fr l.out (λk hk=>by omega)⟩
  ·obtain ⟨gA,oA,hl,rfl,-,Z,v⟩:=wV (o.out.rd Y.out) T.out S.out (show j<n by omega);have y:cN (L.take (j+1)) x=if L[j].pos=x then some L[j].s else cN (L.take j) x:=by rw [List.take_succ_eq_append_getElem hl,ft]
   have u:=S.out L[j] (List.getElem_mem _);generalize L[j]=C at Z v y u;have G:=Ld y;have M:=Ld v;have t:=Ld u;have N:(0:Int)<=((j+1:Nat):Int)-1:=by omega
   have O:(((j+1:Nat):Int)-1).toNat=j:=by omega
   have H:((j+1:Nat):Int)-1=(j:Int):=by omega
   have b':j<n:=by omega
   rw[H];clear y v u N O H
   by_cases B:C.pos=x
   ·have F:Hid (cN L x=some C.s):=Ld (by rw [z.out,G.out,if_pos B]);have m:Hid (lM L x=C.s):=Ld (by unfold lM;rw [F.out];rfl);have P:(C.pos==x)=true:=by simp [B]
    clear B z
    go_wp2_with (first
     |(refine cE 25 rfl ?_;refine dH rfl _ rfl rfl M.out underlying68 rfl (by rw[ak,t.out.1];rfl) ?_)
     |((with_reducible refine eC ⟨none,.store 68 (.tmp 4) _,_,_,_,_⟩ ?_);refine bN (s:=C.s) (s0:=az) rfl (.tmp 4) (.tmp 25) rfl rfl rfl rfl D.out rfl t.out.1 ?_;intro w2 b d;have g:=Ld b;have l:=Ld d;clear b d))
    refine bodyPost_ret (dj rfl _ _ rfl g.out underlying68 rfl t.out.1) rfl ?_;exact⟨by rw[m.out,F.out];rfl,o.out.fr l.out (λk hk=>by omega)⟩
   ·have J:Hid (cN L x=cN (L.take j) x):=Ld (by rw [z.out,G.out,if_neg B]);have P:(C.pos==x)=false:=by simp [B]
    clear B z
    go_wp2_with fail;go_roundw
    case rel=>exact⟨j,by omega,by go_num,trivial,J⟩
    case measure=>simp[intOf]
theorem jK{fn:Func}{p:Tmp}{ty:TypeId}{P:Program}(h:fn.results= #[.cell p ty])(tmps:Array Value)(w:World)(g:Nat)(cs:Array Value)(d:TypeDesc)
    (c:tmps.getD p undef=.pointer (some ⟨g,0,none⟩)) (b:ac w g ty cs) (hu:P.underlying ty=some d) (hd:d.isRow=true) (hi:(P.info? ty).map (·.size)=some cs.size):
    (results fn tmps).run P w=.ok (.agg cs) w:=results_cell_row h tmps w g ty cs (0,0) d c b hu (by cases d<;>first|rfl|(simp[TypeDesc.isRow]at hd)) hi
theorem aE{fn:Func}{p q:Tmp}{ty:TypeId}{P:Program}(h:fn.results= #[.cell p ty,.tmp q])(tmps:Array Value)(w:World)(g:Nat)(cs:Array Value)(d:TypeDesc)
    (f:tmps.getD p undef=.pointer (some ⟨g,0,none⟩)) (c:ac w g ty cs) (hu:P.underlying ty=some d) (hd:d.isRow=true) (hi:(P.info? ty).map (·.size)=some cs.size):
    (results fn tmps).run P w=.ok (.tuple #[.agg cs,tmps.getD q undef]) w:=by
 have b:tmps[p]?.getD undef=.pointer (some ⟨g,0,none⟩):=by simpa using f
 simp[results,h,b,asAddr,run_loadVar_row w g ty ty cs (0,0) _ c hu (by cases d<;>first|rfl|(simp[TypeDesc.isRow]at hd)) hi]
theorem Cm (n:Int) (w:World):Calls prog 30 #[.int .i64 n] w λe w'=>e= .returned (.agg (gI (RP.new n) none 0 none 0))/\aa w w':=by
 go_enter func30,ntmps30
 go_wp2_with fail;refine bodyPost_ret (v:=.agg (gI (RP.new n) none 0 none 0)) (jK rfl _ _ w.heap.size _ _ rfl (ac.new _ _ _) underlying65 rfl rfl) rfl ?_;exact⟨rfl,(aa.refl w).al _⟩
theorem nz(r:RP)(u:Option Addr)(D:Nat)(A2:Option Addr)(c2:Nat)(x:Int)(w:World)(h:fp w r u A2)(hn:r.tot<=1000000)(hx:(Lit.int .i64 x).wf=true)(hz: -9223372036854775808<=r.size/\r.size<=9223372036854775807):
    Calls prog 121 #[.agg (gI r u D A2 c2),.int .i64 x] w λe w'=>e=.returned (.tuple #[.agg (ag (r.rget x)),.int .i64 (r.rcode x)])/\aa w w':=by
 have H:=Ld h;have Y:Hid (r.sure.length<=1000000):=Ld (by unfold RP.tot at hn;omega);have Z:Hid (r.fresh.length<=1000000):=Ld (by unfold RP.tot at hn;omega);have b':=bounds_i64 hx;unfold gI;clear h hn hx
 by_cases G:0<=x/\x<r.size
 ·have t0:decide (x<0)=false:=decide_eq_false (by omega);have t1:decide (r.size<=x)=false:=decide_eq_false (by omega)
  have j:Hid (r.rcode x=0/\r.rget x=(match cN r.fresh x with|some s=>s|none=>(cN r.sure x).getD az)):=Ld (by
   unfold RP.rcode RP.rget RP.within
   rw[decide_eq_true G];exact⟨rfl,rfl⟩)
  clear G
  go_enter func121,ntmps121
  go_wp2_with (refine cE 4 rfl ?_;refine dX rfl rfl bO ?_)
  obtain⟨L,i⟩:=nM ((w.alloc (.cells #[.int .i64 r.size,.slice u r.sure.length D,.slice A2 r.fresh.length c2,.int .i64 r.fuse,.bool r.down] 65)).alloc (.cells (ag az) 68):World);have y:Hid (aa w L):=Ld (by rw[i];exact((aa.refl w).al _).al _);have O:Hid (ac L (w.heap.size+1) 68 (ag az)):=Ld (by rw[i];exact ac.new' _ _ _ (by simp));have V:Hid (ac L w.heap.size 65 #[.int .i64 r.size,.slice u r.sure.length D,.slice A2 r.fresh.length c2,.int .i64 r.fuse,.bool r.down]):=Ld (by rw[i];exact(ac.new _ _ _).alloc _);rw[<-i];clear i;refine(oy A2 r.fresh.length c2 r.fresh x L ((H.out.new y.out).fresh) rfl H.out.ok.2 Z.out).mono ?_;rintro e M ⟨rfl,l⟩;have z:Hid (aa w M):=Ld (y.out.tr l);have v:=Ld (aa.blk l O.out);have C:=Ld (aa.blk l V.out);have m:=my H.out.ok.2 x;clear l
  cases hf:cN r.fresh x with
  |some s=>
   have R:=Ld hf;have T:Hid (lM r.fresh x=s):=Ld (by unfold lM;rw[hf];rfl);have b:Hid (aS s):=Ld (by rw[hf]at m;exact m);clear m hf;rw[T.out];simp only[Option.isSome_some]
   go_wp2_with (first
    |(refine cE 6 rfl ?_;refine aH (s:=s) rfl rfl rfl _ _ rfl bO rfl rfl rfl b.out.1 ?_)
    |(refine cE 27 rfl ?_;refine fo (s:=s) rfl _ rfl underlying68 rfl rfl (ac.new _ _ _) b.out.1 ?_)
    |((with_reducible refine eC ⟨none,.store 68 (.tmp 4) _,_,_,_,_⟩ ?_);refine bN (s:=s) (s0:=az) rfl (.tmp 4) (.tmp 27) rfl rfl rfl rfl (v.out.alloc _) rfl b.out.1 ?_;intro N E F;have q:=Ld E;have S:=Ld F;clear E F))
   refine bodyPost_ret (dj rfl _ _ rfl q.out underlying68 rfl b.out.1) rfl ?_;exact⟨by rw[j.out.1,j.out.2,R.out];rfl,(z.out.al _).fr S.out (λk hk=>by omega)⟩
  |none=>
   have R:=Ld hf;have T:Hid (lM r.fresh x=az):=Ld (by unfold lM;rw[hf];rfl);have b:Hid (aS (lM r.sure x)):=Ld (my H.out.ok.1 x);have X:=C.out.cell 1;have e1:∀o:Obj,(M.alloc o).cell? ⟨w.heap.size,1,none⟩=some (.slice u r.sure.length D):=λo=>(aa.al (aa.refl M) o).cell_ (C.out.cell 1)
   clear m hf X;rw[T.out];simp only[Option.isSome_none]
   go_wp2_with (refine cE 6 rfl ?_;refine aH (s:=az) rfl rfl rfl _ _ rfl bO rfl rfl rfl bh.1 ?_)
   obtain⟨N,n⟩:=nM (M.alloc (.cells (ag az) 68):World);have B:Hid (aa w N):=Ld (by rw[n];exact z.out.al _);have q:Hid (ac N (w.heap.size+1) 68 (ag az)):=Ld (by rw[n];exact v.out.alloc _);rw[<-n];clear n e1;refine(oy u r.sure.length D r.sure x N ((H.out.new B.out).sure) rfl H.out.ok.1 Y.out).mono ?_;rintro e w3 ⟨rfl,t⟩;have U:Hid (aa w w3):=Ld (B.out.tr t);have P:=Ld (aa.blk t q.out);have HE:Hid (r.rget x=lM r.sure x):=Ld (by rw[j.out.2,R.out];rfl);clear t;generalize lM r.sure x=s at*
   go_wp2_with (first
    |(refine cE 8 rfl ?_;refine aH (s:=s) rfl rfl rfl _ _ rfl bO rfl rfl rfl b.out.1 ?_)
    |(refine cE 35 rfl ?_;refine fo (s:=s) rfl _ rfl underlying68 rfl rfl (ac.new _ _ _) b.out.1 ?_)
    |((with_reducible refine eC ⟨none,.store 68 (.tmp 4) _,_,_,_,_⟩ ?_);refine bN (s:=s) (s0:=az) rfl (.tmp 4) (.tmp 35) rfl rfl rfl rfl (P.out.alloc _) rfl b.out.1 ?_;intro w4 c d;have f:=Ld c;have g:=Ld d;clear c d))
   refine bodyPost_ret (dj rfl _ _ rfl f.out underlying68 rfl b.out.1) rfl ?_;exact⟨by rw[j.out.1,HE.out];rfl,(U.out.al _).fr g.out (λk hk=>by omega)⟩
 ·have j:Hid (r.rcode x=1/\r.rget x=az):=Ld (by
   unfold RP.rcode RP.rget RP.within
   rw[decide_eq_false G];exact⟨rfl,rfl⟩)
  have J:∀w,(Instr.build 68 #[]).run prog w=.ok (.agg (ag az)) w:=λ_=>by kernel_rfl
  by_cases I:x<0
  ·have t0:decide (x<0)=true:=decide_eq_true I;clear G
   go_enter func121,ntmps121
   go_wp2_with (first
    |(refine cE 4 rfl ?_;refine dX rfl rfl bO ?_)
    |((with_reducible refine eC ⟨none,.store 68 (.tmp 4) _,_,_,_,_⟩ ?_);refine bN (s:=az) (s0:=az) rfl (.tmp 4) (.tmp 18) rfl rfl rfl rfl (ac.new' _ _ _ (by simp)) rfl bh.1 ?_;intro w4 c d;have f:=Ld c;have g:=Ld d;clear c d))
   refine bodyPost_ret (dj rfl _ _ rfl f.out underlying68 rfl bh.1) rfl ?_;exact⟨by rw[j.out.1,j.out.2];rfl,(((aa.refl w).al _).al _).fr g.out (λk hk=>by omega)⟩
  ·have t0:decide (x<0)=false:=decide_eq_false I;have t1:decide (r.size<=x)=true:=decide_eq_true (by omega);clear G
   go_enter func121,ntmps121
   go_wp2_with (first
    |(refine cE 4 rfl ?_;refine dX rfl rfl bO ?_)
    |((with_reducible refine eC ⟨none,.store 68 (.tmp 4) _,_,_,_,_⟩ ?_);refine bN (s:=az) (s0:=az) rfl (.tmp 4) (.tmp 18) rfl rfl rfl rfl (ac.new' _ _ _ (by simp)) rfl bh.1 ?_;intro w4 c d;have f:=Ld c;have g:=Ld d;clear c d))
   refine bodyPost_ret (dj rfl _ _ rfl f.out underlying68 rfl bh.1) rfl ?_;exact⟨by rw[j.out.1,j.out.2];rfl,(((aa.refl w).al _).al _).fr g.out (λk hk=>by omega)⟩
theorem pw(k:Nat):∀(L:List Value) (m:Nat) (C:Array Value) (i:Nat),k+m+L.length<=C.size->
    (List.foldl (λcs x=>cs.setIfInBounds (k+x.snd) x.fst) C (L.zipIdx m))[i]?=if k+m<=i/\i<k+m+L.length then L[i-(k+m)]? else C[i]?
 | [],m,C,i,_=>by simp;intro h1 h2;omega
 |v::L,m,C,i,h=>by
  simp only[List.length_cons]at h;rw[List.zipIdx_cons,List.foldl_cons,pw k L (m+1) _ i (by simp;omega)];simp only[List.length_cons]
  by_cases h1:k+(m+1)<=i/\i<k+(m+1)+L.length
  ·rw[if_pos h1,if_pos (by omega)];rw[show i-(k+m)=(i-(k+(m+1)))+1 by omega,List.getElem?_cons_succ]
  ·rw[if_neg h1,Array.getElem?_setIfInBounds]
   by_cases h2:k+m=i
   ·subst h2;rw[if_pos rfl,if_pos (by omega),if_pos (by omega),Nat.sub_self];rfl
   ·rw[if_neg h2,if_neg (by omega)]
def ff(x:Int)(s:List Int):Array Value:=(PU.cells ⟨x,s⟩).toArray
def bJ:Array Value:=ff 0 az
theorem ai:bJ.size=65:=by simp[bJ,ff,PU.len (x:=⟨0,az⟩) bh]
theorem yH:bJ≠ #[]:=λe=>by have:=congrArg Array.size e;rw[ai]at this;simp at this
theorem rQ(w:World):(zeroValue 132).run prog w=.ok (.agg bJ) w:=(zero_of_info (n:=65) (by kernel_rfl)).1 w
theorem uS{x:Int}{s:List Int}(b:aS s):List.foldl (λcs x=>cs.setIfInBounds (1+x.snd) x.fst) (bJ.setIfInBounds 0 (.int .i64 x)) (an s).zipIdx=ff x s:=by
 apply Array.ext_getElem?;intro i;have hl:(an s).length=64:=by rw[ak,b.1]
 rw[pw 1 (an s) 0 _ i (by simp[ai,hl])];rw[hl];unfold ff PU.cells
 by_cases h:1+0<=i/\i<1+0+64
 ·rw[if_pos h];obtain⟨j,rfl⟩:∃j,i=j+1:=⟨i-1,by omega⟩
  simp
 ·rw[if_neg h]
  by_cases h0:i=0
  ·subst h0;rw[Array.getElem?_setIfInBounds,if_pos rfl,if_pos (by rw[ai];omega)];rfl
  ·rw[Array.getElem?_setIfInBounds,if_neg (by omega),Array.getElem?_eq_none (by rw[ai];omega)];simp[hl];omega
theorem jm{x:Int}{s:List Int}(b:aS s):(ff x s).size=65:=by simp[ff,PU.len (x:=⟨x,s⟩) b]
theorem zT{x:Int}{s:List Int}(c:aS s)(C:Array Value)(d:C.size=65):Array.foldl (λcs x=>cs.setIfInBounds x.snd x.fst) C ((ff x s).zipIdx) 0 65=ff x s:=by
 have b:((ff x s).zipIdx).size=65:=by simp[jm c]
 have e:Array.foldl (λcs x=>cs.setIfInBounds x.snd x.fst) C ((ff x s).zipIdx) 0 65=List.foldl (λcs x=>cs.setIfInBounds (0+x.snd) x.fst) C ((ff x s).toList.zipIdx 0):=by
  have:=Array.foldl_toList (λ(cs:Array Value) (x:Value×Nat)=>cs.setIfInBounds x.snd x.fst) (init:=C) (xs:=(ff x s).zipIdx);rw[b]at this;rw[<-this,Array.toList_zipIdx];simp only[Nat.zero_add]
 rw[e];apply Array.ext_getElem?;intro i;have hl:(ff x s).toList.length=65:=by simp[jm c]
 rw[pw 0 _ 0 C i (by omega),hl]
 by_cases h:0+0<=i/\i<0+0+65
 ·rw[if_pos h];simp
 ·rw[if_neg h,Array.getElem?_eq_none (by omega),Array.getElem?_eq_none (by rw[jm c];omega)]
theorem ip(a:Int)(A:Option Addr)(n c:Nat)(B:Option Addr)(m d:Nat)(e:Int)(f:Bool):(#[Value.int .i64 a,.slice A n c,.slice B m d,.int .i64 e,.bool f]).all (·.oneCell')=true:=by simp[Value.oneCell']
theorem Ah(r:RP)(A1:Option Addr)(c1:Nat)(A2:Option Addr)(c2:Nat)(x:Int)(s:List Int)(w:World)(h:fp w r A1 A2)(hs:aS s)(hn:r.tot<=100000)(hx:(Lit.int .i64 x).wf=true)(hf:(Lit.int .i64 r.fuse).wf=true)(hw:0<=x/\x<r.size)(hd:¬(r.fuse=0\/r.down=true)):
    Calls prog 32 #[.agg (gI r A1 c1 A2 c2),.int .i64 x,.agg (ag s)] w λe w'=>mj w' (r.write x s) 0 e/\aa w w':=by
 have H:=Ld h;have HS:=Ld hs;have i1:Hid (r.fresh.length<=100000):=Ld (by unfold RP.tot at hn;omega);have i2:=bounds_i64 hf;have t0:decide (x<0)=false:=decide_eq_false (by omega);have t1:decide (r.size<=x)=false:=decide_eq_false (by omega);have i4:(r.fuse==0)=false:=by simp;exact λe=>hd (.inl e)
 have g7:r.down=false:=by
  cases hq:r.down with
  |true=>exact absurd (.inr hq) hd
  |false=>rfl
 have HW:Hid (r.write x s={r.burn with fresh:=r.fresh++[⟨x,s⟩]}):=Ld (by unfold RP.write RP.within;rw[decide_eq_true hw,if_pos rfl,if_neg hd]);unfold gI;rw[g7];have d':=Ld g7;clear h hs hn hx hf hw hd g7
 go_enter func32,ntmps32
 go_upto_region 6 with fail;obtain⟨w3,b0⟩:=nM (((w.alloc (.cells #[.int .i64 r.size,.slice A1 r.sure.length c1,.slice A2 r.fresh.length c2,.int .i64 r.fuse,.bool false] 65)).alloc (.cells (ag s) 68)).alloc (.cells #[.int .i64 0,.slice none 0 0,.slice none 0 0,.int .i64 0,.bool false] 65):World);obtain⟨G,hG⟩:=nM (w.heap.size);rw[<-hG];have U:Hid (aa w w3):=Ld (by rw[b0];exact(((aa.refl w).al _).al _).al _);have Z:ac w3 G 65 #[.int .i64 r.size,.slice A1 r.sure.length c1,.slice A2 r.fresh.length c2,.int .i64 r.fuse,.bool false]:=by rw[b0,hG];exact((ac.new _ _ _).alloc _).alloc _
 have c7:=Ld Z;have i':ac w3 (G+1) 68 (ag s):=by rw[b0,hG];exact(ac.new' _ _ _ (by simp)).alloc _
 have g6:ac w3 (G+1+1) 65 #[.int .i64 0,.slice none 0 0,.slice none 0 0,.int .i64 0,.bool false]:=by rw[b0,hG];exact ac.new' _ _ _ (by simp)
 have g3:=Ld g6;rw[<-b0];have X:Hid (G=w.heap.size):=Ld hG;clear b0 hG;have i3:=Z.cell 3;have q3:=Z.frozen 3;obtain⟨d,c9⟩:=nM ((if 0<r.fuse then w3.setCell ⟨G,3,none⟩ (.int .i64 (r.fuse-1))else w3))
 have m:Hid (Fr (λk=>k=G) w3 d):=Ld (by
  rw[c9];split
  ·exact(Fr.refl _ w3).setCell (S:=λk=>k=G) (p:=⟨G,3,none⟩) (λ_=>rfl) _
  ·exact Fr.refl _ _)
 have c8:Hid (ac d G 65 #[.int .i64 r.size,.slice A1 r.sure.length c1,.slice A2 r.fresh.length c2,.int .i64 r.burn.fuse,.bool false]):=Ld (by
  rw[c9];unfold RP.burn;split
  ·exact Z.set 3 _
  ·exact Z)
 have i0:=Ld (i'.fr m.out (by omega));have Y:=Ld (g6.fr m.out (by omega));have g8:=Ld c9;clear i' g6 Z c9
 go_upto_region 8 with fail
 all_goals
  first
   |rw[show w3.setCell ⟨G,3,none⟩ (.int .i64 (r.fuse-1))=d from by rw[g8.out,if_pos (by assumption)]]
   |rw[show w3=d from by rw[g8.out,if_neg (by omega)]]
  clear i3 q3 i2 i4 t0 t1;have d2:d.cell? ⟨G,2,none⟩=some (.slice A2 r.fresh.length c2):=c8.out.cell 2;have g4:=λo:Obj=>(aa.al (aa.refl d) o).cell_ d2
  have g5:=λo o':Obj=>(aa.al (aa.al (aa.refl d) o) o').cell_ d2
  have f:∀w',aa d w'->w'.rangeAt (G+1) 0 (an s)/\w'.cell? ⟨G,2,none⟩=some (.slice A2 r.fresh.length c2):=λw' hN=>⟨(aa.blk hN i0.out).range,hN.cell_ d2⟩
  have b':Hid (ei 132 d 65 A2 r.fresh.length (cJ r.fresh)):=Ld (((H.out.new U.out).fresh).fr m.out (λk j=>by subst j;exact aK.not_blk c7.out (by decide)));have hu:=underlying68;have hi:(prog.info? 68).map (·.size)=some (an s).length:=by rw[ak,HS.out.1];rfl
  have hn:=i1.out;have z1:=rQ;have z2:=ai;have z3:=yH;have z4:=uS (x:=x) HS.out;have z5:=jm (x:=x) HS.out;have z6:=zT (x:=x) HS.out #[bJ[0]'(by rw[ai];omega),bJ[1]'(by rw[ai];omega),bJ[2]'(by rw[ai];omega),bJ[3]'(by rw[ai];omega),bJ[4]'(by rw[ai];omega),bJ[5]'(by rw[ai];omega),bJ[6]'(by rw[ai];omega),bJ[7]'(by rw[ai];omega),bJ[8]'(by rw[ai];omega),bJ[9]'(by rw[ai];omega),bJ[10]'(by rw[ai];omega),bJ[11]'(by rw[ai];omega),bJ[12]'(by rw[ai];omega),bJ[13]'(by rw[ai];omega),bJ[14]'(by rw[ai];omega),bJ[15]'(by rw[ai];omega),bJ[16]'(by rw[ai];omega),bJ[17]'(by rw[ai];omega),bJ[18]'(by rw[ai];omega),bJ[19]'(by rw[ai];omega),bJ[20]'(by rw[ai];omega),bJ[21]'(by rw[ai];omega),bJ[22]'(by rw[ai];omega),bJ[23]'(by rw[ai];omega),bJ[24]'(by rw[ai];omega),bJ[25]'(by rw[ai];omega),bJ[26]'(by rw[ai];omega),bJ[27]'(by rw[ai];omega),bJ[28]'(by rw[ai];omega),bJ[29]'(by rw[ai];omega),bJ[30]'(by rw[ai];omega),bJ[31]'(by rw[ai];omega),bJ[32]'(by rw[ai];omega),bJ[33]'(by rw[ai];omega),bJ[34]'(by rw[ai];omega),bJ[35]'(by rw[ai];omega),bJ[36]'(by rw[ai];omega),bJ[37]'(by rw[ai];omega),bJ[38]'(by rw[ai];omega),bJ[39]'(by rw[ai];omega),bJ[40]'(by rw[ai];omega),bJ[41]'(by rw[ai];omega),bJ[42]'(by rw[ai];omega),bJ[43]'(by rw[ai];omega),bJ[44]'(by rw[ai];omega),bJ[45]'(by rw[ai];omega),bJ[46]'(by rw[ai];omega),bJ[47]'(by rw[ai];omega),bJ[48]'(by rw[ai];omega),bJ[49]'(by rw[ai];omega),bJ[50]'(by rw[ai];omega),bJ[51]'(by rw[ai];omega),bJ[52]'(by rw[ai];omega),bJ[53]'(by rw[ai];omega),bJ[54]'(by rw[ai];omega),bJ[55]'(by rw[ai];omega),bJ[56]'(by rw[ai];omega),bJ[57]'(by rw[ai];omega),bJ[58]'(by rw[ai];omega),bJ[59]'(by rw[ai];omega),bJ[60]'(by rw[ai];omega),bJ[61]'(by rw[ai];omega),bJ[62]'(by rw[ai];omega),bJ[63]'(by rw[ai];omega),bJ[64]'(by rw[ai];omega)] rfl;have zl:(an s).length=64:=by rw[ak,HS.out.1]
  have g9:=λu hu=>jD r.fresh u hu
  have f':=Ld g9;clear g9;refine iT (λw'=>w'.rangeAt (G+1) 0 (an s)/\w'.cell? ⟨G,2,none⟩=some (.slice A2 r.fresh.length c2)) 10 (by kernel_rfl) ?_;refine aG (i:=1) (v:=.pointer (some ⟨G,2,none⟩)) rfl (by kernel_rfl) (by kernel_rfl) (by kernel_rfl) (by kernel_rfl) (λ_ _ _ h=>h) (Or.inl ⟨by rfl,λw c=>by have h1:=c.1;have h2:=c.2;clear c;go_simp⟩) (f _ (by repeat(first|with_reducible exact aa.refl _|with_reducible assumption|with_reducible refine aa.dr ?_|with_reducible refine aa.al ?_ _):aa d _)) ?_
  try simp only[Act.put,bC,bD,bF]
  refine aG (i:=2) (v:=.slice A2 r.fresh.length c2) rfl (by kernel_rfl) (by kernel_rfl) (by kernel_rfl) (by kernel_rfl) (λ_ _ _ h=>h) (Or.inl ⟨by rfl,λw c=>by have h1:=c.1;have h2:=c.2;clear c;go_simp⟩) (f _ (by repeat(first|with_reducible exact aa.refl _|with_reducible assumption|with_reducible refine aa.dr ?_|with_reducible refine aa.al ?_ _):aa d _)) ?_
  try simp only[Act.put,bC,bD,bF]
  refine aG (i:=4) (v:=.int .i64 x) rfl (by kernel_rfl) (by kernel_rfl) (by kernel_rfl) (by kernel_rfl) (λ_ _ _ h=>h) (Or.inl ⟨by rfl,λw c=>by have h1:=c.1;have h2:=c.2;clear c;go_simp⟩) (f _ (by repeat(first|with_reducible exact aa.refl _|with_reducible assumption|with_reducible refine aa.dr ?_|with_reducible refine aa.al ?_ _):aa d _)) ?_
  try simp only[Act.put,bC,bD,bF]
  refine aG (i:=5) (v:=.agg (an s).toArray) rfl (by kernel_rfl) (by kernel_rfl) (by kernel_rfl) (by kernel_rfl) (λ_ _ _ h=>h) (yieldsIf_load_mid (by rfl) _ _ rfl _ _ rfl _ _ (λw c=>c.1) hu rfl hi) (f _ (by repeat(first|with_reducible exact aa.refl _|with_reducible assumption|with_reducible refine aa.dr ?_|with_reducible refine aa.al ?_ _):aa d _)) ?_
  try simp only[Act.put,bC,bD,bF]
  refine aG (i:=6) (v:=.agg (ff x s)) rfl (by kernel_rfl) (by kernel_rfl) (by kernel_rfl) (by kernel_rfl) (λ_ _ _ h=>h) (Or.inl ⟨by rfl,λw c=>by have h1:=c.1;have h2:=c.2;clear c;go_simp⟩) (f _ (by repeat(first|with_reducible exact aa.refl _|with_reducible assumption|with_reducible refine aa.dr ?_|with_reducible refine aa.al ?_ _):aa d _)) ?_
  try simp only[Act.put,bC,bD,bF]
  refine aF (rs:=[0,7]) (by kernel_rfl) (by simp) (dl.cons (i:=0) rfl (λK B=>?_) (dl.cons (i:=7) rfl (λK B=>?_) dl.nil))
  ·skip
   go_simp
   try simp only[Act.put,bC,bD,bF]
   refine B.out _ _ (λ_=>f _ (by repeat(first|with_reducible exact aa.refl _|with_reducible assumption|with_reducible refine aa.dr ?_|with_reducible refine aa.al ?_ _):aa d _)) ?_;refine aF (rs:=[3,7]) (by kernel_rfl) (by simp) (dl.cons (i:=3) rfl (λK B=>?_) (dl.cons (i:=7) rfl (λK B=>?_) dl.nil))
   ·skip
    refine ce zp _ (by rfl) (.tmp 33) (.tmp 35) (by rfl) d.heap.size (.slice (some ⟨_,0,none⟩) 0 0) 0 [] (by rfl) (dQ (by repeat(first|with_reducible exact ac.new' _ _ _ (by first|rfl|(simp;done))|with_reducible refine ac.drew ?_|with_reducible refine ac.alloc ?_ _|with_reducible refine ac.fr ?_ n (by simp[Value.ownBlock]))) (by first|(simp;done)|(simp;omega))) A2 r.fresh.length c2 (cJ r.fresh) (by rfl) ((by repeat(first|with_reducible exact aa.refl _|with_reducible assumption|with_reducible refine aa.dr ?_|with_reducible refine aa.al ?_ _):aa d _).rd b'.out) f'.out (by unfold maxLen;omega) (by omega) (by first|(simp;done)|(simp;omega)) ?_;intro b1 d1 w5 y n L;have c5:aa d w5:=(by repeat(first|with_reducible exact aa.refl _|with_reducible assumption|with_reducible refine aa.dr ?_|with_reducible refine aa.al ?_ _):aa d _).fr n (by intro k j;simp[Value.ownBlock]at j;omega);rw[Nat.zero_add,List.nil_append]at y;rw[Nat.zero_add]at L;rw[Nat.zero_add]
    try simp only[Act.put,bC,bD,bF]
    refine B.out _ _ (λ_=>f _ (by repeat(first|with_reducible exact aa.refl _|with_reducible assumption|with_reducible refine aa.dr ?_|with_reducible refine aa.al ?_ _):aa d _)) ?_;refine aF (rs:=[7]) (by kernel_rfl) (by simp) (dl.cons (i:=7) rfl (λK B=>?_) dl.nil);go_simp
    try simp only[Act.put,bC,bD,bF]
    refine B.out _ _ (λ_=>f _ (by repeat(first|with_reducible exact aa.refl _|with_reducible assumption|with_reducible refine aa.dr ?_|with_reducible refine aa.al ?_ _):aa d _)) ?_;refine aF (rs:=[8]) (by kernel_rfl) (by simp) (dl.cons (i:=8) rfl (λK B=>?_) dl.nil);refine ce zp _ (by rfl) (.tmp 36) (.tmp 40) (by rfl) d.heap.size (.slice b1 r.fresh.length d1) r.fresh.length (cJ r.fresh) (by rfl) (bg (S:=ic) y (by repeat(first|with_reducible exact Fr.refl _ _|with_reducible refine Fr.drew ?_|with_reducible refine Fr.alloc ?_ _)) (λ_ _ h=>h)) (some ⟨_,0,none⟩) 1 1 (ff x s).toList (by rfl) (Rd.ofBlk (p:=λ_=>True) (t:=132) (cs:=ff x s) (by repeat(first|with_reducible exact ac.new' _ _ _ (by first|rfl|(simp;done))|with_reducible refine ac.drew ?_|with_reducible refine ac.alloc ?_ _|with_reducible refine ac.fr ?_ n (by simp[Value.ownBlock]))) 65 1 (by rw[z5]) trivial) (by intro u hu;exact PU.one ⟨x,s⟩ u (by simpa[ff]using hu)) (by unfold maxLen;omega) (by omega) ((by repeat(first|with_reducible exact aa.refl _|with_reducible assumption|with_reducible refine aa.dr ?_|with_reducible refine aa.al ?_ _):aa d _).size) ?_;intro l E F P M c4;have q:aa d F:=(by repeat(first|with_reducible exact aa.refl _|with_reducible assumption|with_reducible refine aa.dr ?_|with_reducible refine aa.al ?_ _):aa d _).fr M (by intro k j;exact(am y k j).1);have b9:=Ld P;have g:=q.blk c8.out;have c0:=g.cell 2;have c3:=g.frozen 2;clear P c4 M L y n
    try simp only[Act.put,bC,bD,bF]
    refine B.out _ _ (λ_=>f _ (by repeat(first|with_reducible exact aa.refl _|with_reducible assumption|with_reducible refine aa.dr ?_|with_reducible refine aa.al ?_ _):aa d _)) ?_;refine aG (i:=9) (v:=.pointer (some ⟨G,2,none⟩)) rfl (by kernel_rfl) (by kernel_rfl) (by kernel_rfl) (by kernel_rfl) (λ_ _ _ h=>h) (Or.inl ⟨by rfl,λw c=>by have h1:=c.1;have h2:=c.2;clear c;go_simp⟩) (f _ (by repeat(first|with_reducible exact aa.refl _|with_reducible assumption|with_reducible refine aa.dr ?_|with_reducible refine aa.al ?_ _):aa d _)) ?_
    try simp only[Act.put,bC,bD,bF]
    refine aF (rs:=[10]) (by kernel_rfl) (by simp) (dl.cons (i:=10) rfl (λK B=>?_) dl.nil);go_simp
    try simp only[Act.put,bC,bD,bF]
    refine B.out _ _ (λh=>absurd rfl h) ?_;refine fH (by kernel_rfl) ?_ _;obtain⟨w7,z⟩:=nM (F.setCell ⟨G,2,none⟩ (.slice l (r.fresh.length+1) E):World);have b3:Hid (ac w7 G 65 #[.int .i64 r.size,.slice A1 r.sure.length c1,.slice l (r.fresh.length+1) E,.int .i64 r.burn.fuse,.bool false]):=Ld (by rw[z];exact g.set 2 _);have D:Hid (Fr (λk=>k=G) F w7):=Ld (by rw[z];exact(Fr.refl (λk=>k=G) F).setCell (p:=⟨G,2,none⟩) (λ_=>rfl) _);have c':=Ld ((aa.blk q Y.out).fr D.out (by omega));have J:=Ld q;have b8:=Ld g
    try rw[<-z]
    clear z g c0 c3 q c5 f z1 z2 z3 z4 z5 z6 zl hi hu d2 g4 g5
    go_wp2_with (first
     |(refine cE 43 rfl ?_;refine ae rfl _ rfl underlying65 rfl rfl rfl b3.out ?_)
     |((with_reducible refine eC ⟨none,.store 65 (.tmp 6) _,_,_,_,_⟩ ?_);refine ao rfl (.tmp 6) (.tmp 43) rfl rfl rfl rfl c'.out rfl (ip _ _ _ _ _ _ _ _ _) ?_;intro V R T;have b7:=Ld R;have I:=Ld T;clear R T))
    refine bodyPost_ret (aE rfl _ _ (G+1+1) _ _ rfl b7.out underlying65 rfl rfl) rfl ?_;have C:Fr (λk=>k=G\/k=G+1+1) d V:=((J.out.toFr _).trans (D.out.mono λb _ h=>.inl h)).trans (I.out.mono λb _ h=>.inr h);have c6:aa w V:=((U.out.fr m.out (λk j=>by have:=X.out;omega)).fr C (λk j=>by have:=X.out;omega))
    refine⟨⟨A1,c1,l,E,?_,?_⟩,c6⟩
    ·rw[HW.out];unfold gI;simp only[List.length_append,List.length_singleton];have:r.burn.down=false:=d'.out;rw[this];rfl
    ·rw[HW.out];refine⟨?_,?_,?_⟩
     ·have N:Fr (λk=>k=G\/k=G+1+1) w3 V:=(m.out.mono λb _ h=>.inl h).trans C;exact(H.out.new U.out).sure.fr N (λk j=>by rcases j with rfl|rfl<;>first|exact aK.not_blk c7.out (by decide)|exact aK.not_blk g3.out (by decide))
     ·have h6:ei 132 F 65 l (r.fresh.length+1) (cJ (r.fresh++[⟨x,s⟩])):=by
       have:=ei.own b9.out rfl;rw[jf,la]
       simpa[ff]using this
      have O:Fr (λk=>k=G\/k=G+1+1) F V:=(D.out.mono λb _ h=>.inl h).trans (I.out.mono λb _ h=>.inr h);have:=h6.fr O (λk j=>by rcases j with rfl|rfl<;>first|exact aK.not_blk b8.out (by decide)|exact aK.not_blk (aa.blk J.out Y.out) (by decide))
      simpa using this
     ·rw[<-HW.out];exact H.out.ok.write x HS.out
   ·skip
    go_simp
    try simp only[Act.put,bC,bD,bF]
    refine B.out _ _ (λ_=>f _ (by repeat(first|with_reducible exact aa.refl _|with_reducible assumption|with_reducible refine aa.dr ?_|with_reducible refine aa.al ?_ _):aa d _)) ?_;refine aF (rs:=[3]) (by kernel_rfl) (by simp) (dl.cons (i:=3) rfl (λK B=>?_) dl.nil);refine ce zp _ (by rfl) (.tmp 33) (.tmp 35) (by rfl) d.heap.size (.slice (some ⟨_,0,none⟩) 0 0) 0 [] (by rfl) (dQ (by repeat(first|with_reducible exact ac.new' _ _ _ (by first|rfl|(simp;done))|with_reducible refine ac.drew ?_|with_reducible refine ac.alloc ?_ _|with_reducible refine ac.fr ?_ n (by simp[Value.ownBlock]))) (by first|(simp;done)|(simp;omega))) A2 r.fresh.length c2 (cJ r.fresh) (by rfl) ((by repeat(first|with_reducible exact aa.refl _|with_reducible assumption|with_reducible refine aa.dr ?_|with_reducible refine aa.al ?_ _):aa d _).rd b'.out) f'.out (by unfold maxLen;omega) (by omega) (by first|(simp;done)|(simp;omega)) ?_;intro b1 d1 w5 y n L;have c5:aa d w5:=(by repeat(first|with_reducible exact aa.refl _|with_reducible assumption|with_reducible refine aa.dr ?_|with_reducible refine aa.al ?_ _):aa d _).fr n (by intro k j;simp[Value.ownBlock]at j;omega);rw[Nat.zero_add,List.nil_append]at y;rw[Nat.zero_add]at L;rw[Nat.zero_add]
    try simp only[Act.put,bC,bD,bF]
    refine B.out _ _ (λ_=>f _ (by repeat(first|with_reducible exact aa.refl _|with_reducible assumption|with_reducible refine aa.dr ?_|with_reducible refine aa.al ?_ _):aa d _)) ?_;refine aF (rs:=[8]) (by kernel_rfl) (by simp) (dl.cons (i:=8) rfl (λK B=>?_) dl.nil);refine ce zp _ (by rfl) (.tmp 36) (.tmp 40) (by rfl) d.heap.size (.slice b1 r.fresh.length d1) r.fresh.length (cJ r.fresh) (by rfl) (bg (S:=ic) y (by repeat(first|with_reducible exact Fr.refl _ _|with_reducible refine Fr.drew ?_|with_reducible refine Fr.alloc ?_ _)) (λ_ _ h=>h)) (some ⟨_,0,none⟩) 1 1 (ff x s).toList (by rfl) (Rd.ofBlk (p:=λ_=>True) (t:=132) (cs:=ff x s) (by repeat(first|with_reducible exact ac.new' _ _ _ (by first|rfl|(simp;done))|with_reducible refine ac.drew ?_|with_reducible refine ac.alloc ?_ _|with_reducible refine ac.fr ?_ n (by simp[Value.ownBlock]))) 65 1 (by rw[z5]) trivial) (by intro u hu;exact PU.one ⟨x,s⟩ u (by simpa[ff]using hu)) (by unfold maxLen;omega) (by omega) ((by repeat(first|with_reducible exact aa.refl _|with_reducible assumption|with_reducible refine aa.dr ?_|with_reducible refine aa.al ?_ _):aa d _).size) ?_;intro l E F P M c4;have q:aa d F:=(by repeat(first|with_reducible exact aa.refl _|with_reducible assumption|with_reducible refine aa.dr ?_|with_reducible refine aa.al ?_ _):aa d _).fr M (by intro k j;exact(am y k j).1);have b9:=Ld P;have g:=q.blk c8.out;have c0:=g.cell 2;have c3:=g.frozen 2;clear P c4 M L y n
    try simp only[Act.put,bC,bD,bF]
    refine B.out _ _ (λ_=>f _ (by repeat(first|with_reducible exact aa.refl _|with_reducible assumption|with_reducible refine aa.dr ?_|with_reducible refine aa.al ?_ _):aa d _)) ?_;refine aG (i:=9) (v:=.pointer (some ⟨G,2,none⟩)) rfl (by kernel_rfl) (by kernel_rfl) (by kernel_rfl) (by kernel_rfl) (λ_ _ _ h=>h) (Or.inl ⟨by rfl,λw c=>by have h1:=c.1;have h2:=c.2;clear c;go_simp⟩) (f _ (by repeat(first|with_reducible exact aa.refl _|with_reducible assumption|with_reducible refine aa.dr ?_|with_reducible refine aa.al ?_ _):aa d _)) ?_
    try simp only[Act.put,bC,bD,bF]
    refine aF (rs:=[10]) (by kernel_rfl) (by simp) (dl.cons (i:=10) rfl (λK B=>?_) dl.nil);go_simp
    try simp only[Act.put,bC,bD,bF]
    refine B.out _ _ (λh=>absurd rfl h) ?_;refine fH (by kernel_rfl) ?_ _;obtain⟨w7,z⟩:=nM (F.setCell ⟨G,2,none⟩ (.slice l (r.fresh.length+1) E):World);have b3:Hid (ac w7 G 65 #[.int .i64 r.size,.slice A1 r.sure.length c1,.slice l (r.fresh.length+1) E,.int .i64 r.burn.fuse,.bool false]):=Ld (by rw[z];exact g.set 2 _);have D:Hid (Fr (λk=>k=G) F w7):=Ld (by rw[z];exact(Fr.refl (λk=>k=G) F).setCell (p:=⟨G,2,none⟩) (λ_=>rfl) _);have c':=Ld ((aa.blk q Y.out).fr D.out (by omega));have J:=Ld q;have b8:=Ld g
    try rw[<-z]
    clear z g c0 c3 q c5 f z1 z2 z3 z4 z5 z6 zl hi hu d2 g4 g5
    go_wp2_with (first
     |(refine cE 43 rfl ?_;refine ae rfl _ rfl underlying65 rfl rfl rfl b3.out ?_)
     |((with_reducible refine eC ⟨none,.store 65 (.tmp 6) _,_,_,_,_⟩ ?_);refine ao rfl (.tmp 6) (.tmp 43) rfl rfl rfl rfl c'.out rfl (ip _ _ _ _ _ _ _ _ _) ?_;intro V R T;have b7:=Ld R;have I:=Ld T;clear R T))
    refine bodyPost_ret (aE rfl _ _ (G+1+1) _ _ rfl b7.out underlying65 rfl rfl) rfl ?_;have C:Fr (λk=>k=G\/k=G+1+1) d V:=((J.out.toFr _).trans (D.out.mono λb _ h=>.inl h)).trans (I.out.mono λb _ h=>.inr h);have c6:aa w V:=((U.out.fr m.out (λk j=>by have:=X.out;omega)).fr C (λk j=>by have:=X.out;omega))
    refine⟨⟨A1,c1,l,E,?_,?_⟩,c6⟩
    ·rw[HW.out];unfold gI;simp only[List.length_append,List.length_singleton];have:r.burn.down=false:=d'.out;rw[this];rfl
    ·rw[HW.out];refine⟨?_,?_,?_⟩
     ·have N:Fr (λk=>k=G\/k=G+1+1) w3 V:=(m.out.mono λb _ h=>.inl h).trans C;exact(H.out.new U.out).sure.fr N (λk j=>by rcases j with rfl|rfl<;>first|exact aK.not_blk c7.out (by decide)|exact aK.not_blk g3.out (by decide))
     ·have h6:ei 132 F 65 l (r.fresh.length+1) (cJ (r.fresh++[⟨x,s⟩])):=by
       have:=ei.own b9.out rfl;rw[jf,la]
       simpa[ff]using this
      have O:Fr (λk=>k=G\/k=G+1+1) F V:=(D.out.mono λb _ h=>.inl h).trans (I.out.mono λb _ h=>.inr h);have:=h6.fr O (λk j=>by rcases j with rfl|rfl<;>first|exact aK.not_blk b8.out (by decide)|exact aK.not_blk (aa.blk J.out Y.out) (by decide))
      simpa using this
     ·rw[<-HW.out];exact H.out.ok.write x HS.out
  ·skip
   go_simp
   try simp only[Act.put,bC,bD,bF]
   refine B.out _ _ (λ_=>f _ (by repeat(first|with_reducible exact aa.refl _|with_reducible assumption|with_reducible refine aa.dr ?_|with_reducible refine aa.al ?_ _):aa d _)) ?_;refine aF (rs:=[0]) (by kernel_rfl) (by simp) (dl.cons (i:=0) rfl (λK B=>?_) dl.nil);go_simp
   try simp only[Act.put,bC,bD,bF]
   refine B.out _ _ (λ_=>f _ (by repeat(first|with_reducible exact aa.refl _|with_reducible assumption|with_reducible refine aa.dr ?_|with_reducible refine aa.al ?_ _):aa d _)) ?_;refine aF (rs:=[3]) (by kernel_rfl) (by simp) (dl.cons (i:=3) rfl (λK B=>?_) dl.nil);refine ce zp _ (by rfl) (.tmp 33) (.tmp 35) (by rfl) d.heap.size (.slice (some ⟨_,0,none⟩) 0 0) 0 [] (by rfl) (dQ (by repeat(first|with_reducible exact ac.new' _ _ _ (by first|rfl|(simp;done))|with_reducible refine ac.drew ?_|with_reducible refine ac.alloc ?_ _|with_reducible refine ac.fr ?_ n (by simp[Value.ownBlock]))) (by first|(simp;done)|(simp;omega))) A2 r.fresh.length c2 (cJ r.fresh) (by rfl) ((by repeat(first|with_reducible exact aa.refl _|with_reducible assumption|with_reducible refine aa.dr ?_|with_reducible refine aa.al ?_ _):aa d _).rd b'.out) f'.out (by unfold maxLen;omega) (by omega) (by first|(simp;done)|(simp;omega)) ?_;intro b1 d1 w5 y n L;have c5:aa d w5:=(by repeat(first|with_reducible exact aa.refl _|with_reducible assumption|with_reducible refine aa.dr ?_|with_reducible refine aa.al ?_ _):aa d _).fr n (by intro k j;simp[Value.ownBlock]at j;omega);rw[Nat.zero_add,List.nil_append]at y;rw[Nat.zero_add]at L;rw[Nat.zero_add]
   try simp only[Act.put,bC,bD,bF]
   refine B.out _ _ (λ_=>f _ (by repeat(first|with_reducible exact aa.refl _|with_reducible assumption|with_reducible refine aa.dr ?_|with_reducible refine aa.al ?_ _):aa d _)) ?_;refine aF (rs:=[8]) (by kernel_rfl) (by simp) (dl.cons (i:=8) rfl (λK B=>?_) dl.nil);refine ce zp _ (by rfl) (.tmp 36) (.tmp 40) (by rfl) d.heap.size (.slice b1 r.fresh.length d1) r.fresh.length (cJ r.fresh) (by rfl) (bg (S:=ic) y (by repeat(first|with_reducible exact Fr.refl _ _|with_reducible refine Fr.drew ?_|with_reducible refine Fr.alloc ?_ _)) (λ_ _ h=>h)) (some ⟨_,0,none⟩) 1 1 (ff x s).toList (by rfl) (Rd.ofBlk (p:=λ_=>True) (t:=132) (cs:=ff x s) (by repeat(first|with_reducible exact ac.new' _ _ _ (by first|rfl|(simp;done))|with_reducible refine ac.drew ?_|with_reducible refine ac.alloc ?_ _|with_reducible refine ac.fr ?_ n (by simp[Value.ownBlock]))) 65 1 (by rw[z5]) trivial) (by intro u hu;exact PU.one ⟨x,s⟩ u (by simpa[ff]using hu)) (by unfold maxLen;omega) (by omega) ((by repeat(first|with_reducible exact aa.refl _|with_reducible assumption|with_reducible refine aa.dr ?_|with_reducible refine aa.al ?_ _):aa d _).size) ?_;intro l E F P M c4;have q:aa d F:=(by repeat(first|with_reducible exact aa.refl _|with_reducible assumption|with_reducible refine aa.dr ?_|with_reducible refine aa.al ?_ _):aa d _).fr M (by intro k j;exact(am y k j).1);have b9:=Ld P;have g:=q.blk c8.out;have c0:=g.cell 2;have c3:=g.frozen 2;clear P c4 M L y n
   try simp only[Act.put,bC,bD,bF]
   refine B.out _ _ (λ_=>f _ (by repeat(first|with_reducible exact aa.refl _|with_reducible assumption|with_reducible refine aa.dr ?_|with_reducible refine aa.al ?_ _):aa d _)) ?_;refine aG (i:=9) (v:=.pointer (some ⟨G,2,none⟩)) rfl (by kernel_rfl) (by kernel_rfl) (by kernel_rfl) (by kernel_rfl) (λ_ _ _ h=>h) (Or.inl ⟨by rfl,λw c=>by have h1:=c.1;have h2:=c.2;clear c;go_simp⟩) (f _ (by repeat(first|with_reducible exact aa.refl _|with_reducible assumption|with_reducible refine aa.dr ?_|with_reducible refine aa.al ?_ _):aa d _)) ?_
   try simp only[Act.put,bC,bD,bF]
   refine aF (rs:=[10]) (by kernel_rfl) (by simp) (dl.cons (i:=10) rfl (λK B=>?_) dl.nil);go_simp
   try simp only[Act.put,bC,bD,bF]
   refine B.out _ _ (λh=>absurd rfl h) ?_;refine fH (by kernel_rfl) ?_ _;obtain⟨w7,z⟩:=nM (F.setCell ⟨G,2,none⟩ (.slice l (r.fresh.length+1) E):World);have b3:Hid (ac w7 G 65 #[.int .i64 r.size,.slice A1 r.sure.length c1,.slice l (r.fresh.length+1) E,.int .i64 r.burn.fuse,.bool false]):=Ld (by rw[z];exact g.set 2 _);have D:Hid (Fr (λk=>k=G) F w7):=Ld (by rw[z];exact(Fr.refl (λk=>k=G) F).setCell (p:=⟨G,2,none⟩) (λ_=>rfl) _);have c':=Ld ((aa.blk q Y.out).fr D.out (by omega));have J:=Ld q;have b8:=Ld g
   try rw[<-z]
   clear z g c0 c3 q c5 f z1 z2 z3 z4 z5 z6 zl hi hu d2 g4 g5
   go_wp2_with (first
    |(refine cE 43 rfl ?_;refine ae rfl _ rfl underlying65 rfl rfl rfl b3.out ?_)
    |((with_reducible refine eC ⟨none,.store 65 (.tmp 6) _,_,_,_,_⟩ ?_);refine ao rfl (.tmp 6) (.tmp 43) rfl rfl rfl rfl c'.out rfl (ip _ _ _ _ _ _ _ _ _) ?_;intro V R T;have b7:=Ld R;have I:=Ld T;clear R T))
   refine bodyPost_ret (aE rfl _ _ (G+1+1) _ _ rfl b7.out underlying65 rfl rfl) rfl ?_;have C:Fr (λk=>k=G\/k=G+1+1) d V:=((J.out.toFr _).trans (D.out.mono λb _ h=>.inl h)).trans (I.out.mono λb _ h=>.inr h);have c6:aa w V:=((U.out.fr m.out (λk j=>by have:=X.out;omega)).fr C (λk j=>by have:=X.out;omega))
   refine⟨⟨A1,c1,l,E,?_,?_⟩,c6⟩
   ·rw[HW.out];unfold gI;simp only[List.length_append,List.length_singleton];have:r.burn.down=false:=d'.out;rw[this];rfl
   ·rw[HW.out];refine⟨?_,?_,?_⟩
    ·have N:Fr (λk=>k=G\/k=G+1+1) w3 V:=(m.out.mono λb _ h=>.inl h).trans C;exact(H.out.new U.out).sure.fr N (λk j=>by rcases j with rfl|rfl<;>first|exact aK.not_blk c7.out (by decide)|exact aK.not_blk g3.out (by decide))
    ·have h6:ei 132 F 65 l (r.fresh.length+1) (cJ (r.fresh++[⟨x,s⟩])):=by
      have:=ei.own b9.out rfl;rw[jf,la]
      simpa[ff]using this
     have O:Fr (λk=>k=G\/k=G+1+1) F V:=(D.out.mono λb _ h=>.inl h).trans (I.out.mono λb _ h=>.inr h);have:=h6.fr O (λk j=>by rcases j with rfl|rfl<;>first|exact aK.not_blk b8.out (by decide)|exact aK.not_blk (aa.blk J.out Y.out) (by decide))
     simpa using this
    ·rw[<-HW.out];exact H.out.ok.write x HS.out
theorem Ai(r:RP)(c:Option Addr)(m:Nat)(A2:Option Addr)(c2:Nat)(x:Int)(s:List Int)(w:World)(h:fp w r c A2)(y:aS s)(v:(Lit.int .i64 x).wf=true)(hz: -9223372036854775808<=r.size/\r.size<=9223372036854775807)(z:¬(0<=x/\x<r.size)):
    Calls prog 32 #[.agg (gI r c m A2 c2),.int .i64 x,.agg (ag s)] w λe w'=>mj w' r 1 e/\aa w w':=by
 have H:=Ld h;have B:=bounds_i64 v
 have ht:decide (x<0)=true\/(decide (x<0)=false/\decide (r.size<=x)=true):=by
  by_cases h0:x<0
  ·exact .inl (decide_eq_true h0)
  ·exact .inr ⟨decide_eq_false h0,decide_eq_true (by omega)⟩
 unfold gI;clear h v z y;rcases ht with t0|⟨t0,t1⟩
 all_goals
  go_enter func32,ntmps32
  go_upto_region 2 with fail;obtain⟨t,b⟩:=nM (((w.alloc (.cells #[.int .i64 r.size,.slice c r.sure.length m,.slice A2 r.fresh.length c2,.int .i64 r.fuse,.bool r.down] 65)).alloc (.cells (ag s) 68)).alloc (.cells #[.int .i64 0,.slice none 0 0,.slice none 0 0,.int .i64 0,.bool false] 65):World);obtain⟨G,i⟩:=nM (w.heap.size);rw[<-i];have f:Hid (aa w t):=Ld (by rw[b];exact(((aa.refl w).al _).al _).al _);have n:Hid (ac t G 65 #[.int .i64 r.size,.slice c r.sure.length m,.slice A2 r.fresh.length c2,.int .i64 r.fuse,.bool r.down]):=Ld (by rw[b,i];exact((ac.new _ _ _).alloc _).alloc _);have g:Hid (ac t (G+1+1) 65 #[.int .i64 0,.slice none 0 0,.slice none 0 0,.int .i64 0,.bool false]):=Ld (by rw[b,i];exact ac.new' _ _ _ (by simp));rw[<-b];have q:Hid (G=w.heap.size):=Ld i;clear b i
  go_wp2_with (first
   |(refine cE 16 rfl ?_;refine ae rfl _ rfl underlying65 rfl rfl rfl n.out ?_)
   |((with_reducible refine eC ⟨none,.store 65 (.tmp 6) _,_,_,_,_⟩ ?_);refine ao rfl (.tmp 6) (.tmp 16) rfl rfl rfl rfl g.out rfl (ip _ _ _ _ _ _ _ _ _) ?_;intro C j l;have o:=Ld j;have d:=Ld l;clear j l))
  refine bodyPost_ret (aE rfl _ _ (G+1+1) _ _ rfl o.out underlying65 rfl rfl) rfl ?_;refine⟨⟨c,m,A2,c2,rfl,(H.out.new f.out).fr d.out (λk u=>by subst u;exact aK.not_blk g.out (by decide))⟩,f.out.fr d.out (λk u=>by have:=q.out;omega)⟩
theorem vt(r:RP)(i:Option Addr)(l:Nat)(A2:Option Addr)(c2:Nat)(x:Int)(s:List Int)(w:World)(h:fp w r i A2)(R:aS s)(O:(Lit.int .i64 x).wf=true)(S:0<=x/\x<r.size)(hd:r.fuse=0\/r.down=true):
    Calls prog 32 #[.agg (gI r i l A2 c2),.int .i64 x,.agg (ag s)] w λe w'=>mj w' {r with down:=true} 14 e/\aa w w':=by
 have H:=Ld h;have T:=bounds_i64 O;have t0:decide (x<0)=false:=decide_eq_false (by omega);have t1:decide (r.size<=x)=false:=decide_eq_false (by omega);obtain⟨u,n⟩:=nM (r.down)
 have ht:(r.fuse==0)=true\/((r.fuse==0)=false/\u=true):=by
  by_cases h0:r.fuse=0
  ·exact .inl (by simp[h0])
  ·exact .inr ⟨by simp[h0],by rw[n];exact hd.resolve_left h0⟩
 unfold gI;rw[<-n];clear h O S R hd n
 have M:(u=false/\(r.fuse==0)=true)\/(u=true/\(r.fuse==0)=true)\/(u=true/\(r.fuse==0)=false):=by
  rcases ht with h|⟨h1,h2⟩
  ·cases u
   ·exact .inl ⟨rfl,h⟩
   ·exact .inr (.inl ⟨rfl,h⟩)
  ·exact .inr (.inr ⟨h2,h1⟩)
 clear ht;rcases M with⟨rfl,t2⟩|⟨rfl,t2⟩|⟨rfl,t2⟩
 all_goals
  go_enter func32,ntmps32
  go_upto_region 4 with fail;obtain⟨G,v⟩:=nM (w.heap.size);rw[<-v]
  first
   | (obtain ⟨B,f⟩:=nM (true);obtain ⟨g,c⟩:=nM (((w.alloc (.cells #[.int .i64 r.size,.slice i r.sure.length l,.slice A2 r.fresh.length c2,.int .i64 r.fuse,.bool true] 65)).alloc (.cells (ag s) 68)).alloc (.cells #[.int .i64 0,.slice none 0 0,.slice none 0 0,.int .i64 0,.bool false] 65):World);rw [<-c];have d:g=((w.alloc (.cells #[.int .i64 r.size,.slice i r.sure.length l,.slice A2 r.fresh.length c2,.int .i64 r.fuse,.bool B] 65)).alloc (.cells (ag s) 68)).alloc (.cells #[.int .i64 0,.slice none 0 0,.slice none 0 0,.int .i64 0,.bool false] 65):=by rw [c,f]
      clear c;have c:=d;clear d;have E:=Ld f;clear f)
   | (obtain ⟨B,f⟩:=nM (false);obtain ⟨g,c⟩:=nM (((w.alloc (.cells #[.int .i64 r.size,.slice i r.sure.length l,.slice A2 r.fresh.length c2,.int .i64 r.fuse,.bool false] 65)).alloc (.cells (ag s) 68)).alloc (.cells #[.int .i64 0,.slice none 0 0,.slice none 0 0,.int .i64 0,.bool false] 65):World);rw [<-c];have d:g=((w.alloc (.cells #[.int .i64 r.size,.slice i r.sure.length l,.slice A2 r.fresh.length c2,.int .i64 r.fuse,.bool B] 65)).alloc (.cells (ag s) 68)).alloc (.cells #[.int .i64 0,.slice none 0 0,.slice none 0 0,.int .i64 0,.bool false] 65):=by rw [c,f]
      clear c;have c:=d;clear d;have E:=Ld f;clear f)
  have q:Hid (aa w g):=Ld (by rw[c];exact(((aa.refl w).al _).al _).al _);have j:Hid (ac g G 65 #[.int .i64 r.size,.slice i r.sure.length l,.slice A2 r.fresh.length c2,.int .i64 r.fuse,.bool B]):=Ld (by rw[c,v];exact((ac.new _ _ _).alloc _).alloc _);have t:Hid (ac g (G+1+1) 65 #[.int .i64 0,.slice none 0 0,.slice none 0 0,.int .i64 0,.bool false]):=Ld (by rw[c,v];exact ac.new' _ _ _ (by simp));have I:Hid (G=w.heap.size):=Ld v;have U:=j.out.cell 4;have V:=j.out.frozen 4;clear c v
  go_upto_region 5 with fail;obtain⟨P,d⟩:=nM (g.setCell ⟨G,4,none⟩ (.bool true):World);have C:Hid (ac P G 65 #[.int .i64 r.size,.slice i r.sure.length l,.slice A2 r.fresh.length c2,.int .i64 r.fuse,.bool true]):=Ld (by rw[d];exact j.out.set 4 _);have o:Hid (Fr (λk=>k=G) g P):=Ld (by rw[d];exact(Fr.refl (λk=>k=G) g).setCell (p:=⟨G,4,none⟩) (λ_=>rfl) _);have J:=Ld (t.out.fr o.out (by omega));rw[<-d];clear d U V
  go_wp2_with (first
   |(refine cE 25 rfl ?_;refine ae rfl _ rfl underlying65 rfl rfl rfl C.out ?_)
   |((with_reducible refine eC ⟨none,.store 65 (.tmp 6) _,_,_,_,_⟩ ?_);refine ao rfl (.tmp 6) (.tmp 25) rfl rfl rfl rfl J.out rfl (ip _ _ _ _ _ _ _ _ _) ?_;intro X y z;have D:=Ld y;have F:=Ld z;clear y z))
  refine bodyPost_ret (aE rfl _ _ (G+1+1) _ _ rfl D.out underlying65 rfl rfl) rfl ?_;have m:Fr (λk=>k=G\/k=G+1+1) g X:=(o.out.mono λb _ h=>.inl h).trans (F.out.mono λb _ h=>.inr h);have L:=(H.out.new q.out).fr m (λk N=>by rcases N with rfl|rfl<;>first|exact aK.not_blk j.out (by decide)|exact aK.not_blk t.out (by decide));exact⟨⟨i,l,A2,c2,rfl,⟨L.sure,L.fresh,L.ok⟩⟩,q.out.fr m (λk N=>by have:=I.out;omega)⟩
theorem qe(r:RP)(c:Option Addr)(f:Nat)(A2:Option Addr)(c2:Nat)(x:Int)(s:List Int)(w:World)(h:fp w r c A2)(g:aS s)(k:r.tot<=100000)(i:(Lit.int .i64 x).wf=true)(j:(Lit.int .i64 r.fuse).wf=true)(hz: -9223372036854775808<=r.size/\r.size<=9223372036854775807):
    Calls prog 32 #[.agg (gI r c f A2 c2),.int .i64 x,.agg (ag s)] w λe w'=>mj w' (r.write x s) (r.wcode x) e/\aa w w':=by
 by_cases d:0<=x/\x<r.size
 ·have b:r.within x=true:=decide_eq_true d
  by_cases hd:r.fuse=0\/r.down=true
  ·have:r.write x s={r with down:=true}:=by unfold RP.write;rw [b,if_pos rfl,if_pos hd]
   rw[this,show r.wcode x=14 from by unfold RP.wcode;rw[b,if_pos rfl,if_pos hd]];exact vt r c f A2 c2 x s w h g i d hd
  ·rw[show r.wcode x=0 from by unfold RP.wcode;rw[b,if_pos rfl,if_neg hd]];exact Ah r c f A2 c2 x s w h g k i j d hd
 ·have b:r.within x=false:=decide_eq_false d;rw[show r.write x s=r from by unfold RP.write;rw[b,if_neg (by simp)],show r.wcode x=1 from by unfold RP.wcode;rw[b,if_neg (by simp)]];exact Ai r c f A2 c2 x s w h g i hz d
theorem xm(r:RP)(c:Option Addr)(m:Nat)(A2:Option Addr)(c2:Nat)(w:World)(h:fp w r c A2)(hd:r.down=true):
    Calls prog 72 #[.agg (gI r c m A2 c2)] w λe w'=>mj w' r 14 e/\aa w w':=by
 have H:=Ld h;have q:=Ld hd;unfold gI;rw[hd];clear h hd
 go_enter func72,ntmps72
 go_upto_region 2 with fail;obtain⟨t,b⟩:=nM ((w.alloc (.cells #[.int .i64 r.size,.slice c r.sure.length m,.slice A2 r.fresh.length c2,.int .i64 r.fuse,.bool true] 65)).alloc (.cells #[.int .i64 0,.slice none 0 0,.slice none 0 0,.int .i64 0,.bool false] 65):World);obtain⟨G,i⟩:=nM (w.heap.size);rw[<-i];have f:Hid (aa w t):=Ld (by rw[b];exact((aa.refl w).al _).al _);have n:Hid (ac t G 65 #[.int .i64 r.size,.slice c r.sure.length m,.slice A2 r.fresh.length c2,.int .i64 r.fuse,.bool true]):=Ld (by rw[b,i];exact(ac.new _ _ _).alloc _);have g:Hid (ac t (G+1) 65 #[.int .i64 0,.slice none 0 0,.slice none 0 0,.int .i64 0,.bool false]):=Ld (by rw[b,i];exact ac.new' _ _ _ (by simp));rw[<-b];have s:Hid (G=w.heap.size):=Ld i;clear b i
 go_wp2_with (first
  |(refine cE 6 rfl ?_;refine ae rfl _ rfl underlying65 rfl rfl rfl n.out ?_)
  |((with_reducible refine eC ⟨none,.store 65 (.tmp 2) _,_,_,_,_⟩ ?_);refine ao rfl (.tmp 2) (.tmp 6) rfl rfl rfl rfl g.out rfl (ip _ _ _ _ _ _ _ _ _) ?_;intro v j l;have o:=Ld j;have d:=Ld l;clear j l))
 refine bodyPost_ret (aE rfl _ _ (G+1) _ _ rfl o.out underlying65 rfl rfl) rfl ?_;refine⟨⟨c,m,A2,c2,?_,(H.out.new f.out).fr d.out (λk u=>by subst u;exact aK.not_blk g.out (by decide))⟩,f.out.fr d.out (λk u=>by have:=s.out;omega)⟩;unfold gI;rw[q.out];rfl
theorem Cr(r:RP)(s:Option Addr)(D:Nat)(A2:Option Addr)(c2:Nat)(w:World)(h:fp w r s A2)(hd:r.down=false)(hn:r.tot<=100000):
    Calls prog 72 #[.agg (gI r s D A2 c2)] w λe w'=>mj w' r.sync 0 e/\aa w w':=by
 have H:=Ld h;have b':=Ld hd;have d':r.sure.length+r.fresh.length<=100000:=hn;have HW:Hid (r.sync={r with sure:=r.sure++r.fresh,fresh:=[]}):=Ld (by unfold RP.sync;rw[hd,if_neg (by simp)]);have b9:Hid (∀u∈cJ r.sure,u.oneCell'=true):=Ld (jD _);have c':Hid (∀u∈cJ r.fresh,u.oneCell'=true):=Ld (jD _);unfold gI;rw[hd];clear h hd hn
 go_enter func72,ntmps72
 go_upto_region 3 with fail;obtain⟨d,l⟩:=nM ((w.alloc (.cells #[.int .i64 r.size,.slice s r.sure.length D,.slice A2 r.fresh.length c2,.int .i64 r.fuse,.bool false] 65)).alloc (.cells #[.int .i64 0,.slice none 0 0,.slice none 0 0,.int .i64 0,.bool false] 65):World);obtain⟨G,R⟩:=nM (w.heap.size);rw[<-R];have C:Hid (aa w d):=Ld (by rw[l];exact((aa.refl w).al _).al _);have y:Hid (ac d G 65 #[.int .i64 r.size,.slice s r.sure.length D,.slice A2 r.fresh.length c2,.int .i64 r.fuse,.bool false]):=Ld (by rw[l,R];exact(ac.new _ _ _).alloc _);have N:Hid (ac d (G+1) 65 #[.int .i64 0,.slice none 0 0,.slice none 0 0,.int .i64 0,.bool false]):=Ld (by rw[l,R];exact ac.new' _ _ _ (by simp));rw[<-l];have b3:Hid (G=w.heap.size):=Ld R;clear l R;have f:∀w',aa d w'->w'.cell? ⟨G,1,none⟩=some (.slice s r.sure.length D)/\w'.cell? ⟨G,2,none⟩=some (.slice A2 r.fresh.length c2):=λw' hN=>⟨hN.cell_ (y.out.cell 1),hN.cell_ (y.out.cell 2)⟩
 refine iT (λw'=>w'.cell? ⟨G,1,none⟩=some (.slice s r.sure.length D)/\w'.cell? ⟨G,2,none⟩=some (.slice A2 r.fresh.length c2)) 8 (by kernel_rfl) ?_;refine aG (i:=1) (v:=.pointer (some ⟨G,1,none⟩)) rfl (by kernel_rfl) (by kernel_rfl) (by kernel_rfl) (by kernel_rfl) (λ_ _ _ h=>h) (Or.inl ⟨by rfl,λw c=>by have h1:=c.1;have h2:=c.2;clear c;go_simp⟩) (f _ (by repeat(first|with_reducible exact aa.refl _|with_reducible assumption|with_reducible refine aa.dr ?_|with_reducible refine aa.al ?_ _):aa d _)) ?_
 try simp only[Act.put,bC,bD,bF]
 refine aG (i:=2) (v:=.slice s r.sure.length D) rfl (by kernel_rfl) (by kernel_rfl) (by kernel_rfl) (by kernel_rfl) (λ_ _ _ h=>h) (Or.inl ⟨by rfl,λw c=>by have h1:=c.1;have h2:=c.2;clear c;go_simp⟩) (f _ (by repeat(first|with_reducible exact aa.refl _|with_reducible assumption|with_reducible refine aa.dr ?_|with_reducible refine aa.al ?_ _):aa d _)) ?_
 try simp only[Act.put,bC,bD,bF]
 refine aG (i:=4) (v:=.pointer (some ⟨G,2,none⟩)) rfl (by kernel_rfl) (by kernel_rfl) (by kernel_rfl) (by kernel_rfl) (λ_ _ _ h=>h) (Or.inl ⟨by rfl,λw c=>by have h1:=c.1;have h2:=c.2;clear c;go_simp⟩) (f _ (by repeat(first|with_reducible exact aa.refl _|with_reducible assumption|with_reducible refine aa.dr ?_|with_reducible refine aa.al ?_ _):aa d _)) ?_
 try simp only[Act.put,bC,bD,bF]
 refine aG (i:=5) (v:=.slice A2 r.fresh.length c2) rfl (by kernel_rfl) (by kernel_rfl) (by kernel_rfl) (by kernel_rfl) (λ_ _ _ h=>h) (Or.inl ⟨by rfl,λw c=>by have h1:=c.1;have h2:=c.2;clear c;go_simp⟩) (f _ (by repeat(first|with_reducible exact aa.refl _|with_reducible assumption|with_reducible refine aa.dr ?_|with_reducible refine aa.al ?_ _):aa d _)) ?_
 try simp only[Act.put,bC,bD,bF]
 refine aF (rs:=[0]) (by kernel_rfl) (by simp) (dl.cons (i:=0) rfl (λK F=>?_) dl.nil);go_simp
 try simp only[Act.put,bC,bD,bF]
 refine F.out _ _ (λ_=>f _ (by repeat(first|with_reducible exact aa.refl _|with_reducible assumption|with_reducible refine aa.dr ?_|with_reducible refine aa.al ?_ _):aa d _)) ?_;refine aF (rs:=[3]) (by kernel_rfl) (by simp) (dl.cons (i:=3) rfl (λK F=>?_) dl.nil);refine ce zp _ (by rfl) (.tmp 7) (.tmp 9) (by rfl) d.heap.size (.slice (some ⟨_,0,none⟩) 0 0) 0 [] (by rfl) (dQ (by repeat(first|with_reducible exact ac.new' _ _ _ (by first|rfl|(simp;done))|with_reducible refine ac.drew ?_|with_reducible refine ac.alloc ?_ _|with_reducible refine ac.fr ?_ E (by simp[Value.ownBlock]))) (by first|(simp;done)|(simp;omega))) s r.sure.length D (cJ r.sure) (by rfl) ((by repeat(first|with_reducible exact aa.refl _|with_reducible assumption|with_reducible refine aa.dr ?_|with_reducible refine aa.al ?_ _):aa d _).rd (H.out.new C.out).sure) b9.out (by unfold maxLen;omega) (by omega) (by first|(simp;done)|(simp;omega)) ?_;intro X d1 w5 n E O;have c6:aa d w5:=(by repeat(first|with_reducible exact aa.refl _|with_reducible assumption|with_reducible refine aa.dr ?_|with_reducible refine aa.al ?_ _):aa d _).fr E (by intro k L;simp[Value.ownBlock]at L;omega);rw[Nat.zero_add,List.nil_append]at n;rw[Nat.zero_add]at O;rw[Nat.zero_add]
 try simp only[Act.put,bC,bD,bF]
 refine F.out _ _ (λ_=>f _ (by repeat(first|with_reducible exact aa.refl _|with_reducible assumption|with_reducible refine aa.dr ?_|with_reducible refine aa.al ?_ _):aa d _)) ?_;refine aF (rs:=[6]) (by kernel_rfl) (by simp) (dl.cons (i:=6) rfl (λK F=>?_) dl.nil);refine ce zp _ (by rfl) (.tmp 10) (.tmp 12) (by rfl) d.heap.size (.slice X r.sure.length d1) r.sure.length (cJ r.sure) (by rfl) (bg (S:=ic) n (by repeat(first|with_reducible exact Fr.refl _ _|with_reducible refine Fr.drew ?_|with_reducible refine Fr.alloc ?_ _)) (λ_ _ h=>h)) A2 r.fresh.length c2 (cJ r.fresh) (by rfl) ((by repeat(first|with_reducible exact aa.refl _|with_reducible assumption|with_reducible refine aa.dr ?_|with_reducible refine aa.al ?_ _):aa d _).rd (H.out.new C.out).fresh) c'.out (by unfold maxLen;omega) (by omega) ((by repeat(first|with_reducible exact aa.refl _|with_reducible assumption|with_reducible refine aa.dr ?_|with_reducible refine aa.al ?_ _):aa d _).size) ?_;intro g m J T P c5;have I:aa d J:=(by repeat(first|with_reducible exact aa.refl _|with_reducible assumption|with_reducible refine aa.dr ?_|with_reducible refine aa.al ?_ _):aa d _).fr P (by intro k L;exact(am n k L).1);have b8:=Ld T;have j:=I.blk y.out;have c3:=j.cell 1;have c4:=j.frozen 1;clear T c5 P O n E
 try simp only[Act.put,bC,bD,bF]
 refine F.out _ _ (λ_=>f _ (by repeat(first|with_reducible exact aa.refl _|with_reducible assumption|with_reducible refine aa.dr ?_|with_reducible refine aa.al ?_ _):aa d _)) ?_;refine aG (i:=7) (v:=.pointer (some ⟨G,1,none⟩)) rfl (by kernel_rfl) (by kernel_rfl) (by kernel_rfl) (by kernel_rfl) (λ_ _ _ h=>h) (Or.inl ⟨by rfl,λw c=>by have h1:=c.1;have h2:=c.2;clear c;go_simp⟩) (f _ (by repeat(first|with_reducible exact aa.refl _|with_reducible assumption|with_reducible refine aa.dr ?_|with_reducible refine aa.al ?_ _):aa d _)) ?_
 try simp only[Act.put,bC,bD,bF]
 refine aF (rs:=[8]) (by kernel_rfl) (by simp) (dl.cons (i:=8) rfl (λK F=>?_) dl.nil);go_simp
 try simp only[Act.put,bC,bD,bF]
 refine F.out _ _ (λh=>absurd rfl h) ?_;refine fH (by kernel_rfl) ?_ _;obtain⟨w7,o⟩:=nM (J.setCell ⟨G,1,none⟩ (.slice g (r.sure.length+r.fresh.length) m):World);have z:Hid (ac w7 G 65 #[.int .i64 r.size,.slice g (r.sure.length+r.fresh.length) m,.slice A2 r.fresh.length c2,.int .i64 r.fuse,.bool false]):=Ld (by rw[o];exact j.set 1 _);have b0:Hid (Fr (λk=>k=G) J w7):=Ld (by rw[o];exact(Fr.refl (λk=>k=G) J).setCell (p:=⟨G,1,none⟩) (λ_=>rfl) _);have B:=Ld I;have b7:=Ld j;have c8:=z.out.cell 2;have c9:=z.out.frozen 2
 try rw[<-o]
 clear o j c3 c4 I c6 f
 go_upto_region 5 with fail;obtain⟨w9,q⟩:=nM (w7.setCell ⟨G,2,none⟩ (.slice none 0 0):World);have Z:Hid (ac w9 G 65 #[.int .i64 r.size,.slice g (r.sure.length+r.fresh.length) m,.slice none 0 0,.int .i64 r.fuse,.bool false]):=Ld (by rw[q];exact z.out.set 2 _);have M:Hid (Fr (λk=>k=G) J w9):=Ld (by rw[q];exact b0.out.setCell (p:=⟨G,2,none⟩) (λ_=>rfl) _);have c0:=Ld ((aa.blk B.out N.out).fr M.out (by omega))
 try rw[<-q]
 clear q c8 c9
 go_wp2_with (first
  |(refine cE 16 rfl ?_;refine ae rfl _ rfl underlying65 rfl rfl rfl Z.out ?_)
  |((with_reducible refine eC ⟨none,.store 65 (.tmp 2) _,_,_,_,_⟩ ?_);refine ao rfl (.tmp 2) (.tmp 16) rfl rfl rfl rfl c0.out rfl (ip _ _ _ _ _ _ _ _ _) ?_;intro w8 U V;have Y:=Ld U;have b1:=Ld V;clear U V))
 refine bodyPost_ret (aE rfl _ _ (G+1) _ _ rfl Y.out underlying65 rfl rfl) rfl ?_;have t:Fr (λk=>k=G\/k=G+1) J w8:=(M.out.mono λb _ h=>.inl h).trans (b1.out.mono λb _ h=>.inr h);have c7:aa w w8:=(C.out.tr B.out).fr t (λk L=>by have:=b3.out;omega);refine⟨⟨g,m,none,0,?_,?_⟩,c7⟩
 ·rw[HW.out];unfold gI;simp only[List.length_append,List.length_nil];rw[b'.out];rfl
 ·rw[HW.out];refine⟨?_,ei.nil,?_⟩
  ·have h6:ei 132 J 65 g (r.sure.length+r.fresh.length) (cJ (r.sure++r.fresh)):=by
    have:=ei.own b8.out rfl;rw[jf];exact this
   have:=h6.fr t (λk L=>by rcases L with rfl|rfl<;>first|exact aK.not_blk b7.out (by decide)|exact aK.not_blk (aa.blk B.out N.out) (by decide))
   simpa using this
  ·rw[<-HW.out];exact H.out.ok.sync
theorem rX(r:RP)(b:Option Addr)(c:Nat)(A2:Option Addr)(c2:Nat)(w:World)(h:fp w r b A2)(d:r.tot<=100000):
    Calls prog 72 #[.agg (gI r b c A2 c2)] w λe w'=>mj w' r.sync r.scode e/\aa w w':=by
 cases hd:r.down with
 |true=>
  rw[show r.sync=r from by unfold RP.sync;rw[hd,if_pos rfl],show r.scode=14 from by unfold RP.scode;rw[hd,if_pos rfl]];exact xm r b c A2 c2 w h hd
 |false=>
  rw[show r.scode=0 from by unfold RP.scode;rw[hd,if_neg (by simp)]];exact Cr r b c A2 c2 w h hd d
structure WI(w w0:World)(L:List PU)(j:Nat)(v:Value)(wr:World):Prop where
 own:wr.ownsRow w0.heap.size 3 1 v (bV (L.take j)).length (ji (bV (L.take j)))
 new:aa w0 wr
theorem WI.dn{w b wr:World}{L:List PU}{j:Nat}{v:Value}(h:WI w b L j v wr)(n:Nat):WI w b L j v (wr.drewN n):=⟨bg (S:=ic) h.own ((Fr.refl _ _).drewN n) (λ_ _ x=>x),h.new.dn n⟩
def jX(L:List PU)(k:Nat)(x:Int):Bool:= !((L.take k).map PU.pos).contains x
theorem DD(L:List PU)(x:Int):jX L 0 x=true:=by simp[jX]
theorem wD{L:List PU}{k:Nat}(b:k<L.length)(x:Int):jX L (k+1) x=(jX L k x&&(L[k].pos != x)):=by
 unfold jX;rw[List.take_succ_eq_append_getElem b];simp only[List.map_append,List.map_cons,List.map_nil];rw[Bool.eq_iff_iff];simp;intro _;exact⟨λh e=>h e.symm,λh e=>h e.symm⟩
theorem xM{L:List PU}{i:Nat}(hi:i<L.length):bV (L.take (i+1))=if jX L i L[i].pos=true then bV (L.take i)++[L[i].pos]else bV (L.take i):=by
 rw[List.take_succ_eq_append_getElem hi,jP]
 by_cases h:L[i].pos∈bV (L.take i)
 ·have h2:=(ld _ _).1 h;rw[if_pos h,if_neg (by simp only[jX,Bool.not_eq_true'];rw[List.contains_iff_mem.2 h2];simp)]
 ·have h2:L[i].pos∉(L.take i).map PU.pos:=λe=>h ((ld _ _).2 e)
  rw[if_neg h,if_pos (by simp only[jX,Bool.not_eq_true'];rw[Bool.eq_false_iff];intro e;exact h2 (List.contains_iff_mem.1 e))]
theorem qd(r:RP)(A1:Option Addr)(c1:Nat)(A2:Option Addr)(c2:Nat)(w:World)(h:fp w r A1 A2)(hn:r.tot<=100000):
    Calls prog 43 #[.agg (gI r A1 c1 A2 c2)] w λe w'=>(∃A c,e=.returned (.slice A (bV r.fresh).length c)/\w'.ownsRow w.heap.size 3 1 (.slice A (bV r.fresh).length c) (bV r.fresh).length (ji (bV r.fresh)))/\aa w w':=by
 have H:=Ld h;have Z:r.fresh.length<=100000:=by unfold RP.tot at hn;omega
 unfold gI;clear h hn
 go_enter func43,ntmps43
 go_upto_region 1 with fail;obtain⟨P,u⟩:=nM (w.alloc (.cells #[.int .i64 r.size,.slice A1 r.sure.length c1,.slice A2 r.fresh.length c2,.int .i64 r.fuse,.bool r.down] 65):World);obtain⟨G,hG⟩:=nM (w.heap.size);rw[<-hG];have E:Hid (aa w P):=Ld (by rw[u];exact(aa.refl w).al _);have o:Hid (ac P G 65 #[.int .i64 r.size,.slice A1 r.sure.length c1,.slice A2 r.fresh.length c2,.int .i64 r.fuse,.bool r.down]):=Ld (by rw[u,hG];exact ac.new _ _ _);rw[<-u];have c5:Hid (G=w.heap.size):=Ld hG;clear u hG;obtain⟨L,R⟩:=nM (r.fresh);have HI:=Ld (H.out.new E.out);have HR:Hid (ei 132 P 65 A2 L.length (cJ L)):=Ld (by rw[R];exact HI.out.fresh);have S:Hid (∀x∈L,aS x.s):=Ld (by rw[R];exact HI.out.ok.2);rw[<-R]at o Z;rw[<-R];have b3:=Ld R;clear R;generalize Y:L.length=n at o HR Z;have D:=Ld Y;clear Y HI
 go_wp2_with fail;go_loopw [3,4,5,6] (λv i _ _ wr=>∃(j:Nat),j<=n/\i=.int .i64 j/\Hid (WI w P L j v wr)) (λ_ i _ _ _=>n-(intOf i).toNat)
 case atStart=>exact⟨0,Nat.zero_le _,rfl,Ld ⟨World.ownsRow_nil _ _ _ _,aa.refl _⟩⟩
 case round=>
  obtain⟨j,hj,rfl,HW⟩:=hrel;have k2:=(aa.blk HW.out.new o.out).cell 2
  by_cases c0:j<n
  ·as_aux_lemma=>
   obtain⟨gA,oA,hl,rfl,-,cp,-⟩:=wV (HW.out.new.rd HR.out) D.out S.out c0;have N:=xM hl;have s:=Ld cp;generalize b':L[j].pos=B at cp N s;have T:=Ld N;have c6:=Ld b';clear N cp b'
   go_wp2_with fail;obtain⟨wo,O⟩:=nM (wr:World);rw[<-O]at HW k2 s;rw[<-O];clear O
   go_loopw [5,6] (λb i wr=>∃(k:Nat) (m:Nat),k<=j/\i=.int .i64 k/\b=.bool (jX L k B)/\wr=wo.drewN m) (λ_ i _=>j-(intOf i).toNat)
   case atStart=>exact⟨0,0,by omega,rfl,by rw[DD],rfl⟩
   case round=>
    obtain⟨k,m,hk,rfl,rfl,rfl⟩:=hrel
    by_cases c7:k<j
    ·as_aux_lemma=>
     obtain⟨gB,oB,b9,I,-,cq,-⟩:=wV (HW.out.new.rd HR.out) D.out S.out (show k<n by omega);injection I with I;injection I with h1 h2;subst h1 h2;have M:=wD b9 B;generalize L[k].pos=py at cq M;have F:=Ld M;have cj:=s.out;clear M;generalize jX L k B=b at F⊢;rcases b with _|_
     ·go_wp2_with fail;go_quiet (fail)
      go_wp2_with fail;go_roundw
      case rel=>exact⟨k+1,m+nq,by omega,by go_num,by rw[F.out];rfl,rfl⟩
      case measure=>simp[intOf];omega
     ·go_wp2_with fail;go_quiet (fail)
      go_wp2_with fail;go_roundw
      case rel=>exact⟨k+1,m+nq,by omega,by go_num,by rw[F.out];simp,rfl⟩
      case measure=>simp[intOf];omega
    ·as_aux_lemma=>
     obtain rfl:k=j:=by omega
     have d:=Ld (HW.out.dn m);obtain⟨wm,y⟩:=nM (wo.drewN m:World);have cj:wm.cell? ⟨gA,oA+k*65,none⟩=some (.int .i64 B):=by rw[y];exact s.out
     rw[<-y]at d;have d2:=(aa.blk d.out.new o.out).cell 2;rw[<-y];clear y k2;have b0:=Ld cj;clear cj;obtain⟨A,c,rfl,J,X,-,-⟩:=eT d.out.own;have c3:=nH (L.take k);have c4:(L.take k).length<=k:=List.length_take_le _ _;obtain⟨z,hz⟩:=nM (bV (L.take k));have C:wm.ownsRow P.heap.size 3 1 (.slice A z.length c) z.length (ji z):=by rw[hz];exact d.out.own
     have l:Hid (bV (L.take (k+1))=if jX L k B=true then z++[B]else z):=Ld (by rw[T.out,hz]);rw[<-hz]at J c3;rw[<-hz];have g:=Ld C;have f:=Ld d.out.new;have c9:z.length<=100000:=by omega
     clear hz C d T;generalize jX L k B=b at l⊢;have cj:=b0.out;have c8:P.heap.size<=wm.heap.size:=f.out.size;rcases b with _|_
     ·go_wp2_with fail;go_roundw
      case rel=>
       refine⟨k+1,by omega,by go_num,Ld ⟨?_,f.out⟩⟩;rw[l.out,if_neg (by simp)];exact g.out
      case measure=>simp[intOf];omega
     ·go_wp2_with (at_builtin;refine av Hi _ rfl (.tmp 36) (.tmp 43) rfl P.heap.size (.slice A z.length c) z.length (ji z) rfl (aa.own (aa.al (aa.refl wm) _) g.out) (some ⟨wm.heap.size,0,none⟩) 1 1 [.int .i64 B] rfl (Rd.ofBlk (p:=λ_=>True) (t:=3) (cs:= #[.int .i64 B]) (ac.new' _ _ _ rfl) 1 1 rfl trivial) (by simp[Value.oneCell']) (by unfold maxLen;omega) (by omega) (by simp;omega) ?_;intro A' c' w3 V U b8;have b7:=Ld V;have b1:=Ld U;clear V U b8)
      go_roundw
      case rel=>
       refine⟨k+1,by omega,by go_num,Ld ⟨?_,?_⟩⟩
       ·rw[l.out,if_pos rfl,List.length_append,uC];exact b7.out
       ·exact((f.out).al _).fr b1.out (λq hq=>(am g.out q hq).1)
      case measure=>simp[intOf];omega
  ·as_aux_lemma=>
   obtain rfl:j=n:=by omega
   have hf:bV (L.take j)=bV L:=by rw[List.take_of_length_le (by rw[D.out];omega)]
   have ho:=HW.out.own;rw[hf]at ho;have f:=Ld HW.out.new;obtain⟨A,c,rfl,J,X,-,-⟩:=eT ho;have HO:=Ld ho;clear hf ho HW J X
   go_wp2_with fail;go_ret;rw[<-b3.out];exact⟨⟨A,c,rfl,im HO.out (λk hk=>by have:=(am HO.out k hk).1;have:=E.out.size;omega)⟩,E.out.tr f.out⟩
end Go.Proofs.YtfchcdbfalgdlaaGreatDoor
namespace Go.Proofs.YtfchcdbfalgdlaaGreatDoor
open _root_.Go.Proofs.Tryz
open Go.RowKit Go.Sort
theorem rH{P:Program}{u:Array Oper}{Q:Exit->Act->World->Prop}{S:World->Prop}{last i:Nat}{w:World}{o:Oper}{T:List (Bool×Nat)}{a:Act}(G:u[i]?=some o)(hw:Region.wanted o (yielded u a.tmps)=true)(d s:Operand)(D I:TypeId)
    (O:o.op=.call {callee:=.builtin .copy,args:= #[d,s],argTypes:= #[D,I]}) (elem:TypeId) (hu:P.underlying D=some (.slice elem)) (B:(P.info? elem).map (·.size)=some 1)
    (g off b l:Nat) (J:Option Addr) (f m:Nat) (hd:a.eval d=.slice (some ⟨g,off,none⟩) b l) (R:a.eval s=.slice J f m)
    (cur:List Value) (t:TypeId) (E:ac w g t cur.toArray) (cs:List Value) (N:cs.length=Nat.min f b) {q:Nat->Prop}
    (z:∃n xs,Rd q w 1 J n xs/\xs.take cs.length=cs) (y:off+cs.length<=cur.length) (h1:∀v∈cs,v.oneCell'=true)
    (h:∀w',ac w' g t (splice cur off cs).toArray->Fr (λk=>k=g) w w'->(i≠last->S w')/\dc P u S last Q T (a.put o.dst (goInt cs.length)) w'):dc P u S last Q ((false,i)::T) a w:=by
 refine⟨o,G,?_⟩;rw[if_pos hw]
 by_cases h0:cs.length=0
 ·obtain rfl:cs=[]:=List.eq_nil_of_length_eq_zero h0;have c:=run_copy_none (P:=P) w D I o.type elem (some ⟨g,off,none⟩) J b l f m hu B (by simpa using N.symm);unfold Oper.wp;simp[execOp,O,resolve,invoke,builtin,hd,R,c,Result.andThen];exact h w (by simpa[splice]using E) (Fr.refl _ _)
 ·obtain⟨n,xs,L,C⟩:=z
  have F:0<n:=by
   have h2:=L.1;have V:=congrArg List.length C;rw[List.length_take]at V;omega
  obtain⟨U,rfl,-,-,Y⟩:=L.2 F
  have c:=run_copy_row (P:=P) w D I o.type elem g off b l U f m cur.toArray t cs hu B E N (λj v H=>Y j v (by
   have Z:=(List.getElem?_eq_some_iff.1 H).1;rw[<-C,List.getElem?_take_of_lt Z]at H
   exact H)) (by simpa using y) h1
  obtain⟨r1,r2⟩:=eJ (cs':=(cur.toArray.toList.take off++cs++cur.toArray.toList.drop (off+cs.length)).toArray) E;have M:=h _ (by simpa[splice]using r1) r2;obtain⟨W,X⟩:=nM (w.setRow g (cur.toArray.toList.take off++cs++cur.toArray.toList.drop (off+cs.length)).toArray);rw[<-X]at c M;unfold Oper.wp;simp[execOp,O,resolve,invoke,builtin,hd,R,c,Result.andThen];exact M
theorem tp{P:Program}{f:Array Oper}{Q:Exit->Act->World->Prop}{S:World->Prop}{last i:Nat}{o:Oper}{B:List (Bool×Nat)}{a:Act}{t e:TypeId}{size bytes:Nat}(E:aY P t e size bytes)(w:World)(z:f[i]?=some o)(G:Region.wanted o (yielded f a.tmps)=true)(s x:Operand)
    (C:o.op=.call {callee:=.builtin .append,args:= #[s,x],argTypes:= #[t,t]})
    (base:Nat) (v:Value) (n:Nat) (xs:List Value) (F:a.eval s=v) (j:w.ownsRow base e size v n xs)
    {p:Nat->Prop} (X:Option Addr) (m c:Nat) (b:List Value) (H:a.eval x=.slice X m c) (D:Rd p w size X m b) (h1:∀u∈b,u.oneCell'=true)
    (y:n+m<=maxLen) (d:(n+m)*bytes<=140737488355328) (g:base<=w.heap.size)
    (h:∀l q w',w'.ownsRow base e size (.slice l (n+m) q) (n+m) (xs++b)->Fr (λk=>v.ownBlock=some k) w w'->
     (∀k,(Value.slice l (n+m) q).ownBlock=some k->v.ownBlock=some k\/w.heap.size<=k)->(i≠last->S w')/\dc P f S last Q B (a.put o.dst (.slice l (n+m) q)) w'):dc P f S last Q ((false,i)::B) a w:=by
 refine⟨o,z,?_⟩;rw[if_pos G];exact ud E w s x C base v n xs F j X m c b H D h1 y d g h
end Go.Proofs.YtfchcdbfalgdlaaGreatDoor
