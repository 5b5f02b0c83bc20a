/- Texts of one proof. No condition but each one's own. -/
import Derived.Test.YtfchcdbfalgdlaaGreatDoorSweepOpensM6
import Derived.Deep.CutBlock
set_option maxHeartbeats 4000000
set_option maxRecDepth 100000
set_option linter.unusedVariables false
set_option linter.unusedSimpArgs false
namespace Go.Proofs.YtfchcdbfalgdlaaGreatDoor
open _root_.Go.Proofs.Tryz
open Go.RowKit Go.Maps
theorem lW{α:Type}{P:List α→Prop}(h0:P [])(h1:∀l a,P l→P (l++[a]))(l:List α):P l:=by
 have key:∀l:List α,P l.reverse:=by
  intro l
  induction l with
  |nil=>exact h0
  |cons a l b=>rw[List.reverse_cons];exact h1 _ _ b
 have:=key l.reverse
 rwa[List.reverse_reverse]at this
structure PU where
 pos:Int
 s:List Int
def PU.cells(x:PU):List Value:=.int .i64 x.pos::am x.s
theorem PU.len{x:PU}(h:aJ x.s):x.cells.length=65:=by simp[PU.cells,ah,h.1]
theorem PU.one(x:PU):∀u∈x.cells,u.oneCell'=true:=by
 intro u hu;rcases List.mem_cons.1 hu with rfl|hu
 ·rfl
 ·exact aM _ u hu
def du(L:List PU):List Value:=L.flatMap PU.cells
theorem km(L M:List PU):du (L++M)=du L++du M:=by simp[du]
theorem mz(x:PU):du [x]=x.cells:=by simp[du]
theorem kX(L:List PU):∀u∈du L,u.oneCell'=true:=by
 intro u hu;obtain⟨x,_,b⟩:=List.mem_flatMap.1 hu;exact x.one u b
def cW(L:List PU)(x:Int):Option (List Int):=L.foldl (fun b p=>if p.pos=x then some p.s else b) none
theorem fP(L:List PU)(p:PU)(x:Int):cW (L++[p]) x=if p.pos=x then some p.s else cW L x:=by simp[cW,List.foldl_append]
theorem xJ (L M:List PU) (x:Int):cW (L++M) x=match cW M x with | some s=>some s | none=>cW L x:=by
 induction M using lW with
 |h0=>simp[cW]
 |h1 M p b=>
  rw[←List.append_assoc,fP,fP,b];split<;>rfl
theorem oo{L:List PU}{x:Int}:cW L x=none↔x∉L.map PU.pos:=by
 induction L using lW with
 |h0=>simp[cW]
 |h1 L p b=>
  rw[fP];split
  ·next h=>subst h;simp
  ·next h=>rw[b];simp;intro _ e;exact absurd e.symm h
theorem xK{L:List PU}{x:Int}{s:List Int}(h:cW L x=some s):∃p∈L,p.pos=x∧p.s=s:=by
 induction L using lW with
 |h0=>simp[cW]at h
 |h1 L p c=>
  rw[fP]at h;split at h
  ·next e=>injection h with h;exact⟨p,by simp,e,h⟩
  ·obtain⟨q,b,h1,h2⟩:=c h;exact⟨q,by simp[b],h1,h2⟩
def kO(L:List PU):List Int:=L.foldl (fun b p=>if p.pos∈b then b else b++[p.pos]) []
theorem ph(L:List PU)(p:PU):kO (L++[p])=if p.pos∈kO L then kO L else kO L++[p.pos]:=by unfold kO;rw[List.foldl_append];rfl
theorem qp(L:List PU):∀x:Int,x∈kO L↔x∈L.map PU.pos:=by
 induction L using lW with
 |h0=>simp[kO]
 |h1 L p b=>
  intro x;rw[ph];split
  ·next h=>
   have c:=(b p.pos).1 h;rw[b];simp only[List.map_append,List.map_cons,List.map_nil,List.mem_append,List.mem_singleton];exact⟨.inl,fun d=>d.elim id fun e=>e▸c⟩
  ·rw[List.mem_append,b x];simp
structure RP where
 size:Int
 sure:List PU
 fresh:List PU
 fuse:Int
 down:Bool
def RP.new(n:Int):RP:=⟨n,[],[],-1,false⟩
def RP.burn(r:RP):RP:={r with fuse:=if 0<r.fuse then r.fuse-1 else r.fuse}
def RP.within(r:RP)(a:Int):Bool:=decide (0≤a∧a<r.size)
def RP.wcode(r:RP)(a:Int):Int:=if r.within a=true then(if r.fuse=0∨r.down=true then 14 else 0)else 1
def RP.write(r:RP)(a:Int)(s:List Int):RP:=if r.within a=true then(if r.fuse=0∨r.down=true then {r with down:=true} else {r.burn with fresh:=r.fresh++[⟨a,s⟩]})else r
def RP.scode(r:RP):Int:=if r.down=true then 14 else 0
def RP.sync(r:RP):RP:=if r.down=true then r else {r with sure:=r.sure++r.fresh,fresh:=[]}
def RP.rcode(r:RP)(a:Int):Int:=if r.within a=true then 0 else 1
def RP.rget(r:RP)(a:Int):List Int:=if r.within a=true then(match cW r.fresh a with|some s=>s|none=>(cW r.sure a).getD aw)else aw
def RP.Ok(r:RP):Prop:=(∀x∈r.sure,aJ x.s)∧∀x∈r.fresh,aJ x.s
def RP.tot(r:RP):Nat:=r.sure.length+r.fresh.length
structure Mt(p:DP)(r:RP):Prop where
 size:r.size=p.size
 sure:∀x,p.sure x=cW r.sure x
 fresh:∀x,p.fresh x=cW r.fresh x
 order:p.order=kO r.fresh
 fuse:r.fuse=p.fuse
 down:r.down=p.down
theorem Mt.new(n:Nat):Mt (DP.new n) (RP.new n):=⟨rfl,fun _=>rfl,fun _=>rfl,rfl,rfl,rfl⟩
section
variable {p:DP}{r:RP}
theorem Mt.within(h:Mt p r)(a:Int):r.within a=p.within a:=by unfold RP.within DP.within;rw[h.size]
theorem Mt.wcode(h:Mt p r)(a:Int):r.wcode a=p.wcode a:=by unfold RP.wcode DP.wcode;rw[h.within,h.fuse,h.down]
theorem Mt.scode(h:Mt p r):r.scode=p.scode:=by unfold RP.scode DP.scode;rw[h.down]
theorem Mt.rcode(h:Mt p r)(a:Int):r.rcode a=p.rcode a:=by unfold RP.rcode DP.rcode;rw[h.within]
theorem Mt.rget(h:Mt p r)(a:Int):r.rget a=p.rget a:=by
 unfold RP.rget DP.rget DP.get;rw[h.within,h.fresh a,h.sure a];rfl
theorem Mt.write(h:Mt p r)(a:Int)(s:List Int):Mt (p.doWrite a s) (r.write a s):=by
 unfold DP.doWrite RP.write;rw[h.within,h.fuse,h.down];split
 ·split
  ·exact⟨h.size,h.sure,h.fresh,h.order,rfl,rfl⟩
  ·refine⟨h.size,h.sure,?_,?_,?_,h.down⟩
   ·intro x;show sH p.fresh a (some s) x=cW (r.fresh++[⟨a,s⟩]) x;rw[fP,sH,←h.fresh x]
    by_cases e:x=a
    ·subst e;simp
    ·rw[if_neg e,if_neg (fun b=>e b.symm)]
   ·show(if p.fresh a=none then p.order++[a]else p.order)=kO (r.fresh++[⟨a,s⟩]);rw[ph,h.order,h.fresh a]
    by_cases e:a∈kO r.fresh
    ·rw[if_pos e,if_neg (fun b=>oo.1 b ((qp _ _).1 e))]
    ·rw[if_neg e,if_pos (oo.2 fun b=>e ((qp _ _).2 b))]
   ·show(if 0<r.fuse then r.fuse-1 else r.fuse)=if 0<p.fuse then p.fuse-1 else p.fuse
    rw[h.fuse]
 ·exact h
theorem Mt.sync(h:Mt p r):Mt p.doSync r.sync:=by
 unfold DP.doSync RP.sync;rw[h.down];split
 ·exact h
 ·refine⟨h.size,?_,fun _=>rfl,rfl,h.fuse,rfl⟩;intro x;show(match p.fresh x with|some s=>some s|none=>p.sure x)=cW (r.sure++r.fresh) x;rw[xJ,h.fresh x,h.sure x]
theorem RP.Ok.write(h:r.Ok)(a:Int){s:List Int}(c:aJ s):(r.write a s).Ok:=by
 unfold RP.write;split
 ·split
  ·exact h
  ·refine ⟨h.1,fun x b=> ?_⟩;rcases List.mem_append.1 b with b | b
   ·exact h.2 x b
   ·obtain rfl:=List.mem_singleton.1 b;exact c
 ·exact h
theorem RP.Ok.sync(h:r.Ok):r.sync.Ok:=by
 unfold RP.sync;split
 ·exact h
 ·refine ⟨fun x b=> ?_,by simp⟩;rcases List.mem_append.1 b with b | b
  ·exact h.1 x b
  ·exact h.2 x b
theorem tj{L:List PU}(h:∀x∈L,aJ x.s)(x:Int):aJ ((cW L x).getD aw):=by
 cases hl:cW L x with
 |none=>exact aX
 |some s=>obtain⟨q,b,_,e⟩:=xK hl;rw[←e];exact h q b
theorem RP.tot_write(r:RP)(a:Int)(s:List Int):(r.write a s).tot≤r.tot+1:=by
 unfold RP.write RP.tot;split
 ·split
  ·simp
  ·simp[RP.burn];omega
 ·omega
theorem RP.tot_sync(r:RP):r.sync.tot≤r.tot:=by
 unfold RP.sync RP.tot;split<;>simp
end
def ie(r:RP)(b:Option Addr)(c:Nat)(A2:Option Addr)(c2:Nat):Array Value:= #[.int .i64 r.size,.slice b r.sure.length c,.slice A2 r.fresh.length c2,.int .i64 r.fuse,.bool r.down]
structure fG(w:World)(r:RP)(A1 A2:Option Addr):Prop where
 sure:fg 132 w 65 A1 r.sure.length (du r.sure)
 fresh:fg 132 w 65 A2 r.fresh.length (du r.fresh)
 ok:r.Ok
theorem fG.fr{w w':World}{S:Nat→Prop}{r:RP}{b A2:Option Addr}(h:fG w r b A2)(c:Fr S w w')(d:∀k,S k→¬aO 132 w k):fG w' r b A2:=⟨h.sure.fr c d,h.fresh.fr c d,h.ok⟩
theorem fG.new{w w':World}{r:RP}{b A2:Option Addr}(h:fG w r b A2)(c:aa w w'):fG w' r b A2:=⟨h.sure.new c,h.fresh.new c,h.ok⟩
def ly(w:World)(r:RP)(n:Int)(e:Ending):Prop:=∃b c A2 c2,e=.returned (.tuple #[.agg (ie r b c A2 c2),.int .i64 n])∧fG w r b A2
theorem CO:aW prog 63 132 65 72:=aW.mk' (z:=.agg (⟨0,aw⟩:PU).cells.toArray) underlying63 (by kernel_rfl) rfl (by decide)
theorem DR{q:Nat→Prop}{w:World}{A:Option Addr}{n:Nat}{L:List PU}(h:Rd q w 65 A n (du L))(t:L.length=n)(d:∀a∈L,aJ a.s){i:Nat}(hi:i<n):
    ∃(g o:Nat) (hl:i<L.length),A=some ⟨g,o,none⟩∧g<w.heap.size∧w.cell? ⟨g,o+i*65,none⟩=some (.int .i64 L[i].pos)∧w.rangeAt g (o+i*65+1) (am L[i].s):=by
 obtain⟨g,o,k,u,c,l⟩:=h.out (by omega) (by omega);have hl:i<L.length:=by omega
 have key:∀j,j<65→∀v,(L[i].cells)[j]?=some v→w.cell? ⟨g,o+i*65+j,none⟩=some v:=fun j f v b=>by
  have:=od PU.cells 65 L i j hl (fun x m=>PU.len (d x m)) f;rw[Nat.add_assoc];exact l (i*65+j) v (by rw[du,this,b])
 refine⟨g,o,hl,k,c,key 0 (by omega) _ rfl,fun j v b=>?_⟩
 have f:j<64:=by
  have:=(List.getElem?_eq_some_iff.1 b).1
  rwa[ah,(d _ (List.getElem_mem _)).1]at this
 rw[Nat.add_assoc];have:=key (1+j) (by omega) v (by simp only[PU.cells];rw[Nat.add_comm,List.getElem?_cons_succ];exact b);exact this
def ni(L:List PU)(x:Int):List Int:=(cW L x).getD aw
theorem wj{q:Nat→Prop}(A:Option Addr)(n c:Nat)(L:List PU)(x:Int)(w:World)(V:Rd q w 65 A n (du L))(U:L.length=n)(X:∀a∈L,aJ a.s)(hn:n≤1000000):
    Calls prog 88 #[.slice A n c,.int .i64 x] w fun e w'=>e=.returned (.tuple #[.agg (af (ni L x)),.bool (cW L x).isSome])∧aa w w':=by
 have Y:=Ld V;have T:=Ld U;have S:=Ld X;clear V U X
 go_enter func88,ntmps88
 go_wp2_with (refine cg 4 rfl ?_;refine dD rfl rfl bE ?_)
 obtain⟨R,f⟩:=nM (w.alloc (.cells (af aw) 68):World);have o:Hid (aa w R):=Ld (by rw[f];exact aa.al (aa.refl _) _);have D:Hid (ab R w.heap.size 68 (af aw)):=Ld (by rw[f];exact ab.new _ _ _);rw[←f];clear f
 go_loopw [6] (fun i wr=>∃(j:Nat),j≤n∧i=.int .i64 ((j:Int)-1)∧wr=R∧Hid (cW L x=cW (L.take j) x)) (fun i _=>(intOf i+1).toNat)
 case atStart=>exact⟨n,by omega,by go_num,rfl,Ld (by rw[List.take_of_length_le (by rw[T.out];omega)])⟩
 case round=>
  obtain⟨j,hj,rfl,rfl,z⟩:=hrel;rcases j with _|j
  ·have E:Hid (cW L x=none):=Ld (by rw [z.out];rfl);have m:Hid (ni L x=aw):=Ld (by unfold ni;rw [E.out];rfl);have I:∀w,(Instr.build 68 #[]).run prog w= .ok (.agg (af aw)) w:=fun _=>by kernel_rfl
   clear z
   go_wp2_with ((with_reducible refine aA ⟨none,.store 68 (.tmp 4) _,_,_,_,_⟩ ?_);refine bu (s:=aw) (s0:=aw) rfl (.tmp 4) (.tmp 26) rfl rfl rfl rfl D.out rfl aX.1 ?_;intro w2 b d;have g:=Ld b;have l:=Ld d;clear b d)
   refine bodyPost_ret (cN rfl _ _ rfl g.out underlying68 rfl aX.1) rfl ?_;exact⟨by rw[m.out,E.out];rfl,o.out.fr l.out (fun k hk=>by omega)⟩
  ·obtain ⟨gA,oA,hl,rfl,-,Z,v⟩:=DR (o.out.rd Y.out) T.out S.out (show j<n by omega);have y:cW (L.take (j+1)) x=if L[j].pos=x then some L[j].s else cW (L.take j) x:=by rw [List.take_succ_eq_append_getElem hl,fP]
   have u:=S.out L[j] (List.getElem_mem _);generalize L[j]=C at Z v y u;have G:=Ld y;have M:=Ld v;have t:=Ld u;have N:(0:Int)≤((j+1:Nat):Int)-1:=by omega
   have O:(((j+1:Nat):Int)-1).toNat=j:=by omega
   have H:((j+1:Nat):Int)-1=(j:Int):=by omega
   have b':j<n:=by omega
   rw[H];clear y v u N O H
   by_cases B:C.pos=x
   ·have F:Hid (cW L x=some C.s):=Ld (by rw [z.out,G.out,if_pos B]);have m:Hid (ni L x=C.s):=Ld (by unfold ni;rw [F.out];rfl);have P:(C.pos==x)=true:=by simp [B]
    clear B z
    go_wp2_with (first
     |(refine cg 25 rfl ?_;refine cF rfl _ rfl rfl M.out underlying68 rfl (by rw[ah,t.out.1];rfl) ?_)
     |((with_reducible refine aA ⟨none,.store 68 (.tmp 4) _,_,_,_,_⟩ ?_);refine bu (s:=C.s) (s0:=aw) rfl (.tmp 4) (.tmp 25) rfl rfl rfl rfl D.out rfl t.out.1 ?_;intro w2 b d;have g:=Ld b;have l:=Ld d;clear b d))
    refine bodyPost_ret (cN rfl _ _ rfl g.out underlying68 rfl t.out.1) rfl ?_;exact⟨by rw[m.out,F.out];rfl,o.out.fr l.out (fun k hk=>by omega)⟩
   ·have J:Hid (cW L x=cW (L.take j) x):=Ld (by rw [z.out,G.out,if_neg B]);have P:(C.pos==x)=false:=by simp [B]
    clear B z
    go_wp2_with fail
    go_roundw
    case rel=>exact⟨j,by omega,by go_num,trivial,J⟩
    case measure=>simp[intOf]
theorem lL{fn:Func}{p:Tmp}{ty:TypeId}{P:Program}(h:fn.results= #[.cell p ty])(tmps:Array Value)(w:World)(g:Nat)(cs:Array Value)(d:TypeDesc)
    (c:tmps.getD p undef=.pointer (some ⟨g,0,none⟩)) (b:ab w g ty cs) (hu:P.underlying ty=some d) (hd:d.isRow=true) (hi:(P.info? ty).map (·.size)=some cs.size):
    (results fn tmps).run P w=.ok (.agg cs) w:=results_cell_row h tmps w g ty cs (0,0) d c b hu (by cases d<;>first|rfl|(simp[TypeDesc.isRow]at hd)) hi
theorem aI{fn:Func}{p q:Tmp}{ty:TypeId}{P:Program}(h:fn.results= #[.cell p ty,.tmp q])(tmps:Array Value)(w:World)(g:Nat)(cs:Array Value)(d:TypeDesc)
    (f:tmps.getD p undef=.pointer (some ⟨g,0,none⟩)) (c:ab w g ty cs) (hu:P.underlying ty=some d) (hd:d.isRow=true) (hi:(P.info? ty).map (·.size)=some cs.size):
    (results fn tmps).run P w=.ok (.tuple #[.agg cs,tmps.getD q undef]) w:=by
 have b:tmps[p]?.getD undef=.pointer (some ⟨g,0,none⟩):=by simpa using f
 simp[results,h,b,asAddr,run_loadVar_row w g ty ty cs (0,0) _ c hu (by cases d<;>first|rfl|(simp[TypeDesc.isRow]at hd)) hi]
theorem Ao (n:Int) (w:World):Calls prog 30 #[.int .i64 n] w fun e w'=>e= .returned (.agg (ie (RP.new n) none 0 none 0))∧aa w w':=by
 go_enter func30,ntmps30
 go_wp2_with fail
 refine bodyPost_ret (v:=.agg (ie (RP.new n) none 0 none 0)) (lL rfl _ _ w.heap.size _ _ rfl (ab.new _ _ _) underlying65 rfl rfl) rfl ?_;exact⟨rfl,(aa.refl w).al _⟩
theorem mF(r:RP)(u:Option Addr)(D:Nat)(A2:Option Addr)(c2:Nat)(x:Int)(w:World)(h:fG w r u A2)(hn:r.tot≤1000000)(hx:(Lit.int .i64 x).wf=true)(hz: -9223372036854775808≤r.size∧r.size≤9223372036854775807):
    Calls prog 121 #[.agg (ie r u D A2 c2),.int .i64 x] w fun e w'=>e=.returned (.tuple #[.agg (af (r.rget x)),.int .i64 (r.rcode x)])∧aa w w':=by
 have H:=Ld h;have Y:Hid (r.sure.length≤1000000):=Ld (by unfold RP.tot at hn;omega);have Z:Hid (r.fresh.length≤1000000):=Ld (by unfold RP.tot at hn;omega);have b':=bounds_i64 hx;unfold ie;clear h hn hx
 by_cases G:0≤x∧x<r.size
 ·have t0:decide (x<0)=false:=decide_eq_false (by omega);have t1:decide (r.size≤x)=false:=decide_eq_false (by omega)
  have j:Hid (r.rcode x=0∧r.rget x=(match cW r.fresh x with|some s=>s|none=>(cW r.sure x).getD aw)):=Ld (by
   unfold RP.rcode RP.rget RP.within
   rw[decide_eq_true G];exact⟨rfl,rfl⟩)
  clear G
  go_enter func121,ntmps121
  go_wp2_with (refine cg 4 rfl ?_;refine dD rfl rfl bE ?_)
  obtain⟨L,i⟩:=nM ((w.alloc (.cells #[.int .i64 r.size,.slice u r.sure.length D,.slice A2 r.fresh.length c2,.int .i64 r.fuse,.bool r.down] 65)).alloc (.cells (af aw) 68):World);have y:Hid (aa w L):=Ld (by rw[i];exact((aa.refl w).al _).al _);have O:Hid (ab L (w.heap.size+1) 68 (af aw)):=Ld (by rw[i];exact ab.new' _ _ _ (by simp));have V:Hid (ab L w.heap.size 65 #[.int .i64 r.size,.slice u r.sure.length D,.slice A2 r.fresh.length c2,.int .i64 r.fuse,.bool r.down]):=Ld (by rw[i];exact(ab.new _ _ _).alloc _);rw[←i];clear i;refine(wj A2 r.fresh.length c2 r.fresh x L ((H.out.new y.out).fresh) rfl H.out.ok.2 Z.out).mono ?_;rintro e M ⟨rfl,l⟩;have z:Hid (aa w M):=Ld (y.out.tr l);have v:=Ld (aa.blk l O.out);have C:=Ld (aa.blk l V.out);have m:=tj H.out.ok.2 x;clear l
  cases hf:cW r.fresh x with
  |some s=>
   have R:=Ld hf;have T:Hid (ni r.fresh x=s):=Ld (by unfold ni;rw[hf];rfl);have b:Hid (aJ s):=Ld (by rw[hf]at m;exact m);clear m hf;rw[T.out];simp only[Option.isSome_some]
   go_wp2_with (first
    |(refine cg 6 rfl ?_;refine aG (s:=s) rfl rfl rfl _ _ rfl bE rfl rfl rfl b.out.1 ?_)
    |(refine cg 27 rfl ?_;refine eP (s:=s) rfl _ rfl underlying68 rfl rfl (ab.new _ _ _) b.out.1 ?_)
    |((with_reducible refine aA ⟨none,.store 68 (.tmp 4) _,_,_,_,_⟩ ?_);refine bu (s:=s) (s0:=aw) rfl (.tmp 4) (.tmp 27) rfl rfl rfl rfl (v.out.alloc _) rfl b.out.1 ?_;intro N E F;have q:=Ld E;have S:=Ld F;clear E F))
   refine bodyPost_ret (cN rfl _ _ rfl q.out underlying68 rfl b.out.1) rfl ?_;exact⟨by rw[j.out.1,j.out.2,R.out];rfl,(z.out.al _).fr S.out (fun k hk=>by omega)⟩
  |none=>
   have R:=Ld hf;have T:Hid (ni r.fresh x=aw):=Ld (by unfold ni;rw[hf];rfl);have b:Hid (aJ (ni r.sure x)):=Ld (tj H.out.ok.1 x);have X:=C.out.cell 1;have e1:∀o:Obj,(M.alloc o).cell? ⟨w.heap.size,1,none⟩=some (.slice u r.sure.length D):=fun o=>(aa.al (aa.refl M) o).cell_ (C.out.cell 1)
   clear m hf X;rw[T.out];simp only[Option.isSome_none]
   go_wp2_with (refine cg 6 rfl ?_;refine aG (s:=aw) rfl rfl rfl _ _ rfl bE rfl rfl rfl aX.1 ?_)
   obtain⟨N,n⟩:=nM (M.alloc (.cells (af aw) 68):World);have B:Hid (aa w N):=Ld (by rw[n];exact z.out.al _);have q:Hid (ab N (w.heap.size+1) 68 (af aw)):=Ld (by rw[n];exact v.out.alloc _);rw[←n];clear n e1;refine(wj u r.sure.length D r.sure x N ((H.out.new B.out).sure) rfl H.out.ok.1 Y.out).mono ?_;rintro e w3 ⟨rfl,t⟩;have U:Hid (aa w w3):=Ld (B.out.tr t);have P:=Ld (aa.blk t q.out);have HE:Hid (r.rget x=ni r.sure x):=Ld (by rw[j.out.2,R.out];rfl);clear t;generalize ni r.sure x=s at*
   go_wp2_with (first
    |(refine cg 8 rfl ?_;refine aG (s:=s) rfl rfl rfl _ _ rfl bE rfl rfl rfl b.out.1 ?_)
    |(refine cg 35 rfl ?_;refine eP (s:=s) rfl _ rfl underlying68 rfl rfl (ab.new _ _ _) b.out.1 ?_)
    |((with_reducible refine aA ⟨none,.store 68 (.tmp 4) _,_,_,_,_⟩ ?_);refine bu (s:=s) (s0:=aw) rfl (.tmp 4) (.tmp 35) rfl rfl rfl rfl (P.out.alloc _) rfl b.out.1 ?_;intro w4 c d;have f:=Ld c;have g:=Ld d;clear c d))
   refine bodyPost_ret (cN rfl _ _ rfl f.out underlying68 rfl b.out.1) rfl ?_;exact⟨by rw[j.out.1,HE.out];rfl,(U.out.al _).fr g.out (fun k hk=>by omega)⟩
 ·have j:Hid (r.rcode x=1∧r.rget x=aw):=Ld (by
   unfold RP.rcode RP.rget RP.within
   rw[decide_eq_false G];exact⟨rfl,rfl⟩)
  have J:∀w,(Instr.build 68 #[]).run prog w=.ok (.agg (af aw)) w:=fun _=>by kernel_rfl
  by_cases I:x<0
  ·have t0:decide (x<0)=true:=decide_eq_true I;clear G
   go_enter func121,ntmps121
   go_wp2_with (first
    |(refine cg 4 rfl ?_;refine dD rfl rfl bE ?_)
    |((with_reducible refine aA ⟨none,.store 68 (.tmp 4) _,_,_,_,_⟩ ?_);refine bu (s:=aw) (s0:=aw) rfl (.tmp 4) (.tmp 18) rfl rfl rfl rfl (ab.new' _ _ _ (by simp)) rfl aX.1 ?_;intro w4 c d;have f:=Ld c;have g:=Ld d;clear c d))
   refine bodyPost_ret (cN rfl _ _ rfl f.out underlying68 rfl aX.1) rfl ?_;exact⟨by rw[j.out.1,j.out.2];rfl,(((aa.refl w).al _).al _).fr g.out (fun k hk=>by omega)⟩
  ·have t0:decide (x<0)=false:=decide_eq_false I;have t1:decide (r.size≤x)=true:=decide_eq_true (by omega);clear G
   go_enter func121,ntmps121
   go_wp2_with (first
    |(refine cg 4 rfl ?_;refine dD rfl rfl bE ?_)
    |((with_reducible refine aA ⟨none,.store 68 (.tmp 4) _,_,_,_,_⟩ ?_);refine bu (s:=aw) (s0:=aw) rfl (.tmp 4) (.tmp 18) rfl rfl rfl rfl (ab.new' _ _ _ (by simp)) rfl aX.1 ?_;intro w4 c d;have f:=Ld c;have g:=Ld d;clear c d))
   refine bodyPost_ret (cN rfl _ _ rfl f.out underlying68 rfl aX.1) rfl ?_;exact⟨by rw[j.out.1,j.out.2];rfl,(((aa.refl w).al _).al _).fr g.out (fun k hk=>by omega)⟩
theorem og(k:Nat):∀(L:List Value) (m:Nat) (C:Array Value) (i:Nat),k+m+L.length≤C.size→
    (List.foldl (fun cs x=>cs.setIfInBounds (k+x.snd) x.fst) C (L.zipIdx m))[i]?=if k+m≤i∧i<k+m+L.length then L[i-(k+m)]? else C[i]?
 | [],m,C,i,_=>by simp;intro h1 h2;omega
 |v::L,m,C,i,h=>by
  simp only[List.length_cons]at h;rw[List.zipIdx_cons,List.foldl_cons,og k L (m+1) _ i (by simp;omega)];simp only[List.length_cons]
  by_cases h1:k+(m+1)≤i∧i<k+(m+1)+L.length
  ·rw[if_pos h1,if_pos (by omega)];rw[show i-(k+m)=(i-(k+(m+1)))+1 by omega,List.getElem?_cons_succ]
  ·rw[if_neg h1,Array.getElem?_setIfInBounds]
   by_cases h2:k+m=i
   ·subst h2;rw[if_pos rfl,if_pos (by omega),if_pos (by omega),Nat.sub_self];rfl
   ·rw[if_neg h2,if_neg (by omega)]
def fW(x:Int)(s:List Int):Array Value:=(PU.cells ⟨x,s⟩).toArray
def bg:Array Value:=fW 0 aw
theorem ai:bg.size=65:=by simp[bg,fW,PU.len (x:=⟨0,aw⟩) aX]
theorem Ca:bg≠ #[]:=fun e=>by have:=congrArg Array.size e;rw[ai]at this;simp at this
theorem yb(w:World):(zeroValue 132).run prog w=.ok (.agg bg) w:=(zero_of_info (n:=65) (by kernel_rfl)).1 w
theorem Ac{x:Int}{s:List Int}(b:aJ s):List.foldl (fun cs x=>cs.setIfInBounds (1+x.snd) x.fst) (bg.setIfInBounds 0 (.int .i64 x)) (am s).zipIdx=fW x s:=by
 apply Array.ext_getElem?;intro i;have hl:(am s).length=64:=by rw[ah,b.1]
 rw[og 1 (am s) 0 _ i (by simp[ai,hl])];rw[hl];unfold fW PU.cells
 by_cases h:1+0≤i∧i<1+0+64
 ·rw[if_pos h];obtain⟨j,rfl⟩:∃j,i=j+1:=⟨i-1,by omega⟩
  simp
 ·rw[if_neg h]
  by_cases h0:i=0
  ·subst h0;rw[Array.getElem?_setIfInBounds,if_pos rfl,if_pos (by rw[ai];omega)];rfl
  ·rw[Array.getElem?_setIfInBounds,if_neg (by omega),Array.getElem?_eq_none (by rw[ai];omega)];simp[hl];omega
theorem ku{x:Int}{s:List Int}(b:aJ s):(fW x s).size=65:=by simp[fW,PU.len (x:=⟨x,s⟩) b]
theorem yc{x:Int}{s:List Int}(c:aJ s)(C:Array Value)(d:C.size=65):Array.foldl (fun cs x=>cs.setIfInBounds x.snd x.fst) C ((fW x s).zipIdx) 0 65=fW x s:=by
 have b:((fW x s).zipIdx).size=65:=by simp[ku c]
 have e:Array.foldl (fun cs x=>cs.setIfInBounds x.snd x.fst) C ((fW x s).zipIdx) 0 65=List.foldl (fun cs x=>cs.setIfInBounds (0+x.snd) x.fst) C ((fW x s).toList.zipIdx 0):=by
  have:=Array.foldl_toList (fun(cs:Array Value) (x:Value×Nat)=>cs.setIfInBounds x.snd x.fst) (init:=C) (xs:=(fW x s).zipIdx);rw[b]at this;rw[←this,Array.toList_zipIdx];simp only[Nat.zero_add]
 rw[e];apply Array.ext_getElem?;intro i;have hl:(fW x s).toList.length=65:=by simp[ku c]
 rw[og 0 _ 0 C i (by omega),hl]
 by_cases h:0+0≤i∧i<0+0+65
 ·rw[if_pos h];simp
 ·rw[if_neg h,Array.getElem?_eq_none (by omega),Array.getElem?_eq_none (by rw[ku c];omega)]
theorem lf(a:Int)(A:Option Addr)(n c:Nat)(B:Option Addr)(m d:Nat)(e:Int)(f:Bool):(#[Value.int .i64 a,.slice A n c,.slice B m d,.int .i64 e,.bool f]).all (·.oneCell')=true:=by simp[Value.oneCell']
theorem yt(r:RP)(A1:Option Addr)(c1:Nat)(A2:Option Addr)(c2:Nat)(x:Int)(s:List Int)(w:World)(h:fG w r A1 A2)(hs:aJ s)(hn:r.tot≤100000)(hx:(Lit.int .i64 x).wf=true)(hf:(Lit.int .i64 r.fuse).wf=true)(hw:0≤x∧x<r.size)(hd:¬(r.fuse=0∨r.down=true)):
    Calls prog 32 #[.agg (ie r A1 c1 A2 c2),.int .i64 x,.agg (af s)] w fun e w'=>ly w' (r.write x s) 0 e∧aa w w':=by
 have H:=Ld h;have HS:=Ld hs;have i1:Hid (r.fresh.length≤100000):=Ld (by unfold RP.tot at hn;omega);have i2:=bounds_i64 hf;have t0:decide (x<0)=false:=decide_eq_false (by omega);have t1:decide (r.size≤x)=false:=decide_eq_false (by omega);have i4:(r.fuse==0)=false:=by simp;exact fun e=>hd (.inl e)
 have g7:r.down=false:=by
  cases hq:r.down with
  |true=>exact absurd (.inr hq) hd
  |false=>rfl
 have HW:Hid (r.write x s={r.burn with fresh:=r.fresh++[⟨x,s⟩]}):=Ld (by unfold RP.write RP.within;rw[decide_eq_true hw,if_pos rfl,if_neg hd]);unfold ie;rw[g7];have d':=Ld g7;clear h hs hn hx hf hw hd g7
 go_enter func32,ntmps32
 go_upto_region 6 with fail
 obtain⟨w3,b0⟩:=nM (((w.alloc (.cells #[.int .i64 r.size,.slice A1 r.sure.length c1,.slice A2 r.fresh.length c2,.int .i64 r.fuse,.bool false] 65)).alloc (.cells (af s) 68)).alloc (.cells #[.int .i64 0,.slice none 0 0,.slice none 0 0,.int .i64 0,.bool false] 65):World);obtain⟨G,hG⟩:=nM (w.heap.size);rw[←hG];have U:Hid (aa w w3):=Ld (by rw[b0];exact(((aa.refl w).al _).al _).al _);have Z:ab w3 G 65 #[.int .i64 r.size,.slice A1 r.sure.length c1,.slice A2 r.fresh.length c2,.int .i64 r.fuse,.bool false]:=by rw[b0,hG];exact((ab.new _ _ _).alloc _).alloc _
 have c7:=Ld Z;have i':ab w3 (G+1) 68 (af s):=by rw[b0,hG];exact(ab.new' _ _ _ (by simp)).alloc _
 have g6:ab w3 (G+1+1) 65 #[.int .i64 0,.slice none 0 0,.slice none 0 0,.int .i64 0,.bool false]:=by rw[b0,hG];exact ab.new' _ _ _ (by simp)
 have g3:=Ld g6;rw[←b0];have X:Hid (G=w.heap.size):=Ld hG;clear b0 hG;have i3:=Z.cell 3;have q3:=Z.frozen 3;obtain⟨d,c9⟩:=nM ((if 0<r.fuse then w3.setCell ⟨G,3,none⟩ (.int .i64 (r.fuse-1))else w3))
 have m:Hid (Fr (fun k=>k=G) w3 d):=Ld (by
  rw[c9];split
  ·exact(Fr.refl _ w3).setCell (S:=fun k=>k=G) (p:=⟨G,3,none⟩) (fun _=>rfl) _
  ·exact Fr.refl _ _)
 have c8:Hid (ab d G 65 #[.int .i64 r.size,.slice A1 r.sure.length c1,.slice A2 r.fresh.length c2,.int .i64 r.burn.fuse,.bool false]):=Ld (by
  rw[c9];unfold RP.burn;split
  ·exact Z.set 3 _
  ·exact Z)
 have i0:=Ld (i'.fr m.out (by omega));have Y:=Ld (g6.fr m.out (by omega));have g8:=Ld c9;clear i' g6 Z c9
 go_upto_region 8 with fail
 all_goals
  first
   |rw[show w3.setCell ⟨G,3,none⟩ (.int .i64 (r.fuse-1))=d from by rw[g8.out,if_pos (by assumption)]]
   |rw[show w3=d from by rw[g8.out,if_neg (by omega)]]
  clear i3 q3 i2 i4 t0 t1;have d2:d.cell? ⟨G,2,none⟩=some (.slice A2 r.fresh.length c2):=c8.out.cell 2;have g4:=fun o:Obj=>(aa.al (aa.refl d) o).cell_ d2
  have g5:=fun o o':Obj=>(aa.al (aa.al (aa.refl d) o) o').cell_ d2
  have f:∀w',aa d w'→w'.rangeAt (G+1) 0 (am s)∧w'.cell? ⟨G,2,none⟩=some (.slice A2 r.fresh.length c2):=fun w' hN=>⟨(aa.blk hN i0.out).range,hN.cell_ d2⟩
  have b':Hid (fg 132 d 65 A2 r.fresh.length (du r.fresh)):=Ld (((H.out.new U.out).fresh).fr m.out (fun k j=>by subst j;exact aO.not_blk c7.out (by decide)));have hu:=underlying68;have hi:(prog.info? 68).map (·.size)=some (am s).length:=by rw[ah,HS.out.1];rfl
  have hn:=i1.out;have z1:=yb;have z2:=ai;have z3:=Ca;have z4:=Ac (x:=x) HS.out;have z5:=ku (x:=x) HS.out;have z6:=yc (x:=x) HS.out #[bg[0]'(by rw[ai];omega),bg[1]'(by rw[ai];omega),bg[2]'(by rw[ai];omega),bg[3]'(by rw[ai];omega),bg[4]'(by rw[ai];omega),bg[5]'(by rw[ai];omega),bg[6]'(by rw[ai];omega),bg[7]'(by rw[ai];omega),bg[8]'(by rw[ai];omega),bg[9]'(by rw[ai];omega),bg[10]'(by rw[ai];omega),bg[11]'(by rw[ai];omega),bg[12]'(by rw[ai];omega),bg[13]'(by rw[ai];omega),bg[14]'(by rw[ai];omega),bg[15]'(by rw[ai];omega),bg[16]'(by rw[ai];omega),bg[17]'(by rw[ai];omega),bg[18]'(by rw[ai];omega),bg[19]'(by rw[ai];omega),bg[20]'(by rw[ai];omega),bg[21]'(by rw[ai];omega),bg[22]'(by rw[ai];omega),bg[23]'(by rw[ai];omega),bg[24]'(by rw[ai];omega),bg[25]'(by rw[ai];omega),bg[26]'(by rw[ai];omega),bg[27]'(by rw[ai];omega),bg[28]'(by rw[ai];omega),bg[29]'(by rw[ai];omega),bg[30]'(by rw[ai];omega),bg[31]'(by rw[ai];omega),bg[32]'(by rw[ai];omega),bg[33]'(by rw[ai];omega),bg[34]'(by rw[ai];omega),bg[35]'(by rw[ai];omega),bg[36]'(by rw[ai];omega),bg[37]'(by rw[ai];omega),bg[38]'(by rw[ai];omega),bg[39]'(by rw[ai];omega),bg[40]'(by rw[ai];omega),bg[41]'(by rw[ai];omega),bg[42]'(by rw[ai];omega),bg[43]'(by rw[ai];omega),bg[44]'(by rw[ai];omega),bg[45]'(by rw[ai];omega),bg[46]'(by rw[ai];omega),bg[47]'(by rw[ai];omega),bg[48]'(by rw[ai];omega),bg[49]'(by rw[ai];omega),bg[50]'(by rw[ai];omega),bg[51]'(by rw[ai];omega),bg[52]'(by rw[ai];omega),bg[53]'(by rw[ai];omega),bg[54]'(by rw[ai];omega),bg[55]'(by rw[ai];omega),bg[56]'(by rw[ai];omega),bg[57]'(by rw[ai];omega),bg[58]'(by rw[ai];omega),bg[59]'(by rw[ai];omega),bg[60]'(by rw[ai];omega),bg[61]'(by rw[ai];omega),bg[62]'(by rw[ai];omega),bg[63]'(by rw[ai];omega),bg[64]'(by rw[ai];omega)] rfl;have zl:(am s).length=64:=by rw[ah,HS.out.1]
  have g9:=fun u hu=>kX r.fresh u hu
  have f':=Ld g9;clear g9;refine iz (fun w'=>w'.rangeAt (G+1) 0 (am s)∧w'.cell? ⟨G,2,none⟩=some (.slice A2 r.fresh.length c2)) 10 (by kernel_rfl) ?_;refine aF (i:=1) (v:=.pointer (some ⟨G,2,none⟩)) rfl (by kernel_rfl) (by kernel_rfl) (by kernel_rfl) (by kernel_rfl) (fun _ _ _ h=>h) (Or.inl ⟨by rfl,fun w c=>by have h1:=c.1;have h2:=c.2;clear c;go_simp⟩) (f _ (by repeat(first|with_reducible exact aa.refl _|with_reducible assumption|with_reducible refine aa.dr ?_|with_reducible refine aa.al ?_ _):aa d _)) ?_
  try simp only[Act.put,bK,bM,bO]
  refine aF (i:=2) (v:=.slice A2 r.fresh.length c2) rfl (by kernel_rfl) (by kernel_rfl) (by kernel_rfl) (by kernel_rfl) (fun _ _ _ h=>h) (Or.inl ⟨by rfl,fun w c=>by have h1:=c.1;have h2:=c.2;clear c;go_simp⟩) (f _ (by repeat(first|with_reducible exact aa.refl _|with_reducible assumption|with_reducible refine aa.dr ?_|with_reducible refine aa.al ?_ _):aa d _)) ?_
  try simp only[Act.put,bK,bM,bO]
  refine aF (i:=4) (v:=.int .i64 x) rfl (by kernel_rfl) (by kernel_rfl) (by kernel_rfl) (by kernel_rfl) (fun _ _ _ h=>h) (Or.inl ⟨by rfl,fun w c=>by have h1:=c.1;have h2:=c.2;clear c;go_simp⟩) (f _ (by repeat(first|with_reducible exact aa.refl _|with_reducible assumption|with_reducible refine aa.dr ?_|with_reducible refine aa.al ?_ _):aa d _)) ?_
  try simp only[Act.put,bK,bM,bO]
  refine aF (i:=5) (v:=.agg (am s).toArray) rfl (by kernel_rfl) (by kernel_rfl) (by kernel_rfl) (by kernel_rfl) (fun _ _ _ h=>h) (yieldsIf_load_mid (by rfl) _ _ rfl _ _ rfl _ _ (fun w c=>c.1) hu rfl hi) (f _ (by repeat(first|with_reducible exact aa.refl _|with_reducible assumption|with_reducible refine aa.dr ?_|with_reducible refine aa.al ?_ _):aa d _)) ?_
  try simp only[Act.put,bK,bM,bO]
  refine aF (i:=6) (v:=.agg (fW x s)) rfl (by kernel_rfl) (by kernel_rfl) (by kernel_rfl) (by kernel_rfl) (fun _ _ _ h=>h) (Or.inl ⟨by rfl,fun w c=>by have h1:=c.1;have h2:=c.2;clear c;go_simp⟩) (f _ (by repeat(first|with_reducible exact aa.refl _|with_reducible assumption|with_reducible refine aa.dr ?_|with_reducible refine aa.al ?_ _):aa d _)) ?_
  try simp only[Act.put,bK,bM,bO]
  refine aC (rs:=[0,7]) (by kernel_rfl) (by simp) (cX.cons (i:=0) rfl (fun K B=>?_) (cX.cons (i:=7) rfl (fun K B=>?_) cX.nil))
  ·skip
   go_simp
   try simp only[Act.put,bK,bM,bO]
   refine B.out _ _ (fun _=>f _ (by repeat(first|with_reducible exact aa.refl _|with_reducible assumption|with_reducible refine aa.dr ?_|with_reducible refine aa.al ?_ _):aa d _)) ?_;refine aC (rs:=[3,7]) (by kernel_rfl) (by simp) (cX.cons (i:=3) rfl (fun K B=>?_) (cX.cons (i:=7) rfl (fun K B=>?_) cX.nil))
   ·skip
    refine cq CO _ (by rfl) (.tmp 33) (.tmp 35) (by rfl) d.heap.size (.slice (some ⟨_,0,none⟩) 0 0) 0 [] (by rfl) (eA (by repeat(first|with_reducible exact ab.new' _ _ _ (by first|rfl|(simp;done))|with_reducible refine ab.drew ?_|with_reducible refine ab.alloc ?_ _|with_reducible refine ab.fr ?_ n (by simp[Value.ownBlock]))) (by first|(simp;done)|(simp;omega))) A2 r.fresh.length c2 (du r.fresh) (by rfl) ((by repeat(first|with_reducible exact aa.refl _|with_reducible assumption|with_reducible refine aa.dr ?_|with_reducible refine aa.al ?_ _):aa d _).rd b'.out) f'.out (by unfold maxLen;omega) (by omega) (by first|(simp;done)|(simp;omega)) ?_;intro b1 d1 w5 y n L;have c5:aa d w5:=(by repeat(first|with_reducible exact aa.refl _|with_reducible assumption|with_reducible refine aa.dr ?_|with_reducible refine aa.al ?_ _):aa d _).fr n (by intro k j;simp[Value.ownBlock]at j;omega);rw[Nat.zero_add,List.nil_append]at y;rw[Nat.zero_add]at L;rw[Nat.zero_add]
    try simp only[Act.put,bK,bM,bO]
    refine B.out _ _ (fun _=>f _ (by repeat(first|with_reducible exact aa.refl _|with_reducible assumption|with_reducible refine aa.dr ?_|with_reducible refine aa.al ?_ _):aa d _)) ?_;refine aC (rs:=[7]) (by kernel_rfl) (by simp) (cX.cons (i:=7) rfl (fun K B=>?_) cX.nil);go_simp
    try simp only[Act.put,bK,bM,bO]
    refine B.out _ _ (fun _=>f _ (by repeat(first|with_reducible exact aa.refl _|with_reducible assumption|with_reducible refine aa.dr ?_|with_reducible refine aa.al ?_ _):aa d _)) ?_;refine aC (rs:=[8]) (by kernel_rfl) (by simp) (cX.cons (i:=8) rfl (fun K B=>?_) cX.nil);refine cq CO _ (by rfl) (.tmp 36) (.tmp 40) (by rfl) d.heap.size (.slice b1 r.fresh.length d1) r.fresh.length (du r.fresh) (by rfl) (bD (S:=ia) y (by repeat(first|with_reducible exact Fr.refl _ _|with_reducible refine Fr.drew ?_|with_reducible refine Fr.alloc ?_ _)) (fun _ _ h=>h)) (some ⟨_,0,none⟩) 1 1 (fW x s).toList (by rfl) (Rd.ofBlk (p:=fun _=>True) (t:=132) (cs:=fW x s) (by repeat(first|with_reducible exact ab.new' _ _ _ (by first|rfl|(simp;done))|with_reducible refine ab.drew ?_|with_reducible refine ab.alloc ?_ _|with_reducible refine ab.fr ?_ n (by simp[Value.ownBlock]))) 65 1 (by rw[z5]) trivial) (by intro u hu;exact PU.one ⟨x,s⟩ u (by simpa[fW]using hu)) (by unfold maxLen;omega) (by omega) ((by repeat(first|with_reducible exact aa.refl _|with_reducible assumption|with_reducible refine aa.dr ?_|with_reducible refine aa.al ?_ _):aa d _).size) ?_;intro l E F P M c4;have q:aa d F:=(by repeat(first|with_reducible exact aa.refl _|with_reducible assumption|with_reducible refine aa.dr ?_|with_reducible refine aa.al ?_ _):aa d _).fr M (by intro k j;exact(ak y k j).1);have b9:=Ld P;have g:=q.blk c8.out;have c0:=g.cell 2;have c3:=g.frozen 2;clear P c4 M L y n
    try simp only[Act.put,bK,bM,bO]
    refine B.out _ _ (fun _=>f _ (by repeat(first|with_reducible exact aa.refl _|with_reducible assumption|with_reducible refine aa.dr ?_|with_reducible refine aa.al ?_ _):aa d _)) ?_;refine aF (i:=9) (v:=.pointer (some ⟨G,2,none⟩)) rfl (by kernel_rfl) (by kernel_rfl) (by kernel_rfl) (by kernel_rfl) (fun _ _ _ h=>h) (Or.inl ⟨by rfl,fun w c=>by have h1:=c.1;have h2:=c.2;clear c;go_simp⟩) (f _ (by repeat(first|with_reducible exact aa.refl _|with_reducible assumption|with_reducible refine aa.dr ?_|with_reducible refine aa.al ?_ _):aa d _)) ?_
    try simp only[Act.put,bK,bM,bO]
    refine aC (rs:=[10]) (by kernel_rfl) (by simp) (cX.cons (i:=10) rfl (fun K B=>?_) cX.nil);go_simp
    try simp only[Act.put,bK,bM,bO]
    refine B.out _ _ (fun h=>absurd rfl h) ?_;refine fc (by kernel_rfl) ?_ _;obtain⟨w7,z⟩:=nM (F.setCell ⟨G,2,none⟩ (.slice l (r.fresh.length+1) E):World);have b3:Hid (ab w7 G 65 #[.int .i64 r.size,.slice A1 r.sure.length c1,.slice l (r.fresh.length+1) E,.int .i64 r.burn.fuse,.bool false]):=Ld (by rw[z];exact g.set 2 _);have D:Hid (Fr (fun k=>k=G) F w7):=Ld (by rw[z];exact(Fr.refl (fun k=>k=G) F).setCell (p:=⟨G,2,none⟩) (fun _=>rfl) _);have c':=Ld ((aa.blk q Y.out).fr D.out (by omega));have J:=Ld q;have b8:=Ld g
    try rw[←z]
    clear z g c0 c3 q c5 f z1 z2 z3 z4 z5 z6 zl hi hu d2 g4 g5
    go_wp2_with (first
     |(refine cg 43 rfl ?_;refine ac rfl _ rfl underlying65 rfl rfl rfl b3.out ?_)
     |((with_reducible refine aA ⟨none,.store 65 (.tmp 6) _,_,_,_,_⟩ ?_);refine an rfl (.tmp 6) (.tmp 43) rfl rfl rfl rfl c'.out rfl (lf _ _ _ _ _ _ _ _ _) ?_;intro V R T;have b7:=Ld R;have I:=Ld T;clear R T))
    refine bodyPost_ret (aI rfl _ _ (G+1+1) _ _ rfl b7.out underlying65 rfl rfl) rfl ?_;have C:Fr (fun k=>k=G∨k=G+1+1) d V:=((J.out.toFr _).trans (D.out.mono fun b _ h=>.inl h)).trans (I.out.mono fun b _ h=>.inr h);have c6:aa w V:=((U.out.fr m.out (fun k j=>by have:=X.out;omega)).fr C (fun k j=>by have:=X.out;omega))
    refine⟨⟨A1,c1,l,E,?_,?_⟩,c6⟩
    ·rw[HW.out];unfold ie;simp only[List.length_append,List.length_singleton];have:r.burn.down=false:=d'.out;rw[this];rfl
    ·rw[HW.out];refine⟨?_,?_,?_⟩
     ·have N:Fr (fun k=>k=G∨k=G+1+1) w3 V:=(m.out.mono fun b _ h=>.inl h).trans C;exact(H.out.new U.out).sure.fr N (fun k j=>by rcases j with rfl|rfl<;>first|exact aO.not_blk c7.out (by decide)|exact aO.not_blk g3.out (by decide))
     ·have h6:fg 132 F 65 l (r.fresh.length+1) (du (r.fresh++[⟨x,s⟩])):=by
       have:=fg.own b9.out rfl;rw[km,mz]
       simpa[fW]using this
      have O:Fr (fun k=>k=G∨k=G+1+1) F V:=(D.out.mono fun b _ h=>.inl h).trans (I.out.mono fun b _ h=>.inr h);have:=h6.fr O (fun k j=>by rcases j with rfl|rfl<;>first|exact aO.not_blk b8.out (by decide)|exact aO.not_blk (aa.blk J.out Y.out) (by decide))
      simpa using this
     ·rw[←HW.out];exact H.out.ok.write x HS.out
   ·skip
    go_simp
    try simp only[Act.put,bK,bM,bO]
    refine B.out _ _ (fun _=>f _ (by repeat(first|with_reducible exact aa.refl _|with_reducible assumption|with_reducible refine aa.dr ?_|with_reducible refine aa.al ?_ _):aa d _)) ?_;refine aC (rs:=[3]) (by kernel_rfl) (by simp) (cX.cons (i:=3) rfl (fun K B=>?_) cX.nil);refine cq CO _ (by rfl) (.tmp 33) (.tmp 35) (by rfl) d.heap.size (.slice (some ⟨_,0,none⟩) 0 0) 0 [] (by rfl) (eA (by repeat(first|with_reducible exact ab.new' _ _ _ (by first|rfl|(simp;done))|with_reducible refine ab.drew ?_|with_reducible refine ab.alloc ?_ _|with_reducible refine ab.fr ?_ n (by simp[Value.ownBlock]))) (by first|(simp;done)|(simp;omega))) A2 r.fresh.length c2 (du r.fresh) (by rfl) ((by repeat(first|with_reducible exact aa.refl _|with_reducible assumption|with_reducible refine aa.dr ?_|with_reducible refine aa.al ?_ _):aa d _).rd b'.out) f'.out (by unfold maxLen;omega) (by omega) (by first|(simp;done)|(simp;omega)) ?_;intro b1 d1 w5 y n L;have c5:aa d w5:=(by repeat(first|with_reducible exact aa.refl _|with_reducible assumption|with_reducible refine aa.dr ?_|with_reducible refine aa.al ?_ _):aa d _).fr n (by intro k j;simp[Value.ownBlock]at j;omega);rw[Nat.zero_add,List.nil_append]at y;rw[Nat.zero_add]at L;rw[Nat.zero_add]
    try simp only[Act.put,bK,bM,bO]
    refine B.out _ _ (fun _=>f _ (by repeat(first|with_reducible exact aa.refl _|with_reducible assumption|with_reducible refine aa.dr ?_|with_reducible refine aa.al ?_ _):aa d _)) ?_;refine aC (rs:=[8]) (by kernel_rfl) (by simp) (cX.cons (i:=8) rfl (fun K B=>?_) cX.nil);refine cq CO _ (by rfl) (.tmp 36) (.tmp 40) (by rfl) d.heap.size (.slice b1 r.fresh.length d1) r.fresh.length (du r.fresh) (by rfl) (bD (S:=ia) y (by repeat(first|with_reducible exact Fr.refl _ _|with_reducible refine Fr.drew ?_|with_reducible refine Fr.alloc ?_ _)) (fun _ _ h=>h)) (some ⟨_,0,none⟩) 1 1 (fW x s).toList (by rfl) (Rd.ofBlk (p:=fun _=>True) (t:=132) (cs:=fW x s) (by repeat(first|with_reducible exact ab.new' _ _ _ (by first|rfl|(simp;done))|with_reducible refine ab.drew ?_|with_reducible refine ab.alloc ?_ _|with_reducible refine ab.fr ?_ n (by simp[Value.ownBlock]))) 65 1 (by rw[z5]) trivial) (by intro u hu;exact PU.one ⟨x,s⟩ u (by simpa[fW]using hu)) (by unfold maxLen;omega) (by omega) ((by repeat(first|with_reducible exact aa.refl _|with_reducible assumption|with_reducible refine aa.dr ?_|with_reducible refine aa.al ?_ _):aa d _).size) ?_;intro l E F P M c4;have q:aa d F:=(by repeat(first|with_reducible exact aa.refl _|with_reducible assumption|with_reducible refine aa.dr ?_|with_reducible refine aa.al ?_ _):aa d _).fr M (by intro k j;exact(ak y k j).1);have b9:=Ld P;have g:=q.blk c8.out;have c0:=g.cell 2;have c3:=g.frozen 2;clear P c4 M L y n
    try simp only[Act.put,bK,bM,bO]
    refine B.out _ _ (fun _=>f _ (by repeat(first|with_reducible exact aa.refl _|with_reducible assumption|with_reducible refine aa.dr ?_|with_reducible refine aa.al ?_ _):aa d _)) ?_;refine aF (i:=9) (v:=.pointer (some ⟨G,2,none⟩)) rfl (by kernel_rfl) (by kernel_rfl) (by kernel_rfl) (by kernel_rfl) (fun _ _ _ h=>h) (Or.inl ⟨by rfl,fun w c=>by have h1:=c.1;have h2:=c.2;clear c;go_simp⟩) (f _ (by repeat(first|with_reducible exact aa.refl _|with_reducible assumption|with_reducible refine aa.dr ?_|with_reducible refine aa.al ?_ _):aa d _)) ?_
    try simp only[Act.put,bK,bM,bO]
    refine aC (rs:=[10]) (by kernel_rfl) (by simp) (cX.cons (i:=10) rfl (fun K B=>?_) cX.nil);go_simp
    try simp only[Act.put,bK,bM,bO]
    refine B.out _ _ (fun h=>absurd rfl h) ?_;refine fc (by kernel_rfl) ?_ _;obtain⟨w7,z⟩:=nM (F.setCell ⟨G,2,none⟩ (.slice l (r.fresh.length+1) E):World);have b3:Hid (ab w7 G 65 #[.int .i64 r.size,.slice A1 r.sure.length c1,.slice l (r.fresh.length+1) E,.int .i64 r.burn.fuse,.bool false]):=Ld (by rw[z];exact g.set 2 _);have D:Hid (Fr (fun k=>k=G) F w7):=Ld (by rw[z];exact(Fr.refl (fun k=>k=G) F).setCell (p:=⟨G,2,none⟩) (fun _=>rfl) _);have c':=Ld ((aa.blk q Y.out).fr D.out (by omega));have J:=Ld q;have b8:=Ld g
    try rw[←z]
    clear z g c0 c3 q c5 f z1 z2 z3 z4 z5 z6 zl hi hu d2 g4 g5
    go_wp2_with (first
     |(refine cg 43 rfl ?_;refine ac rfl _ rfl underlying65 rfl rfl rfl b3.out ?_)
     |((with_reducible refine aA ⟨none,.store 65 (.tmp 6) _,_,_,_,_⟩ ?_);refine an rfl (.tmp 6) (.tmp 43) rfl rfl rfl rfl c'.out rfl (lf _ _ _ _ _ _ _ _ _) ?_;intro V R T;have b7:=Ld R;have I:=Ld T;clear R T))
    refine bodyPost_ret (aI rfl _ _ (G+1+1) _ _ rfl b7.out underlying65 rfl rfl) rfl ?_;have C:Fr (fun k=>k=G∨k=G+1+1) d V:=((J.out.toFr _).trans (D.out.mono fun b _ h=>.inl h)).trans (I.out.mono fun b _ h=>.inr h);have c6:aa w V:=((U.out.fr m.out (fun k j=>by have:=X.out;omega)).fr C (fun k j=>by have:=X.out;omega))
    refine⟨⟨A1,c1,l,E,?_,?_⟩,c6⟩
    ·rw[HW.out];unfold ie;simp only[List.length_append,List.length_singleton];have:r.burn.down=false:=d'.out;rw[this];rfl
    ·rw[HW.out];refine⟨?_,?_,?_⟩
     ·have N:Fr (fun k=>k=G∨k=G+1+1) w3 V:=(m.out.mono fun b _ h=>.inl h).trans C;exact(H.out.new U.out).sure.fr N (fun k j=>by rcases j with rfl|rfl<;>first|exact aO.not_blk c7.out (by decide)|exact aO.not_blk g3.out (by decide))
     ·have h6:fg 132 F 65 l (r.fresh.length+1) (du (r.fresh++[⟨x,s⟩])):=by
       have:=fg.own b9.out rfl;rw[km,mz]
       simpa[fW]using this
      have O:Fr (fun k=>k=G∨k=G+1+1) F V:=(D.out.mono fun b _ h=>.inl h).trans (I.out.mono fun b _ h=>.inr h);have:=h6.fr O (fun k j=>by rcases j with rfl|rfl<;>first|exact aO.not_blk b8.out (by decide)|exact aO.not_blk (aa.blk J.out Y.out) (by decide))
      simpa using this
     ·rw[←HW.out];exact H.out.ok.write x HS.out
  ·skip
   go_simp
   try simp only[Act.put,bK,bM,bO]
   refine B.out _ _ (fun _=>f _ (by repeat(first|with_reducible exact aa.refl _|with_reducible assumption|with_reducible refine aa.dr ?_|with_reducible refine aa.al ?_ _):aa d _)) ?_;refine aC (rs:=[0]) (by kernel_rfl) (by simp) (cX.cons (i:=0) rfl (fun K B=>?_) cX.nil);go_simp
   try simp only[Act.put,bK,bM,bO]
   refine B.out _ _ (fun _=>f _ (by repeat(first|with_reducible exact aa.refl _|with_reducible assumption|with_reducible refine aa.dr ?_|with_reducible refine aa.al ?_ _):aa d _)) ?_;refine aC (rs:=[3]) (by kernel_rfl) (by simp) (cX.cons (i:=3) rfl (fun K B=>?_) cX.nil);refine cq CO _ (by rfl) (.tmp 33) (.tmp 35) (by rfl) d.heap.size (.slice (some ⟨_,0,none⟩) 0 0) 0 [] (by rfl) (eA (by repeat(first|with_reducible exact ab.new' _ _ _ (by first|rfl|(simp;done))|with_reducible refine ab.drew ?_|with_reducible refine ab.alloc ?_ _|with_reducible refine ab.fr ?_ n (by simp[Value.ownBlock]))) (by first|(simp;done)|(simp;omega))) A2 r.fresh.length c2 (du r.fresh) (by rfl) ((by repeat(first|with_reducible exact aa.refl _|with_reducible assumption|with_reducible refine aa.dr ?_|with_reducible refine aa.al ?_ _):aa d _).rd b'.out) f'.out (by unfold maxLen;omega) (by omega) (by first|(simp;done)|(simp;omega)) ?_;intro b1 d1 w5 y n L;have c5:aa d w5:=(by repeat(first|with_reducible exact aa.refl _|with_reducible assumption|with_reducible refine aa.dr ?_|with_reducible refine aa.al ?_ _):aa d _).fr n (by intro k j;simp[Value.ownBlock]at j;omega);rw[Nat.zero_add,List.nil_append]at y;rw[Nat.zero_add]at L;rw[Nat.zero_add]
   try simp only[Act.put,bK,bM,bO]
   refine B.out _ _ (fun _=>f _ (by repeat(first|with_reducible exact aa.refl _|with_reducible assumption|with_reducible refine aa.dr ?_|with_reducible refine aa.al ?_ _):aa d _)) ?_;refine aC (rs:=[8]) (by kernel_rfl) (by simp) (cX.cons (i:=8) rfl (fun K B=>?_) cX.nil);refine cq CO _ (by rfl) (.tmp 36) (.tmp 40) (by rfl) d.heap.size (.slice b1 r.fresh.length d1) r.fresh.length (du r.fresh) (by rfl) (bD (S:=ia) y (by repeat(first|with_reducible exact Fr.refl _ _|with_reducible refine Fr.drew ?_|with_reducible refine Fr.alloc ?_ _)) (fun _ _ h=>h)) (some ⟨_,0,none⟩) 1 1 (fW x s).toList (by rfl) (Rd.ofBlk (p:=fun _=>True) (t:=132) (cs:=fW x s) (by repeat(first|with_reducible exact ab.new' _ _ _ (by first|rfl|(simp;done))|with_reducible refine ab.drew ?_|with_reducible refine ab.alloc ?_ _|with_reducible refine ab.fr ?_ n (by simp[Value.ownBlock]))) 65 1 (by rw[z5]) trivial) (by intro u hu;exact PU.one ⟨x,s⟩ u (by simpa[fW]using hu)) (by unfold maxLen;omega) (by omega) ((by repeat(first|with_reducible exact aa.refl _|with_reducible assumption|with_reducible refine aa.dr ?_|with_reducible refine aa.al ?_ _):aa d _).size) ?_;intro l E F P M c4;have q:aa d F:=(by repeat(first|with_reducible exact aa.refl _|with_reducible assumption|with_reducible refine aa.dr ?_|with_reducible refine aa.al ?_ _):aa d _).fr M (by intro k j;exact(ak y k j).1);have b9:=Ld P;have g:=q.blk c8.out;have c0:=g.cell 2;have c3:=g.frozen 2;clear P c4 M L y n
   try simp only[Act.put,bK,bM,bO]
   refine B.out _ _ (fun _=>f _ (by repeat(first|with_reducible exact aa.refl _|with_reducible assumption|with_reducible refine aa.dr ?_|with_reducible refine aa.al ?_ _):aa d _)) ?_;refine aF (i:=9) (v:=.pointer (some ⟨G,2,none⟩)) rfl (by kernel_rfl) (by kernel_rfl) (by kernel_rfl) (by kernel_rfl) (fun _ _ _ h=>h) (Or.inl ⟨by rfl,fun w c=>by have h1:=c.1;have h2:=c.2;clear c;go_simp⟩) (f _ (by repeat(first|with_reducible exact aa.refl _|with_reducible assumption|with_reducible refine aa.dr ?_|with_reducible refine aa.al ?_ _):aa d _)) ?_
   try simp only[Act.put,bK,bM,bO]
   refine aC (rs:=[10]) (by kernel_rfl) (by simp) (cX.cons (i:=10) rfl (fun K B=>?_) cX.nil);go_simp
   try simp only[Act.put,bK,bM,bO]
   refine B.out _ _ (fun h=>absurd rfl h) ?_;refine fc (by kernel_rfl) ?_ _;obtain⟨w7,z⟩:=nM (F.setCell ⟨G,2,none⟩ (.slice l (r.fresh.length+1) E):World);have b3:Hid (ab w7 G 65 #[.int .i64 r.size,.slice A1 r.sure.length c1,.slice l (r.fresh.length+1) E,.int .i64 r.burn.fuse,.bool false]):=Ld (by rw[z];exact g.set 2 _);have D:Hid (Fr (fun k=>k=G) F w7):=Ld (by rw[z];exact(Fr.refl (fun k=>k=G) F).setCell (p:=⟨G,2,none⟩) (fun _=>rfl) _);have c':=Ld ((aa.blk q Y.out).fr D.out (by omega));have J:=Ld q;have b8:=Ld g
   try rw[←z]
   clear z g c0 c3 q c5 f z1 z2 z3 z4 z5 z6 zl hi hu d2 g4 g5
   go_wp2_with (first
    |(refine cg 43 rfl ?_;refine ac rfl _ rfl underlying65 rfl rfl rfl b3.out ?_)
    |((with_reducible refine aA ⟨none,.store 65 (.tmp 6) _,_,_,_,_⟩ ?_);refine an rfl (.tmp 6) (.tmp 43) rfl rfl rfl rfl c'.out rfl (lf _ _ _ _ _ _ _ _ _) ?_;intro V R T;have b7:=Ld R;have I:=Ld T;clear R T))
   refine bodyPost_ret (aI rfl _ _ (G+1+1) _ _ rfl b7.out underlying65 rfl rfl) rfl ?_;have C:Fr (fun k=>k=G∨k=G+1+1) d V:=((J.out.toFr _).trans (D.out.mono fun b _ h=>.inl h)).trans (I.out.mono fun b _ h=>.inr h);have c6:aa w V:=((U.out.fr m.out (fun k j=>by have:=X.out;omega)).fr C (fun k j=>by have:=X.out;omega))
   refine⟨⟨A1,c1,l,E,?_,?_⟩,c6⟩
   ·rw[HW.out];unfold ie;simp only[List.length_append,List.length_singleton];have:r.burn.down=false:=d'.out;rw[this];rfl
   ·rw[HW.out];refine⟨?_,?_,?_⟩
    ·have N:Fr (fun k=>k=G∨k=G+1+1) w3 V:=(m.out.mono fun b _ h=>.inl h).trans C;exact(H.out.new U.out).sure.fr N (fun k j=>by rcases j with rfl|rfl<;>first|exact aO.not_blk c7.out (by decide)|exact aO.not_blk g3.out (by decide))
    ·have h6:fg 132 F 65 l (r.fresh.length+1) (du (r.fresh++[⟨x,s⟩])):=by
      have:=fg.own b9.out rfl;rw[km,mz]
      simpa[fW]using this
     have O:Fr (fun k=>k=G∨k=G+1+1) F V:=(D.out.mono fun b _ h=>.inl h).trans (I.out.mono fun b _ h=>.inr h);have:=h6.fr O (fun k j=>by rcases j with rfl|rfl<;>first|exact aO.not_blk b8.out (by decide)|exact aO.not_blk (aa.blk J.out Y.out) (by decide))
     simpa using this
    ·rw[←HW.out];exact H.out.ok.write x HS.out
theorem yu(r:RP)(c:Option Addr)(m:Nat)(A2:Option Addr)(c2:Nat)(x:Int)(s:List Int)(w:World)(h:fG w r c A2)(y:aJ s)(v:(Lit.int .i64 x).wf=true)(C: -9223372036854775808≤r.size∧r.size≤9223372036854775807)(z:¬(0≤x∧x<r.size)):
    Calls prog 32 #[.agg (ie r c m A2 c2),.int .i64 x,.agg (af s)] w fun e w'=>ly w' r 1 e∧aa w w':=by
 have H:=Ld h;have B:=bounds_i64 v
 have ht:decide (x<0)=true∨(decide (x<0)=false∧decide (r.size≤x)=true):=by
  by_cases h0:x<0
  ·exact .inl (decide_eq_true h0)
  ·exact .inr ⟨decide_eq_false h0,decide_eq_true (by omega)⟩
 unfold ie;clear h v z y;rcases ht with t0|⟨t0,t1⟩
 all_goals
  go_enter func32,ntmps32
  go_upto_region 2 with fail
  obtain⟨t,b⟩:=nM (((w.alloc (.cells #[.int .i64 r.size,.slice c r.sure.length m,.slice A2 r.fresh.length c2,.int .i64 r.fuse,.bool r.down] 65)).alloc (.cells (af s) 68)).alloc (.cells #[.int .i64 0,.slice none 0 0,.slice none 0 0,.int .i64 0,.bool false] 65):World);obtain⟨G,i⟩:=nM (w.heap.size);rw[←i];have f:Hid (aa w t):=Ld (by rw[b];exact(((aa.refl w).al _).al _).al _);have n:Hid (ab t G 65 #[.int .i64 r.size,.slice c r.sure.length m,.slice A2 r.fresh.length c2,.int .i64 r.fuse,.bool r.down]):=Ld (by rw[b,i];exact((ab.new _ _ _).alloc _).alloc _);have g:Hid (ab t (G+1+1) 65 #[.int .i64 0,.slice none 0 0,.slice none 0 0,.int .i64 0,.bool false]):=Ld (by rw[b,i];exact ab.new' _ _ _ (by simp));rw[←b];have q:Hid (G=w.heap.size):=Ld i;clear b i
  go_wp2_with (first
   |(refine cg 16 rfl ?_;refine ac rfl _ rfl underlying65 rfl rfl rfl n.out ?_)
   |((with_reducible refine aA ⟨none,.store 65 (.tmp 6) _,_,_,_,_⟩ ?_);refine an rfl (.tmp 6) (.tmp 16) rfl rfl rfl rfl g.out rfl (lf _ _ _ _ _ _ _ _ _) ?_;intro D j l;have o:=Ld j;have d:=Ld l;clear j l))
  refine bodyPost_ret (aI rfl _ _ (G+1+1) _ _ rfl o.out underlying65 rfl rfl) rfl ?_;refine⟨⟨c,m,A2,c2,rfl,(H.out.new f.out).fr d.out (fun k u=>by subst u;exact aO.not_blk g.out (by decide))⟩,f.out.fr d.out (fun k u=>by have:=q.out;omega)⟩
theorem tV(r:RP)(i:Option Addr)(l:Nat)(A2:Option Addr)(c2:Nat)(x:Int)(s:List Int)(w:World)(h:fG w r i A2)(R:aJ s)(O:(Lit.int .i64 x).wf=true)(S:0≤x∧x<r.size)(hd:r.fuse=0∨r.down=true):
    Calls prog 32 #[.agg (ie r i l A2 c2),.int .i64 x,.agg (af s)] w fun e w'=>ly w' {r with down:=true} 14 e∧aa w w':=by
 have H:=Ld h;have T:=bounds_i64 O;have t0:decide (x<0)=false:=decide_eq_false (by omega);have t1:decide (r.size≤x)=false:=decide_eq_false (by omega);obtain⟨u,n⟩:=nM (r.down)
 have ht:(r.fuse==0)=true∨((r.fuse==0)=false∧u=true):=by
  by_cases h0:r.fuse=0
  ·exact .inl (by simp[h0])
  ·exact .inr ⟨by simp[h0],by rw[n];exact hd.resolve_left h0⟩
 unfold ie;rw[←n];clear h O S R hd n
 have M:(u=false∧(r.fuse==0)=true)∨(u=true∧(r.fuse==0)=true)∨(u=true∧(r.fuse==0)=false):=by
  rcases ht with h|⟨h1,h2⟩
  ·cases u
   ·exact .inl ⟨rfl,h⟩
   ·exact .inr (.inl ⟨rfl,h⟩)
  ·exact .inr (.inr ⟨h2,h1⟩)
 clear ht;rcases M with⟨rfl,t2⟩|⟨rfl,t2⟩|⟨rfl,t2⟩
 all_goals
  go_enter func32,ntmps32
  go_upto_region 4 with fail
  obtain⟨G,v⟩:=nM (w.heap.size);rw[←v]
  first
   | (obtain ⟨B,f⟩:=nM (true);obtain ⟨g,c⟩:=nM (((w.alloc (.cells #[.int .i64 r.size,.slice i r.sure.length l,.slice A2 r.fresh.length c2,.int .i64 r.fuse,.bool true] 65)).alloc (.cells (af s) 68)).alloc (.cells #[.int .i64 0,.slice none 0 0,.slice none 0 0,.int .i64 0,.bool false] 65):World);rw [←c];have d:g=((w.alloc (.cells #[.int .i64 r.size,.slice i r.sure.length l,.slice A2 r.fresh.length c2,.int .i64 r.fuse,.bool B] 65)).alloc (.cells (af s) 68)).alloc (.cells #[.int .i64 0,.slice none 0 0,.slice none 0 0,.int .i64 0,.bool false] 65):=by rw [c,f]
      clear c;have c:=d;clear d;have E:=Ld f;clear f)
   | (obtain ⟨B,f⟩:=nM (false);obtain ⟨g,c⟩:=nM (((w.alloc (.cells #[.int .i64 r.size,.slice i r.sure.length l,.slice A2 r.fresh.length c2,.int .i64 r.fuse,.bool false] 65)).alloc (.cells (af s) 68)).alloc (.cells #[.int .i64 0,.slice none 0 0,.slice none 0 0,.int .i64 0,.bool false] 65):World);rw [←c];have d:g=((w.alloc (.cells #[.int .i64 r.size,.slice i r.sure.length l,.slice A2 r.fresh.length c2,.int .i64 r.fuse,.bool B] 65)).alloc (.cells (af s) 68)).alloc (.cells #[.int .i64 0,.slice none 0 0,.slice none 0 0,.int .i64 0,.bool false] 65):=by rw [c,f]
      clear c;have c:=d;clear d;have E:=Ld f;clear f)
  have q:Hid (aa w g):=Ld (by rw[c];exact(((aa.refl w).al _).al _).al _);have j:Hid (ab g G 65 #[.int .i64 r.size,.slice i r.sure.length l,.slice A2 r.fresh.length c2,.int .i64 r.fuse,.bool B]):=Ld (by rw[c,v];exact((ab.new _ _ _).alloc _).alloc _);have t:Hid (ab g (G+1+1) 65 #[.int .i64 0,.slice none 0 0,.slice none 0 0,.int .i64 0,.bool false]):=Ld (by rw[c,v];exact ab.new' _ _ _ (by simp));have I:Hid (G=w.heap.size):=Ld v;have U:=j.out.cell 4;have V:=j.out.frozen 4;clear c v
  go_upto_region 5 with fail
  obtain⟨P,d⟩:=nM (g.setCell ⟨G,4,none⟩ (.bool true):World);have C:Hid (ab P G 65 #[.int .i64 r.size,.slice i r.sure.length l,.slice A2 r.fresh.length c2,.int .i64 r.fuse,.bool true]):=Ld (by rw[d];exact j.out.set 4 _);have o:Hid (Fr (fun k=>k=G) g P):=Ld (by rw[d];exact(Fr.refl (fun k=>k=G) g).setCell (p:=⟨G,4,none⟩) (fun _=>rfl) _);have J:=Ld (t.out.fr o.out (by omega));rw[←d];clear d U V
  go_wp2_with (first
   |(refine cg 25 rfl ?_;refine ac rfl _ rfl underlying65 rfl rfl rfl C.out ?_)
   |((with_reducible refine aA ⟨none,.store 65 (.tmp 6) _,_,_,_,_⟩ ?_);refine an rfl (.tmp 6) (.tmp 25) rfl rfl rfl rfl J.out rfl (lf _ _ _ _ _ _ _ _ _) ?_;intro X y z;have D:=Ld y;have F:=Ld z;clear y z))
  refine bodyPost_ret (aI rfl _ _ (G+1+1) _ _ rfl D.out underlying65 rfl rfl) rfl ?_;have m:Fr (fun k=>k=G∨k=G+1+1) g X:=(o.out.mono fun b _ h=>.inl h).trans (F.out.mono fun b _ h=>.inr h);have L:=(H.out.new q.out).fr m (fun k N=>by rcases N with rfl|rfl<;>first|exact aO.not_blk j.out (by decide)|exact aO.not_blk t.out (by decide));exact⟨⟨i,l,A2,c2,rfl,⟨L.sure,L.fresh,L.ok⟩⟩,q.out.fr m (fun k N=>by have:=I.out;omega)⟩
theorem oU(r:RP)(c:Option Addr)(f:Nat)(A2:Option Addr)(c2:Nat)(x:Int)(s:List Int)(w:World)(h:fG w r c A2)(g:aJ s)(k:r.tot≤100000)(i:(Lit.int .i64 x).wf=true)(j:(Lit.int .i64 r.fuse).wf=true)(l: -9223372036854775808≤r.size∧r.size≤9223372036854775807):
    Calls prog 32 #[.agg (ie r c f A2 c2),.int .i64 x,.agg (af s)] w fun e w'=>ly w' (r.write x s) (r.wcode x) e∧aa w w':=by
 by_cases d:0≤x∧x<r.size
 ·have b:r.within x=true:=decide_eq_true d
  by_cases hd:r.fuse=0∨r.down=true
  ·have:r.write x s={r with down:=true}:=by unfold RP.write;rw [b,if_pos rfl,if_pos hd]
   rw[this,show r.wcode x=14 from by unfold RP.wcode;rw[b,if_pos rfl,if_pos hd]];exact tV r c f A2 c2 x s w h g i d hd
  ·rw[show r.wcode x=0 from by unfold RP.wcode;rw[b,if_pos rfl,if_neg hd]];exact yt r c f A2 c2 x s w h g k i j d hd
 ·have b:r.within x=false:=decide_eq_false d;rw[show r.write x s=r from by unfold RP.write;rw[b,if_neg (by simp)],show r.wcode x=1 from by unfold RP.wcode;rw[b,if_neg (by simp)]];exact yu r c f A2 c2 x s w h g i l d
theorem uZ(r:RP)(c:Option Addr)(m:Nat)(A2:Option Addr)(c2:Nat)(w:World)(h:fG w r c A2)(hd:r.down=true):
    Calls prog 72 #[.agg (ie r c m A2 c2)] w fun e w'=>ly w' r 14 e∧aa w w':=by
 have H:=Ld h;have q:=Ld hd;unfold ie;rw[hd];clear h hd
 go_enter func72,ntmps72
 go_upto_region 2 with fail
 obtain⟨t,b⟩:=nM ((w.alloc (.cells #[.int .i64 r.size,.slice c r.sure.length m,.slice A2 r.fresh.length c2,.int .i64 r.fuse,.bool true] 65)).alloc (.cells #[.int .i64 0,.slice none 0 0,.slice none 0 0,.int .i64 0,.bool false] 65):World);obtain⟨G,i⟩:=nM (w.heap.size);rw[←i];have f:Hid (aa w t):=Ld (by rw[b];exact((aa.refl w).al _).al _);have n:Hid (ab t G 65 #[.int .i64 r.size,.slice c r.sure.length m,.slice A2 r.fresh.length c2,.int .i64 r.fuse,.bool true]):=Ld (by rw[b,i];exact(ab.new _ _ _).alloc _);have g:Hid (ab t (G+1) 65 #[.int .i64 0,.slice none 0 0,.slice none 0 0,.int .i64 0,.bool false]):=Ld (by rw[b,i];exact ab.new' _ _ _ (by simp));rw[←b];have s:Hid (G=w.heap.size):=Ld i;clear b i
 go_wp2_with (first
  |(refine cg 6 rfl ?_;refine ac rfl _ rfl underlying65 rfl rfl rfl n.out ?_)
  |((with_reducible refine aA ⟨none,.store 65 (.tmp 2) _,_,_,_,_⟩ ?_);refine an rfl (.tmp 2) (.tmp 6) rfl rfl rfl rfl g.out rfl (lf _ _ _ _ _ _ _ _ _) ?_;intro v j l;have o:=Ld j;have d:=Ld l;clear j l))
 refine bodyPost_ret (aI rfl _ _ (G+1) _ _ rfl o.out underlying65 rfl rfl) rfl ?_;refine⟨⟨c,m,A2,c2,?_,(H.out.new f.out).fr d.out (fun k u=>by subst u;exact aO.not_blk g.out (by decide))⟩,f.out.fr d.out (fun k u=>by have:=s.out;omega)⟩;unfold ie;rw[q.out];rfl
theorem Au(r:RP)(s:Option Addr)(D:Nat)(A2:Option Addr)(c2:Nat)(w:World)(h:fG w r s A2)(hd:r.down=false)(hn:r.tot≤100000):
    Calls prog 72 #[.agg (ie r s D A2 c2)] w fun e w'=>ly w' r.sync 0 e∧aa w w':=by
 have H:=Ld h;have b':=Ld hd;have d':r.sure.length+r.fresh.length≤100000:=hn;have HW:Hid (r.sync={r with sure:=r.sure++r.fresh,fresh:=[]}):=Ld (by unfold RP.sync;rw[hd,if_neg (by simp)]);have b9:Hid (∀u∈du r.sure,u.oneCell'=true):=Ld (kX _);have c':Hid (∀u∈du r.fresh,u.oneCell'=true):=Ld (kX _);unfold ie;rw[hd];clear h hd hn
 go_enter func72,ntmps72
 go_upto_region 3 with fail
 obtain⟨d,l⟩:=nM ((w.alloc (.cells #[.int .i64 r.size,.slice s r.sure.length D,.slice A2 r.fresh.length c2,.int .i64 r.fuse,.bool false] 65)).alloc (.cells #[.int .i64 0,.slice none 0 0,.slice none 0 0,.int .i64 0,.bool false] 65):World);obtain⟨G,R⟩:=nM (w.heap.size);rw[←R];have C:Hid (aa w d):=Ld (by rw[l];exact((aa.refl w).al _).al _);have y:Hid (ab d G 65 #[.int .i64 r.size,.slice s r.sure.length D,.slice A2 r.fresh.length c2,.int .i64 r.fuse,.bool false]):=Ld (by rw[l,R];exact(ab.new _ _ _).alloc _);have N:Hid (ab d (G+1) 65 #[.int .i64 0,.slice none 0 0,.slice none 0 0,.int .i64 0,.bool false]):=Ld (by rw[l,R];exact ab.new' _ _ _ (by simp));rw[←l];have b3:Hid (G=w.heap.size):=Ld R;clear l R;have f:∀w',aa d w'→w'.cell? ⟨G,1,none⟩=some (.slice s r.sure.length D)∧w'.cell? ⟨G,2,none⟩=some (.slice A2 r.fresh.length c2):=fun w' hN=>⟨hN.cell_ (y.out.cell 1),hN.cell_ (y.out.cell 2)⟩
 refine iz (fun w'=>w'.cell? ⟨G,1,none⟩=some (.slice s r.sure.length D)∧w'.cell? ⟨G,2,none⟩=some (.slice A2 r.fresh.length c2)) 8 (by kernel_rfl) ?_;refine aF (i:=1) (v:=.pointer (some ⟨G,1,none⟩)) rfl (by kernel_rfl) (by kernel_rfl) (by kernel_rfl) (by kernel_rfl) (fun _ _ _ h=>h) (Or.inl ⟨by rfl,fun w c=>by have h1:=c.1;have h2:=c.2;clear c;go_simp⟩) (f _ (by repeat(first|with_reducible exact aa.refl _|with_reducible assumption|with_reducible refine aa.dr ?_|with_reducible refine aa.al ?_ _):aa d _)) ?_
 try simp only[Act.put,bK,bM,bO]
 refine aF (i:=2) (v:=.slice s r.sure.length D) rfl (by kernel_rfl) (by kernel_rfl) (by kernel_rfl) (by kernel_rfl) (fun _ _ _ h=>h) (Or.inl ⟨by rfl,fun w c=>by have h1:=c.1;have h2:=c.2;clear c;go_simp⟩) (f _ (by repeat(first|with_reducible exact aa.refl _|with_reducible assumption|with_reducible refine aa.dr ?_|with_reducible refine aa.al ?_ _):aa d _)) ?_
 try simp only[Act.put,bK,bM,bO]
 refine aF (i:=4) (v:=.pointer (some ⟨G,2,none⟩)) rfl (by kernel_rfl) (by kernel_rfl) (by kernel_rfl) (by kernel_rfl) (fun _ _ _ h=>h) (Or.inl ⟨by rfl,fun w c=>by have h1:=c.1;have h2:=c.2;clear c;go_simp⟩) (f _ (by repeat(first|with_reducible exact aa.refl _|with_reducible assumption|with_reducible refine aa.dr ?_|with_reducible refine aa.al ?_ _):aa d _)) ?_
 try simp only[Act.put,bK,bM,bO]
 refine aF (i:=5) (v:=.slice A2 r.fresh.length c2) rfl (by kernel_rfl) (by kernel_rfl) (by kernel_rfl) (by kernel_rfl) (fun _ _ _ h=>h) (Or.inl ⟨by rfl,fun w c=>by have h1:=c.1;have h2:=c.2;clear c;go_simp⟩) (f _ (by repeat(first|with_reducible exact aa.refl _|with_reducible assumption|with_reducible refine aa.dr ?_|with_reducible refine aa.al ?_ _):aa d _)) ?_
 try simp only[Act.put,bK,bM,bO]
 refine aC (rs:=[0]) (by kernel_rfl) (by simp) (cX.cons (i:=0) rfl (fun K F=>?_) cX.nil);go_simp
 try simp only[Act.put,bK,bM,bO]
 refine F.out _ _ (fun _=>f _ (by repeat(first|with_reducible exact aa.refl _|with_reducible assumption|with_reducible refine aa.dr ?_|with_reducible refine aa.al ?_ _):aa d _)) ?_;refine aC (rs:=[3]) (by kernel_rfl) (by simp) (cX.cons (i:=3) rfl (fun K F=>?_) cX.nil);refine cq CO _ (by rfl) (.tmp 7) (.tmp 9) (by rfl) d.heap.size (.slice (some ⟨_,0,none⟩) 0 0) 0 [] (by rfl) (eA (by repeat(first|with_reducible exact ab.new' _ _ _ (by first|rfl|(simp;done))|with_reducible refine ab.drew ?_|with_reducible refine ab.alloc ?_ _|with_reducible refine ab.fr ?_ E (by simp[Value.ownBlock]))) (by first|(simp;done)|(simp;omega))) s r.sure.length D (du r.sure) (by rfl) ((by repeat(first|with_reducible exact aa.refl _|with_reducible assumption|with_reducible refine aa.dr ?_|with_reducible refine aa.al ?_ _):aa d _).rd (H.out.new C.out).sure) b9.out (by unfold maxLen;omega) (by omega) (by first|(simp;done)|(simp;omega)) ?_;intro X d1 w5 n E O;have c6:aa d w5:=(by repeat(first|with_reducible exact aa.refl _|with_reducible assumption|with_reducible refine aa.dr ?_|with_reducible refine aa.al ?_ _):aa d _).fr E (by intro k L;simp[Value.ownBlock]at L;omega);rw[Nat.zero_add,List.nil_append]at n;rw[Nat.zero_add]at O;rw[Nat.zero_add]
 try simp only[Act.put,bK,bM,bO]
 refine F.out _ _ (fun _=>f _ (by repeat(first|with_reducible exact aa.refl _|with_reducible assumption|with_reducible refine aa.dr ?_|with_reducible refine aa.al ?_ _):aa d _)) ?_;refine aC (rs:=[6]) (by kernel_rfl) (by simp) (cX.cons (i:=6) rfl (fun K F=>?_) cX.nil);refine cq CO _ (by rfl) (.tmp 10) (.tmp 12) (by rfl) d.heap.size (.slice X r.sure.length d1) r.sure.length (du r.sure) (by rfl) (bD (S:=ia) n (by repeat(first|with_reducible exact Fr.refl _ _|with_reducible refine Fr.drew ?_|with_reducible refine Fr.alloc ?_ _)) (fun _ _ h=>h)) A2 r.fresh.length c2 (du r.fresh) (by rfl) ((by repeat(first|with_reducible exact aa.refl _|with_reducible assumption|with_reducible refine aa.dr ?_|with_reducible refine aa.al ?_ _):aa d _).rd (H.out.new C.out).fresh) c'.out (by unfold maxLen;omega) (by omega) ((by repeat(first|with_reducible exact aa.refl _|with_reducible assumption|with_reducible refine aa.dr ?_|with_reducible refine aa.al ?_ _):aa d _).size) ?_;intro g m J T P c5;have I:aa d J:=(by repeat(first|with_reducible exact aa.refl _|with_reducible assumption|with_reducible refine aa.dr ?_|with_reducible refine aa.al ?_ _):aa d _).fr P (by intro k L;exact(ak n k L).1);have b8:=Ld T;have j:=I.blk y.out;have c3:=j.cell 1;have c4:=j.frozen 1;clear T c5 P O n E
 try simp only[Act.put,bK,bM,bO]
 refine F.out _ _ (fun _=>f _ (by repeat(first|with_reducible exact aa.refl _|with_reducible assumption|with_reducible refine aa.dr ?_|with_reducible refine aa.al ?_ _):aa d _)) ?_;refine aF (i:=7) (v:=.pointer (some ⟨G,1,none⟩)) rfl (by kernel_rfl) (by kernel_rfl) (by kernel_rfl) (by kernel_rfl) (fun _ _ _ h=>h) (Or.inl ⟨by rfl,fun w c=>by have h1:=c.1;have h2:=c.2;clear c;go_simp⟩) (f _ (by repeat(first|with_reducible exact aa.refl _|with_reducible assumption|with_reducible refine aa.dr ?_|with_reducible refine aa.al ?_ _):aa d _)) ?_
 try simp only[Act.put,bK,bM,bO]
 refine aC (rs:=[8]) (by kernel_rfl) (by simp) (cX.cons (i:=8) rfl (fun K F=>?_) cX.nil);go_simp
 try simp only[Act.put,bK,bM,bO]
 refine F.out _ _ (fun h=>absurd rfl h) ?_;refine fc (by kernel_rfl) ?_ _;obtain⟨w7,o⟩:=nM (J.setCell ⟨G,1,none⟩ (.slice g (r.sure.length+r.fresh.length) m):World);have z:Hid (ab w7 G 65 #[.int .i64 r.size,.slice g (r.sure.length+r.fresh.length) m,.slice A2 r.fresh.length c2,.int .i64 r.fuse,.bool false]):=Ld (by rw[o];exact j.set 1 _);have b0:Hid (Fr (fun k=>k=G) J w7):=Ld (by rw[o];exact(Fr.refl (fun k=>k=G) J).setCell (p:=⟨G,1,none⟩) (fun _=>rfl) _);have B:=Ld I;have b7:=Ld j;have c8:=z.out.cell 2;have c9:=z.out.frozen 2
 try rw[←o]
 clear o j c3 c4 I c6 f
 go_upto_region 5 with fail
 obtain⟨w9,q⟩:=nM (w7.setCell ⟨G,2,none⟩ (.slice none 0 0):World);have Z:Hid (ab w9 G 65 #[.int .i64 r.size,.slice g (r.sure.length+r.fresh.length) m,.slice none 0 0,.int .i64 r.fuse,.bool false]):=Ld (by rw[q];exact z.out.set 2 _);have M:Hid (Fr (fun k=>k=G) J w9):=Ld (by rw[q];exact b0.out.setCell (p:=⟨G,2,none⟩) (fun _=>rfl) _);have c0:=Ld ((aa.blk B.out N.out).fr M.out (by omega))
 try rw[←q]
 clear q c8 c9
 go_wp2_with (first
  |(refine cg 16 rfl ?_;refine ac rfl _ rfl underlying65 rfl rfl rfl Z.out ?_)
  |((with_reducible refine aA ⟨none,.store 65 (.tmp 2) _,_,_,_,_⟩ ?_);refine an rfl (.tmp 2) (.tmp 16) rfl rfl rfl rfl c0.out rfl (lf _ _ _ _ _ _ _ _ _) ?_;intro w8 U V;have Y:=Ld U;have b1:=Ld V;clear U V))
 refine bodyPost_ret (aI rfl _ _ (G+1) _ _ rfl Y.out underlying65 rfl rfl) rfl ?_;have t:Fr (fun k=>k=G∨k=G+1) J w8:=(M.out.mono fun b _ h=>.inl h).trans (b1.out.mono fun b _ h=>.inr h);have c7:aa w w8:=(C.out.tr B.out).fr t (fun k L=>by have:=b3.out;omega);refine⟨⟨g,m,none,0,?_,?_⟩,c7⟩
 ·rw[HW.out];unfold ie;simp only[List.length_append,List.length_nil];rw[b'.out];rfl
 ·rw[HW.out];refine⟨?_,fg.nil,?_⟩
  ·have h6:fg 132 J 65 g (r.sure.length+r.fresh.length) (du (r.sure++r.fresh)):=by
    have:=fg.own b8.out rfl;rw[km];exact this
   have:=h6.fr t (fun k L=>by rcases L with rfl|rfl<;>first|exact aO.not_blk b7.out (by decide)|exact aO.not_blk (aa.blk B.out N.out) (by decide))
   simpa using this
  ·rw[←HW.out];exact H.out.ok.sync
theorem qF(r:RP)(b:Option Addr)(c:Nat)(A2:Option Addr)(c2:Nat)(w:World)(h:fG w r b A2)(d:r.tot≤100000):
    Calls prog 72 #[.agg (ie r b c A2 c2)] w fun e w'=>ly w' r.sync r.scode e∧aa w w':=by
 cases hd:r.down with
 |true=>
  rw[show r.sync=r from by unfold RP.sync;rw[hd,if_pos rfl],show r.scode=14 from by unfold RP.scode;rw[hd,if_pos rfl]];exact uZ r b c A2 c2 w h hd
 |false=>
  rw[show r.scode=0 from by unfold RP.scode;rw[hd,if_neg (by simp)]];exact Au r b c A2 c2 w h hd d
theorem Ad:(prog.info? 65).map (fun i=>(i.zero,i.size))=some (some (.agg #[.int .i64 0,.slice none 0 0,.slice none 0 0,.int .i64 0,.bool false]),5):=by kernel_rfl
end Go.Proofs.YtfchcdbfalgdlaaGreatDoor
