/- Texts of one proof. No condition but each one's own. -/
import Derived.Test.YtfchcdbfalgdlaaGreatDoorSweepPlaysM3
import Derived.Test.YtfchcdbfalgdlaaGreatDoorSweepPlaysM5
set_option maxHeartbeats 4000000
set_option maxRecDepth 100000
set_option linter.unusedVariables false
set_option linter.unusedSimpArgs false
namespace Go.Proofs.YtfchcdbfalgdlaaGreatDoor
open _root_.Go.Proofs.Tryz
open Go.RowKit Go.Sort
structure LG where
 first:Nat
 size:Nat
 gen:Nat
 used:Nat
 tag:List Int
 broken:Bool
structure LG.Ok(l:LG)(n:Nat):Prop where
 fit:l.first+l.size<=n
 gen:l.gen<4294967296
 used:l.used<=l.size
 len:l.tag.length=16
 byt:ba l.tag
def aA(n:Nat):Nat:=(tO n).toNat
theorem iO(n:Nat):aA n<=1193:=by have:=yS n;unfold aA;omega
theorem jM(n:Nat):tO (n:Int)=(aA n:Int):=by have:=yS n;unfold aA;omega
theorem yR{n:Nat}(h1:1<=n)(h2:n<=65536):aA n=(n+74)/55:=by unfold aA;rw[tP (by omega) (by omega)];omega
theorem eo{n:Nat}(h:aA n≠0):1<=n/\n<=65536/\aA n=(n+74)/55:=by
 by_cases h1:1<=n/\n<=65536
 ·exact⟨h1.1,h1.2,yR h1.1 h1.2⟩
 ·exact absurd (by unfold aA;rw[qj (by omega)];rfl) h
def fT(tag:List Int)(gen:Nat)(b:List Int):List Int:=(kD (tag++bj 4 gen++b)).take 16
theorem fh(t:List Int)(g:Nat)(b:List Int):(fT t g b).length=16:=by simp[fT,iL]
theorem iw(t:List Int)(g:Nat)(b:List Int):ba (fT t g b):=λx c=>yl _ x (List.mem_of_mem_take c)
def LG.hdr(l:LG)(i:Nat):List Int:=bj 4 l.gen++bj 4 (l.used+i)++[if i=0 then 1 else 2]
theorem LG.hdr_len(l:LG)(i:Nat):(l.hdr i).length=9:=by simp[LG.hdr,aw]
theorem LG.hdr_byt(l:LG)(i:Nat):ba (l.hdr i):=by
 intro x b;unfold LG.hdr at b;simp only[List.mem_append,List.mem_singleton]at b;rcases b with(b|b)|b
 ·exact eQ _ _ x b
 ·exact eQ _ _ x b
 ·rw[b];split<;>omega
def sct(p:DP)(l:LG)(i:Nat):List Int:=p.rget ((l.first+l.used+i:Nat):Int)
theorem lX{p:DP}(h:p.Ok)(l:LG)(i:Nat):aS (sct p l i):=h.rget _
def aT(p:DP)(l:LG)(k:Nat):List Int:=(List.range k).flatMap λi=>(sct p l i).drop 9
theorem iK(p:DP)(l:LG)(k:Nat):aT p l (k+1)=aT p l k++(sct p l k).drop 9:=by simp[aT,List.range_succ]
theorem fq{p:DP}(h:p.Ok)(l:LG):∀k,(aT p l k).length=55*k
 | 0=>rfl
 |k+1=>by
  have:=(lX h l k).1;rw[iK,List.length_append,List.length_drop,fq h l k,this];omega
theorem lL{p:DP}(h:p.Ok)(l:LG)(k:Nat):ba (aT p l k):=by
 intro x b;obtain⟨i,-,hi⟩:=List.mem_flatMap.1 b;exact(lX h l i).2 x (List.mem_of_mem_drop hi)
def LG.many(l:LG)(p:DP):Nat:=aU (((sct p l 0).drop 9).take 4)
def LG.body(l:LG)(p:DP):List Int:=((aT p l (aA (l.many p))).drop 20).take (l.many p)
structure LG.Next(l:LG)(p:DP):Prop where
 room:l.used<l.size
 pos:aA (l.many p)≠0
 fit:l.used+aA (l.many p)<=l.size
 hdr:∀i,i<aA (l.many p)->(sct p l i).take 9=l.hdr i
 tag:((aT p l (aA (l.many p))).drop 4).take 16=fT l.tag l.gen (l.body p)
open Classical in
noncomputable def nextL (p:DP) (l:LG):Option (List Int):=if l.Next p then some (l.body p)else none
theorem jG{p:DP}{l:LG}(h:l.Next p):nextL p l=some (l.body p):=by unfold nextL;exact if_pos h
theorem cM{p:DP}{l:LG}(h:¬l.Next p):nextL p l=none:=by unfold nextL;exact if_neg h
def LG.step(l:LG)(b:List Int):LG:={l with used:=l.used+aA b.length,tag:=fT l.tag l.gen b}
theorem LG.body_len{p:DP}(h:p.Ok){l:LG}(b:aA (l.many p)≠0):(l.body p).length=l.many p:=by
 have h1:=eo b;unfold LG.body;rw[List.length_take,List.length_drop,fq h];omega
theorem LG.body_byt{p:DP}(h:p.Ok)(l:LG):ba (l.body p):=λx b=>lL h l _ x (List.mem_of_mem_drop (List.mem_of_mem_take b))
theorem LG.Next.ok{p:DP}{l:LG}{n:Nat}(h:l.Next p)(b:p.Ok)(hl:l.Ok n):(l.step (l.body p)).Ok n:=
 ⟨hl.fit,hl.gen,by have:=h.fit;show l.used+aA (l.body p).length<=l.size;rw[LG.body_len b h.pos];exact this,fh _ _ _,iw _ _ _⟩
noncomputable def runs (p:DP) (l:LG):Nat->LG×List (List Int)
 | 0=>(l,[])
 |k+1=>match nextL p (runs p l k).1 with|some b=>((runs p l k).1.step b,(runs p l k).2++[b])|none=>runs p l k
theorem fG{p:DP}{l:LG}{k:Nat}{b:List Int}(h:nextL p (runs p l k).1=some b):runs p l (k+1)=((runs p l k).1.step b,(runs p l k).2++[b]):=by
 simp only[runs,h]
theorem js{p:DP}{l:LG}{k:Nat}(h:nextL p (runs p l k).1=none):∀j,runs p l (k+j)=runs p l k
 | 0=>rfl
 |j+1=>by
  have c:=js h j;rw[<-Nat.add_assoc];show(match nextL p (runs p l (k+j)).1 with|some b=>((runs p l (k+j)).1.step b,(runs p l (k+j)).2++[b])|none=>runs p l (k+j))=_;rw[c,h]
theorem cu {p:DP} {l:LG} {n:Nat} (g:p.Ok) (h:l.Ok n):∀k,(runs p l k).1.Ok n/\(runs p l k).1.size=l.size/\(runs p l k).1.first=l.first/\(runs p l k).1.gen=l.gen/\(runs p l k).1.broken=l.broken
 | 0=>⟨h,rfl,rfl,rfl,rfl⟩
 |k+1=>by
  obtain⟨h1,h2,c,d,f⟩:=cu g h k
  by_cases b:(runs p l k).1.Next p
  ·rw[fG (jG b)];exact⟨b.ok g h1,h2,c,d,f⟩
  ·have:=js (cM b) 1;rw[this];exact⟨h1,h2,c,d,f⟩
noncomputable def runL (p:DP) (l:LG):LG×List (List Int):=runs p l (l.size+1)
def wipeN(p:DP)(l:LG):Nat->DP×Bool×Int
 | 0=>(p,false,0)
 | k+1=>let r:=wipeN p l k
  if r.2.2≠0 then r else
  if aU ((sct r.1 l k).take 4)=l.gen then(r.1.doWrite ((l.first+l.used+k:Nat):Int) az,(if r.1.wcode ((l.first+l.used+k:Nat):Int)=0 then true else r.2.1),r.1.wcode ((l.first+l.used+k:Nat):Int))
  else r
def aB(p:DP)(l:LG):DP×Int:=
 let r:=wipeN p l (l.size-l.used)
 if r.2.2≠0 then(r.1,r.2.2)else if r.2.1=true then(r.1.doSync,r.1.scode)else(r.1,0)
def LG.frame(l:LG)(b:List Int):List Int:=bj 4 b.length++fT l.tag l.gen b++b
theorem LG.frame_len(l:LG)(b:List Int):(l.frame b).length=b.length+20:=by simp[LG.frame,aw,fh];omega
theorem LG.frame_byt(l:LG){b:List Int}(d:ba b):ba (l.frame b):=by
 intro x c;unfold LG.frame at c;simp only[List.mem_append]at c;rcases c with(c|c)|c
 ·exact eQ _ _ x c
 ·exact iw _ _ _ x c
 ·exact d x c
def LG.raw(l:LG)(b:List Int)(i:Nat):List Int:=l.hdr i++((l.frame b).drop (55*i)).take 55
def fO(x:List Int):List Int:=x++List.replicate (64-x.length) 0
def LG.sec(l:LG)(b:List Int)(i:Nat):List Int:=fO (l.raw b i)
theorem LG.raw_len(l:LG)(b:List Int)(i:Nat):(l.raw b i).length<=64:=by
 unfold LG.raw;rw[List.length_append,LG.hdr_len,List.length_take];omega
theorem fD{x:List Int}(h:x.length<=64):(fO x).length=64:=by simp[fO];omega
theorem rL{x:List Int}(h:ba x):ba (fO x):=by
 intro y b;unfold fO at b;rcases List.mem_append.1 b with b|b
 ·exact h y b
 ·have:=List.eq_of_mem_replicate b;omega
theorem LG.raw_byt(l:LG){b:List Int}(d:ba b)(i:Nat):ba (l.raw b i):=by
 intro x c;rcases List.mem_append.1 c with c|c
 ·exact l.hdr_byt i x c
 ·exact l.frame_byt d x (List.mem_of_mem_drop (List.mem_of_mem_take c))
theorem LG.sec_ok(l:LG){b:List Int}(c:ba b)(i:Nat):aS (l.sec b i):=⟨fD (l.raw_len b i),rL (l.raw_byt c i)⟩
def writeN(p:DP)(l:LG)(b:List Int):Nat->DP×Int
 | 0=>(p,0)
 | k+1=>let r:=writeN p l b k
  if r.2≠0 then r else(r.1.doWrite ((l.first+l.used+k:Nat):Int) (l.sec b k),r.1.wcode ((l.first+l.used+k:Nat):Int))
def aD(p:DP)(l:LG)(b:List Int):DP×LG×Int:=
 if aA b.length=0 then(p,l,2)else if l.broken=true then(p,l,10)else if l.size-l.used<aA b.length then(p,l,8)else
 let r:=writeN p l b (aA b.length)
 if r.2≠0 then(r.1,{l with broken:=true},r.2)else(r.1,l.step b,0)
def By(l:LG)(gd:Nat):List Value:=[.pointer (some ⟨gd,0,none⟩),.int .i64 l.first,.int .i64 l.size,.int .u32 l.gen,.int .i64 l.used]++an l.tag++[.bool l.broken]
structure Lg(w:World)(gl gd:Nat)(l:LG)(n:Nat):Prop where
 blk:ac w gl 177 (By l gd).toArray
 ok:l.Ok n
theorem Lg.fr{S:Nat->Prop}{w w':World}{b gd n:Nat}{l:LG}(h:Lg w b gd l n)(hF:Fr S w w')(c:¬S b):Lg w' b gd l n:=⟨h.blk.fr hF c,h.ok⟩
theorem Lg.new{w w':World}{b gd n:Nat}{l:LG}(h:Lg w b gd l n)(c:aa w w'):Lg w' b gd l n:=⟨c.blk h.blk,h.ok⟩
theorem Lg.c0{w:World}{b gd n:Nat}{l:LG}(h:Lg w b gd l n):w.cell? ⟨b,0,none⟩=some (.pointer (some ⟨gd,0,none⟩)):=h.blk.cell 0
theorem Lg.c1{w:World}{b gd n:Nat}{l:LG}(h:Lg w b gd l n):w.cell? ⟨b,1,none⟩=some (.int .i64 l.first):=h.blk.cell 1
theorem Lg.c2{w:World}{b gd n:Nat}{l:LG}(h:Lg w b gd l n):w.cell? ⟨b,2,none⟩=some (.int .i64 l.size):=h.blk.cell 2
theorem Lg.c3{w:World}{b gd n:Nat}{l:LG}(h:Lg w b gd l n):w.cell? ⟨b,3,none⟩=some (.int .u32 l.gen):=h.blk.cell 3
theorem Lg.c4{w:World}{b gd n:Nat}{l:LG}(h:Lg w b gd l n):w.cell? ⟨b,4,none⟩=some (.int .i64 l.used):=h.blk.cell 4
theorem Lg.cb{w:World}{b gd n:Nat}{l:LG}(h:Lg w b gd l n):w.cell? ⟨b,21,none⟩=some (.bool l.broken):=by
 rw[h.blk.cell 21,List.getElem?_toArray];unfold By;rw[List.getElem?_append_right (by simp[ak,h.ok.len])];simp[ak,h.ok.len]
theorem yr{l:LG}(h:l.tag.length=16)(gd:Nat):(By l gd).length=22:=by simp[By,ak,h]
theorem Lg.tagAt{w:World}{b gd n:Nat}{l:LG}(h:Lg w b gd l n):w.rangeAt b 5 (an l.tag):=λj v c=>by
 rw[h.blk.cell,List.getElem?_toArray];have d:=(List.getElem?_eq_some_iff.1 c).1;unfold By;rw[List.append_assoc,List.getElem?_append_right (by simp),List.getElem?_append_left (by simpa using d)]
 simpa using c
theorem Lg.setUsed{w:World}{b gd n:Nat}{l:LG}(h:Lg w b gd l n)(u:Nat)(hu:u<=l.size):Lg (w.setCell ⟨b,4,none⟩ (.int .i64 u)) b gd {l with used:=u} n:=
 ⟨by
  have:=h.blk.set 4 (.int .i64 u);rw[bC]at this
  exact this,⟨h.ok.fit,h.ok.gen,hu,h.ok.len,h.ok.byt⟩⟩
theorem Lg.setBroken{w:World}{c gd n:Nat}{l:LG}(h:Lg w c gd l n)(b:Bool):Lg (w.setCell ⟨c,21,none⟩ (.bool b)) c gd {l with broken:=b} n:=
 ⟨by
  have:=h.blk.set 21 (.bool b);rw[bC]at this
  have e:(By l gd).set 21 (.bool b)=By {l with broken:=b} gd:=by
   unfold By;rw[List.set_append_right _ _ (by simp[ak,h.ok.len])];simp[ak,h.ok.len]
  rw[e]at this
  exact this,⟨h.ok.fit,h.ok.gen,h.ok.used,h.ok.len,h.ok.byt⟩⟩
theorem yt{l:LG}(h:l.tag.length=16)(gd:Nat)(t:List Int)(ht:t.length=16):splice (By l gd) 5 (an t)=By {l with tag:=t} gd:=by
 unfold splice By;rw[ak,ht]
 have b:([Value.pointer (some ⟨gd,0,none⟩),.int .i64 l.first,.int .i64 l.size,.int .u32 l.gen,.int .i64 l.used]++an l.tag++[Value.bool l.broken]).drop (5+16)=[Value.bool l.broken]:=by
  rw[List.drop_append_of_le_length (by simp[ak,h]),List.drop_of_length_le (by simp[ak,h])];rfl
 rw[b];simp
theorem pZ{P:Program}{w:World}{g o:Nat}{T ty:TypeId}{cur cells:List Value}(b:ac w g T cur.toArray)(d:o+cells.length<=cur.length)(hi:(P.info? ty).map (·.size)=some cells.length)(h1:∀v∈cells,v.oneCell'=true):
    ∃w',(Instr.storeAt ty (.pointer (some ⟨g,o,none⟩)) (.agg cells.toArray)).run P w=.ok () w'/\ac w' g T (splice cur o cells).toArray/\Fr (λk=>k=g) w w':=by
 have c:=run_storeCells_at (P:=P) g o T cells 0 cur.toArray w b (by simpa using d) h1;obtain⟨f,j⟩:=eJ (cs':=(cur.take o++(cells++cur.drop (o+cells.length))).toArray) b;refine⟨_,?_,f,j⟩
 cases hq:P.info? ty with
 |none=>simp[hq]at hi
 |some i=>
  have hz:cells.length=i.size:=by simp[hq]at hi;omega
  simp only[Nat.add_zero,List.append_assoc]at c;simp[Instr.storeAt,Instr.sureAddr,storeVar,sizeOf,typeInfo,hq,Value.cells,hz,c,go_sem]
theorem fW{P:Program}{w:World}{b:Array Oper}{rest:List Oper}{o:Oper}{a:Act}{Q:Exit->Act->World->Prop}{g off:Nat}{T ty:TypeId}{cur cells:List Value}(j:Region.wanted o (yielded b a.tmps)=true)(x y:Operand)(i:o.op=.store ty x y)(l:a.eval x=.pointer (some ⟨g,off,none⟩))(m:a.eval y=.agg cells.toArray)
    (f:ac w g T cur.toArray) (hl:off+cells.length<=cur.length) (hi:(P.info? ty).map (·.size)=some cells.length) (h1:∀v∈cells,v.oneCell'=true)
    (h:∀w',ac w' g T (splice cur off cells).toArray->Fr (λk=>k=g) w w'->wpList P b Q rest (a.put o.dst undef) w'):wpList P b Q (o::rest) a w:=
 cH j λK d=>by
  obtain⟨w',c,n,p⟩:=pZ (P:=P) f hl hi h1;unfold Oper.wp execOp;simp only[i,l,m,Sem.run_bind,c,Result.andThen_ok,Sem.run_pure];exact d _ _ (h w' n p)
theorem pB:(prog.info? 211).map (λi=>(i.zero,i.size))=some (some (.agg (ag (List.replicate 32 0))),32):=by kernel_rfl
theorem xO{P:Program}{b:Array Oper}{rest:List Oper}{o:Oper}{a:Act}{w:World}{Q:Exit->Act->World->Prop}{T e:TypeId}{n len cap:Nat}{A:Option Addr}(g:Region.wanted o (yielded b a.tmps)=true)(x:Operand)(c:o.op=.sliceToArrayPointer T x)(i:a.eval x=.slice A len cap)
    (hu:P.underlying T=some (.array n e)) (f:n<=len) (h:wpList P b Q rest (a.put o.dst (.pointer A)) w):wpList P b Q (o::rest) a w:=
 cH g λK d=>by
  unfold Oper.wp execOp;simp only[c,i,Sem.run_bind,run_arrayAt (P:=P) (w:=w) T e n A len cap hu f,Result.andThen_ok,Sem.run_pure];exact d _ _ h
theorem Hf(n:Nat):IntKind.u8.wrap ((n:Int)/16777216)=((aL n 3:Nat):Int):=by
 rw[show(n:Int)/16777216=((n/16777216:Nat):Int)from by simp,eU];rfl
theorem He(n:Nat):IntKind.u8.wrap ((n:Int)/65536)=((aL n 2:Nat):Int):=by
 rw[show(n:Int)/65536=((n/65536:Nat):Int)from by simp,eU];rfl
theorem Hd(n:Nat):IntKind.u8.wrap ((n:Int)/256)=((aL n 1:Nat):Int):=by
 rw[show(n:Int)/256=((n/256:Nat):Int)from by simp,eU];rfl
theorem Hc(n:Nat):IntKind.u8.wrap (n:Int)=((aL n 0:Nat):Int):=by
 rw[eU];unfold aL;rw[Nat.pow_zero,Nat.div_one]
theorem sd(s:List Int){n:Nat}(h:n<=s.length):∀{w:World} {g T:Nat},ac w g T (ag s)->w.rangeAt g 0 (an (s.take n)):=λc j v b=>by
 rw[c.cell,Nat.zero_add];have d:=(List.getElem?_eq_some_iff.1 b).1;rw[ak,List.length_take]at d;unfold ag;rw[List.getElem?_toArray,<-b];unfold an;rw[List.getElem?_map,List.getElem?_map,List.getElem?_take_of_lt (by omega)]
theorem jN{q:Nat->Prop}(tag:List Int)(gen:Nat)(A:Option Addr)(n c:Nat)(b:List Int)(w:World)(hL:dC 4 2 w)(hR:Rd q w 1 A n (an b))(hb:ba b)(ht:tag.length=16)(Y:ba tag)(hg:gen<4294967296)(hn:n<=400000000):
    Calls prog 143 #[.agg (ag tag),.int .u32 gen,.slice A n c] w λe w'=>e=.returned (.agg (ag (fT tag gen b)))/\aa w w':=by
 have HL:=Ld hL;have HR:=Ld hR;have HB:=Ld hb;have HT:=Ld (And.intro ht Y);have HX:Hid (b.length=n):=Ld (by have:=hR.1;rw[ak]at this;omega);have X:(ag (fT tag gen b)).size=16:=by rw[aq,fh]
 have r:=Ld X;have F:Hid (fT tag gen b=(kD ([tag,bj 4 gen,b].flatten)).take 16):=Ld (by simp[fT]);obtain⟨TL,T⟩:=nM (fT tag gen b);rw[<-T]at r F⊢;obtain⟨TA,H⟩:=nM (ag tag);have E:=Ld H;rw[<-H];have v3:=Hf gen;have v2:=He gen;have v1:=Hd gen;have v0:=Hc gen;have c0:(gen:Int)<4294967296:=by omega
 clear hL hR hb ht Y X T H
 go_enter func143,ntmps143
 go_upto_region 1 with fail;have hz:(#[.int .u8 0,.int .u8 0,.int .u8 0,.int .u8 0,.int .u8 0,.int .u8 0,.int .u8 0,.int .u8 0,.int .u8 0,.int .u8 0,.int .u8 0,.int .u8 0,.int .u8 0,.int .u8 0,.int .u8 0,.int .u8 0]:Array Value)=ag (List.replicate 16 0):=rfl;rw[hz];obtain⟨o,j⟩:=nM ((w.alloc (.cells TA 175)).alloc (.cells (ag (List.replicate 16 0)) 175):World);obtain⟨R,t⟩:=nM (w.heap.size);obtain⟨b6,u⟩:=nM (w.heap.size+1);have D:Hid (aa w o):=Ld (by rw[j];exact aa.al (aa.al (aa.refl _) _) _);have b':Hid (ac o R 175 (ag tag)):=Ld (by rw[j,t,E.out];exact(ac.new _ _ _).alloc _);have L:Hid (ac o b6 175 (ag (List.replicate 16 0))):=Ld (by rw[j,u,<-hz];exact ac.new' _ _ _ (by simp));have HZ:Hid (R=w.heap.size/\b6=w.heap.size+1):=Ld ⟨t,u⟩;rw[<-j,<-u,<-t];clear j t u hz
 go_wp2_with fail;obtain⟨Z,m⟩:=nM ((o.alloc (.cells #[.int .u8 (aL gen 3:Nat),.int .u8 (aL gen 2:Nat),.int .u8 (aL gen 1:Nat),.int .u8 (aL gen 0:Nat)] 5)).alloc (.cells #[.slice (some ⟨R,0,none⟩) 16 16,.slice (some ⟨o.heap.size,0,none⟩) 4 4,.slice A n c] 33):World);obtain⟨bp,J⟩:=nM (o.heap.size+1);have d:Hid (aa o Z):=Ld (by rw[m];exact aa.al (aa.al (aa.refl _) _) _)
 have HP:Hid (mi Z bp 0 [tag,bj 4 gen,b]):=Ld ⟨λi l hl=>by
  have hB:ac Z bp 33 #[.slice (some ⟨R,0,none⟩) 16 16,.slice (some ⟨o.heap.size,0,none⟩) 4 4,.slice A n c]:=by rw[m,J];exact ac.new' _ _ _ (by simp)
  have hG:ac Z o.heap.size 5 #[.int .u8 (aL gen 3:Nat),.int .u8 (aL gen 2:Nat),.int .u8 (aL gen 1:Nat),.int .u8 (aL gen 0:Nat)]:=by rw[m];exact(ac.new _ _ _).alloc _
  match i,hl with
  | 0,hl=>
   obtain rfl:tag=l:=by simpa using hl
   refine⟨HT.out.2,some ⟨R,0,none⟩,16,?_,?_⟩
   ·rw[HT.out.1];exact hB.cell 0
   ·have h:=Rd.ofBlk (p:=λ_=>True) (d.out.blk b'.out) 1 tag.length (by rw[aq];omega) trivial;rw[eu]at h;exact h
  | 1,hl=>
   obtain rfl:bj 4 gen=l:=by simpa using hl
   refine⟨eQ _ _,some ⟨o.heap.size,0,none⟩,4,hB.cell 1,?_⟩;exact Rd.ofBlk (p:=λ_=>True) hG 1 4 rfl trivial
  | 2,hl=>
   obtain rfl:b=l:=by simpa using hl
   refine⟨HB.out,A,c,?_,?_⟩
   ·rw[HX.out];exact hB.cell 2
   ·rw[HX.out];exact(d.out.rd (D.out.rd HR.out)).imp (λ_ _=>trivial)
  |(i+3),hl=>simp at hl⟩
 rw[<-m,<-J];clear m J v3 v2 v1 v0
 have b9:([tag,bj 4 gen,b].flatten).length=n+20:=by
  have:=HX.out;have:=HT.out.1;simp[aw];omega
 refine(BL bp 0 3 [tag,bj 4 gen,b] 3 rfl Z ((HL.out.new D.out).new d.out) (by simp) HP.out (by simp) (by omega) (by simp)).mono ?_;rintro e w3 ⟨rfl,S⟩;obtain⟨B,G⟩:=nM (kD [tag,bj 4 gen,b].flatten);rw[<-G]at F⊢;have g:B.length=32:=by rw[G];exact iL _
 have f:=Ld g;have O:=Ld S;have C:(ag B).size=32:=by rw[aq,g]
 have c':=Ld C;clear S G b9 g C;have z:Hid (ac w3 b6 175 (ag (List.replicate 16 0))):=Ld (O.out.blk (d.out.blk L.out))
 go_upto_region 2 with(refine cE 7 rfl ?_;refine aH (s:=B) rfl rfl rfl _ _ rfl pB rfl rfl rfl f.out ?_)
 obtain⟨w4,y⟩:=nM (w3.alloc (.cells (ag B) 211):World);obtain⟨b7,I⟩:=nM (w3.heap.size);have b0:Hid (ac w4 b7 211 (ag B)):=Ld (by rw[y,I];exact ac.new _ _ _);have P:Hid (aa w3 w4):=Ld (by rw[y];exact aa.al (aa.refl _) _);have M:Hid (ac w4 b6 175 (ag (List.replicate 16 0))):=Ld (P.out.blk z.out);rw[<-y,<-I];clear y I z L;have E:Hid (ag TL=ag (B.take 16)):=Ld (by rw[F.out]);have N:Hid ((an (B.take 16)).length=16):=Ld (by rw[ak,List.length_take,f.out];rfl);refine wp_region_list ?_;refine wpList_step λK hK=>?_
 go_simp;refine hK _ _ ?_;clear hK K;refine xO rfl _ rfl rfl underlying175 (Nat.le_refl _) ?_;refine dH rfl _ rfl rfl (sd B (n:=16) (by rw[f.out];decide) b0.out) underlying175 rfl (by rw[N.out];rfl) ?_;refine ao rfl (.tmp 6) (.tmp 26) rfl (cs:=ag TL) (by rw[r.out];rfl) rfl (by rw[E.out];rfl) M.out (by rw[r.out,aq,List.length_replicate]) (bH _) ?_;intro w8 U V;have b1:=Ld U;have b8:=Ld V;clear U V;simp only[Act.put,bC,bD,bF]
 go_wp2_with fail;exact bodyPost_ret (v:=.agg (ag TL)) (eh rfl _ _ b6 _ _ rfl b1.out underlying175 rfl (by rw[r.out];rfl)) rfl ⟨rfl,((((D.out.tr d.out).tr O.out).tr P.out)).fr b8.out (λk hk=>by have:=HZ.out;omega)⟩
end Go.Proofs.YtfchcdbfalgdlaaGreatDoor
