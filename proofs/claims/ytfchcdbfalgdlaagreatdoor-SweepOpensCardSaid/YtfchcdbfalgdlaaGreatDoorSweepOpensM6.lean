/- Texts of one proof. No condition but each one's own. -/
import Derived.Test.YtfchcdbfalgdlaaGreatDoorSweepOpensM5
set_option maxHeartbeats 4000000
set_option maxRecDepth 100000
set_option linter.unusedVariables false
set_option linter.unusedSimpArgs false
namespace Go.Proofs.YtfchcdbfalgdlaaGreatDoor
open _root_.Go.Proofs.Tryz
open Go.RowKit Go.Maps
def pS(xs:List Bool):List Value:=xs.map Value.bool
theorem pT(xs:List Bool):(pS xs).length=xs.length:=by simp[pS]
theorem Ce{p:Nat→Prop}{w:World}{A:Option Addr}{n:Nat}{xs:List Bool}(h:Rd p w 1 A n (pS xs)){i:Nat}(hi:i<n):
    ∃g o,A=some ⟨g,o,none⟩∧g<w.heap.size∧p g∧w.cell? ⟨g,o+i,none⟩=some (.bool (xs.getD i false)):=by
 obtain⟨g,o,b,f,d,c⟩:=h.out (by omega) (by omega);refine⟨g,o,b,d,f,c i _ ?_⟩;have hl:i<xs.length:=by have:=h.1;rw[pT]at this;omega
 simp[pS,List.getD,hl]
theorem DQ{p:Nat→Prop}{w:World}{A:Option Addr}{n:Nat}{xs:List Int}(h:Rd p w 1 A n (nj xs)){i:Nat}(hi:i<n):
    ∃g o,A=some ⟨g,o,none⟩∧g<w.heap.size∧p g∧w.cell? ⟨g,o+i,none⟩=some (.int .i64 (xs.getD i 0)):=by
 obtain⟨g,o,b,f,d,c⟩:=h.out (by omega) (by omega);refine⟨g,o,b,d,f,c i _ ?_⟩;have hl:i<xs.length:=by have:=h.1;rw[zx]at this;omega
 simp[nj,List.getD,hl]
def DP.part(p:DP)(b:List Bool)(j:Nat):DP:={p with sure:=jc p b j}
theorem DP.Ok.part{p:DP}(h:p.Ok)(b:List Bool)(j:Nat):(p.part b j).Ok:=⟨h.s1,h.s2,nt h b j,h.freshR,h.nod,h.ord,h.fz⟩
theorem qx{p:DP}{b:List Bool}{j:Nat}(h:b.getD j false=false):p.part b (j+1)=p.part b j:=by
 unfold DP.part
 congr 1
 simp only[jc,h];rfl
theorem ya{w w':World}{base g bs i n:Nat}{v:Value}{p:DP}{b:List Bool}{j:Nat}{s:List Int}(c:Dk w base g bs i v (p.part b j))(o:j<p.order.length)(d:b.getD j false=true)(m:p.fresh (p.order.getD j 0)=some s)
    (l:aH w' prog 3 bs n (kE (mf (jc p b j)) (.int .i64 (p.order.getD j 0)) (some (.agg (af s))))) (hF:Fr (fun k=>k=bs) w w') (f:p.Ok):Dk w' base g bs i v (p.part b (j+1)):=by
 have e:jc p b (j+1)=sH (jc p b j) (p.order.getD j 0) (some s):=by simp only[jc,d,if_true,m]
 refine⟨c.blk.fr hF c.gs,?_,c.mw.fr hF (fun e=>c.ne e.symm),bD c.own hF (fun k d=>c.vs k d),c.ne,c.lo,f.part b (j+1)⟩
 have h2:kE (mf (jc p b j)) (.int .i64 (p.order.getD j 0)) (some (.agg (af s)))=mf (p.part b (j+1)).sure:=by
  show _=mf (jc p b (j+1));rw[e];exact zI _ _ (some s)
 rw[h2]at l;exact l.tight kI _ fun kl d=>rI (f.part b (j+1)).sureR kl d
theorem Dr{w:World}{base g bs u:Nat}{v:Value}{p:DP}(h:Dk w base g bs u v p){q:Nat→Prop}(A:Option Addr)(n c:Nat)(d:List Bool)(O:Rd q w 1 A n (pS d))(hn:n≤maxLen)(Z:∀k,q k→k≠bs):
    Calls prog 25 #[.pointer (some ⟨g,0,none⟩),.slice A n c] w fun e w'=>e=.returned (.tuple #[])∧Dk w' base g bs u (.slice none 0 0) (p.cut d)∧Fr (fun k=>k=g∨k=bs∨k=u) w w':=by
 have H:=Ld h;have HR:=Ld O;have HQ:=Ld Z;have G:d.length=n:=by have:=O.1;rw[pT]at this;omega
 have L:=Ld G;unfold maxLen at hn;obtain⟨U,V,rfl,b8,b1,-,-⟩:=gx h.own;have HO:=Ld (Rd.own h.own rfl);have B:Hid (p.order.length≤16384):=Ld (by have:=h.ok.len;have:=h.ok.s2;omega);have N:w.cell? ⟨g,3,none⟩=some (.slice U p.order.length V):=h.blk.cell 3;have hl:=B.out;clear h O Z G
 go_enter func25,ntmps25
 go_wp2_with fail
 go_loopw [13] (fun i wr=>∃(j:Nat),j≤p.order.length∧i=.int .i64 j∧Hid (Dk wr base g bs u (.slice U p.order.length V) (p.part d j))∧Hid (Fr (fun k=>k=bs) w wr)) (fun i _=>p.order.length-(intOf i).toNat)
 case atStart=>exact⟨0,Nat.zero_le _,rfl,Ld H.out,Ld (Fr.refl _ _)⟩
 case round=>
  obtain⟨j,hj,rfl,o,t⟩:=hrel
  by_cases r:j<p.order.length
  ·as_aux_lemma=>
   obtain⟨gA,oA,rfl,-,b3,X⟩:=DQ (HO.out.fr t.out (fun k hk e=>H.out.vs k hk e)) r
   by_cases R:j<n
   ·obtain⟨gK,oK,rfl,-,-,Y⟩:=Ce (HR.out.fr t.out HQ.out) R
    cases m:d.getD j false with
    |false=>
     rw[m]at Y;have y:=Ld m;clear m N
     go_wp2_with fail
     go_roundw
     case rel=>exact⟨j+1,by omega,by go_num,Ld (by rw[qx y.out];exact o.out),t⟩
     case measure=>simp[intOf];omega
    |true=>
     rw[m]at Y;have y:=Ld m;have P:p.order.getD j 0∈p.order:=by rw[List.getD_eq_getElem?_getD,List.getElem?_eq_getElem r];exact List.getElem_mem _
     have hr:=H.out.ok.inOrd P
     obtain⟨s,T⟩:∃s,p.fresh (p.order.getD j 0)=some s:=by
      cases hf:p.fresh (p.order.getD j 0)with
      |some s=>exact⟨s,rfl⟩
      |none=>exact absurd hf ((H.out.ok.ord _).1 P)
     have f:=DD hr.1 (by have:=H.out.ok.s2;omega);have HS:=Ld T;have HK:=Ld f;have b0:wr.cell? ⟨gA,oA+j,none⟩=some (.int .i64 (p.order.getD j 0)):=X
     have b7:(Instr.lookup 118 (.map (some u)) (.int .i64 (p.order.getD j 0)) false).run prog wr.drew=.ok (.agg (af s)) wr.drew:=by
      have:=((o.out.mw.fr (S:=ia) ((Fr.refl _ wr).drew) (fun x=>x)).look kI underlying118 (yJ _) f).2;rw[this];simp only[DP.part,mf,T,Option.map_some,Option.getD_some]
     have E:aH wr.drew prog 3 bs p.size (mf (jc p d j)):=o.out.ms.fr (S:=ia) ((Fr.refl _ wr).drew) (fun x=>x);obtain⟨w5,b',F,D⟩:=E.store kI underlying118 (by have:=H.out.ok.s2;unfold maxLen;omega) f (.agg (af s));have M:=Ld F;have z:=Ld D;have d1:wr.cell? ⟨g,1,none⟩=some (.map (some bs)):=o.out.blk.cell 1;have d2:wr.cell? ⟨g,2,none⟩=some (.map (some u)):=o.out.blk.cell 2;clear m N P hr T f X E F D;generalize hx:p.order.getD j 0=x at*;have HX:=Ld hx;clear hx
     go_wp2_with fail
     go_region
     go_wp2_with fail
     go_roundw
     case rel=>
      refine⟨j+1,by omega,by go_num,Ld ?_,Ld (t.out.trans z.out.ofDrew)⟩;subst x;exact ya o.out r y.out HS.out M.out z.out.ofDrew H.out.ok
     case measure=>simp[intOf];omega
   ·have m:d.getD j false=false:=by
     have:=L.out;rw[List.getD_eq_getElem?_getD,List.getElem?_eq_none (by omega)];rfl
    have y:=Ld m;clear m N
    go_wp2_with fail
    go_roundw
    case rel=>exact⟨j+1,by omega,by go_num,Ld (by rw[qx y.out];exact o.out),t⟩
    case measure=>simp[intOf];omega
  ·obtain rfl:j=p.order.length:=by omega
   go_wp2_with fail
   refine(qh o.out).mono ?_;rintro e w2 ⟨rfl,l,C⟩;have f4:=l.blk.frozen 4;have f5:=l.blk.frozen 5;have e4:=l.blk.cell 4;have e5:=l.blk.cell 5;have I:=Ld l;have J:=Ld C;clear l C
   go_wp2_with fail
   go_end0
   have hz:=(I.out.setFuse (-1) (by omega)).setDown false;refine⟨rfl,hz,?_⟩;refine(((t.out.mono fun b _ m=>.inr (.inl m)).trans (J.out.mono fun b _ m=>m.imp id .inr)).setCell (p:=⟨g,4,none⟩) (fun _=>.inl rfl) _).setCell (p:=⟨g,5,none⟩) (fun _=>.inl rfl) _
def dG(n:Int):Value:=if n=0 then .nilIface else .iface 38 (.int .i64 n)
theorem bY:dG 0=.nilIface:=rfl
theorem bC{n:Int}(h:n≠0):dG n=.iface 38 (.int .i64 n):=if_neg h
theorem oy (n:Int) (w:World):Calls prog 34 #[dG n] w fun e w'=>e= .returned (.int .i64 n)∧w=w':=by
 by_cases h:n=0
 ·subst h;exact rO w
 ·rw[bC h];exact tv n w (by simp[h])
def DP.within(p:DP)(a:Int):Bool:=decide (0≤a∧a<p.size)
def DP.wcode(p:DP)(a:Int):Int:=if p.within a=true then(if p.fuse=0∨p.down=true then 14 else 0)else 1
def DP.doWrite(p:DP)(a:Int)(s:List Int):DP:=if p.within a=true then(if p.fuse=0∨p.down=true then p.fall else p.write a s)else p
def DP.scode(p:DP):Int:=if p.down=true then 14 else 0
def DP.doSync(p:DP):DP:=if p.down=true then p else p.sync
def DP.rcode(p:DP)(a:Int):Int:=if p.within a=true then 0 else 1
def DP.rget(p:DP)(a:Int):List Int:=if p.within a=true then p.get a else aw
theorem DP.doWrite_size(p:DP)(a:Int)(s:List Int):(p.doWrite a s).size=p.size:=by
 unfold DP.doWrite;split
 ·split<;>rfl
 ·rfl
theorem DP.doSync_size(p:DP):p.doSync.size=p.size:=by unfold DP.doSync;split<;>rfl
theorem iY{w:World}{base g bs i:Nat}{v:Value}{p:DP}(h:Dk w base g bs i v p)(a:Int){s:List Int}(m:aJ s):
    Calls prog 31 #[.pointer (some ⟨g,0,none⟩),.int .i64 a,.agg (af s)] w fun e w'=>e=.returned (dG (p.wcode a))∧∃f,Dk w' base g bs i f (p.doWrite a s)∧Fr (bJ g bs i v) w w'∧∀k,f.ownBlock=some k→base≤k∧(v.ownBlock=some k∨w.heap.size≤k):=by
 unfold DP.wcode DP.doWrite DP.within
 by_cases d:0≤a∧a<p.size
 ·rw[decide_eq_true d]
  by_cases hd:p.fuse=0∨p.down=true
  ·simp only[if_true,if_pos hd];refine(vK h s d.1 d.2 hd).mono ?_;rintro e w' ⟨rfl,h1,h2⟩;exact⟨rfl,v,h1,h2.mono fun b _ l=>.inl l,fun k c=>⟨(ak h1.own k c).1,.inl c⟩⟩
  ·simp only[if_true,if_neg hd]
   have h0:p.down=false:=by
    cases hq:p.down with
    |true=>exact absurd (.inr hq) hd
    |false=>rfl
   refine(AW h d.1 d.2 m h0 (fun e=>hd (.inl e))).mono ?_;rintro e w' ⟨rfl,f,h1,h2,j⟩;exact⟨rfl,f,h1,h2,fun k c=>⟨(ak h1.own k c).1,j k c⟩⟩
 ·rw[decide_eq_false d];simp only[Bool.false_eq_true,if_false];refine(yI h s d).mono ?_;rintro e w' ⟨rfl,h1⟩;exact⟨rfl,v,h.new h1,h1.toFr _,fun k c=>⟨(ak h.own k c).1,.inl c⟩⟩
theorem jV{w:World}{base g bs d:Nat}{v:Value}{p:DP}(h:Dk w base g bs d v p):
    Calls prog 57 #[.pointer (some ⟨g,0,none⟩)] w fun e w'=>e=.returned (dG p.scode)∧∃f,Dk w' base g bs d f p.doSync∧Fr (bJ g bs d v) w w'∧∀k,f.ownBlock=some k→base≤k∧(v.ownBlock=some k∨w.heap.size≤k):=by
 unfold DP.scode DP.doSync
 by_cases hd:p.down=true
 ·simp only[if_pos hd];refine(yz h hd).mono ?_;rintro e w' ⟨rfl,rfl⟩;exact⟨rfl,v,h,Fr.refl _ _,fun k c=>⟨(ak h.own k c).1,.inl c⟩⟩
 ·simp only [if_neg hd];refine (CA h (by simpa using hd)).mono ?_;rintro e w' ⟨rfl,h1,h2⟩;refine ⟨rfl,_,h1,h2.mono fun b _ i=> ?_,fun k c=>by cases c⟩;rcases i with rfl | rfl | rfl
  ·exact .inl rfl
  ·exact .inr (.inl rfl)
  ·exact .inr (.inr (.inl rfl))
theorem jP{w:World}{base g bs c:Nat}{v:Value}{p:DP}(h:Dk w base g bs c v p)(a:Int):
    Calls prog 91 #[.pointer (some ⟨g,0,none⟩),.int .i64 a] w fun e w'=>e=.returned (.tuple #[.agg (af (p.rget a)),dG (p.rcode a)])∧aa w w':=by
 unfold DP.rcode DP.rget DP.within
 by_cases b:0≤a∧a<p.size
 ·rw[decide_eq_true b];exact Cg h b.1 b.2
 ·rw[decide_eq_false b];exact An h b
theorem DP.Ok.rget{p:DP}(h:p.Ok)(a:Int):aJ (p.rget a):=by
 unfold DP.rget;split
 ·exact h.get a
 ·exact aX
end Go.Proofs.YtfchcdbfalgdlaaGreatDoor
namespace Go.Proofs.YtfchcdbfalgdlaaGreatDoor
open _root_.Go.Proofs.Tryz
open Go.RowKit
def sh(n:Int):Int:=if 1≤n∧n≤65536 then(n+74)/55 else 0
theorem wW(n:Int):0≤sh n∧sh n≤1193:=by
 unfold sh;split<;>omega
theorem oX{n:Int}(h:¬(1≤n∧n≤65536)):sh n=0:=if_neg h
theorem si{n:Int}(h1:1≤n)(h2:n≤65536):sh n=(n+74)/55:=if_pos ⟨h1,h2⟩
theorem qC{a b:Int}(h:a=b):Ending.returned (.int .i64 a)=Ending.returned (.int .i64 b):=by rw[h]
theorem iu (n:Int) (w:World):Calls prog 54 #[.int .i64 n] w fun e w'=>e= .returned (.int .i64 (sh n))∧w=w':=by
 by_cases h1:n<1
 ·have b:=Ld (oX (n:=n) (by omega))
  go_enter func54,ntmps54
  go_wp2_with fail
  go_ret;exact⟨qC (a:=0) b.out.symm,rfl⟩
 ·by_cases h2:65536<n
  ·have b:=Ld (oX (n:=n) (by omega))
   go_enter func54,ntmps54
   go_wp2_with fail
   go_ret;exact⟨qC (a:=0) b.out.symm,rfl⟩
  ·have b:=Ld (si (n:=n) (by omega) (by omega));have c:1≤n:=by omega
   have d:n≤65536:=by omega
   go_enter func54,ntmps54
   go_wp2_with fail
   go_ret;exact⟨qC (by rw[b.out];omega),rfl⟩
theorem fy (n:Int) (w:World):Calls prog 86 #[.int .i64 n] w fun e w'=>e= .returned (.int .i64 (sh n))∧w=w':=by
 by_cases h1:n<1
 ·have b:=Ld (oX (n:=n) (by omega))
  go_enter func86,ntmps86
  go_wp2_with fail
  go_ret;exact⟨qC (a:=0) b.out.symm,rfl⟩
 ·by_cases h2:65536<n
  ·have b:=Ld (oX (n:=n) (by omega))
   go_enter func86,ntmps86
   go_wp2_with fail
   go_ret;exact⟨qC (a:=0) b.out.symm,rfl⟩
  ·have b:=Ld (si (n:=n) (by omega) (by omega));have d:1≤n:=by omega
   have f:n≤65536:=by omega
   go_enter func86,ntmps86
   go_wp2_with fail
   go_loop [3] (fun i=>∃k:Nat,55*(k:Int)<n+75∧i=.int .i64 k) (fun i=>1300-(intOf i).toNat)
   case atStart=>exact⟨0,by omega,rfl⟩
   case round=>
    obtain⟨k,g,rfl⟩:=hrel
    by_cases c:55*(k:Int)<n+20
    ·go_wp2_with fail
     go_round
     case rel=>exact⟨k+1,by omega,by go_num⟩
     case measure=>simp[intOf];omega
    ·go_wp2_with fail
     go_ret;exact⟨qC (a:=k) (by rw[b.out];omega),rfl⟩
end Go.Proofs.YtfchcdbfalgdlaaGreatDoor
