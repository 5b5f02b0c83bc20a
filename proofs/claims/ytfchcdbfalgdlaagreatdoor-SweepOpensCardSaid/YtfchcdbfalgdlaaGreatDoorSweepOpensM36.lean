/- Texts of one proof. No condition but each one's own. -/
import Derived.Test.YtfchcdbfalgdlaaGreatDoorSweepOpensM20
set_option maxHeartbeats 4000000
set_option maxRecDepth 100000
set_option linter.unusedVariables false
set_option linter.unusedSimpArgs false
namespace Go.Proofs.YtfchcdbfalgdlaaGreatDoor
open _root_.Go.Proofs.Tryz
open Go.RowKit Go.Sort
theorem wl{p q:Nat→Prop}{w:World}{c:Ch}(h:c.In p w)(b:∀k,p k→q k):c.In q w:=⟨⟨h.k.rd.imp b,h.k.byt⟩,⟨h.v.rd.imp b,h.v.byt⟩⟩
def Tq(B:Nat)(t:TypeId)(w:World)(k:Nat):Prop:=k<B∨aO t w k
theorem Tq.fr{B k:Nat}{t:TypeId}{S:Nat→Prop}{w w':World}(h:Tq B t w k)(hF:Fr S w w')(b:¬S k):Tq B t w' k:=h.imp id (fun x=>x.fr hF b)
structure pB(B:Nat)(w:World)(A:Option Addr)(n:Nat)(L:List Ch):Prop where
 rd:Rd (Tq B 153 w) w 3 A n (L.flatMap Ch.cells)
 len:L.length=n
 el:∀c∈L,c.In (Tq B 5 w) w
structure Db(p:Nat→Prop)(w:World)(A:Option Addr)(n:Nat)(L:List Ch):Prop where
 rd:Rd (aO 153 w) w 3 A n (L.flatMap Ch.cells)
 len:L.length=n
 el:∀c∈L,c.In p w
section
variable {B:Nat}{p S:Nat→Prop}{w w':World}{A:Option Addr}{n:Nat}{L:List Ch}
theorem pB.fr(h:pB B w A n L)(hF:Fr S w w')(hS:∀k,S k→B≤k∧¬aO 153 w k∧¬aO 5 w k):pB B w' A n L:=by
 have z:∀k,Tq B 153 w k→¬S k:=fun k b d=>by
  rcases b with b|b
  ·have:=(hS k d).1;omega
  ·exact(hS k d).2.1 b
 have q:∀k,Tq B 5 w k→¬S k:=fun k b d=>by
  rcases b with b|b
  ·have:=(hS k d).1;omega
  ·exact(hS k d).2.2 b
 have m:∀t,∀(s n:Nat) (A:Option Addr) (xs:List Value),(∀k,Tq B t w k→¬S k)→Rd (Tq B t w) w s A n xs→Rd (Tq B t w') w' s A n xs:=fun t s n A xs b l=>⟨l.1,fun o=>by
  obtain⟨r,e,h1,h2,C⟩:=l.2 o;obtain⟨u,f,y,i,j⟩:=(l.fr hF b).2 o;rw[e]at f;injection f with f;subst f
  exact⟨r,e,h1.fr hF (b _ h1),i,j⟩⟩
 exact⟨m _ _ _ _ _ z h.rd,h.len,fun c g=>⟨⟨m _ _ _ _ _ q (h.el c g).k.rd,(h.el c g).k.byt⟩,⟨m _ _ _ _ _ q (h.el c g).v.rd,(h.el c g).v.byt⟩⟩⟩
theorem pB.new(h:pB B w A n L)(b:aa w w'):pB B w' A n L:=h.fr (b.toFr ia) (fun _ x=>x.elim)
theorem pB.tb(h:pB B w A n L):px w A n L:=⟨dw h.rd,h.len,fun c b=>Ch.In.szs (h.el c b)⟩
theorem pB.nil(B:Nat)(w:World):pB B w none 0 []:=⟨Rd.nil,rfl,fun c h=>by cases h⟩
theorem Db.new(h:Db p w A n L)(b:aa w w'):Db p w' A n L:=⟨(b.rd h.rd).imp (fun k f=>f.fr (b.toFr ia) (fun x=>x.elim)),h.len,fun c d=>(h.el c d).new b⟩
theorem Db.ty(h:Db p w A n L)(f:∀k,p k→Tq B 5 w k):pB B w A n L:=⟨h.rd.imp (fun k d=>.inr d),h.len,fun c b=>wl (h.el c b) f⟩
end
theorem yf(A:Option Addr)(n c:Nat)(L:List Ch)(y:Ch)(w:World){D:Nat}(h:pB D w A n L)(o:n≤100000000)(l:y.In (Tq D 5 w) w):
    Calls prog 129 #[.slice A n c,.agg y.cells.toArray] w fun e w'=>(∃b f g,e=.returned (.slice b f g)∧pB D w' b f (jh fO y L))∧aa w w':=by
 refine(uS A n c L y w h.tb.rd h.len o h.tb.el l).mono ?_;rintro e w' ⟨⟨b,f,g,rfl,-,hO⟩,d⟩;have m:∀k,Tq D 5 w k→Tq D 5 w' k:=fun k i=>i.fr (d.toFr ia) (fun x=>x.elim)
 refine⟨⟨b,f,g,rfl,(Rd.own hO rfl).imp (fun k i=>.inr (cJ hO i)),?_,fun x j=>?_⟩,d⟩
 ·have:=hO.1;rw[mt]at this;omega
 ·rcases tG fO y L x j with j | rfl
  ·exact wl ((h.el x j).new d) m
  ·exact wl (l.new d) m
theorem DT{D:Nat}(A:Option Addr)(n c:Nat)(L:List Ch)(B:Option Addr)(m d:Nat)(C:List Ch)(w:World)(h:pB D w A n L)(T:pB D w B m C)(hn:n+m≤1000000):
    Calls prog 79 #[.slice A n c,.slice B m d] w fun e w'=>(∃q l y,e=.returned (.slice q l y)∧pB D w' q l (AZ L C))∧aa w w':=by
 have H:=Ld h;have G:=Ld T;clear h T
 go_enter func79,ntmps79
 go_wp2_with fail
 go_loopw [0,5] (fun s i wr=>∃(j l:Nat) (q:Option Addr) (y:Nat),j≤m∧i=.int .i64 j∧s=.slice q l y∧Hid (pB D wr q l (AZ L (C.take j)))∧Hid (aa w wr)) (fun s i _=>m-(intOf i).toNat)
 case atStart=>exact⟨0,n,A,c,Nat.zero_le _,rfl,rfl,H,Ld (aa.refl w)⟩
 case round=>
  obtain⟨j,l,q,y,hj,rfl,rfl,O,z⟩:=hrel
  by_cases R:j<m
  ·as_aux_lemma=>
   obtain⟨g,o,hl,rfl,-,-,b⟩:=iD (f:=Ch.cells) (L:=C) (fun _=>rfl) (by omega) (z.out.rd G.out.rd) R;have X:wr.cell? ⟨g,o+j*3,none⟩=some (.slice C[j].k.A C[j].k.n C[j].k.c):=b 0 _ rfl;have Y:wr.cell? ⟨g,o+j*3+1,none⟩=some (.slice C[j].v.A C[j].v.n C[j].v.c):=b 1 _ rfl;have c2:wr.cell? ⟨g,o+j*3+2,none⟩=some (.bool C[j].d):=b 2 _ rfl;have t:=wl ((G.out.el C[j] (List.getElem_mem _)).new z.out) (fun k hk=>Tq.fr (w':=wr) hk (z.out.toFr ia) (fun x=>x.elim));have u:=Ak (L:=L) hl
   have b1:l≤1000000:=by
    have h1:=O.out.len;have h2:=wQ L (C.take j);have h3:=H.out.len;have h4:=G.out.len;rw[List.length_take]at h2;omega
   generalize C[j]=x at X Y c2 t u;have J:=Ld t;have N:=Ld u;have F:(.agg x.cells.toArray:Value)=.agg #[.slice x.k.A x.k.n x.k.c,.slice x.v.A x.v.n x.v.c,.bool x.d]:=rfl;have I:=Ld F;have b':(0:Int)≤(j:Int):=by omega
   have b0:(j:Int)<(m:Int):=by omega
   clear b hl u t F
   go_wp2_with fail
   rw[←I.out];refine(yf q l y _ x wr O.out (by omega) J.out).mono ?_;rintro e w3 ⟨⟨V,n3,Z,rfl,r⟩,E⟩;rw[←N.out]at r;have P:=Ld r;have M:=Ld (z.out.tr E);clear r E
   go_wp2_with fail
   go_roundw
   case rel=>exact⟨j+1,n3,V,Z,by omega,by go_num,rfl,P,M⟩
   case measure=>simp[intOf];omega
  ·as_aux_lemma=>
   obtain rfl:j=m:=by omega
   go_wp2_with fail
   go_ret;have ht:C.take j=C:=by rw[←G.out.len,List.take_length]
   have U:=O.out;rw[ht]at U;exact⟨⟨q,l,y,rfl,U⟩,z.out⟩
end Go.Proofs.YtfchcdbfalgdlaaGreatDoor
