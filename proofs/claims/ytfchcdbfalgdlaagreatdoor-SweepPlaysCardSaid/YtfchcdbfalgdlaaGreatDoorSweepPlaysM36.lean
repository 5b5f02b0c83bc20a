/- Texts of one proof. No condition but each one's own. -/
import Derived.Test.YtfchcdbfalgdlaaGreatDoorSweepPlaysM20
set_option maxHeartbeats 4000000
set_option maxRecDepth 100000
set_option linter.unusedVariables false
set_option linter.unusedSimpArgs false
namespace Go.Proofs.YtfchcdbfalgdlaaGreatDoor
open _root_.Go.Proofs.Tryz
open Go.RowKit Go.Sort
theorem uD{p q:Nat->Prop}{w:World}{c:Ch}(h:c.In p w)(b:∀k,p k->q k):c.In q w:=⟨⟨h.k.rd.imp b,h.k.byt⟩,⟨h.v.rd.imp b,h.v.byt⟩⟩
def Tq(B:Nat)(t:TypeId)(w:World)(k:Nat):Prop:=k<B\/aK t w k
theorem Tq.fr{B k:Nat}{t:TypeId}{S:Nat->Prop}{w w':World}(h:Tq B t w k)(hF:Fr S w w')(b:¬S k):Tq B t w' k:=h.imp id (λx=>x.fr hF b)
structure jx(B:Nat)(w:World)(A:Option Addr)(n:Nat)(L:List Ch):Prop where
 rd:Rd (Tq B 153 w) w 3 A n (L.flatMap Ch.cells)
 len:L.length=n
 el:∀c∈L,c.In (Tq B 5 w) w
structure EW(p:Nat->Prop)(w:World)(A:Option Addr)(n:Nat)(L:List Ch):Prop where
 rd:Rd (aK 153 w) w 3 A n (L.flatMap Ch.cells)
 len:L.length=n
 el:∀c∈L,c.In p w
section
variable {B:Nat}{p S:Nat->Prop}{w w':World}{A:Option Addr}{n:Nat}{L:List Ch}
theorem jx.fr(h:jx B w A n L)(hF:Fr S w w')(hS:∀k,S k->B<=k/\¬aK 153 w k/\¬aK 5 w k):jx B w' A n L:=by
 have z:∀k,Tq B 153 w k->¬S k:=λk b d=>by
  rcases b with b|b
  ·have:=(hS k d).1;omega
  ·exact(hS k d).2.1 b
 have q:∀k,Tq B 5 w k->¬S k:=λk b d=>by
  rcases b with b|b
  ·have:=(hS k d).1;omega
  ·exact(hS k d).2.2 b
 have m:∀t,∀(s n:Nat) (A:Option Addr) (xs:List Value),(∀k,Tq B t w k->¬S k)->Rd (Tq B t w) w s A n xs->Rd (Tq B t w') w' s A n xs:=λt s n A xs b l=>⟨l.1,λo=>by
  obtain⟨r,e,h1,h2,C⟩:=l.2 o;obtain⟨u,f,y,i,j⟩:=(l.fr hF b).2 o;rw[e]at f;injection f with f;subst f
  exact⟨r,e,h1.fr hF (b _ h1),i,j⟩⟩
 exact⟨m _ _ _ _ _ z h.rd,h.len,λc g=>⟨⟨m _ _ _ _ _ q (h.el c g).k.rd,(h.el c g).k.byt⟩,⟨m _ _ _ _ _ q (h.el c g).v.rd,(h.el c g).v.byt⟩⟩⟩
theorem jx.new(h:jx B w A n L)(b:aa w w'):jx B w' A n L:=h.fr (b.toFr ic) (λ_ x=>x.elim)
theorem jx.tb(h:jx B w A n L):ou w A n L:=⟨dS h.rd,h.len,λc b=>Ch.In.szs (h.el c b)⟩
theorem jx.nil(B:Nat)(w:World):jx B w none 0 []:=⟨Rd.nil,rfl,λc h=>by cases h⟩
theorem EW.new(h:EW p w A n L)(b:aa w w'):EW p w' A n L:=⟨(b.rd h.rd).imp (λk f=>f.fr (b.toFr ic) (λx=>x.elim)),h.len,λc d=>(h.el c d).new b⟩
theorem EW.ty(h:EW p w A n L)(f:∀k,p k->Tq B 5 w k):jx B w A n L:=⟨h.rd.imp (λk d=>.inr d),h.len,λc b=>uD (h.el c b) f⟩
end
theorem zV(A:Option Addr)(n c:Nat)(L:List Ch)(y:Ch)(w:World){D:Nat}(h:jx D w A n L)(o:n<=100000000)(l:y.In (Tq D 5 w) w):
    Calls prog 129 #[.slice A n c,.agg y.cells.toArray] w λe w'=>(∃b f g,e=.returned (.slice b f g)/\jx D w' b f (jI gv y L))/\aa w w':=by
 refine(wU A n c L y w h.tb.rd h.len o h.tb.el l).mono ?_;rintro e w' ⟨⟨b,f,g,rfl,-,hO⟩,d⟩;have m:∀k,Tq D 5 w k->Tq D 5 w' k:=λk i=>i.fr (d.toFr ic) (λx=>x.elim)
 refine⟨⟨b,f,g,rfl,(Rd.own hO rfl).imp (λk i=>.inr (cY hO i)),?_,λx j=>?_⟩,d⟩
 ·have:=hO.1;rw[ng]at this;omega
 ·rcases uU gv y L x j with j | rfl
  ·exact uD ((h.el x j).new d) m
  ·exact uD (l.new d) m
theorem Ci{D:Nat}(A:Option Addr)(n c:Nat)(L:List Ch)(B:Option Addr)(m d:Nat)(C:List Ch)(w:World)(h:jx D w A n L)(T:jx D w B m C)(hn:n+m<=1000000):
    Calls prog 79 #[.slice A n c,.slice B m d] w λe w'=>(∃q l y,e=.returned (.slice q l y)/\jx D w' q l (vO L C))/\aa w w':=by
 have H:=Ld h;have G:=Ld T;clear h T
 go_enter func79,ntmps79
 go_wp2_with fail;go_loopw [0,5] (λs i wr=>∃(j l:Nat) (q:Option Addr) (y:Nat),j<=m/\i=.int .i64 j/\s=.slice q l y/\Hid (jx D wr q l (vO L (C.take j)))/\Hid (aa w wr)) (λs i _=>m-(intOf i).toNat)
 case atStart=>exact⟨0,n,A,c,Nat.zero_le _,rfl,rfl,H,Ld (aa.refl w)⟩
 case round=>
  obtain⟨j,l,q,y,hj,rfl,rfl,O,z⟩:=hrel
  by_cases R:j<m
  ·as_aux_lemma=>
   obtain⟨g,o,hl,rfl,-,-,b⟩:=eZ (f:=Ch.cells) (L:=C) (λ_=>rfl) (by omega) (z.out.rd G.out.rd) R;have X:wr.cell? ⟨g,o+j*3,none⟩=some (.slice C[j].k.A C[j].k.n C[j].k.c):=b 0 _ rfl;have Y:wr.cell? ⟨g,o+j*3+1,none⟩=some (.slice C[j].v.A C[j].v.n C[j].v.c):=b 1 _ rfl;have c2:wr.cell? ⟨g,o+j*3+2,none⟩=some (.bool C[j].d):=b 2 _ rfl;have t:=uD ((G.out.el C[j] (List.getElem_mem _)).new z.out) (λk hk=>Tq.fr (w':=wr) hk (z.out.toFr ic) (λx=>x.elim));have u:=Cg (L:=L) hl
   have b1:l<=1000000:=by
    have h1:=O.out.len;have h2:=yK L (C.take j);have h3:=H.out.len;have h4:=G.out.len;rw[List.length_take]at h2;omega
   generalize C[j]=x at X Y c2 t u;have J:=Ld t;have N:=Ld u;have F:(.agg x.cells.toArray:Value)=.agg #[.slice x.k.A x.k.n x.k.c,.slice x.v.A x.v.n x.v.c,.bool x.d]:=rfl;have I:=Ld F;have b':(0:Int)<=(j:Int):=by omega
   have b0:(j:Int)<(m:Int):=by omega
   clear b hl u t F
   go_wp2_with fail;rw[<-I.out];refine(zV q l y _ x wr O.out (by omega) J.out).mono ?_;rintro e w3 ⟨⟨V,n3,Z,rfl,r⟩,E⟩;rw[<-N.out]at r;have P:=Ld r;have M:=Ld (z.out.tr E);clear r E
   go_wp2_with fail;go_roundw
   case rel=>exact⟨j+1,n3,V,Z,by omega,by go_num,rfl,P,M⟩
   case measure=>simp[intOf];omega
  ·as_aux_lemma=>
   obtain rfl:j=m:=by omega
   go_wp2_with fail;go_ret;have ht:C.take j=C:=by rw[<-G.out.len,List.take_length]
   have U:=O.out;rw[ht]at U;exact⟨⟨q,l,y,rfl,U⟩,z.out⟩
end Go.Proofs.YtfchcdbfalgdlaaGreatDoor
