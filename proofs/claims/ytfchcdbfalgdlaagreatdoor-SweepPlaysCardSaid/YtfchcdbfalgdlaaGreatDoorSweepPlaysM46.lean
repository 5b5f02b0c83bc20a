/- Texts of one proof. No condition but each one's own. -/
import Derived.Test.YtfchcdbfalgdlaaGreatDoorSweepPlaysM44
import Derived.Test.YtfchcdbfalgdlaaGreatDoorSweepPlaysM21
import Derived.Test.YtfchcdbfalgdlaaGreatDoorSweepPlaysM25
set_option maxHeartbeats 4000000
set_option maxRecDepth 100000
set_option linter.unusedVariables false
set_option linter.unusedSimpArgs false
namespace Go.Proofs.YtfchcdbfalgdlaaGreatDoor
open _root_.Go.Proofs.Tryz
open Go.RowKit Go.Maps Go.WideShapes Go.ChangeShapes
structure AW where
 kind:Int
 num:Int
 b:Sl
 bits:Int
 A2:Option Addr
 n2:Nat
 c2:Nat
 keep:List Bool
def AW.cells(a:AW):List Value:=[.int .i64 a.kind,.int .i64 a.num,.slice a.b.A a.b.n a.b.c,.int .u64 a.bits,.slice a.A2 a.n2 a.c2]
structure AW.Good(w:World)(a:AW):Prop where
 kind:(Lit.int .i64 a.kind).wf=true
 num:(Lit.int .i64 a.num).wf=true
 b:a.b.Good w
 bits:(Lit.int .u64 a.bits).wf=true
 n2:a.n2<=maxLen
 rd2:Rd (λb=>b<w.heap.size) w 1 a.A2 a.n2 (jV a.keep)
section
variable {H:Type}{enc:TypeId×Value->H}{w:World}
theorem Ew{m:Nat}{cs:List Value}{y:DataW H×List MemPlace}(hl:cs.length=5)(ht:DataW.trod enc prog w 0 (λ_=>true) true m 56 cs=some y)(hz:Sz prog 56 y.1):
    ∃a:AW,a.cells=cs/\a.Good w:=by
 match cs,hl with
 | [B,C,c2,D,E],_=>
  obtain⟨_,_,t0,_⟩:=iJ (j:=0) underlying56 ht hz rfl (by kernel_rfl) (by simp);obtain⟨_,_,t1,_⟩:=iJ (j:=1) underlying56 ht hz rfl (by kernel_rfl) (by simp);obtain⟨_,_,t2,v⟩:=iJ (j:=2) underlying56 ht hz rfl (by kernel_rfl) (by simp);obtain⟨_,_,t3,_⟩:=iJ (j:=3) underlying56 ht hz rfl (by kernel_rfl) (by simp);obtain⟨_,_,t4,z⟩:=iJ (j:=4) underlying56 ht hz rfl (by kernel_rfl) (by simp);obtain⟨q,g,_,g0⟩:=DataW.trod_int underlying3 t0;obtain⟨a1,i,_,g1⟩:=DataW.trod_int underlying3 t1;obtain⟨A,n,c,L,k,h1,h2,t,p⟩:=BP t2 v;obtain⟨r,l,_,s⟩:=DataW.trod_int underlying53 t3;obtain⟨A2,n2,b,keep,o,d,f⟩:=xI t4 z;simp at g i k l o;subst g i k l o;exact⟨⟨q,a1,⟨A,n,c,L⟩,r,A2,n2,b,keep⟩,rfl,g0,g1,⟨h1,⟨t,h2,λx u=>(p x u).inn⟩,p⟩,s,d,f⟩
theorem BO{r:Reach}{g:Nat}{v:Value}{d:DataW H}{p:List MemPlace}(q:Value.okWide prog w r g 47 v)(h:DataW.Trod enc prog w 0 (λ_=>true) true 47 v d p)(hz:Sz prog 47 d):
    ∃(A:Option Addr) (n c:Nat) (L:List AW),v=.slice A n c/\n<=maxLen/\L.length=n/\Rd (λb=>b<w.heap.size) w 5 A n (L.flatMap AW.cells)/\∀a∈L,a.Good w:=by
 obtain⟨s,B,t,rfl⟩:=okWide_slice underlying47 q;obtain⟨f,o⟩:=h;obtain⟨A,n,c,L,h1,h2,u,z,i,j,l,-⟩:=mQ (k:=5) underlying47 AW.cells (by kernel_rfl) (by omega) (λa=>a.Good w) (λcs m y hl ht hz=>Ew hl ht hz) o hz;exact⟨A,n,c,L,h1,by omega,i,j,l⟩
end
def ET(n:Nat)(L:List AW)(e:Ending):Prop:=∃b,e=.returned (.bool b)/\(b=false->n<=25/\∀a∈L,a.b.n<=30)
theorem Di(A:Option Addr)(n c:Nat)(L:List AW)(w:World)(h:Rd (λb=>b<w.heap.size) w 5 A n (L.flatMap AW.cells))(hL:L.length=n)(hn:n<=maxLen)(hb:∀a∈L,a.Good w):
    Calls prog 21 #[.slice A n c] w λe w'=>ET n L e/\aa w w':=by
 have HR:=Ld h;have HL:=Ld hL;have HB:=Ld hb;unfold maxLen at hn;clear h hL hb
 go_enter func21,ntmps21
 go_wp2_with fail;go_loopw [3,5,7,10] (λs _ _ i wr=>∃(j:Nat) (t:Int),j<=n/\i=.int .i64 j/\s=.int .i64 t/\Hid (∀a∈L.take j,a.b.n<=30)/\Hid (aa w wr)) (λs _ _ i _=>n-(intOf i).toNat)
 case atStart=>exact⟨0,0,Nat.zero_le _,rfl,rfl,Ld (λa M=>by cases M),Ld (aa.refl w)⟩
 case round=>
  obtain⟨j,t,hj,rfl,rfl,HP,V⟩:=hrel
  by_cases p:j<n
  ·obtain ⟨g,o,hl,rfl,-,-,l⟩:=eZ (f:=AW.cells) (L:=L) (λ_=>rfl) (by omega) (V.out.rd HR.out) p;have P:wr.cell? ⟨g,o+j*5,none⟩=some (.int .i64 L[j].kind):=l 0 _ rfl;have R:=l 1 _ rfl;have c2:=l 2 _ rfl;have c3:=l 3 _ rfl;have c4:=l 4 _ rfl;have X:Hid (L.take (j+1)=L.take j++ [L[j]]):=Ld (List.take_succ_eq_append_getElem hl);have r:=Ld (HB.out _ (List.getElem_mem hl));generalize L[j]=a at P R c2 c3 c4 X r;obtain ⟨kd,c',⟨xA,q,xc,S⟩,bt,yA,D,yc,ys⟩:=a;dsimp only at P R c2 c3 c4;have c6:(0:Int)<=(j:Int):=by omega
   have Y:(j:Int)<(n:Int):=by omega
   have U:=Ld p;clear l hl p
   go_upto_region 5 with fail;refine fX λZ O=>?_
   obtain⟨b5,N⟩:=nm wr.heap.size;have u:Hid (ac Z b5 56 #[.int .i64 kd,.int .i64 c',.slice xA q xc,.int .u64 bt,.slice yA D yc]):=Ld (by rw[O.out,N];exact ac.new _ _ _);have E:Hid (aa w Z):=Ld (by rw[O.out];exact V.out.al _);rw[<-N];clear O N P R c2 c3 c4 V;have d2:Z.cell? ⟨b5,2,none⟩=some (.slice xA q xc):=u.out.cell 2;have d4:Z.cell? ⟨b5,4,none⟩=some (.slice yA D yc):=u.out.cell 4
   go_wp2_with fail;refine(Bz xA q xc S Z ((r.out.b.tb).new E.out) r.out.b.nn (λc hc=>⟨(r.out.b.gd c hc).kn,(r.out.b.gd c hc).vn⟩)).mono ?_;rintro e w2 ⟨⟨b,rfl,-⟩,J⟩;have B:=Ld (J.blk u.out);have v:Hid (aa w w2):=Ld (E.out.tr J);have d2:w2.cell? ⟨b5,2,none⟩=some (.slice xA q xc):=B.out.cell 2;have d4:w2.cell? ⟨b5,4,none⟩=some (.slice yA D yc):=B.out.cell 4;clear J u E
   cases b with
   |true=>
    go_wp2_with fail;go_ret;exact⟨⟨true,rfl,λh=>by cases h⟩,v.out⟩
   |false=>
    by_cases I:30<q
    ·have m:(30:Int)<(q:Int):=by omega
     have hq:decide ((30:Int)<(q:Int))=true:=decide_eq_true m;clear I
     go_wp2_with fail;go_ret;exact⟨⟨true,rfl,λh=>by cases h⟩,v.out⟩
    ·have m:¬(30:Int)<(q:Int):=by omega
     have hq:decide ((30:Int)<(q:Int))=false:=decide_eq_false m;have T:=Ld I;clear I
     by_cases C:200<D
     ·have z:(200:Int)<(D:Int):=by omega
      have hr:decide ((200:Int)<(D:Int))=true:=decide_eq_true z;clear C
      go_wp2_with fail;go_ret;exact⟨⟨true,rfl,λh=>by cases h⟩,v.out⟩
     ·have z:¬(200:Int)<(D:Int):=by omega
      have hr:decide ((200:Int)<(D:Int))=false:=decide_eq_false z;clear C
      go_wp2_with fail;clear hq m hr z
      go_loopw [3,7,32] (λs _ i wr=>∃(k:Nat) (t:Int),k<=q/\i=.int .i64 k/\s=.int .i64 t/\Hid (aa w wr)) (λs _ i _=>q-(intOf i).toNat)
      case atStart=>exact⟨0,t,Nat.zero_le _,rfl,rfl,v⟩
      case round=>
       obtain⟨k,t2,hk,rfl,rfl,F⟩:=hrel
       by_cases p:k<q
       ·obtain ⟨g2,o2,b9,rfl,-,-,l⟩:=eZ (f:=Ch.cells) (L:=S) (λ_=>rfl) (by omega) (F.out.rd r.out.b.tb.rd) p;have P:wr.cell? ⟨g2,o2+k*3,none⟩=some (.slice S[k].k.A S[k].k.n S[k].k.c):=l 0 _ rfl;have R:=l 1 _ rfl;have c2:=l 2 _ rfl;generalize S[k]=y at P R c2;obtain ⟨⟨a1,a2,a3,a4⟩,⟨b1,b2,b3,b4⟩,d⟩:=y;dsimp only at P R c2;have c7:(0:Int)<=(k:Int):=by omega
        have c8:(k:Int)<(q:Int):=by omega
        have c5:=T.out;have b0:=λ(o:Obj)=>Ld (aa.al F.out o)
        clear l b9
        go_wp2_with fail;go_roundw
        case rel=>exact⟨k+1,_,by omega,by go_num,rfl,b0 _⟩
        case measure=>simp[intOf];omega
       ·have b8:¬(k:Int)<(q:Int):=by omega
        clear p
        go_wp2_with fail;go_roundw
        case rel=>exact ⟨j+1,_,U.out,by go_num,rfl,Ld (by
         rw[X.out];intro a M;rcases List.mem_append.1 M with M|M
         ·exact HP.out a M
         ·rw[List.mem_singleton.1 M];have:=T.out;show q<=30
          omega),F⟩
        case measure=>simp[intOf];have:=U.out;omega
  ·have Y:j=n:=by omega
   subst Y;have b7:Hid (∀a∈L,a.b.n<=30):=Ld (by have:=HP.out;rwa[<-HL.out,List.take_length]at this);have b8:¬(j:Int)<(j:Int):=by omega
   clear p
   by_cases G:25<j
   ·have m:(25:Int)<(j:Int):=by omega
    have hq:decide ((25:Int)<(j:Int))=true:=decide_eq_true m;clear G
    go_wp2_with fail;go_ret;exact⟨⟨true,rfl,λh=>by cases h⟩,V.out⟩
   ·have m:¬(25:Int)<(j:Int):=by omega
    have hq:decide ((25:Int)<(j:Int))=false:=decide_eq_false m;have b':=Ld G;clear G
    go_wp2_with fail;go_ret;exact⟨⟨_,rfl,λ_=>⟨by have:=b'.out;omega,b7.out⟩⟩,V.out⟩
end Go.Proofs.YtfchcdbfalgdlaaGreatDoor
