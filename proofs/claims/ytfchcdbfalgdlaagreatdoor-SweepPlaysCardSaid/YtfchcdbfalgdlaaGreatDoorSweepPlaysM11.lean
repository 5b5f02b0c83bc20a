/- Texts of one proof. No condition but each one's own. -/
import Derived.Test.YtfchcdbfalgdlaaGreatDoorSweepPlaysM1
set_option maxHeartbeats 4000000
set_option maxRecDepth 100000
set_option linter.unusedVariables false
set_option linter.unusedSimpArgs false
namespace Go.Proofs.YtfchcdbfalgdlaaGreatDoor
open _root_.Go.Proofs.Tryz
open Go.RowKit
theorem ql{p q:Nat->Prop}(A B:Option Addr)(n m c d:Nat)(xs ys:List Int)(w:World)(f:Rd p w 1 A n (an xs))(t:Rd q w 1 B m (an ys))(bx:ba xs)(F:ba ys)(hn:n<=1000000000)(hm:m<=1000000000):
    Calls prog 144 #[.slice A n c,.slice B m d] w λe w'=>e=.returned (.bool (decide (xs=ys)))/\aa w w':=by
 have s:xs.length=n:=by have:=f.1;rw[ak]at this;omega
 have v:ys.length=m:=by have:=t.1;rw[ak]at this;omega
 obtain⟨r,S⟩:=nM (decide (xs=ys));rw[<-S];have P:=Ld S;clear S
 by_cases J:n=m
 ·subst J;have T:=Ld f;have U:=Ld t;have z:=Ld s;have C:=Ld v;clear f t s v bx F
  go_enter func144,ntmps144
  go_wp2_with fail;go_loopw [13] (λi wr=>∃k N:Nat,k<=n/\i=.int .i64 k/\Hid (xs.take k=ys.take k)/\Hid (wr=w.drewN N)) (λi _=>n-(intOf i).toNat)
  case atStart=>exact⟨0,0,Nat.zero_le _,rfl,Ld rfl,Ld rfl⟩
  case round=>
   obtain⟨k,N,hk,rfl,M,b⟩:=hrel
   by_cases I:k<n
   ·obtain ⟨g,o,rfl,-,-,G⟩:=T.out.out (by omega) (by omega);obtain ⟨g2,o2,rfl,-,-,H⟩:=U.out.out (by omega) (by omega);have l:k<xs.length:=by rw [z.out];exact I
    have u:k<ys.length:=by rw[C.out];exact I
    have Y:∀j,(wr.drewN j).cell? ⟨g,o+k,none⟩=some (.int .u8 xs[k]):=λj=>by
     rw[b.out];exact G k _ (by unfold an;rw[List.getElem?_map,List.getElem?_eq_getElem l];rfl)
    have c2:∀j,(wr.drewN j).cell? ⟨g2,o2+k,none⟩=some (.int .u8 ys[k]):=λj=>by
     rw[b.out];exact H k _ (by unfold an;rw[List.getElem?_map,List.getElem?_eq_getElem u];rfl)
    have V:(k:Int)<(n:Int):=by omega
    have Z:(0:Int)<=(k:Int):=by omega
    obtain⟨x,f⟩:=nM (xs[k]);obtain⟨y,t⟩:=nM (ys[k]);rw[<-f]at Y;rw[<-t]at c2
    have L:Hid (xs.take (k+1)=xs.take k++[x]/\ys.take (k+1)=ys.take k++[y]/\xs[k]?=some x/\ys[k]?=some y):=
     Ld ⟨by rw[List.take_succ_eq_append_getElem l,f],by rw[List.take_succ_eq_append_getElem u,t],by rw[List.getElem?_eq_getElem l,f],by rw[List.getElem?_eq_getElem u,t]⟩
    clear G H f t l u T U z C
    by_cases D:x=y
    ·have R:(x != y)=false:=by simp [D]
     have O:Hid (xs.take (k+1)=ys.take (k+1)):=Ld (by rw[L.out.1,L.out.2.1,M.out,D]);clear D M
     go_wp2_with fail;go_quiet (fail)
     go_wp2_with fail;go_roundw
     case rel=>exact⟨k+1,_,by omega,by go_num,O,Ld (by rw[b.out,World.drewN_drewN])⟩
     case measure=>simp[intOf];omega
    ·have R:(x != y)=true:=by simp [D]
     have E:Hid (decide (xs=ys)=false):=Ld (decide_eq_false (λe=>D (by
      have h1:=L.out.2.2.1;rw[e,L.out.2.2.2]at h1;injection h1 with h1
      exact h1.symm)))
     clear D
     go_wp2_with fail;go_quiet (fail)
     go_wp2_with fail;go_ret;exact⟨by rw[P.out,E.out];rfl,by rw[b.out];exact((aa.refl w).dn _).dn _⟩
   ·have E:Hid (decide (xs=ys)=true):=Ld (decide_eq_true (by
     have h:=M.out
     rwa[List.take_of_length_le (by rw[z.out];omega),List.take_of_length_le (by rw[C.out];omega)]at h))
    go_wp2_with fail;go_ret;exact⟨by rw[P.out,E.out];rfl,by rw[b.out];exact(aa.refl w).dn _⟩
 ·have E:Hid (decide (xs=ys)=false):=Ld (decide_eq_false (λe=>J (by rw [<-s,<-v,e])));have X:¬((n:Int)=(m:Int)):=by omega
  clear f t s v bx F
  go_enter func144,ntmps144
  go_wp2_with fail;go_ret;exact⟨by rw[P.out,E.out];rfl,aa.refl w⟩
end Go.Proofs.YtfchcdbfalgdlaaGreatDoor
