/- Texts of one proof. No condition but each one's own. -/
import Derived.Test.YtfchcdbfalgdlaaGreatDoorSweepPlaysM1
import GoSem.Core.Float
import Derived.Laws.FloatArith
set_option maxHeartbeats 4000000
set_option maxRecDepth 100000
set_option linter.unusedVariables false
set_option linter.unusedSimpArgs false
namespace Go.Proofs.YtfchcdbfalgdlaaGreatDoor
open _root_.Go.Proofs.Tryz
open Ieee
def si(B r:Nat):Nat:=if r<B then r else(B+r%B)*2^(r/B-1)
theorem vI(B r:Nat)(b:0<B):si B r<si B (r+1):=by
 unfold si
 by_cases h1:r+1<B
 ·rw[if_pos (by omega),if_pos h1];omega
 ·by_cases h2:r<B
  ·have e:r+1=B:=by omega
   rw[if_pos h2,if_neg h1,e,Nat.mod_self,Nat.div_self b];simp;omega
  ·rw[if_neg h2,if_neg h1];have hd:1<=r/B:=(Nat.le_div_iff_mul_le b).2 (by omega);have hm:=Nat.mod_lt r b;have k:=Nat.div_add_mod r B;have g:0<2^(r/B-1):=Nat.pow_pos (by omega)
   by_cases j:r%B+1<B
   ·have c:(r+1)/B=r/B:=by
     rw[Nat.div_eq_iff b,Nat.mul_comm];omega
    have d:(r+1)%B=r%B+1:=by
     have:=Nat.div_add_mod (r+1) B;rw[c]at this;omega
    rw[c,d];exact Nat.mul_lt_mul_of_pos_right (by omega) g
   ·have f:r+1=B*(r/B+1):=by rw [Nat.mul_add];omega
    have c:(r+1)/B=r/B+1:=by rw[f,Nat.mul_div_cancel_left _ b]
    have d:(r+1)%B=0:=by rw[f,Nat.mul_mod_right]
    rw[c,d];have i:r/B+1-1=(r/B-1)+1:=by omega
    rw[i,Nat.pow_succ,Nat.add_zero]
    calc (B+r%B)*2^(r/B-1)<(B*2)*2^(r/B-1):=Nat.mul_lt_mul_of_pos_right (by omega) g
     _=B*(2^(r/B-1)*2):=by rw[Nat.mul_assoc,Nat.mul_comm 2]
theorem ua{B:Nat}(b:0<B){r s:Nat}(h:r<s):si B r<si B s:=by
 induction s with
 |zero=>omega
 |succ s c=>
  rcases Nat.lt_or_ge r s with h1|h1
  ·exact Nat.lt_trans (c h1) (vI B s b)
  ·have:r=s:=by omega
   subst this;exact vI B r b
theorem CQ{B:Nat}(b:0<B):si B 0=0:=by simp[si,b]
def jl(b:Nat):Bool:=decide (9223372036854775808<=b)
def ke(b:Nat):Nat:=b%9223372036854775808
def key(b:Nat):Int:=if jl b then-(ke b:Int)else(ke b:Int)
def jW(b:Nat):Prop:=9218868437227405312<ke b
def km(s:Bool)(n:Nat):Int:=if s then-(n:Int)else n
theorem se(s:Bool)(m u:Nat):signed s m u=km s (m*2^u):=by
 unfold signed km;rw[Nat.shiftLeft_eq]
theorem eF(x y:Int):compare x y=if x<y then .lt else if x=y then .eq else .gt:=by
 simp only[compare,compareOfLessAndEq]
theorem ur{B:Nat}(c:0<B)(s t:Bool)(r q:Nat):compare (km s (si B r)) (km t (si B q))=compare (km s r) (km t q):=by
 have z:=CQ c
 have mono:∀a b:Nat,(si B a<si B b↔a<b):=λa b=>⟨λh=>by
  rcases Nat.lt_trichotomy a b with h1|h1|h1
  ·exact h1
  ·subst h1;omega
  ·have:=ua c h1;omega,ua c⟩
 have inj:∀a b:Nat,(si B a=si B b↔a=b):=λa b=>⟨λh=>by
  rcases Nat.lt_trichotomy a b with h1|h1|h1
  ·have:=ua c h1;omega
  ·exact h1
  ·have:=ua c h1;omega,λh=>by rw[h]⟩
 have j:=mono r q;have k:=mono q r;have l:=inj r q;have g:=mono 0 r;have i:=mono 0 q;rw[z]at g i;rw[eF,eF]
 have d:(km s (si B r)<km t (si B q))↔(km s r<km t q):=by
  unfold km;cases s<;>cases t<;>simp<;>omega
 have f:(km s (si B r)=km t (si B q))↔(km s (r:Nat)=km t q):=by
  unfold km;cases s<;>cases t<;>simp<;>omega
 simp only[d,f]
theorem lA(s t:Bool)(m n k:Nat):compare (km s (m*2^k)) (km t (n*2^k))=compare (km s m) (km t n):=by
 have b:0<2^k:=Nat.pow_pos (by omega);have a1:(m*2^k<n*2^k↔m<n):=Nat.mul_lt_mul_right b;have f:(n*2^k<m*2^k↔n<m):=Nat.mul_lt_mul_right b;have g:(m*2^k=n*2^k↔m=n):=Nat.mul_left_inj (by omega);have i:(0<m*2^k↔0<m):=by simp[b]
 have j:(0<n*2^k↔0<n):=by simp[b]
 generalize m*2^k=x at*;generalize n*2^k=y at*;rw[eF,eF]
 have c:(km s x<km t y)↔(km s m<km t n):=by
  unfold km;cases s<;>cases t<;>simp<;>omega
 have d:(km s x=km t y)↔(km s m=km t n):=by
  unfold km;cases s<;>cases t<;>simp<;>omega
 simp only[c,d]
theorem sw:double.signWeight=9223372036854775808:=by decide
theorem bn:double.binade=4503599627370496:=by decide
theorem ir:double.infRung=9218868437227405312:=by decide
theorem lp:double.leastPlace=-1074:=by decide
theorem pJ(b:Nat)(c:b<18446744073709551616):(b/9223372036854775808%2==1)=jl b:=by
 unfold jl
 by_cases h:9223372036854775808<=b
 ·have:b/9223372036854775808=1:=by omega
  rw[this];simp[h]
 ·have:b/9223372036854775808=0:=by omega
  rw[this];simp[h]
theorem pP(b:Nat)(c:b<18446744073709551616)(h:ke b<9218868437227405312):
    ∃(m a:Nat),double.read b=.number (jl b) m (-1074+(a:Int))/\m*2^a=si 4503599627370496 (ke b)/\(m=0↔ke b=0):=by
 unfold Format.read;rw[sw,bn,ir,lp,pJ b c];unfold ke at h⊢;generalize b%9223372036854775808=r at h⊢;simp only
 by_cases h1:r<4503599627370496
 ·rw[if_pos h1];exact⟨r,0,by simp,by simp[si,h1],Iff.rfl⟩
 ·rw[if_neg h1,if_pos h];exact⟨4503599627370496+r%4503599627370496,r/4503599627370496-1,rfl,by simp[si,h1],by omega⟩
theorem pQ(b:Nat)(c:b<18446744073709551616)(h:ke b=9218868437227405312):double.read b=.infinity (jl b):=by
 unfold Format.read;rw[sw,bn,ir,lp,pJ b c];unfold ke at h;simp only;rw[h];rfl
theorem uY(b:Nat)(c:b<18446744073709551616)(h:jW b):∃t,double.read b=.nan (jl b) t:=by
 unfold Format.read;rw[sw,bn,ir,lp,pJ b c];unfold jW ke at h;simp only;rw[if_neg (by omega),if_neg (by omega),if_neg (by omega)];exact⟨_,rfl⟩
theorem zK(s t:Bool)(m n a c:Nat):Datum.order (.number s m (-1074+(a:Int))) (.number t n (-1074+(c:Int)))=some (compare (km s (m*2^a)) (km t (n*2^c))):=by
 simp only[Datum.order];rw[se,se];rcases Nat.le_total a c with h|h
 ·have b:min (-1074+(a:Int)) (-1074+(c:Int))= -1074+(a:Int):=by omega
  rw[b];have d:(-1074+(a:Int)-(-1074+(a:Int))).toNat=0:=by omega
  have f:(-1074+(c:Int)-(-1074+(a:Int))).toNat=c-a:=by omega
  rw[d,f];have:=lA s t (m*2^0) (n*2^(c-a)) a;rw[<-this];have g:n*2^(c-a)*2^a=n*2^c:=by rw[Nat.mul_assoc,<-Nat.pow_add,Nat.sub_add_cancel h]
  rw[g];simp
 ·have b:min (-1074+(a:Int)) (-1074+(c:Int))= -1074+(c:Int):=by omega
  rw[b];have d:(-1074+(c:Int)-(-1074+(c:Int))).toNat=0:=by omega
  have f:(-1074+(a:Int)-(-1074+(c:Int))).toNat=a-c:=by omega
  rw[d,f];have:=lA s t (m*2^(a-c)) (n*2^0) c;rw[<-this];have g:m*2^(a-c)*2^c=m*2^a:=by rw[Nat.mul_assoc,<-Nat.pow_add,Nat.sub_add_cancel h]
  rw[g];simp
theorem yo(b:Nat):key b=km (jl b) (ke b):=by unfold key km;rfl
theorem zM{x y:Nat}(j:x<18446744073709551616)(d:y<18446744073709551616)(o:¬jW x)(p:¬jW y):double.order x y=some (compare (key x) (key y)):=by
 have f:=yo x;have g:=yo y;have q:ke x<=9218868437227405312:=by unfold jW at o;omega
 have r:ke y<=9218868437227405312:=by unfold jW at p;omega
 unfold Format.order
 by_cases i:ke x=9218868437227405312
 ·rw[pQ x j i]
  by_cases b:ke y=9218868437227405312
  ·rw[pQ y d b];rw[f,g,i,b];simp only[Datum.order]
   cases jl x<;>cases jl y<;>rfl
  ·obtain⟨m,a,e,_,_⟩:=pP y d (by omega);rw[e,f,g,i];simp only[Datum.order];rw[eF];unfold km
   cases jl x<;>cases jl y<;>simp<;>(repeat(first|rfl|omega|(split)))
 ·obtain⟨m,a,e,hm,_⟩:=pP x j (by omega)
  by_cases b:ke y=9218868437227405312
  ·rw[e,pQ y d b,f,g,b];simp only[Datum.order];rw[eF];unfold km
   cases jl x<;>cases jl y<;>simp<;>(repeat(first|rfl|omega|(split)))
  ·obtain⟨n,c,k,l,_⟩:=pP y d (by omega);rw[e,k,zK,hm,l,ur (by decide),f,g]
theorem rK{x y:Nat}(b:x<18446744073709551616)(c:y<18446744073709551616)(h:jW x\/jW y):double.order x y=none:=by
 unfold Format.order;rcases h with h|h
 ·obtain⟨t,e⟩:=uY x b h;rw[e];rfl
 ·obtain⟨t,e⟩:=uY y c h;rw[e]
  cases double.read x<;>rfl
end Go.Proofs.YtfchcdbfalgdlaaGreatDoor
namespace Go.Proofs.YtfchcdbfalgdlaaGreatDoor
open _root_.Go.Proofs.Tryz
open Go.RowKit Ieee
def iX(b:Nat):Bool:=decide (9218868437227405312<ke b)
theorem pI(b:Nat):iX b=true↔jW b:=by unfold iX jW;simp
theorem uH(b:Nat):iX b=false↔¬jW b:=by unfold iX jW;simp
theorem rY(n:Int)(w:World):(callFunc 64 #[.int .u64 n]).run prog w=.ok (.value (.float .f64 n.toNat)) w:=by kernel_rfl
theorem Ee(b:Nat)(w:World):(callFunc 137 #[.float .f64 b]).run prog w=.ok (.value (.int .u64 b)) w:=by kernel_rfl
theorem DR{x y:Nat}(b:x<18446744073709551616)(c:y<18446744073709551616)(h:iX x=true\/iX y=true):FloatKind.f64.format.order x y=none:=
 rK b c (h.imp (pI _).1 (pI _).1)
theorem FF{x y:Nat}(b:x<18446744073709551616)(c:y<18446744073709551616)(d:iX x=false)(f:iX y=false)(h:key x=key y):FloatKind.f64.format.order x y=some .eq:=by
 show double.order x y=_;rw[zM b c ((uH _).1 d) ((uH _).1 f),eF,if_neg (by omega),if_pos h]
theorem ru (x:Nat) (b:x<18446744073709551616) (w:World):Calls prog 136 #[.float .f64 x] w λe w'=>e= .returned (.bool (iX x))/\w=w':=by
 cases hn:iX x
 ·have c:=FF b b hn hn rfl
  go_enter func136,ntmps136
  go_wp2_with fail;go_ret;exact⟨rfl,rfl⟩
 ·have c:=DR b b (Or.inl hn)
  go_enter func136,ntmps136
  go_wp2_with fail;go_ret;exact⟨rfl,rfl⟩
theorem lO (b:Nat) (w:World):Calls prog 24 #[.int .u64 (b:Int)] w λe w'=>e= .returned (.float .f64 b)/\w=w':=by
 have c:=rY (b:Int);rw[Int.toNat_natCast]at c
 go_enter func24,ntmps24
 go_wp2_with fail;go_ret;exact⟨rfl,rfl⟩
def eW(x:Nat):Nat:=if iX x then 9221120237041090561 else x
theorem uq (x:Nat) (d:x<18446744073709551616) (w:World):Calls prog 85 #[.float .f64 x] w λe w'=>e= .returned (.int .u64 (eW x:Nat))/\w=w':=by
 have ht:=Ee x
 cases hn:iX x
 ·have b:eW x=x:=by unfold eW;rw [hn];rfl
  have c:=Ld b;clear b
  go_enter func85,ntmps85
  go_wp2_with fail;refine(ru x d w).mono ?_;rintro e f ⟨rfl,rfl⟩
  go_wp2_with fail;go_ret;exact⟨by rw[c.out];rfl,rfl⟩
 ·have b:eW x=9221120237041090561:=by unfold eW;rw [hn];rfl
  have c:=Ld b;clear b
  go_enter func85,ntmps85
  go_wp2_with fail;refine(ru x d w).mono ?_;rintro e f ⟨rfl,rfl⟩
  go_wp2_with fail;go_ret;exact⟨by rw[c.out];rfl,rfl⟩
theorem z64:0<18446744073709551616:=Nat.succ_pos _
theorem DL (w:World):Calls prog 51 #[] w λe w'=>e= .returned (.float .f64 9221120237041090561)/\w=w':=by
 have b:=rY 9221120237041090561
 go_enter func51,ntmps51
 go_wp2_with fail;go_ret;exact⟨rfl,rfl⟩
def kU(op:BinOp)(x y r:Nat):Prop:=r<18446744073709551616/\match floatBits op .f64 x y with|some q=>r=q|none=>iX r=true
theorem zo(t:Nat):(t%2)*9223372036854775808+9218868437227405312+1+(t/2)%4503599627370495<18446744073709551616/\iX ((t%2)*9223372036854775808+9218868437227405312+1+(t/2)%4503599627370495)=true:=by
 have h1:=Nat.mod_lt t (show 0<2 by omega);have h2:=Nat.mod_lt (t/2) (show 0<4503599627370495 by omega);generalize t%2=a at*;generalize t/2%4503599627370495=c at*;refine⟨by omega,?_⟩;unfold iX ke;refine decide_eq_true ?_;rcases (show a=0\/a=1 by omega)with rfl|rfl<;>omega
theorem yQ{P:Program}(op:BinOp)(b:op=.add\/op=.sub\/op=.mul\/op=.quo)(t:TypeId)(x y:Nat)(w:World):
    ∃r w',(binOp op t (.float .f64 x) (.float .f64 y)).run P w=.ok (.float .f64 r) w'/\kU op x y r/\Below w.heap.size w w':=by
 cases h:floatBits op .f64 x y with
 |some q=>
  refine⟨q,w,run_float_arith w op t .f64 x y q h,⟨?_,by rw[h]⟩,Below.refl _ _⟩;have:=floatBits_wf h
  simpa[Lit.wf]using this
 |none=>
  have key:=zo (w.tape w.drawn (.nanBits .f64 x y));refine⟨_,w.drew,?_,⟨key.1,by rw[h];exact key.2⟩,(Below.refl _ _).drew⟩;unfold floatBits at h;rcases b with rfl|rfl|rfl|rfl<;>simp only at h<;>simp[binOp,Op.floatArith,h,choose]<;>rfl
def vQ(a b:Int)(r:Nat):Prop:=kU .quo (floatOfInt .f64 a) (floatOfInt .f64 b) r
theorem xw (w:World):Calls prog 55 #[.int .i64 0,.int .i64 0] w λe w'=>e= .returned (.float .f64 9221120237041090561)/\w=w':=by
 go_enter func55,ntmps55
 go_wp2_with fail;refine(DL w).mono ?_;rintro e b ⟨rfl,rfl⟩
 go_wp2_with fail;go_ret;exact⟨rfl,rfl⟩
def AM(a b:Int)(w:World)(e:Ending)(w':World):Prop:=∃r,e=.returned (.float .f64 r)/\vQ a b r/\Below w.heap.size w w'
theorem pW(a b:Int)(w:World):Calls prog 87 #[.int .i64 a,.int .i64 b] w (AM a b w):=by
 obtain⟨r,i,d,c,g⟩:=yQ (P:=prog) .quo (by simp) 32 (floatOfInt .f64 a) (floatOfInt .f64 b) w;have f:=Ld c;clear c
 go_enter func87,ntmps87
 go_wp2_with fail;go_ret;exact⟨r,rfl,f.out,g⟩
theorem xu(a b:Int)(h:b≠0)(w:World):Calls prog 55 #[.int .i64 a,.int .i64 b] w (AM a b w):=by
 obtain⟨r,i,d,c,g⟩:=yQ (P:=prog) .quo (by simp) 32 (floatOfInt .f64 a) (floatOfInt .f64 b) w;have f:=Ld c;have hz:(b != 0)=true:=by simpa using h
 clear c h
 go_enter func55,ntmps55
 go_wp2_with fail;go_ret;exact⟨r,rfl,f.out,g⟩
end Go.Proofs.YtfchcdbfalgdlaaGreatDoor
