/- Texts of one proof. No condition but each one's own. -/
import Derived.Test.YtfchcdbfalgdlaaGreatDoorSweepOpensM1
import GoSem.Core.Float
import Derived.Laws.FloatArith
set_option maxHeartbeats 4000000
set_option maxRecDepth 100000
set_option linter.unusedVariables false
set_option linter.unusedSimpArgs false
namespace Go.Proofs.YtfchcdbfalgdlaaGreatDoor
open _root_.Go.Proofs.Tryz
open Ieee
def qO(B r:Nat):Nat:=if r<B then r else(B+r%B)*2^(r/B-1)
theorem uf(B r:Nat)(b:0<B):qO B r<qO B (r+1):=by
 unfold qO
 by_cases h1:r+1<B
 ·rw[if_pos (by omega),if_pos h1];omega
 ·by_cases h2:r<B
  ·have e:r+1=B:=by omega
   rw[if_pos h2,if_neg h1,e,Nat.mod_self,Nat.div_self b];simp;omega
  ·rw[if_neg h2,if_neg h1];have hd:1≤r/B:=(Nat.le_div_iff_mul_le b).2 (by omega);have k:=Nat.mod_lt r b;have l:=Nat.div_add_mod r B;have g:0<2^(r/B-1):=Nat.pow_pos (by omega)
   by_cases j:r%B+1<B
   ·have c:(r+1)/B=r/B:=by
     rw[Nat.div_eq_iff b,Nat.mul_comm];omega
    have d:(r+1)%B=r%B+1:=by
     have:=Nat.div_add_mod (r+1) B;rw[c]at this;omega
    rw[c,d];exact Nat.mul_lt_mul_of_pos_right (by omega) g
   ·have f:r+1=B*(r/B+1):=by rw [Nat.mul_add];omega
    have c:(r+1)/B=r/B+1:=by rw[f,Nat.mul_div_cancel_left _ b]
    have d:(r+1)%B=0:=by rw[f,Nat.mul_mod_right]
    rw[c,d];have i:r/B+1-1=(r/B-1)+1:=by omega
    rw[i,Nat.pow_succ,Nat.add_zero]
    calc (B+r%B)*2^(r/B-1)<(B*2)*2^(r/B-1):=Nat.mul_lt_mul_of_pos_right (by omega) g
     _=B*(2^(r/B-1)*2):=by rw[Nat.mul_assoc,Nat.mul_comm 2]
theorem sB{B:Nat}(b:0<B){r s:Nat}(h:r<s):qO B r<qO B s:=by
 induction s with
 |zero=>omega
 |succ s c=>
  rcases Nat.lt_or_ge r s with h1|h1
  ·exact Nat.lt_trans (c h1) (uf B s b)
  ·have:r=s:=by omega
   subst this;exact uf B r b
theorem AS{B:Nat}(b:0<B):qO B 0=0:=by simp[qO,b]
def iQ(b:Nat):Bool:=decide (9223372036854775808≤b)
def jx(b:Nat):Nat:=b%9223372036854775808
def key(b:Nat):Int:=if iQ b then-(jx b:Int)else(jx b:Int)
def jt(b:Nat):Prop:=9218868437227405312<jx b
def jA(s:Bool)(n:Nat):Int:=if s then-(n:Int)else n
theorem qJ(s:Bool)(m u:Nat):signed s m u=jA s (m*2^u):=by
 unfold signed jA;rw[Nat.shiftLeft_eq]
theorem ed(x y:Int):compare x y=if x<y then .lt else if x=y then .eq else .gt:=by
 simp only[compare,compareOfLessAndEq]
theorem sS{B:Nat}(c:0<B)(s t:Bool)(r q:Nat):compare (jA s (qO B r)) (jA t (qO B q))=compare (jA s r) (jA t q):=by
 have z:=AS c
 have mono:∀a b:Nat,(qO B a<qO B b↔a<b):=fun a b=>⟨fun h=>by
  rcases Nat.lt_trichotomy a b with h1|h1|h1
  ·exact h1
  ·subst h1;omega
  ·have:=sB c h1;omega,sB c⟩
 have inj:∀a b:Nat,(qO B a=qO B b↔a=b):=fun a b=>⟨fun h=>by
  rcases Nat.lt_trichotomy a b with h1|h1|h1
  ·have:=sB c h1;omega
  ·exact h1
  ·have:=sB c h1;omega,fun h=>by rw[h]⟩
 have j:=mono r q;have k:=mono q r;have l:=inj r q;have g:=mono 0 r;have i:=mono 0 q;rw[z]at g i;rw[ed,ed]
 have d:(jA s (qO B r)<jA t (qO B q))↔(jA s r<jA t q):=by
  unfold jA;cases s<;>cases t<;>simp<;>omega
 have f:(jA s (qO B r)=jA t (qO B q))↔(jA s (r:Nat)=jA t q):=by
  unfold jA;cases s<;>cases t<;>simp<;>omega
 simp only[d,f]
theorem kF(s t:Bool)(m n k:Nat):compare (jA s (m*2^k)) (jA t (n*2^k))=compare (jA s m) (jA t n):=by
 have b:0<2^k:=Nat.pow_pos (by omega);have a1:(m*2^k<n*2^k↔m<n):=Nat.mul_lt_mul_right b;have f:(n*2^k<m*2^k↔n<m):=Nat.mul_lt_mul_right b;have g:(m*2^k=n*2^k↔m=n):=Nat.mul_left_inj (by omega);have i:(0<m*2^k↔0<m):=by simp[b]
 have j:(0<n*2^k↔0<n):=by simp[b]
 generalize m*2^k=x at*;generalize n*2^k=y at*;rw[ed,ed]
 have c:(jA s x<jA t y)↔(jA s m<jA t n):=by
  unfold jA;cases s<;>cases t<;>simp<;>omega
 have d:(jA s x=jA t y)↔(jA s m=jA t n):=by
  unfold jA;cases s<;>cases t<;>simp<;>omega
 simp only[c,d]
theorem sw:double.signWeight=9223372036854775808:=by decide
theorem bn:double.binade=4503599627370496:=by decide
theorem ir:double.infRung=9218868437227405312:=by decide
theorem lp:double.leastPlace=-1074:=by decide
theorem ow(b:Nat)(c:b<18446744073709551616):(b/9223372036854775808%2==1)=iQ b:=by
 unfold iQ
 by_cases h:9223372036854775808≤b
 ·have:b/9223372036854775808=1:=by omega
  rw[this];simp[h]
 ·have:b/9223372036854775808=0:=by omega
  rw[this];simp[h]
theorem oH(b:Nat)(c:b<18446744073709551616)(h:jx b<9218868437227405312):
    ∃(m a:Nat),double.read b=.number (iQ b) m (-1074+(a:Int))∧m*2^a=qO 4503599627370496 (jx b)∧(m=0↔jx b=0):=by
 unfold Format.read;rw[sw,bn,ir,lp,ow b c];unfold jx at h⊢;generalize b%9223372036854775808=r at h⊢;simp only
 by_cases h1:r<4503599627370496
 ·rw[if_pos h1];exact⟨r,0,by simp,by simp[qO,h1],Iff.rfl⟩
 ·rw[if_neg h1,if_pos h];exact⟨4503599627370496+r%4503599627370496,r/4503599627370496-1,rfl,by simp[qO,h1],by omega⟩
theorem oI(b:Nat)(c:b<18446744073709551616)(h:jx b=9218868437227405312):double.read b=.infinity (iQ b):=by
 unfold Format.read;rw[sw,bn,ir,lp,ow b c];unfold jx at h;simp only;rw[h];rfl
theorem tL(b:Nat)(c:b<18446744073709551616)(h:jt b):∃t,double.read b=.nan (iQ b) t:=by
 unfold Format.read;rw[sw,bn,ir,lp,ow b c];unfold jt jx at h;simp only;rw[if_neg (by omega),if_neg (by omega),if_neg (by omega)];exact⟨_,rfl⟩
theorem xV(s t:Bool)(m n a c:Nat):Datum.order (.number s m (-1074+(a:Int))) (.number t n (-1074+(c:Int)))=some (compare (jA s (m*2^a)) (jA t (n*2^c))):=by
 simp only[Datum.order];rw[qJ,qJ];rcases Nat.le_total a c with h|h
 ·have b:min (-1074+(a:Int)) (-1074+(c:Int))= -1074+(a:Int):=by omega
  rw[b];have d:(-1074+(a:Int)-(-1074+(a:Int))).toNat=0:=by omega
  have f:(-1074+(c:Int)-(-1074+(a:Int))).toNat=c-a:=by omega
  rw[d,f];have:=kF s t (m*2^0) (n*2^(c-a)) a;rw[←this];have g:n*2^(c-a)*2^a=n*2^c:=by rw[Nat.mul_assoc,←Nat.pow_add,Nat.sub_add_cancel h]
  rw[g];simp
 ·have b:min (-1074+(a:Int)) (-1074+(c:Int))= -1074+(c:Int):=by omega
  rw[b];have d:(-1074+(c:Int)-(-1074+(c:Int))).toNat=0:=by omega
  have f:(-1074+(a:Int)-(-1074+(c:Int))).toNat=a-c:=by omega
  rw[d,f];have:=kF s t (m*2^(a-c)) (n*2^0) c;rw[←this];have g:m*2^(a-c)*2^c=m*2^a:=by rw[Nat.mul_assoc,←Nat.pow_add,Nat.sub_add_cancel h]
  rw[g];simp
theorem wn(b:Nat):key b=jA (iQ b) (jx b):=by unfold key jA;rfl
theorem xW{x y:Nat}(j:x<18446744073709551616)(d:y<18446744073709551616)(p:¬jt x)(q:¬jt y):double.order x y=some (compare (key x) (key y)):=by
 have f:=wn x;have g:=wn y;have r:jx x≤9218868437227405312:=by unfold jt at p;omega
 have s:jx y≤9218868437227405312:=by unfold jt at q;omega
 unfold Format.order
 by_cases i:jx x=9218868437227405312
 ·rw[oI x j i]
  by_cases b:jx y=9218868437227405312
  ·rw[oI y d b];rw[f,g,i,b];simp only[Datum.order]
   cases iQ x<;>cases iQ y<;>rfl
  ·obtain⟨m,a,e,_,_⟩:=oH y d (by omega);rw[e,f,g,i];simp only[Datum.order];rw[ed];unfold jA
   cases iQ x<;>cases iQ y<;>simp<;>(repeat(first|rfl|omega|(split)))
 ·obtain⟨m,a,e,l,_⟩:=oH x j (by omega)
  by_cases b:jx y=9218868437227405312
  ·rw[e,oI y d b,f,g,b];simp only[Datum.order];rw[ed];unfold jA
   cases iQ x<;>cases iQ y<;>simp<;>(repeat(first|rfl|omega|(split)))
  ·obtain⟨n,c,k,o,_⟩:=oH y d (by omega);rw[e,k,xV,l,o,sS (by decide),f,g]
theorem xX{x y:Nat}(b:x<18446744073709551616)(c:y<18446744073709551616)(h:jt x∨jt y):double.order x y=none:=by
 unfold Format.order;rcases h with h|h
 ·obtain⟨t,e⟩:=tL x b h;rw[e];rfl
 ·obtain⟨t,e⟩:=tL y c h;rw[e]
  cases double.read x<;>rfl
end Go.Proofs.YtfchcdbfalgdlaaGreatDoor
namespace Go.Proofs.YtfchcdbfalgdlaaGreatDoor
open _root_.Go.Proofs.Tryz
open Go.RowKit Ieee
def kD(b:Nat):Bool:=decide (9218868437227405312<jx b)
theorem tm(b:Nat):kD b=true↔jt b:=by unfold kD jt;simp
theorem tn(b:Nat):kD b=false↔¬jt b:=by unfold kD jt;simp
theorem yr(n:Int)(w:World):(callFunc 64 #[.int .u64 n]).run prog w=.ok (.value (.float .f64 n.toNat)) w:=by kernel_rfl
theorem Cl(b:Nat)(w:World):(callFunc 137 #[.float .f64 b]).run prog w=.ok (.value (.int .u64 b)) w:=by kernel_rfl
theorem BU{x y:Nat}(b:x<18446744073709551616)(c:y<18446744073709551616)(h:kD x=true∨kD y=true):FloatKind.f64.format.order x y=none:=
 xX b c (h.imp (tm _).1 (tm _).1)
theorem DM{x y:Nat}(b:x<18446744073709551616)(c:y<18446744073709551616)(d:kD x=false)(f:kD y=false)(h:key x=key y):FloatKind.f64.format.order x y=some .eq:=by
 show double.order x y=_;rw[xW b c ((tn _).1 d) ((tn _).1 f),ed,if_neg (by omega),if_pos h]
theorem qi (x:Nat) (b:x<18446744073709551616) (w:World):Calls prog 136 #[.float .f64 x] w fun e w'=>e= .returned (.bool (kD x))∧w=w':=by
 cases hn:kD x
 ·have c:=DM b b hn hn rfl
  go_enter func136,ntmps136
  go_wp2_with fail
  go_ret;exact⟨rfl,rfl⟩
 ·have c:=BU b b (Or.inl hn)
  go_enter func136,ntmps136
  go_wp2_with fail
  go_ret;exact⟨rfl,rfl⟩
def gI(x:Nat):Nat:=if kD x then 9221120237041090561 else x
theorem sR (x:Nat) (d:x<18446744073709551616) (w:World):Calls prog 85 #[.float .f64 x] w fun e w'=>e= .returned (.int .u64 (gI x:Nat))∧w=w':=by
 have ht:=Cl x
 cases hn:kD x
 ·have b:gI x=x:=by unfold gI;rw [hn];rfl
  have c:=Ld b;clear b
  go_enter func85,ntmps85
  go_wp2_with fail
  refine(qi x d w).mono ?_;rintro e f ⟨rfl,rfl⟩
  go_wp2_with fail
  go_ret;exact⟨by rw[c.out];rfl,rfl⟩
 ·have b:gI x=9221120237041090561:=by unfold gI;rw [hn];rfl
  have c:=Ld b;clear b
  go_enter func85,ntmps85
  go_wp2_with fail
  refine(qi x d w).mono ?_;rintro e f ⟨rfl,rfl⟩
  go_wp2_with fail
  go_ret;exact⟨by rw[c.out];rfl,rfl⟩
theorem z64:0<18446744073709551616:=Nat.succ_pos _
theorem BN (w:World):Calls prog 51 #[] w fun e w'=>e= .returned (.float .f64 9221120237041090561)∧w=w':=by
 have b:=yr 9221120237041090561
 go_enter func51,ntmps51
 go_wp2_with fail
 go_ret;exact⟨rfl,rfl⟩
def ke(op:BinOp)(x y r:Nat):Prop:=r<18446744073709551616∧match floatBits op .f64 x y with|some q=>r=q|none=>kD r=true
theorem xz(t:Nat):(t%2)*9223372036854775808+9218868437227405312+1+(t/2)%4503599627370495<18446744073709551616∧kD ((t%2)*9223372036854775808+9218868437227405312+1+(t/2)%4503599627370495)=true:=by
 have h1:=Nat.mod_lt t (show 0<2 by omega);have h2:=Nat.mod_lt (t/2) (show 0<4503599627370495 by omega);generalize t%2=a at*;generalize t/2%4503599627370495=c at*;refine⟨by omega,?_⟩;unfold kD jx;refine decide_eq_true ?_;rcases (show a=0∨a=1 by omega)with rfl|rfl<;>omega
theorem wU{P:Program}(op:BinOp)(b:op=.add∨op=.sub∨op=.mul∨op=.quo)(t:TypeId)(x y:Nat)(w:World):
    ∃r w',(binOp op t (.float .f64 x) (.float .f64 y)).run P w=.ok (.float .f64 r) w'∧ke op x y r∧Below w.heap.size w w':=by
 cases h:floatBits op .f64 x y with
 |some q=>
  refine⟨q,w,run_float_arith w op t .f64 x y q h,⟨?_,by rw[h]⟩,Below.refl _ _⟩;have:=floatBits_wf h
  simpa[Lit.wf]using this
 |none=>
  have key:=xz (w.tape w.drawn (.nanBits .f64 x y));refine⟨_,w.drew,?_,⟨key.1,by rw[h];exact key.2⟩,(Below.refl _ _).drew⟩;unfold floatBits at h;rcases b with rfl|rfl|rfl|rfl<;>simp only at h<;>simp[binOp,Op.floatArith,h,choose]<;>rfl
def yP(a b:Int)(r:Nat):Prop:=ke .quo (floatOfInt .f64 a) (floatOfInt .f64 b) r
theorem vq (w:World):Calls prog 55 #[.int .i64 0,.int .i64 0] w fun e w'=>e= .returned (.float .f64 9221120237041090561)∧w=w':=by
 go_enter func55,ntmps55
 go_wp2_with fail
 refine(BN w).mono ?_;rintro e b ⟨rfl,rfl⟩
 go_wp2_with fail
 go_ret;exact⟨rfl,rfl⟩
def yW(a b:Int)(w:World)(e:Ending)(w':World):Prop:=∃r,e=.returned (.float .f64 r)∧yP a b r∧Below w.heap.size w w'
theorem oQ(a b:Int)(w:World):Calls prog 87 #[.int .i64 a,.int .i64 b] w (yW a b w):=by
 obtain⟨r,i,d,c,g⟩:=wU (P:=prog) .quo (by simp) 32 (floatOfInt .f64 a) (floatOfInt .f64 b) w;have f:=Ld c;clear c
 go_enter func87,ntmps87
 go_wp2_with fail
 go_ret;exact⟨r,rfl,f.out,g⟩
theorem vp(a b:Int)(h:b≠0)(w:World):Calls prog 55 #[.int .i64 a,.int .i64 b] w (yW a b w):=by
 obtain⟨r,j,d,c,g⟩:=wU (P:=prog) .quo (by simp) 32 (floatOfInt .f64 a) (floatOfInt .f64 b) w;have f:=Ld c;have i:(b != 0)=true:=by simpa using h
 clear c h
 go_enter func55,ntmps55
 go_wp2_with fail
 go_ret;exact⟨r,rfl,f.out,g⟩
end Go.Proofs.YtfchcdbfalgdlaaGreatDoor
