/- Texts of one proof. No condition but each one's own. -/
import Derived.Test.YtfchcdbfalgdlaaGreatDoorSweepPlaysM5
import Derived.LaidEql
import Derived.Stop.Asserts
import Derived.RowKitTokens
set_option maxHeartbeats 4000000
set_option maxRecDepth 100000
set_option linter.unusedVariables false
set_option linter.unusedSimpArgs false
namespace Go.Proofs.YtfchcdbfalgdlaaGreatDoor
open _root_.Go.Proofs.Tryz
open Go.RowKit Go.Extern.Stop Go.Stop Go.Extern
theorem Bs(v:Value)(w:World):(Extern.ReflectliteType.typeOf #[.iface 38 v]).run prog w=.ok (.iface 232 (.agg #[.pointer (some ⟨6,38,none⟩)])) w:=by kernel_rfl
def Gn:Array Value->Sem Value:=Extern.ReflectliteType.method λt=>do Rtype.noPackHeld "Comparable" t;pure (.bool (<-typeInfo t).comparable)
theorem td(w:World):(Gn #[.agg #[.pointer (some ⟨6,38,none⟩)]]).run prog w=.ok (.bool true) w:=by kernel_rfl
theorem lN(v:Value)(w:World):(Go.method 405 232 v "Comparable").run prog w=.ok (216,v) w:=by kernel_rfl
theorem Fu:(prog.info? 38).map (·.comparable)=some true:=by kernel_rfl
theorem Gw(v:Value)(b:TypeId)(w:World):(Instr.typeAssert (.iface 38 v) b 234 true).run prog w=.ok (.tuple #[.nilIface,.bool false]) w:=run_typeAssert_lacksB underlying234 (by kernel_rfl) (by kernel_rfl) v b w
theorem zH(v:Value)(b:TypeId)(w:World):(Instr.typeAssert (.iface 38 v) b 237 true).run prog w=.ok (.tuple #[.nilIface,.bool false]) w:=run_typeAssert_lacksB underlying237 (by kernel_rfl) (by kernel_rfl) v b w
theorem wM(v:Value)(b:TypeId)(w:World):(Instr.typeAssert (.iface 38 v) b 238 true).run prog w=.ok (.tuple #[.nilIface,.bool false]) w:=run_typeAssert_lacksB underlying238 (by kernel_rfl) (by kernel_rfl) v b w
theorem mK(d:Nat)(a b:Int)(w:World):(Op.equalIn (d+2) 27 (.iface 38 (.int .i64 a)) (.iface 38 (.int .i64 b))).run prog w=.ok (a==b) w:=by
 obtain⟨i,hi,c⟩:=Option.map_eq_some_iff.1 Fu;simp[Op.equalIn,run_underlying underlying27,run_underlying underlying38,typeInfo,hi,c]
theorem qM(a b:Int)(w:World):(binOp .eql 27 (.iface 38 (.int .i64 a)) (.iface 38 (.int .i64 b))).run prog w=.ok (.bool (a==b)) w:=by
 simp only[binOp];simp[Op.equal,Op.maxDepth,mK 9998 a b w]
theorem Dv (b:Int) (w:World):Calls prog 112 #[.nilIface,.iface 38 (.int .i64 b)] w λe w'=>e= .returned (.bool false)/\w=w':=by
 have c:=run_eql_iface_nil_left (P:=prog) w 38 (.int .i64 b) underlying27
 go_enter func112,ntmps112
 go_wp2
 go_ret;exact⟨rfl,rfl⟩
theorem Dw (a b:Int) (w:World):Calls prog 112 #[.iface 38 (.int .i64 a),.iface 38 (.int .i64 b)] w λe w'=>e= .returned (.bool (a==b))/\w=w':=by
 have g:= @run_callFunc_extern prog 150 _ Extern.ReflectliteType.typeOf func150 (by kernel_rfl) (by kernel_rfl) (by kernel_rfl) (by kernel_rfl);have d:= @run_callFunc_extern prog 216 _ Gn func216 (by kernel_rfl) (by kernel_rfl) (by kernel_rfl) (by kernel_rfl);have k:=Bs;have f:=td;have i:=lN;have j:=Gw;have l:=zH;have m:=wM;have heq:=qM a b w
 by_cases h:a=b
 ·have c:(a==b)=true:=by simpa using h
  rw[c]at heq⊢;clear h c
  go_enter func112,ntmps112
  go_wp2
  refine wp_loop_rounds 1 ?_;rw[rounds_succ]
  go_wp2
  go_ret;exact⟨rfl,rfl⟩
 ·have c:(a==b)=false:=by simpa using h
  rw[c]at heq⊢;clear h c
  go_enter func112,ntmps112
  go_wp2
  refine wp_loop_rounds 1 ?_;rw[rounds_succ]
  go_wp2
  go_ret;exact⟨rfl,rfl⟩
theorem sY (a b:Int) (c:b≠0) (w:World):Calls prog 112 #[dP a,.iface 38 (.int .i64 b)] w λe w'=>e= .returned (.bool (decide (a=b)))/\w=w':=by
 by_cases h:a=0
 ·subst h;rw[cg,decide_eq_false (λe=>c e.symm)];exact Dv b w
 ·rw[bK h];exact Dw a b w
end Go.Proofs.YtfchcdbfalgdlaaGreatDoor
