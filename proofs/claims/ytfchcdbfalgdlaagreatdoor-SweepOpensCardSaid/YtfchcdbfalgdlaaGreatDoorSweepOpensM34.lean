/- Texts of one proof. No condition but each one's own. -/
import Derived.Test.YtfchcdbfalgdlaaGreatDoorSweepOpensM6
import Derived.LaidEql
import Derived.Stop.Asserts
import Derived.RowKitTokens
set_option maxHeartbeats 4000000
set_option maxRecDepth 100000
set_option linter.unusedVariables false
set_option linter.unusedSimpArgs false
namespace Go.Proofs.YtfchcdbfalgdlaaGreatDoor
open _root_.Go.Proofs.Tryz
open Go.RowKit Go.Extern.Stop Go.Stop Go.Extern
theorem zy(v:Value)(w:World):(Extern.ReflectliteType.typeOf #[.iface 38 v]).run prog w=.ok (.iface 232 (.agg #[.pointer (some ⟨6,38,none⟩)])) w:=by kernel_rfl
def Ez:Array Value→Sem Value:=Extern.ReflectliteType.method fun t=>do Rtype.noPackHeld "Comparable" t;pure (.bool (←typeInfo t).comparable)
theorem rD(w:World):(Ez #[.agg #[.pointer (some ⟨6,38,none⟩)]]).run prog w=.ok (.bool true) w:=by kernel_rfl
theorem kZ(v:Value)(w:World):(Go.method 405 232 v "Comparable").run prog w=.ok (216,v) w:=by kernel_rfl
theorem DA:(prog.info? 38).map (·.comparable)=some true:=by kernel_rfl
theorem EK(v:Value)(b:TypeId)(w:World):(Instr.typeAssert (.iface 38 v) b 234 true).run prog w=.ok (.tuple #[.nilIface,.bool false]) w:=run_typeAssert_lacksB underlying234 (by kernel_rfl) (by kernel_rfl) v b w
theorem xQ(v:Value)(b:TypeId)(w:World):(Instr.typeAssert (.iface 38 v) b 237 true).run prog w=.ok (.tuple #[.nilIface,.bool false]) w:=run_typeAssert_lacksB underlying237 (by kernel_rfl) (by kernel_rfl) v b w
theorem uQ(v:Value)(b:TypeId)(w:World):(Instr.typeAssert (.iface 38 v) b 238 true).run prog w=.ok (.tuple #[.nilIface,.bool false]) w:=run_typeAssert_lacksB underlying238 (by kernel_rfl) (by kernel_rfl) v b w
theorem lR(d:Nat)(a b:Int)(w:World):(Op.equalIn (d+2) 27 (.iface 38 (.int .i64 a)) (.iface 38 (.int .i64 b))).run prog w=.ok (a==b) w:=by
 obtain⟨i,hi,c⟩:=Option.map_eq_some_iff.1 DA;simp[Op.equalIn,run_underlying underlying27,run_underlying underlying38,typeInfo,hi,c]
theorem pI(a b:Int)(w:World):(binOp .eql 27 (.iface 38 (.int .i64 a)) (.iface 38 (.int .i64 b))).run prog w=.ok (.bool (a==b)) w:=by
 simp only[binOp];simp[Op.equal,Op.maxDepth,lR 9998 a b w]
theorem Bu (b:Int) (w:World):Calls prog 112 #[.nilIface,.iface 38 (.int .i64 b)] w fun e w'=>e= .returned (.bool false)∧w=w':=by
 have c:=run_eql_iface_nil_left (P:=prog) w 38 (.int .i64 b) underlying27
 go_enter func112,ntmps112
 go_wp2
 go_ret;exact⟨rfl,rfl⟩
theorem Bv (a b:Int) (w:World):Calls prog 112 #[.iface 38 (.int .i64 a),.iface 38 (.int .i64 b)] w fun e w'=>e= .returned (.bool (a==b))∧w=w':=by
 have g:= @run_callFunc_extern prog 150 _ Extern.ReflectliteType.typeOf func150 (by kernel_rfl) (by kernel_rfl) (by kernel_rfl) (by kernel_rfl);have d:= @run_callFunc_extern prog 216 _ Ez func216 (by kernel_rfl) (by kernel_rfl) (by kernel_rfl) (by kernel_rfl);have k:=zy;have f:=rD;have i:=kZ;have j:=EK;have l:=xQ;have m:=uQ;have heq:=pI a b w
 by_cases h:a=b
 ·have c:(a==b)=true:=by simpa using h
  rw[c]at heq⊢;clear h c
  go_enter func112,ntmps112
  go_wp2
  refine wp_loop_rounds 1 ?_;rw[rounds_succ]
  go_wp2
  go_ret;exact⟨rfl,rfl⟩
 ·have c:(a==b)=false:=by simpa using h
  rw[c]at heq⊢;clear h c
  go_enter func112,ntmps112
  go_wp2
  refine wp_loop_rounds 1 ?_;rw[rounds_succ]
  go_wp2
  go_ret;exact⟨rfl,rfl⟩
theorem rv (a b:Int) (c:b≠0) (w:World):Calls prog 112 #[dG a,.iface 38 (.int .i64 b)] w fun e w'=>e= .returned (.bool (decide (a=b)))∧w=w':=by
 by_cases h:a=0
 ·subst h;rw[bY,decide_eq_false (fun e=>c e.symm)];exact Bu b w
 ·rw[bC h];exact Bv a b w
end Go.Proofs.YtfchcdbfalgdlaaGreatDoor
