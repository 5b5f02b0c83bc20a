/- Texts of one proof, one behind the other: ErI. No condition but each one's own. -/
import Derived.Test.YtpifnmlnhddgeaaGreatDoorVaultNilM4
import Derived.LaidEql
import Derived.Stop.Asserts
import Derived.RowKitTokens
namespace Go.Proofs.YtpifnmlnhddgeaaGreatDoor
set_option linter.unusedVariables false
set_option linter.unusedSimpArgs false
set_option linter.constructorNameAsVariable false
open Go.RowKit Go.Extern.Stop Go.Stop Go.Extern
theorem isTypeOf (v : Value) (w : World) : (Extern.ReflectliteType.typeOf #[.iface 99 v]).run Tryz.prog w = .ok (.iface 466 (.agg #[.pointer (some ⟨6, 99, none⟩)])) w := by kernel_rfl
def cmpF : Array Value → Sem Value := Extern.ReflectliteType.method fun t => do Rtype.noPackHeld "Comparable" t; pure (.bool (← typeInfo t).comparable)
theorem isComparable (w : World) : (cmpF #[.agg #[.pointer (some ⟨6, 99, none⟩)]]).run Tryz.prog w = .ok (.bool true) w := by kernel_rfl
theorem isMethodComparable (v : Value) (w : World) : (Go.method 629 466 v "Comparable").run Tryz.prog w = .ok (370, v) w := by kernel_rfl
theorem isComp : (Tryz.prog.info? 99).map (·.comparable) = some true := by kernel_rfl
theorem noIsE (v : Value) (xT : TypeId) (w : World) : (Instr.typeAssert (.iface 99 v) xT 468 true).run Tryz.prog w = .ok (.tuple #[.nilIface, .bool false]) w := run_typeAssert_lacksB Tryz.underlying468 (by kernel_rfl) (by kernel_rfl) v xT w
theorem noUnwrapE (v : Value) (xT : TypeId) (w : World) : (Instr.typeAssert (.iface 99 v) xT 471 true).run Tryz.prog w = .ok (.tuple #[.nilIface, .bool false]) w := run_typeAssert_lacksB Tryz.underlying471 (by kernel_rfl) (by kernel_rfl) v xT w
theorem noUnwrapsE (v : Value) (xT : TypeId) (w : World) : (Instr.typeAssert (.iface 99 v) xT 472 true).run Tryz.prog w = .ok (.tuple #[.nilIface, .bool false]) w := run_typeAssert_lacksB Tryz.underlying472 (by kernel_rfl) (by kernel_rfl) v xT w
theorem run_equalIn_errno (d : Nat) (a b : Int) (w : World) : (Op.equalIn (d + 2) 31 (.iface 99 (.int .i64 a)) (.iface 99 (.int .i64 b))).run Tryz.prog w = .ok (a == b) w := by
 obtain ⟨i, hi, hcomp⟩ := Option.map_eq_some_iff.1 isComp
 simp [Op.equalIn, run_underlying Tryz.underlying31, run_underlying Tryz.underlying99, typeInfo, hi, hcomp]
theorem run_eql_errno (a b : Int) (w : World) : (binOp .eql 31 (.iface 99 (.int .i64 a)) (.iface 99 (.int .i64 b))).run Tryz.prog w = .ok (.bool (a == b)) w := by
 simp only [binOp]
 simp [Op.equal, Op.maxDepth, run_equalIn_errno 9998 a b w]
theorem eis_nil (b : Int) (w : World) : Calls Tryz.prog 215 #[.nilIface, .iface 99 (.int .i64 b)] w fun e w' => e = .returned (.bool false) ∧ w = w' := by
 have hn := run_eql_iface_nil_left (P := Tryz.prog) w 99 (.int .i64 b) Tryz.underlying31
 go_enter Tryz.func215, Tryz.ntmps215
 go_wp2
 go_ret
 exact ⟨rfl, rfl⟩
set_option maxRecDepth 100000 in
theorem eis_num (a b : Int) (w : World) : Calls Tryz.prog 215 #[.iface 99 (.int .i64 a), .iface 99 (.int .i64 b)] w fun e w' => e = .returned (.bool (a == b)) ∧ w = w' := by
 have h8 := @run_callFunc_extern Tryz.prog 278 _ Extern.ReflectliteType.typeOf Tryz.func278 (by kernel_rfl) (by kernel_rfl) (by kernel_rfl) (by kernel_rfl)
 have h32 := @run_callFunc_extern Tryz.prog 370 _ cmpF Tryz.func370 (by kernel_rfl) (by kernel_rfl) (by kernel_rfl) (by kernel_rfl)
 have tT := isTypeOf
 have cT := isComparable
 have mR := isMethodComparable
 have nE := noIsE
 have uE := noUnwrapE
 have vE := noUnwrapsE
 have heq := run_eql_errno a b w
 by_cases h : a = b
 · have hb : (a == b) = true := by simpa using h
   rw [hb] at heq ⊢
   clear h hb
   go_enter Tryz.func215, Tryz.ntmps215
   go_wp2
   refine wp_loop_rounds 1 ?_
   rw [rounds_succ]
   go_wp2
   go_ret
   exact ⟨rfl, rfl⟩
 · have hb : (a == b) = false := by simpa using h
   rw [hb] at heq ⊢
   clear h hb
   go_enter Tryz.func215, Tryz.ntmps215
   go_wp2
   refine wp_loop_rounds 1 ?_
   rw [rounds_succ]
   go_wp2
   go_ret
   exact ⟨rfl, rfl⟩
theorem eis_any (a b : Int) (hb : b ≠ 0) (w : World) : Calls Tryz.prog 215 #[errD a, .iface 99 (.int .i64 b)] w fun e w' => e = .returned (.bool (decide (a = b))) ∧ w = w' := by
 by_cases h : a = 0
 · subst h
   rw [errD_0, decide_eq_false (fun e => hb e.symm)]
   exact eis_nil b w
 · rw [errD_n h]
   exact eis_num a b w
end Go.Proofs.YtpifnmlnhddgeaaGreatDoor
