/- Texts of one proof, one behind the other: TeK. No condition but each one's own. -/
import Derived.Test.YtpifnmlnhddgeaaGreatDoorVaultNilM5
import Derived.Test.YtpifnmlnhddgeaaGreatDoorVaultNilM11
import Derived.Test.YtpifnmlnhddgeaaGreatDoorVaultNilM12
import Derived.DeepKeys4
import Derived.WalkArith
namespace Go.Proofs.YtpifnmlnhddgeaaGreatDoor
set_option linter.unusedVariables false
set_option linter.unusedSimpArgs false
set_option linter.constructorNameAsVariable false
open Go.RowKit Go.Sort Go.Maps
def atV (l p : Nat) : Value := .agg #[.int .i64 l, .int .u64 p]
noncomputable def atK (l p : Nat) : Lit := .string (keyBytes [.int .i64 l, .int .u64 p])
set_option maxRecDepth 100000
theorem atLaw : WideMaps.KeyLaw Tryz.prog 287 := deep_law_laid (by kernel_rfl) (m := 3) (by omega) (of_decide_eq_true (by kernel_rfl)) (by kernel_rfl) (by kernel_rfl)
theorem atKeyed : Keyed Tryz.prog 287 := Keyed.of_law atLaw
theorem keyAt {l p : Nat} (hl : l < 9223372036854775808) (hp : p < 18446744073709551616) : keyOf Tryz.prog 287 (atV l p) = some (atK l p) := by
 have hu : Tryz.prog.underlying 287 = some (.struct (Tryz.prog.fieldsOf 287)) := Tryz.underlying287
 have hc : Tryz.prog.cellsOf 287 = 2 := by kernel_rfl
 have hI : Tryz.prog.cellsOf 3 = 1 := by kernel_rfl
 have hU : Tryz.prog.cellsOf 27 = 1 := by kernel_rfl
 have hk : Tryz.prog.keyType 287 = true := by kernel_rfl
 have hf : (Tryz.prog.fieldsOf 287).toList.map (fun f => (f.type, f.offset)) = [(3, 0), (27, 1)] := by kernel_rfl
 have ha : (Tryz.prog.fieldsOf 287).all (·.name != "_") = true := by kernel_rfl
 have wl : (Lit.int .i64 (l : Int)).wf = true := WalkArith.wf_i64 (by omega)
 have wp : (Lit.int .u64 (p : Int)).wf = true := WalkArith.wf_u64 (by omega)
 obtain ⟨n, hn⟩ : ∃ n, Tryz.prog.types.size = n + 1 := ⟨Tryz.prog.types.size - 1, by have : 0 < Tryz.prog.types.size := of_decide_eq_true (by kernel_rfl); omega⟩
 have k1 : Tryz.prog.keyLits (n + 1) 3 [.int .i64 l] = some [.int .i64 l] := by unfold Program.keyLits; simp [Tryz.underlying3, wl]
 have k2 : Tryz.prog.keyLits (n + 1) 27 [.int .u64 p] = some [.int .u64 p] := by unfold Program.keyLits; simp [Tryz.underlying27, wp]
 have kk : Tryz.prog.keyLits (n + 1 + 1) 287 [.int .i64 l, .int .u64 p] = some [.int .i64 l, .int .u64 p] := by
  unfold Program.keyLits
  rw [hu]
  simp only
  rw [if_pos ⟨by rw [hc]; rfl, ha⟩]
  generalize (Tryz.prog.fieldsOf 287).toList = fs at hf
  obtain ⟨f0, fs, rfl, e0, hf⟩ := List.map_eq_cons_iff.1 hf
  obtain ⟨f1, fs, rfl, e1, hf⟩ := List.map_eq_cons_iff.1 hf
  obtain rfl := List.map_eq_nil_iff.1 hf
  simp only [Prod.mk.injEq] at e0 e1
  simp [e0.1, e0.2, e1.1, e1.2, hI, hU, k1, k2]
 unfold keyOf atV atK
 rw [hu]
 simp only
 rw [if_pos (by simp [hk, Value.formed, hu, hc]), hn]
 show Option.map _ (Tryz.prog.keyLits (n + 1 + 1) 287 [.int .i64 l, .int .u64 p]) = _
 rw [kk]
 rfl
end Go.Proofs.YtpifnmlnhddgeaaGreatDoor
