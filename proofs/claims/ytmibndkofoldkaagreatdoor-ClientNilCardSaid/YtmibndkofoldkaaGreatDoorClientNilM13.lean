/- Texts of one proof, one behind the other: SeC. No condition but each one's own. -/
import Derived.Test.YtmibndkofoldkaaGreatDoorClientNilM5
import Derived.Test.YtmibndkofoldkaaGreatDoorClientNilM2
import Derived.Test.YtmibndkofoldkaaGreatDoorClientNilM6
import Derived.Test.YtmibndkofoldkaaGreatDoorClientNilM10
import Derived.Test.YtmibndkofoldkaaGreatDoorClientNilM12
namespace Go.Proofs.YtmibndkofoldkaaGreatDoor
set_option linter.unusedVariables false
set_option linter.unusedSimpArgs false
set_option linter.constructorNameAsVariable false
open Go.RowKit Go.Sort
instance : DecidableEq Sd := fun r s => decidable_of_iff (r.e = s.e ∧ r.d = s.d ∧ r.t = s.t) (by cases r; cases s; simp)
theorem sd_eq (r s : Sd) : (((r.e : Int) == s.e) && (decide (r.d = s.d) && (decide (r.t = s.t) && true))) = decide (r = s) := by
 rw [Bool.eq_iff_iff]
 simp only [Bool.and_eq_true, decide_eq_true_eq, beq_iff_eq, Bool.and_true]
 constructor
 · rintro ⟨h1, h2, h3⟩
   cases r; cases s
   simp only at h1 h2 h3
   simp only [Sd.mk.injEq]
   exact ⟨by omega, h2, h3⟩
 · rintro rfl; simp
theorem sd_ext_d {x : Sd} (h : x.Ok) : x.cells.toArray.extract 1 (1 + 32) = secA x.d := by
 have hu : (u8s x.d).length = 32 := by rw [u8s_len, h.d]
 unfold Sd.cells secA
 rw [List.extract_toArray, List.extract_eq_take_drop, List.drop_succ_cons, List.drop_zero, List.take_append_of_le_length (by omega), List.take_of_length_le (by omega)]
theorem sd_ext_t {x : Sd} (h : x.Ok) : x.cells.toArray.extract 33 (33 + 16) = secA x.t := by
 have hu : (u8s x.d).length = 32 := by rw [u8s_len, h.d]
 have ht : (u8s x.t).length = 16 := by rw [u8s_len, h.t]
 unfold Sd.cells secA
 rw [List.extract_toArray, List.extract_eq_take_drop, List.drop_succ_cons, List.drop_left' hu, List.take_of_length_le (by omega)]
set_option maxRecDepth 100000
theorem equalIn_sd {T tB tT : TypeId} (ht : Tryz.prog.underlying T = some (.struct (Tryz.prog.fieldsOf T))) (hp : Tryz.prog.stoodInHeld T = false) (hf : (Tryz.prog.fieldsOf T).toList.map (fun f => (f.name, f.type, f.offset)) = [("Epoch", 24, 0), ("Data", tB, 1), ("Tag", tT, 33)])
    (uB : Tryz.prog.underlying tB = some (.array 32 5)) (uT : Tryz.prog.underlying tT = some (.array 16 5)) (zB : ∀ w, (sizeOf tB).run Tryz.prog w = .ok 32 w) (zT : ∀ w, (sizeOf tT).run Tryz.prog w = .ok 16 w) {r s : Sd} (hr : r.Ok) (hs : s.Ok) (d : Nat) (w : World) :
    (Op.equalIn (d + 4) T (.agg r.cells.toArray) (.agg s.cells.toArray)).run Tryz.prog w = .ok (decide (r = s)) w := by
 rw [show d + 4 = (d + 3) + 1 from rfl, run_equalIn_struct w (d + 3) T r.cells.toArray s.cells.toArray ht hp]
 generalize (Tryz.prog.fieldsOf T).toList = l at hf
 have hn : ∀ w, (isAgg 24).run Tryz.prog w = .ok false w := fun w => by simp [isAgg, run_underlying Tryz.underlying24]
 have hz : ∀ w, (sizeOf 5).run Tryz.prog w = .ok 1 w := fun w => (by first | exact Tryz.sizeOf5 w | kernel_rfl)
 have aB : ∀ w, (isAgg tB).run Tryz.prog w = .ok true w := fun w => by simp [isAgg, run_underlying uB]
 have aT : ∀ w, (isAgg tT).run Tryz.prog w = .ok true w := fun w => by simp [isAgg, run_underlying uT]
 have hd := run_equalIn_sec (P := Tryz.prog) (d + 1) uB Tryz.underlying5 hz hr.d hs.d hr.db hs.db w
 have hg := run_equalIn_sec (P := Tryz.prog) (d + 1) uT Tryz.underlying5 hz hr.t hs.t hr.tb hs.tb w
 rw [← sd_eq]
 obtain ⟨f0, l, rfl, e0, hf⟩ := List.map_eq_cons_iff.1 hf
 obtain ⟨f1, l, rfl, e1, hf⟩ := List.map_eq_cons_iff.1 hf
 obtain ⟨f2, l, rfl, e2, hf⟩ := List.map_eq_cons_iff.1 hf
 obtain rfl := List.map_eq_nil_iff.1 hf
 simp only [Prod.mk.injEq] at e0 e1 e2
 have nm : ∀ {f : Field} {n : String}, f.name = n → n ≠ "_" → f.name ≠ "_" := fun h1 h2 h3 => h2 (h1.symm.trans h3)
 refine eq_step (nm e0.1 (by decide)) (by rw [e0.2.1, e0.2.2]; exact part_cell hn (Sd.get0 r)) (by rw [e0.2.1, e0.2.2]; exact part_cell hn (Sd.get0 s)) (by rw [e0.2.1]; exact run_equalIn_int _ (d + 2) 24 .u64 .u64 _ _ Tryz.underlying24) ?_
 refine eq_step (nm e1.1 (by decide)) (by rw [e1.2.1, e1.2.2]; exact part_agg (aB w) (zB w) (sd_ext_d hr)) (by rw [e1.2.1, e1.2.2]; exact part_agg (aB w) (zB w) (sd_ext_d hs)) (by rw [e1.2.1]; exact hd) ?_
 refine eq_step (nm e2.1 (by decide)) (by rw [e2.2.1, e2.2.2]; exact part_agg (aT w) (zT w) (sd_ext_t hr)) (by rw [e2.2.1, e2.2.2]; exact part_agg (aT w) (zT w) (sd_ext_t hs)) (by rw [e2.2.1]; exact hg) ?_
 simp [Op.eqFields]
theorem eqIn_sd {r s : Sd} (hr : r.Ok) (hs : s.Ok) (w : World) : (Op.equalIn 10000 159 (.agg r.cells.toArray) (.agg s.cells.toArray)).run Tryz.prog w = .ok (decide (r = s)) w :=
 equalIn_sd (d := 9996) Tryz.underlying159 (by kernel_rfl) (by kernel_rfl) Tryz.underlying157 Tryz.underlying22 (fun w => by first | exact Tryz.sizeOf157 w | kernel_rfl) (fun w => by first | exact Tryz.sizeOf22 w | kernel_rfl) hr hs w
theorem neq_sd {r s : Sd} (hr : r.Ok) (hs : s.Ok) (w : World) : (binOp .neq 159 (.agg r.cells.toArray) (.agg s.cells.toArray)).run Tryz.prog w = .ok (.bool (!decide (r = s))) w := by
 rw [run_neq_struct, eqIn_sd hr hs w]
 rfl
end Go.Proofs.YtmibndkofoldkaaGreatDoor
