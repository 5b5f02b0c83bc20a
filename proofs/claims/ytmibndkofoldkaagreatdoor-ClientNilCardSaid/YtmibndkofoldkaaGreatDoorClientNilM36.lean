/- Texts of one proof, one behind the other: ShL, ClM. No condition but each one's own. -/
import Derived.Test.YtmibndkofoldkaaGreatDoorRows
import Derived.Test.YtmibndkofoldkaaGreatDoorClientNilM3
import Derived.Test.YtmibndkofoldkaaGreatDoorClientNilM4
import Derived.Test.YtmibndkofoldkaaGreatDoorClientNilM6
import Derived.SizedLaws
import Derived.Test.YtmibndkofoldkaaGreatDoorClientNilM35
import Derived.SevenTiedAt
import Derived.Stop.Joined
import Derived.Test.YtmibndkofoldkaaGreatDoorClientNilM34
namespace Go.Proofs.YtmibndkofoldkaaGreatDoor
set_option linter.unusedVariables false
set_option linter.unusedSimpArgs false
set_option linter.constructorNameAsVariable false
open Go.RowKit Go.Sort Go.ChangeShapes Go.WideShapes Go.ChangeAt
theorem laid_u32 {W : World} {n : String} {d : DataW Unit} {r : List (String × DataW Unit)} {ps : List MemPlace} {g t N : Nat} (L : List Int) (h : DataW.LaidVars Tryz.prog W ((n, d) :: r) ps) (hg : Tryz.prog.globalNamed n = some g) (ht : (Tryz.prog.globals[g]?).map (·.type) = some t) (hu : Tryz.prog.underlying t = some (.array N 339)) (hd : d = .agg (L.map fun x => .lit (.int .u32 x))) (hl : L.length = N) :
    (∀ j, j < N → W.cell? ⟨g, j, none⟩ = some (.int .u32 (at_ L j))) ∧ ∃ ps', DataW.LaidVars Tryz.prog W r ps' := by
 obtain ⟨g', t', cs, fuel, p, q, hg', ht', hv, hd', hr, _⟩ := h
 obtain rfl := Option.some.inj (hg.symm.trans hg')
 obtain rfl := Option.some.inj (ht.symm.trans ht')
 refine ⟨fun j hj => ?_, _, hr⟩
 obtain ⟨xs, m, _, ex, _, hxl, hel⟩ := DataW.trod_array hu hd'
 have c5 : Tryz.prog.cellsOf 339 = 1 := by kernel_rfl
 have hE := hel j hj
 rw [c5, Nat.mul_one, List.getElem?_eq_getElem (by omega)] at hE
 obtain ⟨z, e1, e2, _⟩ := DataW.trod_int Tryz.underlying339 hE
 have e3 : (xs.map (·.1)) = L.map fun n => .lit (.int .u32 n) := by
  have h0 := (Prod.mk.inj ex).1
  rw [hd] at h0
  exact (DataW.agg.inj h0).symm
 have e4 : (xs.map (·.1))[j]? = (L.map fun n => (DataW.lit (.int .u32 n) : DataW Unit))[j]? := by rw [e3]
 rw [List.getElem?_map, List.getElem?_map, List.getElem?_eq_getElem (by omega : j < xs.length), List.getElem?_eq_getElem (by omega : j < L.length), e2] at e4
 have hz : z = at_ L j := by
  simp only [Option.map_some, Option.some.injEq, DataW.lit.injEq, Lit.int.injEq, true_and] at e4
  unfold at_
  rw [e4, List.getD, List.getElem?_eq_getElem (by omega : j < L.length)]
  rfl
 rw [World.var?_cell hg hv j, ← hz]
 have : cs.toList[j]? = some (.int .u32 z) := by
  have h0 : ((cs.toList.drop j).take 1)[0]? = some (.int .u32 z) := by rw [e1]; rfl
  simpa using h0
 simpa using this
theorem range_iH {W : World} {g : Nat} (h : ∀ j, j < 8 → W.cell? ⟨g, j, none⟩ = some (.int .u32 (at_ iH.list j))) : W.rangeAt g 0 iH.arr.toList := fun j v hv => by
 have hj : j < 8 := by
  have := (List.getElem?_eq_some_iff.1 hv).1
  exact this
 rw [Nat.zero_add, h j hj, ← hv]
 rcases (by omega : j = 0 ∨ j = 1 ∨ j = 2 ∨ j = 3 ∨ j = 4 ∨ j = 5 ∨ j = 6 ∨ j = 7) with rfl | rfl | rfl | rfl | rfl | rfl | rfl | rfl <;> rfl
theorem sha_live {W : World} (h : laidMetH Tryz.prog [("entrust/sha.constants", Rows.laid_entrust_sha_constants), ("entrust/sha.initials", Rows.laid_entrust_sha_initials)] W) : ShaIn 3 1 W := by
 rw [MakeChecks.laidMetH_plain _ _ _ (by kernel_rfl)] at h
 obtain ⟨ps, h, -, -⟩ := h
 obtain ⟨h3, ps3, h⟩ := laid_u32 kL h (by kernel_rfl) (by kernel_rfl) Tryz.underlying366 rfl rfl
 obtain ⟨h4, ps4, h⟩ := laid_u32 iH.list h (by kernel_rfl) (by kernel_rfl) Tryz.underlying340 rfl rfl
 exact ⟨h3, range_iH h4⟩
end Go.Proofs.YtmibndkofoldkaaGreatDoor
namespace Go.Proofs.YtmibndkofoldkaaGreatDoor
set_option linter.unusedVariables false
set_option linter.unusedSimpArgs false
set_option linter.constructorNameAsVariable false
open Go.RowKit Go.ChangeShapes Go.WideShapes
set_option maxRecDepth 100000
section
variable {H : Type} {enc : TypeId × Value → H} {w : World}
theorem open_key {r : Reach} {b0 : Nat} {v : Value} {d : DataW H} {p : List MemPlace} (hv : Value.okWide Tryz.prog w r b0 23 v) (h : DataW.Trod enc Tryz.prog w 0 (fun _ => true) true 23 v d p) : ∃ s, v = .agg (secA s) ∧ s.length = 16 ∧ Byt s := by
 obtain ⟨cs, rfl, hl, hc⟩ := open_array Tryz.underlying23 (by kernel_rfl) (by kernel_rfl) hv h
 have key : ∀ cs : List Value, (∀ (i : Nat) (hi : i < cs.length), ∃ m y, DataW.trod enc Tryz.prog w 0 (fun _ => true) true m 5 [cs[i]] = some y) → ∃ s : List Int, cs = u8s s ∧ Byt s := by
  intro cs
  induction cs with
  | nil => exact fun _ => ⟨[], rfl, fun x hx => by cases hx⟩
  | cons x cs ih =>
   intro h
   obtain ⟨s, hs, hb⟩ := ih fun i hi => h (i + 1) (by simp; omega)
   obtain ⟨m, y, ht⟩ := h 0 (by simp)
   obtain ⟨a, e, _, g⟩ := DataW.trod_int Tryz.underlying5 ht
   simp at e
   subst e
   have := bounds_u8 g
   refine ⟨a :: s, by rw [hs]; rfl, fun z hz => ?_⟩
   rcases List.mem_cons.1 hz with rfl | hz
   · omega
   · exact hb z hz
 obtain ⟨s, rfl, hb⟩ := key cs hc
 exact ⟨s, rfl, by rw [← hl, u8s_len], hb⟩
theorem open_size {r : Reach} {b0 : Nat} {v : Value} {d : DataW H} {p : List MemPlace} (hv : Value.okWide Tryz.prog w r b0 52 v) (h : DataW.Trod enc Tryz.prog w 0 (fun _ => true) true 52 v d p) :
    ∃ (n : Nat) (a b c : Int), v = .agg #[.int .u64 n, .int .i64 a, .int .i64 b, .int .i64 c] ∧ n < 18446744073709551616 := by
 unfold Value.okWide at hv
 rw [Tryz.underlying52] at hv
 obtain ⟨cs, rfl, hsz, -⟩ := hv
 obtain ⟨m, ht⟩ := h
 replace ht : DataW.trod enc Tryz.prog w 0 (fun _ => true) true m 52 cs.toList = some (d, p) := ht
 obtain ⟨cs⟩ := cs
 have hl : cs.length = 4 := by
  have : Tryz.prog.cellsOf 52 = 4 := by kernel_rfl
  simpa [this] using hsz
 match cs, hl with
 | [c0, c1, c2, c3], _ =>
  obtain ⟨_, _, t0⟩ := field_at (j := 0) Tryz.underlying52 ht rfl (by kernel_rfl) (by simp)
  obtain ⟨xs, n', _, _, _, hlen, hg⟩ := DataW.trod_struct Tryz.underlying52 ht
  have t1 := hg 1 _ rfl
  have hc : Tryz.prog.cellsOf 32 = 3 := by kernel_rfl
  obtain ⟨x1, hx1⟩ : ∃ x1, xs[1]? = some x1 := ⟨_, List.getElem?_eq_getElem (by rw [hlen]; decide)⟩
  rw [hx1] at t1
  have t1' : DataW.trod enc Tryz.prog w 0 (fun _ => true) true n' 32 [c1, c2, c3] = some x1 := t1
  obtain ⟨_, _, u0⟩ := field_at (j := 0) Tryz.underlying32 t1' rfl (by kernel_rfl) (by simp)
  obtain ⟨_, _, u1⟩ := field_at (j := 1) Tryz.underlying32 t1' rfl (by kernel_rfl) (by simp)
  obtain ⟨_, _, u2⟩ := field_at (j := 2) Tryz.underlying32 t1' rfl (by kernel_rfl) (by simp)
  obtain ⟨a0, e0, _, g0⟩ := DataW.trod_int Tryz.underlying24 t0
  obtain ⟨a1, e1, _, -⟩ := DataW.trod_int Tryz.underlying3 u0
  obtain ⟨a2, e2, _, -⟩ := DataW.trod_int Tryz.underlying3 u1
  obtain ⟨a3, e3, _, -⟩ := DataW.trod_int Tryz.underlying3 u2
  simp at e0 e1 e2 e3
  subst e0 e1 e2 e3
  have q := bounds_u64 g0
  obtain ⟨b0, rfl⟩ := Int.eq_ofNat_of_zero_le q.1
  exact ⟨b0, a1, a2, a3, rfl, by have := q.2; omega⟩
end
theorem cnil_law {v0 v1 : Value} (o0 : ∃ s, v0 = .agg (secA s) ∧ s.length = 16 ∧ Byt s) (o1 : ∃ (n : Nat) (a b c : Int), v1 = .agg #[.int .u64 n, .int .i64 a, .int .i64 b, .int .i64 c] ∧ n < 18446744073709551616) (s : Int) (_ws : (Lit.int .i64 s).wf = true) (W : World)
    (hL : laidMetH Tryz.prog [("entrust/sha.constants", Rows.laid_entrust_sha_constants), ("entrust/sha.initials", Rows.laid_entrust_sha_initials)] W) :
    Calls Tryz.prog 4 #[v0, v1, .int .i64 s] W fun e w' => e = .returned (.bool true) ∧ Below W.heap.size W w' := by
 obtain ⟨key, rfl, hk⟩ := o0
 obtain ⟨n, a, b, c, rfl, hn⟩ := o1
 exact cnil_main key n a b c s hk hn W (sha_live hL)
end Go.Proofs.YtmibndkofoldkaaGreatDoor
