/- Laws for a deletion inside a slice of the call's own: an append in place, a clear. No condition. -/
import Derived.Test.YtajoahhjgloefaaApp
namespace Go.Proofs.Ytajoahhjgloefaa
open Go.RowKit

section
variable {P : Program} {w : World} {base g : Nat} {e t : TypeId} {size bytes n cap : Nat} {xs : List Value}
theorem own_cut (h : w.ownsRow base e size (.slice (some ⟨g, 0, none⟩) n cap) n xs) {i : Nat} (hi : i ≤ n) : w.ownsRow base e size (.slice (some ⟨g, 0, none⟩) i cap) i (xs.take (i * size)) := by
  have hm : i * size ≤ n * size := Nat.mul_le_mul_right _ hi
  refine ⟨by rw [List.length_take, h.1]; omega, ?_⟩
  rcases h.2 with ⟨h', _⟩ | ⟨g', cap', cur, h', hb, hg, hnc, hcm, hcs, htake⟩
  · simp at h'
  · simp only [Value.slice.injEq, Option.some.injEq, Addr.mk.injEq, and_true, true_and] at h'
    obtain ⟨rfl, rfl⟩ := h'
    refine .inr ⟨g, cap, cur, rfl, hb, hg, by omega, hcm, hcs, ?_⟩
    rw [← htake, List.take_take, Nat.min_eq_left hm]

/-- append within the capacity: in place. -/
theorem run_app_fits (E : ElemOf P t e size bytes) (ty : TypeId) (hown : w.ownsRow base e size (.slice (some ⟨g, 0, none⟩) n cap) n xs)
    {p : Nat → Prop} (X : Option Addr) (m c : Nat) (news : List Value) (hr : Rd p w size X m news) (h1 : ∀ u ∈ news, u.oneCell' = true) (hroom : n + m ≤ cap) :
    ∃ w', (Builtin.append_ #[t, t] ty #[.slice (some ⟨g, 0, none⟩) n cap, .slice X m c]).run P w = .ok (.slice (some ⟨g, 0, none⟩) (n + m) cap) w' ∧
      w'.ownsRow base e size (.slice (some ⟨g, 0, none⟩) (n + m) cap) (n + m) (xs ++ news) ∧ Fr (fun k => k = g) w w' := by
  obtain ⟨i, z, hi, hz, hsize, hby, hzs⟩ := E.info
  rcases X with _ | ad
  · have hm : m = 0 := by
      rcases Nat.eq_zero_or_pos m with h0 | h0
      · exact h0
      · obtain ⟨ad, h, _⟩ := hr.2 h0
        cases h
    subst hm
    have hn : news = [] := List.eq_nil_of_length_eq_zero (by simpa using hr.1)
    subst hn
    exact ⟨w, run_append_nothing w base t ty e i size E.ht hi _ n xs hown c, by simpa using hown, Fr.refl _ _⟩
  · have hcells : ∀ j u, news[j]? = some u → w.cell? (ad.add j) = some u := by
      intro j u hu
      rcases Nat.eq_zero_or_pos m with h0 | h0
      · subst h0
        have hn : news = [] := List.eq_nil_of_length_eq_zero (by simpa using hr.1)
        subst hn
        simp at hu
      · obtain ⟨ad', h, _, _, hc⟩ := hr.2 h0
        injection h with h
        subst h
        exact hc j u hu
    obtain ⟨w', hrun, h2, h3⟩ := run_append_fits (P := P) w base t ty e i size E.ht hi hsize g n cap xs hown ad m c news hr.1 hcells h1 hroom
    exact ⟨w', hrun, h2, (Fr.refl _ _).grown h3 (fun k _ hk => by injection hk with hk; exact hk.symm)⟩

theorem step_app_fits (E : ElemOf P t e size bytes) {ops : Array Oper} {o : Oper} {a : Act} {K : Act → World → Prop} {Q : Exit → Act → World → Prop} {F : Prop} (hgd : o.guard = none) (s x : Operand)
    (ho : o.op = .call { callee := .builtin .append, args := #[s, x], argTypes := #[t, t] })
    (hs : a.eval s = .slice (some ⟨g, 0, none⟩) n cap) (hown : w.ownsRow base e size (.slice (some ⟨g, 0, none⟩) n cap) n xs)
    {p : Nat → Prop} (X : Option Addr) (m c : Nat) (news : List Value) (hx : a.eval x = .slice X m c) (hr : Rd p w size X m news) (h1 : ∀ u ∈ news, u.oneCell' = true) (hroom : n + m ≤ cap)
    (h : ∀ w', w'.ownsRow base e size (.slice (some ⟨g, 0, none⟩) (n + m) cap) (n + m) (xs ++ news) → Fr (fun k => k = g) w w' → K (a.put o.dst (.slice (some ⟨g, 0, none⟩) (n + m) cap)) w') :
    if Region.wanted o (yielded ops a.tmps) = true then Oper.wp P o a w K Q else F := by
  have hw : Region.wanted o (yielded ops a.tmps) = true := by simp [Region.wanted, hgd]
  rw [if_pos hw]
  obtain ⟨w', hrun, h2, h3⟩ := run_app_fits E o.type hown X m c news hr h1 hroom
  unfold Oper.wp execOp
  simp only [ho, resolve, invoke, builtin, Sem.run_bind, Sem.run_pure, Result.andThen_ok, List.map_toArray, List.map_cons, List.map_nil, hs, hx, hrun]
  exact h w' h2 h3

/-- clear of what lies behind the owned elements, within the capacity. -/
theorem run_clear_own (ht : P.underlying t = some (.slice e)) {z : Value} (hv : ∀ w, (zeroValue e).run P w = .ok z w) (hz : z.cells.size = size) (h1 : ∀ v ∈ z.cells, v.oneCell' = true) (ty : TypeId)
    (hown : w.ownsRow base e size (.slice (some ⟨g, 0, none⟩) n cap) n xs) (m c o : Nat) (ho : o = n * size) (hroom : n + m ≤ cap) :
    ∃ w', (Builtin.clear_ #[t] ty #[.slice (some ⟨g, o, none⟩) m c]).run P w = .ok (.tuple #[]) w' ∧ w'.ownsRow base e size (.slice (some ⟨g, 0, none⟩) n cap) n xs ∧ Fr (fun k => k = g) w w' := by
  subst ho
  rcases Nat.eq_zero_or_pos m with rfl | hm
  · refine ⟨w, ?_, hown, Fr.refl _ _⟩
    simp [Builtin.clear_, run_underlying ht]
  obtain ⟨m, rfl⟩ : ∃ k, m = k + 1 := ⟨m - 1, by omega⟩
  rcases hown.2 with ⟨h', _⟩ | ⟨g', cap', cur, h', hb, hg, hnc, hcm, hcs, htake⟩
  · simp at h'
  · simp only [Value.slice.injEq, Option.some.injEq, Addr.mk.injEq, and_true, true_and] at h'
    obtain ⟨rfl, rfl⟩ := h'
    have hzl : (Builtin.zeroCells z.cells (m + 1)).toList.length = (m + 1) * size := by rw [Array.length_toList, size_zeroCells, hz]
    have hfit : n * size + (m + 1) * size ≤ cur.size := by rw [hcs, ← Nat.add_mul]; exact Nat.mul_le_mul_right _ hroom
    have hone : ∀ v ∈ (Builtin.zeroCells z.cells (m + 1)).toList, v.oneCell' = true := by
      intro v hv'
      rw [Array.mem_toList_iff, Builtin.zeroCells, Array.mem_map] at hv'
      obtain ⟨i, hi, rfl⟩ := hv'
      rw [Array.mem_range] at hi
      have hs : 0 < z.cells.size := by
        rcases Nat.eq_zero_or_pos z.cells.size with h0 | h0
        · rw [h0, Nat.mul_zero] at hi; omega
        · exact h0
      rw [getElem!_pos z.cells _ (Nat.mod_lt _ hs)]
      exact h1 _ (Array.getElem_mem _)
    have hst := run_storeCells_at (P := P) g (n * size) e (Builtin.zeroCells z.cells (m + 1)).toList 0 cur w hg (by rw [hzl]; omega) hone
    simp only [Nat.add_zero] at hst
    refine ⟨_, (by simp only [Builtin.clear_]; simp only [Sem.run_bind, run_underlying ht, Result.andThen_ok, hv, hst, List.getElem?_toArray, List.getElem?_cons_zero]; rfl), ⟨hown.1, .inr ⟨g, cap, _, rfl, hb, setRow_heap w g cur _ e _ hg, hnc, hcm, ?_, ?_⟩⟩,
      ⟨rfl, rfl, rfl, by simp, fun k _ hk => setRow_other w g k _ hk⟩⟩
    · simp only [List.size_toArray, List.length_append, List.length_take, List.length_drop, Array.length_toList, hzl]
      simp only [Array.length_toList] at hzl
      omega
    · have hl : (cur.toList.take (n * size)).length = n * size := by simp; omega
      rw [List.append_assoc, List.take_append_of_le_length (by omega), List.take_take, Nat.min_self, htake]
end
end Go.Proofs.Ytajoahhjgloefaa
