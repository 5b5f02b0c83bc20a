/- Arguments opened, with the row's own bound on what is read. No condition. -/
import Derived.Test.YtfhinmjpokollaaOpen
import Derived.SizedLaws
namespace Go.Proofs.Ytfhinmjpokollaa
set_option linter.unusedVariables false
set_option linter.unusedSimpArgs false
set_option linter.constructorNameAsVariable false
open Go.RowKit Go.ChangeShapes Go.WideShapes Go.Deep

/-- Each string, slice and map that this datum holds takes no more than the reach. -/
def Sz {H : Type} (P : Program) (t : TypeId) (d : DataW H) : Prop := (d.weights P t).all (· ≤ reachBytes) = true

section
variable {H : Type} {enc : TypeId × Value → H} {P : Program} {w : World}
theorem Sz.of {ts : List TypeId} {ds : List (DataW H)} (h : (DataW.weightsEach P ts ds).all (· ≤ reachBytes) = true) {j : Nat} {t : TypeId} {d : DataW H} (ht : ts[j]? = some t) (hd : ds[j]? = some d) : Sz P t d := by
  unfold Sz
  rw [List.all_eq_true] at h ⊢
  exact fun x hx => h x (DataW.weights_mem_each ht hd x hx)
theorem weights_mem_all {e : TypeId} : ∀ {ds : List (DataW H)} {d : DataW H}, d ∈ ds → ∀ n ∈ d.weights P e, n ∈ DataW.weightsAll P e ds
  | d0 :: ds, d, hd, n, hn => by
    rcases List.mem_cons.1 hd with rfl | hd
    · simp only [DataW.weightsAll, List.mem_append]; exact .inl hn
    · simp only [DataW.weightsAll, List.mem_append]; exact .inr (weights_mem_all hd n hn)
theorem Sz.slice {t e : TypeId} (ht : P.underlying t = some (.slice e)) {xs ys : List (DataW H)} (h : Sz P t (.slice xs ys)) : (xs.length + ys.length) * P.bytesOf e ≤ reachBytes ∧ ∀ d ∈ xs, Sz P e d := by
  unfold Sz at h
  simp only [DataW.weights, ht, List.all_cons, List.all_append, Bool.and_eq_true, decide_eq_true_eq] at h
  refine ⟨h.1, fun d hd => ?_⟩
  unfold Sz
  rw [List.all_eq_true]
  exact fun x hx => List.all_eq_true.1 h.2.1 x (weights_mem_all hd x hx)
theorem Sz.struct {t : TypeId} {fs : Array Field} (ht : P.underlying t = some (.struct fs)) {xs : List (DataW H)} (h : Sz P t (.agg xs)) {j : Nat} {f : Field} {d : DataW H} (hf : fs[j]? = some f) (hd : xs[j]? = some d) : Sz P f.type d := by
  unfold Sz at h
  simp only [DataW.weights, ht] at h
  exact Sz.of h (j := j) (by simp [hf]) hd
theorem Sz.array {t e : TypeId} {n : Nat} (ht : P.underlying t = some (.array n e)) {xs : List (DataW H)} (h : Sz P t (.agg xs)) : ∀ d ∈ xs, Sz P e d := by
  intro d hd
  unfold Sz at h ⊢
  simp only [DataW.weights, ht] at h
  rw [List.all_eq_true] at h ⊢
  exact fun x hx => h x (weights_mem_all hd x hx)

/-- A slice of elements of k cells, each opened; it takes no more than the reach. -/
theorem trod_slk {t e : TypeId} (ht : P.underlying t = some (.slice e)) {α : Type} (f : α → List Value) (k : Nat) (hk : P.cellsOf e = k) (hpos : 0 < k) (Good : α → Prop)
    (hel : ∀ (cs : List Value) (m : Nat) (y : DataW H × List MemPlace), cs.length = k → DataW.trod enc P w 0 (fun _ => true) true m e cs = some y → Sz P e y.1 → ∃ x : α, f x = cs ∧ Good x)
    {fuel : Nat} {v : Value} {y : DataW H × List MemPlace} (h : DataW.trod enc P w 0 (fun _ => true) true fuel t [v] = some y) (hs : Sz P t y.1) :
    ∃ (A : Option Addr) (n c : Nat) (L : List α), v = .slice A n c ∧ n ≤ c ∧ c ≤ maxLen ∧ c * P.bytesOf e ≤ reachBytes ∧ L.length = n ∧ Rd (fun b => b < w.heap.size) w k A n (L.flatMap f) ∧ (∀ x ∈ L, Good x) ∧ (∀ x ∈ L, (f x).length = k) := by
  rcases open_slice ht h with ⟨hcs, _⟩ | ⟨a, len, cap, m, n, D, Pl, hcs, _, hl, hm, hmm, rfl, hi⟩
  · simp at hcs
    subst hcs
    exact ⟨none, 0, 0, [], rfl, Nat.le_refl _, Nat.zero_le _, by simp, rfl, Rd.nil, by simp, by simp⟩
  · simp at hcs
    subst hcs
    simp at hmm
    subst hmm
    obtain ⟨hs1, hs2⟩ := hs.slice ht
    simp only [List.length_map, List.length_range] at hs1
    have key : ∀ i, i < len → ∃ x : α, Good x ∧ (f x).length = k ∧ ∀ j, j < k → w.cell? (a.add (i * k + j)) = (f x)[j]? := by
      intro i hin
      obtain ⟨cs', hc, htr⟩ := hi i (by omega)
      rw [hk] at hc
      obtain ⟨_, hcl, hat⟩ := World.cells?_some hc
      obtain ⟨x, hx, hg⟩ := hel cs' n (D i, Pl i) hcl htr (hs2 _ (List.mem_map_of_mem (List.mem_range.2 hin)))
      refine ⟨x, hg, by rw [hx]; exact hcl, fun j hj => ?_⟩
      rw [hx, ← hat j hj, add_add']
    obtain ⟨L, hL, hQ⟩ := list_of len key
    have hlen : ∀ x ∈ L, (f x).length = k := fun x hx => by obtain ⟨i, hi, rfl⟩ := List.getElem_of_mem hx; exact (hQ i hi).2.1
    refine ⟨some a, len, _, L, rfl, hl, hm, by rw [Nat.add_sub_cancel' hl] at hs1; exact hs1, hL, ⟨by rw [fm_len f k L hlen, hL], fun hn => ⟨a, rfl, ?_, ?_, ?_⟩⟩, fun x hx => by obtain ⟨i, hi, rfl⟩ := List.getElem_of_mem hx; exact (hQ i hi).1, hlen⟩
    · have h0 := (hQ 0 (by omega)).2.2 0 hpos
      have hs : (f (L[0]'(by omega)))[0]? = some ((f (L[0]'(by omega)))[0]'(by rw [hlen _ (List.getElem_mem _)]; exact hpos)) := List.getElem?_eq_getElem _
      rw [hs] at h0
      have := World.block_lt_of_cell? w _ h0
      rwa [add_block] at this
    · have h0 := (hQ 0 (by omega)).2.2 0 hpos
      have hs : (f (L[0]'(by omega)))[0]? = some ((f (L[0]'(by omega)))[0]'(by rw [hlen _ (List.getElem_mem _)]; exact hpos)) := List.getElem?_eq_getElem _
      rw [hs] at h0
      have := World.block_lt_of_cell? w _ h0
      rwa [add_block] at this
    · intro q u hu
      obtain ⟨i, j, hil, hj, rfl, hu'⟩ := fm_out f k hpos L hlen q u hu
      rw [(hQ i hil).2.2 j hj, hu']

/-- A field of one cell, out of a struct's reading, sized. -/
theorem field_s {ts : TypeId} {fs : Array Field} (hs : P.underlying ts = some (.struct fs)) {m : Nat} {cs : List Value} {y : DataW H × List MemPlace} (h : DataW.trod enc P w 0 (fun _ => true) true m ts cs = some y) (hz : Sz P ts y.1) {j : Nat} {fd : Field} (hf : fs[j]? = some fd) (hc : P.cellsOf fd.type = 1) (hlt : fd.offset < cs.length) :
    ∃ n z, DataW.trod enc P w 0 (fun _ => true) true n fd.type [cs[fd.offset]] = some z ∧ Sz P fd.type z.1 := by
  obtain ⟨xs, n, _, rfl, _, hlen, hg⟩ := DataW.trod_struct hs h
  have := hg j fd hf
  rw [hc, List.drop_eq_getElem_cons hlt] at this
  have hj : j < xs.length := by rw [hlen]; exact (Array.getElem?_eq_some_iff.1 hf).1
  rw [List.getElem?_eq_getElem hj] at this
  exact ⟨n, _, this, hz.struct hs hf (by simp [hj])⟩

/-- A slice of integers of a kind, with their bounds. -/
theorem trod_ints {t e : TypeId} {k : IntKind} (ht : P.underlying t = some (.slice e)) (he : P.underlying e = some (.int k)) (hc : P.cellsOf e = 1)
    {fuel : Nat} {v : Value} {y : DataW H × List MemPlace} (h : DataW.trod enc P w 0 (fun _ => true) true fuel t [v] = some y) (hs : Sz P t y.1) :
    ∃ (A : Option Addr) (n c : Nat) (xs : List Int), v = .slice A n c ∧ n ≤ c ∧ c ≤ maxLen ∧ c * P.bytesOf e ≤ reachBytes ∧ xs.length = n ∧ Rd (fun b => b < w.heap.size) w 1 A n (xs.map (Value.int k)) ∧ ∀ x ∈ xs, (Lit.int k x).wf = true := by
  obtain ⟨A, n, c, L, h1, h2, h3, h4, h5, h6, h7, -⟩ := trod_slk (k := 1) ht (fun x : Int => [Value.int k x]) hc (by omega) (fun x => (Lit.int k x).wf = true) (fun cs m y hl ht' _ => by
    obtain ⟨a, rfl, _, g⟩ := DataW.trod_int he ht'
    exact ⟨a, rfl, g⟩) h hs
  refine ⟨A, n, c, L, h1, h2, h3, h4, h5, ?_, h7⟩
  rwa [show L.flatMap (fun x => [Value.int k x]) = L.map (Value.int k) from List.map_eq_flatMap.symm] at h6
end
end Go.Proofs.Ytfhinmjpokollaa
