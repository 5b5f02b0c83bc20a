/- Texts of one proof, one behind the other: KvQ, OpenS, OpenA, KvR. No condition but each one's own. -/
import Derived.Test.YtfhinmjpokollaaKvBytesM8
import Derived.Sort.Walk0
import Derived.Test.YtfhinmjpokollaaKvBytesM3
import Derived.SizedLaws
import Derived.OpenShut
/- In plain words: the reference's list of changes, in order of the keys, goes as the table goes. No condition but nodup keys of bytes. -/
namespace Go.Proofs.Ytfhinmjpokollaa
set_option linter.unusedVariables false
set_option linter.unusedSimpArgs false
set_option linter.constructorNameAsVariable false
open Go.RowKit Go.Maps Go.Sort

def cl (L : List Ch) : CT := L.map fun c => (c.k.xs, c.v.xs)
def lek (a b : List Int × List Int) : Bool := leB (sb a.1) (sb b.1)
theorem sb_toList (xs : List Int) : (strOfNums xs).toList = sb xs := by
  unfold sb
  exact ByteArray.toList_eq _
theorem geS_eq (x y : List Int) : geS x y = leB (sb y) (sb x) := by
  unfold geS
  rw [sb_toList, sb_toList, bytesLess_eq]
  unfold leB
  by_cases h : sb x < sb y
  · have : ¬ sb y ≤ sb x := List.not_le.2 h
    simp [h, this]
  · have : sb y ≤ sb x := List.not_lt.1 h
    simp [h, this]
theorem sb_inj {xs ys : List Int} (hx : Byt xs) (hy : Byt ys) (h : sb xs = sb ys) : xs = ys := by
  refine key_inj hx hy ?_
  unfold key
  unfold sb at h
  rw [h]
theorem lek_trans (a b c : List Int × List Int) (h1 : lek a b = true) (h2 : lek b c = true) : lek a c = true := by
  simp only [lek, leB, decide_eq_true_eq] at *
  exact List.le_trans h1 h2
theorem lek_total (a b : List Int × List Int) : (lek a b || lek b a) = true := by
  simp only [lek, leB, Bool.or_eq_true, decide_eq_true_eq]
  exact List.le_total _ _
theorem geS_refl (x : List Int) : geS x x = true := by
  rw [geS_eq]
  simp [leB]
theorem tw_mem {α : Type} {p : α → Bool} {l : List α} : ∀ x ∈ l.takeWhile p, p x = true := by
  induction l with
  | nil => intro x hx; cases hx
  | cons y l ih =>
    intro x hx
    by_cases h : p y = true
    · rw [List.takeWhile_cons_of_pos h] at hx
      rcases List.mem_cons.1 hx with rfl | hx
      · exact h
      · exact ih x hx
    · rw [List.takeWhile_cons_of_neg h] at hx
      cases hx
theorem tw_all {α : Type} {p : α → Bool} {l : List α} (h : ∀ x ∈ l, p x = true) : l.takeWhile p = l := by
  induction l with
  | nil => rfl
  | cons y l ih =>
    rw [List.takeWhile_cons_of_pos (h y (List.mem_cons_self ..)), ih fun x hx => h x (List.mem_cons_of_mem _ hx)]
section
variable (c : Ch)
theorem rstep_true (R : List Ch) (x : Ch) : rstep geS c (R, true) x = (if x.k.xs = c.k.xs then R else R ++ [x], true) := by
  unfold rstep
  simp
theorem rfold_true (L : List Ch) (R : List Ch) : L.foldl (rstep geS c) (R, true) = (R ++ L.filter (fun x => decide (x.k.xs ≠ c.k.xs)), true) := by
  induction L generalizing R with
  | nil => simp
  | cons x L ih =>
    rw [List.foldl_cons, rstep_true, ih]
    by_cases h : x.k.xs = c.k.xs
    · simp [h]
    · simp [h]
theorem rfold_false (L : List Ch) (R : List Ch) : L.foldl (rstep geS c) (R, false) =
    if L.all (fun x => !geS x.k.xs c.k.xs) then (R ++ L, false) else (R ++ L.takeWhile (fun x => !geS x.k.xs c.k.xs) ++ [c] ++ (L.dropWhile (fun x => !geS x.k.xs c.k.xs)).filter (fun x => decide (x.k.xs ≠ c.k.xs)), true) := by
  induction L generalizing R with
  | nil => simp
  | cons x L ih =>
    rw [List.foldl_cons]
    by_cases hg : geS x.k.xs c.k.xs = true
    · have hs : rstep geS c (R, false) x = (if x.k.xs = c.k.xs then R ++ [c] else R ++ [c] ++ [x], true) := by
        unfold rstep
        simp [hg]
      rw [hs, rfold_true]
      have hna : ¬ (x :: L).all (fun x => !geS x.k.xs c.k.xs) = true := fun h => by
        have := List.all_eq_true.1 h x (List.mem_cons_self ..)
        rw [hg] at this
        cases this
      rw [if_neg hna, List.takeWhile_cons_of_neg (by rw [hg]; decide), List.dropWhile_cons_of_neg (by rw [hg]; decide)]
      by_cases h : x.k.xs = c.k.xs
      · rw [if_pos h, List.filter_cons_of_neg (by simpa using h), List.append_nil]
      · rw [if_neg h, List.filter_cons_of_pos (by simpa using h), List.append_nil, List.append_assoc, List.append_assoc, List.append_assoc]
        rfl
    · have hg : geS x.k.xs c.k.xs = false := by simpa using hg
      have hne : ¬ x.k.xs = c.k.xs := fun e => by rw [e, geS_refl] at hg; cases hg
      have hs : rstep geS c (R, false) x = (R ++ [x], false) := by
        unfold rstep
        simp [hg, hne]
      rw [hs, ih, List.takeWhile_cons_of_pos (by simp [hg]), List.dropWhile_cons_of_pos (by simp [hg])]
      by_cases ha : L.all (fun x => !geS x.k.xs c.k.xs) = true
      · rw [if_pos ha, if_pos (by simp [hg]; simpa using ha)]
        simp
      · rw [if_neg ha, if_neg (by simp [hg]; simpa using ha)]
        simp
theorem rapp_eq (L : List Ch) : rapp geS c L = if c.d then L.filter (fun x => decide (x.k.xs ≠ c.k.xs)) else L.takeWhile (fun x => !geS x.k.xs c.k.xs) ++ [c] ++ (L.dropWhile (fun x => !geS x.k.xs c.k.xs)).filter (fun x => decide (x.k.xs ≠ c.k.xs)) := by
  unfold rapp rfold
  cases c.d
  · rw [rfold_false]
    by_cases ha : L.all (fun x => !geS x.k.xs c.k.xs) = true
    · rw [if_pos ha]
      have h1 : L.takeWhile (fun x => !geS x.k.xs c.k.xs) = L := by
        exact tw_all (List.all_eq_true.1 ha)
      have h2 : L.dropWhile (fun x => !geS x.k.xs c.k.xs) = [] := by
        have := List.takeWhile_append_dropWhile (p := fun x => !geS x.k.xs c.k.xs) (l := L)
        rw [h1] at this
        simpa using this
      rw [h1, h2]
      simp
    · rw [if_neg ha]
      simp
  · rw [rfold_true]
    simp
theorem rapp_perm (L : List Ch) : (rapp geS c L).Perm (if c.d then L.filter (fun x => decide (x.k.xs ≠ c.k.xs)) else L.filter (fun x => decide (x.k.xs ≠ c.k.xs)) ++ [c]) := by
  rw [rapp_eq]
  cases c.d
  · rw [if_neg (by simp), if_neg (by simp)]
    have h : L.filter (fun x => decide (x.k.xs ≠ c.k.xs)) = L.takeWhile (fun x => !geS x.k.xs c.k.xs) ++ (L.dropWhile (fun x => !geS x.k.xs c.k.xs)).filter (fun x => decide (x.k.xs ≠ c.k.xs)) := by
      conv => lhs; rw [← List.takeWhile_append_dropWhile (p := fun x => !geS x.k.xs c.k.xs) (l := L)]
      rw [List.filter_append]
      congr 1
      rw [List.filter_eq_self]
      intro x hx
      have := tw_mem x hx
      simp only [decide_eq_true_eq]
      intro e
      rw [e, geS_refl] at this
      cases this
    rw [h, List.append_assoc, List.append_assoc]
    exact List.Perm.append_left _ List.perm_append_comm
  · exact List.Perm.refl _
end
theorem cl_filter (L : List Ch) (k : List Int) : cl (L.filter (fun x => decide (x.k.xs ≠ k))) = cdel (cl L) k := by
  unfold cl cdel
  rw [List.filter_map]
  rfl
/-- The keys of a table of bytes, each once. -/
structure Kn (T : CT) : Prop where
  nd : (T.map Prod.fst).Nodup
  byt : ∀ e ∈ T, Byt e.1
theorem Kn.perm {T T' : CT} (h : Kn T) (hp : T.Perm T') : Kn T' := ⟨((hp.map Prod.fst).nodup_iff).1 h.nd, fun e he => h.byt e (hp.mem_iff.2 he)⟩
theorem Kn.del {T : CT} (h : Kn T) (k : List Int) : Kn (cdel T k) := ⟨(List.Sublist.map _ List.filter_sublist).nodup h.nd, fun e he => h.byt e (List.mem_filter.1 he).1⟩
theorem Kn.put {T : CT} (h : Kn T) {k v : List Int} (hk : Byt k) : Kn (cput T k v) := by
  refine ⟨?_, fun e he => ?_⟩
  · unfold cput
    rw [List.map_append, List.nodup_append]
    refine ⟨(h.del k).nd, by simp, fun x hx y hy e => ?_⟩
    simp at hy
    subst hy e
    simp [cdel] at hx
  · rcases List.mem_append.1 he with he | he
    · exact (h.del k).byt e he
    · rw [List.mem_singleton.1 he]
      exact hk
theorem Kn.doC {T : CT} (h : Kn T) {c : Ch} (hk : Byt c.k.xs) : Kn (doC T c) := by
  unfold Go.Proofs.Ytfhinmjpokollaa.doC
  split
  · exact h.del _
  · exact h.put hk
theorem nd_inj {T : CT} (h : (T.map Prod.fst).Nodup) {a b : List Int × List Int} (ha : a ∈ T) (hb : b ∈ T) (e : a.1 = b.1) : a = b := by
  induction T with
  | nil => cases ha
  | cons x T ih =>
    rw [List.map_cons, List.nodup_cons] at h
    rcases List.mem_cons.1 ha with h1 | ha <;> rcases List.mem_cons.1 hb with h2 | hb
    · rw [h1, h2]
    · exact absurd (List.mem_map.2 ⟨b, hb, by rw [← e, h1]⟩) h.1
    · exact absurd (List.mem_map.2 ⟨a, ha, by rw [e, h2]⟩) h.1
    · exact ih h.2 ha hb
/-- In order, and the same: equal. -/
theorem sct_unique {l T : CT} (hs : l.Pairwise (fun a b => lek a b = true)) (hp : l.Perm T) (hT : Kn T) : l = sct T := by
  refine List.Perm.eq_of_pairwise (le := fun a b => lek a b = true) (fun a b ha hb h1 h2 => ?_) hs (List.pairwise_mergeSort lek_trans lek_total T) (hp.trans (List.mergeSort_perm T _).symm)
  have ha : a ∈ T := hp.mem_iff.1 ha
  have hb : b ∈ T := (List.mergeSort_perm T _).mem_iff.1 hb
  refine nd_inj hT.nd ha hb (sb_inj (hT.byt a ha) (hT.byt b hb) ?_)
  simp only [lek, leB, decide_eq_true_eq] at h1 h2
  exact List.le_antisymm h1 h2
theorem sct_sorted (T : CT) : (sct T).Pairwise (fun a b => lek a b = true) := List.pairwise_mergeSort lek_trans lek_total T
theorem sct_perm (T : CT) : (sct T).Perm T := List.mergeSort_perm T _
theorem drop_ge {L : List Ch} {k : List Int} (hs : (cl L).Pairwise (fun a b => lek a b = true)) : ∀ x ∈ L.dropWhile (fun x => !geS x.k.xs k), geS x.k.xs k = true := by
  induction L with
  | nil => intro x hx; cases hx
  | cons y L ih =>
    intro x hx
    have hs' : (cl (y :: L)).Pairwise (fun a b => lek a b = true) := hs
    unfold cl at hs
    rw [List.map_cons, List.pairwise_cons] at hs
    by_cases hg : geS y.k.xs k = true
    · rw [List.dropWhile_cons_of_neg (by simp [hg])] at hx
      rcases List.mem_cons.1 hx with rfl | hx
      · exact hg
      · have h1 := hs.1 _ (List.mem_map.2 ⟨x, hx, rfl⟩)
        rw [geS_eq] at hg ⊢
        simp only [lek, leB, decide_eq_true_eq] at h1 hg ⊢
        exact List.le_trans hg h1
    · rw [List.dropWhile_cons_of_pos (by simpa using hg)] at hx
      exact ih hs.2 x hx
theorem rapp_sorted {L : List Ch} (c : Ch) (hs : (cl L).Pairwise (fun a b => lek a b = true)) : (cl (rapp geS c L)).Pairwise (fun a b => lek a b = true) := by
  rw [rapp_eq]
  have hsub : ∀ {M : List Ch}, M.Sublist L → (cl M).Pairwise (fun a b => lek a b = true) := fun h => hs.sublist (h.map _)
  cases c.d
  · rw [if_neg (by simp)]
    unfold cl
    rw [List.map_append, List.map_append, List.append_assoc, List.pairwise_append]
    refine ⟨hsub (List.takeWhile_sublist _), ?_, ?_⟩
    · rw [List.map_cons, List.map_nil, List.singleton_append, List.pairwise_cons]
      refine ⟨fun e he => ?_, hsub (List.filter_sublist.trans (List.dropWhile_sublist _))⟩
      obtain ⟨x, hx, rfl⟩ := List.mem_map.1 he
      have := drop_ge (k := c.k.xs) hs x (List.mem_filter.1 hx).1
      rw [geS_eq] at this
      exact this
    · intro a ha b hb
      obtain ⟨x, hx, rfl⟩ := List.mem_map.1 ha
      have h1 := tw_mem x hx
      rw [geS_eq] at h1
      simp only [leB, Bool.not_eq_true', decide_eq_false_iff_not] at h1
      have h1 := List.le_of_lt (List.not_le.1 h1)
      rcases List.mem_append.1 hb with hb | hb
      · rw [List.map_cons, List.map_nil, List.mem_singleton] at hb
        subst hb
        simp only [lek, leB, decide_eq_true_eq]
        exact h1
      · obtain ⟨y, hy, rfl⟩ := List.mem_map.1 hb
        have h2 := drop_ge (k := c.k.xs) hs y (List.mem_filter.1 hy).1
        rw [geS_eq] at h2
        simp only [lek, leB, decide_eq_true_eq] at h2 ⊢
        exact List.le_trans h1 h2
  · rw [if_pos rfl]
    exact hsub List.filter_sublist
theorem rapp_sct {L : List Ch} {T : CT} (c : Ch) (h : cl L = sct T) (hT : Kn T) (hk : Byt c.k.xs) : cl (rapp geS c L) = sct (doC T c) := by
  refine sct_unique (rapp_sorted c (by rw [h]; exact sct_sorted T)) ?_ (hT.doC hk)
  have hp : (cl (rapp geS c L)).Perm _ := (rapp_perm c L).map _
  refine hp.trans ?_
  unfold doC
  cases c.d
  · rw [if_neg (by simp), if_neg (by simp), List.map_append]
    unfold cput
    refine List.Perm.append_right _ ?_
    have : (cl (L.filter (fun x => decide (x.k.xs ≠ c.k.xs)))).Perm (cdel T c.k.xs) := by
      rw [cl_filter, h]
      exact (sct_perm T).filter _
    exact this
  · rw [if_pos rfl, if_pos rfl]
    have : (cl (L.filter (fun x => decide (x.k.xs ≠ c.k.xs)))).Perm (cdel T c.k.xs) := by
      rw [cl_filter, h]
      exact (sct_perm T).filter _
    exact this
theorem rdo_sct {L : List Ch} {T : CT} (C : List Ch) (h : cl L = sct T) (hT : Kn T) (hk : ∀ c ∈ C, Byt c.k.xs) : cl (rdo L C) = sct (doCs T C) ∧ Kn (doCs T C) := by
  induction C generalizing L T with
  | nil => exact ⟨h, hT⟩
  | cons c C ih =>
    have hc := hk c (List.mem_cons_self ..)
    exact ih (rapp_sct c h hT hc) (hT.doC hc) (fun x hx => hk x (List.mem_cons_of_mem _ hx))
theorem kn_cont {E : Tab} (h1 : (E.map Prod.fst).Nodup) (h2 : ∀ e ∈ E, Byt e.1) : Kn (cont E) := by
  refine ⟨?_, fun e he => ?_⟩
  · unfold cont
    rw [List.map_map]
    exact h1
  · obtain ⟨x, hx, rfl⟩ := List.mem_map.1 he
    exact h2 x hx
theorem cl_look (L : List Ch) (k : List Int) : (rfind L k).map Fm.xs = (cl L).lookup k := by
  unfold rfind cl
  induction L with
  | nil => rfl
  | cons c L ih =>
    rw [List.map_cons, List.lookup_cons]
    by_cases h : c.k.xs = k
    · rw [List.find?_cons_of_pos (by simpa using h)]
      have : (k == c.k.xs) = true := by simpa using h.symm
      rw [this]
      rfl
    · rw [List.find?_cons_of_neg (by simpa using h)]
      have : (k == c.k.xs) = false := by simpa using fun e => h e.symm
      rw [this]
      exact ih
theorem ct_mem_look {T : CT} (hn : (T.map Prod.fst).Nodup) {e : List Int × List Int} (h : e ∈ T) : T.lookup e.1 = some e.2 := by
  induction T with
  | nil => cases h
  | cons d T ih =>
    obtain ⟨x, u⟩ := d
    rw [List.map_cons, List.nodup_cons] at hn
    rcases List.mem_cons.1 h with rfl | h
    · simp
    · rw [List.lookup_cons]
      have : (e.1 == x) = false := by
        simp
        intro hx
        exact hn.1 (hx ▸ List.mem_map.2 ⟨e, h, rfl⟩)
      rw [this]
      exact ih hn.2 h
theorem ct_look_mem {T : CT} {k v : List Int} (h : T.lookup k = some v) : (k, v) ∈ T := by
  induction T with
  | nil => simp at h
  | cons e T ih =>
    obtain ⟨x, u⟩ := e
    rw [List.lookup_cons] at h
    by_cases hx : k = x
    · subst hx
      simp at h
      simp [h]
    · have : (k == x) = false := by simpa using hx
      rw [this] at h
      exact List.mem_cons_of_mem _ (ih h)
theorem look_perm {T T' : CT} (hp : T.Perm T') (hn : (T.map Prod.fst).Nodup) (k : List Int) : T.lookup k = T'.lookup k := by
  have hn' : (T'.map Prod.fst).Nodup := ((hp.map Prod.fst).nodup_iff).1 hn
  cases h : T.lookup k with
  | some v => exact (ct_mem_look hn' (hp.mem_iff.1 (ct_look_mem h))).symm
  | none =>
    cases h' : T'.lookup k with
    | none => rfl
    | some v =>
      have := ct_mem_look hn (hp.mem_iff.2 (ct_look_mem h'))
      rw [h] at this
      cases this
/-- What both find of a key. -/
theorem find_same {L : List Ch} {E : Tab} (h : cl L = sct (cont E)) (hT : Kn (cont E)) (k : List Int) : (rfind L k).map Fm.xs = (E.lookup k).map Fm.xs := by
  rw [cl_look, h, ← look_perm (sct_perm _).symm hT.nd k, lookup_cont]
theorem rsz_csize {L : List Ch} {T : CT} (h : cl L = sct T) (hl : ∀ c ∈ L, c.k.xs.length = c.k.n ∧ c.v.xs.length = c.v.n) : rsz L = csize T := by
  rw [← csize_perm (sct_perm T), ← h]
  unfold rsz csize cl
  rw [List.map_map]
  congr 1
  refine List.map_congr_left fun c hc => ?_
  have := hl c hc
  simp only [Function.comp]
  omega
end Go.Proofs.Ytfhinmjpokollaa
/- Arguments opened, with the row's own bound on what is read. No condition. -/
namespace Go.Proofs.Ytfhinmjpokollaa
set_option linter.unusedVariables false
set_option linter.unusedSimpArgs false
set_option linter.constructorNameAsVariable false
open Go.RowKit Go.ChangeShapes Go.WideShapes Go.Deep

/-- Each string, slice and map that this datum holds takes no more than the reach. -/
def Sz {H : Type} (P : Program) (t : TypeId) (d : DataW H) : Prop := (d.weights P t).all (· ≤ reachBytes) = true

section
variable {H : Type} {enc : TypeId × Value → H} {P : Program} {w : World}
theorem Sz.of {ts : List TypeId} {ds : List (DataW H)} (h : (DataW.weightsEach P ts ds).all (· ≤ reachBytes) = true) {j : Nat} {t : TypeId} {d : DataW H} (ht : ts[j]? = some t) (hd : ds[j]? = some d) : Sz P t d := by
  unfold Sz
  rw [List.all_eq_true] at h ⊢
  exact fun x hx => h x (DataW.weights_mem_each ht hd x hx)
theorem weights_mem_all {e : TypeId} : ∀ {ds : List (DataW H)} {d : DataW H}, d ∈ ds → ∀ n ∈ d.weights P e, n ∈ DataW.weightsAll P e ds
  | d0 :: ds, d, hd, n, hn => by
    rcases List.mem_cons.1 hd with rfl | hd
    · simp only [DataW.weightsAll, List.mem_append]; exact .inl hn
    · simp only [DataW.weightsAll, List.mem_append]; exact .inr (weights_mem_all hd n hn)
theorem Sz.slice {t e : TypeId} (ht : P.underlying t = some (.slice e)) {xs ys : List (DataW H)} (h : Sz P t (.slice xs ys)) : (xs.length + ys.length) * P.bytesOf e ≤ reachBytes ∧ ∀ d ∈ xs, Sz P e d := by
  unfold Sz at h
  simp only [DataW.weights, ht, List.all_cons, List.all_append, Bool.and_eq_true, decide_eq_true_eq] at h
  refine ⟨h.1, fun d hd => ?_⟩
  unfold Sz
  rw [List.all_eq_true]
  exact fun x hx => List.all_eq_true.1 h.2.1 x (weights_mem_all hd x hx)
theorem Sz.struct {t : TypeId} {fs : Array Field} (ht : P.underlying t = some (.struct fs)) {xs : List (DataW H)} (h : Sz P t (.agg xs)) {j : Nat} {f : Field} {d : DataW H} (hf : fs[j]? = some f) (hd : xs[j]? = some d) : Sz P f.type d := by
  unfold Sz at h
  simp only [DataW.weights, ht] at h
  exact Sz.of h (j := j) (by simp [hf]) hd
theorem Sz.array {t e : TypeId} {n : Nat} (ht : P.underlying t = some (.array n e)) {xs : List (DataW H)} (h : Sz P t (.agg xs)) : ∀ d ∈ xs, Sz P e d := by
  intro d hd
  unfold Sz at h ⊢
  simp only [DataW.weights, ht] at h
  rw [List.all_eq_true] at h ⊢
  exact fun x hx => h x (weights_mem_all hd x hx)

/-- A slice of elements of k cells, each opened; it takes no more than the reach. -/
theorem trod_slk {t e : TypeId} (ht : P.underlying t = some (.slice e)) {α : Type} (f : α → List Value) (k : Nat) (hk : P.cellsOf e = k) (hpos : 0 < k) (Good : α → Prop)
    (hel : ∀ (cs : List Value) (m : Nat) (y : DataW H × List MemPlace), cs.length = k → DataW.trod enc P w 0 (fun _ => true) true m e cs = some y → Sz P e y.1 → ∃ x : α, f x = cs ∧ Good x)
    {fuel : Nat} {v : Value} {y : DataW H × List MemPlace} (h : DataW.trod enc P w 0 (fun _ => true) true fuel t [v] = some y) (hs : Sz P t y.1) :
    ∃ (A : Option Addr) (n c : Nat) (L : List α), v = .slice A n c ∧ n ≤ c ∧ c ≤ maxLen ∧ c * P.bytesOf e ≤ reachBytes ∧ L.length = n ∧ Rd (fun b => b < w.heap.size) w k A n (L.flatMap f) ∧ (∀ x ∈ L, Good x) ∧ (∀ x ∈ L, (f x).length = k) := by
  rcases open_slice ht h with ⟨hcs, _⟩ | ⟨a, len, cap, m, n, D, Pl, hcs, _, hl, hm, hmm, rfl, hi⟩
  · simp at hcs
    subst hcs
    exact ⟨none, 0, 0, [], rfl, Nat.le_refl _, Nat.zero_le _, by simp, rfl, Rd.nil, by simp, by simp⟩
  · simp at hcs
    subst hcs
    simp at hmm
    subst hmm
    obtain ⟨hs1, hs2⟩ := hs.slice ht
    simp only [List.length_map, List.length_range] at hs1
    have key : ∀ i, i < len → ∃ x : α, Good x ∧ (f x).length = k ∧ ∀ j, j < k → w.cell? (a.add (i * k + j)) = (f x)[j]? := by
      intro i hin
      obtain ⟨cs', hc, htr⟩ := hi i (by omega)
      rw [hk] at hc
      obtain ⟨_, hcl, hat⟩ := World.cells?_some hc
      obtain ⟨x, hx, hg⟩ := hel cs' n (D i, Pl i) hcl htr (hs2 _ (List.mem_map_of_mem (List.mem_range.2 hin)))
      refine ⟨x, hg, by rw [hx]; exact hcl, fun j hj => ?_⟩
      rw [hx, ← hat j hj, add_add']
    obtain ⟨L, hL, hQ⟩ := list_of len key
    have hlen : ∀ x ∈ L, (f x).length = k := fun x hx => by obtain ⟨i, hi, rfl⟩ := List.getElem_of_mem hx; exact (hQ i hi).2.1
    refine ⟨some a, len, _, L, rfl, hl, hm, by rw [Nat.add_sub_cancel' hl] at hs1; exact hs1, hL, ⟨by rw [fm_len f k L hlen, hL], fun hn => ⟨a, rfl, ?_, ?_, ?_⟩⟩, fun x hx => by obtain ⟨i, hi, rfl⟩ := List.getElem_of_mem hx; exact (hQ i hi).1, hlen⟩
    · have h0 := (hQ 0 (by omega)).2.2 0 hpos
      have hs : (f (L[0]'(by omega)))[0]? = some ((f (L[0]'(by omega)))[0]'(by rw [hlen _ (List.getElem_mem _)]; exact hpos)) := List.getElem?_eq_getElem _
      rw [hs] at h0
      have := World.block_lt_of_cell? w _ h0
      rwa [add_block] at this
    · have h0 := (hQ 0 (by omega)).2.2 0 hpos
      have hs : (f (L[0]'(by omega)))[0]? = some ((f (L[0]'(by omega)))[0]'(by rw [hlen _ (List.getElem_mem _)]; exact hpos)) := List.getElem?_eq_getElem _
      rw [hs] at h0
      have := World.block_lt_of_cell? w _ h0
      rwa [add_block] at this
    · intro q u hu
      obtain ⟨i, j, hil, hj, rfl, hu'⟩ := fm_out f k hpos L hlen q u hu
      rw [(hQ i hil).2.2 j hj, hu']

/-- A field of one cell, out of a struct's reading, sized. -/
theorem field_s {ts : TypeId} {fs : Array Field} (hs : P.underlying ts = some (.struct fs)) {m : Nat} {cs : List Value} {y : DataW H × List MemPlace} (h : DataW.trod enc P w 0 (fun _ => true) true m ts cs = some y) (hz : Sz P ts y.1) {j : Nat} {fd : Field} (hf : fs[j]? = some fd) (hc : P.cellsOf fd.type = 1) (hlt : fd.offset < cs.length) :
    ∃ n z, DataW.trod enc P w 0 (fun _ => true) true n fd.type [cs[fd.offset]] = some z ∧ Sz P fd.type z.1 := by
  obtain ⟨xs, n, _, rfl, _, hlen, hg⟩ := DataW.trod_struct hs h
  have := hg j fd hf
  rw [hc, List.drop_eq_getElem_cons hlt] at this
  have hj : j < xs.length := by rw [hlen]; exact (Array.getElem?_eq_some_iff.1 hf).1
  rw [List.getElem?_eq_getElem hj] at this
  exact ⟨n, _, this, hz.struct hs hf (by simp [hj])⟩

/-- A slice of integers of a kind, with their bounds. -/
theorem trod_ints {t e : TypeId} {k : IntKind} (ht : P.underlying t = some (.slice e)) (he : P.underlying e = some (.int k)) (hc : P.cellsOf e = 1)
    {fuel : Nat} {v : Value} {y : DataW H × List MemPlace} (h : DataW.trod enc P w 0 (fun _ => true) true fuel t [v] = some y) (hs : Sz P t y.1) :
    ∃ (A : Option Addr) (n c : Nat) (xs : List Int), v = .slice A n c ∧ n ≤ c ∧ c ≤ maxLen ∧ c * P.bytesOf e ≤ reachBytes ∧ xs.length = n ∧ Rd (fun b => b < w.heap.size) w 1 A n (xs.map (Value.int k)) ∧ ∀ x ∈ xs, (Lit.int k x).wf = true := by
  obtain ⟨A, n, c, L, h1, h2, h3, h4, h5, h6, h7, -⟩ := trod_slk (k := 1) ht (fun x : Int => [Value.int k x]) hc (by omega) (fun x => (Lit.int k x).wf = true) (fun cs m y hl ht' _ => by
    obtain ⟨a, rfl, _, g⟩ := DataW.trod_int he ht'
    exact ⟨a, rfl, g⟩) h hs
  refine ⟨A, n, c, L, h1, h2, h3, h4, h5, ?_, h7⟩
  rwa [show L.flatMap (fun x => [Value.int k x]) = L.map (Value.int k) from List.map_eq_flatMap.symm] at h6
end
end Go.Proofs.Ytfhinmjpokollaa
/- Arrays and structs that come by value, opened. No condition. -/
namespace Go.Proofs.Ytfhinmjpokollaa
set_option linter.unusedVariables false
set_option linter.unusedSimpArgs false
set_option linter.constructorNameAsVariable false
open Go.RowKit Go.WideShapes Go.ChangeShapes

section
variable {P : Program} {H : Type} {enc : TypeId × Value → H} {w : World}
theorem okWide_array {r : Reach} {b0 : Nat} {t e : TypeId} {n : Nat} {v : Value} (ht : P.underlying t = some (.array n e)) (h : Value.okWide P w r b0 t v) : ∃ cs : Array Value, v = .agg cs ∧ cs.size = P.cellsOf t := by
  unfold Value.okWide at h
  rw [ht] at h
  obtain ⟨cs, h1, h2, _⟩ := h
  exact ⟨cs, h1, h2⟩
/-- An array of one-cell elements: its cells, each as it reads. -/
theorem open_array {r : Reach} {b0 : Nat} {t e : TypeId} {n : Nat} {v : Value} {d : DataW H} {p : List MemPlace} (ht : P.underlying t = some (.array n e)) (hc : P.cellsOf t = n) (he : P.cellsOf e = 1)
    (hv : Value.okWide P w r b0 t v) (h : DataW.Trod enc P w 0 (fun _ => true) true t v d p) :
    ∃ cs : List Value, v = .agg cs.toArray ∧ cs.length = n ∧ ∀ (i : Nat) (hi : i < cs.length), ∃ m y, DataW.trod enc P w 0 (fun _ => true) true m e [cs[i]] = some y := by
  obtain ⟨a, rfl, hsz⟩ := okWide_array ht hv
  obtain ⟨fuel, hf⟩ := h
  obtain ⟨xs, m, _, _, _, hl, hg⟩ := DataW.trod_array ht hf
  refine ⟨a.toList, by simp, by simp [hsz, hc], fun i hi => ?_⟩
  have hi' : i < n := by simp at hi; omega
  have := hg i hi'
  rw [he, Nat.mul_one] at this
  have hx : i < xs.length := by omega
  rw [List.getElem?_eq_getElem hx, show (Value.agg a).cells.toList = a.toList from rfl, List.drop_eq_getElem_cons hi] at this
  exact ⟨m, _, this⟩
end
end Go.Proofs.Ytfhinmjpokollaa
/- The changes of kv's statements: opened; what Long says of them. No condition. -/
namespace Go.Proofs.Ytfhinmjpokollaa
set_option linter.unusedVariables false
set_option linter.unusedSimpArgs false
set_option linter.constructorNameAsVariable false
open Go.RowKit Go.Maps Go.Sort Go.WideShapes Go.ChangeShapes

/-- A change that was handed in. -/
structure Ch.Good (w : World) (c : Ch) : Prop where
  inn : c.In (fun b => b < w.heap.size) w
  kn : c.k.n ≤ 140737488355328
  vn : c.v.n ≤ 140737488355328
theorem Ch.Good.new {w w' : World} {c : Ch} (h : c.Good w) (hN : New w w') : c.Good w' := ⟨Ch.In.szs (h.inn.new hN), h.kn, h.vn⟩
section
variable {H : Type} {enc : TypeId × Value → H} {w : World}
theorem trod_ch {m : Nat} {cs : List Value} {y : DataW H × List MemPlace} (hl : cs.length = 3) (ht : DataW.trod enc Try.prog w 0 (fun _ => true) true m 41 cs = some y) (hz : Sz Try.prog 41 y.1) :
    ∃ a : Ch, a.cells = cs ∧ a.Good w := by
  match cs, hl with
  | [c0, c1, c2], _ =>
    obtain ⟨_, _, t0, z0⟩ := field_s (j := 0) Try.underlying41 ht hz rfl (by kernel_rfl) (by simp)
    obtain ⟨_, _, t1, z1⟩ := field_s (j := 1) Try.underlying41 ht hz rfl (by kernel_rfl) (by simp)
    obtain ⟨_, _, t2, _⟩ := field_s (j := 2) Try.underlying41 ht hz rfl (by kernel_rfl) (by simp)
    obtain ⟨A, n, c, xs, e0, h2, h3, h4, h5, h6, h7⟩ := trod_ints (k := .u8) Try.underlying39 Try.underlying5 (by kernel_rfl) t0 z0
    obtain ⟨B, m, d, ys, e1, k2, k3, k4, k5, k6, k7⟩ := trod_ints (k := .u8) Try.underlying39 Try.underlying5 (by kernel_rfl) t1 z1
    obtain ⟨b, e2, _⟩ := DataW.trod_bool Try.underlying4 t2
    simp at e0 e1 e2
    subst e0 e1 e2
    have hb : Try.prog.bytesOf 5 = 1 := by kernel_rfl
    rw [hb] at h4 k4
    unfold reachBytes at h4 k4
    refine ⟨⟨⟨A, n, c, xs⟩, ⟨B, m, d, ys⟩, b⟩, rfl, ⟨⟨h6, fun x hx => ?_⟩, ⟨k6, fun x hx => ?_⟩⟩, ?_, ?_⟩
    · have := bounds_u8 (h7 x hx)
      omega
    · have := bounds_u8 (k7 x hx)
      omega
    · show n ≤ _
      omega
    · show m ≤ _
      omega
theorem open_chs {m : Nat} {v : Value} {y : DataW H × List MemPlace} (h : DataW.trod enc Try.prog w 0 (fun _ => true) true m 28 [v] = some y) (hz : Sz Try.prog 28 y.1) :
    ∃ (A : Option Addr) (n c : Nat) (L : List Ch), v = .slice A n c ∧ n ≤ maxLen ∧ L.length = n ∧ Rd (fun b => b < w.heap.size) w 3 A n (L.flatMap Ch.cells) ∧ ∀ a ∈ L, a.Good w := by
  obtain ⟨A, n, c, L, h1, h2, h3, h4, h5, h6, h7, -⟩ := trod_slk (k := 3) Try.underlying28 Ch.cells (by kernel_rfl) (by omega) (fun a => a.Good w) (fun cs m y hl ht hz => trod_ch hl ht hz) h hz
  exact ⟨A, n, c, L, h1, by omega, h5, h6, h7⟩
/-- A slice of changes that was handed in. -/
structure Sl where
  A : Option Addr
  n : Nat
  c : Nat
  L : List Ch
structure Sl.Good (w : World) (x : Sl) : Prop where
  nn : x.n ≤ maxLen
  tb : RTb w x.A x.n x.L
  gd : ∀ a ∈ x.L, a.Good w
theorem Sl.Good.new {w w' : World} {c : Sl} (h : c.Good w) (hN : New w w') : c.Good w' := ⟨h.nn, h.tb.new hN, fun a ha => (h.gd a ha).new hN⟩
def Sl.cells (x : Sl) : List Value := [.slice x.A x.n x.c]
set_option maxRecDepth 100000 in
theorem open_sl {r : Reach} {b0 : Nat} {v : Value} {d : DataW H} {p : List MemPlace} (hv : Value.okWide Try.prog w r b0 28 v) (h : DataW.Trod enc Try.prog w 0 (fun _ => true) true 28 v d p) (hz : Sz Try.prog 28 d) :
    ∃ x : Sl, v = .slice x.A x.n x.c ∧ x.Good w := by
  obtain ⟨a0, n0, c0, rfl⟩ := okWide_slice Try.underlying28 hv
  obtain ⟨fuel, hf⟩ := h
  obtain ⟨A, n, c, L, h1, h2, h3, h4, h5⟩ := open_chs hf hz
  exact ⟨⟨A, n, c, L⟩, h1, h2, ⟨h4, h3, fun a ha => (h5 a ha).inn⟩, h5⟩
set_option maxRecDepth 100000 in
theorem open_sls {r : Reach} {b0 : Nat} {v : Value} {d : DataW H} {p : List MemPlace} (hv : Value.okWide Try.prog w r b0 22 v) (h : DataW.Trod enc Try.prog w 0 (fun _ => true) true 22 v d p) (hz : Sz Try.prog 22 d) :
    ∃ (A : Option Addr) (n c : Nat) (L : List Sl), v = .slice A n c ∧ n ≤ maxLen ∧ L.length = n ∧ Rd (fun b => b < w.heap.size) w 1 A n (L.flatMap Sl.cells) ∧ ∀ a ∈ L, a.Good w := by
  obtain ⟨a0, n0, c0, rfl⟩ := okWide_slice Try.underlying22 hv
  obtain ⟨fuel, hf⟩ := h
  obtain ⟨A, n, c, L, h1, h2, h3, h4, h5, h6, h7, -⟩ := trod_slk (k := 1) Try.underlying22 Sl.cells (by kernel_rfl) (by omega) (fun a => a.Good w) (fun cs m y hl ht hz => by
    match cs, hl with
    | [c0], _ =>
      obtain ⟨A, n, c, L, e, h2, h3, h4, h5⟩ := open_chs ht hz
      exact ⟨⟨A, n, c, L⟩, by rw [e]; rfl, h2, ⟨h4, h3, fun a ha => (h5 a ha).inn⟩, h5⟩) hf hz
  exact ⟨A, n, c, L, h1, by omega, h5, h6, h7⟩
end
def chSum (L : List Ch) : Nat := (L.map fun c => c.k.n + c.v.n).sum
theorem chSum_take {L : List Ch} {k : Nat} (h : k < L.length) : chSum (L.take (k + 1)) = chSum (L.take k) + (L[k].k.n + L[k].v.n) := by
  unfold chSum
  rw [List.take_succ_eq_append_getElem h, List.map_append, List.sum_append]
  simp only [List.map_cons, List.map_nil, List.sum_cons, List.sum_nil, Nat.add_zero]
theorem chSum_le {L : List Ch} (h : ∀ c ∈ L, c.k.n ≤ 140737488355328 ∧ c.v.n ≤ 140737488355328) (k : Nat) (hk : k ≤ L.length) : chSum (L.take k) ≤ k * 281474976710656 := by
  induction k with
  | zero => simp [chSum]
  | succ k ih =>
    rw [chSum_take (by omega)]
    have := h L[k] (List.getElem_mem _)
    have := ih (by omega)
    omega
theorem chSum_mem {L : List Ch} {c : Ch} (h : c ∈ L) : c.k.n + c.v.n ≤ chSum L := by
  unfold chSum
  induction L with
  | nil => cases h
  | cons x L ih =>
    rw [List.map_cons, List.sum_cons]
    rcases List.mem_cons.1 h with rfl | h
    · omega
    · have := ih h
      omega
/-- What Long says. -/
def LongSays (L : List Ch) (e : Ending) : Prop := ∃ b, e = .returned (.bool b) ∧ (b = false → L.length ≤ 700 ∧ chSum L ≤ 20000)
set_option maxHeartbeats 2000000 in
set_option maxRecDepth 100000 in
theorem long_any (A : Option Addr) (n c : Nat) (L : List Ch) (w : World) (h : RTb w A n L) (hn : n ≤ maxLen) (hb : ∀ c ∈ L, c.k.n ≤ 140737488355328 ∧ c.v.n ≤ 140737488355328) :
    Calls Try.prog 10 #[.slice A n c] w fun e w' => LongSays L e ∧ New w w' := by
  have H := Lib.hid h
  have HB := Lib.hid hb
  unfold maxLen at hn
  clear h hb
  by_cases hbig : n ≤ 700
  · go_enter Try.func10, Try.ntmps10
    go_wp2_with fail
    go_loopw [3, 8] (fun s i wr => ∃ (j : Nat), j ≤ n ∧ i = .int .i64 j ∧ s = .int .i64 (chSum (L.take j)) ∧ Hid (New w wr)) (fun s i _ => n - (intOf i).toNat)
    case atStart => exact ⟨0, Nat.zero_le _, rfl, by simp [chSum], Lib.hid (New.refl w)⟩
    case round =>
      obtain ⟨j, hj, rfl, rfl, HN⟩ := hrel
      have hle := chSum_le HB.out j (by rw [H.out.len]; exact hj)
      by_cases hlt : j < n
      · as_aux_lemma =>
        obtain ⟨g, o, hl, rfl, -, -, hrg⟩ := rd_row (f := Ch.cells) (L := L) (fun _ => rfl) (by omega) (HN.out.rd H.out.rd) hlt
        have c0 : wr.cell? ⟨g, o + j * 3, none⟩ = some (.slice L[j].k.A L[j].k.n L[j].k.c) := hrg 0 _ rfl
        have c1 : wr.cell? ⟨g, o + j * 3 + 1, none⟩ = some (.slice L[j].v.A L[j].v.n L[j].v.c) := hrg 1 _ rfl
        have c2 : wr.cell? ⟨g, o + j * 3 + 2, none⟩ = some (.bool L[j].d) := hrg 2 _ rfl
        have hbd := HB.out L[j] (List.getElem_mem _)
        have hst := chSum_take hl
        generalize L[j] = x at c0 c1 c2 hbd hst
        generalize chSum (L.take j) = s at hst hle ⊢
        obtain ⟨⟨kA, kn, kc, ks⟩, ⟨vA, vn, vc, vs⟩, d⟩ := x
        dsimp only at c0 c1 c2 hbd hst
        have HST := Lib.hid hst
        obtain ⟨hb1, hb2⟩ := hbd
        have hs : s ≤ 197032483697459200 := by omega
        have hj0 : (0 : Int) ≤ (j : Int) := by omega
        have hjn : (j : Int) < (n : Int) := by omega
        have HN1 := fun (o : Obj) => Lib.hid (New.al HN.out o)
        clear hrg hl hst hle
        go_wp2_with fail
        go_roundw
        case rel =>
          refine ⟨j + 1, by omega, by go_num, ?_, HN1 _⟩
          rw [HST.out]
          go_num
        case measure => simp [intOf]; omega
      · as_aux_lemma =>
        obtain rfl : j = n := by omega
        have ht : L.take j = L := by rw [← H.out.len, List.take_length]
        rw [ht] at hle ⊢
        have HL : Hid (L.length = j) := Lib.hid H.out.len
        obtain ⟨s, hs⟩ : ∃ s, s = chSum L := ⟨_, rfl⟩
        rw [← hs] at hle ⊢
        have HS := Lib.hid hs
        clear hs ht
        have hs7 : s ≤ 197032483697459200 := by omega
        go_wp2_with fail
        all_goals
          go_ret
          refine ⟨⟨_, rfl, fun h => ?_⟩, HN.out⟩
          first
            | (cases h; done)
            | (rw [HL.out, ← HS.out]
               exact ⟨hbig, by omega⟩)
  · have hn7 : 700 < n := by omega
    clear hbig
    go_enter Try.func10, Try.ntmps10
    go_wp2_with fail
    go_loopw [3, 8] (fun s i wr => ∃ (j : Nat) (v : Int), j ≤ n ∧ i = .int .i64 j ∧ s = .int .i64 v ∧ Hid (New w wr)) (fun s i _ => n - (intOf i).toNat)
    case atStart => exact ⟨0, 0, Nat.zero_le _, rfl, rfl, Lib.hid (New.refl w)⟩
    case round =>
      obtain ⟨j, v, hj, rfl, rfl, HN⟩ := hrel
      by_cases hlt : j < n
      · as_aux_lemma =>
        obtain ⟨g, o, hl, rfl, -, -, hrg⟩ := rd_row (f := Ch.cells) (L := L) (fun _ => rfl) (by omega) (HN.out.rd H.out.rd) hlt
        have c0 : wr.cell? ⟨g, o + j * 3, none⟩ = some (.slice L[j].k.A L[j].k.n L[j].k.c) := hrg 0 _ rfl
        have c1 : wr.cell? ⟨g, o + j * 3 + 1, none⟩ = some (.slice L[j].v.A L[j].v.n L[j].v.c) := hrg 1 _ rfl
        have c2 : wr.cell? ⟨g, o + j * 3 + 2, none⟩ = some (.bool L[j].d) := hrg 2 _ rfl
        have hbd := HB.out L[j] (List.getElem_mem _)
        generalize L[j] = x at c0 c1 c2 hbd
        obtain ⟨⟨kA, kn, kc, ks⟩, ⟨vA, vn, vc, vs⟩, d⟩ := x
        dsimp only at c0 c1 c2 hbd
        obtain ⟨hb1, hb2⟩ := hbd
        have hj0 : (0 : Int) ≤ (j : Int) := by omega
        have hjn : (j : Int) < (n : Int) := by omega
        have HN1 := fun (o : Obj) => Lib.hid (New.al HN.out o)
        clear hrg hl
        go_wp2_with fail
        go_roundw
        case rel => exact ⟨j + 1, _, by omega, by go_num, rfl, HN1 _⟩
        case measure => simp [intOf]; omega
      · as_aux_lemma =>
        obtain rfl : j = n := by omega
        by_cases hv : 20000 < v
        · go_wp2_with fail
          go_ret
          exact ⟨⟨true, rfl, fun h => by cases h⟩, HN.out⟩
        · go_wp2_with fail
          go_ret
          exact ⟨⟨decide (700 < (j : Int)), rfl, fun h => by have := of_decide_eq_false h; omega⟩, HN.out⟩
end Go.Proofs.Ytfhinmjpokollaa
