/- In plain words: the reference's list of changes, in order of the keys, goes as the table goes. No condition but nodup keys of bytes. -/
import Derived.Test.YtfhinmjpokollaaKvO
import Derived.Sort.Walk0
namespace Go.Proofs.Ytfhinmjpokollaa
set_option linter.unusedVariables false
set_option linter.unusedSimpArgs false
set_option linter.constructorNameAsVariable false
open Go.RowKit Go.Maps Go.Sort

def cl (L : List Ch) : CT := L.map fun c => (c.k.xs, c.v.xs)
def lek (a b : List Int × List Int) : Bool := leB (sb a.1) (sb b.1)
theorem sb_toList (xs : List Int) : (strOfNums xs).toList = sb xs := by
  unfold sb
  exact ByteArray.toList_eq _
theorem geS_eq (x y : List Int) : geS x y = leB (sb y) (sb x) := by
  unfold geS
  rw [sb_toList, sb_toList, bytesLess_eq]
  unfold leB
  by_cases h : sb x < sb y
  · have : ¬ sb y ≤ sb x := List.not_le.2 h
    simp [h, this]
  · have : sb y ≤ sb x := List.not_lt.1 h
    simp [h, this]
theorem sb_inj {xs ys : List Int} (hx : Byt xs) (hy : Byt ys) (h : sb xs = sb ys) : xs = ys := by
  refine key_inj hx hy ?_
  unfold key
  unfold sb at h
  rw [h]
theorem lek_trans (a b c : List Int × List Int) (h1 : lek a b = true) (h2 : lek b c = true) : lek a c = true := by
  simp only [lek, leB, decide_eq_true_eq] at *
  exact List.le_trans h1 h2
theorem lek_total (a b : List Int × List Int) : (lek a b || lek b a) = true := by
  simp only [lek, leB, Bool.or_eq_true, decide_eq_true_eq]
  exact List.le_total _ _
theorem geS_refl (x : List Int) : geS x x = true := by
  rw [geS_eq]
  simp [leB]
theorem tw_mem {α : Type} {p : α → Bool} {l : List α} : ∀ x ∈ l.takeWhile p, p x = true := by
  induction l with
  | nil => intro x hx; cases hx
  | cons y l ih =>
    intro x hx
    by_cases h : p y = true
    · rw [List.takeWhile_cons_of_pos h] at hx
      rcases List.mem_cons.1 hx with rfl | hx
      · exact h
      · exact ih x hx
    · rw [List.takeWhile_cons_of_neg h] at hx
      cases hx
theorem tw_all {α : Type} {p : α → Bool} {l : List α} (h : ∀ x ∈ l, p x = true) : l.takeWhile p = l := by
  induction l with
  | nil => rfl
  | cons y l ih =>
    rw [List.takeWhile_cons_of_pos (h y (List.mem_cons_self ..)), ih fun x hx => h x (List.mem_cons_of_mem _ hx)]
section
variable (c : Ch)
theorem rstep_true (R : List Ch) (x : Ch) : rstep geS c (R, true) x = (if x.k.xs = c.k.xs then R else R ++ [x], true) := by
  unfold rstep
  simp
theorem rfold_true (L : List Ch) (R : List Ch) : L.foldl (rstep geS c) (R, true) = (R ++ L.filter (fun x => decide (x.k.xs ≠ c.k.xs)), true) := by
  induction L generalizing R with
  | nil => simp
  | cons x L ih =>
    rw [List.foldl_cons, rstep_true, ih]
    by_cases h : x.k.xs = c.k.xs
    · simp [h]
    · simp [h]
theorem rfold_false (L : List Ch) (R : List Ch) : L.foldl (rstep geS c) (R, false) =
    if L.all (fun x => !geS x.k.xs c.k.xs) then (R ++ L, false) else (R ++ L.takeWhile (fun x => !geS x.k.xs c.k.xs) ++ [c] ++ (L.dropWhile (fun x => !geS x.k.xs c.k.xs)).filter (fun x => decide (x.k.xs ≠ c.k.xs)), true) := by
  induction L generalizing R with
  | nil => simp
  | cons x L ih =>
    rw [List.foldl_cons]
    by_cases hg : geS x.k.xs c.k.xs = true
    · have hs : rstep geS c (R, false) x = (if x.k.xs = c.k.xs then R ++ [c] else R ++ [c] ++ [x], true) := by
        unfold rstep
        simp [hg]
      rw [hs, rfold_true]
      have hna : ¬ (x :: L).all (fun x => !geS x.k.xs c.k.xs) = true := fun h => by
        have := List.all_eq_true.1 h x (List.mem_cons_self ..)
        rw [hg] at this
        cases this
      rw [if_neg hna, List.takeWhile_cons_of_neg (by rw [hg]; decide), List.dropWhile_cons_of_neg (by rw [hg]; decide)]
      by_cases h : x.k.xs = c.k.xs
      · rw [if_pos h, List.filter_cons_of_neg (by simpa using h), List.append_nil]
      · rw [if_neg h, List.filter_cons_of_pos (by simpa using h), List.append_nil, List.append_assoc, List.append_assoc, List.append_assoc]
        rfl
    · have hg : geS x.k.xs c.k.xs = false := by simpa using hg
      have hne : ¬ x.k.xs = c.k.xs := fun e => by rw [e, geS_refl] at hg; cases hg
      have hs : rstep geS c (R, false) x = (R ++ [x], false) := by
        unfold rstep
        simp [hg, hne]
      rw [hs, ih, List.takeWhile_cons_of_pos (by simp [hg]), List.dropWhile_cons_of_pos (by simp [hg])]
      by_cases ha : L.all (fun x => !geS x.k.xs c.k.xs) = true
      · rw [if_pos ha, if_pos (by simp [hg]; simpa using ha)]
        simp
      · rw [if_neg ha, if_neg (by simp [hg]; simpa using ha)]
        simp
theorem rapp_eq (L : List Ch) : rapp geS c L = if c.d then L.filter (fun x => decide (x.k.xs ≠ c.k.xs)) else L.takeWhile (fun x => !geS x.k.xs c.k.xs) ++ [c] ++ (L.dropWhile (fun x => !geS x.k.xs c.k.xs)).filter (fun x => decide (x.k.xs ≠ c.k.xs)) := by
  unfold rapp rfold
  cases c.d
  · rw [rfold_false]
    by_cases ha : L.all (fun x => !geS x.k.xs c.k.xs) = true
    · rw [if_pos ha]
      have h1 : L.takeWhile (fun x => !geS x.k.xs c.k.xs) = L := by
        exact tw_all (List.all_eq_true.1 ha)
      have h2 : L.dropWhile (fun x => !geS x.k.xs c.k.xs) = [] := by
        have := List.takeWhile_append_dropWhile (p := fun x => !geS x.k.xs c.k.xs) (l := L)
        rw [h1] at this
        simpa using this
      rw [h1, h2]
      simp
    · rw [if_neg ha]
      simp
  · rw [rfold_true]
    simp
theorem rapp_perm (L : List Ch) : (rapp geS c L).Perm (if c.d then L.filter (fun x => decide (x.k.xs ≠ c.k.xs)) else L.filter (fun x => decide (x.k.xs ≠ c.k.xs)) ++ [c]) := by
  rw [rapp_eq]
  cases c.d
  · rw [if_neg (by simp), if_neg (by simp)]
    have h : L.filter (fun x => decide (x.k.xs ≠ c.k.xs)) = L.takeWhile (fun x => !geS x.k.xs c.k.xs) ++ (L.dropWhile (fun x => !geS x.k.xs c.k.xs)).filter (fun x => decide (x.k.xs ≠ c.k.xs)) := by
      conv => lhs; rw [← List.takeWhile_append_dropWhile (p := fun x => !geS x.k.xs c.k.xs) (l := L)]
      rw [List.filter_append]
      congr 1
      rw [List.filter_eq_self]
      intro x hx
      have := tw_mem x hx
      simp only [decide_eq_true_eq]
      intro e
      rw [e, geS_refl] at this
      cases this
    rw [h, List.append_assoc, List.append_assoc]
    exact List.Perm.append_left _ List.perm_append_comm
  · exact List.Perm.refl _
end
theorem cl_filter (L : List Ch) (k : List Int) : cl (L.filter (fun x => decide (x.k.xs ≠ k))) = cdel (cl L) k := by
  unfold cl cdel
  rw [List.filter_map]
  rfl
/-- The keys of a table of bytes, each once. -/
structure Kn (T : CT) : Prop where
  nd : (T.map Prod.fst).Nodup
  byt : ∀ e ∈ T, Byt e.1
theorem Kn.perm {T T' : CT} (h : Kn T) (hp : T.Perm T') : Kn T' := ⟨((hp.map Prod.fst).nodup_iff).1 h.nd, fun e he => h.byt e (hp.mem_iff.2 he)⟩
theorem Kn.del {T : CT} (h : Kn T) (k : List Int) : Kn (cdel T k) := ⟨(List.Sublist.map _ List.filter_sublist).nodup h.nd, fun e he => h.byt e (List.mem_filter.1 he).1⟩
theorem Kn.put {T : CT} (h : Kn T) {k v : List Int} (hk : Byt k) : Kn (cput T k v) := by
  refine ⟨?_, fun e he => ?_⟩
  · unfold cput
    rw [List.map_append, List.nodup_append]
    refine ⟨(h.del k).nd, by simp, fun x hx y hy e => ?_⟩
    simp at hy
    subst hy e
    simp [cdel] at hx
  · rcases List.mem_append.1 he with he | he
    · exact (h.del k).byt e he
    · rw [List.mem_singleton.1 he]
      exact hk
theorem Kn.doC {T : CT} (h : Kn T) {c : Ch} (hk : Byt c.k.xs) : Kn (doC T c) := by
  unfold Go.Proofs.Ytfhinmjpokollaa.doC
  split
  · exact h.del _
  · exact h.put hk
theorem nd_inj {T : CT} (h : (T.map Prod.fst).Nodup) {a b : List Int × List Int} (ha : a ∈ T) (hb : b ∈ T) (e : a.1 = b.1) : a = b := by
  induction T with
  | nil => cases ha
  | cons x T ih =>
    rw [List.map_cons, List.nodup_cons] at h
    rcases List.mem_cons.1 ha with h1 | ha <;> rcases List.mem_cons.1 hb with h2 | hb
    · rw [h1, h2]
    · exact absurd (List.mem_map.2 ⟨b, hb, by rw [← e, h1]⟩) h.1
    · exact absurd (List.mem_map.2 ⟨a, ha, by rw [e, h2]⟩) h.1
    · exact ih h.2 ha hb
/-- In order, and the same: equal. -/
theorem sct_unique {l T : CT} (hs : l.Pairwise (fun a b => lek a b = true)) (hp : l.Perm T) (hT : Kn T) : l = sct T := by
  refine List.Perm.eq_of_pairwise (le := fun a b => lek a b = true) (fun a b ha hb h1 h2 => ?_) hs (List.pairwise_mergeSort lek_trans lek_total T) (hp.trans (List.mergeSort_perm T _).symm)
  have ha : a ∈ T := hp.mem_iff.1 ha
  have hb : b ∈ T := (List.mergeSort_perm T _).mem_iff.1 hb
  refine nd_inj hT.nd ha hb (sb_inj (hT.byt a ha) (hT.byt b hb) ?_)
  simp only [lek, leB, decide_eq_true_eq] at h1 h2
  exact List.le_antisymm h1 h2
theorem sct_sorted (T : CT) : (sct T).Pairwise (fun a b => lek a b = true) := List.pairwise_mergeSort lek_trans lek_total T
theorem sct_perm (T : CT) : (sct T).Perm T := List.mergeSort_perm T _
theorem drop_ge {L : List Ch} {k : List Int} (hs : (cl L).Pairwise (fun a b => lek a b = true)) : ∀ x ∈ L.dropWhile (fun x => !geS x.k.xs k), geS x.k.xs k = true := by
  induction L with
  | nil => intro x hx; cases hx
  | cons y L ih =>
    intro x hx
    have hs' : (cl (y :: L)).Pairwise (fun a b => lek a b = true) := hs
    unfold cl at hs
    rw [List.map_cons, List.pairwise_cons] at hs
    by_cases hg : geS y.k.xs k = true
    · rw [List.dropWhile_cons_of_neg (by simp [hg])] at hx
      rcases List.mem_cons.1 hx with rfl | hx
      · exact hg
      · have h1 := hs.1 _ (List.mem_map.2 ⟨x, hx, rfl⟩)
        rw [geS_eq] at hg ⊢
        simp only [lek, leB, decide_eq_true_eq] at h1 hg ⊢
        exact List.le_trans hg h1
    · rw [List.dropWhile_cons_of_pos (by simpa using hg)] at hx
      exact ih hs.2 x hx
theorem rapp_sorted {L : List Ch} (c : Ch) (hs : (cl L).Pairwise (fun a b => lek a b = true)) : (cl (rapp geS c L)).Pairwise (fun a b => lek a b = true) := by
  rw [rapp_eq]
  have hsub : ∀ {M : List Ch}, M.Sublist L → (cl M).Pairwise (fun a b => lek a b = true) := fun h => hs.sublist (h.map _)
  cases c.d
  · rw [if_neg (by simp)]
    unfold cl
    rw [List.map_append, List.map_append, List.append_assoc, List.pairwise_append]
    refine ⟨hsub (List.takeWhile_sublist _), ?_, ?_⟩
    · rw [List.map_cons, List.map_nil, List.singleton_append, List.pairwise_cons]
      refine ⟨fun e he => ?_, hsub (List.filter_sublist.trans (List.dropWhile_sublist _))⟩
      obtain ⟨x, hx, rfl⟩ := List.mem_map.1 he
      have := drop_ge (k := c.k.xs) hs x (List.mem_filter.1 hx).1
      rw [geS_eq] at this
      exact this
    · intro a ha b hb
      obtain ⟨x, hx, rfl⟩ := List.mem_map.1 ha
      have h1 := tw_mem x hx
      rw [geS_eq] at h1
      simp only [leB, Bool.not_eq_true', decide_eq_false_iff_not] at h1
      have h1 := List.le_of_lt (List.not_le.1 h1)
      rcases List.mem_append.1 hb with hb | hb
      · rw [List.map_cons, List.map_nil, List.mem_singleton] at hb
        subst hb
        simp only [lek, leB, decide_eq_true_eq]
        exact h1
      · obtain ⟨y, hy, rfl⟩ := List.mem_map.1 hb
        have h2 := drop_ge (k := c.k.xs) hs y (List.mem_filter.1 hy).1
        rw [geS_eq] at h2
        simp only [lek, leB, decide_eq_true_eq] at h2 ⊢
        exact List.le_trans h1 h2
  · rw [if_pos rfl]
    exact hsub List.filter_sublist
theorem rapp_sct {L : List Ch} {T : CT} (c : Ch) (h : cl L = sct T) (hT : Kn T) (hk : Byt c.k.xs) : cl (rapp geS c L) = sct (doC T c) := by
  refine sct_unique (rapp_sorted c (by rw [h]; exact sct_sorted T)) ?_ (hT.doC hk)
  have hp : (cl (rapp geS c L)).Perm _ := (rapp_perm c L).map _
  refine hp.trans ?_
  unfold doC
  cases c.d
  · rw [if_neg (by simp), if_neg (by simp), List.map_append]
    unfold cput
    refine List.Perm.append_right _ ?_
    have : (cl (L.filter (fun x => decide (x.k.xs ≠ c.k.xs)))).Perm (cdel T c.k.xs) := by
      rw [cl_filter, h]
      exact (sct_perm T).filter _
    exact this
  · rw [if_pos rfl, if_pos rfl]
    have : (cl (L.filter (fun x => decide (x.k.xs ≠ c.k.xs)))).Perm (cdel T c.k.xs) := by
      rw [cl_filter, h]
      exact (sct_perm T).filter _
    exact this
theorem rdo_sct {L : List Ch} {T : CT} (C : List Ch) (h : cl L = sct T) (hT : Kn T) (hk : ∀ c ∈ C, Byt c.k.xs) : cl (rdo L C) = sct (doCs T C) ∧ Kn (doCs T C) := by
  induction C generalizing L T with
  | nil => exact ⟨h, hT⟩
  | cons c C ih =>
    have hc := hk c (List.mem_cons_self ..)
    exact ih (rapp_sct c h hT hc) (hT.doC hc) (fun x hx => hk x (List.mem_cons_of_mem _ hx))
theorem kn_cont {E : Tab} (h1 : (E.map Prod.fst).Nodup) (h2 : ∀ e ∈ E, Byt e.1) : Kn (cont E) := by
  refine ⟨?_, fun e he => ?_⟩
  · unfold cont
    rw [List.map_map]
    exact h1
  · obtain ⟨x, hx, rfl⟩ := List.mem_map.1 he
    exact h2 x hx
theorem cl_look (L : List Ch) (k : List Int) : (rfind L k).map Fm.xs = (cl L).lookup k := by
  unfold rfind cl
  induction L with
  | nil => rfl
  | cons c L ih =>
    rw [List.map_cons, List.lookup_cons]
    by_cases h : c.k.xs = k
    · rw [List.find?_cons_of_pos (by simpa using h)]
      have : (k == c.k.xs) = true := by simpa using h.symm
      rw [this]
      rfl
    · rw [List.find?_cons_of_neg (by simpa using h)]
      have : (k == c.k.xs) = false := by simpa using fun e => h e.symm
      rw [this]
      exact ih
theorem ct_mem_look {T : CT} (hn : (T.map Prod.fst).Nodup) {e : List Int × List Int} (h : e ∈ T) : T.lookup e.1 = some e.2 := by
  induction T with
  | nil => cases h
  | cons d T ih =>
    obtain ⟨x, u⟩ := d
    rw [List.map_cons, List.nodup_cons] at hn
    rcases List.mem_cons.1 h with rfl | h
    · simp
    · rw [List.lookup_cons]
      have : (e.1 == x) = false := by
        simp
        intro hx
        exact hn.1 (hx ▸ List.mem_map.2 ⟨e, h, rfl⟩)
      rw [this]
      exact ih hn.2 h
theorem ct_look_mem {T : CT} {k v : List Int} (h : T.lookup k = some v) : (k, v) ∈ T := by
  induction T with
  | nil => simp at h
  | cons e T ih =>
    obtain ⟨x, u⟩ := e
    rw [List.lookup_cons] at h
    by_cases hx : k = x
    · subst hx
      simp at h
      simp [h]
    · have : (k == x) = false := by simpa using hx
      rw [this] at h
      exact List.mem_cons_of_mem _ (ih h)
theorem look_perm {T T' : CT} (hp : T.Perm T') (hn : (T.map Prod.fst).Nodup) (k : List Int) : T.lookup k = T'.lookup k := by
  have hn' : (T'.map Prod.fst).Nodup := ((hp.map Prod.fst).nodup_iff).1 hn
  cases h : T.lookup k with
  | some v => exact (ct_mem_look hn' (hp.mem_iff.1 (ct_look_mem h))).symm
  | none =>
    cases h' : T'.lookup k with
    | none => rfl
    | some v =>
      have := ct_mem_look hn (hp.mem_iff.2 (ct_look_mem h'))
      rw [h] at this
      cases this
/-- What both find of a key. -/
theorem find_same {L : List Ch} {E : Tab} (h : cl L = sct (cont E)) (hT : Kn (cont E)) (k : List Int) : (rfind L k).map Fm.xs = (E.lookup k).map Fm.xs := by
  rw [cl_look, h, ← look_perm (sct_perm _).symm hT.nd k, lookup_cont]
theorem rsz_csize {L : List Ch} {T : CT} (h : cl L = sct T) (hl : ∀ c ∈ L, c.k.xs.length = c.k.n ∧ c.v.xs.length = c.v.n) : rsz L = csize T := by
  rw [← csize_perm (sct_perm T), ← h]
  unfold rsz csize cl
  rw [List.map_map]
  congr 1
  refine List.map_congr_left fun c hc => ?_
  have := hl c hc
  simp only [Function.comp]
  omega
end Go.Proofs.Ytfhinmjpokollaa
