/- The document's cache, in plain words: a list of what was kept. No program in sight. -/
import Derived.Test.YtpomcnfifhfffaaCaL
namespace Go.Proofs.Ytpomcnfifhfffaa

def KV.toRep (x : KV) : Rep := ⟨x.seq, x.req, x.rep⟩
/-- The sessions, the youngest last. -/
def sess : List KV → List Int
  | [] => []
  | x :: L => if x.id ∈ L.map KV.id then sess L else x.id :: sess L
def ofId (L : List KV) (a : Int) : List Rep := (L.filter fun x => x.id == a).map KV.toRep
def cnt (L : List KV) (a : Int) : Nat := (L.filter fun x => x.id == a).length
def dropL (L : List KV) (a : Int) : List KV := L.filter fun x => x.id != a
def keep1 (L : List KV) (x : KV) : List KV := L.filter fun y => !(y.id == x.id && y.seq == x.seq)
def keep2 (L : List KV) (a : Int) : List KV := if cnt L a = 64 then L.eraseP (fun y => y.id == a) else L
def keep3 (L0 L : List KV) (a : Int) : List KV := if (sess L0).length = 8 ∧ cnt L0 a = 0 then dropL L ((sess L0).headD 0) else L
def keepL (L : List KV) (x : KV) : List KV := keep3 L (keep2 (keep1 L x) x.id) x.id ++ [x]
/-- The cache's sessions and the document's list. -/
structure MtC (S : List Ses) (L : List KV) : Prop where
  ids : S.map Ses.id = sess L
  reps : ∀ s ∈ S, s.R = ofId L s.id
theorem MtC.nil : MtC [] [] := ⟨rfl, fun s h => by cases h⟩

theorem sess_mem {a : Int} : ∀ {L : List KV}, a ∈ sess L ↔ a ∈ L.map KV.id
  | [] => by simp [sess]
  | x :: L => by
    have ih := sess_mem (a := a) (L := L)
    unfold sess
    split
    · next h =>
      rw [ih, List.map_cons, List.mem_cons]
      constructor
      · exact .inr
      · rintro (rfl | h')
        · exact h
        · exact h'
    · rw [List.mem_cons, ih, List.map_cons, List.mem_cons]
theorem sess_nd : ∀ L : List KV, (sess L).Nodup
  | [] => by simp [sess]
  | x :: L => by
    unfold sess
    split
    · exact sess_nd L
    · next h => exact List.nodup_cons.2 ⟨fun h' => h (sess_mem.1 h'), sess_nd L⟩
theorem sess_filter (p : Int → Bool) : ∀ L : List KV, sess (L.filter fun y => p y.id) = (sess L).filter p
  | [] => rfl
  | x :: L => by
    have ih := sess_filter p L
    by_cases hp : p x.id = true
    · rw [List.filter_cons_of_pos (by simpa using hp)]
      unfold sess
      by_cases hm : x.id ∈ L.map KV.id
      · have hm' : x.id ∈ (L.filter fun y => p y.id).map KV.id := by
          obtain ⟨y, hy, he⟩ := List.mem_map.1 hm
          exact List.mem_map.2 ⟨y, List.mem_filter.2 ⟨hy, by rw [he]; exact hp⟩, he⟩
        rw [if_pos hm, if_pos hm', ih]
      · have hm' : x.id ∉ (L.filter fun y => p y.id).map KV.id := fun h => by
          obtain ⟨y, hy, he⟩ := List.mem_map.1 h
          exact hm (List.mem_map.2 ⟨y, (List.mem_filter.1 hy).1, he⟩)
        rw [if_neg hm, if_neg hm', ih, List.filter_cons_of_pos hp]
    · rw [List.filter_cons_of_neg (by simpa using hp), ih]
      conv => rhs; unfold sess
      split
      · rfl
      · rw [List.filter_cons_of_neg hp]
theorem sess_snoc (x : KV) : ∀ L : List KV, sess (L ++ [x]) = (sess L).filter (fun b => b != x.id) ++ [x.id]
  | [] => by simp [sess]
  | y :: L => by
    have ih := sess_snoc x L
    rw [List.cons_append]
    unfold sess
    rw [ih]
    by_cases hy : y.id = x.id
    · rw [if_pos (by simp [hy])]
      split
      · rfl
      · rw [List.filter_cons_of_neg (by simp [hy])]
    · by_cases hm : y.id ∈ L.map KV.id
      · rw [if_pos hm, if_pos (by rw [List.map_append]; exact List.mem_append_left _ hm)]
      · rw [if_neg hm, if_neg (by rw [List.map_append, List.mem_append]; rintro (h | h); exact hm h; simp at h; exact hy h), List.filter_cons_of_pos (by simpa using hy)]
        rfl

theorem ofId_filter {L : List KV} {a : Int} (p : KV → Bool) (h : ∀ x, x.id = a → p x = true) : ofId (L.filter p) a = ofId L a := by
  unfold ofId
  rw [List.filter_filter]
  congr 1
  apply List.filter_congr
  intro x _
  by_cases hx : x.id = a
  · simp [hx, h x hx]
  · simp [hx]
theorem ofId_app (L : List KV) (x : KV) (a : Int) : ofId (L ++ [x]) a = ofId L a ++ (if x.id = a then [x.toRep] else []) := by
  unfold ofId
  rw [List.filter_append, List.map_append]
  by_cases h : x.id = a
  · simp [h]
  · simp [h]
theorem ofId_keep1 (L : List KV) (x : KV) : ofId (keep1 L x) x.id = (ofId L x.id).filter (fun r => r.seq != x.seq) := by
  unfold ofId keep1
  rw [List.filter_map, List.filter_filter, List.filter_filter]
  congr 1
  apply List.filter_congr
  intro y _
  by_cases h : y.id = x.id
  · simp [h, KV.toRep, bne, Function.comp]
  · have : (y.id == x.id) = false := by simpa using h
    simp [this]
theorem eraseP_filter {α : Type} (p : α → Bool) : ∀ L : List α, (L.eraseP p).filter p = (L.filter p).tail
  | [] => rfl
  | x :: L => by
    by_cases h : p x = true
    · rw [List.eraseP_cons_of_pos h, List.filter_cons_of_pos h]; rfl
    · rw [List.eraseP_cons_of_neg h, List.filter_cons_of_neg h, List.filter_cons_of_neg h, eraseP_filter p L]
theorem eraseP_other {α : Type} (p q : α → Bool) (h : ∀ x, p x = true → q x = false) : ∀ L : List α, (L.eraseP p).filter q = L.filter q
  | [] => rfl
  | x :: L => by
    by_cases hp : p x = true
    · rw [List.eraseP_cons_of_pos hp, List.filter_cons_of_neg (by simp [h x hp])]
    · rw [List.eraseP_cons_of_neg hp, List.filter_cons, List.filter_cons, eraseP_other p q h L]
theorem cnt_eq (L : List KV) (a : Int) : cnt L a = (ofId L a).length := by simp [cnt, ofId]
theorem ofId_keep2 (L : List KV) (a : Int) : ofId (keep2 L a) a = if (ofId L a).length = 64 then (ofId L a).tail else ofId L a := by
  unfold keep2
  rw [cnt_eq]
  split
  · unfold ofId
    rw [eraseP_filter, List.map_tail]
  · rfl
theorem ofId_keep2o (L : List KV) {a b : Int} (h : b ≠ a) : ofId (keep2 L a) b = ofId L b := by
  unfold keep2
  split
  · unfold ofId
    rw [eraseP_other _ _ (fun x hx => by simp at hx ⊢; rw [hx]; exact fun e => h e.symm)]
  · rfl
theorem keep12_drop (L : List KV) (x : KV) : dropL (keep2 (keep1 L x) x.id) x.id = dropL L x.id := by
  have h1 : dropL (keep1 L x) x.id = dropL L x.id := by
    unfold dropL keep1
    rw [List.filter_filter]
    apply List.filter_congr
    intro y _
    by_cases h : y.id = x.id <;> simp [h]
  rw [← h1]
  unfold keep2
  split
  · unfold dropL
    exact eraseP_other _ _ (fun y hy => by simpa using hy) _
  · rfl
theorem cnt_zero {L : List KV} {a : Int} : cnt L a = 0 ↔ a ∉ sess L := by
  rw [sess_mem]
  unfold cnt
  rw [List.length_eq_zero_iff, List.filter_eq_nil_iff]
  constructor
  · intro h hm
    obtain ⟨y, hy, he⟩ := List.mem_map.1 hm
    exact h y hy (by simpa using he)
  · intro h y hy he
    exact h (List.mem_map.2 ⟨y, hy, by simpa using he⟩)
theorem filter_ne_self {M : List Int} {a : Int} (h : a ∉ M) : M.filter (fun b => b != a) = M := List.filter_eq_self.2 fun b hb => by
  have : b ≠ a := fun e => h (e ▸ hb)
  simpa using this
theorem keptL_map (S : List Ses) (a : Int) : (keptL Ses.id S a 8).map Ses.id = if ((S.map Ses.id).filter (fun b => b != a)).length = 8 then ((S.map Ses.id).filter (fun b => b != a)).tail else (S.map Ses.id).filter (fun b => b != a) := by
  unfold keptL
  rw [List.filter_map, List.length_map, ← List.map_tail]
  show List.map Ses.id (if (S.filter fun x => x.id != a).length = 8 then _ else _) = if (S.filter fun x => x.id != a).length = 8 then _ else _
  split <;> rfl

/-- Behind a reply that is kept. -/
theorem MtC.keep {S : List Ses} {L : List KV} (h : MtC S L) (hlen : S.length ≤ 8) (x : KV) (s' : Ses) (hid : s'.id = x.id) (hR : s'.R = keepR (ofId L x.id) x.seq x.req x.rep) : MtC (keptL Ses.id S x.id 8 ++ [s']) (keepL L x) := by
  have hM := h.ids
  have hMl : (sess L).length ≤ 8 := by rw [← hM, List.length_map]; exact hlen
  by_cases hc : (sess L).length = 8 ∧ cnt L x.id = 0
  · have hno := cnt_zero.1 hc.2
    obtain ⟨y, t, hs⟩ : ∃ y t, sess L = y :: t := by
      cases he : sess L with
      | nil => rw [he] at hc; simp at hc
      | cons y t => exact ⟨y, t, rfl⟩
    have hnd := sess_nd L
    rw [hs, List.nodup_cons] at hnd
    have hya : y ≠ x.id := fun e => hno (by rw [hs, e]; simp)
    have hk1 : keep1 L x = L := by
      unfold keep1
      rw [List.filter_eq_self]
      intro z hz
      have : z.id ≠ x.id := fun e => hno (sess_mem.2 (List.mem_map.2 ⟨z, hz, e⟩))
      simp [this]
    have hk2 : keep2 (keep1 L x) x.id = L := by
      rw [hk1]; unfold keep2; rw [if_neg (by rw [hc.2]; decide)]
    have hk : keepL L x = dropL L y ++ [x] := by
      unfold keepL
      rw [hk2]
      unfold keep3
      rw [if_pos hc, hs]
      rfl
    have hsd : sess (dropL L y) = t := by
      unfold dropL
      rw [sess_filter (fun b => b != y), hs, List.filter_cons_of_neg (by simp), filter_ne_self hnd.1]
    refine ⟨?_, ?_⟩
    · rw [List.map_append, keptL_map, hM, filter_ne_self hno, if_pos hc.1, hk, sess_snoc, hsd, hs, filter_ne_self (fun e => hno (by rw [hs]; exact List.mem_cons_of_mem _ e))]
      simp [hid]
    · intro s hm
      rw [hk, ofId_app]
      rcases List.mem_append.1 hm with hm | hm
      · have hsa := (keptL_mem hm).2
        rw [if_neg (fun e => hsa e.symm), List.append_nil]
        have : s.id ∈ t := by
          have h2 : s.id ∈ (keptL Ses.id S x.id 8).map Ses.id := List.mem_map_of_mem hm
          rw [keptL_map, hM, filter_ne_self hno, if_pos hc.1, hs] at h2
          exact h2
        have hsy : s.id ≠ y := fun e => hnd.1 (e ▸ this)
        rw [h.reps s (keptL_mem hm).1]
        exact (ofId_filter _ (fun z hz => by simpa [hz] using hsy)).symm
      · obtain rfl := List.mem_singleton.1 hm
        rw [hR, hid, if_pos rfl]
        have e0 : ofId L x.id = [] := by
          have := cnt_eq L x.id
          rw [hc.2] at this
          exact List.length_eq_zero_iff.1 this.symm
        have e1 : ofId (dropL L y) x.id = [] := by
          rw [← e0]
          exact ofId_filter _ (fun z hz => by simpa [hz] using fun e => hya e.symm)
        rw [e0, e1]
        rfl
  · have hk : keepL L x = keep2 (keep1 L x) x.id ++ [x] := by
      unfold keepL keep3
      rw [if_neg hc]
    have hfl : ((sess L).filter (fun b => b != x.id)).length ≠ 8 := fun e => by
      have hle := List.length_filter_le (fun b => b != x.id) (sess L)
      have h8 : (sess L).length = 8 := by omega
      have hself : (sess L).filter (fun b => b != x.id) = sess L := (List.filter_sublist).eq_of_length (by omega)
      refine hc ⟨h8, cnt_zero.2 fun hm => ?_⟩
      have := List.filter_eq_self.1 hself _ hm
      simp at this
    refine ⟨?_, ?_⟩
    · rw [List.map_append, keptL_map, hM, if_neg hfl, hk, sess_snoc]
      have e1 : (sess (keep2 (keep1 L x) x.id)).filter (fun b => b != x.id) = (sess L).filter (fun b => b != x.id) := by
        rw [← sess_filter (fun b => b != x.id), ← sess_filter (fun b => b != x.id)]
        exact congrArg sess (keep12_drop L x)
      rw [e1]
      simp [hid]
    · intro s hm
      rw [hk, ofId_app]
      rcases List.mem_append.1 hm with hm | hm
      · have hsa := (keptL_mem hm).2
        rw [if_neg (fun e => hsa e.symm), List.append_nil, ofId_keep2o _ hsa, h.reps s (keptL_mem hm).1]
        exact (ofId_filter _ (fun z hz => by
          have : z.id ≠ x.id := by rw [hz]; exact hsa
          simp [this])).symm
      · obtain rfl := List.mem_singleton.1 hm
        rw [hR, hid, if_pos rfl, ofId_keep2, ofId_keep1]
        rfl
/-- Behind a session that is dropped. -/
theorem MtC.drop {S : List Ses} {L : List KV} (h : MtC S L) (a : Int) : MtC (S.filter fun s => s.id != a) (dropL L a) := by
  refine ⟨?_, ?_⟩
  · unfold dropL
    rw [sess_filter (fun b => b != a), ← h.ids, List.filter_map]
    rfl
  · intro s hs
    obtain ⟨h1, h2⟩ := List.mem_filter.1 hs
    rw [h.reps s h1]
    exact (ofId_filter _ (fun z hz => by rw [hz]; exact h2)).symm
theorem MtC.has {S : List Ses} {L : List KV} (h : MtC S L) (a : Int) : a ∈ S.map Ses.id ↔ 0 < cnt L a := by
  rw [h.ids, ← Nat.ne_zero_iff_zero_lt]
  constructor
  · exact fun hm e => cnt_zero.1 e hm
  · exact fun e => Classical.not_not.1 fun hm => e (cnt_zero.2 hm)
/-- What is found. -/
def findL (L : List KV) (a q : Int) (rq : List Int) : Option KV := L.find? fun x => x.id == a && (x.seq == q && decide (x.req = rq))
theorem find_some {S : List Ses} {L : List KV} (h : MtC S L) {s : Ses} {r : Rep} (hs : s ∈ S) (hr : r ∈ s.R) (hnd : (s.R.map Rep.seq).Nodup) : ∃ x, findL L s.id r.seq r.req = some x ∧ x.rep = r.rep := by
  rw [h.reps s hs] at hr hnd
  obtain ⟨y, hy, e⟩ := List.mem_map.1 hr
  obtain ⟨hy1, hy2⟩ := List.mem_filter.1 hy
  cases hf : findL L s.id r.seq r.req with
  | none =>
    have := List.find?_eq_none.1 hf y hy1
    rw [← e] at this
    simp [KV.toRep] at this
    exact absurd (by simpa using hy2) this
  | some x =>
    refine ⟨x, rfl, ?_⟩
    have hx1 := List.mem_of_find?_eq_some hf
    have hx2 := List.find?_some hf
    simp at hx2
    have hxm : x.toRep ∈ ofId L s.id := List.mem_map.2 ⟨x, List.mem_filter.2 ⟨hx1, by simpa using hx2.1⟩, rfl⟩
    have key : x.toRep = r := by
      obtain ⟨i, hi, ei⟩ := List.mem_iff_getElem.1 hxm
      obtain ⟨j, hj, ej⟩ := List.mem_iff_getElem.1 hr
      have hpw := List.pairwise_iff_getElem.1 hnd
      have hq : ∀ k (hk : k < (ofId L s.id).length), ((ofId L s.id).map Rep.seq)[k]'(by simpa using hk) = ((ofId L s.id)[k]).seq := fun k hk => by simp
      have hsq : ((ofId L s.id)[i]).seq = ((ofId L s.id)[j]).seq := by rw [ei, ej]; exact hx2.2.1
      have hij : i = j := by
        rcases Nat.lt_trichotomy i j with hlt | heq | hlt
        · exact absurd (by rw [hq i hi, hq j hj]; exact hsq) (hpw i j (by simpa using hi) (by simpa using hj) hlt)
        · exact heq
        · exact absurd (by rw [hq i hi, hq j hj]; exact hsq.symm) (hpw j i (by simpa using hj) (by simpa using hi) hlt)
      subst hij
      rw [← ei, ← ej]
    rw [← key]
    rfl
theorem find_none {S : List Ses} {L : List KV} (h : MtC S L) {a q : Int} {rq : List Int} (hn : ∀ s ∈ S, s.id = a → ∀ r ∈ s.R, r.seq = q → r.req ≠ rq) : findL L a q rq = none := by
  unfold findL
  rw [List.find?_eq_none]
  intro x hx hc
  simp at hc
  obtain ⟨h1, h2, h3⟩ := hc
  have hm : a ∈ S.map Ses.id := by rw [h.ids]; exact sess_mem.2 (List.mem_map.2 ⟨x, hx, h1⟩)
  obtain ⟨s, hs, es⟩ := List.mem_map.1 hm
  refine hn s hs es x.toRep ?_ h2 h3
  rw [h.reps s hs]
  exact List.mem_map.2 ⟨x, List.mem_filter.2 ⟨hx, by simp [h1, es]⟩, rfl⟩
theorem MtC.len {S : List Ses} {L : List KV} (h : MtC S L) {s : Ses} (hs : s ∈ S) : s.R.length = cnt L s.id := by rw [h.reps s hs, cnt_eq]
end Go.Proofs.Ytpomcnfifhfffaa
