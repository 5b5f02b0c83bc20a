/- What a cache is in memory, and in plain words. No condition. -/
import Derived.Test.YtpomcnfifhfffaaRi
import Derived.Test.YtpomcnfifhfffaaRo
import Derived.Test.YtpomcnfifhfffaaBytes
namespace Go.Proofs.Ytpomcnfifhfffaa
open Go.RowKit Go.Maps

/-- A reply that was kept; a session's ring. -/
structure Rep where
  seq : Int
  req : List Int
  rep : List Int
structure Ses where
  id : Int
  g : Nat
  bm : Nat
  m : Nat
  v : Value
  R : List Rep
  f : Lit → Option Value

def IsB (w : World) (b : Nat) : Prop := ∃ (cs : Array Value) (fz : Nat × Nat), w.heap[b]? = some (.cells cs 5 fz)
theorem IsB.of {w : World} {b : Nat} {cs : Array Value} (h : Blk w b 5 cs) : IsB w b := ⟨cs, _, h⟩
theorem IsB.fr {w w' : World} {S : Nat → Prop} {b : Nat} (h : IsB w b) (hf : Fr S w w') (hs : ¬ S b) : IsB w' b := by
  obtain ⟨cs, fz, hb⟩ := h
  exact ⟨cs, fz, (hf.block b (Array.getElem?_eq_some_iff.1 hb).1 hs).trans hb⟩
def RdB (w : World) (A : Option Addr) (n : Nat) (xs : List Int) : Prop := Rd (IsB w) w 1 A n (u8s xs) ∧ Byt xs
def Reads (w : World) (f : Lit → Option Value) (R : List Rep) : Prop :=
  ∀ r ∈ R, ∃ (A : Option Addr) (n c : Nat) (A' : Option Addr) (n' c' : Nat), f (.int .u64 r.seq) = some (.agg #[.slice A n c, .slice A' n' c']) ∧ RdB w A n r.req ∧ RdB w A' n' r.rep ∧ n ≤ 1000000 ∧ n' ≤ 1000000

section
variable {w w' : World} {S : Nat → Prop}
theorem RdB.fr {A : Option Addr} {n : Nat} {xs : List Int} (h : RdB w A n xs) (hf : Fr S w w') (hs : ∀ k, S k → ¬ IsB w k) : RdB w' A n xs := by
  refine ⟨⟨h.1.1, fun hn => ?_⟩, h.2⟩
  obtain ⟨ad, e, hb, hlt, hc⟩ := h.1.2 hn
  have hns : ¬ S ad.block := fun hk => hs _ hk hb
  exact ⟨ad, e, hb.fr hf hns, Nat.lt_of_lt_of_le hlt hf.size, fun j u hu => by
    have := hc j u hu
    rwa [← hf.cell (p := ad.add j) (by rw [add_block]; exact hlt) (by rw [add_block]; exact hns)] at this⟩
theorem Reads.fr {f : Lit → Option Value} {R : List Rep} (h : Reads w f R) (hf : Fr S w w') (hs : ∀ k, S k → ¬ IsB w k) : Reads w' f R := fun r hr => by
  obtain ⟨A, n, c, A', n', c', h1, h2, h3, h4⟩ := h r hr
  exact ⟨A, n, c, A', n', c', h1, h2.fr hf hs, h3.fr hf hs, h4⟩
/-- A clone. -/
theorem RdB.own {base n c : Nat} {A : Option Addr} {xs : List Int} (h : w.ownsRow base 5 1 (.slice A n c) n (u8s xs)) (hb : Byt xs) : RdB w A n xs := by
  refine ⟨⟨h.1, fun hn => ?_⟩, hb⟩
  obtain ⟨ad, e, hp, hlt, hc⟩ := (Rd.own h rfl).2 hn
  obtain ⟨g, cap, he, _, _⟩ := own_form h hn
  injection he with he
  rcases h.2 with ⟨h', _⟩ | ⟨g', cap', cur, h', _, hh, _⟩
  · injection h' with h'; rw [h'] at e; cases e
  · injection h' with h'
    rw [h'] at e
    injection e with e
    subst e
    exact ⟨_, h', .of hh, hlt, hc⟩
theorem not_blk {t : TypeId} {cs : Array Value} {k : Nat} (h : Blk w k t cs) (ht : t ≠ 5) : ¬ IsB w k := by
  rintro ⟨cs', fz, hb⟩
  unfold Blk at h
  rw [h] at hb
  injection hb with hb
  injection hb with _ hb
  exact ht hb
theorem not_own {base e s n k : Nat} {v : Value} {xs : List Value} (h : w.ownsRow base e s v n xs) (he : e ≠ 5) (hk : v.ownBlock = some k) : ¬ IsB w k := by
  rcases h.2 with ⟨rfl, _⟩ | ⟨g', cap, cur, rfl, _, hh, _⟩
  · simp [Value.ownBlock] at hk
  · have : g' = k := by simpa [Value.ownBlock] using hk
    subst this
    exact not_blk hh he
theorem not_map {P : Program} {kt : TypeId} {b n : Nat} {f : Lit → Option Value} (h : MapAt w P kt b n f) : ¬ IsB w b := by
  rintro ⟨cs, fz, hb⟩
  obtain ⟨D, ⟨es, clock, hx, _⟩, _⟩ := h
  rw [hx] at hb
  cases hb
theorem ri_not {base g bm m : Nat} {v : Value} {O : List Int} {f : Lit → Option Value} {most : Int} (h : Ri.Rg w base g v bm m O f most) : ∀ k, Ri.Ours g bm v k → ¬ IsB w k := by
  rintro k (rfl | rfl | hk)
  · exact not_blk h.blk (by decide)
  · exact not_map h.map
  · exact not_own h.own (by decide) hk
theorem ro_not {base g bm m : Nat} {v : Value} {O : List Int} {f : Lit → Option Value} {most : Int} (h : Ro.Rg w base g v bm m O f most) : ∀ k, Ro.Ours g bm v k → ¬ IsB w k := by
  rintro k (rfl | rfl | hk)
  · exact not_blk h.blk (by decide)
  · exact not_map h.map
  · exact not_own h.own (by decide) hk
end

structure SesIn (w : World) (base : Nat) (s : Ses) : Prop where
  ring : Ri.Rg w base s.g s.v s.bm s.m (s.R.map Rep.seq) s.f 64
  len : s.R.length ≤ 64
  reads : Reads w s.f s.R
theorem SesIn.fr {w w' : World} {base : Nat} {s : Ses} {S : Nat → Prop} (h : SesIn w base s) (hf : Fr S w w') (h1 : ∀ k, S k → ¬ Ri.Ours s.g s.bm s.v k) (h2 : ∀ k, S k → ¬ IsB w k) : SesIn w' base s :=
  ⟨h.ring.fr hf (fun hk => h1 _ hk (.inl rfl)) (fun hk => h1 _ hk (.inr (.inl rfl))) (fun k hk hs => h1 _ hs (.inr (.inr hk))), h.len, h.reads.fr hf h2⟩

/-- A cache at block g. -/
structure Ca (w : World) (base g : Nat) (v : Value) (bm m : Nat) (f : Lit → Option Value) (S : List Ses) (N : Nat) : Prop where
  ring : Ro.Rg w base g v bm m (S.map Ses.id) f 8
  len : S.length ≤ 8
  mN : m ≤ N
  ptr : ∀ s ∈ S, f (.int .u64 s.id) = some (.pointer (some ⟨s.g, 0, none⟩))
  ins : ∀ s ∈ S, SesIn w base s ∧ s.m ≤ N
  out : ∀ s ∈ S, ∀ k, Ri.Ours s.g s.bm s.v k → ¬ Ro.Ours g bm v k
  apart : S.Pairwise fun s t => ∀ k, Ri.Ours s.g s.bm s.v k → ¬ Ri.Ours t.g t.bm t.v k

/-- What stays of a list beside what is put. -/
def keptL {α : Type} (key : α → Int) (L : List α) (a : Int) (most : Nat) : List α := if (L.filter fun x => key x != a).length = most then (L.filter fun x => key x != a).tail else L.filter fun x => key x != a
theorem erase_filter {α : Type} (key : α → Int) (L : List α) (a : Int) (hn : (L.map key).Nodup) : (L.map key).erase a = (L.filter fun x => key x != a).map key := by
  induction L with
  | nil => rfl
  | cons x L ih =>
    rw [List.map_cons, List.nodup_cons] at hn
    rw [List.map_cons, List.erase_cons, List.filter_cons]
    by_cases h : key x = a
    · subst h
      have hall : L.filter (fun y => key y != key x) = L := by
        rw [List.filter_eq_self]
        intro y hy
        have : key y ≠ key x := fun e => hn.1 (by rw [← e]; exact List.mem_map_of_mem hy)
        simpa using this
      simp [hall]
    · have h1 : (key x == a) = false := by simpa using h
      have h2 : (key x != a) = true := by simpa using h
      rw [h1, h2]
      simp only [Bool.false_eq_true, if_false, if_true, List.map_cons]
      rw [ih hn.2]
theorem keptL_mem {α : Type} {key : α → Int} {L : List α} {a : Int} {most : Nat} {x : α} (h : x ∈ keptL key L a most) : x ∈ L ∧ key x ≠ a := by
  have : x ∈ L.filter fun x => key x != a := by
    unfold keptL at h
    split at h
    · exact List.mem_of_mem_tail h
    · exact h
  rw [List.mem_filter] at this
  exact ⟨this.1, by simpa using this.2⟩
theorem keptL_sub {α : Type} (key : α → Int) (L : List α) (a : Int) (most : Nat) : (keptL key L a most).Sublist L := by
  unfold keptL
  split
  · exact (List.tail_sublist _).trans (List.filter_sublist)
  · exact List.filter_sublist
theorem keptL_len {α : Type} (key : α → Int) (L : List α) (a : Int) (most : Nat) (h : L.length ≤ most) (h0 : 0 < most) : (keptL key L a most).length < most := by
  have hl : (L.filter fun x => key x != a).length ≤ L.length := List.length_filter_le _ _
  unfold keptL
  split
  · simp; omega
  · omega
theorem ri_kept {L : List Rep} (a : Int) (hn : (L.map Rep.seq).Nodup) : Ri.keptO (L.map Rep.seq) a 64 = (keptL Rep.seq L a 64).map Rep.seq := by
  unfold Ri.keptO keptL
  rw [Ri.eraseN_eq, erase_filter Rep.seq L a hn, List.length_map]
  by_cases h : (L.filter fun x => x.seq != a).length = 64
  · rw [if_pos h, if_pos (by omega), List.map_tail]
  · rw [if_neg h, if_neg (by omega)]
theorem ro_kept {L : List Ses} (a : Int) (hn : (L.map Ses.id).Nodup) : Ro.keptO (L.map Ses.id) a 8 = (keptL Ses.id L a 8).map Ses.id := by
  unfold Ro.keptO keptL
  rw [Ro.eraseN_eq, erase_filter Ses.id L a hn, List.length_map]
  by_cases h : (L.filter fun x => x.id != a).length = 8
  · rw [if_pos h, if_pos (by omega), List.map_tail]
  · rw [if_neg h, if_neg (by omega)]

/-- What a session has behind a reply. -/
def keepR (R : List Rep) (q : Int) (rq rp : List Int) : List Rep := keptL Rep.seq R q 64 ++ [⟨q, rq, rp⟩]
theorem SesIn.put {w w' : World} {base : Nat} {s : Ses} (h : SesIn w base s) {q : Int} {rq rp : List Int} {A A' : Option Addr} {n c n' c' : Nat} {v' : Value}
    (hr : Ri.Rg w' base s.g v' s.bm (s.m + 1) (Ri.keptO (s.R.map Rep.seq) q 64 ++ [q]) (putF (Ri.keptF s.f (s.R.map Rep.seq) q 64) (.int .u64 q) (some (.agg #[.slice A n c, .slice A' n' c']))) 64)
    (hf : Fr (Ri.Ours s.g s.bm s.v) w w') (h1 : RdB w A n rq) (h2 : RdB w A' n' rp) (hn : n ≤ 1000000) (hn' : n' ≤ 1000000) :
    SesIn w' base ⟨s.id, s.g, s.bm, s.m + 1, v', keepR s.R q rq rp, putF (Ri.keptF s.f (s.R.map Rep.seq) q 64) (.int .u64 q) (some (.agg #[.slice A n c, .slice A' n' c']))⟩ := by
  have hnot := ri_not h.ring
  refine ⟨?_, ?_, ?_⟩
  · have e : (keepR s.R q rq rp).map Rep.seq = Ri.keptO (s.R.map Rep.seq) q 64 ++ [q] := by rw [keepR, List.map_append, ri_kept q h.ring.nd]; rfl
    show Ri.Rg w' base s.g v' s.bm (s.m + 1) ((keepR s.R q rq rp).map Rep.seq) _ 64
    rw [e]
    exact hr
  · have := keptL_len Rep.seq s.R q 64 h.len (by omega)
    simp [keepR]; omega
  · intro r hm
    rcases List.mem_append.1 hm with hm | hm
    · obtain ⟨hm1, hm2⟩ := keptL_mem hm
      obtain ⟨B, k, d, B', k', d', e1, e2, e3, e4⟩ := h.reads r hm1
      refine ⟨B, k, d, B', k', d', ?_, e2.fr hf hnot, e3.fr hf hnot, e4⟩
      show putF _ _ _ (.int .u64 r.seq) = _
      rw [putF_other (by simpa using hm2), Ri.keptF_mem h.ring.nd (by rw [ri_kept q h.ring.nd]; exact List.mem_map_of_mem hm), e1]
    · obtain rfl := List.mem_singleton.1 hm
      exact ⟨A, n, c, A', n', c', putF_same (kl := .int .u64 q) trivial _, h1.fr hf hnot, h2.fr hf hnot, hn, hn'⟩

theorem pw {α : Type} {R : α → α → Prop} {L : List α} (hp : L.Pairwise R) (hsym : ∀ a b, R a b → R b a) {a b : α} (ha : a ∈ L) (hb : b ∈ L) (hne : a ≠ b) : R a b := by
  obtain ⟨i, hi, rfl⟩ := List.mem_iff_getElem.1 ha
  obtain ⟨j, hj, rfl⟩ := List.mem_iff_getElem.1 hb
  rw [List.pairwise_iff_getElem] at hp
  rcases Nat.lt_trichotomy i j with h | h | h
  · exact hp i j hi hj h
  · subst h; exact absurd rfl hne
  · exact hsym _ _ (hp j i hj hi h)
theorem Ca.two {w : World} {base g : Nat} {v : Value} {bm m : Nat} {f : Lit → Option Value} {S : List Ses} {N : Nat} (h : Ca w base g v bm m f S N) {s t : Ses} (hs : s ∈ S) (ht : t ∈ S) (hne : t.id ≠ s.id) (k : Nat) (hk : Ri.Ours t.g t.bm t.v k) : ¬ Ri.Ours s.g s.bm s.v k :=
  pw h.apart (fun a b hab k h1 h2 => hab k h2 h1) ht hs (fun e => hne (by rw [e])) k hk

/-- The cache behind a session's new reply. -/
theorem Ca.keep {w w1 w4 : World} {base g : Nat} {v v1 : Value} {bm m : Nat} {f : Lit → Option Value} {S : List Ses} {N : Nat} {a : Int} {s' : Ses} {T : Nat → Prop} (h : Ca w base g v bm m f S N)
    (hr1 : Ro.Rg w1 base g v1 bm (m + 1) (Ro.keptO (S.map Ses.id) a 8 ++ [a]) (putF (Ro.keptF f (S.map Ses.id) a 8) (.int .u64 a) (some (.pointer (some ⟨s'.g, 0, none⟩)))) 8)
    (hF1 : Fr (Ro.Ours g bm v) w w1) (hA1 : ∀ k, v1.ownBlock = some k → v.ownBlock = some k ∨ w.heap.size ≤ k) (hF : Fr T w1 w4) (hs : SesIn w4 base s') (hid : s'.id = a) (hm : s'.m ≤ N + 1)
    (hT1 : ∀ t ∈ S, t.id ≠ a → ∀ k, Ri.Ours t.g t.bm t.v k → ¬ T k) (hT0 : ∀ k, T k → ¬ Ro.Ours g bm v1 k) (hTB : ∀ k, T k → ¬ IsB w1 k)
    (hs0 : ∀ k, Ri.Ours s'.g s'.bm s'.v k → ¬ Ro.Ours g bm v1 k) (hs1 : ∀ t ∈ S, t.id ≠ a → ∀ k, Ri.Ours t.g t.bm t.v k → ¬ Ri.Ours s'.g s'.bm s'.v k) :
    Ca w4 base g v1 bm (m + 1) (putF (Ro.keptF f (S.map Ses.id) a 8) (.int .u64 a) (some (.pointer (some ⟨s'.g, 0, none⟩)))) (keptL Ses.id S a 8 ++ [s']) (N + 1) := by
  have hids : (keptL Ses.id S a 8 ++ [s']).map Ses.id = Ro.keptO (S.map Ses.id) a 8 ++ [a] := by rw [List.map_append, ro_kept a h.ring.nd, List.map_cons, hid]; rfl
  refine ⟨?_, ?_, by have := h.mN; omega, ?_, ?_, ?_, ?_⟩
  · rw [hids]
    exact hr1.fr hF (fun hk => hT0 _ hk (.inl rfl)) (fun hk => hT0 _ hk (.inr (.inl rfl))) (fun k hk ht => hT0 _ ht (.inr (.inr hk)))
  · have := keptL_len Ses.id S a 8 h.len (by omega)
    simp; omega
  · intro t ht
    rcases List.mem_append.1 ht with ht | ht
    · obtain ⟨h1, h2⟩ := keptL_mem ht
      rw [putF_other (by simpa using h2), Ro.keptF_mem h.ring.nd (by rw [ro_kept a h.ring.nd]; exact List.mem_map_of_mem ht)]
      exact h.ptr t h1
    · obtain rfl := List.mem_singleton.1 ht
      rw [hid]
      exact putF_same (kl := .int .u64 a) trivial _
  · intro t ht
    rcases List.mem_append.1 ht with ht | ht
    · obtain ⟨h1, h2⟩ := keptL_mem ht
      obtain ⟨h3, h4⟩ := h.ins t h1
      refine ⟨(h3.fr hF1 (fun k hk ho => h.out t h1 k ho hk) (ro_not h.ring)).fr hF (fun k hk ho => hT1 t h1 h2 k ho hk) hTB, by omega⟩
    · obtain rfl := List.mem_singleton.1 ht
      exact ⟨hs, hm⟩
  · intro t ht k hk
    rcases List.mem_append.1 ht with ht | ht
    · obtain ⟨h1, h2⟩ := keptL_mem ht
      have h0 := h.out t h1 k hk
      have hlt := ((h.ins t h1).1.ring.ours k hk).2
      rintro (e | e | e)
      · exact h0 (.inl e)
      · exact h0 (.inr (.inl e))
      · rcases hA1 k e with e' | e'
        · exact h0 (.inr (.inr e'))
        · omega
    · obtain rfl := List.mem_singleton.1 ht
      exact hs0 k hk
  · rw [List.pairwise_append]
    refine ⟨h.apart.sublist (keptL_sub Ses.id S a 8), by simp, ?_⟩
    intro t ht u hu
    obtain rfl := List.mem_singleton.1 hu
    obtain ⟨h1, h2⟩ := keptL_mem ht
    exact hs1 t h1 h2

theorem Ca.fr {w w' : World} {base g : Nat} {v : Value} {bm m : Nat} {f : Lit → Option Value} {S : List Ses} {N : Nat} {T : Nat → Prop} (h : Ca w base g v bm m f S N) (hf : Fr T w w') (h0 : ∀ k, T k → ¬ Ro.Ours g bm v k)
    (h1 : ∀ s ∈ S, ∀ k, T k → ¬ Ri.Ours s.g s.bm s.v k) (h2 : ∀ k, T k → ¬ IsB w k) : Ca w' base g v bm m f S N :=
  ⟨h.ring.fr hf (fun hk => h0 _ hk (.inl rfl)) (fun hk => h0 _ hk (.inr (.inl rfl))) (fun k hk ht => h0 _ ht (.inr (.inr hk))), h.len, h.mN, h.ptr, fun s hs => ⟨(h.ins s hs).1.fr hf (h1 s hs) h2, (h.ins s hs).2⟩, h.out, h.apart⟩
theorem Ca.new {w w' : World} {base g : Nat} {v : Value} {bm m : Nat} {f : Lit → Option Value} {S : List Ses} {N : Nat} (h : Ca w base g v bm m f S N) (hn : New w w') : Ca w' base g v bm m f S N :=
  h.fr (hn.toFr NoB) (fun _ x => x.elim) (fun _ _ _ x => x.elim) (fun _ x => x.elim)
end Go.Proofs.Ytpomcnfifhfffaa
