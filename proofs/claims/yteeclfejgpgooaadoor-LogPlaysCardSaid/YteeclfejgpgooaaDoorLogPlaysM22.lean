/- Texts of one proof, one behind the other: LkM, LkN, LjC, LjD. No condition but each one's own. -/
import Derived.Test.YteeclfejgpgooaaDoorLogPlaysM17
import Derived.Test.YteeclfejgpgooaaDoorLogPlaysM21
import Derived.Test.YteeclfejgpgooaaDoorLogPlaysM20
/- A log on a disk of a function's own, as one fact; what its acts leave alone. sha's tables are as they were laid. No condition else. -/
namespace Go.Proofs.YteeclfejgpgooaaDoor
set_option linter.unusedVariables false
set_option linter.unusedSimpArgs false
set_option linter.constructorNameAsVariable false
open Go.RowKit Go.Sort Go.Maps

/-- What a log and its disk leave alone. -/
structure Kpl (W w w' : World) : Prop where
  ex : ∃ S : Nat → Prop, Fr S w w' ∧ ∀ k, S k → W.heap.size ≤ k ∧ ∀ cs t fz, w.heap[k]? = some (.cells cs t fz) → t = 100 ∨ t = 88 ∨ t = 3
def Kin (W w : World) (k : Nat) : Prop := W.heap.size ≤ k ∧ ∀ cs t fz, w.heap[k]? = some (.cells cs t fz) → t = 100 ∨ t = 88 ∨ t = 3
theorem dk_kin {W w : World} {g bs bf : Nat} {v : Value} {p : DP} (h : Dk w W.heap.size g bs bf v p) : ∀ k, DkOurs g bs bf v k → Kin W w k := fun k hk => ⟨(h.ours k hk).1, fun cs t fz hc => by
  rcases hk with rfl | rfl | rfl | ho
  · have := h.blk
    rw [show w.heap[k]? = some _ from this] at hc
    injection hc with hc
    injection hc with _ e _
    exact .inr (.inl e.symm)
  · exact absurd ⟨cs, fz, hc⟩ (IsT.not_map h.ms)
  · exact absurd ⟨cs, fz, hc⟩ (IsT.not_map h.mw)
  · obtain ⟨cs', fz', h'⟩ := own_isT' h.own ho
    rw [h'] at hc
    injection hc with hc
    injection hc with _ e _
    exact .inr (.inr e.symm)⟩
theorem lg_kin {W w : World} {gl gd n : Nat} {l : LG} (h : Lg w gl gd l n) (hl : W.heap.size ≤ gl) : Kin W w gl := ⟨hl, fun cs t fz hc => by
  rw [show w.heap[gl]? = some _ from h.blk] at hc
  injection hc with hc
  injection hc with _ e _
  exact .inl e.symm⟩
section
variable {W w w' w'' : World}
theorem Kpl.of {S : Nat → Prop} (hF : Fr S w w') (h : ∀ k, S k → Kin W w k) : Kpl W w w' := ⟨S, hF, h⟩
theorem Kpl.new (h : New w w') : Kpl W w w' := ⟨NoB, h.toFr _, fun _ x => x.elim⟩
theorem Kpl.blk (h : Kpl W w w') {b t : Nat} {cs : Array Value} (hb : Blk w b t cs) (h1 : t ≠ 100) (h2 : t ≠ 88) (h3 : t ≠ 3) : Blk w' b t cs := by
  obtain ⟨S, hF, hS⟩ := h.ex
  refine hb.fr hF (fun hs => ?_)
  rcases (hS b hs).2 _ _ _ hb with e | e | e
  · exact h1 e
  · exact h2 e
  · exact h3 e
theorem Kpl.fr (h : Kpl W w w') : ∃ S : Nat → Prop, Fr S w w' ∧ (∀ k, S k → W.heap.size ≤ k) ∧ ∀ t, t ≠ 100 → t ≠ 88 → t ≠ 3 → ∀ k, S k → ¬ IsT t w k := by
  obtain ⟨S, hF, hS⟩ := h.ex
  refine ⟨S, hF, fun k hk => (hS k hk).1, fun t h1 h2 h3 k hk ⟨cs, fz, hc⟩ => ?_⟩
  rcases (hS k hk).2 _ _ _ hc with e | e | e
  · exact h1 e
  · exact h2 e
  · exact h3 e
theorem Kpl.nw (h : Kpl W w w') (hN : New W w) : New W w' := by
  obtain ⟨S, hF, hS, -⟩ := h.fr
  exact hN.fr hF hS
end
/-- A disk; a log on it. -/
def Dkl (W w : World) (gd : Nat) (p : DP) : Prop := ∃ bs bf v, Dk w W.heap.size gd bs bf v p ∧ New W w
def Lgl (W w : World) (gd gl : Nat) (p : DP) (l : LG) : Prop := ∃ bs bf v, Dk w W.heap.size gd bs bf v p ∧ Lg w gl gd l p.size ∧ W.heap.size ≤ gl ∧ New W w
section
variable {W w w' : World} {gd gl : Nat} {p : DP} {l : LG}
theorem Dkl.new (h : Dkl W w gd p) (hN : New w w') : Dkl W w' gd p := by obtain ⟨bs, bf, v, h1, h2⟩ := h; exact ⟨bs, bf, v, h1.new hN, h2.tr hN⟩
theorem Lgl.new (h : Lgl W w gd gl p l) (hN : New w w') : Lgl W w' gd gl p l := by obtain ⟨bs, bf, v, h1, h2, h3, h4⟩ := h; exact ⟨bs, bf, v, h1.new hN, h2.new hN, h3, h4.tr hN⟩
theorem Lgl.dkl (h : Lgl W w gd gl p l) : Dkl W w gd p := by obtain ⟨bs, bf, v, h1, h2, h3, h4⟩ := h; exact ⟨bs, bf, v, h1, h4⟩
theorem Lgl.nw (h : Lgl W w gd gl p l) : New W w := by obtain ⟨bs, bf, v, h1, h2, h3, h4⟩ := h; exact h4
theorem Lgl.ok (h : Lgl W w gd gl p l) : p.Ok := by obtain ⟨bs, bf, v, h1, h2, h3, h4⟩ := h; exact h1.ok
theorem Lgl.lok (h : Lgl W w gd gl p l) : l.Ok p.size := by obtain ⟨bs, bf, v, h1, h2, h3, h4⟩ := h; exact h2.ok
theorem Lgl.lgo (h : Lgl W w gd gl p l) : LgO W.heap.size w (some ⟨gl, 0, none⟩) gd p.size (some l) := by obtain ⟨bs, bf, v, h1, h2, h3, h4⟩ := h; exact ⟨gl, rfl, h3, h2⟩
theorem Lgl.lg (h : Lgl W w gd gl p l) : Lg w gl gd l p.size := by obtain ⟨bs, bf, v, h1, h2, h3, h4⟩ := h; exact h2
theorem Dkl.nw (h : Dkl W w gd p) : New W w := by obtain ⟨bs, bf, v, h1, h2⟩ := h; exact h2
theorem Dkl.ok (h : Dkl W w gd p) : p.Ok := by obtain ⟨bs, bf, v, h1, h2⟩ := h; exact h1.ok
theorem dnew_l (hN : New W w) (n : Nat) (h1 : 1 ≤ n) (h2 : n ≤ 16384) : Calls Tryd.prog 8 #[.int .i64 n] w fun e w' => ∃ g, e = .returned (.tuple #[.pointer (some ⟨g, 0, none⟩), .nilIface]) ∧ Dkl W w' g (DP.new n) ∧ New w w' :=
  (new_ok n w W.heap.size hN.size h1 h2).mono fun e w' ⟨he, hD, hN'⟩ => ⟨_, he, ⟨_, _, _, hD, hN.tr hN'⟩, hN'⟩
theorem open_l (h : Dkl W w gd p) (hL : ShaIn 3 2 W) (a b c : Int) (wa : (Lit.int .i64 a).wf = true) (wb : (Lit.int .i64 b).wf = true) (hc : 0 ≤ c ∧ c < 4294967296) {q : DP} {R : List (List Int)} {l : LG} (ho : opn p a b c = ⟨q, 0, R, some l⟩) (hz : q.size = p.size) :
    Calls Tryd.prog 12 #[.pointer (some ⟨gd, 0, none⟩), .int .i64 a, .int .i64 b, .int .u32 c] w fun e w' => ∃ gl A c, e = .returned (.tuple #[.pointer (some ⟨gl, 0, none⟩), .slice A R.length c, .nilIface]) ∧ Lgl W w' gd gl q l ∧ Recs w.heap.size w' (.slice A R.length c) R ∧ Kpl W w w' := by
  obtain ⟨bs, bf, v, h1, h2⟩ := h
  have hop := open_all h1 (hL.new h2) a b c wa wb hc
  rw [ho] at hop
  refine hop.mono fun e w' ⟨pl, A, cc, v', he, hLg, hR, hT⟩ => ?_
  obtain ⟨gl, rfl, hgl, hlg⟩ := hLg
  have hK : Kpl W w w' := Kpl.of hT.fr (dk_kin h1)
  exact ⟨gl, A, cc, he, ⟨bs, bf, v', hT.dk, by rw [hz]; exact hlg, by have := h2.size; omega, hK.nw h2⟩, hR, hK⟩
theorem fresh_l (h : Dkl W w gd p) (a b c : Nat) (hb : 1 ≤ b) (hab : a + b ≤ p.size) (hc : c < 4294967296) (hc0 : c ≠ 0) (hw : (wipeL p (lg0 a b c)).2 = 0) :
    Calls Tryd.prog 21 #[.pointer (some ⟨gd, 0, none⟩), .int .i64 a, .int .i64 b, .int .u32 c] w fun e w' => ∃ gl, e = .returned (.tuple #[.pointer (some ⟨gl, 0, none⟩), .nilIface]) ∧ Lgl W w' gd gl (wipeL p (lg0 a b c)).1 (lg0 a b c) ∧ Kpl W w w' := by
  obtain ⟨bs, bf, v, h1, h2⟩ := h
  refine (fresh_good h1 a b c hb hab hc hc0).mono fun e w' hs => ?_
  unfold FreshSays at hs
  rw [if_pos hw] at hs
  obtain ⟨gl, v', he, hgl, hlg, hT⟩ := hs
  have hK : Kpl W w w' := Kpl.of hT.fr (dk_kin h1)
  exact ⟨gl, he, ⟨bs, bf, v', hT.dk, by rw [wipeL_size]; exact hlg, by have := h2.size; omega, hK.nw h2⟩, hK⟩
theorem cut_l (h : Dkl W w gd p) {q : Nat → Prop} (A : Option Addr) (n c : Nat) (keep : List Bool) (hR : Rd q w 1 A n (bools keep)) (hn : n ≤ maxLen) (hq : ∀ k, q k → k < W.heap.size) :
    Calls Tryd.prog 31 #[.pointer (some ⟨gd, 0, none⟩), .slice A n c] w fun e w' => e = .returned (.tuple #[]) ∧ Dkl W w' gd (p.cut keep) ∧ Kpl W w w' := by
  obtain ⟨bs, bf, v, h1, h2⟩ := h
  refine (cut_in h1 A n c keep hR hn (fun k hk e => by have h3 := hq k hk; have h4 := (h1.ours bs (.inr (.inl rfl))).1; omega)).mono fun e w' ⟨he, hD, hF⟩ => ?_
  have hK : Kpl W w w' := Kpl.of hF (fun k hk => dk_kin h1 k (by rcases hk with h | h | h <;> simp [DkOurs, h]))
  exact ⟨he, ⟨bs, bf, _, hD, hK.nw h2⟩, hK⟩
theorem sync_l (h : Lgl W w gd gl p l) : Calls Tryd.prog 30 #[.pointer (some ⟨gd, 0, none⟩)] w fun e w' => e = .returned (errD p.scode) ∧ Lgl W w' gd gl p.doSync l ∧ Kpl W w w' := by
  obtain ⟨bs, bf, v, h1, h2, h3, h4⟩ := h
  refine (sync_all h1).mono fun e w' ⟨he, v', hD, hF, hO⟩ => ?_
  have hK : Kpl W w w' := Kpl.of hF (dk_kin h1)
  exact ⟨he, ⟨bs, bf, v', hD, by rw [DP.doSync_size]; exact h2.fr hF (lg_apart h1 h2), h3, hK.nw h4⟩, hK⟩
theorem fuse_l (h : Lgl W w gd gl p l) (a : Int) (ha : (Lit.int .i64 a).wf = true) : Calls Tryd.prog 32 #[.pointer (some ⟨gd, 0, none⟩), .int .i64 a] w fun e w' => e = .returned (.tuple #[]) ∧ Lgl W w' gd gl (p.fused a) l ∧ Kpl W w w' := by
  obtain ⟨bs, bf, v, h1, h2, h3, h4⟩ := h
  refine (fuse_in h1 ha).mono fun e w' ⟨he, hD, hF⟩ => ?_
  have hK : Kpl W w w' := Kpl.of hF (fun k hk => dk_kin h1 k (.inl hk))
  exact ⟨he, ⟨bs, bf, v, hD, h2.fr hF (fun e => Blk.ne_ h2.blk h1.blk (by decide) e), h3, hK.nw h4⟩, hK⟩
theorem app_l {q : Nat → Prop} (h : Lgl W w gd gl p l) (hL : ShaIn 3 2 W) (A : Option Addr) (n c : Nat) (b : List Int) (hR : Rd q w 1 A n (u8s b)) (hb : Byt b) (hn : n ≤ maxLen) :
    Calls Tryd.prog 25 #[.pointer (some ⟨gl, 0, none⟩), .slice A n c] w fun e w' => e = .returned (errD (appL p l b).2.2) ∧ Lgl W w' gd gl (appL p l b).1 (appL p l b).2.1 ∧ Kpl W w w' := by
  obtain ⟨bs, bf, v, h1, h2, h3, h4⟩ := h
  refine (app_any h2 h1 (hL.new h4) A n c b hR hb hn).mono fun e w' ⟨he, v', hT⟩ => ?_
  have hK : Kpl W w w' := Kpl.of hT.fr (fun k hk => by
    rcases hk with rfl | hk
    · exact lg_kin h2 h3
    · exact dk_kin h1 k hk)
  exact ⟨he, ⟨bs, bf, v', hT.dk, hT.lg, h3, hK.nw h4⟩, hK⟩
end
end Go.Proofs.YteeclfejgpgooaaDoor
/- Records that are known: texts among the arguments, texts that are new; records side by side. No condition. -/
namespace Go.Proofs.YteeclfejgpgooaaDoor
set_option linter.unusedVariables false
set_option linter.unusedSimpArgs false
set_option linter.constructorNameAsVariable false
open Go.RowKit Go.Sort

theorem appL_size (p : DP) (l : LG) (b : List Int) : (appL p l b).1.size = p.size := by
  unfold appL
  split
  · rfl
  split
  · rfl
  split
  · rfl
  simp only
  split
  · exact writeN_size _ _ _ _
  · exact writeN_size _ _ _ _
theorem runs_le {p : DP} {l : LG} : ∀ k, (runs p l k).2.length ≤ k
  | 0 => Nat.zero_le _
  | k + 1 => by
    have ih := runs_le (p := p) (l := l) k
    cases hn : nextL p (runs p l k).1 with
    | none =>
      have := runs_none hn 1
      rw [this]
      omega
    | some b =>
      rw [runs_some hn]
      simp
      exact ih
/-- Texts that can be read, one by one. -/
def Row0 (w : World) (A : Option Addr) (L : List (List Int)) : Prop := ∀ i l, L[i]? = some l → ∃ g o A' c', A = some ⟨g, o, none⟩ ∧ w.cell? ⟨g, o + i, none⟩ = some (.slice A' l.length c') ∧ Byt l ∧ Rd (fun _ => True) w 1 A' l.length (u8s l)
theorem Row0.take {w : World} {A : Option Addr} {L : List (List Int)} (h : Row0 w A L) (j : Nat) : Row0 w A (L.take j) := fun i l hl => h i l (by
  have hi := (List.getElem?_eq_some_iff.1 hl).1
  rw [List.length_take] at hi
  rwa [List.getElem?_take_of_lt (by omega)] at hl)
theorem Row0.new {w w' : World} {A : Option Addr} {L : List (List Int)} (h : Row0 w A L) (hN : New w w') : Row0 w' A L := fun i l hl => by
  obtain ⟨g, o, A', c', h1, h2, h3, h4⟩ := h i l hl
  exact ⟨g, o, A', c', h1, hN.cell_ h2, h3, hN.rd h4⟩
/-- Texts that are known: old ones, or new. -/
structure RecsK (B : Nat) (w : World) (v : Value) (L : List (List Int)) : Prop where
  row : ∃ vs : List Value, w.ownsRow B 43 1 v L.length vs ∧ ∀ (i : Nat) l, L[i]? = some l → ∃ A c, vs[i]? = some (.slice A l.length c) ∧ Byt l ∧ Rd (fun k => k < B ∨ IsT 5 w k) w 1 A l.length (u8s l)
theorem RecsK.nil (B : Nat) (w : World) : RecsK B w (.slice none 0 0) [] := ⟨[], ⟨rfl, .inl ⟨rfl, rfl⟩⟩, fun i l hl => by simp at hl⟩
theorem Recs.toK {B : Nat} {w : World} {v : Value} {L : List (List Int)} (h : Recs B w v L) : RecsK B w v L := by
  obtain ⟨vs, ho, he⟩ := h.row
  refine ⟨vs, ho, fun i l hl => ?_⟩
  obtain ⟨A, c, h1, h2, h3, h4, h5⟩ := he i l hl
  exact ⟨A, c, h1, h4, h5.imp (fun k hk => .inr hk.2)⟩
theorem RecsK.shape {B : Nat} {w : World} {v : Value} {L : List (List Int)} (h : RecsK B w v L) : ∃ A c, v = .slice A L.length c ∧ c ≤ maxLen ∧ L.length ≤ c := by
  obtain ⟨vs, ho, -⟩ := h.row
  obtain ⟨A, c, h1, h2, h3, -⟩ := own_shape ho
  exact ⟨A, c, h1, h3, h2⟩
theorem RecsK.fr {B : Nat} {S : Nat → Prop} {w w' : World} {v : Value} {L : List (List Int)} (h : RecsK B w v L) (hF : Fr S w w') (hS : ∀ k, S k → B ≤ k ∧ ¬ IsT 5 w k ∧ ¬ IsT 43 w k) : RecsK B w' v L := by
  obtain ⟨vs, ho, he⟩ := h.row
  refine ⟨vs, own_fr ho hF (fun k hk hs => (hS k hs).2.2 (own_isT' ho hk)), fun i l hl => ?_⟩
  obtain ⟨A, c, h1, h2, h3⟩ := he i l hl
  refine ⟨A, c, h1, h2, (h3.fr hF (fun k hk hs => ?_)).imp (fun k hk => ?_)⟩
  · rcases hk with hk | hk
    · have := (hS k hs).1; omega
    · exact (hS k hs).2.1 hk
  · rcases hk with hk | hk
    · exact .inl hk
    · exact .inr (hk.fr hF (fun hs => (hS k hs).2.1 hk))
theorem RecsK.new {B : Nat} {w w' : World} {v : Value} {L : List (List Int)} (h : RecsK B w v L) (hN : New w w') : RecsK B w' v L := h.fr (S := NoB) (hN.toFr _) (fun _ x => x.elim)
theorem RecsK.kpl {W w w' : World} {v : Value} {L : List (List Int)} (h : RecsK W.heap.size w v L) (hK : Kpl W w w') : RecsK W.heap.size w' v L := by
  obtain ⟨S, hF, hS, hT⟩ := hK.fr
  exact h.fr hF (fun k hk => ⟨hS k hk, hT _ (by decide) (by decide) (by decide) k hk, hT _ (by decide) (by decide) (by decide) k hk⟩)
theorem RecsK.row0 {B : Nat} {w : World} {A : Option Addr} {n c : Nat} {L : List (List Int)} (h : RecsK B w (.slice A n c) L) (hn : n = L.length) : Row0 w A L := by
  obtain ⟨vs, ho, he⟩ := h.row
  intro i l hl
  have hi := (List.getElem?_eq_some_iff.1 hl).1
  obtain ⟨g, o, hA, -, -, hc⟩ := (Rd.own ho (by rw [hn])).out (by omega) (by omega)
  obtain ⟨A', c', h1, h2, h3⟩ := he i l hl
  exact ⟨g, o, A', c', hA, hc i _ h1, h2, h3.imp (fun _ _ => trivial)⟩
theorem Recs.row0 {B : Nat} {w : World} {A : Option Addr} {n c : Nat} {L : List (List Int)} (h : Recs B w (.slice A n c) L) (hn : n = L.length) : Row0 w A L := h.toK.row0 hn
/-- One more. -/
theorem RecsK.push {B : Nat} {w w' : World} {A A' A2 : Option Addr} {m c c' c2 : Nat} {L : List (List Int)} {l : List Int} {vs : List Value} (hvs : w.ownsRow B 43 1 (.slice A m c) m vs ∧ ∀ (i : Nat) l, L[i]? = some l → ∃ A c, vs[i]? = some (.slice A l.length c) ∧ Byt l ∧ Rd (fun k => k < B ∨ IsT 5 w k) w 1 A l.length (u8s l)) (hm : m = L.length)
    (ho : w'.ownsRow B 43 1 (.slice A' (m + 1) c') (m + 1) (vs ++ [.slice A2 l.length c2])) (hF : Fr (fun k => (Value.slice A m c).ownBlock = some k) w w') (hb : Byt l) (hR : Rd (fun k => k < B ∨ IsT 5 w k) w 1 A2 l.length (u8s l)) : RecsK B w' (.slice A' (m + 1) c') (L ++ [l]) := by
  have hT : ∀ k, (Value.slice A m c).ownBlock = some k → B ≤ k ∧ ¬ IsT 5 w k := fun k hk => ⟨(own_lt hvs.1 k hk).1, IsT.not_own hvs.1 (by decide) hk⟩
  have hq : ∀ {A : Option Addr} {n : Nat} {xs : List Value}, Rd (fun k => k < B ∨ IsT 5 w k) w 1 A n xs → Rd (fun k => k < B ∨ IsT 5 w' k) w' 1 A n xs := fun h => (h.fr hF (fun k hk hs => by
    rcases hk with hk | hk
    · have := (hT k hs).1; omega
    · exact (hT k hs).2 hk)).imp (fun k hk => by
    rcases hk with hk | hk
    · exact .inl hk
    · exact .inr (hk.fr hF (fun hs => (hT k hs).2 hk)))
  refine ⟨vs ++ [.slice A2 l.length c2], by rw [List.length_append, List.length_singleton, ← hm]; exact ho, fun i l' hl => ?_⟩
  have hvl : vs.length = m := by have := hvs.1.1; omega
  rcases Nat.lt_or_ge i L.length with hi | hi
  · rw [List.getElem?_append_left hi] at hl
    obtain ⟨A3, c3, h1, h2, h3⟩ := hvs.2 i l' hl
    exact ⟨A3, c3, by rw [List.getElem?_append_left (by omega)]; exact h1, h2, hq h3⟩
  · rw [List.getElem?_append_right hi] at hl
    have hi0 : i - L.length = 0 := by
      have := (List.getElem?_eq_some_iff.1 hl).1
      simp at this
      omega
    rw [hi0] at hl
    obtain rfl : l = l' := by simpa using hl
    exact ⟨A2, c2, by rw [List.getElem?_append_right (by omega), show i - vs.length = 0 by omega]; rfl, hb, hq hR⟩
/-- Records side by side, wherever they stand. -/
theorem rows_any0 {w : World} {A A2 : Option Addr} {n n2 : Nat} (c c2 : Nat) {L M : List (List Int)} (h : Row0 w A L) (h2 : Row0 w A2 M) (hn : n = L.length) (hn2 : n2 = M.length) (hm : n ≤ 1000000000) (hm2 : n2 ≤ 1000000000) :
    Calls Tryd.prog 15 #[.slice A n c, .slice A2 n2 c2] w fun e w' => e = .returned (.bool (decide (L = M))) ∧ New w w' := by
  obtain ⟨r, hr⟩ : ∃ r, r = decide (L = M) := ⟨_, rfl⟩
  rw [← hr]
  have HR := Lib.hid hr
  have H1 := Lib.hid h
  have H2 := Lib.hid h2
  have HN := Lib.hid (And.intro hn hn2)
  clear hr h h2
  by_cases hnm : n = n2
  · subst hnm
    clear hn hn2
    go_enter Tryd.func15, Tryd.ntmps15
    go_wp2_with fail
    go_loopw [13] (fun i wr => ∃ k : Nat, k ≤ n ∧ i = .int .i64 k ∧ Hid (L.take k = M.take k) ∧ Hid (New w wr)) (fun i _ => n - (intOf i).toNat)
    case atStart => exact ⟨0, Nat.zero_le _, rfl, Lib.hid rfl, Lib.hid (New.refl _)⟩
    case round =>
      obtain ⟨k, hk, rfl, HE, HWR⟩ := hrel
      by_cases hlt : k < n
      · obtain ⟨l, hl⟩ : ∃ l, L[k]? = some l := ⟨_, List.getElem?_eq_getElem (by rw [← HN.out.1]; exact hlt)⟩
        obtain ⟨g, o, D, d, hA, hc, hb, hR⟩ := H1.out k l hl
        obtain ⟨m, hl2⟩ : ∃ m, M[k]? = some m := ⟨_, List.getElem?_eq_getElem (by rw [← HN.out.2]; exact hlt)⟩
        obtain ⟨g2, o2, D2, d2, hA2, hc2, hb2, hR2⟩ := H2.out k m hl2
        subst hA hA2
        have q1 : ∀ p : HW (New wr), p.w.cell? ⟨g, o + k, none⟩ = some (.slice D l.length d) := fun p => p.h.cell_ (HWR.out.cell_ hc)
        have q2 : ∀ p : HW (New wr), p.w.cell? ⟨g2, o2 + k, none⟩ = some (.slice D2 m.length d2) := fun p => p.h.cell_ (HWR.out.cell_ hc2)
        have HBY := Lib.hid (fun W (hN : New wr W) => bytes_any D D2 l.length m.length d d2 l m W ((HWR.out.tr hN).rd hR) ((HWR.out.tr hN).rd hR2) hb hb2)
        have HT : Hid (L.take (k + 1) = L.take k ++ [l] ∧ M.take (k + 1) = M.take k ++ [m] ∧ L[k]? = some l ∧ M[k]? = some m) := Lib.hid ⟨by rw [List.take_add_one, hl]; rfl, by rw [List.take_add_one, hl2]; rfl, hl, hl2⟩
        have hlt' : (k : Int) < (n : Int) := by omega
        have hk0 : (0 : Int) ≤ (k : Int) := by omega
        clear hl hl2 hc hc2 hb hb2 hR hR2
        by_cases he : l = m
        · have HD := Lib.hid (decide_eq_true he)
          have HEn : Hid (L.take (k + 1) = M.take (k + 1)) := Lib.hid (by rw [HT.out.1, HT.out.2.1, HE.out, he])
          clear he HE
          go_wp2_with fail
          refine wp_region_mixH (New wr) [(true, 0), (true, 1), (true, 2), (true, 3), (true, 4), (true, 5), (true, 6), (true, 7), (false, 8), (true, 9)] (by kernel_rfl) (by kernel_rfl) (New.dr (New.refl wr)) (fun hne => ?_)
          iterate 8 (refine mix_take (o := ⟨_, _, _, _, _, _⟩) rfl (fun K hK => ?_); go_simp; refine hK _ ?_; clear hK K)
          refine mix_act (o := ⟨_, _, _, _, _, _⟩) rfl (fun K hK => ?_) (.inl rfl)
          go_simp
          refine (HBY.out wr.drew (New.dr (New.refl wr))).mono ?_
          rintro e w1 ⟨rfl, hw1⟩
          rw [HD.out]
          have HN1 : Hid (New wr w1) := Lib.hid (by rw [← hw1]; exact New.dr (New.refl wr))
          clear hw1
          go_simp
          refine hK.out _ _ (fun _ => HN1.out) ?_
          clear hK K
          iterate 1 (refine mix_take (o := ⟨_, _, _, _, _, _⟩) rfl (fun K hK => ?_); go_simp; refine hK _ ?_; clear hK K)
          refine mix_done ?_
          go_wp2_with fail
          go_roundw
          case rel => exact ⟨k + 1, by omega, by go_num, HEn, Lib.hid (HWR.out.tr HN1.out)⟩
          case measure => simp [intOf]; omega
        · have HD := Lib.hid (decide_eq_false he)
          have HR0 : Hid (r = false) := Lib.hid (by
            rw [HR.out]
            refine decide_eq_false (fun e => he ?_)
            have h1 := HT.out.2.2.1
            rw [e, HT.out.2.2.2] at h1
            injection h1 with h1
            exact h1.symm)
          clear he
          go_wp2_with fail
          refine wp_region_mixH (New wr) [(true, 0), (true, 1), (true, 2), (true, 3), (true, 4), (true, 5), (true, 6), (true, 7), (false, 8), (true, 9)] (by kernel_rfl) (by kernel_rfl) (New.dr (New.refl wr)) (fun hne => ?_)
          iterate 8 (refine mix_take (o := ⟨_, _, _, _, _, _⟩) rfl (fun K hK => ?_); go_simp; refine hK _ ?_; clear hK K)
          refine mix_act (o := ⟨_, _, _, _, _, _⟩) rfl (fun K hK => ?_) (.inl rfl)
          go_simp
          refine (HBY.out wr.drew (New.dr (New.refl wr))).mono ?_
          rintro e w1 ⟨rfl, hw1⟩
          rw [HD.out]
          have HN1 : Hid (New wr w1) := Lib.hid (by rw [← hw1]; exact New.dr (New.refl wr))
          clear hw1
          go_simp
          refine hK.out _ _ (fun _ => HN1.out) ?_
          clear hK K
          iterate 1 (refine mix_take (o := ⟨_, _, _, _, _, _⟩) rfl (fun K hK => ?_); go_simp; refine hK _ ?_; clear hK K)
          refine mix_done ?_
          go_wp2_with fail
          go_ret
          rw [HR0.out]
          exact ⟨rfl, HWR.out.tr HN1.out⟩
      · have HR1 : Hid (r = true) := Lib.hid (by
          rw [HR.out]
          refine decide_eq_true ?_
          have h := HE.out
          rwa [List.take_of_length_le (by rw [← HN.out.1]; omega), List.take_of_length_le (by rw [← HN.out.2]; omega)] at h)
        go_wp2_with fail
        go_ret
        rw [HR1.out]
        exact ⟨rfl, HWR.out⟩
  · have HR0 : Hid (r = false) := Lib.hid (by rw [HR.out]; exact decide_eq_false (fun e => hnm (by rw [hn, hn2, e])))
    have hnm' : ¬ ((n : Int) = (n2 : Int)) := by omega
    clear hn hn2
    go_enter Tryd.func15, Tryd.ntmps15
    go_wp2_with fail
    go_ret
    rw [HR0.out]
    exact ⟨rfl, New.refl w⟩
end Go.Proofs.YteeclfejgpgooaaDoor
/- The reference: a record written behind the others. The tables of the reference's sha are as they were laid. No condition else but the disk's size. -/
namespace Go.Proofs.YteeclfejgpgooaaDoor
set_option linter.unusedVariables false
set_option linter.unusedSimpArgs false
set_option linter.constructorNameAsVariable false
open Go.RowKit Go.Sort

theorem results_row3c {fn : Func} {p p2 q : Tmp} {ty ty2 : TypeId} {P : Program} (h : fn.results = #[.cell p ty, .cell p2 ty2, .tmp q]) (tmps : Array Value) (w : World) (g g2 : Nat) (cs cs2 : Array Value) (d d2 : TypeDesc)
    (hp : tmps.getD p undef = .pointer (some ⟨g, 0, none⟩)) (hg : Blk w g ty cs) (hu : P.underlying ty = some d) (hd : d.isRow = true) (hi : (P.info? ty).map (·.size) = some cs.size)
    (hp2 : tmps.getD p2 undef = .pointer (some ⟨g2, 0, none⟩)) (hg2 : Blk w g2 ty2 cs2) (hu2 : P.underlying ty2 = some d2) (hd2 : d2.isRow = true) (hi2 : (P.info? ty2).map (·.size) = some cs2.size) :
    (results fn tmps).run P w = .ok (.tuple #[.agg cs, .agg cs2, tmps.getD q undef]) w := by
  have hp' : tmps[p]?.getD undef = .pointer (some ⟨g, 0, none⟩) := by simpa using hp
  have hp2' : tmps[p2]?.getD undef = .pointer (some ⟨g2, 0, none⟩) := by simpa using hp2
  simp [results, h, hp', hp2', asAddr, run_loadVar_row w g ty ty cs (0, 0) _ hg hu (by cases d <;> first | rfl | (simp [TypeDesc.isRow] at hd)) hi, run_loadVar_row w g2 ty2 ty2 cs2 (0, 0) _ hg2 hu2 (by cases d2 <;> first | rfl | (simp [TypeDesc.isRow] at hd2)) hi2]
def rz0 : Array Value := #[.int .i64 0, .slice none 0 0, .slice none 0 0, .int .i64 0, .bool false]
/-- The reference's disk behind so many sectors of a record. -/
def rwriteN (r : RP) (l : LG) (b : List Int) : Nat → RP × Int
  | 0 => (r, 0)
  | k + 1 => let x := rwriteN r l b k
    if x.2 ≠ 0 then x else (x.1.write ((l.first + l.used + k : Nat) : Int) (l.sec b k), x.1.wcode ((l.first + l.used + k : Nat) : Int))
theorem rwriteN_go {r : RP} {l : LG} {b : List Int} {k : Nat} (h : (rwriteN r l b k).2 = 0) : rwriteN r l b (k + 1) = ((rwriteN r l b k).1.write ((l.first + l.used + k : Nat) : Int) (l.sec b k), (rwriteN r l b k).1.wcode ((l.first + l.used + k : Nat) : Int)) := by
  show (if (rwriteN r l b k).2 ≠ 0 then rwriteN r l b k else _) = _
  rw [if_neg (by rw [h]; simp)]
theorem rwriteN_bad {r : RP} {l : LG} {b : List Int} {k : Nat} (h : (rwriteN r l b k).2 ≠ 0) : rwriteN r l b (k + 1) = rwriteN r l b k := by
  show (if (rwriteN r l b k).2 ≠ 0 then rwriteN r l b k else _) = _
  rw [if_pos h]
theorem rwriteN_mt {p : DP} {r : RP} (h : Mt p r) (l : LG) (b : List Int) : ∀ k, Mt (writeN p l b k).1 (rwriteN r l b k).1 ∧ (rwriteN r l b k).2 = (writeN p l b k).2
  | 0 => ⟨h, rfl⟩
  | k + 1 => by
    obtain ⟨h1, h2⟩ := rwriteN_mt h l b k
    by_cases hb : (writeN p l b k).2 = 0
    · rw [writeN_go hb, rwriteN_go (h2.trans hb)]
      exact ⟨h1.write _ _, h1.wcode _⟩
    · rw [writeN_bad hb 1, rwriteN_bad (by rw [h2]; exact hb)]
      exact ⟨h1, h2⟩
theorem rwriteN_tot (r : RP) (l : LG) (b : List Int) : ∀ k, (rwriteN r l b k).1.tot ≤ r.tot + k
  | 0 => Nat.le_refl _
  | k + 1 => by
    have h1 := rwriteN_tot r l b k
    by_cases hb : (rwriteN r l b k).2 = 0
    · rw [rwriteN_go hb]
      have h3 := RP.tot_write (rwriteN r l b k).1 ((l.first + l.used + k : Nat) : Int) (l.sec b k)
      show ((rwriteN r l b k).1.write _ _).tot ≤ _
      omega
    · rw [rwriteN_bad hb]; omega
theorem writeN_ok {p : DP} (h : p.Ok) {l : LG} (hl : l.Ok p.size) {b : List Int} (hb : Byt b) : ∀ k, l.used + k ≤ l.size → (writeN p l b k).1.Ok
  | 0, _ => h
  | k + 1, hk => by
    have ih := writeN_ok h hl hb k (by omega)
    by_cases hz : (writeN p l b k).2 = 0
    · rw [writeN_go hz]
      show ((writeN p l b k).1.doWrite _ _).Ok
      unfold DP.doWrite
      split
      · next hw =>
        split
        · exact ih.fall
        · exact ih.write (of_decide_eq_true hw) (LG.sec_ok l hb k)
      · exact ih
    · rw [writeN_bad hz 1]; exact ih
def RAppSays (x : DP × LG × Int) (tot : Nat) (w : World) (e : Ending) (w' : World) : Prop :=
  ∃ r' A1 c1 A2 c2 B c, e = .returned (.tuple #[.agg (RfV r' A1 c1 A2 c2), .agg (rlV x.2.1 B c), .int .i64 x.2.2]) ∧ RfIn w' r' A1 A2 ∧ Mt x.1 r' ∧ r'.tot ≤ tot ∧ RlIn w' x.2.1 B ∧ New w w'
theorem u8s_at {s : List Int} (hs : SecOk s) {i : Nat} (hi : i < 64) : (u8s s)[i]? = some (.int .u8 (at_ s i)) := by
  have h := secA_get (s := s) (i := i) (by rw [hs.1]; exact hi)
  unfold secA at h
  rw [List.getElem?_toArray] at h
  exact h
/-- A place in memory and a disk's slices. -/
structure Pk where
  b : Nat
  A1 : Option Addr
  c1 : Nat
  A2 : Option Addr
  c2 : Nat
set_option maxHeartbeats 3000000
set_option maxRecDepth 100000
/-- Where nothing is written. -/
theorem rapp_bad {w : World} {p : DP} {l : LG} (r : RP) (A1 : Option Addr) (c1 : Nat) (A2 : Option Addr) (c2 : Nat) (A : Option Addr) (c : Nat) (B : Option Addr) (n d : Nat) (hr : RfIn w r A1 A2) (hM : Mt p r) (hI : RlIn w l A) (hu : l.used ≤ l.size) (hn : n ≤ maxLen) (tot : Nat) (ht : r.tot ≤ tot)
    (hb : secN n = 0 ∨ l.broken = true ∨ l.size - l.used < secN n) :
    Calls Tryd.prog 36 #[.agg (RfV r A1 c1 A2 c2), .agg (rlV l A c), .slice B n d] w (RAppSays (p, l, if secN n = 0 then 2 else if l.broken = true then 10 else 8) tot w) := by
  have hs := rsectors_any (n : Int)
  obtain ⟨sn, hsn⟩ : ∃ sn, sn = secN n := ⟨_, rfl⟩
  have hsle := secN_le n
  have HS : Hid (∀ W, Calls Tryd.prog 23 #[.int .i64 n] W fun e w' => e = .returned (.int .i64 sn) ∧ W = w') := Lib.hid (fun W => by have h := hs W; rw [secs_N, ← hsn] at h; exact h)
  rw [← hsn] at hb hsle ⊢
  have HR0 := Lib.hid hr
  have HM := Lib.hid hM
  have HI0 := Lib.hid hI
  have hnum := hI.num
  obtain ⟨X0, hX0⟩ : ∃ X0, X0 = RfV r A1 c1 A2 c2 := ⟨_, rfl⟩
  have HX0 : Hid (X0 = RfV r A1 c1 A2 c2 ∧ X0.size = 5 ∧ X0.all (·.oneCell') = true) := Lib.hid (by rw [hX0]; exact ⟨rfl, rfl, rf_all _ _ _ _ _⟩)
  rw [← hX0]
  obtain ⟨fs, hfs⟩ : ∃ fs, fs = l.first := ⟨_, rfl⟩
  obtain ⟨sz, hsz⟩ : ∃ sz, sz = l.size := ⟨_, rfl⟩
  obtain ⟨us, hus⟩ : ∃ us, us = l.used := ⟨_, rfl⟩
  obtain ⟨gn, hgn⟩ : ∃ gn, gn = l.gen := ⟨_, rfl⟩
  obtain ⟨br, hbr⟩ : ∃ br, br = l.broken := ⟨_, rfl⟩
  rw [← hbr] at hb ⊢
  rw [← hsz, ← hus] at hb hu hnum
  obtain ⟨ec, hec⟩ : ∃ ec : Int, ec = if sn = 0 then 2 else if br = true then 10 else 8 := ⟨_, rfl⟩
  rw [← hec]
  have HEC := Lib.hid hec
  have HLV : Hid (fs = l.first ∧ sz = l.size ∧ us = l.used ∧ gn = l.gen ∧ br = l.broken) := Lib.hid ⟨hfs, hsz, hus, hgn, hbr⟩
  clear hs hsn hr hM hI hX0 hec
  go_enter Tryd.func36, Tryd.ntmps36
  go_upto_region 1 with fail
  obtain ⟨w0, hw0⟩ : ∃ w0 : World, w0 = (((w.alloc (.cells X0 32)).alloc (.cells (rlV l A c) 45)).alloc (.cells #[.int .i64 0, .slice none 0 0, .slice none 0 0, .int .i64 0, .bool false] 32)).alloc (.cells #[.int .i64 0, .int .i64 0, .int .i64 0, .int .u32 0, .slice none 0 0, .bool false] 45) := ⟨_, rfl⟩
  obtain ⟨b3, hb3⟩ : ∃ b3, b3 = w.heap.size := ⟨_, rfl⟩
  obtain ⟨b4, hb4⟩ : ∃ b4, b4 = w.heap.size + 1 := ⟨_, rfl⟩
  obtain ⟨b6, hb6⟩ : ∃ b6, b6 = w.heap.size + 1 + 1 := ⟨_, rfl⟩
  obtain ⟨b7, hb7⟩ : ∃ b7, b7 = w.heap.size + 1 + 1 + 1 := ⟨_, rfl⟩
  have HN0 : Hid (New w w0) := Lib.hid (by rw [hw0]; exact New.al (New.al (New.al (New.al (New.refl _) _) _) _) _)
  have HB3 : Hid (Blk w0 b3 32 X0) := Lib.hid (by rw [hw0, hb3]; exact (((Blk.new _ _ _).alloc _).alloc _).alloc _)
  have HB4 : Hid (Blk w0 b4 45 (rlV l A c)) := Lib.hid (by rw [hw0, hb4]; exact ((Blk.new' _ _ _ (by simp)).alloc _).alloc _)
  have HB6 : Hid (Blk w0 b6 32 rz0) := Lib.hid (by rw [hw0, hb6]; exact (Blk.new' _ _ _ (by simp)).alloc _)
  have HB7 : Hid (Blk w0 b7 45 rl0) := Lib.hid (by rw [hw0, hb7]; exact Blk.new' _ _ _ (by simp))
  have HNE : Hid (b3 = w.heap.size ∧ b4 = w.heap.size + 1 ∧ b6 = w.heap.size + 2 ∧ b7 = w.heap.size + 3 ∧ w0.heap.size = w.heap.size + 4) := Lib.hid ⟨hb3, hb4, hb6, hb7, by rw [hw0]; simp⟩
  rw [← hw0, ← hb7, ← hb6, ← hb4, ← hb3]
  clear hw0 hb3 hb4 hb6 hb7
  have c1' : w0.cell? ⟨b4, 1, none⟩ = some (.int .i64 sz) := by rw [hsz]; exact HB4.out.cell 1
  have c2' : w0.cell? ⟨b4, 2, none⟩ = some (.int .i64 us) := by rw [hus]; exact HB4.out.cell 2
  have c5' : w0.cell? ⟨b4, 5, none⟩ = some (.bool br) := by rw [hbr]; exact HB4.out.cell 5
  clear hfs hsz hus hgn hbr
  go_wp2_with fail
  refine (HS.out w0).mono ?_
  rintro e w1 ⟨rfl, rfl⟩
  by_cases h0 : sn = 0
  · have HE : Hid (ec = 2) := Lib.hid (by rw [HEC.out, if_pos h0])
    subst h0
    clear hb
    go_upto_region 3 with fail
    refine wp_region_mixH (fun w' => Blk w' b3 32 X0 ∧ Blk w' b4 45 (rlV l A c)) [(true, 0), (true, 1), (false, 2), (false, 3), (true, 4)] (by kernel_rfl) (by kernel_rfl) ⟨(New.dr (New.refl w0)).blk HB3.out, (New.dr (New.refl w0)).blk HB4.out⟩ (fun hne => ?_)
    refine mix_take_row (o := ⟨_, _, _, _, _, _⟩) (cs := X0.toList) rfl rfl (.tmp 3) rfl rfl (fun w' h => h.1.rangeOf) Tryd.underlying32 rfl (by rw [Array.length_toList, HX0.out.2.1]; rfl) ?_
    refine mix_take_row (o := ⟨_, _, _, _, _, _⟩) (cs := (rlV l A c).toList) rfl rfl (.tmp 4) rfl rfl (fun w' h => h.2.rangeOf) Tryd.underlying45 rfl rfl ?_
    simp only [Act.put, List.setIfInBounds_toArray, List.set_cons_zero, List.set_cons_succ]
    refine mix_act (o := ⟨_, _, _, _, _, _⟩) rfl (fun K hK => ?_) (.inl rfl)
    refine step_store_any (cs := X0) rfl (.tmp 6) (.tmp 19) rfl (by rw [HX0.out.2.1]; rfl) rfl rfl ((New.dr (New.refl w0)).blk HB6.out) (by rw [HX0.out.2.1]; rfl) HX0.out.2.2 ?_
    intro wx hbx hfx
    simp only [Act.put, List.setIfInBounds_toArray, List.set_cons_zero, List.set_cons_succ]
    refine hK.out _ _ (fun _ => ⟨((New.dr (New.refl w0)).blk HB3.out).fr hfx (fun e => by have := HNE.out; omega), ((New.dr (New.refl w0)).blk HB4.out).fr hfx (fun e => by have := HNE.out; omega)⟩) ?_
    have HBx := Lib.hid hbx
    have HFx := Lib.hid hfx
    have HB7x : Hid (Blk wx b7 45 rl0) := Lib.hid (((New.dr (New.refl w0)).blk HB7.out).fr hfx (fun e => by have := HNE.out; omega))
    have HSx : Hid (Blk wx b3 32 X0 ∧ Blk wx b4 45 (rlV l A c)) := Lib.hid ⟨((New.dr (New.refl w0)).blk HB3.out).fr hfx (fun e => by have := HNE.out; omega), ((New.dr (New.refl w0)).blk HB4.out).fr hfx (fun e => by have := HNE.out; omega)⟩
    clear hbx hfx hK K
    refine mix_act (o := ⟨_, _, _, _, _, _⟩) rfl (fun K hK => ?_) (.inl rfl)
    refine step_store_any (cs := (rlV l A c)) rfl (.tmp 7) (.tmp 20) rfl rfl rfl rfl HB7x.out rfl (rl_all _ _ _) ?_
    intro wy hby hfy
    simp only [Act.put, List.setIfInBounds_toArray, List.set_cons_zero, List.set_cons_succ]
    refine hK.out _ _ (fun _ => ⟨HSx.out.1.fr hfy (fun e => by have := HNE.out; omega), HSx.out.2.fr hfy (fun e => by have := HNE.out; omega)⟩) ?_
    have HBy := Lib.hid hby
    have HFy := Lib.hid hfy
    have HBx2 : Hid (Blk wy b6 32 X0) := Lib.hid (HBx.out.fr hfy (fun e => by have := HNE.out; omega))
    clear hby hfy hK K
    iterate 1 (refine mix_take (o := ⟨_, _, _, _, _, _⟩) rfl (fun K hK => ?_); go_simp; refine hK _ ?_; clear hK K)
    refine mix_done ?_
    go_wp2_with fail
    refine bodyPost_ret (results_row3c rfl _ _ b6 b7 _ _ _ _ rfl HBx2.out Tryd.underlying32 rfl (by rw [HX0.out.2.1]; rfl) rfl HBy.out Tryd.underlying45 rfl rfl) rfl ?_
    refine ⟨r, A1, c1, A2, c2, A, c, by rw [HX0.out.1, HE.out]; rfl, ?_, HM.out, by omega, ?_, ?_⟩
    · exact ((((HR0.out.new HN0.out).new (New.dr (New.refl w0))).fr HFx.out (fun y hy => by rw [show y = b6 from hy]; exact IsT.not_blk HB6.out (by decide))).fr HFy.out (fun y hy => by rw [show y = b7 from hy]; exact IsT.not_blk HB7x.out (by decide)))
    · exact ((((HI0.out.new HN0.out).new (New.dr (New.refl w0))).fr HFx.out (fun y hy => by rw [show y = b6 from hy]; exact IsT.not_blk HB6.out (by decide))).fr HFy.out (fun y hy => by rw [show y = b7 from hy]; exact IsT.not_blk HB7x.out (by decide)))
    · exact (((HN0.out.tr (New.dr (New.refl w0))).fr HFx.out (fun y hy => by have := HNE.out; have hy' : y = b6 := hy; omega)).fr HFy.out (fun y hy => by have := HNE.out; have hy' : y = b7 := hy; omega))
  · have h0' : ¬ ((sn : Int) = 0) := by omega
    have hq0 : ((sn : Int) == 0) = false := by simpa using h0'
    rcases br with _ | _
    · have HE : Hid (ec = 8) := Lib.hid (by rw [HEC.out, if_neg h0, if_neg (by decide)])
      have hlt : sz - us < sn := by rcases hb with h | h | h; exact absurd h h0; cases h; exact h
      obtain ⟨t, ht2⟩ : ∃ t, t = us + sn := ⟨_, rfl⟩
      have e1 : (us : Int) + (sn : Int) = (t : Int) := by omega
      have e2 : IntKind.i64.wrap (t : Int) = (t : Int) := IntWalk.i64_in _ (by omega)
      have e3 : (sz : Int) < (t : Int) := by omega
      clear hb ht2
      go_upto_region 7 with fail
      refine wp_region_mixH (fun w' => Blk w' b3 32 X0 ∧ Blk w' b4 45 (rlV l A c)) [(true, 0), (true, 1), (false, 2), (false, 3), (true, 4)] (by kernel_rfl) (by kernel_rfl) ⟨(New.dr (New.refl w0)).blk HB3.out, (New.dr (New.refl w0)).blk HB4.out⟩ (fun hne => ?_)
      refine mix_take_row (o := ⟨_, _, _, _, _, _⟩) (cs := X0.toList) rfl rfl (.tmp 3) rfl rfl (fun w' h => h.1.rangeOf) Tryd.underlying32 rfl (by rw [Array.length_toList, HX0.out.2.1]; rfl) ?_
      refine mix_take_row (o := ⟨_, _, _, _, _, _⟩) (cs := (rlV l A c).toList) rfl rfl (.tmp 4) rfl rfl (fun w' h => h.2.rangeOf) Tryd.underlying45 rfl rfl ?_
      simp only [Act.put, List.setIfInBounds_toArray, List.set_cons_zero, List.set_cons_succ]
      refine mix_act (o := ⟨_, _, _, _, _, _⟩) rfl (fun K hK => ?_) (.inl rfl)
      refine step_store_any (cs := X0) rfl (.tmp 6) (.tmp 32) rfl (by rw [HX0.out.2.1]; rfl) rfl rfl ((New.dr (New.refl w0)).blk HB6.out) (by rw [HX0.out.2.1]; rfl) HX0.out.2.2 ?_
      intro wx hbx hfx
      simp only [Act.put, List.setIfInBounds_toArray, List.set_cons_zero, List.set_cons_succ]
      refine hK.out _ _ (fun _ => ⟨((New.dr (New.refl w0)).blk HB3.out).fr hfx (fun e => by have := HNE.out; omega), ((New.dr (New.refl w0)).blk HB4.out).fr hfx (fun e => by have := HNE.out; omega)⟩) ?_
      have HBx := Lib.hid hbx
      have HFx := Lib.hid hfx
      have HB7x : Hid (Blk wx b7 45 rl0) := Lib.hid (((New.dr (New.refl w0)).blk HB7.out).fr hfx (fun e => by have := HNE.out; omega))
      have HSx : Hid (Blk wx b3 32 X0 ∧ Blk wx b4 45 (rlV l A c)) := Lib.hid ⟨((New.dr (New.refl w0)).blk HB3.out).fr hfx (fun e => by have := HNE.out; omega), ((New.dr (New.refl w0)).blk HB4.out).fr hfx (fun e => by have := HNE.out; omega)⟩
      clear hbx hfx hK K
      refine mix_act (o := ⟨_, _, _, _, _, _⟩) rfl (fun K hK => ?_) (.inl rfl)
      refine step_store_any (cs := (rlV l A c)) rfl (.tmp 7) (.tmp 33) rfl rfl rfl rfl HB7x.out rfl (rl_all _ _ _) ?_
      intro wy hby hfy
      simp only [Act.put, List.setIfInBounds_toArray, List.set_cons_zero, List.set_cons_succ]
      refine hK.out _ _ (fun _ => ⟨HSx.out.1.fr hfy (fun e => by have := HNE.out; omega), HSx.out.2.fr hfy (fun e => by have := HNE.out; omega)⟩) ?_
      have HBy := Lib.hid hby
      have HFy := Lib.hid hfy
      have HBx2 : Hid (Blk wy b6 32 X0) := Lib.hid (HBx.out.fr hfy (fun e => by have := HNE.out; omega))
      clear hby hfy hK K
      iterate 1 (refine mix_take (o := ⟨_, _, _, _, _, _⟩) rfl (fun K hK => ?_); go_simp; refine hK _ ?_; clear hK K)
      refine mix_done ?_
      go_wp2_with fail
      refine bodyPost_ret (results_row3c rfl _ _ b6 b7 _ _ _ _ rfl HBx2.out Tryd.underlying32 rfl (by rw [HX0.out.2.1]; rfl) rfl HBy.out Tryd.underlying45 rfl rfl) rfl ?_
      refine ⟨r, A1, c1, A2, c2, A, c, by rw [HX0.out.1, HE.out]; rfl, ?_, HM.out, by omega, ?_, ?_⟩
      · exact ((((HR0.out.new HN0.out).new (New.dr (New.refl w0))).fr HFx.out (fun y hy => by rw [show y = b6 from hy]; exact IsT.not_blk HB6.out (by decide))).fr HFy.out (fun y hy => by rw [show y = b7 from hy]; exact IsT.not_blk HB7x.out (by decide)))
      · exact ((((HI0.out.new HN0.out).new (New.dr (New.refl w0))).fr HFx.out (fun y hy => by rw [show y = b6 from hy]; exact IsT.not_blk HB6.out (by decide))).fr HFy.out (fun y hy => by rw [show y = b7 from hy]; exact IsT.not_blk HB7x.out (by decide)))
      · exact (((HN0.out.tr (New.dr (New.refl w0))).fr HFx.out (fun y hy => by have := HNE.out; have hy' : y = b6 := hy; omega)).fr HFy.out (fun y hy => by have := HNE.out; have hy' : y = b7 := hy; omega))
    · have HE : Hid (ec = 10) := Lib.hid (by rw [HEC.out, if_neg h0, if_pos rfl])
      clear hb
      go_upto_region 5 with fail
      refine wp_region_mixH (fun w' => Blk w' b3 32 X0 ∧ Blk w' b4 45 (rlV l A c)) [(true, 0), (true, 1), (false, 2), (false, 3), (true, 4)] (by kernel_rfl) (by kernel_rfl) ⟨(New.dr (New.refl w0)).blk HB3.out, (New.dr (New.refl w0)).blk HB4.out⟩ (fun hne => ?_)
      refine mix_take_row (o := ⟨_, _, _, _, _, _⟩) (cs := X0.toList) rfl rfl (.tmp 3) rfl rfl (fun w' h => h.1.rangeOf) Tryd.underlying32 rfl (by rw [Array.length_toList, HX0.out.2.1]; rfl) ?_
      refine mix_take_row (o := ⟨_, _, _, _, _, _⟩) (cs := (rlV l A c).toList) rfl rfl (.tmp 4) rfl rfl (fun w' h => h.2.rangeOf) Tryd.underlying45 rfl rfl ?_
      simp only [Act.put, List.setIfInBounds_toArray, List.set_cons_zero, List.set_cons_succ]
      refine mix_act (o := ⟨_, _, _, _, _, _⟩) rfl (fun K hK => ?_) (.inl rfl)
      refine step_store_any (cs := X0) rfl (.tmp 6) (.tmp 23) rfl (by rw [HX0.out.2.1]; rfl) rfl rfl ((New.dr (New.refl w0)).blk HB6.out) (by rw [HX0.out.2.1]; rfl) HX0.out.2.2 ?_
      intro wx hbx hfx
      simp only [Act.put, List.setIfInBounds_toArray, List.set_cons_zero, List.set_cons_succ]
      refine hK.out _ _ (fun _ => ⟨((New.dr (New.refl w0)).blk HB3.out).fr hfx (fun e => by have := HNE.out; omega), ((New.dr (New.refl w0)).blk HB4.out).fr hfx (fun e => by have := HNE.out; omega)⟩) ?_
      have HBx := Lib.hid hbx
      have HFx := Lib.hid hfx
      have HB7x : Hid (Blk wx b7 45 rl0) := Lib.hid (((New.dr (New.refl w0)).blk HB7.out).fr hfx (fun e => by have := HNE.out; omega))
      have HSx : Hid (Blk wx b3 32 X0 ∧ Blk wx b4 45 (rlV l A c)) := Lib.hid ⟨((New.dr (New.refl w0)).blk HB3.out).fr hfx (fun e => by have := HNE.out; omega), ((New.dr (New.refl w0)).blk HB4.out).fr hfx (fun e => by have := HNE.out; omega)⟩
      clear hbx hfx hK K
      refine mix_act (o := ⟨_, _, _, _, _, _⟩) rfl (fun K hK => ?_) (.inl rfl)
      refine step_store_any (cs := (rlV l A c)) rfl (.tmp 7) (.tmp 24) rfl rfl rfl rfl HB7x.out rfl (rl_all _ _ _) ?_
      intro wy hby hfy
      simp only [Act.put, List.setIfInBounds_toArray, List.set_cons_zero, List.set_cons_succ]
      refine hK.out _ _ (fun _ => ⟨HSx.out.1.fr hfy (fun e => by have := HNE.out; omega), HSx.out.2.fr hfy (fun e => by have := HNE.out; omega)⟩) ?_
      have HBy := Lib.hid hby
      have HFy := Lib.hid hfy
      have HBx2 : Hid (Blk wy b6 32 X0) := Lib.hid (HBx.out.fr hfy (fun e => by have := HNE.out; omega))
      clear hby hfy hK K
      iterate 1 (refine mix_take (o := ⟨_, _, _, _, _, _⟩) rfl (fun K hK => ?_); go_simp; refine hK _ ?_; clear hK K)
      refine mix_done ?_
      go_wp2_with fail
      refine bodyPost_ret (results_row3c rfl _ _ b6 b7 _ _ _ _ rfl HBx2.out Tryd.underlying32 rfl (by rw [HX0.out.2.1]; rfl) rfl HBy.out Tryd.underlying45 rfl rfl) rfl ?_
      refine ⟨r, A1, c1, A2, c2, A, c, by rw [HX0.out.1, HE.out]; rfl, ?_, HM.out, by omega, ?_, ?_⟩
      · exact ((((HR0.out.new HN0.out).new (New.dr (New.refl w0))).fr HFx.out (fun y hy => by rw [show y = b6 from hy]; exact IsT.not_blk HB6.out (by decide))).fr HFy.out (fun y hy => by rw [show y = b7 from hy]; exact IsT.not_blk HB7x.out (by decide)))
      · exact ((((HI0.out.new HN0.out).new (New.dr (New.refl w0))).fr HFx.out (fun y hy => by rw [show y = b6 from hy]; exact IsT.not_blk HB6.out (by decide))).fr HFy.out (fun y hy => by rw [show y = b7 from hy]; exact IsT.not_blk HB7x.out (by decide)))
      · exact (((HN0.out.tr (New.dr (New.refl w0))).fr HFx.out (fun y hy => by have := HNE.out; have hy' : y = b6 := hy; omega)).fr HFy.out (fun y hy => by have := HNE.out; have hy' : y = b7 := hy; omega))
set_option maxHeartbeats 4000000
/-- Where it is written. -/
theorem rapp_good {q : Nat → Prop} {w : World} {p : DP} {l : LG} (r : RP) (A1 : Option Addr) (c1 : Nat) (A2 : Option Addr) (c2 : Nat) (A : Option Addr) (c : Nat) (B : Option Addr) (n d : Nat) (b : List Int) (hr : RfIn w r A1 A2) (hM : Mt p r) (hp : p.Ok) (hI : RlIn w l A) (hl : l.Ok p.size) (hL : RShaIn 1 0 w) (hR : Rd q w 1 B n (u8s b)) (hb : Byt b) (hbn : b.length = n)
    (ht : r.tot ≤ 50000) (h0 : secN n ≠ 0) (h1 : l.broken = false) (h2 : ¬ l.size - l.used < secN n) :
    Calls Tryd.prog 36 #[.agg (RfV r A1 c1 A2 c2), .agg (rlV l A c), .slice B n d] w (RAppSays (appL p l b) (r.tot + l.size) w) := by
  obtain ⟨hn1, hn2, hn3⟩ := secN_pos h0
  have hs := rsectors_any (n : Int)
  obtain ⟨sn, hsn⟩ : ∃ sn, sn = secN n := ⟨_, rfl⟩
  have HS : Hid (∀ W, Calls Tryd.prog 23 #[.int .i64 n] W fun e w' => e = .returned (.int .i64 sn) ∧ W = w') := Lib.hid (fun W => by have h := hs W; rw [secs_N, ← hsn] at h; exact h)
  have HAP : Hid (appL p l b = if (rwriteN r l b sn).2 ≠ 0 then ((writeN p l b sn).1, { l with broken := true }, (rwriteN r l b sn).2) else ((writeN p l b sn).1, l.step b, 0)) := Lib.hid (by
    unfold appL
    rw [hbn, if_neg h0, if_neg (by rw [h1]; decide), if_neg h2, ← hsn]
    simp only
    rw [(rwriteN_mt hM l b sn).2])
  obtain ⟨AP, hAP⟩ : ∃ AP, AP = appL p l b := ⟨_, rfl⟩
  obtain ⟨tot, htot⟩ : ∃ tot, tot = r.tot + l.size := ⟨_, rfl⟩
  rw [← hAP] at HAP
  rw [← hAP, ← htot]
  rw [← hsn] at h0 h2 hn3
  have HSN : Hid (1 ≤ n ∧ n ≤ 65536 ∧ sn = (n + 74) / 55 ∧ l.used + sn ≤ l.size ∧ secN n = sn ∧ sn ≤ 1193) := Lib.hid ⟨hn1, hn2, hn3, by have := hl.used; omega, hsn.symm, by have := secN_le n; omega⟩
  have HR0 := Lib.hid hr
  have HM := Lib.hid hM
  have HPO := Lib.hid hp
  have HI0 := Lib.hid hI
  have HLO := Lib.hid hl
  have HL := Lib.hid hL
  have HR := Lib.hid hR
  have HB := Lib.hid hb
  have HBN := Lib.hid hbn
  have HT : Hid (r.tot ≤ 50000 ∧ tot = r.tot + l.size) := Lib.hid ⟨ht, htot⟩
  have HBR := Lib.hid h1
  have hnum := hI.num
  obtain ⟨X0, hX0⟩ : ∃ X0, X0 = RfV r A1 c1 A2 c2 := ⟨_, rfl⟩
  have HX0 : Hid (X0 = RfV r A1 c1 A2 c2 ∧ X0.size = 5 ∧ X0.all (·.oneCell') = true) := Lib.hid (by rw [hX0]; exact ⟨rfl, rfl, rf_all _ _ _ _ _⟩)
  rw [← hX0]
  obtain ⟨fs, hfs⟩ : ∃ fs, fs = l.first := ⟨_, rfl⟩
  obtain ⟨sz, hsz⟩ : ∃ sz, sz = l.size := ⟨_, rfl⟩
  obtain ⟨us, hus⟩ : ∃ us, us = l.used := ⟨_, rfl⟩
  obtain ⟨gn, hgn⟩ : ∃ gn, gn = l.gen := ⟨_, rfl⟩
  obtain ⟨br, hbr⟩ : ∃ br, br = l.broken := ⟨_, rfl⟩
  clear hbr h1
  rw [← hsz, ← hus] at h2 hnum
  rw [← hfs] at hnum
  have HLV : Hid (fs = l.first ∧ sz = l.size ∧ us = l.used ∧ gn = l.gen) := Lib.hid ⟨hfs, hsz, hus, hgn⟩
  have HNUM := Lib.hid hnum
  have hus2 := hl.used
  rw [← hus, ← hsz] at hus2
  obtain ⟨t, ht2⟩ : ∃ t, t = us + sn := ⟨_, rfl⟩
  have e1 : (us : Int) + (sn : Int) = (t : Int) := by omega
  have e2 : IntKind.i64.wrap (t : Int) = (t : Int) := IntWalk.i64_in _ (by have := HSN.out; omega)
  have e3 : ¬ (sz : Int) < (t : Int) := by omega
  have e4 : decide ((sz : Int) < (t : Int)) = false := decide_eq_false e3
  have HTT : Hid (t = us + sn ∧ t ≤ sz) := Lib.hid ⟨ht2, by omega⟩
  have h0' : ¬ ((sn : Int) = 0) := by omega
  have hq0 : ((sn : Int) == 0) = false := by simpa using h0'
  clear hs hsn hr hM hp hI hl hL hR hb hbn ht htot hAP hX0 hn1 hn2 hn3 h0 h2 hnum hus2 ht2
  go_enter Tryd.func36, Tryd.ntmps36
  go_upto_region 1 with fail
  obtain ⟨w0, hw0⟩ : ∃ w0 : World, w0 = (((w.alloc (.cells X0 32)).alloc (.cells (rlV l A c) 45)).alloc (.cells #[.int .i64 0, .slice none 0 0, .slice none 0 0, .int .i64 0, .bool false] 32)).alloc (.cells #[.int .i64 0, .int .i64 0, .int .i64 0, .int .u32 0, .slice none 0 0, .bool false] 45) := ⟨_, rfl⟩
  obtain ⟨b3, hb3⟩ : ∃ b3, b3 = w.heap.size := ⟨_, rfl⟩
  obtain ⟨b4, hb4⟩ : ∃ b4, b4 = w.heap.size + 1 := ⟨_, rfl⟩
  obtain ⟨b6, hb6⟩ : ∃ b6, b6 = w.heap.size + 1 + 1 := ⟨_, rfl⟩
  obtain ⟨b7, hb7⟩ : ∃ b7, b7 = w.heap.size + 1 + 1 + 1 := ⟨_, rfl⟩
  have HN0 : Hid (New w w0) := Lib.hid (by rw [hw0]; exact New.al (New.al (New.al (New.al (New.refl _) _) _) _) _)
  have HB3 : Hid (Blk w0 b3 32 X0) := Lib.hid (by rw [hw0, hb3]; exact (((Blk.new _ _ _).alloc _).alloc _).alloc _)
  have HB4 : Hid (Blk w0 b4 45 (rlV l A c)) := Lib.hid (by rw [hw0, hb4]; exact ((Blk.new' _ _ _ (by simp)).alloc _).alloc _)
  have HB6 : Hid (Blk w0 b6 32 rz0) := Lib.hid (by rw [hw0, hb6]; exact (Blk.new' _ _ _ (by simp)).alloc _)
  have HB7 : Hid (Blk w0 b7 45 rl0) := Lib.hid (by rw [hw0, hb7]; exact Blk.new' _ _ _ (by simp))
  have HNE : Hid (b3 = w.heap.size ∧ b4 = w.heap.size + 1 ∧ b6 = w.heap.size + 2 ∧ b7 = w.heap.size + 3 ∧ w0.heap.size = w.heap.size + 4) := Lib.hid ⟨hb3, hb4, hb6, hb7, by rw [hw0]; simp⟩
  rw [← hw0, ← hb7, ← hb6, ← hb4, ← hb3]
  clear hw0 hb3 hb4 hb6 hb7
  have c0' : w0.cell? ⟨b4, 0, none⟩ = some (.int .i64 fs) := by rw [hfs]; exact HB4.out.cell 0
  have c1' : w0.cell? ⟨b4, 1, none⟩ = some (.int .i64 sz) := by rw [hsz]; exact HB4.out.cell 1
  have c2' : w0.cell? ⟨b4, 2, none⟩ = some (.int .i64 us) := by rw [hus]; exact HB4.out.cell 2
  have c5' : w0.cell? ⟨b4, 5, none⟩ = some (.bool false) := by rw [HB4.out.cell, ← HBR.out]; rfl
  clear hfs hsz hus hgn
  go_wp2_with fail
  refine (HS.out w0).mono ?_
  rintro e w1 ⟨rfl, rfl⟩
  obtain ⟨YL, hYL⟩ : ∃ YL, YL = rlV l A c := ⟨_, rfl⟩
  have HYL : Hid (YL = rlV l A c ∧ YL.size = 6) := Lib.hid (by rw [hYL]; exact ⟨rfl, rfl⟩)
  rw [← hYL] at HB4
  clear hYL
  go_wp2_with ((with_reducible refine atOp ⟨some 34, .load _ _, _, _, _, _⟩ ?_); refine wpList_load_any rfl _ rfl Tryd.underlying45 rfl (by rw [HYL.out.2]; rfl) rfl HB4.out ?_)
  rw [HYL.out.1]
  refine (rframe_any l A c B n d b (HL.out.new HN0.out) (HI0.out.new HN0.out) (HN0.out.rd HR.out) HB.out (by have := HSN.out; omega) sn HSN.out.2.2.1).mono ?_
  rintro e w1 ⟨⟨C, cc, rfl, hO⟩, hN1⟩
  rw [← HYL.out.1]
  obtain ⟨gC, cC, hv, hcc, hcm⟩ := own_form hO (by have := HSN.out; omega)
  injection hv with hv1 hv2 hv3
  subst hv1 hv3
  have HN1 : Hid (New w w1) := Lib.hid (HN0.out.tr hN1)
  have HO := Lib.hid hO
  have HB31 : Hid (Blk w1 b3 32 X0) := Lib.hid (hN1.blk HB3.out)
  have HB41 : Hid (Blk w1 b4 45 YL) := Lib.hid (hN1.blk HB4.out)
  have HB61 : Hid (Blk w1 b6 32 rz0) := Lib.hid (hN1.blk HB6.out)
  have HB71 : Hid (Blk w1 b7 45 rl0) := Lib.hid (hN1.blk HB7.out)
  have HGC : Hid (gC ≠ b3) := Lib.hid (fun e => own_ne hO HB31.out (by decide) (by rw [e]; rfl))
  have HRG : Hid (∀ j, j < sn → w1.rangeAt gC (j * 64) (u8s (l.sec b j))) := Lib.hid (fun j hj i v hv => by
    obtain ⟨g', o', he, -, -, hc⟩ := (Rd.own hO rfl).out (by omega) (by omega)
    injection he with he
    injection he with x1 x2
    subst x1 x2
    have hi : i < 64 := by
      have := (List.getElem?_eq_some_iff.1 hv).1
      rwa [u8s_len, (LG.sec_ok l HB.out j).1] at this
    have h3 := secF_get l b hi hj
    have h4 := hc (j * 64 + i) _ h3
    rw [Nat.zero_add] at h4
    rw [h4, ← hv]
    exact (u8s_at (LG.sec_ok l HB.out j) hi).symm)
  have HRF1 : Hid (RfIn w1 (rwriteN r l b 0).1 A1 A2) := Lib.hid (HR0.out.new HN1.out)
  have HB31' : Hid (Blk w1 b3 32 (RfV (rwriteN r l b 0).1 A1 c1 A2 c2)) := Lib.hid (by rw [← show X0 = RfV (rwriteN r l b 0).1 A1 c1 A2 c2 from HX0.out.1]; exact HB31.out)
  clear hO hN1 hv2 hcc hcm HB3 HB4 HB6 HB7 c0' c1' c2' c5' e1 e2 e3 e4 h0' hq0
  go_wp2_with fail
  go_loopw [11] (fun i wr => ∃ (j : Nat) (A1 : Option Addr) (c1 : Nat) (A2 : Option Addr) (c2 : Nat), Hid (j ≤ sn ∧ (rwriteN r l b j).2 = 0) ∧ i = .int .i64 (j : Int) ∧ Hid (Fr (fun y => y = b3) w1 wr) ∧ Hid (Blk wr b3 32 (RfV (rwriteN r l b j).1 A1 c1 A2 c2)) ∧ Hid (RfIn wr (rwriteN r l b j).1 A1 A2)) (fun i _ => sn - (intOf i).toNat)
  case atStart => exact ⟨0, A1, c1, A2, c2, Lib.hid ⟨Nat.zero_le _, rfl⟩, rfl, Lib.hid (Fr.refl _ _), HB31', HRF1⟩
  case round =>
    clear HB31' HRF1
    obtain ⟨j, A1, c1, A2, c2, HJ, rfl, HF, HB3, HRF⟩ := hrel
    obtain ⟨rq, hrq⟩ : ∃ rq, rq = (rwriteN r l b j).1 := ⟨_, rfl⟩
    have HRQ := Lib.hid hrq
    rw [← hrq] at HB3 HRF
    clear hrq
    have HB4 : Hid (Blk wr b4 45 YL) := Lib.hid (HB41.out.fr HF.out (fun e => by have e' : b4 = b3 := e; have := HNE.out; omega))
    have HB6 : Hid (Blk wr b6 32 rz0) := Lib.hid (HB61.out.fr HF.out (fun e => by have e' : b6 = b3 := e; have := HNE.out; omega))
    have HB7 : Hid (Blk wr b7 45 rl0) := Lib.hid (HB71.out.fr HF.out (fun e => by have e' : b7 = b3 := e; have := HNE.out; omega))
    have HIr : Hid (RlIn wr l A) := Lib.hid ((HI0.out.new HN1.out).fr HF.out (fun k hk => by rw [show k = b3 from hk]; exact IsT.not_blk HB31.out (by decide)))
    have HNr : Hid (New w wr) := Lib.hid (HN1.out.fr HF.out (fun k hk => by have hk' : k = b3 := hk; have := HNE.out; omega))
    have HMQ : Hid (Mt (writeN p l b j).1 rq ∧ (writeN p l b j).1.Ok ∧ (writeN p l b j).1.size = p.size) := Lib.hid (by
      rw [HRQ.out]
      exact ⟨(rwriteN_mt HM.out l b j).1, writeN_ok HPO.out HLO.out HB.out j (by have := HJ.out.1; have := HSN.out; omega), writeN_size _ _ _ _⟩)
    have HTQ : Hid (rq.tot ≤ r.tot + j) := Lib.hid (by rw [HRQ.out]; exact rwriteN_tot r l b j)
    obtain ⟨RVJ, hRVJ⟩ : ∃ RVJ, RVJ = RfV rq A1 c1 A2 c2 := ⟨_, rfl⟩
    have HRVJ : Hid (RVJ = RfV rq A1 c1 A2 c2 ∧ RVJ.size = 5 ∧ RVJ.all (·.oneCell') = true) := Lib.hid (by rw [hRVJ]; exact ⟨rfl, rfl, rf_all _ _ _ _ _⟩)
    rw [← hRVJ] at HB3
    clear hRVJ
    have c0' : wr.cell? ⟨b4, 0, none⟩ = some (.int .i64 fs) := by rw [HB4.out.cell, HYL.out.1, HLV.out.1]; rfl
    have c2' : wr.cell? ⟨b4, 2, none⟩ = some (.int .i64 us) := by rw [HB4.out.cell, HYL.out.1, HLV.out.2.2.1]; rfl
    by_cases hj : j < sn
    · have hlt : (j : Int) < (sn : Int) := by omega
      have HJ2 := Lib.hid hj
      have hsn5 := HSN.out
      have hnum := HNUM.out
      obtain ⟨a1, ha1⟩ : ∃ a1, a1 = fs + us := ⟨_, rfl⟩
      obtain ⟨a, ha⟩ : ∃ a, a = a1 + j := ⟨_, rfl⟩
      have e5 : (fs : Int) + (us : Int) = (a1 : Int) := by omega
      have e6 : IntKind.i64.wrap (a1 : Int) = (a1 : Int) := IntWalk.i64_in _ (by omega)
      have e7 : (a1 : Int) + (j : Int) = (a : Int) := by omega
      have e8 : IntKind.i64.wrap (a : Int) = (a : Int) := IntWalk.i64_in _ (by omega)
      have e9 : IntKind.i64.wrap ((j : Int) + 1) = (j : Int) + 1 := IntWalk.i64_in _ (by omega)
      have HAS : Hid ((a : Int) = ((l.first + l.used + j : Nat) : Int) ∧ a ≤ 300000) := Lib.hid ⟨by rw [ha, ha1, HLV.out.1, HLV.out.2.2.1], by omega⟩
      obtain ⟨SJ, hSJ⟩ : ∃ SJ, SJ = l.sec b j := ⟨_, rfl⟩
      have HSJ : Hid (SecOk SJ) := Lib.hid (by rw [hSJ]; exact LG.sec_ok l HB.out j)
      have HSJZ : Hid ((u8s SJ).length = 64) := Lib.hid (by rw [u8s_len, HSJ.out.1])
      have HRW : Hid (∀ w', New wr w' → w'.rangeAt gC (j * 64) (u8s SJ)) := Lib.hid (fun w' hN i v hv => by
        rw [hSJ] at hv
        exact hN.cell_ (HF.out.cell_some (HRG.out j hj i v hv) (fun e => HGC.out e)))
      have HTQ2 : Hid (rq.tot ≤ 100000) := Lib.hid (by have := HTQ.out; have := HT.out; omega)
      have HWF : Hid ((Lit.int .i64 (a : Int)).wf = true ∧ (Lit.int .i64 rq.fuse).wf = true ∧ (-9223372036854775808 ≤ rq.size ∧ rq.size ≤ 9223372036854775807)) := Lib.hid ⟨WalkArith.wf_i64 (by have := HAS.out.2; omega), WalkArith.wf_i64 (by have h := HMQ.out.1.fuse; have h2 := HMQ.out.2.1.fz; omega), by have h := HMQ.out.1.size; have h2 := HMQ.out.2.1.s2; omega⟩
      obtain ⟨rn, hrn⟩ : ∃ rn, rn = rq.write (a : Int) SJ := ⟨_, rfl⟩
      obtain ⟨cj, hcj⟩ : ∃ cj, cj = rq.wcode (a : Int) := ⟨_, rfl⟩
      have HRN : Hid (rwriteN r l b (j + 1) = (rn, cj)) := Lib.hid (by rw [rwriteN_go HJ.out.2, ← HRQ.out, ← HAS.out.1, ← hSJ, hrn, hcj])
      have HRNE := Lib.hid hrn
      have HCJE := Lib.hid hcj
      have i1 : ¬ ((j : Int) < 0) := by omega
      have i2 : (0 : Int) ≤ (j : Int) := by omega
      have q0 : ∀ p' : HW (New wr), p'.w.cell? ⟨b4, 0, none⟩ = some (.int .i64 fs) := fun p' => p'.h.cell_ c0'
      have q2 : ∀ p' : HW (New wr), p'.w.cell? ⟨b4, 2, none⟩ = some (.int .i64 us) := fun p' => p'.h.cell_ c2'
      clear hj ha ha1 hSJ hrn hcj hsn5 hnum c0' c2'
      go_wp2_with fail
      apply wp_join (α := Pk) (fun x w4 => New wr w4 ∧ Blk w4 x.b 32 (RfV rn x.A1 x.c1 x.A2 x.c2) ∧ RfIn w4 rn x.A1 x.A2 ∧ wr.heap.size ≤ x.b)
      case h1 =>
        intro K' hK'
        refine wp_region_tree (New wr) (.take 0 (.take 1 (.take 2 (.take 3 (.take 4 (.take 5 (.take 6 (.take 7 (.take 8 (.take 9 (.take 10 (.take 11 (.two 12 (.take 13 (.take 14 (.take 15 (.act 16 (.act 17 (.take 18 .done)))))) 16 (.act 12 (.take 13 (.take 14 (.take 15 (.act 17 (.take 18 .done))))))))))))))))))) (by kernel_rfl) (by kernel_rfl) (New.dr (New.refl wr)) (fun hne => ?_)
        refine tree_take_row (o := ⟨_, _, _, _, _, _⟩) (cs := RVJ.toList) rfl rfl _ rfl rfl (fun w' h => (h.blk HB3.out).rangeOf) Tryd.underlying32 rfl (by rw [Array.length_toList, HRVJ.out.2.1]; rfl) ?_
        iterate 10 (refine tree_take (o := ⟨_, _, _, _, _, _⟩) rfl (fun K hK => ?_); go_simp; refine hK _ ?_; clear hK K)
        refine tree_take_row (o := ⟨_, _, _, _, _, _⟩) (cs := u8s SJ) rfl rfl _ rfl rfl (fun w' h => HRW.out w' h) Tryd.underlying35 rfl (by rw [HSJZ.out]; rfl) ?_
        simp only [Act.put, List.setIfInBounds_toArray, List.set_cons_zero, List.set_cons_succ]
        refine ⟨?_, ?_⟩
        · refine act_ok (o := ⟨_, _, _, _, _, _⟩) rfl (fun K hK => ?_) (.inl rfl)
          go_simp
          rw [HRVJ.out.1]
          refine (rwrite_any rq A1 c1 A2 c2 (a : Int) SJ wr.drew (HRF.out.new (New.dr (New.refl wr))) HSJ.out HTQ2.out HWF.out.1 HWF.out.2.1 HWF.out.2.2).mono ?_
          rintro e w4 ⟨⟨B1, d1, B2, d2, rfl, hR4⟩, hN4⟩
          rw [← HRVJ.out.1, ← HRNE.out, ← HCJE.out]
          rw [← HRNE.out] at hR4
          have HR4 := Lib.hid hR4
          have HN4 : Hid (New wr w4) := Lib.hid ((New.dr (New.refl wr)).tr hN4)
          clear hN4 hR4
          obtain ⟨RN, hRN⟩ : ∃ RN, RN = RfV rn B1 d1 B2 d2 := ⟨_, rfl⟩
          have HRNV : Hid (RN = RfV rn B1 d1 B2 d2 ∧ RN.size = 5 ∧ RN.all (·.oneCell') = true) := Lib.hid (by rw [hRN]; exact ⟨rfl, rfl, rf_all _ _ _ _ _⟩)
          rw [← hRN]
          clear hRN
          go_simp
          refine hK.out _ _ HN4.out ?_
          clear hK K
          iterate 3 (refine tree_take (o := ⟨_, _, _, _, _, _⟩) rfl (fun K hK => ?_); go_simp; refine hK _ ?_; clear hK K)
          refine tree_act_alloc (o := ⟨_, _, _, _, _, _⟩) rfl rfl rfl rInfo ?_
          intro b11 w5 hb11 hB11 hN5
          have HL5 : Hid (wr.heap.size ≤ b11) := Lib.hid (by have := HN4.out.size; omega)
          have HN5 := Lib.hid hN5
          refine ⟨HN4.out.tr hN5, ?_⟩
          clear hb11
          simp only [Act.put, List.setIfInBounds_toArray, List.set_cons_zero, List.set_cons_succ]
          refine act_store (o := ⟨_, _, _, _, _, _⟩) (cs := RN) rfl rfl (.tmp 12) (.tmp 57) rfl (by rw [HRNV.out.2.1]; rfl) rfl rfl hB11 (by rw [HRNV.out.2.1]; rfl) HRNV.out.2.2 ?_
          intro w6 hB6' hF6
          have hN6 : New wr w6 := (HN4.out.tr HN5.out).fr hF6 (fun x hx => by have := HL5.out; omega)
          have hR6 : RfIn w6 rn B1 B2 := (HR4.out.new HN5.out).fr hF6 (fun k hk => hk ▸ IsT.not_blk hB11 (by decide))
          refine ⟨hN6, ?_⟩
          simp only [Act.put, List.setIfInBounds_toArray, List.set_cons_zero, List.set_cons_succ]
          iterate 1 (refine tree_take (o := ⟨_, _, _, _, _, _⟩) rfl (fun K hK => ?_); go_simp; refine hK _ ?_; clear hK K)
          refine tree_done ?_
          rw [HRNV.out.1] at hB6' ⊢
          have hL6 := HL5.out
          clear HL5 HRNV HR4
          obtain ⟨x, y1, y2, y3, y4, y5⟩ : ∃ x : Pk, b11 = x.b ∧ B1 = x.A1 ∧ d1 = x.c1 ∧ B2 = x.A2 ∧ d2 = x.c2 := ⟨⟨b11, B1, d1, B2, d2⟩, rfl, rfl, rfl, rfl, rfl⟩
          subst y1 y2 y3 y4 y5
          exact hK'.out x w6 ⟨hN6, hB6', hR6, hL6⟩
        · refine act_alloc (o := ⟨_, _, _, _, _, _⟩) rfl rfl rfl rInfo ?_
          intro b11 w5 hb11 hB11 hN5
          have HN5 : Hid (New wr w5) := Lib.hid ((New.dr (New.refl wr)).tr hN5)
          have HB11 := Lib.hid hB11
          have HL5 : Hid (wr.heap.size ≤ b11) := Lib.hid (by rw [hb11]; exact Nat.le_refl _)
          refine ⟨HN5.out, ?_⟩
          clear hb11 hB11 hN5
          simp only [Act.put, List.setIfInBounds_toArray, List.set_cons_zero, List.set_cons_succ]
          refine tree_act (o := ⟨_, _, _, _, _, _⟩) rfl (fun K hK => ?_) (.inl rfl)
          go_simp
          rw [HRVJ.out.1]
          refine (rwrite_any rq A1 c1 A2 c2 (a : Int) SJ w5 (HRF.out.new HN5.out) HSJ.out HTQ2.out HWF.out.1 HWF.out.2.1 HWF.out.2.2).mono ?_
          rintro e w4 ⟨⟨B1, d1, B2, d2, rfl, hR4⟩, hN4⟩
          rw [← HRVJ.out.1, ← HRNE.out, ← HCJE.out]
          rw [← HRNE.out] at hR4
          have HR4 := Lib.hid hR4
          have HB114 := Lib.hid (hN4.blk HB11.out)
          have HN4 : Hid (New wr w4) := Lib.hid (HN5.out.tr hN4)
          clear hN4 hR4
          obtain ⟨RN, hRN⟩ : ∃ RN, RN = RfV rn B1 d1 B2 d2 := ⟨_, rfl⟩
          have HRNV : Hid (RN = RfV rn B1 d1 B2 d2 ∧ RN.size = 5 ∧ RN.all (·.oneCell') = true) := Lib.hid (by rw [hRN]; exact ⟨rfl, rfl, rf_all _ _ _ _ _⟩)
          rw [← hRN]
          clear hRN
          go_simp
          refine hK.out _ _ HN4.out ?_
          clear hK K
          iterate 3 (refine tree_take (o := ⟨_, _, _, _, _, _⟩) rfl (fun K hK => ?_); go_simp; refine hK _ ?_; clear hK K)
          refine act_store (o := ⟨_, _, _, _, _, _⟩) (cs := RN) rfl rfl (.tmp 12) (.tmp 57) rfl (by rw [HRNV.out.2.1]; rfl) rfl rfl HB114.out (by rw [HRNV.out.2.1]; rfl) HRNV.out.2.2 ?_
          intro w6 hB6' hF6
          have hN6 : New wr w6 := HN4.out.fr hF6 (fun x hx => by have := HL5.out; omega)
          have hR6 : RfIn w6 rn B1 B2 := HR4.out.fr hF6 (fun k hk => hk ▸ IsT.not_blk HB114.out (by decide))
          refine ⟨hN6, ?_⟩
          simp only [Act.put, List.setIfInBounds_toArray, List.set_cons_zero, List.set_cons_succ]
          iterate 1 (refine tree_take (o := ⟨_, _, _, _, _, _⟩) rfl (fun K hK => ?_); go_simp; refine hK _ ?_; clear hK K)
          refine tree_done ?_
          rw [HRNV.out.1] at hB6' ⊢
          have hL6 := HL5.out
          clear HL5 HRNV HR4
          obtain ⟨x, y1, y2, y3, y4, y5⟩ : ∃ x : Pk, b11 = x.b ∧ B1 = x.A1 ∧ d1 = x.c1 ∧ B2 = x.A2 ∧ d2 = x.c2 := ⟨⟨b11, B1, d1, B2, d2⟩, rfl, rfl, rfl, rfl, rfl⟩
          subst y1 y2 y3 y4 y5
          exact hK'.out x w6 ⟨hN6, hB6', hR6, hL6⟩
      case h2 =>
        rintro ⟨b11, B1, d1, B2, d2⟩ w4 ⟨hN4, hB11, hR4, hL⟩
        dsimp only at hB11 hR4 hL
        clear q0 q2
        have HN4 : Hid (New wr w4) := Lib.hid hN4
        have HB34 : Hid (Blk w4 b3 32 RVJ) := Lib.hid (hN4.blk HB3.out)
        have HB44 : Hid (Blk w4 b4 45 YL) := Lib.hid (hN4.blk HB4.out)
        have HR4 := Lib.hid hR4
        have HLb : Hid (b11 ≠ b3) := Lib.hid (by have := HB3.out.lt; omega)
        obtain ⟨RN, hRN⟩ : ∃ RN, RN = RfV rn B1 d1 B2 d2 := ⟨_, rfl⟩
        have HRNV : Hid (RN = RfV rn B1 d1 B2 d2 ∧ RN.size = 5 ∧ RN.all (·.oneCell') = true) := Lib.hid (by rw [hRN]; exact ⟨rfl, rfl, rf_all _ _ _ _ _⟩)
        rw [← hRN] at hB11
        have HB11 := Lib.hid hB11
        try rw [← hRN]
        clear hRN hN4 hB11 hR4 hL HRW
        by_cases hc : cj = 0
        · subst hc
          go_wp2_with (first
          | ((with_reducible refine atOp ⟨some 59, .load _ _, _, _, _, _⟩ ?_); refine wpList_load_any rfl _ rfl Tryd.underlying32 rfl (by rw [HRNV.out.2.1]; rfl) rfl HB11.out ?_)
          | ((with_reducible refine atOp ⟨none, .store 32 (.tmp 3) _, _, _, _, _⟩ ?_); refine wpList_store_any rfl (.tmp 3) (.tmp 59) rfl (by rw [HRNV.out.2.1]; rfl) rfl rfl HB34.out (by rw [HRVJ.out.2.1, HRNV.out.2.1]) HRNV.out.2.2 ?_; intro w5 hb hf; have HB35 := Lib.hid hb; have HF5 := Lib.hid hf; clear hb hf))
          go_roundw
          case rel => exact ⟨j + 1, B1, d1, B2, d2, Lib.hid ⟨by have := HJ2.out; omega, by rw [HRN.out]⟩, by go_num, Lib.hid ((HF.out.trans (HN4.out.toFr _)).trans HF5.out), Lib.hid (by rw [HRN.out, ← HRNV.out.1]; exact HB35.out), Lib.hid (by rw [HRN.out]; exact HR4.out.fr HF5.out (fun k hk => hk ▸ IsT.not_blk HB34.out (by decide)))⟩
          case measure => simp [intOf]; have := HJ2.out; omega
        · have hne : ¬ cj = 0 := hc
          have hnb : (cj == 0) = false := by simpa using hc
          have HWB : Hid (AP = ((writeN p l b sn).1, { l with broken := true }, cj) ∧ Mt (writeN p l b sn).1 rn) := Lib.hid (by
            have hw : ∀ d, rwriteN r l b (j + 1 + d) = (rn, cj) := fun d => by
              induction d with
              | zero => exact HRN.out
              | succ d ih => rw [← Nat.add_assoc, rwriteN_bad (by rw [ih]; exact hc), ih]
            have h2 := hw (sn - (j + 1))
            rw [show j + 1 + (sn - (j + 1)) = sn by have := HJ2.out; omega] at h2
            have h3 := (rwriteN_mt HM.out l b sn).1
            rw [h2] at h3
            refine ⟨?_, h3⟩
            rw [HAP.out, h2, if_pos hc])
          have HTN : Hid (rn.tot ≤ tot) := Lib.hid (by
            have h := rwriteN_tot r l b (j + 1)
            rw [HRN.out] at h
            have := HT.out
            have := HJ2.out
            have := HSN.out
            dsimp only at h
            omega)
          clear hc
          have f5 : w4.frozen? ⟨b4, 5, none⟩ = false := HB44.out.frozen 5
          go_wp2_with (first
          | ((with_reducible refine atOp ⟨some 59, .load _ _, _, _, _, _⟩ ?_); refine wpList_load_any rfl _ rfl Tryd.underlying32 rfl (by rw [HRNV.out.2.1]; rfl) rfl HB11.out ?_)
          | ((with_reducible refine atOp ⟨none, .store 32 (.tmp 3) _, _, _, _, _⟩ ?_); refine wpList_store_any rfl (.tmp 3) (.tmp 59) rfl (by rw [HRNV.out.2.1]; rfl) rfl rfl HB34.out (by rw [HRVJ.out.2.1, HRNV.out.2.1]) HRNV.out.2.2 ?_; intro w5 hb hf; have HB35 := Lib.hid hb; have HF5 := Lib.hid hf; have HB45 : Hid (Blk w5 b4 45 YL) := Lib.hid (HB44.out.fr hf (fun e => by have e' : b4 = b3 := e; have := HNE.out; omega)); have f55 : w5.frozen? ⟨b4, 5, none⟩ = false := HB45.out.frozen 5; have c55 : w5.cell? ⟨b4, 5, none⟩ = some (.bool false) := (by rw [HB45.out.cell, HYL.out.1, ← HBR.out]; rfl); clear hb hf))
          obtain ⟨w6, hw6⟩ : ∃ w6 : World, w6 = w5.setCell ⟨b4, 5, none⟩ (.bool true) := ⟨_, rfl⟩
          have HF6 : Hid (Fr (fun y => y = b4) w5 w6) := Lib.hid (by rw [hw6]; exact (Fr.refl (fun y => y = b4) w5).setCell (p := ⟨b4, 5, none⟩) (fun _ => rfl) _)
          have HB46 : Hid (Blk w6 b4 45 (rlV { l with broken := true } A c)) := Lib.hid (by have h := HB45.out.set 5 (.bool true); rw [HYL.out.1] at h; rw [hw6]; exact h)
          have HB36 : Hid (Blk w6 b3 32 RN) := Lib.hid (HB35.out.fr HF6.out (fun e => by have e' : b3 = b4 := e; have := HNE.out; omega))
          have HF46 : Hid (Fr (fun y => y = b3 ∨ y = b4) wr w6) := Lib.hid (((HN4.out.toFr _).trans (HF5.out.mono (fun y _ h => .inl h))).trans (HF6.out.mono (fun y _ h => .inr h)))
          have HB66 : Hid (Blk w6 b6 32 rz0) := Lib.hid (HB6.out.fr HF46.out (fun e => by have e' : b6 = b3 ∨ b6 = b4 := e; have := HNE.out; omega))
          have HB76 : Hid (Blk w6 b7 45 rl0) := Lib.hid (HB7.out.fr HF46.out (fun e => by have e' : b7 = b3 ∨ b7 = b4 := e; have := HNE.out; omega))
          have HR6 : Hid (RfIn w6 rn B1 B2) := Lib.hid ((HR4.out.fr HF5.out (fun k hk => hk ▸ IsT.not_blk HB34.out (by decide))).fr HF6.out (fun k hk => hk ▸ IsT.not_blk HB45.out (by decide)))
          have HI6 : Hid (RlIn w6 l A) := Lib.hid (HIr.out.fr HF46.out (fun k hk => by
            rcases hk with rfl | rfl
            · exact IsT.not_blk HB3.out (by decide)
            · exact IsT.not_blk HB4.out (by decide)))
          have HN6 : Hid (New w w6) := Lib.hid (HNr.out.fr HF46.out (fun k hk => by have hk' : k = b3 ∨ k = b4 := hk; have := HNE.out; omega))
          rw [← hw6]
          clear hw6 f55 c55 f5
          refine wp_region_mixH (fun w' => Blk w' b3 32 RN ∧ Blk w' b4 45 (rlV { l with broken := true } A c)) [(true, 0), (true, 1), (true, 2), (false, 3), (false, 4), (true, 5)] (by kernel_rfl) (by kernel_rfl) ⟨(New.dr (New.refl w6)).blk HB36.out, (New.dr (New.refl w6)).blk HB46.out⟩ (fun hne => ?_)
          refine mix_take_row (o := ⟨_, _, _, _, _, _⟩) (cs := RN.toList) rfl rfl (.tmp 3) rfl rfl (fun w' h => h.1.rangeOf) Tryd.underlying32 rfl (by rw [Array.length_toList, HRNV.out.2.1]; rfl) ?_
          refine mix_take_row (o := ⟨_, _, _, _, _, _⟩) (cs := (rlV { l with broken := true } A c).toList) rfl rfl (.tmp 4) rfl rfl (fun w' h => h.2.rangeOf) Tryd.underlying45 rfl rfl ?_
          simp only [Act.put, List.setIfInBounds_toArray, List.set_cons_zero, List.set_cons_succ]
          iterate 1 (refine mix_take (o := ⟨_, _, _, _, _, _⟩) rfl (fun K hK => ?_); go_simp; refine hK _ ?_; clear hK K)
          refine mix_act (o := ⟨_, _, _, _, _, _⟩) rfl (fun K hK => ?_) (.inl rfl)
          refine step_store_any (cs := RN) rfl (.tmp 6) (.tmp 63) rfl (by rw [HRNV.out.2.1]; rfl) rfl rfl ((New.dr (New.refl w6)).blk HB66.out) (by rw [HRNV.out.2.1]; rfl) HRNV.out.2.2 ?_
          intro wx hbx hfx
          simp only [Act.put, List.setIfInBounds_toArray, List.set_cons_zero, List.set_cons_succ]
          refine hK.out _ _ (fun _ => ⟨((New.dr (New.refl w6)).blk HB36.out).fr hfx (fun e => by have := HNE.out; omega), ((New.dr (New.refl w6)).blk HB46.out).fr hfx (fun e => by have := HNE.out; omega)⟩) ?_
          have HBx := Lib.hid hbx
          have HFx := Lib.hid hfx
          have HB7x : Hid (Blk wx b7 45 rl0) := Lib.hid (((New.dr (New.refl w6)).blk HB76.out).fr hfx (fun e => by have := HNE.out; omega))
          have HSx : Hid (Blk wx b3 32 RN ∧ Blk wx b4 45 (rlV { l with broken := true } A c)) := Lib.hid ⟨((New.dr (New.refl w6)).blk HB36.out).fr hfx (fun e => by have := HNE.out; omega), ((New.dr (New.refl w6)).blk HB46.out).fr hfx (fun e => by have := HNE.out; omega)⟩
          clear hbx hfx hK K
          refine mix_act (o := ⟨_, _, _, _, _, _⟩) rfl (fun K hK => ?_) (.inl rfl)
          refine step_store_any (cs := (rlV { l with broken := true } A c)) rfl (.tmp 7) (.tmp 64) rfl rfl rfl rfl HB7x.out rfl (rl_all _ _ _) ?_
          intro wy hby hfy
          simp only [Act.put, List.setIfInBounds_toArray, List.set_cons_zero, List.set_cons_succ]
          refine hK.out _ _ (fun _ => ⟨HSx.out.1.fr hfy (fun e => by have := HNE.out; omega), HSx.out.2.fr hfy (fun e => by have := HNE.out; omega)⟩) ?_
          have HBy := Lib.hid hby
          have HFy := Lib.hid hfy
          have HBx2 : Hid (Blk wy b6 32 RN) := Lib.hid (HBx.out.fr hfy (fun e => by have := HNE.out; omega))
          clear hby hfy hK K
          iterate 1 (refine mix_take (o := ⟨_, _, _, _, _, _⟩) rfl (fun K hK => ?_); go_simp; refine hK _ ?_; clear hK K)
          refine mix_done ?_
          go_wp2_with fail
          refine bodyPost_ret (results_row3c rfl _ _ b6 b7 _ _ _ _ rfl HBx2.out Tryd.underlying32 rfl (by rw [HRNV.out.2.1]; rfl) rfl HBy.out Tryd.underlying45 rfl rfl) rfl ?_
          refine ⟨rn, B1, d1, B2, d2, A, c, by rw [HWB.out.1, HRNV.out.1]; rfl, ?_, by rw [HWB.out.1]; exact HWB.out.2, HTN.out, ?_, ?_⟩
          · exact (((HR6.out.new (New.dr (New.refl w6))).fr HFx.out (fun y hy => by rw [show y = b6 from hy]; exact IsT.not_blk ((New.dr (New.refl w6)).blk HB66.out) (by decide))).fr HFy.out (fun y hy => by rw [show y = b7 from hy]; exact IsT.not_blk HB7x.out (by decide)))
          · rw [HWB.out.1]
            have h := (((HI6.out.new (New.dr (New.refl w6))).fr HFx.out (fun y hy => by rw [show y = b6 from hy]; exact IsT.not_blk ((New.dr (New.refl w6)).blk HB66.out) (by decide))).fr HFy.out (fun y hy => by rw [show y = b7 from hy]; exact IsT.not_blk HB7x.out (by decide)))
            exact ⟨h.tag, h.byt, h.gen, h.num⟩
          · exact (((HN6.out.tr (New.dr (New.refl w6))).fr HFx.out (fun y hy => by have := HNE.out; have hy' : y = b6 := hy; omega)).fr HFy.out (fun y hy => by have := HNE.out; have hy' : y = b7 := hy; omega))
    · have hge : ¬ ((j : Int) < (sn : Int)) := by omega
      obtain rfl : j = sn := by have := HJ.out.1; omega
      have HA0 : Hid (AP = ((writeN p l b j).1, l.step b, 0)) := Lib.hid (by rw [HAP.out, if_neg (by rw [HJ.out.2]; simp)])
      have c3' : wr.cell? ⟨b4, 3, none⟩ = some (.int .u32 gn) := by rw [HB4.out.cell, HYL.out.1, HLV.out.2.2.2]; rfl
      have c4' : wr.cell? ⟨b4, 4, none⟩ = some (.slice A 16 c) := by rw [HB4.out.cell, HYL.out.1]; rfl
      have HGN : Hid (gn < 4294967296) := Lib.hid (by rw [HLV.out.2.2.2]; exact HIr.out.gen)
      clear hj
      go_wp2_with fail
      refine (rtag_any A c l.tag gn B n d b wr (HL.out.new HNr.out) HIr.out.tag HIr.out.byt (HNr.out.rd HR.out) HB.out HGN.out (by have := HSN.out; omega)).mono ?_
      rintro e w4 ⟨⟨TA, tc, rfl, hO4⟩, hN4⟩
      have HO4 := Lib.hid hO4
      have HN4 := Lib.hid hN4
      have HB44 : Hid (Blk w4 b4 45 YL) := Lib.hid (hN4.blk HB4.out)
      have HB34 : Hid (Blk w4 b3 32 RVJ) := Lib.hid (hN4.blk HB3.out)
      have f2 : w4.frozen? ⟨b4, 2, none⟩ = false := HB44.out.frozen 2
      have f4 : w4.frozen? ⟨b4, 4, none⟩ = false := HB44.out.frozen 4
      have k2 : w4.cell? ⟨b4, 2, none⟩ = some (.int .i64 us) := hN4.cell_ c2'
      have k4 : w4.cell? ⟨b4, 4, none⟩ = some (.slice A 16 c) := hN4.cell_ c4'
      have e1 : (us : Int) + (j : Int) = (t : Int) := by have := HTT.out.1; omega
      have e2 : IntKind.i64.wrap (t : Int) = (t : Int) := IntWalk.i64_in _ (by have := HTT.out; have := HNUM.out; omega)
      clear hO4 hN4 c0' c2' c3' c4'
      go_upto_region 19 with fail
      obtain ⟨w5, hw5⟩ : ∃ w5 : World, w5 = w4.setCell ⟨b4, 4, none⟩ (.slice TA 16 tc) := ⟨_, rfl⟩
      rw [← hw5]
      obtain ⟨w6, hw6⟩ : ∃ w6 : World, w6 = w5.setCell ⟨b4, 2, none⟩ (.int .i64 t) := ⟨_, rfl⟩
      rw [← hw6]
      have HF6 : Hid (Fr (fun y => y = b4) w4 w6) := Lib.hid (by rw [hw6, hw5]; exact (((Fr.refl (fun y => y = b4) w4).setCell (p := ⟨b4, 4, none⟩) (fun _ => rfl) _).setCell (p := ⟨b4, 2, none⟩) (fun _ => rfl) _))
      have HB46 : Hid (Blk w6 b4 45 (rlV (l.step b) TA tc)) := Lib.hid (by
        have h := (HB44.out.set 4 (.slice TA 16 tc)).set 2 (.int .i64 t)
        rw [HYL.out.1] at h
        rw [hw6, hw5]
        have e : rlV (l.step b) TA tc = ((rlV l A c).setIfInBounds 4 (.slice TA 16 tc)).setIfInBounds 2 (.int .i64 t) := by
          unfold rlV LG.step
          simp only [HBN.out, HSN.out.2.2.2.2.1]
          rw [HTT.out.1, HLV.out.2.2.1]
          rfl
        rw [e]
        exact h)
      have HB36 : Hid (Blk w6 b3 32 RVJ) := Lib.hid (HB34.out.fr HF6.out (fun e => by have e' : b3 = b4 := e; have := HNE.out; omega))
      have HB66 : Hid (Blk w6 b6 32 rz0) := Lib.hid ((HN4.out.blk HB6.out).fr HF6.out (fun e => by have e' : b6 = b4 := e; have := HNE.out; omega))
      have HB76 : Hid (Blk w6 b7 45 rl0) := Lib.hid ((HN4.out.blk HB7.out).fr HF6.out (fun e => by have e' : b7 = b4 := e; have := HNE.out; omega))
      have HR6 : Hid (RfIn w6 rq A1 A2) := Lib.hid ((HRF.out.new HN4.out).fr HF6.out (fun k hk => hk ▸ IsT.not_blk HB44.out (by decide)))
      have HI6 : Hid (RlIn w6 (l.step b) TA) := Lib.hid ⟨(by
        have h : RdT 5 w4 1 TA 16 (u8s (l.step b).tag) := by
          show RdT _ _ _ _ _ (u8s (tagL l.tag l.gen b))
          rw [← HLV.out.2.2.2]
          exact RdT.own HO4.out rfl
        exact h.fr HF6.out (fun k hk => hk ▸ IsT.not_blk HB44.out (by decide))), tagL_byt _ _ _, HIr.out.gen, by
          have h1 := HIr.out.num
          have h2 := HTT.out
          have h3 := HLV.out
          refine ⟨h1.1, h1.2.1, ?_⟩
          show l.used + secN b.length ≤ 100000
          rw [HBN.out, HSN.out.2.2.2.2.1]
          have h4 := HSN.out.2.2.2.1
          omega⟩
      have HN6 : Hid (New w w6) := Lib.hid ((HNr.out.tr HN4.out).fr HF6.out (fun k hk => by have hk' : k = b4 := hk; have := HNE.out; omega))
      have HTN : Hid (rq.tot ≤ tot) := Lib.hid (by have := HTQ.out; have := HT.out; have := HSN.out; omega)
      clear hw5 hw6 f2 f4 k2 k4 e1 e2 HN4 HO4
      refine wp_region_mixH (fun w' => Blk w' b3 32 RVJ ∧ Blk w' b4 45 (rlV (l.step b) TA tc)) [(true, 0), (true, 1), (false, 2), (false, 3), (true, 4)] (by kernel_rfl) (by kernel_rfl) ⟨(New.dr (New.refl w6)).blk HB36.out, (New.dr (New.refl w6)).blk HB46.out⟩ (fun hne => ?_)
      refine mix_take_row (o := ⟨_, _, _, _, _, _⟩) (cs := RVJ.toList) rfl rfl (.tmp 3) rfl rfl (fun w' h => h.1.rangeOf) Tryd.underlying32 rfl (by rw [Array.length_toList, HRVJ.out.2.1]; rfl) ?_
      refine mix_take_row (o := ⟨_, _, _, _, _, _⟩) (cs := (rlV (l.step b) TA tc).toList) rfl rfl (.tmp 4) rfl rfl (fun w' h => h.2.rangeOf) Tryd.underlying45 rfl rfl ?_
      simp only [Act.put, List.setIfInBounds_toArray, List.set_cons_zero, List.set_cons_succ]
      refine mix_act (o := ⟨_, _, _, _, _, _⟩) rfl (fun K hK => ?_) (.inl rfl)
      refine step_store_any (cs := RVJ) rfl (.tmp 6) (.tmp 78) rfl (by rw [HRVJ.out.2.1]; rfl) rfl rfl ((New.dr (New.refl w6)).blk HB66.out) (by rw [HRVJ.out.2.1]; rfl) HRVJ.out.2.2 ?_
      intro wx hbx hfx
      simp only [Act.put, List.setIfInBounds_toArray, List.set_cons_zero, List.set_cons_succ]
      refine hK.out _ _ (fun _ => ⟨((New.dr (New.refl w6)).blk HB36.out).fr hfx (fun e => by have := HNE.out; omega), ((New.dr (New.refl w6)).blk HB46.out).fr hfx (fun e => by have := HNE.out; omega)⟩) ?_
      have HBx := Lib.hid hbx
      have HFx := Lib.hid hfx
      have HB7x : Hid (Blk wx b7 45 rl0) := Lib.hid (((New.dr (New.refl w6)).blk HB76.out).fr hfx (fun e => by have := HNE.out; omega))
      have HSx : Hid (Blk wx b3 32 RVJ ∧ Blk wx b4 45 (rlV (l.step b) TA tc)) := Lib.hid ⟨((New.dr (New.refl w6)).blk HB36.out).fr hfx (fun e => by have := HNE.out; omega), ((New.dr (New.refl w6)).blk HB46.out).fr hfx (fun e => by have := HNE.out; omega)⟩
      clear hbx hfx hK K
      refine mix_act (o := ⟨_, _, _, _, _, _⟩) rfl (fun K hK => ?_) (.inl rfl)
      refine step_store_any (cs := (rlV (l.step b) TA tc)) rfl (.tmp 7) (.tmp 79) rfl rfl rfl rfl HB7x.out rfl (rl_all _ _ _) ?_
      intro wy hby hfy
      simp only [Act.put, List.setIfInBounds_toArray, List.set_cons_zero, List.set_cons_succ]
      refine hK.out _ _ (fun _ => ⟨HSx.out.1.fr hfy (fun e => by have := HNE.out; omega), HSx.out.2.fr hfy (fun e => by have := HNE.out; omega)⟩) ?_
      have HBy := Lib.hid hby
      have HFy := Lib.hid hfy
      have HBx2 : Hid (Blk wy b6 32 RVJ) := Lib.hid (HBx.out.fr hfy (fun e => by have := HNE.out; omega))
      clear hby hfy hK K
      iterate 1 (refine mix_take (o := ⟨_, _, _, _, _, _⟩) rfl (fun K hK => ?_); go_simp; refine hK _ ?_; clear hK K)
      refine mix_done ?_
      go_wp2_with fail
      refine bodyPost_ret (results_row3c rfl _ _ b6 b7 _ _ _ _ rfl HBx2.out Tryd.underlying32 rfl (by rw [HRVJ.out.2.1]; rfl) rfl HBy.out Tryd.underlying45 rfl rfl) rfl ?_
      refine ⟨rq, A1, c1, A2, c2, TA, tc, by rw [HA0.out, HRVJ.out.1]; rfl, ?_, by rw [HA0.out]; exact HMQ.out.1, HTN.out, ?_, ?_⟩
      · exact (((HR6.out.new (New.dr (New.refl w6))).fr HFx.out (fun y hy => by rw [show y = b6 from hy]; exact IsT.not_blk ((New.dr (New.refl w6)).blk HB66.out) (by decide))).fr HFy.out (fun y hy => by rw [show y = b7 from hy]; exact IsT.not_blk HB7x.out (by decide)))
      · rw [HA0.out]
        exact (((HI6.out.new (New.dr (New.refl w6))).fr HFx.out (fun y hy => by rw [show y = b6 from hy]; exact IsT.not_blk ((New.dr (New.refl w6)).blk HB66.out) (by decide))).fr HFy.out (fun y hy => by rw [show y = b7 from hy]; exact IsT.not_blk HB7x.out (by decide)))
      · exact (((HN6.out.tr (New.dr (New.refl w6))).fr HFx.out (fun y hy => by have := HNE.out; have hy' : y = b6 := hy; omega)).fr HFy.out (fun y hy => by have := HNE.out; have hy' : y = b7 := hy; omega))
theorem rapp_any {q : Nat → Prop} {w : World} {p : DP} {l : LG} (r : RP) (A1 : Option Addr) (c1 : Nat) (A2 : Option Addr) (c2 : Nat) (A : Option Addr) (c : Nat) (B : Option Addr) (n d : Nat) (b : List Int) (hr : RfIn w r A1 A2) (hM : Mt p r) (hp : p.Ok) (hI : RlIn w l A) (hl : l.Ok p.size) (hL : RShaIn 1 0 w) (hR : Rd q w 1 B n (u8s b)) (hb : Byt b) (hn : n ≤ maxLen) (ht : r.tot ≤ 50000) :
    Calls Tryd.prog 36 #[.agg (RfV r A1 c1 A2 c2), .agg (rlV l A c), .slice B n d] w (RAppSays (appL p l b) (r.tot + l.size) w) := by
  have hbn : b.length = n := by have := hR.1; rw [u8s_len] at this; omega
  by_cases hc : secN n = 0 ∨ l.broken = true ∨ l.size - l.used < secN n
  · have ha : appL p l b = (p, l, if secN n = 0 then 2 else if l.broken = true then 10 else 8) := by
      unfold appL
      rw [hbn]
      by_cases h0 : secN n = 0
      · rw [if_pos h0, if_pos h0]
      · rw [if_neg h0, if_neg h0]
        by_cases h1 : l.broken = true
        · rw [if_pos h1, if_pos h1]
        · rw [if_neg h1, if_neg h1, if_pos (by rcases hc with hc | hc | hc; exact absurd hc h0; exact absurd hc h1; exact hc)]
    rw [ha]
    exact rapp_bad r A1 c1 A2 c2 A c B n d hr hM hI hl.used hn _ (Nat.le_add_right _ _) hc
  · exact rapp_good r A1 c1 A2 c2 A c B n d b hr hM hp hI hl hL hR hb hbn ht (fun e => hc (.inl e)) (by cases hbr : l.broken with | true => exact absurd (.inr (.inl hbr)) hc | false => rfl) (fun e => hc (.inr (.inr e)))
end Go.Proofs.YteeclfejgpgooaaDoor
/- The reference: a log made afresh, where it may lie and nothing fails. No condition else. -/
namespace Go.Proofs.YteeclfejgpgooaaDoor
set_option linter.unusedVariables false
set_option linter.unusedSimpArgs false
set_option linter.constructorNameAsVariable false
open Go.RowKit Go.Sort

def RFreshSays (l : LG) (q : DP) (tot : Nat) (w : World) (e : Ending) (w' : World) : Prop :=
  ∃ r' A1 c1 A2 c2 B c, e = .returned (.tuple #[.agg (RfV r' A1 c1 A2 c2), .agg (rlV l B c), .int .i64 0]) ∧ RfIn w' r' A1 A2 ∧ Mt q r' ∧ r'.tot ≤ tot ∧ RlIn w' l B ∧ New w w'
set_option maxRecDepth 100000 in
set_option maxHeartbeats 3000000 in
theorem rfresh_good {w : World} {p : DP} (r : RP) (A1 : Option Addr) (c1 : Nat) (A2 : Option Addr) (c2 : Nat) (hr : RfIn w r A1 A2) (hM : Mt p r) (hp : p.Ok) (hn : r.tot ≤ 50000) (a b c : Nat) (hb : 1 ≤ b) (hab : a + b ≤ p.size) (hc : c < 4294967296) (hc0 : c ≠ 0) (hz : (wipeL p (lg0 a b c)).2 = 0) :
    Calls Tryd.prog 35 #[.agg (RfV r A1 c1 A2 c2), .int .i64 a, .int .i64 b, .int .u32 c] w (RFreshSays (lg0 a b c) (wipeL p (lg0 a b c)).1 (r.tot + b) w) := by
  have hsz := hp.s2
  have hl0 : (lg0 a b c).Ok p.size := lg0_ok hab hc
  obtain ⟨X0, hX0⟩ : ∃ X0, X0 = RfV r A1 c1 A2 c2 := ⟨_, rfl⟩
  have HX0 : Hid (X0[0]? = some (.int .i64 p.size) ∧ X0.size = 5 ∧ X0.all (·.oneCell') = true) := Lib.hid (by rw [hX0]; exact ⟨by rw [← hM.size]; rfl, rfl, rf_all _ _ _ _ _⟩)
  have HWIP : Hid (∀ B cc W, New w W → Calls Tryd.prog 44 #[.agg X0, .agg (rlV (lg0 a b c) B cc)] W (RwSays (wipeL p (lg0 a b c)).1 0 (r.tot + b) W)) := Lib.hid fun B cc W hN => by
    rw [hX0]
    have h := rwipe_any r A1 c1 A2 c2 B cc (hr.new hN) hM hp hn hl0
    rw [hz] at h
    exact h
  obtain ⟨q, hq⟩ : ∃ q, q = (wipeL p (lg0 a b c)).1 := ⟨_, rfl⟩
  rw [← hq] at HWIP
  rw [← hq]
  obtain ⟨n, hn2⟩ : ∃ n, n = p.size := ⟨_, rfl⟩
  rw [← hn2] at HX0
  rw [← hn2] at hab hsz
  obtain ⟨m, hm⟩ : ∃ m, m = n - a := ⟨_, rfl⟩
  have h5 : (n : Int) - (a : Int) = (m : Int) := by omega
  have h6 : (b : Int) ≤ (m : Int) := by omega
  have h7 : (m : Int) ≤ 16384 := by omega
  have h3' : (a : Int) < (n : Int) := by omega
  have h2' : 1 ≤ (b : Int) := by omega
  have h1' : 0 ≤ (a : Int) := by omega
  have hcz : ((c : Int) == 0) = false := by simp; omega
  have hcy : ¬ (c : Int) = 0 := by omega
  have HCG : Hid (c < 4294967296 ∧ a ≤ 16384 ∧ b ≤ 16384) := Lib.hid (by omega)
  obtain ⟨tt, htt⟩ : ∃ tt, tt = r.tot + b := ⟨_, rfl⟩
  rw [← htt] at HWIP
  rw [← hX0, ← htt]
  clear hr hM hp hn hb hab hc hc0 hz hsz hl0 hX0 hn2 hm hq htt
  go_enter Tryd.func35, Tryd.ntmps35
  go_upto_region 1 with fail
  obtain ⟨w0, hw0⟩ : ∃ w0 : World, w0 = ((w.alloc (.cells X0 32)).alloc (.cells #[.int .i64 0, .slice none 0 0, .slice none 0 0, .int .i64 0, .bool false] 32)).alloc (.cells #[.int .i64 0, .int .i64 0, .int .i64 0, .int .u32 0, .slice none 0 0, .bool false] 45) := ⟨_, rfl⟩
  obtain ⟨b3, hb3⟩ : ∃ b3, b3 = w.heap.size := ⟨_, rfl⟩
  obtain ⟨b6, hb6⟩ : ∃ b6, b6 = w.heap.size + 1 := ⟨_, rfl⟩
  obtain ⟨b7, hb7⟩ : ∃ b7, b7 = w.heap.size + 1 + 1 := ⟨_, rfl⟩
  have HN0 : Hid (New w w0) := Lib.hid (by rw [hw0]; exact New.al (New.al (New.al (New.refl _) _) _) _)
  have HB3 : Hid (Blk w0 b3 32 X0) := Lib.hid (by rw [hw0, hb3]; exact ((Blk.new _ _ _).alloc _).alloc _)
  have HB6 : Hid (Blk w0 b6 32 rz0) := Lib.hid (by rw [hw0, hb6]; exact (Blk.new' _ _ _ (by simp)).alloc _)
  have HB7 : Hid (Blk w0 b7 45 rl0) := Lib.hid (by rw [hw0, hb7]; exact Blk.new' _ _ _ (by simp))
  have HZ : Hid (b3 = w.heap.size ∧ b6 = w.heap.size + 1 ∧ b7 = w.heap.size + 2 ∧ w0.heap.size = w.heap.size + 3) := Lib.hid ⟨hb3, hb6, hb7, by rw [hw0]; simp⟩
  rw [← hw0, ← hb7, ← hb6, ← hb3]
  clear hw0 hb3 hb6 hb7
  have cz : w0.cell? ⟨b3, 0, none⟩ = some (.int .i64 n) := by rw [HB3.out.cell, HX0.out.1]
  obtain ⟨i0, hi, hz0, hz1, hz2⟩ := info_parts infoB
  have HI := Lib.hid (And.intro hi (And.intro hz0 (And.intro hz1 hz2)))
  clear hi hz0 hz1 hz2
  go_upto_region 4 with ((with_reducible refine atOpS ⟨some 42, .makeSlice _ _ _, _, _, _, _⟩ ?_); refine wpList_make_full _ rfl _ _ 43 rfl w0.heap.size 5 i0 (.int .u8 0) 1 Tryd.underlying43 HI.out.1 HI.out.2.1 HI.out.2.2.1 .i64 .i64 16 16 16 rfl rfl rfl rfl (by rw [HI.out.2.2.2]; omega) (by unfold maxLen; omega) (Nat.le_refl _) ?_; intro w1 hO1 hg1; have HO1 : Hid (w1.ownsRow w0.heap.size 5 1 (.slice (some ⟨w0.heap.size, 0, none⟩) 16 16) 16 (u8s (List.replicate 16 0))) := Lib.hid (by have h := made_u8 16; have h2 := hO1; rw [h] at h2; exact h2); have HN1 : Hid (New w0 w1) := Lib.hid ((New.refl w0).fr ((Fr.refl NoB w0).grown hg1 (fun _ _ h => by cases h)) (fun k h => h.elim)); clear hO1 hg1)
  obtain ⟨W0, hW0⟩ : ∃ W0 : World, W0 = w1.alloc (.cells #[.int .i64 a, .int .i64 b, .int .i64 0, .int .u32 c, .slice (some ⟨w0.heap.size, 0, none⟩) 16 16, .bool false] 45) := ⟨_, rfl⟩
  obtain ⟨b4, hb4⟩ : ∃ b4, b4 = w1.heap.size := ⟨_, rfl⟩
  have HNW : Hid (New w0 W0) := Lib.hid (by rw [hW0]; exact New.al HN1.out _)
  obtain ⟨YL, hYL⟩ : ∃ YL, YL = rlV (lg0 a b c) (some ⟨w0.heap.size, 0, none⟩) 16 := ⟨_, rfl⟩
  have HYL : Hid (YL = rlV (lg0 a b c) (some ⟨w0.heap.size, 0, none⟩) 16 ∧ YL.size = 6) := Lib.hid (by rw [hYL]; exact ⟨rfl, rfl⟩)
  have HB4 : Hid (Blk W0 b4 45 YL) := Lib.hid (by rw [hW0, hb4, hYL]; exact Blk.new _ _ _)
  have HLI : Hid (RlIn W0 (lg0 a b c) (some ⟨w0.heap.size, 0, none⟩)) := Lib.hid ⟨(by
    have h := RdT.own HO1.out rfl
    rw [hW0]
    exact h.new (New.al (New.refl _) _)), (fun x hx => by have := List.eq_of_mem_replicate hx; omega), HCG.out.1, by have := HCG.out; exact ⟨by show a ≤ _; omega, by show b ≤ _; omega, by show 0 ≤ _; omega⟩⟩
  have HNE : Hid (b3 = w.heap.size ∧ b6 = w.heap.size + 1 ∧ b7 = w.heap.size + 2 ∧ w.heap.size + 3 ≤ b4) := Lib.hid (by have := HZ.out; have := HN1.out.size; omega)
  have HB3W : Hid (Blk W0 b3 32 X0) := Lib.hid (HNW.out.blk HB3.out)
  have HB6W : Hid (Blk W0 b6 32 rz0) := Lib.hid (HNW.out.blk HB6.out)
  have HB7W : Hid (Blk W0 b7 45 rl0) := Lib.hid (HNW.out.blk HB7.out)
  have HWP := Lib.hid (HWIP.out (some ⟨w0.heap.size, 0, none⟩) 16 W0 (HN0.out.tr HNW.out))
  rw [← HYL.out.1] at HWP
  rw [← hW0, ← hb4]
  clear hW0 hb4 hYL HO1 HN1 cz HB3 HB6 HB7 HZ HI HWIP h5 h6 h7 h3' h2' h1' hcz hcy
  go_wp2_with (first
    | ((with_reducible refine atOp ⟨some 45, .load _ _, _, _, _, _⟩ ?_); refine wpList_load_any rfl _ rfl Tryd.underlying32 rfl (by rw [HX0.out.2.1]; rfl) rfl HB3W.out ?_)
    | ((with_reducible refine atOp ⟨some 46, .load _ _, _, _, _, _⟩ ?_); refine wpList_load_any rfl _ rfl Tryd.underlying45 rfl (by rw [HYL.out.2]; rfl) rfl HB4.out ?_))
  refine HWP.out.mono ?_
  rintro e w3 ⟨r', E1, f1, E2, f2, rfl, hR3, hM3, ht3, hN3⟩
  obtain ⟨Y, hY⟩ : ∃ Y, Y = RfV r' E1 f1 E2 f2 := ⟨_, rfl⟩
  have HY : Hid (Y = RfV r' E1 f1 E2 f2 ∧ Y.size = 5 ∧ Y.all (·.oneCell') = true) := Lib.hid (by rw [hY]; exact ⟨rfl, rfl, rf_all _ _ _ _ _⟩)
  rw [← hY]
  have HR3 := Lib.hid hR3
  have HM3 := Lib.hid hM3
  have HT3 := Lib.hid ht3
  have HN3 : Hid (New W0 w3) := Lib.hid hN3
  have HB33 : Hid (Blk w3 b3 32 X0) := Lib.hid (hN3.blk HB3W.out)
  clear hY hR3 hM3 ht3 hN3 HWP
  go_upto_region 7 with ((with_reducible refine atOp ⟨none, .store 32 (.tmp 4) _, _, _, _, _⟩ ?_); refine wpList_store_any rfl (.tmp 4) (.tmp 48) rfl (by rw [HY.out.2.1]; rfl) rfl rfl HB33.out (by rw [HX0.out.2.1, HY.out.2.1]) HY.out.2.2 ?_; intro w4 hb4 hf4; have HB34 := Lib.hid hb4; have HF4 := Lib.hid hf4; clear hb4 hf4)
  have HB44 : Hid (Blk w4 b4 45 YL) := Lib.hid ((HN3.out.blk HB4.out).fr HF4.out (fun e => by have e' : b4 = b3 := e; have := HNE.out; omega))
  have HB64 : Hid (Blk w4 b6 32 rz0) := Lib.hid ((HN3.out.blk HB6W.out).fr HF4.out (fun e => by have e' : b6 = b3 := e; have := HNE.out; omega))
  have HB74 : Hid (Blk w4 b7 45 rl0) := Lib.hid ((HN3.out.blk HB7W.out).fr HF4.out (fun e => by have e' : b7 = b3 := e; have := HNE.out; omega))
  have HR4 : Hid (RfIn w4 r' E1 E2) := Lib.hid (HR3.out.fr HF4.out (fun j hj => by rw [show j = b3 from hj]; exact IsT.not_blk HB33.out (by decide)))
  have HLI4 : Hid (RlIn w4 (lg0 a b c) (some ⟨w0.heap.size, 0, none⟩)) := Lib.hid ((HLI.out.new HN3.out).fr HF4.out (fun j hj => by rw [show j = b3 from hj]; exact IsT.not_blk HB33.out (by decide)))
  have HN4 : Hid (New w w4) := Lib.hid (((HN0.out.tr HNW.out).tr HN3.out).fr HF4.out (fun j hj => by have hj' : j = b3 := hj; have := HNE.out; omega))
  clear HR3 HLI HN3 HB33 HF4 HB4 HB3W HB6W HB7W
  refine wp_region_mixH (fun w' => Blk w' b3 32 Y ∧ Blk w' b4 45 YL) [(true, 0), (true, 1), (false, 2), (false, 3), (true, 4)] (by kernel_rfl) (by kernel_rfl) ⟨(New.dr (New.refl w4)).blk HB34.out, (New.dr (New.refl w4)).blk HB44.out⟩ (fun hne => ?_)
  refine mix_take_row (o := ⟨_, _, _, _, _, _⟩) (cs := Y.toList) rfl rfl (.tmp 4) rfl rfl (fun w' h => h.1.rangeOf) Tryd.underlying32 rfl (by rw [Array.length_toList, HY.out.2.1]; rfl) ?_
  refine mix_take_row (o := ⟨_, _, _, _, _, _⟩) (cs := YL.toList) rfl rfl (.tmp 11) rfl rfl (fun w' h => h.2.rangeOf) Tryd.underlying45 rfl (by rw [Array.length_toList, HYL.out.2]; rfl) ?_
  simp only [Act.put, List.setIfInBounds_toArray, List.set_cons_zero, List.set_cons_succ]
  refine mix_act (o := ⟨_, _, _, _, _, _⟩) rfl (fun K hK => ?_) (.inl rfl)
  refine step_store_any (cs := Y) rfl (.tmp 8) (.tmp 55) rfl (by rw [HY.out.2.1]; rfl) rfl rfl ((New.dr (New.refl w4)).blk HB64.out) (by rw [HY.out.2.1]; rfl) HY.out.2.2 ?_
  intro wx hbx hfx
  simp only [Act.put, List.setIfInBounds_toArray, List.set_cons_zero, List.set_cons_succ]
  refine hK.out _ _ (fun _ => ⟨((New.dr (New.refl w4)).blk HB34.out).fr hfx (fun e => by have := HNE.out; omega), ((New.dr (New.refl w4)).blk HB44.out).fr hfx (fun e => by have := HNE.out; omega)⟩) ?_
  have HBx := Lib.hid hbx
  have HFx := Lib.hid hfx
  have HB7x : Hid (Blk wx b7 45 rl0) := Lib.hid (((New.dr (New.refl w4)).blk HB74.out).fr hfx (fun e => by have := HNE.out; omega))
  have HSx : Hid (Blk wx b3 32 Y ∧ Blk wx b4 45 YL) := Lib.hid ⟨((New.dr (New.refl w4)).blk HB34.out).fr hfx (fun e => by have := HNE.out; omega), ((New.dr (New.refl w4)).blk HB44.out).fr hfx (fun e => by have := HNE.out; omega)⟩
  clear hbx hfx hK K
  refine mix_act (o := ⟨_, _, _, _, _, _⟩) rfl (fun K hK => ?_) (.inl rfl)
  refine step_store_any (cs := YL) rfl (.tmp 9) (.tmp 56) rfl (by rw [HYL.out.2]; rfl) rfl rfl HB7x.out (by rw [HYL.out.2]; rfl) (by rw [HYL.out.1]; exact rl_all _ _ _) ?_
  intro wy hby hfy
  simp only [Act.put, List.setIfInBounds_toArray, List.set_cons_zero, List.set_cons_succ]
  refine hK.out _ _ (fun _ => ⟨HSx.out.1.fr hfy (fun e => by have := HNE.out; omega), HSx.out.2.fr hfy (fun e => by have := HNE.out; omega)⟩) ?_
  have HBy := Lib.hid hby
  have HFy := Lib.hid hfy
  have HBx2 : Hid (Blk wy b6 32 Y) := Lib.hid (HBx.out.fr hfy (fun e => by have := HNE.out; omega))
  clear hby hfy hK K
  iterate 1 (refine mix_take (o := ⟨_, _, _, _, _, _⟩) rfl (fun K hK => ?_); go_simp; refine hK _ ?_; clear hK K)
  refine mix_done ?_
  go_wp2_with fail
  refine bodyPost_ret (results_row3c rfl _ _ b6 b7 _ _ _ _ rfl HBx2.out Tryd.underlying32 rfl (by rw [HY.out.2.1]; rfl) rfl HBy.out Tryd.underlying45 rfl (by rw [HYL.out.2]; rfl)) rfl ?_
  rw [HY.out.1, HYL.out.1]
  refine ⟨r', E1, f1, E2, f2, some ⟨w0.heap.size, 0, none⟩, 16, rfl, ?_, HM3.out, HT3.out, ?_, ?_⟩
  · exact (((HR4.out.new (New.dr (New.refl w4))).fr HFx.out (fun y hy => by rw [show y = b6 from hy]; exact IsT.not_blk ((New.dr (New.refl w4)).blk HB64.out) (by decide))).fr HFy.out (fun y hy => by rw [show y = b7 from hy]; exact IsT.not_blk HB7x.out (by decide)))
  · exact (((HLI4.out.new (New.dr (New.refl w4))).fr HFx.out (fun y hy => by rw [show y = b6 from hy]; exact IsT.not_blk ((New.dr (New.refl w4)).blk HB64.out) (by decide))).fr HFy.out (fun y hy => by rw [show y = b7 from hy]; exact IsT.not_blk HB7x.out (by decide)))
  · exact (((HN4.out.tr (New.dr (New.refl w4))).fr HFx.out (fun y hy => by have := HNE.out; have hy' : y = b6 := hy; omega)).fr HFy.out (fun y hy => by have := HNE.out; have hy' : y = b7 := hy; omega))
end Go.Proofs.YteeclfejgpgooaaDoor
