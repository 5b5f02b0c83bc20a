/- Texts of one proof, one behind the other: LkM, LkN, OpenA, DkJ. No condition but each one's own. -/
import Derived.Test.YteeclfejgpgooaaDoorLogKeepsM17
import Derived.Test.YteeclfejgpgooaaDoorLogKeepsM21
import Derived.Test.YteeclfejgpgooaaDoorLogKeepsM9
import Derived.OpenShut
import Derived.Test.YteeclfejgpgooaaDoorLogKeepsM11
/- A log on a disk of a function's own, as one fact; what its acts leave alone. sha's tables are as they were laid. No condition else. -/
namespace Go.Proofs.YteeclfejgpgooaaDoor
set_option linter.unusedVariables false
set_option linter.unusedSimpArgs false
set_option linter.constructorNameAsVariable false
open Go.RowKit Go.Sort Go.Maps

/-- What a log and its disk leave alone. -/
structure Kpl (W w w' : World) : Prop where
  ex : ∃ S : Nat → Prop, Fr S w w' ∧ ∀ k, S k → W.heap.size ≤ k ∧ ∀ cs t fz, w.heap[k]? = some (.cells cs t fz) → t = 100 ∨ t = 88 ∨ t = 3
def Kin (W w : World) (k : Nat) : Prop := W.heap.size ≤ k ∧ ∀ cs t fz, w.heap[k]? = some (.cells cs t fz) → t = 100 ∨ t = 88 ∨ t = 3
theorem dk_kin {W w : World} {g bs bf : Nat} {v : Value} {p : DP} (h : Dk w W.heap.size g bs bf v p) : ∀ k, DkOurs g bs bf v k → Kin W w k := fun k hk => ⟨(h.ours k hk).1, fun cs t fz hc => by
  rcases hk with rfl | rfl | rfl | ho
  · have := h.blk
    rw [show w.heap[k]? = some _ from this] at hc
    injection hc with hc
    injection hc with _ e _
    exact .inr (.inl e.symm)
  · exact absurd ⟨cs, fz, hc⟩ (IsT.not_map h.ms)
  · exact absurd ⟨cs, fz, hc⟩ (IsT.not_map h.mw)
  · obtain ⟨cs', fz', h'⟩ := own_isT' h.own ho
    rw [h'] at hc
    injection hc with hc
    injection hc with _ e _
    exact .inr (.inr e.symm)⟩
theorem lg_kin {W w : World} {gl gd n : Nat} {l : LG} (h : Lg w gl gd l n) (hl : W.heap.size ≤ gl) : Kin W w gl := ⟨hl, fun cs t fz hc => by
  rw [show w.heap[gl]? = some _ from h.blk] at hc
  injection hc with hc
  injection hc with _ e _
  exact .inl e.symm⟩
section
variable {W w w' w'' : World}
theorem Kpl.of {S : Nat → Prop} (hF : Fr S w w') (h : ∀ k, S k → Kin W w k) : Kpl W w w' := ⟨S, hF, h⟩
theorem Kpl.new (h : New w w') : Kpl W w w' := ⟨NoB, h.toFr _, fun _ x => x.elim⟩
theorem Kpl.blk (h : Kpl W w w') {b t : Nat} {cs : Array Value} (hb : Blk w b t cs) (h1 : t ≠ 100) (h2 : t ≠ 88) (h3 : t ≠ 3) : Blk w' b t cs := by
  obtain ⟨S, hF, hS⟩ := h.ex
  refine hb.fr hF (fun hs => ?_)
  rcases (hS b hs).2 _ _ _ hb with e | e | e
  · exact h1 e
  · exact h2 e
  · exact h3 e
theorem Kpl.fr (h : Kpl W w w') : ∃ S : Nat → Prop, Fr S w w' ∧ (∀ k, S k → W.heap.size ≤ k) ∧ ∀ t, t ≠ 100 → t ≠ 88 → t ≠ 3 → ∀ k, S k → ¬ IsT t w k := by
  obtain ⟨S, hF, hS⟩ := h.ex
  refine ⟨S, hF, fun k hk => (hS k hk).1, fun t h1 h2 h3 k hk ⟨cs, fz, hc⟩ => ?_⟩
  rcases (hS k hk).2 _ _ _ hc with e | e | e
  · exact h1 e
  · exact h2 e
  · exact h3 e
theorem Kpl.nw (h : Kpl W w w') (hN : New W w) : New W w' := by
  obtain ⟨S, hF, hS, -⟩ := h.fr
  exact hN.fr hF hS
end
/-- A disk; a log on it. -/
def Dkl (W w : World) (gd : Nat) (p : DP) : Prop := ∃ bs bf v, Dk w W.heap.size gd bs bf v p ∧ New W w
def Lgl (W w : World) (gd gl : Nat) (p : DP) (l : LG) : Prop := ∃ bs bf v, Dk w W.heap.size gd bs bf v p ∧ Lg w gl gd l p.size ∧ W.heap.size ≤ gl ∧ New W w
section
variable {W w w' : World} {gd gl : Nat} {p : DP} {l : LG}
theorem Dkl.new (h : Dkl W w gd p) (hN : New w w') : Dkl W w' gd p := by obtain ⟨bs, bf, v, h1, h2⟩ := h; exact ⟨bs, bf, v, h1.new hN, h2.tr hN⟩
theorem Lgl.new (h : Lgl W w gd gl p l) (hN : New w w') : Lgl W w' gd gl p l := by obtain ⟨bs, bf, v, h1, h2, h3, h4⟩ := h; exact ⟨bs, bf, v, h1.new hN, h2.new hN, h3, h4.tr hN⟩
theorem Lgl.dkl (h : Lgl W w gd gl p l) : Dkl W w gd p := by obtain ⟨bs, bf, v, h1, h2, h3, h4⟩ := h; exact ⟨bs, bf, v, h1, h4⟩
theorem Lgl.nw (h : Lgl W w gd gl p l) : New W w := by obtain ⟨bs, bf, v, h1, h2, h3, h4⟩ := h; exact h4
theorem Lgl.ok (h : Lgl W w gd gl p l) : p.Ok := by obtain ⟨bs, bf, v, h1, h2, h3, h4⟩ := h; exact h1.ok
theorem Lgl.lok (h : Lgl W w gd gl p l) : l.Ok p.size := by obtain ⟨bs, bf, v, h1, h2, h3, h4⟩ := h; exact h2.ok
theorem Lgl.lgo (h : Lgl W w gd gl p l) : LgO W.heap.size w (some ⟨gl, 0, none⟩) gd p.size (some l) := by obtain ⟨bs, bf, v, h1, h2, h3, h4⟩ := h; exact ⟨gl, rfl, h3, h2⟩
theorem Lgl.lg (h : Lgl W w gd gl p l) : Lg w gl gd l p.size := by obtain ⟨bs, bf, v, h1, h2, h3, h4⟩ := h; exact h2
theorem Dkl.nw (h : Dkl W w gd p) : New W w := by obtain ⟨bs, bf, v, h1, h2⟩ := h; exact h2
theorem Dkl.ok (h : Dkl W w gd p) : p.Ok := by obtain ⟨bs, bf, v, h1, h2⟩ := h; exact h1.ok
theorem dnew_l (hN : New W w) (n : Nat) (h1 : 1 ≤ n) (h2 : n ≤ 16384) : Calls Tryd.prog 8 #[.int .i64 n] w fun e w' => ∃ g, e = .returned (.tuple #[.pointer (some ⟨g, 0, none⟩), .nilIface]) ∧ Dkl W w' g (DP.new n) ∧ New w w' :=
  (new_ok n w W.heap.size hN.size h1 h2).mono fun e w' ⟨he, hD, hN'⟩ => ⟨_, he, ⟨_, _, _, hD, hN.tr hN'⟩, hN'⟩
theorem open_l (h : Dkl W w gd p) (hL : ShaIn 3 2 W) (a b c : Int) (wa : (Lit.int .i64 a).wf = true) (wb : (Lit.int .i64 b).wf = true) (hc : 0 ≤ c ∧ c < 4294967296) {q : DP} {R : List (List Int)} {l : LG} (ho : opn p a b c = ⟨q, 0, R, some l⟩) (hz : q.size = p.size) :
    Calls Tryd.prog 12 #[.pointer (some ⟨gd, 0, none⟩), .int .i64 a, .int .i64 b, .int .u32 c] w fun e w' => ∃ gl A c, e = .returned (.tuple #[.pointer (some ⟨gl, 0, none⟩), .slice A R.length c, .nilIface]) ∧ Lgl W w' gd gl q l ∧ Recs w.heap.size w' (.slice A R.length c) R ∧ Kpl W w w' := by
  obtain ⟨bs, bf, v, h1, h2⟩ := h
  have hop := open_all h1 (hL.new h2) a b c wa wb hc
  rw [ho] at hop
  refine hop.mono fun e w' ⟨pl, A, cc, v', he, hLg, hR, hT⟩ => ?_
  obtain ⟨gl, rfl, hgl, hlg⟩ := hLg
  have hK : Kpl W w w' := Kpl.of hT.fr (dk_kin h1)
  exact ⟨gl, A, cc, he, ⟨bs, bf, v', hT.dk, by rw [hz]; exact hlg, by have := h2.size; omega, hK.nw h2⟩, hR, hK⟩
theorem fresh_l (h : Dkl W w gd p) (a b c : Nat) (hb : 1 ≤ b) (hab : a + b ≤ p.size) (hc : c < 4294967296) (hc0 : c ≠ 0) (hw : (wipeL p (lg0 a b c)).2 = 0) :
    Calls Tryd.prog 21 #[.pointer (some ⟨gd, 0, none⟩), .int .i64 a, .int .i64 b, .int .u32 c] w fun e w' => ∃ gl, e = .returned (.tuple #[.pointer (some ⟨gl, 0, none⟩), .nilIface]) ∧ Lgl W w' gd gl (wipeL p (lg0 a b c)).1 (lg0 a b c) ∧ Kpl W w w' := by
  obtain ⟨bs, bf, v, h1, h2⟩ := h
  refine (fresh_good h1 a b c hb hab hc hc0).mono fun e w' hs => ?_
  unfold FreshSays at hs
  rw [if_pos hw] at hs
  obtain ⟨gl, v', he, hgl, hlg, hT⟩ := hs
  have hK : Kpl W w w' := Kpl.of hT.fr (dk_kin h1)
  exact ⟨gl, he, ⟨bs, bf, v', hT.dk, by rw [wipeL_size]; exact hlg, by have := h2.size; omega, hK.nw h2⟩, hK⟩
theorem cut_l (h : Dkl W w gd p) {q : Nat → Prop} (A : Option Addr) (n c : Nat) (keep : List Bool) (hR : Rd q w 1 A n (bools keep)) (hn : n ≤ maxLen) (hq : ∀ k, q k → k < W.heap.size) :
    Calls Tryd.prog 31 #[.pointer (some ⟨gd, 0, none⟩), .slice A n c] w fun e w' => e = .returned (.tuple #[]) ∧ Dkl W w' gd (p.cut keep) ∧ Kpl W w w' := by
  obtain ⟨bs, bf, v, h1, h2⟩ := h
  refine (cut_in h1 A n c keep hR hn (fun k hk e => by have h3 := hq k hk; have h4 := (h1.ours bs (.inr (.inl rfl))).1; omega)).mono fun e w' ⟨he, hD, hF⟩ => ?_
  have hK : Kpl W w w' := Kpl.of hF (fun k hk => dk_kin h1 k (by rcases hk with h | h | h <;> simp [DkOurs, h]))
  exact ⟨he, ⟨bs, bf, _, hD, hK.nw h2⟩, hK⟩
theorem sync_l (h : Lgl W w gd gl p l) : Calls Tryd.prog 30 #[.pointer (some ⟨gd, 0, none⟩)] w fun e w' => e = .returned (errD p.scode) ∧ Lgl W w' gd gl p.doSync l ∧ Kpl W w w' := by
  obtain ⟨bs, bf, v, h1, h2, h3, h4⟩ := h
  refine (sync_all h1).mono fun e w' ⟨he, v', hD, hF, hO⟩ => ?_
  have hK : Kpl W w w' := Kpl.of hF (dk_kin h1)
  exact ⟨he, ⟨bs, bf, v', hD, by rw [DP.doSync_size]; exact h2.fr hF (lg_apart h1 h2), h3, hK.nw h4⟩, hK⟩
theorem fuse_l (h : Lgl W w gd gl p l) (a : Int) (ha : (Lit.int .i64 a).wf = true) : Calls Tryd.prog 32 #[.pointer (some ⟨gd, 0, none⟩), .int .i64 a] w fun e w' => e = .returned (.tuple #[]) ∧ Lgl W w' gd gl (p.fused a) l ∧ Kpl W w w' := by
  obtain ⟨bs, bf, v, h1, h2, h3, h4⟩ := h
  refine (fuse_in h1 ha).mono fun e w' ⟨he, hD, hF⟩ => ?_
  have hK : Kpl W w w' := Kpl.of hF (fun k hk => dk_kin h1 k (.inl hk))
  exact ⟨he, ⟨bs, bf, v, hD, h2.fr hF (fun e => Blk.ne_ h2.blk h1.blk (by decide) e), h3, hK.nw h4⟩, hK⟩
theorem app_l {q : Nat → Prop} (h : Lgl W w gd gl p l) (hL : ShaIn 3 2 W) (A : Option Addr) (n c : Nat) (b : List Int) (hR : Rd q w 1 A n (u8s b)) (hb : Byt b) (hn : n ≤ maxLen) :
    Calls Tryd.prog 25 #[.pointer (some ⟨gl, 0, none⟩), .slice A n c] w fun e w' => e = .returned (errD (appL p l b).2.2) ∧ Lgl W w' gd gl (appL p l b).1 (appL p l b).2.1 ∧ Kpl W w w' := by
  obtain ⟨bs, bf, v, h1, h2, h3, h4⟩ := h
  refine (app_any h2 h1 (hL.new h4) A n c b hR hb hn).mono fun e w' ⟨he, v', hT⟩ => ?_
  have hK : Kpl W w w' := Kpl.of hT.fr (fun k hk => by
    rcases hk with rfl | hk
    · exact lg_kin h2 h3
    · exact dk_kin h1 k hk)
  exact ⟨he, ⟨bs, bf, v', hT.dk, hT.lg, h3, hK.nw h4⟩, hK⟩
end
end Go.Proofs.YteeclfejgpgooaaDoor
/- Records that are known: texts among the arguments, texts that are new; records side by side. No condition. -/
namespace Go.Proofs.YteeclfejgpgooaaDoor
set_option linter.unusedVariables false
set_option linter.unusedSimpArgs false
set_option linter.constructorNameAsVariable false
open Go.RowKit Go.Sort

/-- Texts that can be read, one by one. -/
def Row0 (w : World) (A : Option Addr) (L : List (List Int)) : Prop := ∀ i l, L[i]? = some l → ∃ g o A' c', A = some ⟨g, o, none⟩ ∧ w.cell? ⟨g, o + i, none⟩ = some (.slice A' l.length c') ∧ Byt l ∧ Rd (fun _ => True) w 1 A' l.length (u8s l)
theorem Row0.take {w : World} {A : Option Addr} {L : List (List Int)} (h : Row0 w A L) (j : Nat) : Row0 w A (L.take j) := fun i l hl => h i l (by
  have hi := (List.getElem?_eq_some_iff.1 hl).1
  rw [List.length_take] at hi
  rwa [List.getElem?_take_of_lt (by omega)] at hl)
theorem Row0.new {w w' : World} {A : Option Addr} {L : List (List Int)} (h : Row0 w A L) (hN : New w w') : Row0 w' A L := fun i l hl => by
  obtain ⟨g, o, A', c', h1, h2, h3, h4⟩ := h i l hl
  exact ⟨g, o, A', c', h1, hN.cell_ h2, h3, hN.rd h4⟩
/-- Texts that are known: old ones, or new. -/
structure RecsK (B : Nat) (w : World) (v : Value) (L : List (List Int)) : Prop where
  row : ∃ vs : List Value, w.ownsRow B 43 1 v L.length vs ∧ ∀ (i : Nat) l, L[i]? = some l → ∃ A c, vs[i]? = some (.slice A l.length c) ∧ Byt l ∧ Rd (fun k => k < B ∨ IsT 5 w k) w 1 A l.length (u8s l)
theorem RecsK.nil (B : Nat) (w : World) : RecsK B w (.slice none 0 0) [] := ⟨[], ⟨rfl, .inl ⟨rfl, rfl⟩⟩, fun i l hl => by simp at hl⟩
theorem Recs.toK {B : Nat} {w : World} {v : Value} {L : List (List Int)} (h : Recs B w v L) : RecsK B w v L := by
  obtain ⟨vs, ho, he⟩ := h.row
  refine ⟨vs, ho, fun i l hl => ?_⟩
  obtain ⟨A, c, h1, h2, h3, h4, h5⟩ := he i l hl
  exact ⟨A, c, h1, h4, h5.imp (fun k hk => .inr hk.2)⟩
theorem RecsK.shape {B : Nat} {w : World} {v : Value} {L : List (List Int)} (h : RecsK B w v L) : ∃ A c, v = .slice A L.length c ∧ c ≤ maxLen ∧ L.length ≤ c := by
  obtain ⟨vs, ho, -⟩ := h.row
  obtain ⟨A, c, h1, h2, h3, -⟩ := own_shape ho
  exact ⟨A, c, h1, h3, h2⟩
theorem RecsK.fr {B : Nat} {S : Nat → Prop} {w w' : World} {v : Value} {L : List (List Int)} (h : RecsK B w v L) (hF : Fr S w w') (hS : ∀ k, S k → B ≤ k ∧ ¬ IsT 5 w k ∧ ¬ IsT 43 w k) : RecsK B w' v L := by
  obtain ⟨vs, ho, he⟩ := h.row
  refine ⟨vs, own_fr ho hF (fun k hk hs => (hS k hs).2.2 (own_isT' ho hk)), fun i l hl => ?_⟩
  obtain ⟨A, c, h1, h2, h3⟩ := he i l hl
  refine ⟨A, c, h1, h2, (h3.fr hF (fun k hk hs => ?_)).imp (fun k hk => ?_)⟩
  · rcases hk with hk | hk
    · have := (hS k hs).1; omega
    · exact (hS k hs).2.1 hk
  · rcases hk with hk | hk
    · exact .inl hk
    · exact .inr (hk.fr hF (fun hs => (hS k hs).2.1 hk))
theorem RecsK.new {B : Nat} {w w' : World} {v : Value} {L : List (List Int)} (h : RecsK B w v L) (hN : New w w') : RecsK B w' v L := h.fr (S := NoB) (hN.toFr _) (fun _ x => x.elim)
theorem RecsK.kpl {W w w' : World} {v : Value} {L : List (List Int)} (h : RecsK W.heap.size w v L) (hK : Kpl W w w') : RecsK W.heap.size w' v L := by
  obtain ⟨S, hF, hS, hT⟩ := hK.fr
  exact h.fr hF (fun k hk => ⟨hS k hk, hT _ (by decide) (by decide) (by decide) k hk, hT _ (by decide) (by decide) (by decide) k hk⟩)
theorem RecsK.row0 {B : Nat} {w : World} {A : Option Addr} {n c : Nat} {L : List (List Int)} (h : RecsK B w (.slice A n c) L) (hn : n = L.length) : Row0 w A L := by
  obtain ⟨vs, ho, he⟩ := h.row
  intro i l hl
  have hi := (List.getElem?_eq_some_iff.1 hl).1
  obtain ⟨g, o, hA, -, -, hc⟩ := (Rd.own ho (by rw [hn])).out (by omega) (by omega)
  obtain ⟨A', c', h1, h2, h3⟩ := he i l hl
  exact ⟨g, o, A', c', hA, hc i _ h1, h2, h3.imp (fun _ _ => trivial)⟩
theorem Recs.row0 {B : Nat} {w : World} {A : Option Addr} {n c : Nat} {L : List (List Int)} (h : Recs B w (.slice A n c) L) (hn : n = L.length) : Row0 w A L := h.toK.row0 hn
/-- One more. -/
theorem RecsK.push {B : Nat} {w w' : World} {A A' A2 : Option Addr} {m c c' c2 : Nat} {L : List (List Int)} {l : List Int} {vs : List Value} (hvs : w.ownsRow B 43 1 (.slice A m c) m vs ∧ ∀ (i : Nat) l, L[i]? = some l → ∃ A c, vs[i]? = some (.slice A l.length c) ∧ Byt l ∧ Rd (fun k => k < B ∨ IsT 5 w k) w 1 A l.length (u8s l)) (hm : m = L.length)
    (ho : w'.ownsRow B 43 1 (.slice A' (m + 1) c') (m + 1) (vs ++ [.slice A2 l.length c2])) (hF : Fr (fun k => (Value.slice A m c).ownBlock = some k) w w') (hb : Byt l) (hR : Rd (fun k => k < B ∨ IsT 5 w k) w 1 A2 l.length (u8s l)) : RecsK B w' (.slice A' (m + 1) c') (L ++ [l]) := by
  have hT : ∀ k, (Value.slice A m c).ownBlock = some k → B ≤ k ∧ ¬ IsT 5 w k := fun k hk => ⟨(own_lt hvs.1 k hk).1, IsT.not_own hvs.1 (by decide) hk⟩
  have hq : ∀ {A : Option Addr} {n : Nat} {xs : List Value}, Rd (fun k => k < B ∨ IsT 5 w k) w 1 A n xs → Rd (fun k => k < B ∨ IsT 5 w' k) w' 1 A n xs := fun h => (h.fr hF (fun k hk hs => by
    rcases hk with hk | hk
    · have := (hT k hs).1; omega
    · exact (hT k hs).2 hk)).imp (fun k hk => by
    rcases hk with hk | hk
    · exact .inl hk
    · exact .inr (hk.fr hF (fun hs => (hT k hs).2 hk)))
  refine ⟨vs ++ [.slice A2 l.length c2], by rw [List.length_append, List.length_singleton, ← hm]; exact ho, fun i l' hl => ?_⟩
  have hvl : vs.length = m := by have := hvs.1.1; omega
  rcases Nat.lt_or_ge i L.length with hi | hi
  · rw [List.getElem?_append_left hi] at hl
    obtain ⟨A3, c3, h1, h2, h3⟩ := hvs.2 i l' hl
    exact ⟨A3, c3, by rw [List.getElem?_append_left (by omega)]; exact h1, h2, hq h3⟩
  · rw [List.getElem?_append_right hi] at hl
    have hi0 : i - L.length = 0 := by
      have := (List.getElem?_eq_some_iff.1 hl).1
      simp at this
      omega
    rw [hi0] at hl
    obtain rfl : l = l' := by simpa using hl
    exact ⟨A2, c2, by rw [List.getElem?_append_right (by omega), show i - vs.length = 0 by omega]; rfl, hb, hq hR⟩
/-- Records side by side, wherever they stand. -/
theorem rows_any0 {w : World} {A A2 : Option Addr} {n n2 : Nat} (c c2 : Nat) {L M : List (List Int)} (h : Row0 w A L) (h2 : Row0 w A2 M) (hn : n = L.length) (hn2 : n2 = M.length) (hm : n ≤ 1000000000) (hm2 : n2 ≤ 1000000000) :
    Calls Tryd.prog 15 #[.slice A n c, .slice A2 n2 c2] w fun e w' => e = .returned (.bool (decide (L = M))) ∧ New w w' := by
  obtain ⟨r, hr⟩ : ∃ r, r = decide (L = M) := ⟨_, rfl⟩
  rw [← hr]
  have HR := Lib.hid hr
  have H1 := Lib.hid h
  have H2 := Lib.hid h2
  have HN := Lib.hid (And.intro hn hn2)
  clear hr h h2
  by_cases hnm : n = n2
  · subst hnm
    clear hn hn2
    go_enter Tryd.func15, Tryd.ntmps15
    go_wp2_with fail
    go_loopw [13] (fun i wr => ∃ k : Nat, k ≤ n ∧ i = .int .i64 k ∧ Hid (L.take k = M.take k) ∧ Hid (New w wr)) (fun i _ => n - (intOf i).toNat)
    case atStart => exact ⟨0, Nat.zero_le _, rfl, Lib.hid rfl, Lib.hid (New.refl _)⟩
    case round =>
      obtain ⟨k, hk, rfl, HE, HWR⟩ := hrel
      by_cases hlt : k < n
      · obtain ⟨l, hl⟩ : ∃ l, L[k]? = some l := ⟨_, List.getElem?_eq_getElem (by rw [← HN.out.1]; exact hlt)⟩
        obtain ⟨g, o, D, d, hA, hc, hb, hR⟩ := H1.out k l hl
        obtain ⟨m, hl2⟩ : ∃ m, M[k]? = some m := ⟨_, List.getElem?_eq_getElem (by rw [← HN.out.2]; exact hlt)⟩
        obtain ⟨g2, o2, D2, d2, hA2, hc2, hb2, hR2⟩ := H2.out k m hl2
        subst hA hA2
        have q1 : ∀ p : HW (New wr), p.w.cell? ⟨g, o + k, none⟩ = some (.slice D l.length d) := fun p => p.h.cell_ (HWR.out.cell_ hc)
        have q2 : ∀ p : HW (New wr), p.w.cell? ⟨g2, o2 + k, none⟩ = some (.slice D2 m.length d2) := fun p => p.h.cell_ (HWR.out.cell_ hc2)
        have HBY := Lib.hid (fun W (hN : New wr W) => bytes_any D D2 l.length m.length d d2 l m W ((HWR.out.tr hN).rd hR) ((HWR.out.tr hN).rd hR2) hb hb2)
        have HT : Hid (L.take (k + 1) = L.take k ++ [l] ∧ M.take (k + 1) = M.take k ++ [m] ∧ L[k]? = some l ∧ M[k]? = some m) := Lib.hid ⟨by rw [List.take_add_one, hl]; rfl, by rw [List.take_add_one, hl2]; rfl, hl, hl2⟩
        have hlt' : (k : Int) < (n : Int) := by omega
        have hk0 : (0 : Int) ≤ (k : Int) := by omega
        clear hl hl2 hc hc2 hb hb2 hR hR2
        by_cases he : l = m
        · have HD := Lib.hid (decide_eq_true he)
          have HEn : Hid (L.take (k + 1) = M.take (k + 1)) := Lib.hid (by rw [HT.out.1, HT.out.2.1, HE.out, he])
          clear he HE
          go_wp2_with fail
          refine wp_region_mixH (New wr) [(true, 0), (true, 1), (true, 2), (true, 3), (true, 4), (true, 5), (true, 6), (true, 7), (false, 8), (true, 9)] (by kernel_rfl) (by kernel_rfl) (New.dr (New.refl wr)) (fun hne => ?_)
          iterate 8 (refine mix_take (o := ⟨_, _, _, _, _, _⟩) rfl (fun K hK => ?_); go_simp; refine hK _ ?_; clear hK K)
          refine mix_act (o := ⟨_, _, _, _, _, _⟩) rfl (fun K hK => ?_) (.inl rfl)
          go_simp
          refine (HBY.out wr.drew (New.dr (New.refl wr))).mono ?_
          rintro e w1 ⟨rfl, hw1⟩
          rw [HD.out]
          have HN1 : Hid (New wr w1) := Lib.hid (by rw [← hw1]; exact New.dr (New.refl wr))
          clear hw1
          go_simp
          refine hK.out _ _ (fun _ => HN1.out) ?_
          clear hK K
          iterate 1 (refine mix_take (o := ⟨_, _, _, _, _, _⟩) rfl (fun K hK => ?_); go_simp; refine hK _ ?_; clear hK K)
          refine mix_done ?_
          go_wp2_with fail
          go_roundw
          case rel => exact ⟨k + 1, by omega, by go_num, HEn, Lib.hid (HWR.out.tr HN1.out)⟩
          case measure => simp [intOf]; omega
        · have HD := Lib.hid (decide_eq_false he)
          have HR0 : Hid (r = false) := Lib.hid (by
            rw [HR.out]
            refine decide_eq_false (fun e => he ?_)
            have h1 := HT.out.2.2.1
            rw [e, HT.out.2.2.2] at h1
            injection h1 with h1
            exact h1.symm)
          clear he
          go_wp2_with fail
          refine wp_region_mixH (New wr) [(true, 0), (true, 1), (true, 2), (true, 3), (true, 4), (true, 5), (true, 6), (true, 7), (false, 8), (true, 9)] (by kernel_rfl) (by kernel_rfl) (New.dr (New.refl wr)) (fun hne => ?_)
          iterate 8 (refine mix_take (o := ⟨_, _, _, _, _, _⟩) rfl (fun K hK => ?_); go_simp; refine hK _ ?_; clear hK K)
          refine mix_act (o := ⟨_, _, _, _, _, _⟩) rfl (fun K hK => ?_) (.inl rfl)
          go_simp
          refine (HBY.out wr.drew (New.dr (New.refl wr))).mono ?_
          rintro e w1 ⟨rfl, hw1⟩
          rw [HD.out]
          have HN1 : Hid (New wr w1) := Lib.hid (by rw [← hw1]; exact New.dr (New.refl wr))
          clear hw1
          go_simp
          refine hK.out _ _ (fun _ => HN1.out) ?_
          clear hK K
          iterate 1 (refine mix_take (o := ⟨_, _, _, _, _, _⟩) rfl (fun K hK => ?_); go_simp; refine hK _ ?_; clear hK K)
          refine mix_done ?_
          go_wp2_with fail
          go_ret
          rw [HR0.out]
          exact ⟨rfl, HWR.out.tr HN1.out⟩
      · have HR1 : Hid (r = true) := Lib.hid (by
          rw [HR.out]
          refine decide_eq_true ?_
          have h := HE.out
          rwa [List.take_of_length_le (by rw [← HN.out.1]; omega), List.take_of_length_le (by rw [← HN.out.2]; omega)] at h)
        go_wp2_with fail
        go_ret
        rw [HR1.out]
        exact ⟨rfl, HWR.out⟩
  · have HR0 : Hid (r = false) := Lib.hid (by rw [HR.out]; exact decide_eq_false (fun e => hnm (by rw [hn, hn2, e])))
    have hnm' : ¬ ((n : Int) = (n2 : Int)) := by omega
    clear hn hn2
    go_enter Tryd.func15, Tryd.ntmps15
    go_wp2_with fail
    go_ret
    rw [HR0.out]
    exact ⟨rfl, New.refl w⟩
end Go.Proofs.YteeclfejgpgooaaDoor
/- Arrays and structs that come by value, opened. No condition. -/
namespace Go.Proofs.YteeclfejgpgooaaDoor
set_option linter.unusedVariables false
set_option linter.unusedSimpArgs false
set_option linter.constructorNameAsVariable false
open Go.RowKit Go.WideShapes Go.ChangeShapes

section
variable {P : Program} {H : Type} {enc : TypeId × Value → H} {w : World}
theorem okWide_array {r : Reach} {b0 : Nat} {t e : TypeId} {n : Nat} {v : Value} (ht : P.underlying t = some (.array n e)) (h : Value.okWide P w r b0 t v) : ∃ cs : Array Value, v = .agg cs ∧ cs.size = P.cellsOf t := by
  unfold Value.okWide at h
  rw [ht] at h
  obtain ⟨cs, h1, h2, _⟩ := h
  exact ⟨cs, h1, h2⟩
/-- An array of one-cell elements: its cells, each as it reads. -/
theorem open_array {r : Reach} {b0 : Nat} {t e : TypeId} {n : Nat} {v : Value} {d : DataW H} {p : List MemPlace} (ht : P.underlying t = some (.array n e)) (hc : P.cellsOf t = n) (he : P.cellsOf e = 1)
    (hv : Value.okWide P w r b0 t v) (h : DataW.Trod enc P w 0 (fun _ => true) true t v d p) :
    ∃ cs : List Value, v = .agg cs.toArray ∧ cs.length = n ∧ ∀ (i : Nat) (hi : i < cs.length), ∃ m y, DataW.trod enc P w 0 (fun _ => true) true m e [cs[i]] = some y := by
  obtain ⟨a, rfl, hsz⟩ := okWide_array ht hv
  obtain ⟨fuel, hf⟩ := h
  obtain ⟨xs, m, _, _, _, hl, hg⟩ := DataW.trod_array ht hf
  refine ⟨a.toList, by simp, by simp [hsz, hc], fun i hi => ?_⟩
  have hi' : i < n := by simp at hi; omega
  have := hg i hi'
  rw [he, Nat.mul_one] at this
  have hx : i < xs.length := by omega
  rw [List.getElem?_eq_getElem hx, show (Value.agg a).cells.toList = a.toList from rfl, List.drop_eq_getElem_cons hi] at this
  exact ⟨m, _, this⟩
end
end Go.Proofs.YteeclfejgpgooaaDoor
/- The disk's acts, opened. No condition. -/
namespace Go.Proofs.YteeclfejgpgooaaDoor
set_option linter.unusedVariables false
set_option linter.unusedSimpArgs false
set_option linter.constructorNameAsVariable false
open Go.RowKit Go.WideShapes Go.ChangeShapes

/-- An act as it lies in memory. -/
structure AC where
  kind : Int
  pos : Int
  s : List Int
  A : Option Addr
  n : Nat
  c : Nat
  keep : List Bool
def AC.cells (a : AC) : List Value := [.int .i64 a.kind, .int .i64 a.pos] ++ u8s a.s ++ [.slice a.A a.n a.c]
structure AC.Good (w : World) (a : AC) : Prop where
  kind : (Lit.int .i64 a.kind).wf = true
  pos : (Lit.int .i64 a.pos).wf = true
  s : SecOk a.s
  n : a.n ≤ maxLen
  rd : Rd (fun b => b < w.heap.size) w 1 a.A a.n (bools a.keep)
theorem AC.len {a : AC} (h : SecOk a.s) : a.cells.length = 67 := by simp [AC.cells, u8s_len, h.1]
theorem AC.one (a : AC) : ∀ u ∈ a.cells, u.oneCell' = true := by
  intro u hu
  simp only [AC.cells, List.mem_append, List.mem_cons, List.not_mem_nil, or_false] at hu
  rcases hu with ((rfl | rfl) | hu) | rfl
  · rfl
  · rfl
  · exact u8s_one _ u hu
  · rfl
theorem AC.at0 (a : AC) : a.cells[0]? = some (.int .i64 a.kind) := rfl
theorem AC.at1 (a : AC) : a.cells[1]? = some (.int .i64 a.pos) := rfl
theorem AC.atS {a : AC} (j : Nat) (u : Value) (h : (u8s a.s)[j]? = some u) : a.cells[2 + j]? = some u := by
  have hj : j < (u8s a.s).length := (List.getElem?_eq_some_iff.1 h).1
  unfold AC.cells
  rw [List.append_assoc, List.getElem?_append_right (by simp), List.getElem?_append_left (by simp; omega)]
  simpa using h
theorem AC.at66 {a : AC} (h : SecOk a.s) : a.cells[66]? = some (.slice a.A a.n a.c) := by
  unfold AC.cells
  rw [List.getElem?_append_right (by simp [u8s_len, h.1])]
  simp [u8s_len, h.1]

section
variable {H : Type} {enc : TypeId × Value → H} {w : World}
set_option maxRecDepth 100000 in
theorem trod_secs {m : Nat} {cs : List Value} {y : DataW H × List MemPlace} (hl : cs.length = 64) (ht : DataW.trod enc Tryd.prog w 0 (fun _ => true) true m 35 cs = some y) : ∃ s, cs = u8s s ∧ SecOk s := by
  obtain ⟨xs, m', _, _, _, hx, hg⟩ := DataW.trod_array Tryd.underlying35 ht
  have hc : Tryd.prog.cellsOf 5 = 1 := by kernel_rfl
  have key : ∀ k, k ≤ 64 → ∃ s : List Int, cs.take k = u8s s ∧ Byt s := by
    intro k
    induction k with
    | zero => exact fun _ => ⟨[], rfl, fun x hx => by cases hx⟩
    | succ k ih =>
      intro hk
      obtain ⟨s, hs, hb⟩ := ih (by omega)
      have h1 := hg k (by omega)
      rw [hc, Nat.mul_one] at h1
      have hlt : k < cs.length := by omega
      rw [List.drop_eq_getElem_cons hlt, List.getElem?_eq_getElem (by omega)] at h1
      obtain ⟨a, e, _, g⟩ := DataW.trod_int Tryd.underlying5 h1
      rw [List.take_succ_cons, List.take_zero] at e
      injection e with e _
      have := bounds_u8 g
      refine ⟨s ++ [a], by rw [List.take_succ_eq_append_getElem hlt, hs, e]; simp [u8s], fun z hz => ?_⟩
      rcases List.mem_append.1 hz with hz | hz
      · exact hb z hz
      · simp at hz; omega
  obtain ⟨s, hs, hb⟩ := key 64 (by omega)
  rw [List.take_of_length_le (by omega)] at hs
  exact ⟨s, hs, by rw [← hl, hs, u8s_len], hb⟩
set_option maxRecDepth 100000 in
theorem trod_bools {fuel : Nat} {v : Value} {y : DataW H × List MemPlace} (h : DataW.trod enc Tryd.prog w 0 (fun _ => true) true fuel 71 [v] = some y) (hs : Sz Tryd.prog 71 y.1) :
    ∃ (A : Option Addr) (n c : Nat) (xs : List Bool), v = .slice A n c ∧ n ≤ maxLen ∧ Rd (fun b => b < w.heap.size) w 1 A n (bools xs) := by
  obtain ⟨A, n, c, L, h1, h2, h3, h4, h5, h6, h7, -⟩ := trod_slk (k := 1) Tryd.underlying71 (fun x : Bool => [Value.bool x]) (by kernel_rfl) (by omega) (fun _ => True) (fun cs m y hl ht' _ => by
    obtain ⟨a, rfl, _⟩ := DataW.trod_bool Tryd.underlying4 ht'
    exact ⟨a, rfl, trivial⟩) h hs
  refine ⟨A, n, c, L, h1, by omega, ?_⟩
  rwa [show L.flatMap (fun x => [Value.bool x]) = bools L from List.map_eq_flatMap.symm] at h6
set_option maxRecDepth 100000 in
theorem open_bools {r : Reach} {b0 : Nat} {v : Value} {d : DataW H} {p : List MemPlace} (hv : Value.okWide Tryd.prog w r b0 71 v) (h : DataW.Trod enc Tryd.prog w 0 (fun _ => true) true 71 v d p) (hz : Sz Tryd.prog 71 d) :
    ∃ (A : Option Addr) (n c : Nat) (xs : List Bool), v = .slice A n c ∧ n ≤ maxLen ∧ Rd (fun b => b < w.heap.size) w 1 A n (bools xs) := by
  obtain ⟨a0, n0, c0, rfl⟩ := okWide_slice Tryd.underlying71 hv
  obtain ⟨fuel, hf⟩ := h
  exact trod_bools hf hz
end
/-- An act of a script. -/
theorem rd_act {p : Nat → Prop} {w : World} {A : Option Addr} {n : Nat} {L : List AC} (h : Rd p w 67 A n (L.flatMap AC.cells)) (hL : L.length = n) (hg : ∀ a ∈ L, SecOk a.s) {i : Nat} (hi : i < n) :
    ∃ (g o : Nat) (hl : i < L.length), A = some ⟨g, o, none⟩ ∧ g < w.heap.size ∧ w.rangeAt g (o + i * 67) (L[i].cells) := by
  obtain ⟨g, o, hA, hp, hgs, hc⟩ := h.out (by omega) (by omega)
  have hl : i < L.length := by omega
  refine ⟨g, o, hl, hA, hgs, fun j v hv => ?_⟩
  have hj : j < 67 := by
    have := (List.getElem?_eq_some_iff.1 hv).1
    rwa [AC.len (hg _ (List.getElem_mem _))] at this
  have := fm_get AC.cells 67 L i j hl (fun x hx => AC.len (hg x hx)) hj
  rw [Nat.add_assoc]
  exact hc (i * 67 + j) v (by rw [this, hv])
end Go.Proofs.YteeclfejgpgooaaDoor
