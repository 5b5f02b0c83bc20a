/- Texts of one proof, one behind the other: LgF, LgG, LgH, RngQ. No condition but each one's own. -/
import Derived.Test.YteeclfejgpgooaaDoorLogPlaysM14
import Derived.Test.YteeclfejgpgooaaDoorLogPlaysM6
import Derived.Test.YteeclfejgpgooaaDoorLogPlaysM4
/- A log made afresh, and opened. sha's tables are as they were laid. No condition else. -/
namespace Go.Proofs.YteeclfejgpgooaaDoor
set_option linter.unusedVariables false
set_option linter.unusedSimpArgs false
set_option linter.constructorNameAsVariable false
open Go.RowKit Go.Sort

/-- May a log lie there? -/
def GoodAt (first size gen : Int) (n : Nat) : Prop := 0 ≤ first ∧ 1 ≤ size ∧ first < n ∧ size ≤ n - first ∧ gen ≠ 0
def lg0 (first size gen : Nat) : LG := ⟨first, size, gen, 0, List.replicate 16 0, false⟩
theorem lg0_ok {first size gen n : Nat} (h : first + size ≤ n) (hg : gen < 4294967296) : (lg0 first size gen).Ok n := ⟨h, hg, Nat.zero_le _, rfl, fun x hx => by have := List.eq_of_mem_replicate hx; omega⟩
set_option maxRecDepth 100000 in
set_option maxHeartbeats 2000000 in
theorem at_bad {w : World} {gd base bs bf : Nat} {v : Value} {p : DP} (hD : Dk w base gd bs bf v p) (a b c : Int) (wa : (Lit.int .i64 a).wf = true) (wb : (Lit.int .i64 b).wf = true) (hc : 0 ≤ c) (h : ¬ GoodAt a b c p.size) :
    Calls Tryd.prog 39 #[.pointer (some ⟨gd, 0, none⟩), .int .i64 a, .int .i64 b, .int .u32 c] w fun e w' => e = .returned (.tuple #[.pointer none, .iface 63 (.int .i64 1)]) ∧ w = w' := by
  have HD := Lib.hid hD
  have hsz := hD.ok.s2
  have ba := bounds_i64 wa
  have bb := bounds_i64 wb
  unfold GoodAt at h
  clear hD wa wb
  obtain ⟨n, hn⟩ : ∃ n, n = p.size := ⟨_, rfl⟩
  have HL : Hid (∀ W, Dk W base gd bs bf v p → Calls Tryd.prog 54 #[.pointer (some ⟨gd, 0, none⟩)] W fun e w' => e = .returned (.int .i64 n) ∧ W = w') := Lib.hid fun W h => by rw [hn]; exact len_in h
  rw [← hn] at h hsz
  clear hn
  by_cases h1 : a < 0
  · clear h
    go_enter Tryd.func39, Tryd.ntmps39
    go_wp2_with fail
    go_ret2
    exact ⟨rfl, rfl⟩
  · by_cases h2 : b < 1
    · clear h
      have h1' : 0 ≤ a := by omega
      go_enter Tryd.func39, Tryd.ntmps39
      go_wp2_with fail
      go_ret2
      exact ⟨rfl, rfl⟩
    · by_cases h3 : (n : Int) ≤ a
      · clear h
        have h1' : 0 ≤ a := by omega
        have h2' : 1 ≤ b := by omega
        go_enter Tryd.func39, Tryd.ntmps39
        go_wp2_with (go_at_call 54; refine (HL.out _ HD.out).mono ?_; rintro e w' ⟨rfl, rfl⟩)
        go_ret2
        exact ⟨rfl, rfl⟩
      · have h1' : 0 ≤ a := by omega
        have h2' : 1 ≤ b := by omega
        have h3' : a < (n : Int) := by omega
        obtain ⟨m, hm⟩ : ∃ m, m = (n : Int) - a := ⟨_, rfl⟩
        have HM := Lib.hid hm
        have hm0 : 0 ≤ m ∧ m ≤ 16384 := by omega
        by_cases h4 : m < b
        · clear h
          have h5 : (n : Int) - a = m := hm.symm
          clear hm
          go_enter Tryd.func39, Tryd.ntmps39
          go_wp2_with (go_at_call 54; refine (HL.out _ HD.out).mono ?_; rintro e w' ⟨rfl, rfl⟩)
          go_ret2
          exact ⟨rfl, rfl⟩
        · have hc0 : c = 0 := by omega
          subst hc0
          clear h
          have h5 : (n : Int) - a = m := hm.symm
          have h6 : b ≤ m := by omega
          clear hm
          go_enter Tryd.func39, Tryd.ntmps39
          go_wp2_with (go_at_call 54; refine (HL.out _ HD.out).mono ?_; rintro e w' ⟨rfl, rfl⟩)
          go_ret2
          exact ⟨rfl, rfl⟩
set_option maxRecDepth 100000 in
set_option maxHeartbeats 2000000 in
theorem at_good {w : World} {gd base bs bf : Nat} {v : Value} {p : DP} (hD : Dk w base gd bs bf v p) (a b c : Nat) (hb : 1 ≤ b) (hab : a + b ≤ p.size) (hc : c < 4294967296) (hc0 : c ≠ 0) :
    Calls Tryd.prog 39 #[.pointer (some ⟨gd, 0, none⟩), .int .i64 a, .int .i64 b, .int .u32 c] w fun e w' => e = .returned (.tuple #[.pointer (some ⟨w.heap.size, 0, none⟩), .nilIface]) ∧ Lg w' w.heap.size gd (lg0 a b c) p.size ∧ New w w' := by
  have HD := Lib.hid hD
  have hsz := hD.ok.s2
  obtain ⟨n, hn⟩ : ∃ n, n = p.size := ⟨_, rfl⟩
  have HL : Hid (∀ W, Dk W base gd bs bf v p → Calls Tryd.prog 54 #[.pointer (some ⟨gd, 0, none⟩)] W fun e w' => e = .returned (.int .i64 n) ∧ W = w') := Lib.hid fun W h => by rw [hn]; exact len_in h
  have HOK : Hid ((lg0 a b c).Ok p.size) := Lib.hid (lg0_ok hab hc)
  rw [← hn] at hab hsz
  obtain ⟨m, hm⟩ : ∃ m, m = n - a := ⟨_, rfl⟩
  have h5 : (n : Int) - (a : Int) = (m : Int) := by omega
  have h6 : (b : Int) ≤ (m : Int) := by omega
  have h3' : (a : Int) < (n : Int) := by omega
  have h2' : 1 ≤ (b : Int) := by omega
  have h1' : 0 ≤ (a : Int) := by omega
  have hcz : ((c : Int) == 0) = false := by simp; omega
  have hcy : ¬ (c : Int) = 0 := by omega
  clear hn hD hab hm hc hc0
  go_enter Tryd.func39, Tryd.ntmps39
  go_wp2_with (go_at_call 54; refine (HL.out _ HD.out).mono ?_; rintro e w' ⟨rfl, rfl⟩)
  go_ret2
  refine ⟨rfl, ⟨?_, HOK.out⟩, New.al (New.refl w) _⟩
  exact Blk.new _ _ _
set_option maxRecDepth 100000 in
set_option maxHeartbeats 2000000 in
theorem fresh_bad {w : World} {gd base bs bf : Nat} {v : Value} {p : DP} (hD : Dk w base gd bs bf v p) (a b c : Int) (wa : (Lit.int .i64 a).wf = true) (wb : (Lit.int .i64 b).wf = true) (hc : 0 ≤ c) (h : ¬ GoodAt a b c p.size) :
    Calls Tryd.prog 21 #[.pointer (some ⟨gd, 0, none⟩), .int .i64 a, .int .i64 b, .int .u32 c] w fun e w' => e = .returned (.tuple #[.pointer none, .iface 63 (.int .i64 1)]) ∧ w = w' := by
  have HA := Lib.hid (at_bad hD a b c wa wb hc h)
  clear hD wa wb hc h
  go_enter Tryd.func21, Tryd.ntmps21
  go_wp2_with (go_at_call 39; refine HA.out.mono ?_; rintro e w' ⟨rfl, rfl⟩)
  go_ret2
  exact ⟨rfl, rfl⟩
set_option maxRecDepth 100000 in
set_option maxHeartbeats 2000000 in
theorem open_bad {w : World} {gd base bs bf : Nat} {v : Value} {p : DP} (hD : Dk w base gd bs bf v p) (a b c : Int) (wa : (Lit.int .i64 a).wf = true) (wb : (Lit.int .i64 b).wf = true) (hc : 0 ≤ c) (h : ¬ GoodAt a b c p.size) :
    Calls Tryd.prog 12 #[.pointer (some ⟨gd, 0, none⟩), .int .i64 a, .int .i64 b, .int .u32 c] w fun e w' => e = .returned (.tuple #[.pointer none, .slice none 0 0, .iface 63 (.int .i64 1)]) ∧ w = w' := by
  have HA := Lib.hid (at_bad hD a b c wa wb hc h)
  clear hD wa wb hc h
  go_enter Tryd.func12, Tryd.ntmps12
  go_wp2_with (go_at_call 39; refine HA.out.mono ?_; rintro e w' ⟨rfl, rfl⟩)
  exact bodyPost_ret (v := .tuple #[.pointer none, .slice none 0 0, .iface 63 (.int .i64 1)]) (by simp [results, Tryd.results12, go_sem]) rfl ⟨rfl, rfl⟩
end Go.Proofs.YteeclfejgpgooaaDoor
/- A log made afresh, and opened, where it may lie. sha's tables are as they were laid. No condition else. -/
namespace Go.Proofs.YteeclfejgpgooaaDoor
set_option linter.unusedVariables false
set_option linter.unusedSimpArgs false
set_option linter.constructorNameAsVariable false
open Go.RowKit Go.Sort

theorem elBs : ElemOf Tryd.prog 40 43 1 24 := ElemOf.mk' (z := .slice none 0 0) Tryd.underlying40 (by kernel_rfl) rfl (by decide)
/-- Texts in memory, one by one, all of them new since block B. -/
structure Recs (B : Nat) (w : World) (v : Value) (L : List (List Int)) : Prop where
  row : ∃ vs : List Value, w.ownsRow B 43 1 v L.length vs ∧ ∀ (i : Nat) l, L[i]? = some l → ∃ A c, vs[i]? = some (.slice A l.length c) ∧ l.length ≤ c ∧ c ≤ maxLen ∧ Byt l ∧ Rd (RB B w) w 1 A l.length (u8s l)
theorem Rd.frT {S : Nat → Prop} {B : Nat} {w w' : World} {A : Option Addr} {n : Nat} {xs : List Value} (h : Rd (RB B w) w 1 A n xs) (hF : Fr S w w') (hS : ∀ k, S k → B ≤ k → ¬ IsT 5 w k) : Rd (RB B w') w' 1 A n xs :=
  (h.fr hF (fun k hk hs => hS k hs hk.1 hk.2)).imp (fun k hk => ⟨hk.1, hk.2.fr hF (fun hs => hS k hs hk.1 hk.2)⟩)
theorem Recs.fr {S : Nat → Prop} {B : Nat} {w w' : World} {v : Value} {L : List (List Int)} (h : Recs B w v L) (hF : Fr S w w') (hS : ∀ k, S k → B ≤ k → ¬ IsT 5 w k ∧ ¬ IsT 43 w k) : Recs B w' v L := by
  obtain ⟨vs, ho, he⟩ := h.row
  refine ⟨vs, own_fr ho hF (fun k hk hs => (hS k hs (own_lt ho k hk).1).2 (own_isT' ho hk)), fun i l hl => ?_⟩
  obtain ⟨A, c, h1, h2, h3, h4, h5⟩ := he i l hl
  exact ⟨A, c, h1, h2, h3, h4, h5.frT hF (fun k hk hb => (hS k hk hb).1)⟩
theorem Recs.new {B : Nat} {w w' : World} {v : Value} {L : List (List Int)} (h : Recs B w v L) (hN : New w w') : Recs B w' v L := h.fr (S := NoB) (hN.toFr _) (fun _ x => x.elim)
theorem Recs.base {B B' : Nat} {w : World} {v : Value} {L : List (List Int)} (h : Recs B w v L) (hb : B' ≤ B) : Recs B' w v L := by
  obtain ⟨vs, ho, he⟩ := h.row
  refine ⟨vs, own_base ho (fun k hk => Nat.le_trans hb (own_lt ho k hk).1), fun i l hl => ?_⟩
  obtain ⟨A, c, h1, h2, h3, h4, h5⟩ := he i l hl
  exact ⟨A, c, h1, h2, h3, h4, h5.imp (fun k hk => ⟨Nat.le_trans hb hk.1, hk.2⟩)⟩
theorem Recs.nil (B : Nat) (w : World) : Recs B w (.slice none 0 0) [] := ⟨[], ⟨rfl, .inl ⟨rfl, rfl⟩⟩, fun i l hl => by simp at hl⟩
theorem Recs.shape {B : Nat} {w : World} {v : Value} {L : List (List Int)} (h : Recs B w v L) : ∃ A c, v = .slice A L.length c ∧ c ≤ maxLen ∧ L.length ≤ c := by
  obtain ⟨vs, ho, -⟩ := h.row
  obtain ⟨A, c, h1, h2, h3, -⟩ := own_shape ho
  exact ⟨A, c, h1, h3, h2⟩
theorem Recs.push {B : Nat} {w w' : World} {A A' A2 : Option Addr} {m c c' c2 : Nat} {L : List (List Int)} {l : List Int} {vs : List Value} (hvs : w.ownsRow B 43 1 (.slice A m c) m vs ∧ ∀ (i : Nat) l, L[i]? = some l → ∃ A c, vs[i]? = some (.slice A l.length c) ∧ l.length ≤ c ∧ c ≤ maxLen ∧ Byt l ∧ Rd (RB B w) w 1 A l.length (u8s l)) (hm : m = L.length)
    (ho : w'.ownsRow B 43 1 (.slice A' (m + 1) c') (m + 1) (vs ++ [.slice A2 l.length c2])) (hF : Fr (fun k => (Value.slice A m c).ownBlock = some k) w w') (hc : l.length ≤ c2 ∧ c2 ≤ maxLen) (hb : Byt l) (hR : Rd (RB B w) w 1 A2 l.length (u8s l)) : Recs B w' (.slice A' (m + 1) c') (L ++ [l]) := by
  have hT : ∀ k, (Value.slice A m c).ownBlock = some k → B ≤ k → ¬ IsT 5 w k := fun k hk _ => IsT.not_own hvs.1 (by decide) hk
  refine ⟨vs ++ [.slice A2 l.length c2], by rw [List.length_append, List.length_singleton, ← hm]; exact ho, fun i l' hl => ?_⟩
  have hvl : vs.length = m := by have := hvs.1.1; omega
  rcases Nat.lt_or_ge i L.length with hi | hi
  · rw [List.getElem?_append_left hi] at hl
    obtain ⟨A3, c3, h1, h2, h3, h4, h5⟩ := hvs.2 i l' hl
    exact ⟨A3, c3, by rw [List.getElem?_append_left (by omega)]; exact h1, h2, h3, h4, h5.frT hF hT⟩
  · rw [List.getElem?_append_right hi] at hl
    have hi0 : i - L.length = 0 := by
      have := (List.getElem?_eq_some_iff.1 hl).1
      simp at this
      omega
    rw [hi0] at hl
    obtain rfl : l = l' := by simpa using hl
    exact ⟨A2, c2, by rw [List.getElem?_append_right (by omega), show i - vs.length = 0 by omega]; rfl, hc.1, hc.2, hb, hR.frT hF hT⟩
theorem dk_notT {w : World} {base g bs bf : Nat} {v : Value} {p : DP} {t : Nat} (h : Dk w base g bs bf v p) (h1 : 88 ≠ t) (h2 : 3 ≠ t) : ∀ k, DkOurs g bs bf v k → ¬ IsT t w k := by
  rintro k (rfl | rfl | rfl | hk)
  · exact IsT.not_blk h.blk h1
  · exact IsT.not_map h.ms
  · exact IsT.not_map h.mw
  · exact IsT.not_own h.own h2 hk
theorem nextL_eq {p : DP} {l : LG} {b : List Int} (h : nextL p l = some b) : l.Next p ∧ b = l.body p := by
  unfold nextL at h
  split at h
  · next hx => injection h with h; exact ⟨hx, h.symm⟩
  · cases h
theorem step_used {p : DP} (hp : p.Ok) {l : LG} {b : List Int} (h : nextL p l = some b) : l.used + 1 ≤ (l.step b).used := by
  obtain ⟨hx, rfl⟩ := nextL_eq h
  have := hx.pos
  show l.used + 1 ≤ l.used + secN (l.body p).length
  rw [LG.body_len hp hx.pos]
  omega
def FreshSays (w : World) (gd base bs bf : Nat) (v : Value) (l : LG) (r : DP × Int) (n : Nat) (e : Ending) (w' : World) : Prop :=
  if r.2 = 0 then ∃ gl v', e = .returned (.tuple #[.pointer (some ⟨gl, 0, none⟩), .nilIface]) ∧ w.heap.size ≤ gl ∧ Lg w' gl gd l n ∧ DkTo w base gd bs bf v r.1 w' v'
  else ∃ v', e = .returned (.tuple #[.pointer none, errD r.2]) ∧ DkTo w base gd bs bf v r.1 w' v'
theorem wipeL_size (p : DP) (l : LG) : (wipeL p l).1.size = p.size := by
  unfold wipeL
  dsimp only
  split
  · exact wipeN_size _ _ _
  · split
    · exact (DP.doSync_size _).trans (wipeN_size _ _ _)
    · exact wipeN_size _ _ _
set_option maxRecDepth 100000 in
set_option maxHeartbeats 2000000 in
theorem fresh_good {w : World} {gd base bs bf : Nat} {v : Value} {p : DP} (hD : Dk w base gd bs bf v p) (a b c : Nat) (hb : 1 ≤ b) (hab : a + b ≤ p.size) (hc : c < 4294967296) (hc0 : c ≠ 0) :
    Calls Tryd.prog 21 #[.pointer (some ⟨gd, 0, none⟩), .int .i64 a, .int .i64 b, .int .u32 c] w (FreshSays w gd base bs bf v (lg0 a b c) (wipeL p (lg0 a b c)) p.size) := by
  have HA := Lib.hid (at_good hD a b c hb hab hc hc0)
  have HD := Lib.hid hD
  obtain ⟨r, hr⟩ : ∃ r, r = wipeL p (lg0 a b c) := ⟨_, rfl⟩
  rw [← hr]
  have HR := Lib.hid hr
  clear hD hb hab hc hc0 hr
  go_enter Tryd.func21, Tryd.ntmps21
  go_wp2_with fail
  refine HA.out.mono ?_
  rintro e w1 ⟨rfl, hLg, hN1⟩
  obtain ⟨gl, hgl⟩ : ∃ gl, gl = w.heap.size := ⟨_, rfl⟩
  rw [← hgl] at hLg ⊢
  have HGL : Hid (w.heap.size ≤ gl) := Lib.hid (by omega)
  have HLG := Lib.hid hLg
  have HN1 := Lib.hid hN1
  clear hgl hLg hN1
  go_wp2_with fail
  refine (wipe_any HLG.out (HD.out.new HN1.out)).mono ?_
  rintro e w2 ⟨he, v2, hD2⟩
  rw [← HR.out] at he hD2
  subst he
  have HD2 : Hid (DkTo w base gd bs bf v r.1 w2 v2) := Lib.hid ((DkTo.same HD.out HN1.out).tr hD2)
  have HLG2 : Hid (Lg w2 gl gd (lg0 a b c) p.size) := Lib.hid (HLG.out.fr hD2.fr (lg_apart (HD.out.new HN1.out) HLG.out))
  clear hD2
  by_cases h0 : r.2 = 0
  · have H0 := Lib.hid h0
    rw [h0, errD_0]
    clear h0
    go_wp2_with fail
    go_ret2
    unfold FreshSays
    rw [if_pos H0.out]
    exact ⟨gl, v2, rfl, HGL.out, HLG2.out, HD2.out⟩
  · have H0 := Lib.hid h0
    obtain ⟨ev, hev⟩ : ∃ ev, ev = r.2 := ⟨_, rfl⟩
    have HEV := Lib.hid hev
    rw [errD_n h0, ← hev]
    clear h0 hev
    go_wp2_with fail
    go_ret2
    unfold FreshSays
    rw [if_neg H0.out, errD_n H0.out, ← HEV.out]
    exact ⟨v2, rfl, HD2.out⟩
theorem runs_used {p : DP} (hp : p.Ok) {l : LG} {k : Nat} (h : (runs p l k).2.length = k ∧ k ≤ (runs p l k).1.used) {b : List Int} (hn : nextL p (runs p l k).1 = some b) : (runs p l (k + 1)).2.length = k + 1 ∧ k + 1 ≤ (runs p l (k + 1)).1.used := by
  rw [runs_some hn]
  have := step_used hp hn
  exact ⟨by simp [h.1], by dsimp only; omega⟩
theorem runL_at {p : DP} {l : LG} {k : Nat} (hk : k ≤ l.size + 1) (h : nextL p (runs p l k).1 = none) : runL p l = runs p l k := by
  obtain ⟨j, hj⟩ : ∃ j, l.size + 1 = k + j := ⟨l.size + 1 - k, by omega⟩
  unfold runL
  rw [hj, runs_none h j]
/-- What is known at the head of a round: the records that are known, the one that was read last. -/
structure OpI (w : World) (gl gd : Nat) (p : DP) (l : LG) (k : Nat) (out b : Value) (ok : Bool) (wr : World) : Prop where
  new : New w wr
  recs : Recs w.heap.size wr out (runs p l k).2
  len : (runs p l k).2.length = k ∧ k ≤ (runs p l k).1.used
  yes : ok = true → ∃ bd A c, nextL p (runs p l k).1 = some bd ∧ b = .slice A bd.length c ∧ bd.length ≤ c ∧ c ≤ maxLen ∧ Byt bd ∧ Rd (RB w.heap.size wr) wr 1 A bd.length (u8s bd) ∧ Lg wr gl gd (runs p l (k + 1)).1 p.size
  no : ok = false → nextL p (runs p l k).1 = none ∧ Lg wr gl gd (runs p l k).1 p.size
/-- What next leaves, as the next head's facts. -/
theorem opI_of {w wr w' : World} {gl gd : Nat} {p : DP} {l : LG} {k : Nat} {out : Value} {e : Ending} (hgl : w.heap.size ≤ gl) (hN : New w wr) (hLg : Lg wr gl gd (runs p l k).1 p.size) (hR : Recs w.heap.size wr out (runs p l k).2) (hl : (runs p l k).2.length = k ∧ k ≤ (runs p l k).1.used)
    (h : NextSays (runs p l k).1 (nextL p (runs p l k).1) wr gl gd p.size e w') : ∃ A n c ok, e = .returned (.tuple #[.slice A n c, .bool ok]) ∧ OpI w gl gd p l k out (.slice A n c) ok w' := by
  cases hn : nextL p (runs p l k).1 with
  | none =>
    rw [hn] at h
    obtain ⟨he, hN'⟩ := h
    exact ⟨none, 0, 0, false, he, hN.tr hN', hR.new hN', hl, fun h => by (cases h), fun _ => ⟨hn, hLg.new hN'⟩⟩
  | some bd =>
    rw [hn] at h
    obtain ⟨A, c, he, h1, h2, h3, h4, h5, h6⟩ := h
    refine ⟨A, bd.length, c, true, he, hN.fr h6 (fun j hj => by (have hj' : j = gl := hj; omega)), hR.fr h6 (fun j hj _ => ?_), hl, fun _ => ⟨bd, A, c, hn, rfl, h1, h2, h3, h4.imp (fun j hj => ⟨Nat.le_trans hN.size hj.1, hj.2⟩), by rw [runs_some hn]; exact h5⟩, fun h => by (cases h)⟩
    have hj' : j = gl := hj
    rw [hj']
    exact ⟨IsT.not_blk hLg.blk (by decide), IsT.not_blk hLg.blk (by decide)⟩
/-- Open's answer. -/
def OpenSays (w : World) (gd base bs bf : Nat) (v : Value) (r : LG × List (List Int)) (x : DP × Int) (n : Nat) (e : Ending) (w' : World) : Prop :=
  if x.2 = 0 then ∃ gl A c v', e = .returned (.tuple #[.pointer (some ⟨gl, 0, none⟩), .slice A r.2.length c, .nilIface]) ∧ w.heap.size ≤ gl ∧ Lg w' gl gd r.1 n ∧ Recs w.heap.size w' (.slice A r.2.length c) r.2 ∧ DkTo w base gd bs bf v x.1 w' v'
  else ∃ v', e = .returned (.tuple #[.pointer none, .slice none 0 0, errD x.2]) ∧ DkTo w base gd bs bf v x.1 w' v'
set_option maxRecDepth 100000 in
set_option maxHeartbeats 4000000 in
theorem open_good {w : World} {gd base bs bf : Nat} {v : Value} {p : DP} (hD : Dk w base gd bs bf v p) (hL : ShaIn 3 2 w) (a b c : Nat) (hb : 1 ≤ b) (hab : a + b ≤ p.size) (hc : c < 4294967296) (hc0 : c ≠ 0) :
    Calls Tryd.prog 12 #[.pointer (some ⟨gd, 0, none⟩), .int .i64 a, .int .i64 b, .int .u32 c] w (OpenSays w gd base bs bf v (runL p (lg0 a b c)) (wipeL p (runL p (lg0 a b c)).1) p.size) := by
  have HA := Lib.hid (at_good hD a b c hb hab hc hc0)
  have HD := Lib.hid hD
  have HL := Lib.hid hL
  have HOK : Hid (p.Ok ∧ (lg0 a b c).Ok p.size) := Lib.hid ⟨hD.ok, lg0_ok hab hc⟩
  have hsz16 : b ≤ 16384 := by have := hD.ok.s2; omega
  obtain ⟨l, hl⟩ : ∃ l, l = lg0 a b c := ⟨_, rfl⟩
  have HLZ : Hid (l.size = b) := Lib.hid (by rw [hl]; rfl)
  rw [← hl] at HA HOK ⊢
  obtain ⟨r, hr⟩ : ∃ r, r = runL p l := ⟨_, rfl⟩
  obtain ⟨x, hx⟩ : ∃ x, x = wipeL p r.1 := ⟨_, rfl⟩
  rw [← hr, ← hx]
  have HR := Lib.hid hr
  have HX := Lib.hid hx
  clear hD hb hab hc hc0 hr hx hl hL
  go_enter Tryd.func12, Tryd.ntmps12
  go_wp2_with fail
  refine HA.out.mono ?_
  rintro e w1 ⟨rfl, hLg, hN1⟩
  obtain ⟨gl, hgl⟩ : ∃ gl, gl = w.heap.size := ⟨_, rfl⟩
  rw [← hgl] at hLg ⊢
  have HGL : Hid (w.heap.size ≤ gl) := Lib.hid (by omega)
  have HLG := Lib.hid hLg
  have HN1 := Lib.hid hN1
  clear hgl hLg hN1
  go_wp2_with fail
  refine (next_any (l := (runs p l 0).1) HLG.out (HD.out.new HN1.out) (HL.out.new HN1.out)).mono ?_
  intro e w2 h2
  obtain ⟨A2, n2, c2, ok2, rfl, hI⟩ := opI_of (out := .slice none 0 0) (k := 0) (l := l) HGL.out HN1.out HLG.out (Recs.nil _ _) ⟨rfl, Nat.zero_le _⟩ h2
  have HI := Lib.hid hI
  clear hI h2
  go_wp2_with fail
  go_loopw [13, 14, 15] (fun out b ok wr => ∃ (k : Nat) (A : Option Addr) (d : Nat) (B : Option Addr) (n e : Nat) (o : Bool), k ≤ 16384 ∧ out = .slice A k d ∧ b = .slice B n e ∧ ok = .bool o ∧ Hid (OpI w gl gd p l k (.slice A k d) (.slice B n e) o wr)) (fun out _ _ _ => 16400 - (match out with | .slice _ n _ => n | _ => 0))
  case atStart => exact ⟨0, none, 0, A2, n2, c2, ok2, Nat.zero_le _, rfl, rfl, rfl, HI⟩
  case round =>
    clear HI
    obtain ⟨k, A, d, B, n, e, o, hk, rfl, rfl, rfl, HI⟩ := hrel
    cases o with
    | true =>
      obtain ⟨bd, B', e', hn, hbv, h1, h2, h3, h4, h5⟩ := HI.out.yes rfl
      injection hbv with hb1 hb2 hb3
      subst hb1 hb3
      obtain ⟨vs, hvs1, hvs2⟩ := HI.out.recs.row
      have hkl : (runs p l k).2.length = k := HI.out.len.1
      rw [hkl] at hvs1
      have HVS := Lib.hid (And.intro hvs1 hvs2)
      have HKL := Lib.hid hkl
      have HNX := Lib.hid hn
      have HLEN := Lib.hid (runs_used HOK.out.1 HI.out.len hn)
      have hks : k + 1 ≤ 16384 := by
        have h6 := (runs_ok HOK.out.1 HOK.out.2 (k + 1)).1.used
        have h7 := (runs_ok HOK.out.1 HOK.out.2 (k + 1)).2.1
        have := HLEN.out.2
        have := HLZ.out
        omega
      have H12 := Lib.hid (And.intro h1 h2)
      have H3 := Lib.hid h3
      have H4 := Lib.hid h4
      have H5 := Lib.hid h5
      have HNB := Lib.hid hb2
      clear hvs1 hvs2 hkl hn h1 h2 h3 h4 h5 hb2
      go_wp2_with ((with_reducible refine atOp ⟨some 42, _, _, _, _, _⟩ ?_); refine wpList_app elBs _ rfl (.tmp 39) (.tmp 41) rfl w.heap.size (.slice A k d) k vs rfl (New.own (New.al (New.refl wr) _) HVS.out.1) (some ⟨wr.heap.size, 0, none⟩) 1 1 [.slice B n e] rfl (Rd.ofBlk (p := fun _ => True) (Blk.new wr 43 #[.slice B n e]) 1 1 rfl trivial) (by simp [Value.oneCell']) (by unfold maxLen; omega) (by omega) (New.al HI.out.new _).size ?_; intro A5 d5 w5 hO5 hF5 hA5; have HF5 := Lib.hid hF5; have HO5 := Lib.hid hO5; clear hO5 hF5 hA5)
      have HN5 : Hid (New w w5) := Lib.hid ((New.al HI.out.new _).fr HF5.out (fun j hj => (own_lt HVS.out.1 j hj).1))
      have HLG5 : Hid (Lg w5 gl gd (runs p l (k + 1)).1 p.size) := Lib.hid ((H5.out.new (New.al (New.refl wr) _)).fr HF5.out (fun hs => own_ne HVS.out.1 H5.out.blk (by decide) hs))
      have HRC5 : Hid (Recs w.heap.size w5 (.slice A5 (k + 1) d5) (runs p l (k + 1)).2) := Lib.hid (by
        rw [runs_some HNX.out]
        have hN : New wr (wr.alloc (.cells #[.slice B n e] 43)) := New.al (New.refl wr) _
        exact Recs.push (w := wr.alloc (.cells #[.slice B n e] 43)) ⟨New.own hN HVS.out.1, fun i l hl => by
          obtain ⟨A3, c3, g1, g2, g3, g4, g5⟩ := HVS.out.2 i l hl
          exact ⟨A3, c3, g1, g2, g3, g4, g5.frT (S := NoB) (hN.toFr _) (fun _ x => x.elim)⟩⟩ HKL.out.symm (by rw [← HNB.out]; exact HO5.out) HF5.out H12.out H3.out (H4.out.frT (S := NoB) (hN.toFr _) (fun _ x => x.elim)))
      refine (next_any (l := (runs p l (k + 1)).1) HLG5.out (HD.out.new HN5.out) (HL.out.new HN5.out)).mono ?_
      intro ee w6 h6
      obtain ⟨A6, n6, c6, ok6, rfl, hI6⟩ := opI_of (out := .slice A5 (k + 1) d5) HGL.out HN5.out HLG5.out HRC5.out HLEN.out h6
      have HI6 := Lib.hid hI6
      clear hI6 h6
      go_wp2_with fail
      go_roundw
      case rel => exact ⟨k + 1, A5, d5, A6, n6, c6, ok6, hks, rfl, rfl, rfl, HI6⟩
      case measure => simp; omega
    | false =>
      have hnn := HI.out.no rfl
      have hkl : (runs p l k).2.length = k := HI.out.len.1
      have hks : k ≤ l.size := by
        have h6 := (runs_ok HOK.out.1 HOK.out.2 k).1.used
        have h7 := (runs_ok HOK.out.1 HOK.out.2 k).2.1
        have := HI.out.len.2
        omega
      have HRK : Hid (r = runs p l k) := Lib.hid (by rw [HR.out]; exact runL_at (by omega) hnn.1)
      have HKL : Hid (r.2.length = k) := Lib.hid (by rw [HRK.out]; exact hkl)
      have HLGr : Hid (Lg wr gl gd r.1 p.size) := Lib.hid (by rw [HRK.out]; exact hnn.2)
      clear hnn hkl hks
      go_wp2_with fail
      refine (wipe_any HLGr.out (HD.out.new HI.out.new)).mono ?_
      rintro ee w2 ⟨he, v2, hD2⟩
      rw [← HX.out] at he hD2
      subst he
      have HD2 : Hid (DkTo w base gd bs bf v x.1 w2 v2) := Lib.hid ((DkTo.same HD.out HI.out.new).tr hD2)
      have HLG2 : Hid (Lg w2 gl gd r.1 p.size) := Lib.hid (HLGr.out.fr hD2.fr (lg_apart (HD.out.new HI.out.new) HLGr.out))
      have HRC2 : Hid (Recs w.heap.size w2 (.slice A k d) r.2) := Lib.hid (by
        rw [HRK.out]
        exact HI.out.recs.fr hD2.fr (fun j hj _ => ⟨dk_notT (HD.out.new HI.out.new) (by decide) (by decide) j hj, dk_notT (HD.out.new HI.out.new) (by decide) (by decide) j hj⟩))
      clear hD2
      by_cases h0 : x.2 = 0
      · have H0 := Lib.hid h0
        rw [h0, errD_0]
        clear h0
        go_wp2_with fail
        refine bodyPost_ret (v := .tuple #[.pointer (some ⟨gl, 0, none⟩), .slice A k d, .nilIface]) (by simp [results, Tryd.results12, go_sem]) rfl ?_
        unfold OpenSays
        rw [if_pos H0.out, HKL.out]
        exact ⟨gl, A, d, v2, rfl, HGL.out, HLG2.out, HRC2.out, HD2.out⟩
      · have H0 := Lib.hid h0
        obtain ⟨ev, hev⟩ : ∃ ev, ev = x.2 := ⟨_, rfl⟩
        have HEV := Lib.hid hev
        rw [errD_n h0, ← hev]
        clear h0 hev
        go_wp2_with fail
        refine bodyPost_ret (v := .tuple #[.pointer none, .slice none 0 0, .iface 63 (.int .i64 ev)]) (by simp [results, Tryd.results12, go_sem]) rfl ?_
        unfold OpenSays
        rw [if_neg H0.out, errD_n H0.out, ← HEV.out]
        exact ⟨v2, rfl, HD2.out⟩
end Go.Proofs.YteeclfejgpgooaaDoor
/- A frame's part as a sector. No condition but the part's length. -/
namespace Go.Proofs.YteeclfejgpgooaaDoor
set_option linter.unusedVariables false
set_option linter.unusedSimpArgs false
set_option linter.constructorNameAsVariable false
open Go.RowKit Go.Sort

theorem splice_pad {x : List Int} (h : x.length ≤ 64) : splice (u8s sec0) 0 (u8s x) = u8s (pad64 x) := by
  have e : u8s sec0 = List.replicate 64 (Value.int .u8 0) := by unfold u8s sec0; rw [List.map_replicate]
  have e2 : u8s (pad64 x) = u8s x ++ List.replicate (64 - x.length) (Value.int .u8 0) := by unfold u8s pad64; rw [List.map_append, List.map_replicate]
  unfold splice
  rw [e, e2, List.take_zero, List.nil_append, Nat.zero_add, u8s_len, List.drop_replicate]
theorem results_row2' {fn : Func} {p q : Tmp} {ty : TypeId} {P : Program} (h : fn.results = #[.cell p ty, .tmp q]) (tmps : Array Value) (w : World) (g : Nat) (cs : Array Value) (d : TypeDesc)
    (hp : tmps.getD p undef = .pointer (some ⟨g, 0, none⟩)) (hg : Blk w g ty cs) (hu : P.underlying ty = some d) (hd : d.isRow = true) (hi : (P.info? ty).map (·.size) = some cs.size) :
    (results fn tmps).run P w = .ok (.tuple #[.agg cs, tmps.getD q undef]) w := by
  have hp' : tmps[p]?.getD undef = .pointer (some ⟨g, 0, none⟩) := by simpa using hp
  simp [results, h, hp', asAddr, run_loadVar_row w g ty ty cs (0, 0) _ hg hu (by cases d <;> first | rfl | (simp [TypeDesc.isRow] at hd)) hi]
set_option maxHeartbeats 2000000 in
set_option maxRecDepth 100000 in
theorem sector_any {q : Nat → Prop} {w : World} {gl gd n : Nat} {l : LG} (h : Lg w gl gd l n) (place kind : Nat) (hp : place < 4294967296) (hk : kind < 256) (A : Option Addr) (m c : Nat) (b : List Int) (hR : Rd q w 1 A m (u8s b)) (hb : Byt b) (hm : m ≤ 55) :
    Calls Tryd.prog 67 #[.pointer (some ⟨gl, 0, none⟩), .int .i64 place, .int .i64 kind, .slice A m c] w fun e w' => e = .returned (.tuple #[.agg (secA (pad64 (beL 4 l.gen ++ beL 4 place ++ beL 1 kind ++ b))), .nilIface]) ∧ New w w' := by
  have HLG := Lib.hid h
  have HR := Lib.hid hR
  have HB := Lib.hid hb
  have HX : Hid (b.length = m) := Lib.hid (by have := hR.1; rw [u8s_len] at this; omega)
  have c3 := h.c3
  have hgen := h.ok.gen
  obtain ⟨gen, hgn⟩ : ∃ gen, gen = l.gen := ⟨_, rfl⟩
  rw [← hgn] at c3 hgen ⊢
  have HNUM4 : Hid (gen < 256 ^ 4 ∧ place < 256 ^ 4 ∧ kind < 256 ^ 1) := Lib.hid ⟨by omega, by omega, by omega⟩
  have k2 : IntKind.u64.wrap (place : Int) = (place : Int) := by rw [IntKind.wrap_u64]; omega
  have k3 : IntKind.u64.wrap (kind : Int) = (kind : Int) := by rw [IntKind.wrap_u64]; omega
  have k1 : IntKind.u64.wrap (gen : Int) = (gen : Int) := by rw [IntKind.wrap_u64]; omega
  obtain ⟨rs, hrs⟩ : ∃ rs, rs = beL 4 gen ++ beL 4 place ++ beL 1 kind ++ b := ⟨_, rfl⟩
  have HRS := Lib.hid hrs
  have hrl : rs.length = m + 9 := by rw [hrs]; simp only [List.length_append, beL_len, HX.out]; omega
  have HRL := Lib.hid hrl
  rw [← hrs]
  clear h hR hb hgn hp hk hrs hrl hgen
  go_enter Tryd.func67, Tryd.ntmps67
  go_upto_region 3 with fail
  obtain ⟨w1, hw1⟩ : ∃ w1 : World, w1 = ((w.alloc (.cells #[.int .u8 0, .int .u8 0, .int .u8 0, .int .u8 0, .int .u8 0, .int .u8 0, .int .u8 0, .int .u8 0, .int .u8 0, .int .u8 0, .int .u8 0, .int .u8 0, .int .u8 0, .int .u8 0, .int .u8 0, .int .u8 0, .int .u8 0, .int .u8 0, .int .u8 0, .int .u8 0, .int .u8 0, .int .u8 0, .int .u8 0, .int .u8 0, .int .u8 0, .int .u8 0, .int .u8 0, .int .u8 0, .int .u8 0, .int .u8 0, .int .u8 0, .int .u8 0, .int .u8 0, .int .u8 0, .int .u8 0, .int .u8 0, .int .u8 0, .int .u8 0, .int .u8 0, .int .u8 0, .int .u8 0, .int .u8 0, .int .u8 0, .int .u8 0, .int .u8 0, .int .u8 0, .int .u8 0, .int .u8 0, .int .u8 0, .int .u8 0, .int .u8 0, .int .u8 0, .int .u8 0, .int .u8 0, .int .u8 0, .int .u8 0, .int .u8 0, .int .u8 0, .int .u8 0, .int .u8 0, .int .u8 0, .int .u8 0, .int .u8 0, .int .u8 0] 35)).alloc (.cells #[.int .u8 0, .int .u8 0, .int .u8 0, .int .u8 0, .int .u8 0, .int .u8 0, .int .u8 0, .int .u8 0, .int .u8 0, .int .u8 0, .int .u8 0, .int .u8 0, .int .u8 0, .int .u8 0, .int .u8 0, .int .u8 0, .int .u8 0, .int .u8 0, .int .u8 0, .int .u8 0, .int .u8 0, .int .u8 0, .int .u8 0, .int .u8 0, .int .u8 0, .int .u8 0, .int .u8 0, .int .u8 0, .int .u8 0, .int .u8 0, .int .u8 0, .int .u8 0, .int .u8 0, .int .u8 0, .int .u8 0, .int .u8 0, .int .u8 0, .int .u8 0, .int .u8 0, .int .u8 0, .int .u8 0, .int .u8 0, .int .u8 0, .int .u8 0, .int .u8 0, .int .u8 0, .int .u8 0, .int .u8 0, .int .u8 0, .int .u8 0, .int .u8 0, .int .u8 0, .int .u8 0, .int .u8 0, .int .u8 0, .int .u8 0, .int .u8 0, .int .u8 0, .int .u8 0, .int .u8 0, .int .u8 0, .int .u8 0, .int .u8 0, .int .u8 0] 35)).alloc (.cells #[.nilIface, .slice none 0 0] 107) := ⟨_, rfl⟩
  obtain ⟨b8, hb8⟩ : ∃ b8, b8 = w.heap.size := ⟨_, rfl⟩
  obtain ⟨b10, hb10⟩ : ∃ b10, b10 = w.heap.size + 1 := ⟨_, rfl⟩
  obtain ⟨g, hg⟩ : ∃ g, g = w.heap.size + 1 + 1 := ⟨_, rfl⟩
  have hz : (#[.int .u8 0, .int .u8 0, .int .u8 0, .int .u8 0, .int .u8 0, .int .u8 0, .int .u8 0, .int .u8 0, .int .u8 0, .int .u8 0, .int .u8 0, .int .u8 0, .int .u8 0, .int .u8 0, .int .u8 0, .int .u8 0, .int .u8 0, .int .u8 0, .int .u8 0, .int .u8 0, .int .u8 0, .int .u8 0, .int .u8 0, .int .u8 0, .int .u8 0, .int .u8 0, .int .u8 0, .int .u8 0, .int .u8 0, .int .u8 0, .int .u8 0, .int .u8 0, .int .u8 0, .int .u8 0, .int .u8 0, .int .u8 0, .int .u8 0, .int .u8 0, .int .u8 0, .int .u8 0, .int .u8 0, .int .u8 0, .int .u8 0, .int .u8 0, .int .u8 0, .int .u8 0, .int .u8 0, .int .u8 0, .int .u8 0, .int .u8 0, .int .u8 0, .int .u8 0, .int .u8 0, .int .u8 0, .int .u8 0, .int .u8 0, .int .u8 0, .int .u8 0, .int .u8 0, .int .u8 0, .int .u8 0, .int .u8 0, .int .u8 0, .int .u8 0] : Array Value) = secA sec0 := by rfl
  have HN1 : Hid (New w w1) := Lib.hid (by rw [hw1]; exact New.al (New.al (New.al (New.refl _) _) _) _)
  have HB8 : Hid (Blk w1 b8 35 (secA sec0)) := Lib.hid (by rw [hw1, hb8, ← hz]; exact ((Blk.new _ _ _).alloc _).alloc _)
  have HB10 : Hid (Blk w1 b10 35 (secA sec0)) := Lib.hid (by rw [hw1, hb10, ← hz]; exact (Blk.new' _ _ _ (by simp)).alloc _)
  have HW1 : Hid (WrIn w1 g g []) := Lib.hid ⟨⟨none, 0, by rw [hw1, hg]; exact Blk.new' _ _ _ (by simp), World.ownsRow_nil _ _ _ _⟩, Nat.le_refl _, fun x hx => nomatch hx⟩
  have HZ : Hid (b8 = w.heap.size ∧ b10 = w.heap.size + 1 ∧ g = w.heap.size + 2) := Lib.hid ⟨hb8, hb10, hg⟩
  rw [← hw1, ← hg, ← hb10, ← hb8]
  clear hw1 hb8 hb10 hg hz
  have c3w : w1.cell? ⟨gl, 3, none⟩ = some (.int .u32 gen) := HN1.out.cell_ c3
  have n0 : ((4 : Nat) : Int) = 4 := rfl
  go_wp2_with fail
  refine (wnum_any HW1.out gen 4 (by omega) HNUM4.out.1 (by simp)).mono ?_
  rintro e w2 ⟨rfl, hW2, hF2⟩
  have HW2 := Lib.hid hW2
  have HF2 : Hid (FW g g w1 w2) := Lib.hid hF2
  clear hW2 hF2
  go_wp2_with fail
  refine (wnum_any HW2.out place 4 (by omega) HNUM4.out.2.1 (by simp [beL_len])).mono ?_
  rintro e w3 ⟨rfl, hW3, hF3⟩
  have HW3 := Lib.hid hW3
  have HF3 : Hid (FW g g w1 w3) := Lib.hid (HF2.out.tr hF3)
  clear hW3 hF3
  go_wp2_with fail
  refine (wnum_any HW3.out kind 1 (by omega) HNUM4.out.2.2 (by simp [beL_len])).mono ?_
  rintro e w4 ⟨rfl, hW4, hF4⟩
  have HW4 := Lib.hid hW4
  have HF4 : Hid (FW g g w1 w4) := Lib.hid (HF3.out.tr hF4)
  clear hW4 hF4
  have HN4 : Hid (New w w4) := Lib.hid (HN1.out.fr HF4.out (fun k hk => by
    have := HZ.out
    rcases hk with rfl | hk
    · omega
    · have := hk.1; omega))
  go_wp2_with fail
  refine (wraw_any HW4.out A m c b (HN4.out.rd HR.out) HB.out (by simp [beL_len]; omega)).mono ?_
  rintro e w5 ⟨rfl, hW5, hF5⟩
  have HW5 : Hid (WrIn w5 g g rs) := Lib.hid (by
    have e : [] ++ beL 4 gen ++ beL 4 place ++ beL 1 kind ++ b = rs := by rw [HRS.out]; rfl
    rw [← e]
    exact hW5)
  have HF5 : Hid (FW g g w1 w5) := Lib.hid (HF4.out.tr hF5)
  clear hW5 hF5
  go_wp2_with fail
  refine (wdone_any HW5.out (by rw [HRL.out]; omega)).mono ?_
  rintro e w6 ⟨⟨B, d, rfl, hO⟩, hN6⟩
  rw [HRL.out] at hO ⊢
  have HO := Lib.hid hO
  have HN6 : Hid (New w5 w6) := Lib.hid hN6
  have HF6 : Hid (FW g g w1 w6) := Lib.hid (HF5.out.tr (FW.new hN6))
  have HNw6 : Hid (New w w6) := Lib.hid (HN1.out.fr HF6.out (fun k hk => by
    have := HZ.out
    rcases hk with rfl | hk
    · omega
    · have := hk.1; omega))
  clear hO hN6
  have HB86 : Hid (Blk w6 b8 35 (secA sec0)) := Lib.hid (HF6.out.blk HB8.out (by decide) (by have := HZ.out; omega))
  have HB106 : Hid (Blk w6 b10 35 (u8s sec0).toArray) := Lib.hid (HF6.out.blk HB10.out (by decide) (by have := HZ.out; omega))
  obtain ⟨m9, hm9⟩ : ∃ m9, m9 = m + 9 := ⟨_, rfl⟩
  have hm64 : m9 ≤ 64 := by omega
  have HM9 := Lib.hid hm9
  rw [← hm9] at HO ⊢
  have hp64 : (secA (pad64 rs)).size = 64 := by rw [secA_size, pad64_len (by rw [HRL.out]; omega)]
  have HP64 := Lib.hid hp64
  clear hm9 hp64
  have HSP : Hid (splice (u8s sec0) 0 (u8s rs) = u8s (pad64 rs)) := Lib.hid (splice_pad (by rw [HRL.out]; have := HM9.out; omega))
  go_wp2_with (first
    | ((with_reducible refine atOp ⟨some 41, _, _, _, _, _⟩ ?_); refine wpList_copyF (q := fun k => (Value.slice B m9 d).ownBlock = some k) rfl (.tmp 39) (.tmp 40) 43 43 rfl 5 Tryd.underlying43 rfl b10 0 64 64 B m9 d rfl rfl (u8s sec0) 35 HB106.out (u8s rs) (by rw [u8s_len, HRL.out, ← HM9.out]; exact (Nat.min_eq_left hm64).symm) ⟨m9, u8s rs, Rd.own HO.out rfl, List.take_length⟩ (by rw [u8s_len, u8s_len, HRL.out, ← HM9.out, sec0_ok.1]; omega) (u8s_one _) ?_; intro w7 hb7 hf7; rw [HSP.out] at hb7; have HB7 : Hid (Blk w7 b10 35 (secA (pad64 rs))) := Lib.hid hb7; have HF7 := Lib.hid hf7; have HB87 : Hid (Blk w7 b8 35 (secA sec0)) := Lib.hid (HB86.out.fr hf7 (by have := HZ.out; omega)); clear hb7 hf7)
    | ((with_reducible refine atOp ⟨some 42, .load _ _, _, _, _, _⟩ ?_); refine wpList_load_any rfl _ rfl Tryd.underlying35 rfl (by rw [HP64.out]; rfl) rfl HB7.out ?_)
    | ((with_reducible refine atOp ⟨none, .store 35 (.tmp 8) _, _, _, _, _⟩ ?_); refine wpList_store_any rfl (.tmp 8) (.tmp 42) rfl (by rw [HP64.out]; rfl) rfl rfl HB87.out (by rw [HP64.out]; rfl) (secA_one _) ?_; intro w8 hb8 hf8; have HB88 := Lib.hid hb8; have HF8 := Lib.hid hf8; clear hb8 hf8))
  exact bodyPost_ret (results_row2' rfl _ _ b8 _ _ rfl HB88.out Tryd.underlying35 rfl (by rw [HP64.out]; rfl)) rfl ⟨rfl, (HNw6.out.fr HF7.out (fun k hk => by have := HZ.out; omega)).fr HF8.out (fun k hk => by have := HZ.out; omega)⟩
end Go.Proofs.YteeclfejgpgooaaDoor
/- A range over a function whose rounds may return from the function around it: an own law for an outermost loop. After XRng. No condition. -/
namespace Go.Proofs.YteeclfejgpgooaaDoor
set_option linter.unusedVariables false
set_option linter.unusedSimpArgs false
set_option linter.constructorNameAsVariable false
open Go.RowKit

/-- An iterator that stops where a round tells it to. -/
def GivesQ {α : Type} (R : List α → α → Prop) (P : Program) (gf : Nat) (lb : Array Value) (encs : α → Array Value) (Good : α → World → Prop) (Kp : World → World → Prop) (S : List α → Prop) (M : Nat) (w : World) : Prop :=
  ∀ (l : Nat) (J : List α → World → Prop) (J' : World → Prop) (W : World), New w W → (∀ s A B, J s A → New A B → J s B) → (∀ A B, J' A → New A B → J' B) →
    (∀ pre x W1, pre.length < M → J pre W1 → Good x W1 → R pre x → YieldAt Fence.wide 2 P l (encs x) W1 fun e W' => (e = .returned (.bool true) ∧ J (pre ++ [x]) W' ∧ Kp W1 W') ∨ (e = .returned (.bool false) ∧ J' W')) →
    J [] W → CallsIn Fence.wide 2 P gf (#[.func (.yield l) #[] #[]] ++ lb) W fun e W' => (∃ v, e = .returned v) ∧ ((∃ xs, S xs ∧ J xs W') ∨ J' W')
theorem wp_rangeQ {α : Type} {R : List α → α → Prop} {P : Program} {g : Operand} {ps : Array Tmp} {assign body : Code} {Q : Exit → Act → World → Prop} {a : Act} {w : World}
    {gf : Nat} {lb : Array Value} (hg : a.eval g = .func (.func gf) #[] lb) (eg : ∀ args w, (callFunc gf args).run P w = .ok (.enter gf args) w)
    (encs : α → Array Value) (hps : ∀ x, (encs x).size = ps.size) {Good : α → World → Prop} {Kp : World → World → Prop} {S : List α → Prop} {M : Nat} (hseq : GivesQ R P gf lb encs Good Kp S M w)
    (hGp : ∀ x W W', Good x W → Puts w.heap.size W W' → Good x W') (hKt : ∀ {A B C : World}, Kp A B → Kp B C → Kp A C) (hKp : ∀ W W', Puts w.heap.size W W' → Kp W W')
    (I : List α → World → Prop) (hIn : ∀ s A B, I s A → New A B → I s B) (hIp : ∀ s A B, I s A → Puts w.heap.size A B → I s B) (h0 : I [] w) (I' : World → Prop) (hI'n : ∀ A B, I' A → New A B → I' B) (hI'p : ∀ A B, I' A → Puts w.heap.size A B → I' B) (a1 : α → Act)
    (hassign : ∀ (l : Nat) (x : α) (W : World) (K : Act → World → Prop), K (a1 x) W → assign.wpIn (Fence.wide.inRound l) 2 P (Exit.then K (fun _ _ _ => False)) { tmps := (ps.zip (encs x)).foldl (fun t (p, v) => t.setIfInBounds p v) a.tmps, defers := [] } W)
    (hbody : ∀ (l : Nat) (pre : List α) (x : α) (W : World), pre.length < M → I pre W → Good x W → R pre x → body.wpIn (Fence.wide.inRound l) 2 P (fun e _ W' => Kept w.heap.size W W' ∧ (e = .normal ∧ Kp W W' ∧ I (pre ++ [x]) W' ∨ e = .ret ∧ I' W')) (a1 x) W)
    (hdone : ∀ (D : Nat) (xs : List α) (W : World), w.heap.size ≤ D → S xs → I xs W → W.heap[D]? = some (.deferred (some [])) → Q .normal { a with defers := { target := .collected D, args := #[] } :: a.defers } W)
    (hret : ∀ (D : Nat) (W : World), w.heap.size ≤ D → I' W → W.heap[D]? = some (.deferred (some [])) → Q .ret { a with defers := { target := .collected D, args := #[] } :: a.defers } W) :
    (Code.rangeFunc g ps assign body).wp P Q a w := by
  refine (wpIn_wide (n := 3)).1 ?_
  refine wpIn_rangeFunc fun fn hfn => ?_
  -- the two blocks of the loop
  obtain ⟨rc, hrc⟩ : ∃ rc : LoopState → Option Code → Loop, rc = fun st pe => { state := st, pending := pe, fn, tmps := a.tmps, params := ps, assign, body, defers := w.heap.size } := ⟨_, rfl⟩
  obtain ⟨w1, hw1⟩ : ∃ w1, w1 = (w.alloc (.deferred (some []))).alloc (.loop (rc .ready none)) := ⟨_, rfl⟩
  have hn1 : New w w1 := by rw [hw1]; exact New.al (New.al (New.refl w) _) _
  have hl1 : w1.heap[w.heap.size + 1]? = some (.loop (rc .ready none)) := by
    rw [hw1]
    have := World.alloc_heap_new (w.alloc (.deferred (some []))) (.loop (rc .ready none))
    rwa [World.size_alloc] at this
  have hd1 : w1.heap[w.heap.size]? = some (.deferred (some [])) := by
    rw [hw1]
    exact (Below.heap_alloc _ _ _ (by simp)).trans (World.alloc_heap_new w _)
  refine ⟨w.heap.size + 1, [{ target := .collected w.heap.size, args := #[] }], w1, { target := .fn (.func gf) lb, args := #[.func (.yield (w.heap.size + 1)) #[] #[]] }, w1, gf, #[.func (.yield (w.heap.size + 1)) #[] #[]] ++ lb, w1, ?_, ?_, fun _ _ => trivial, ?_, fun _ => by decide, ?_⟩
  · rw [hw1, hrc]
    exact run_enterLoop_outer _ _ _ _ _
  · simp only [resolve, hg]
    simp [go_sem]
  · simp [invoke, go_sem, eg]
  -- the record between two rounds
  have put : ∀ (W : World) (r r' : Loop), W.heap[w.heap.size + 1]? = some (.loop r) → Puts w.heap.size W (W.putObj (w.heap.size + 1) (.loop r')) := fun W r r' h => ⟨_, _, _, by omega, h, rfl, rfl⟩
  refine (hseq (w.heap.size + 1) (fun pre W => I pre W ∧ W.heap[w.heap.size + 1]? = some (.loop (rc .ready none)) ∧ W.heap[w.heap.size]? = some (.deferred (some []))) (fun W => I' W ∧ W.heap[w.heap.size + 1]? = some (.loop (rc .done (some .ret))) ∧ W.heap[w.heap.size]? = some (.deferred (some []))) w1 hn1 ?_ ?_ ?_ ⟨hIn _ _ _ h0 hn1, hl1, hd1⟩).mono ?_
  · rintro s A B ⟨hi, hl, hd⟩ hN
    exact ⟨hIn s A B hi hN, (hN.block _ (Array.getElem?_eq_some_iff.1 hl).1).trans hl, (hN.block _ (Array.getElem?_eq_some_iff.1 hd).1).trans hd⟩
  · rintro A B ⟨hi, hl, hd⟩ hN
    exact ⟨hI'n A B hi hN, (hN.block _ (Array.getElem?_eq_some_iff.1 hl).1).trans hl, (hN.block _ (Array.getElem?_eq_some_iff.1 hd).1).trans hd⟩
  · rintro pre x W hpl ⟨hi, hl, hd⟩ hgood hRx
    have hlt := (Array.getElem?_eq_some_iff.1 hl).1
    have hy := run_yield (P := P) (args := encs x) hl (by rw [hrc]; exact hps x)
    rw [hrc] at hy
    refine ⟨fn, _, assign, body, hy, roundIn_of_wpIn hfn (hassign _ x W _ ⟨_, run_beginRound hl (by rw [hrc]), ?_⟩)⟩
    obtain ⟨W2, hW2⟩ : ∃ W2, W2 = W.putObj (w.heap.size + 1) (.loop { rc .ready none with state := .busy }) := ⟨_, rfl⟩
    have hP2 : Puts w.heap.size W W2 := by rw [hW2]; exact put W _ _ hl
    have hl2 : W2.heap[w.heap.size + 1]? = some (.loop { rc .ready none with state := .busy }) := by rw [hW2]; exact World.putObj_heap_same hlt
    have hd2 : W2.heap[w.heap.size]? = some (.deferred (some [])) := by rw [hW2]; exact (World.putObj_heap_other (by omega)).trans hd
    rw [← hW2]
    refine wpIn_mono (hbody _ pre x W2 hpl (hIp _ _ _ hi hP2) (hGp _ _ _ hgood hP2) hRx) ?_
    rintro e a3 W3 ⟨hk3, h3⟩
    have hl3 := hk3.rest _ _ (by omega) hl2 rfl
    have hd3 := hk3.rest _ _ (Nat.le_refl _) hd2 rfl
    rcases h3 with ⟨rfl, hkp3, hi3⟩ | ⟨rfl, hi3⟩
    · have hr := run_endRound (P := P) none hl3
      have hP3 := put W3 _ { rc .ready none with state := (if (none : Option Code).isNone then .ready else .done), pending := none } hl3
      refine ⟨_, _, hr, .inl ⟨rfl, ⟨hIp _ _ _ hi3 hP3, ?_, (World.putObj_heap_other (by omega)).trans hd3⟩, hKt (hKp _ _ hP2) (hKt hkp3 (hKp _ _ hP3))⟩⟩
      rw [World.putObj_heap_same (Array.getElem?_eq_some_iff.1 hl3).1, hrc]
      rfl
    · have hr := run_endRound (P := P) (some .ret) hl3
      have hP3 := put W3 _ { rc .ready none with state := (if (some Code.ret : Option Code).isNone then .ready else .done), pending := some .ret } hl3
      refine ⟨_, _, hr, .inr ⟨rfl, ⟨hI'p _ _ hi3 hP3, ?_, (World.putObj_heap_other (by omega)).trans hd3⟩⟩⟩
      rw [World.putObj_heap_same (Array.getElem?_eq_some_iff.1 hl3).1, hrc]
      rfl
  · rintro e W2 ⟨⟨v, rfl⟩, h2⟩
    rcases h2 with ⟨xs, hS, hi, hl, hd⟩ | ⟨hi, hl, hd⟩
    · have hend := run_endLoop (P := P) hl (by rw [hrc]; simp)
      rw [hrc] at hend
      exact ⟨none, _, hend, hdone _ xs _ (Nat.le_refl _) hS (hIp _ _ _ hi (put W2 _ _ hl)) ((World.putObj_heap_other (by omega)).trans hd)⟩
    · have hend := run_endLoop (P := P) hl (by rw [hrc]; simp)
      rw [hrc] at hend
      exact ⟨some .ret, _, hend, wpIn_ret (hret _ _ (Nat.le_refl _) (hI'p _ _ hi (put W2 _ _ hl)) ((World.putObj_heap_other (by omega)).trans hd))⟩
end Go.Proofs.YteeclfejgpgooaaDoor
