/- Texts of one proof, one behind the other: LgF, LgG, LgH, LhA. No condition but each one's own. -/
import Derived.Test.YteeclfejgpgooaaDoorLogReadsM14
import Derived.Test.YteeclfejgpgooaaDoorLogReadsM6
/- A log made afresh, and opened. sha's tables are as they were laid. No condition else. -/
namespace Go.Proofs.YteeclfejgpgooaaDoor
set_option linter.unusedVariables false
set_option linter.unusedSimpArgs false
set_option linter.constructorNameAsVariable false
open Go.RowKit Go.Sort

/-- May a log lie there? -/
def GoodAt (first size gen : Int) (n : Nat) : Prop := 0 ≤ first ∧ 1 ≤ size ∧ first < n ∧ size ≤ n - first ∧ gen ≠ 0
def lg0 (first size gen : Nat) : LG := ⟨first, size, gen, 0, List.replicate 16 0, false⟩
theorem lg0_ok {first size gen n : Nat} (h : first + size ≤ n) (hg : gen < 4294967296) : (lg0 first size gen).Ok n := ⟨h, hg, Nat.zero_le _, rfl, fun x hx => by have := List.eq_of_mem_replicate hx; omega⟩
set_option maxRecDepth 100000 in
set_option maxHeartbeats 2000000 in
theorem at_bad {w : World} {gd base bs bf : Nat} {v : Value} {p : DP} (hD : Dk w base gd bs bf v p) (a b c : Int) (wa : (Lit.int .i64 a).wf = true) (wb : (Lit.int .i64 b).wf = true) (hc : 0 ≤ c) (h : ¬ GoodAt a b c p.size) :
    Calls Tryd.prog 39 #[.pointer (some ⟨gd, 0, none⟩), .int .i64 a, .int .i64 b, .int .u32 c] w fun e w' => e = .returned (.tuple #[.pointer none, .iface 63 (.int .i64 1)]) ∧ w = w' := by
  have HD := Lib.hid hD
  have hsz := hD.ok.s2
  have ba := bounds_i64 wa
  have bb := bounds_i64 wb
  unfold GoodAt at h
  clear hD wa wb
  obtain ⟨n, hn⟩ : ∃ n, n = p.size := ⟨_, rfl⟩
  have HL : Hid (∀ W, Dk W base gd bs bf v p → Calls Tryd.prog 54 #[.pointer (some ⟨gd, 0, none⟩)] W fun e w' => e = .returned (.int .i64 n) ∧ W = w') := Lib.hid fun W h => by rw [hn]; exact len_in h
  rw [← hn] at h hsz
  clear hn
  by_cases h1 : a < 0
  · clear h
    go_enter Tryd.func39, Tryd.ntmps39
    go_wp2_with fail
    go_ret2
    exact ⟨rfl, rfl⟩
  · by_cases h2 : b < 1
    · clear h
      have h1' : 0 ≤ a := by omega
      go_enter Tryd.func39, Tryd.ntmps39
      go_wp2_with fail
      go_ret2
      exact ⟨rfl, rfl⟩
    · by_cases h3 : (n : Int) ≤ a
      · clear h
        have h1' : 0 ≤ a := by omega
        have h2' : 1 ≤ b := by omega
        go_enter Tryd.func39, Tryd.ntmps39
        go_wp2_with (go_at_call 54; refine (HL.out _ HD.out).mono ?_; rintro e w' ⟨rfl, rfl⟩)
        go_ret2
        exact ⟨rfl, rfl⟩
      · have h1' : 0 ≤ a := by omega
        have h2' : 1 ≤ b := by omega
        have h3' : a < (n : Int) := by omega
        obtain ⟨m, hm⟩ : ∃ m, m = (n : Int) - a := ⟨_, rfl⟩
        have HM := Lib.hid hm
        have hm0 : 0 ≤ m ∧ m ≤ 16384 := by omega
        by_cases h4 : m < b
        · clear h
          have h5 : (n : Int) - a = m := hm.symm
          clear hm
          go_enter Tryd.func39, Tryd.ntmps39
          go_wp2_with (go_at_call 54; refine (HL.out _ HD.out).mono ?_; rintro e w' ⟨rfl, rfl⟩)
          go_ret2
          exact ⟨rfl, rfl⟩
        · have hc0 : c = 0 := by omega
          subst hc0
          clear h
          have h5 : (n : Int) - a = m := hm.symm
          have h6 : b ≤ m := by omega
          clear hm
          go_enter Tryd.func39, Tryd.ntmps39
          go_wp2_with (go_at_call 54; refine (HL.out _ HD.out).mono ?_; rintro e w' ⟨rfl, rfl⟩)
          go_ret2
          exact ⟨rfl, rfl⟩
set_option maxRecDepth 100000 in
set_option maxHeartbeats 2000000 in
theorem at_good {w : World} {gd base bs bf : Nat} {v : Value} {p : DP} (hD : Dk w base gd bs bf v p) (a b c : Nat) (hb : 1 ≤ b) (hab : a + b ≤ p.size) (hc : c < 4294967296) (hc0 : c ≠ 0) :
    Calls Tryd.prog 39 #[.pointer (some ⟨gd, 0, none⟩), .int .i64 a, .int .i64 b, .int .u32 c] w fun e w' => e = .returned (.tuple #[.pointer (some ⟨w.heap.size, 0, none⟩), .nilIface]) ∧ Lg w' w.heap.size gd (lg0 a b c) p.size ∧ New w w' := by
  have HD := Lib.hid hD
  have hsz := hD.ok.s2
  obtain ⟨n, hn⟩ : ∃ n, n = p.size := ⟨_, rfl⟩
  have HL : Hid (∀ W, Dk W base gd bs bf v p → Calls Tryd.prog 54 #[.pointer (some ⟨gd, 0, none⟩)] W fun e w' => e = .returned (.int .i64 n) ∧ W = w') := Lib.hid fun W h => by rw [hn]; exact len_in h
  have HOK : Hid ((lg0 a b c).Ok p.size) := Lib.hid (lg0_ok hab hc)
  rw [← hn] at hab hsz
  obtain ⟨m, hm⟩ : ∃ m, m = n - a := ⟨_, rfl⟩
  have h5 : (n : Int) - (a : Int) = (m : Int) := by omega
  have h6 : (b : Int) ≤ (m : Int) := by omega
  have h3' : (a : Int) < (n : Int) := by omega
  have h2' : 1 ≤ (b : Int) := by omega
  have h1' : 0 ≤ (a : Int) := by omega
  have hcz : ((c : Int) == 0) = false := by simp; omega
  have hcy : ¬ (c : Int) = 0 := by omega
  clear hn hD hab hm hc hc0
  go_enter Tryd.func39, Tryd.ntmps39
  go_wp2_with (go_at_call 54; refine (HL.out _ HD.out).mono ?_; rintro e w' ⟨rfl, rfl⟩)
  go_ret2
  refine ⟨rfl, ⟨?_, HOK.out⟩, New.al (New.refl w) _⟩
  exact Blk.new _ _ _
set_option maxRecDepth 100000 in
set_option maxHeartbeats 2000000 in
theorem fresh_bad {w : World} {gd base bs bf : Nat} {v : Value} {p : DP} (hD : Dk w base gd bs bf v p) (a b c : Int) (wa : (Lit.int .i64 a).wf = true) (wb : (Lit.int .i64 b).wf = true) (hc : 0 ≤ c) (h : ¬ GoodAt a b c p.size) :
    Calls Tryd.prog 21 #[.pointer (some ⟨gd, 0, none⟩), .int .i64 a, .int .i64 b, .int .u32 c] w fun e w' => e = .returned (.tuple #[.pointer none, .iface 63 (.int .i64 1)]) ∧ w = w' := by
  have HA := Lib.hid (at_bad hD a b c wa wb hc h)
  clear hD wa wb hc h
  go_enter Tryd.func21, Tryd.ntmps21
  go_wp2_with (go_at_call 39; refine HA.out.mono ?_; rintro e w' ⟨rfl, rfl⟩)
  go_ret2
  exact ⟨rfl, rfl⟩
set_option maxRecDepth 100000 in
set_option maxHeartbeats 2000000 in
theorem open_bad {w : World} {gd base bs bf : Nat} {v : Value} {p : DP} (hD : Dk w base gd bs bf v p) (a b c : Int) (wa : (Lit.int .i64 a).wf = true) (wb : (Lit.int .i64 b).wf = true) (hc : 0 ≤ c) (h : ¬ GoodAt a b c p.size) :
    Calls Tryd.prog 12 #[.pointer (some ⟨gd, 0, none⟩), .int .i64 a, .int .i64 b, .int .u32 c] w fun e w' => e = .returned (.tuple #[.pointer none, .slice none 0 0, .iface 63 (.int .i64 1)]) ∧ w = w' := by
  have HA := Lib.hid (at_bad hD a b c wa wb hc h)
  clear hD wa wb hc h
  go_enter Tryd.func12, Tryd.ntmps12
  go_wp2_with (go_at_call 39; refine HA.out.mono ?_; rintro e w' ⟨rfl, rfl⟩)
  exact bodyPost_ret (v := .tuple #[.pointer none, .slice none 0 0, .iface 63 (.int .i64 1)]) (by simp [results, Tryd.results12, go_sem]) rfl ⟨rfl, rfl⟩
end Go.Proofs.YteeclfejgpgooaaDoor
/- A log made afresh, and opened, where it may lie. sha's tables are as they were laid. No condition else. -/
namespace Go.Proofs.YteeclfejgpgooaaDoor
set_option linter.unusedVariables false
set_option linter.unusedSimpArgs false
set_option linter.constructorNameAsVariable false
open Go.RowKit Go.Sort

theorem elBs : ElemOf Tryd.prog 40 43 1 24 := ElemOf.mk' (z := .slice none 0 0) Tryd.underlying40 (by kernel_rfl) rfl (by decide)
/-- Texts in memory, one by one, all of them new since block B. -/
structure Recs (B : Nat) (w : World) (v : Value) (L : List (List Int)) : Prop where
  row : ∃ vs : List Value, w.ownsRow B 43 1 v L.length vs ∧ ∀ (i : Nat) l, L[i]? = some l → ∃ A c, vs[i]? = some (.slice A l.length c) ∧ l.length ≤ c ∧ c ≤ maxLen ∧ Byt l ∧ Rd (RB B w) w 1 A l.length (u8s l)
theorem Rd.frT {S : Nat → Prop} {B : Nat} {w w' : World} {A : Option Addr} {n : Nat} {xs : List Value} (h : Rd (RB B w) w 1 A n xs) (hF : Fr S w w') (hS : ∀ k, S k → B ≤ k → ¬ IsT 5 w k) : Rd (RB B w') w' 1 A n xs :=
  (h.fr hF (fun k hk hs => hS k hs hk.1 hk.2)).imp (fun k hk => ⟨hk.1, hk.2.fr hF (fun hs => hS k hs hk.1 hk.2)⟩)
theorem Recs.fr {S : Nat → Prop} {B : Nat} {w w' : World} {v : Value} {L : List (List Int)} (h : Recs B w v L) (hF : Fr S w w') (hS : ∀ k, S k → B ≤ k → ¬ IsT 5 w k ∧ ¬ IsT 43 w k) : Recs B w' v L := by
  obtain ⟨vs, ho, he⟩ := h.row
  refine ⟨vs, own_fr ho hF (fun k hk hs => (hS k hs (own_lt ho k hk).1).2 (own_isT' ho hk)), fun i l hl => ?_⟩
  obtain ⟨A, c, h1, h2, h3, h4, h5⟩ := he i l hl
  exact ⟨A, c, h1, h2, h3, h4, h5.frT hF (fun k hk hb => (hS k hk hb).1)⟩
theorem Recs.new {B : Nat} {w w' : World} {v : Value} {L : List (List Int)} (h : Recs B w v L) (hN : New w w') : Recs B w' v L := h.fr (S := NoB) (hN.toFr _) (fun _ x => x.elim)
theorem Recs.base {B B' : Nat} {w : World} {v : Value} {L : List (List Int)} (h : Recs B w v L) (hb : B' ≤ B) : Recs B' w v L := by
  obtain ⟨vs, ho, he⟩ := h.row
  refine ⟨vs, own_base ho (fun k hk => Nat.le_trans hb (own_lt ho k hk).1), fun i l hl => ?_⟩
  obtain ⟨A, c, h1, h2, h3, h4, h5⟩ := he i l hl
  exact ⟨A, c, h1, h2, h3, h4, h5.imp (fun k hk => ⟨Nat.le_trans hb hk.1, hk.2⟩)⟩
theorem Recs.nil (B : Nat) (w : World) : Recs B w (.slice none 0 0) [] := ⟨[], ⟨rfl, .inl ⟨rfl, rfl⟩⟩, fun i l hl => by simp at hl⟩
theorem Recs.shape {B : Nat} {w : World} {v : Value} {L : List (List Int)} (h : Recs B w v L) : ∃ A c, v = .slice A L.length c ∧ c ≤ maxLen ∧ L.length ≤ c := by
  obtain ⟨vs, ho, -⟩ := h.row
  obtain ⟨A, c, h1, h2, h3, -⟩ := own_shape ho
  exact ⟨A, c, h1, h3, h2⟩
theorem Recs.push {B : Nat} {w w' : World} {A A' A2 : Option Addr} {m c c' c2 : Nat} {L : List (List Int)} {l : List Int} {vs : List Value} (hvs : w.ownsRow B 43 1 (.slice A m c) m vs ∧ ∀ (i : Nat) l, L[i]? = some l → ∃ A c, vs[i]? = some (.slice A l.length c) ∧ l.length ≤ c ∧ c ≤ maxLen ∧ Byt l ∧ Rd (RB B w) w 1 A l.length (u8s l)) (hm : m = L.length)
    (ho : w'.ownsRow B 43 1 (.slice A' (m + 1) c') (m + 1) (vs ++ [.slice A2 l.length c2])) (hF : Fr (fun k => (Value.slice A m c).ownBlock = some k) w w') (hc : l.length ≤ c2 ∧ c2 ≤ maxLen) (hb : Byt l) (hR : Rd (RB B w) w 1 A2 l.length (u8s l)) : Recs B w' (.slice A' (m + 1) c') (L ++ [l]) := by
  have hT : ∀ k, (Value.slice A m c).ownBlock = some k → B ≤ k → ¬ IsT 5 w k := fun k hk _ => IsT.not_own hvs.1 (by decide) hk
  refine ⟨vs ++ [.slice A2 l.length c2], by rw [List.length_append, List.length_singleton, ← hm]; exact ho, fun i l' hl => ?_⟩
  have hvl : vs.length = m := by have := hvs.1.1; omega
  rcases Nat.lt_or_ge i L.length with hi | hi
  · rw [List.getElem?_append_left hi] at hl
    obtain ⟨A3, c3, h1, h2, h3, h4, h5⟩ := hvs.2 i l' hl
    exact ⟨A3, c3, by rw [List.getElem?_append_left (by omega)]; exact h1, h2, h3, h4, h5.frT hF hT⟩
  · rw [List.getElem?_append_right hi] at hl
    have hi0 : i - L.length = 0 := by
      have := (List.getElem?_eq_some_iff.1 hl).1
      simp at this
      omega
    rw [hi0] at hl
    obtain rfl : l = l' := by simpa using hl
    exact ⟨A2, c2, by rw [List.getElem?_append_right (by omega), show i - vs.length = 0 by omega]; rfl, hc.1, hc.2, hb, hR.frT hF hT⟩
theorem dk_notT {w : World} {base g bs bf : Nat} {v : Value} {p : DP} {t : Nat} (h : Dk w base g bs bf v p) (h1 : 88 ≠ t) (h2 : 3 ≠ t) : ∀ k, DkOurs g bs bf v k → ¬ IsT t w k := by
  rintro k (rfl | rfl | rfl | hk)
  · exact IsT.not_blk h.blk h1
  · exact IsT.not_map h.ms
  · exact IsT.not_map h.mw
  · exact IsT.not_own h.own h2 hk
theorem nextL_eq {p : DP} {l : LG} {b : List Int} (h : nextL p l = some b) : l.Next p ∧ b = l.body p := by
  unfold nextL at h
  split at h
  · next hx => injection h with h; exact ⟨hx, h.symm⟩
  · cases h
theorem step_used {p : DP} (hp : p.Ok) {l : LG} {b : List Int} (h : nextL p l = some b) : l.used + 1 ≤ (l.step b).used := by
  obtain ⟨hx, rfl⟩ := nextL_eq h
  have := hx.pos
  show l.used + 1 ≤ l.used + secN (l.body p).length
  rw [LG.body_len hp hx.pos]
  omega
def FreshSays (w : World) (gd base bs bf : Nat) (v : Value) (l : LG) (r : DP × Int) (n : Nat) (e : Ending) (w' : World) : Prop :=
  if r.2 = 0 then ∃ gl v', e = .returned (.tuple #[.pointer (some ⟨gl, 0, none⟩), .nilIface]) ∧ w.heap.size ≤ gl ∧ Lg w' gl gd l n ∧ DkTo w base gd bs bf v r.1 w' v'
  else ∃ v', e = .returned (.tuple #[.pointer none, errD r.2]) ∧ DkTo w base gd bs bf v r.1 w' v'
theorem wipeL_size (p : DP) (l : LG) : (wipeL p l).1.size = p.size := by
  unfold wipeL
  dsimp only
  split
  · exact wipeN_size _ _ _
  · split
    · exact (DP.doSync_size _).trans (wipeN_size _ _ _)
    · exact wipeN_size _ _ _
set_option maxRecDepth 100000 in
set_option maxHeartbeats 2000000 in
theorem fresh_good {w : World} {gd base bs bf : Nat} {v : Value} {p : DP} (hD : Dk w base gd bs bf v p) (a b c : Nat) (hb : 1 ≤ b) (hab : a + b ≤ p.size) (hc : c < 4294967296) (hc0 : c ≠ 0) :
    Calls Tryd.prog 21 #[.pointer (some ⟨gd, 0, none⟩), .int .i64 a, .int .i64 b, .int .u32 c] w (FreshSays w gd base bs bf v (lg0 a b c) (wipeL p (lg0 a b c)) p.size) := by
  have HA := Lib.hid (at_good hD a b c hb hab hc hc0)
  have HD := Lib.hid hD
  obtain ⟨r, hr⟩ : ∃ r, r = wipeL p (lg0 a b c) := ⟨_, rfl⟩
  rw [← hr]
  have HR := Lib.hid hr
  clear hD hb hab hc hc0 hr
  go_enter Tryd.func21, Tryd.ntmps21
  go_wp2_with fail
  refine HA.out.mono ?_
  rintro e w1 ⟨rfl, hLg, hN1⟩
  obtain ⟨gl, hgl⟩ : ∃ gl, gl = w.heap.size := ⟨_, rfl⟩
  rw [← hgl] at hLg ⊢
  have HGL : Hid (w.heap.size ≤ gl) := Lib.hid (by omega)
  have HLG := Lib.hid hLg
  have HN1 := Lib.hid hN1
  clear hgl hLg hN1
  go_wp2_with fail
  refine (wipe_any HLG.out (HD.out.new HN1.out)).mono ?_
  rintro e w2 ⟨he, v2, hD2⟩
  rw [← HR.out] at he hD2
  subst he
  have HD2 : Hid (DkTo w base gd bs bf v r.1 w2 v2) := Lib.hid ((DkTo.same HD.out HN1.out).tr hD2)
  have HLG2 : Hid (Lg w2 gl gd (lg0 a b c) p.size) := Lib.hid (HLG.out.fr hD2.fr (lg_apart (HD.out.new HN1.out) HLG.out))
  clear hD2
  by_cases h0 : r.2 = 0
  · have H0 := Lib.hid h0
    rw [h0, errD_0]
    clear h0
    go_wp2_with fail
    go_ret2
    unfold FreshSays
    rw [if_pos H0.out]
    exact ⟨gl, v2, rfl, HGL.out, HLG2.out, HD2.out⟩
  · have H0 := Lib.hid h0
    obtain ⟨ev, hev⟩ : ∃ ev, ev = r.2 := ⟨_, rfl⟩
    have HEV := Lib.hid hev
    rw [errD_n h0, ← hev]
    clear h0 hev
    go_wp2_with fail
    go_ret2
    unfold FreshSays
    rw [if_neg H0.out, errD_n H0.out, ← HEV.out]
    exact ⟨v2, rfl, HD2.out⟩
theorem runs_used {p : DP} (hp : p.Ok) {l : LG} {k : Nat} (h : (runs p l k).2.length = k ∧ k ≤ (runs p l k).1.used) {b : List Int} (hn : nextL p (runs p l k).1 = some b) : (runs p l (k + 1)).2.length = k + 1 ∧ k + 1 ≤ (runs p l (k + 1)).1.used := by
  rw [runs_some hn]
  have := step_used hp hn
  exact ⟨by simp [h.1], by dsimp only; omega⟩
theorem runL_at {p : DP} {l : LG} {k : Nat} (hk : k ≤ l.size + 1) (h : nextL p (runs p l k).1 = none) : runL p l = runs p l k := by
  obtain ⟨j, hj⟩ : ∃ j, l.size + 1 = k + j := ⟨l.size + 1 - k, by omega⟩
  unfold runL
  rw [hj, runs_none h j]
/-- What is known at the head of a round: the records that are known, the one that was read last. -/
structure OpI (w : World) (gl gd : Nat) (p : DP) (l : LG) (k : Nat) (out b : Value) (ok : Bool) (wr : World) : Prop where
  new : New w wr
  recs : Recs w.heap.size wr out (runs p l k).2
  len : (runs p l k).2.length = k ∧ k ≤ (runs p l k).1.used
  yes : ok = true → ∃ bd A c, nextL p (runs p l k).1 = some bd ∧ b = .slice A bd.length c ∧ bd.length ≤ c ∧ c ≤ maxLen ∧ Byt bd ∧ Rd (RB w.heap.size wr) wr 1 A bd.length (u8s bd) ∧ Lg wr gl gd (runs p l (k + 1)).1 p.size
  no : ok = false → nextL p (runs p l k).1 = none ∧ Lg wr gl gd (runs p l k).1 p.size
/-- What next leaves, as the next head's facts. -/
theorem opI_of {w wr w' : World} {gl gd : Nat} {p : DP} {l : LG} {k : Nat} {out : Value} {e : Ending} (hgl : w.heap.size ≤ gl) (hN : New w wr) (hLg : Lg wr gl gd (runs p l k).1 p.size) (hR : Recs w.heap.size wr out (runs p l k).2) (hl : (runs p l k).2.length = k ∧ k ≤ (runs p l k).1.used)
    (h : NextSays (runs p l k).1 (nextL p (runs p l k).1) wr gl gd p.size e w') : ∃ A n c ok, e = .returned (.tuple #[.slice A n c, .bool ok]) ∧ OpI w gl gd p l k out (.slice A n c) ok w' := by
  cases hn : nextL p (runs p l k).1 with
  | none =>
    rw [hn] at h
    obtain ⟨he, hN'⟩ := h
    exact ⟨none, 0, 0, false, he, hN.tr hN', hR.new hN', hl, fun h => by (cases h), fun _ => ⟨hn, hLg.new hN'⟩⟩
  | some bd =>
    rw [hn] at h
    obtain ⟨A, c, he, h1, h2, h3, h4, h5, h6⟩ := h
    refine ⟨A, bd.length, c, true, he, hN.fr h6 (fun j hj => by (have hj' : j = gl := hj; omega)), hR.fr h6 (fun j hj _ => ?_), hl, fun _ => ⟨bd, A, c, hn, rfl, h1, h2, h3, h4.imp (fun j hj => ⟨Nat.le_trans hN.size hj.1, hj.2⟩), by rw [runs_some hn]; exact h5⟩, fun h => by (cases h)⟩
    have hj' : j = gl := hj
    rw [hj']
    exact ⟨IsT.not_blk hLg.blk (by decide), IsT.not_blk hLg.blk (by decide)⟩
/-- Open's answer. -/
def OpenSays (w : World) (gd base bs bf : Nat) (v : Value) (r : LG × List (List Int)) (x : DP × Int) (n : Nat) (e : Ending) (w' : World) : Prop :=
  if x.2 = 0 then ∃ gl A c v', e = .returned (.tuple #[.pointer (some ⟨gl, 0, none⟩), .slice A r.2.length c, .nilIface]) ∧ w.heap.size ≤ gl ∧ Lg w' gl gd r.1 n ∧ Recs w.heap.size w' (.slice A r.2.length c) r.2 ∧ DkTo w base gd bs bf v x.1 w' v'
  else ∃ v', e = .returned (.tuple #[.pointer none, .slice none 0 0, errD x.2]) ∧ DkTo w base gd bs bf v x.1 w' v'
set_option maxRecDepth 100000 in
set_option maxHeartbeats 4000000 in
theorem open_good {w : World} {gd base bs bf : Nat} {v : Value} {p : DP} (hD : Dk w base gd bs bf v p) (hL : ShaIn 3 2 w) (a b c : Nat) (hb : 1 ≤ b) (hab : a + b ≤ p.size) (hc : c < 4294967296) (hc0 : c ≠ 0) :
    Calls Tryd.prog 12 #[.pointer (some ⟨gd, 0, none⟩), .int .i64 a, .int .i64 b, .int .u32 c] w (OpenSays w gd base bs bf v (runL p (lg0 a b c)) (wipeL p (runL p (lg0 a b c)).1) p.size) := by
  have HA := Lib.hid (at_good hD a b c hb hab hc hc0)
  have HD := Lib.hid hD
  have HL := Lib.hid hL
  have HOK : Hid (p.Ok ∧ (lg0 a b c).Ok p.size) := Lib.hid ⟨hD.ok, lg0_ok hab hc⟩
  have hsz16 : b ≤ 16384 := by have := hD.ok.s2; omega
  obtain ⟨l, hl⟩ : ∃ l, l = lg0 a b c := ⟨_, rfl⟩
  have HLZ : Hid (l.size = b) := Lib.hid (by rw [hl]; rfl)
  rw [← hl] at HA HOK ⊢
  obtain ⟨r, hr⟩ : ∃ r, r = runL p l := ⟨_, rfl⟩
  obtain ⟨x, hx⟩ : ∃ x, x = wipeL p r.1 := ⟨_, rfl⟩
  rw [← hr, ← hx]
  have HR := Lib.hid hr
  have HX := Lib.hid hx
  clear hD hb hab hc hc0 hr hx hl hL
  go_enter Tryd.func12, Tryd.ntmps12
  go_wp2_with fail
  refine HA.out.mono ?_
  rintro e w1 ⟨rfl, hLg, hN1⟩
  obtain ⟨gl, hgl⟩ : ∃ gl, gl = w.heap.size := ⟨_, rfl⟩
  rw [← hgl] at hLg ⊢
  have HGL : Hid (w.heap.size ≤ gl) := Lib.hid (by omega)
  have HLG := Lib.hid hLg
  have HN1 := Lib.hid hN1
  clear hgl hLg hN1
  go_wp2_with fail
  refine (next_any (l := (runs p l 0).1) HLG.out (HD.out.new HN1.out) (HL.out.new HN1.out)).mono ?_
  intro e w2 h2
  obtain ⟨A2, n2, c2, ok2, rfl, hI⟩ := opI_of (out := .slice none 0 0) (k := 0) (l := l) HGL.out HN1.out HLG.out (Recs.nil _ _) ⟨rfl, Nat.zero_le _⟩ h2
  have HI := Lib.hid hI
  clear hI h2
  go_wp2_with fail
  go_loopw [13, 14, 15] (fun out b ok wr => ∃ (k : Nat) (A : Option Addr) (d : Nat) (B : Option Addr) (n e : Nat) (o : Bool), k ≤ 16384 ∧ out = .slice A k d ∧ b = .slice B n e ∧ ok = .bool o ∧ Hid (OpI w gl gd p l k (.slice A k d) (.slice B n e) o wr)) (fun out _ _ _ => 16400 - (match out with | .slice _ n _ => n | _ => 0))
  case atStart => exact ⟨0, none, 0, A2, n2, c2, ok2, Nat.zero_le _, rfl, rfl, rfl, HI⟩
  case round =>
    clear HI
    obtain ⟨k, A, d, B, n, e, o, hk, rfl, rfl, rfl, HI⟩ := hrel
    cases o with
    | true =>
      obtain ⟨bd, B', e', hn, hbv, h1, h2, h3, h4, h5⟩ := HI.out.yes rfl
      injection hbv with hb1 hb2 hb3
      subst hb1 hb3
      obtain ⟨vs, hvs1, hvs2⟩ := HI.out.recs.row
      have hkl : (runs p l k).2.length = k := HI.out.len.1
      rw [hkl] at hvs1
      have HVS := Lib.hid (And.intro hvs1 hvs2)
      have HKL := Lib.hid hkl
      have HNX := Lib.hid hn
      have HLEN := Lib.hid (runs_used HOK.out.1 HI.out.len hn)
      have hks : k + 1 ≤ 16384 := by
        have h6 := (runs_ok HOK.out.1 HOK.out.2 (k + 1)).1.used
        have h7 := (runs_ok HOK.out.1 HOK.out.2 (k + 1)).2.1
        have := HLEN.out.2
        have := HLZ.out
        omega
      have H12 := Lib.hid (And.intro h1 h2)
      have H3 := Lib.hid h3
      have H4 := Lib.hid h4
      have H5 := Lib.hid h5
      have HNB := Lib.hid hb2
      clear hvs1 hvs2 hkl hn h1 h2 h3 h4 h5 hb2
      go_wp2_with ((with_reducible refine atOp ⟨some 42, _, _, _, _, _⟩ ?_); refine wpList_app elBs _ rfl (.tmp 39) (.tmp 41) rfl w.heap.size (.slice A k d) k vs rfl (New.own (New.al (New.refl wr) _) HVS.out.1) (some ⟨wr.heap.size, 0, none⟩) 1 1 [.slice B n e] rfl (Rd.ofBlk (p := fun _ => True) (Blk.new wr 43 #[.slice B n e]) 1 1 rfl trivial) (by simp [Value.oneCell']) (by unfold maxLen; omega) (by omega) (New.al HI.out.new _).size ?_; intro A5 d5 w5 hO5 hF5 hA5; have HF5 := Lib.hid hF5; have HO5 := Lib.hid hO5; clear hO5 hF5 hA5)
      have HN5 : Hid (New w w5) := Lib.hid ((New.al HI.out.new _).fr HF5.out (fun j hj => (own_lt HVS.out.1 j hj).1))
      have HLG5 : Hid (Lg w5 gl gd (runs p l (k + 1)).1 p.size) := Lib.hid ((H5.out.new (New.al (New.refl wr) _)).fr HF5.out (fun hs => own_ne HVS.out.1 H5.out.blk (by decide) hs))
      have HRC5 : Hid (Recs w.heap.size w5 (.slice A5 (k + 1) d5) (runs p l (k + 1)).2) := Lib.hid (by
        rw [runs_some HNX.out]
        have hN : New wr (wr.alloc (.cells #[.slice B n e] 43)) := New.al (New.refl wr) _
        exact Recs.push (w := wr.alloc (.cells #[.slice B n e] 43)) ⟨New.own hN HVS.out.1, fun i l hl => by
          obtain ⟨A3, c3, g1, g2, g3, g4, g5⟩ := HVS.out.2 i l hl
          exact ⟨A3, c3, g1, g2, g3, g4, g5.frT (S := NoB) (hN.toFr _) (fun _ x => x.elim)⟩⟩ HKL.out.symm (by rw [← HNB.out]; exact HO5.out) HF5.out H12.out H3.out (H4.out.frT (S := NoB) (hN.toFr _) (fun _ x => x.elim)))
      refine (next_any (l := (runs p l (k + 1)).1) HLG5.out (HD.out.new HN5.out) (HL.out.new HN5.out)).mono ?_
      intro ee w6 h6
      obtain ⟨A6, n6, c6, ok6, rfl, hI6⟩ := opI_of (out := .slice A5 (k + 1) d5) HGL.out HN5.out HLG5.out HRC5.out HLEN.out h6
      have HI6 := Lib.hid hI6
      clear hI6 h6
      go_wp2_with fail
      go_roundw
      case rel => exact ⟨k + 1, A5, d5, A6, n6, c6, ok6, hks, rfl, rfl, rfl, HI6⟩
      case measure => simp; omega
    | false =>
      have hnn := HI.out.no rfl
      have hkl : (runs p l k).2.length = k := HI.out.len.1
      have hks : k ≤ l.size := by
        have h6 := (runs_ok HOK.out.1 HOK.out.2 k).1.used
        have h7 := (runs_ok HOK.out.1 HOK.out.2 k).2.1
        have := HI.out.len.2
        omega
      have HRK : Hid (r = runs p l k) := Lib.hid (by rw [HR.out]; exact runL_at (by omega) hnn.1)
      have HKL : Hid (r.2.length = k) := Lib.hid (by rw [HRK.out]; exact hkl)
      have HLGr : Hid (Lg wr gl gd r.1 p.size) := Lib.hid (by rw [HRK.out]; exact hnn.2)
      clear hnn hkl hks
      go_wp2_with fail
      refine (wipe_any HLGr.out (HD.out.new HI.out.new)).mono ?_
      rintro ee w2 ⟨he, v2, hD2⟩
      rw [← HX.out] at he hD2
      subst he
      have HD2 : Hid (DkTo w base gd bs bf v x.1 w2 v2) := Lib.hid ((DkTo.same HD.out HI.out.new).tr hD2)
      have HLG2 : Hid (Lg w2 gl gd r.1 p.size) := Lib.hid (HLGr.out.fr hD2.fr (lg_apart (HD.out.new HI.out.new) HLGr.out))
      have HRC2 : Hid (Recs w.heap.size w2 (.slice A k d) r.2) := Lib.hid (by
        rw [HRK.out]
        exact HI.out.recs.fr hD2.fr (fun j hj _ => ⟨dk_notT (HD.out.new HI.out.new) (by decide) (by decide) j hj, dk_notT (HD.out.new HI.out.new) (by decide) (by decide) j hj⟩))
      clear hD2
      by_cases h0 : x.2 = 0
      · have H0 := Lib.hid h0
        rw [h0, errD_0]
        clear h0
        go_wp2_with fail
        refine bodyPost_ret (v := .tuple #[.pointer (some ⟨gl, 0, none⟩), .slice A k d, .nilIface]) (by simp [results, Tryd.results12, go_sem]) rfl ?_
        unfold OpenSays
        rw [if_pos H0.out, HKL.out]
        exact ⟨gl, A, d, v2, rfl, HGL.out, HLG2.out, HRC2.out, HD2.out⟩
      · have H0 := Lib.hid h0
        obtain ⟨ev, hev⟩ : ∃ ev, ev = x.2 := ⟨_, rfl⟩
        have HEV := Lib.hid hev
        rw [errD_n h0, ← hev]
        clear h0 hev
        go_wp2_with fail
        refine bodyPost_ret (v := .tuple #[.pointer none, .slice none 0 0, .iface 63 (.int .i64 ev)]) (by simp [results, Tryd.results12, go_sem]) rfl ?_
        unfold OpenSays
        rw [if_neg H0.out, errD_n H0.out, ← HEV.out]
        exact ⟨v2, rfl, HD2.out⟩
end Go.Proofs.YteeclfejgpgooaaDoor
/- A frame's part as a sector. No condition but the part's length. -/
namespace Go.Proofs.YteeclfejgpgooaaDoor
set_option linter.unusedVariables false
set_option linter.unusedSimpArgs false
set_option linter.constructorNameAsVariable false
open Go.RowKit Go.Sort

theorem splice_pad {x : List Int} (h : x.length ≤ 64) : splice (u8s sec0) 0 (u8s x) = u8s (pad64 x) := by
  have e : u8s sec0 = List.replicate 64 (Value.int .u8 0) := by unfold u8s sec0; rw [List.map_replicate]
  have e2 : u8s (pad64 x) = u8s x ++ List.replicate (64 - x.length) (Value.int .u8 0) := by unfold u8s pad64; rw [List.map_append, List.map_replicate]
  unfold splice
  rw [e, e2, List.take_zero, List.nil_append, Nat.zero_add, u8s_len, List.drop_replicate]
theorem results_row2' {fn : Func} {p q : Tmp} {ty : TypeId} {P : Program} (h : fn.results = #[.cell p ty, .tmp q]) (tmps : Array Value) (w : World) (g : Nat) (cs : Array Value) (d : TypeDesc)
    (hp : tmps.getD p undef = .pointer (some ⟨g, 0, none⟩)) (hg : Blk w g ty cs) (hu : P.underlying ty = some d) (hd : d.isRow = true) (hi : (P.info? ty).map (·.size) = some cs.size) :
    (results fn tmps).run P w = .ok (.tuple #[.agg cs, tmps.getD q undef]) w := by
  have hp' : tmps[p]?.getD undef = .pointer (some ⟨g, 0, none⟩) := by simpa using hp
  simp [results, h, hp', asAddr, run_loadVar_row w g ty ty cs (0, 0) _ hg hu (by cases d <;> first | rfl | (simp [TypeDesc.isRow] at hd)) hi]
set_option maxHeartbeats 2000000 in
set_option maxRecDepth 100000 in
theorem sector_any {q : Nat → Prop} {w : World} {gl gd n : Nat} {l : LG} (h : Lg w gl gd l n) (place kind : Nat) (hp : place < 4294967296) (hk : kind < 256) (A : Option Addr) (m c : Nat) (b : List Int) (hR : Rd q w 1 A m (u8s b)) (hb : Byt b) (hm : m ≤ 55) :
    Calls Tryd.prog 67 #[.pointer (some ⟨gl, 0, none⟩), .int .i64 place, .int .i64 kind, .slice A m c] w fun e w' => e = .returned (.tuple #[.agg (secA (pad64 (beL 4 l.gen ++ beL 4 place ++ beL 1 kind ++ b))), .nilIface]) ∧ New w w' := by
  have HLG := Lib.hid h
  have HR := Lib.hid hR
  have HB := Lib.hid hb
  have HX : Hid (b.length = m) := Lib.hid (by have := hR.1; rw [u8s_len] at this; omega)
  have c3 := h.c3
  have hgen := h.ok.gen
  obtain ⟨gen, hgn⟩ : ∃ gen, gen = l.gen := ⟨_, rfl⟩
  rw [← hgn] at c3 hgen ⊢
  have HNUM4 : Hid (gen < 256 ^ 4 ∧ place < 256 ^ 4 ∧ kind < 256 ^ 1) := Lib.hid ⟨by omega, by omega, by omega⟩
  have k2 : IntKind.u64.wrap (place : Int) = (place : Int) := by rw [IntKind.wrap_u64]; omega
  have k3 : IntKind.u64.wrap (kind : Int) = (kind : Int) := by rw [IntKind.wrap_u64]; omega
  have k1 : IntKind.u64.wrap (gen : Int) = (gen : Int) := by rw [IntKind.wrap_u64]; omega
  obtain ⟨rs, hrs⟩ : ∃ rs, rs = beL 4 gen ++ beL 4 place ++ beL 1 kind ++ b := ⟨_, rfl⟩
  have HRS := Lib.hid hrs
  have hrl : rs.length = m + 9 := by rw [hrs]; simp only [List.length_append, beL_len, HX.out]; omega
  have HRL := Lib.hid hrl
  rw [← hrs]
  clear h hR hb hgn hp hk hrs hrl hgen
  go_enter Tryd.func67, Tryd.ntmps67
  go_upto_region 3 with fail
  obtain ⟨w1, hw1⟩ : ∃ w1 : World, w1 = ((w.alloc (.cells #[.int .u8 0, .int .u8 0, .int .u8 0, .int .u8 0, .int .u8 0, .int .u8 0, .int .u8 0, .int .u8 0, .int .u8 0, .int .u8 0, .int .u8 0, .int .u8 0, .int .u8 0, .int .u8 0, .int .u8 0, .int .u8 0, .int .u8 0, .int .u8 0, .int .u8 0, .int .u8 0, .int .u8 0, .int .u8 0, .int .u8 0, .int .u8 0, .int .u8 0, .int .u8 0, .int .u8 0, .int .u8 0, .int .u8 0, .int .u8 0, .int .u8 0, .int .u8 0, .int .u8 0, .int .u8 0, .int .u8 0, .int .u8 0, .int .u8 0, .int .u8 0, .int .u8 0, .int .u8 0, .int .u8 0, .int .u8 0, .int .u8 0, .int .u8 0, .int .u8 0, .int .u8 0, .int .u8 0, .int .u8 0, .int .u8 0, .int .u8 0, .int .u8 0, .int .u8 0, .int .u8 0, .int .u8 0, .int .u8 0, .int .u8 0, .int .u8 0, .int .u8 0, .int .u8 0, .int .u8 0, .int .u8 0, .int .u8 0, .int .u8 0, .int .u8 0] 35)).alloc (.cells #[.int .u8 0, .int .u8 0, .int .u8 0, .int .u8 0, .int .u8 0, .int .u8 0, .int .u8 0, .int .u8 0, .int .u8 0, .int .u8 0, .int .u8 0, .int .u8 0, .int .u8 0, .int .u8 0, .int .u8 0, .int .u8 0, .int .u8 0, .int .u8 0, .int .u8 0, .int .u8 0, .int .u8 0, .int .u8 0, .int .u8 0, .int .u8 0, .int .u8 0, .int .u8 0, .int .u8 0, .int .u8 0, .int .u8 0, .int .u8 0, .int .u8 0, .int .u8 0, .int .u8 0, .int .u8 0, .int .u8 0, .int .u8 0, .int .u8 0, .int .u8 0, .int .u8 0, .int .u8 0, .int .u8 0, .int .u8 0, .int .u8 0, .int .u8 0, .int .u8 0, .int .u8 0, .int .u8 0, .int .u8 0, .int .u8 0, .int .u8 0, .int .u8 0, .int .u8 0, .int .u8 0, .int .u8 0, .int .u8 0, .int .u8 0, .int .u8 0, .int .u8 0, .int .u8 0, .int .u8 0, .int .u8 0, .int .u8 0, .int .u8 0, .int .u8 0] 35)).alloc (.cells #[.nilIface, .slice none 0 0] 107) := ⟨_, rfl⟩
  obtain ⟨b8, hb8⟩ : ∃ b8, b8 = w.heap.size := ⟨_, rfl⟩
  obtain ⟨b10, hb10⟩ : ∃ b10, b10 = w.heap.size + 1 := ⟨_, rfl⟩
  obtain ⟨g, hg⟩ : ∃ g, g = w.heap.size + 1 + 1 := ⟨_, rfl⟩
  have hz : (#[.int .u8 0, .int .u8 0, .int .u8 0, .int .u8 0, .int .u8 0, .int .u8 0, .int .u8 0, .int .u8 0, .int .u8 0, .int .u8 0, .int .u8 0, .int .u8 0, .int .u8 0, .int .u8 0, .int .u8 0, .int .u8 0, .int .u8 0, .int .u8 0, .int .u8 0, .int .u8 0, .int .u8 0, .int .u8 0, .int .u8 0, .int .u8 0, .int .u8 0, .int .u8 0, .int .u8 0, .int .u8 0, .int .u8 0, .int .u8 0, .int .u8 0, .int .u8 0, .int .u8 0, .int .u8 0, .int .u8 0, .int .u8 0, .int .u8 0, .int .u8 0, .int .u8 0, .int .u8 0, .int .u8 0, .int .u8 0, .int .u8 0, .int .u8 0, .int .u8 0, .int .u8 0, .int .u8 0, .int .u8 0, .int .u8 0, .int .u8 0, .int .u8 0, .int .u8 0, .int .u8 0, .int .u8 0, .int .u8 0, .int .u8 0, .int .u8 0, .int .u8 0, .int .u8 0, .int .u8 0, .int .u8 0, .int .u8 0, .int .u8 0, .int .u8 0] : Array Value) = secA sec0 := by rfl
  have HN1 : Hid (New w w1) := Lib.hid (by rw [hw1]; exact New.al (New.al (New.al (New.refl _) _) _) _)
  have HB8 : Hid (Blk w1 b8 35 (secA sec0)) := Lib.hid (by rw [hw1, hb8, ← hz]; exact ((Blk.new _ _ _).alloc _).alloc _)
  have HB10 : Hid (Blk w1 b10 35 (secA sec0)) := Lib.hid (by rw [hw1, hb10, ← hz]; exact (Blk.new' _ _ _ (by simp)).alloc _)
  have HW1 : Hid (WrIn w1 g g []) := Lib.hid ⟨⟨none, 0, by rw [hw1, hg]; exact Blk.new' _ _ _ (by simp), World.ownsRow_nil _ _ _ _⟩, Nat.le_refl _, fun x hx => nomatch hx⟩
  have HZ : Hid (b8 = w.heap.size ∧ b10 = w.heap.size + 1 ∧ g = w.heap.size + 2) := Lib.hid ⟨hb8, hb10, hg⟩
  rw [← hw1, ← hg, ← hb10, ← hb8]
  clear hw1 hb8 hb10 hg hz
  have c3w : w1.cell? ⟨gl, 3, none⟩ = some (.int .u32 gen) := HN1.out.cell_ c3
  have n0 : ((4 : Nat) : Int) = 4 := rfl
  go_wp2_with fail
  refine (wnum_any HW1.out gen 4 (by omega) HNUM4.out.1 (by simp)).mono ?_
  rintro e w2 ⟨rfl, hW2, hF2⟩
  have HW2 := Lib.hid hW2
  have HF2 : Hid (FW g g w1 w2) := Lib.hid hF2
  clear hW2 hF2
  go_wp2_with fail
  refine (wnum_any HW2.out place 4 (by omega) HNUM4.out.2.1 (by simp [beL_len])).mono ?_
  rintro e w3 ⟨rfl, hW3, hF3⟩
  have HW3 := Lib.hid hW3
  have HF3 : Hid (FW g g w1 w3) := Lib.hid (HF2.out.tr hF3)
  clear hW3 hF3
  go_wp2_with fail
  refine (wnum_any HW3.out kind 1 (by omega) HNUM4.out.2.2 (by simp [beL_len])).mono ?_
  rintro e w4 ⟨rfl, hW4, hF4⟩
  have HW4 := Lib.hid hW4
  have HF4 : Hid (FW g g w1 w4) := Lib.hid (HF3.out.tr hF4)
  clear hW4 hF4
  have HN4 : Hid (New w w4) := Lib.hid (HN1.out.fr HF4.out (fun k hk => by
    have := HZ.out
    rcases hk with rfl | hk
    · omega
    · have := hk.1; omega))
  go_wp2_with fail
  refine (wraw_any HW4.out A m c b (HN4.out.rd HR.out) HB.out (by simp [beL_len]; omega)).mono ?_
  rintro e w5 ⟨rfl, hW5, hF5⟩
  have HW5 : Hid (WrIn w5 g g rs) := Lib.hid (by
    have e : [] ++ beL 4 gen ++ beL 4 place ++ beL 1 kind ++ b = rs := by rw [HRS.out]; rfl
    rw [← e]
    exact hW5)
  have HF5 : Hid (FW g g w1 w5) := Lib.hid (HF4.out.tr hF5)
  clear hW5 hF5
  go_wp2_with fail
  refine (wdone_any HW5.out (by rw [HRL.out]; omega)).mono ?_
  rintro e w6 ⟨⟨B, d, rfl, hO⟩, hN6⟩
  rw [HRL.out] at hO ⊢
  have HO := Lib.hid hO
  have HN6 : Hid (New w5 w6) := Lib.hid hN6
  have HF6 : Hid (FW g g w1 w6) := Lib.hid (HF5.out.tr (FW.new hN6))
  have HNw6 : Hid (New w w6) := Lib.hid (HN1.out.fr HF6.out (fun k hk => by
    have := HZ.out
    rcases hk with rfl | hk
    · omega
    · have := hk.1; omega))
  clear hO hN6
  have HB86 : Hid (Blk w6 b8 35 (secA sec0)) := Lib.hid (HF6.out.blk HB8.out (by decide) (by have := HZ.out; omega))
  have HB106 : Hid (Blk w6 b10 35 (u8s sec0).toArray) := Lib.hid (HF6.out.blk HB10.out (by decide) (by have := HZ.out; omega))
  obtain ⟨m9, hm9⟩ : ∃ m9, m9 = m + 9 := ⟨_, rfl⟩
  have hm64 : m9 ≤ 64 := by omega
  have HM9 := Lib.hid hm9
  rw [← hm9] at HO ⊢
  have hp64 : (secA (pad64 rs)).size = 64 := by rw [secA_size, pad64_len (by rw [HRL.out]; omega)]
  have HP64 := Lib.hid hp64
  clear hm9 hp64
  have HSP : Hid (splice (u8s sec0) 0 (u8s rs) = u8s (pad64 rs)) := Lib.hid (splice_pad (by rw [HRL.out]; have := HM9.out; omega))
  go_wp2_with (first
    | ((with_reducible refine atOp ⟨some 41, _, _, _, _, _⟩ ?_); refine wpList_copyF (q := fun k => (Value.slice B m9 d).ownBlock = some k) rfl (.tmp 39) (.tmp 40) 43 43 rfl 5 Tryd.underlying43 rfl b10 0 64 64 B m9 d rfl rfl (u8s sec0) 35 HB106.out (u8s rs) (by rw [u8s_len, HRL.out, ← HM9.out]; exact (Nat.min_eq_left hm64).symm) ⟨m9, u8s rs, Rd.own HO.out rfl, List.take_length⟩ (by rw [u8s_len, u8s_len, HRL.out, ← HM9.out, sec0_ok.1]; omega) (u8s_one _) ?_; intro w7 hb7 hf7; rw [HSP.out] at hb7; have HB7 : Hid (Blk w7 b10 35 (secA (pad64 rs))) := Lib.hid hb7; have HF7 := Lib.hid hf7; have HB87 : Hid (Blk w7 b8 35 (secA sec0)) := Lib.hid (HB86.out.fr hf7 (by have := HZ.out; omega)); clear hb7 hf7)
    | ((with_reducible refine atOp ⟨some 42, .load _ _, _, _, _, _⟩ ?_); refine wpList_load_any rfl _ rfl Tryd.underlying35 rfl (by rw [HP64.out]; rfl) rfl HB7.out ?_)
    | ((with_reducible refine atOp ⟨none, .store 35 (.tmp 8) _, _, _, _, _⟩ ?_); refine wpList_store_any rfl (.tmp 8) (.tmp 42) rfl (by rw [HP64.out]; rfl) rfl rfl HB87.out (by rw [HP64.out]; rfl) (secA_one _) ?_; intro w8 hb8 hf8; have HB88 := Lib.hid hb8; have HF8 := Lib.hid hf8; clear hb8 hf8))
  exact bodyPost_ret (results_row2' rfl _ _ b8 _ _ rfl HB88.out Tryd.underlying35 rfl (by rw [HP64.out]; rfl)) rfl ⟨rfl, (HNw6.out.fr HF7.out (fun k hk => by have := HZ.out; omega)).fr HF8.out (fun k hk => by have := HZ.out; omega)⟩
end Go.Proofs.YteeclfejgpgooaaDoor
/- The reference's frame of a record in sectors. Its tables are as they were laid. No condition else but that the numbers fit. -/
namespace Go.Proofs.YteeclfejgpgooaaDoor
set_option linter.unusedVariables false
set_option linter.unusedSimpArgs false
set_option linter.constructorNameAsVariable false
open Go.RowKit Go.Sort

/-- The reference's log as a value, its tag in memory. -/
def rlV (l : LG) (A : Option Addr) (c : Nat) : Array Value := #[.int .i64 l.first, .int .i64 l.size, .int .i64 l.used, .int .u32 l.gen, .slice A 16 c, .bool l.broken]
structure RlIn (w : World) (l : LG) (A : Option Addr) : Prop where
  tag : RdT 5 w 1 A 16 (u8s l.tag)
  byt : Byt l.tag
  gen : l.gen < 4294967296
  num : l.first ≤ 100000 ∧ l.size ≤ 100000 ∧ l.used ≤ 100000
theorem RlIn.new {w w' : World} {l : LG} {A : Option Addr} (h : RlIn w l A) (hN : New w w') : RlIn w' l A := ⟨h.tag.new hN, h.byt, h.gen, h.num⟩
theorem RlIn.fr {w w' : World} {S : Nat → Prop} {l : LG} {A : Option Addr} (h : RlIn w l A) (hF : Fr S w w') (hS : ∀ k, S k → ¬ IsT 5 w k) : RlIn w' l A := ⟨h.tag.fr hF hS, h.byt, h.gen, h.num⟩
theorem elSec : ElemOf Tryd.prog 22 35 64 64 := ElemOf.mk' (z := .agg (secA sec0)) Tryd.underlying22 (by kernel_rfl) rfl (by decide)
def secF (l : LG) (b : List Int) (k : Nat) : List Value := (List.range k).flatMap fun i => u8s (l.sec b i)
theorem secF_succ (l : LG) (b : List Int) (k : Nat) : secF l b (k + 1) = secF l b k ++ u8s (l.sec b k) := by simp [secF, List.range_succ]
/-- A part, j bytes of it. -/
def LG.rawJ (l : LG) (b : List Int) (k j : Nat) : List Int := l.hdr k ++ ((l.frame b).drop (55 * k)).take j
theorem LG.rawJ_len (l : LG) (b : List Int) (k j : Nat) (h : 55 * k + j ≤ (l.frame b).length) : (l.rawJ b k j).length = 9 + j := by
  unfold LG.rawJ
  rw [List.length_append, LG.hdr_len, List.length_take, List.length_drop]
  omega
theorem LG.rawJ_succ (l : LG) (b : List Int) (k j : Nat) (h : 55 * k + j < (l.frame b).length) : l.rawJ b k (j + 1) = l.rawJ b k j ++ [at_ (l.frame b) (55 * k + j)] := by
  unfold LG.rawJ at_
  have hl : j < ((l.frame b).drop (55 * k)).length := by rw [List.length_drop]; omega
  rw [List.take_succ_eq_append_getElem hl, List.append_assoc, List.getElem_drop, List.getD_eq_getElem?_getD, List.getElem?_eq_getElem h]
  rfl
theorem LG.rawJ_all (l : LG) (b : List Int) (k j : Nat) (h : j = 55 ∨ (j ≤ 55 ∧ (l.frame b).length ≤ 55 * k + j)) : l.rawJ b k j = l.raw b k := by
  unfold LG.rawJ LG.raw
  rcases h with rfl | ⟨h1, h2⟩
  · rfl
  · have hl : ((l.frame b).drop (55 * k)).length ≤ j := by rw [List.length_drop]; omega
    rw [List.take_of_length_le hl, List.take_of_length_le (by omega)]
/-- What is known in a round over a sector's bytes. -/
structure FjI (W1 wr : World) (l : LG) (b : List Int) (k j : Nat) (x out : Value) : Prop where
  new : New W1 wr
  x : wr.ownsRow W1.heap.size 5 1 x (9 + j) (u8s (l.rawJ b k j))
  out : wr.ownsRow W1.heap.size 35 64 out k (secF l b k)
set_option maxHeartbeats 2000000 in
set_option maxRecDepth 100000 in
theorem rframe_any {q : Nat → Prop} {w : World} (l : LG) (A : Option Addr) (c : Nat) (B : Option Addr) (n d : Nat) (b : List Int) (hL : RShaIn 1 0 w) (hI : RlIn w l A) (hR : Rd q w 1 B n (u8s b)) (hb : Byt b) (hn : n ≤ 70000) (K : Nat) (hK : K = (n + 74) / 55) :
    Calls Tryd.prog 53 #[.agg (rlV l A c), .slice B n d] w fun e w' => (∃ C cc, e = .returned (.slice C K cc) ∧ w'.ownsRow w.heap.size 35 64 (.slice C K cc) K (secF l b K)) ∧ New w w' := by
  have HL := Lib.hid hL
  have HI := Lib.hid hI
  have HR := Lib.hid hR
  have HB := Lib.hid hb
  have HX : Hid (b.length = n) := Lib.hid (by have := hR.1; rw [u8s_len] at this; omega)
  have hgen := hI.gen
  have hnum := hI.num
  obtain ⟨gen, hgn⟩ : ∃ gen, gen = l.gen := ⟨_, rfl⟩
  obtain ⟨us, hus⟩ : ∃ us, us = l.used := ⟨_, rfl⟩
  obtain ⟨fs, hfs⟩ : ∃ fs, fs = l.first := ⟨_, rfl⟩
  obtain ⟨sz, hsz⟩ : ∃ sz, sz = l.size := ⟨_, rfl⟩
  obtain ⟨bk, hbk⟩ : ∃ bk, bk = l.broken := ⟨_, rfl⟩
  have hus1 : us ≤ 100000 := by omega
  have HEQ : Hid (gen = l.gen ∧ us = l.used) := Lib.hid ⟨hgn, hus⟩
  have HT : Hid (∀ W, New w W → RdT 5 W 1 A 16 (u8s l.tag)) := Lib.hid fun W hN => hI.tag.new hN
  have HTAG := Lib.hid (fun W (hN : New w W) => rtag_any (p := IsT 5 W) A c l.tag l.gen B n d b W (hL.new hN) (hI.tag.new hN) hI.byt (hN.rd hR) hb hI.gen (by omega))
  have HG4 : Hid (gen < 4294967296) := Lib.hid (by omega)
  have HFL : Hid ((l.frame b).length = n + 20) := Lib.hid (by rw [LG.frame_len, HX.out])
  have HFB : Hid (Byt (l.frame b)) := Lib.hid (l.frame_byt hb)
  have HN4 := Lib.hid (fun W => number_any n 4 W (by omega) (by omega))
  have HG8 := Lib.hid (fun W => number_any gen 4 W (by omega) (by omega))
  have HK := Lib.hid hK
  rw [← hgn] at HTAG
  unfold rlV
  rw [← hfs, ← hsz, ← hus, ← hgn, ← hbk]
  clear hL hI hR hb hgn hus hfs hsz hbk hgen hnum hK
  go_enter Tryd.func53, Tryd.ntmps53
  go_upto_region 1 with fail
  obtain ⟨w0, hw0⟩ : ∃ w0 : World, w0 = w.alloc (.cells #[.int .i64 fs, .int .i64 sz, .int .i64 us, .int .u32 gen, .slice A 16 c, .bool bk] 45) := ⟨_, rfl⟩
  obtain ⟨b2, hb2⟩ : ∃ b2, b2 = w.heap.size := ⟨_, rfl⟩
  have HN0 : Hid (New w w0) := Lib.hid (by rw [hw0]; exact New.al (New.refl _) _)
  have HB2 : Hid (Blk w0 b2 45 #[.int .i64 fs, .int .i64 sz, .int .i64 us, .int .u32 gen, .slice A 16 c, .bool bk]) := Lib.hid (by rw [hw0, hb2]; exact Blk.new _ _ _)
  rw [← hw0, ← hb2]
  have HZ := Lib.hid hb2
  clear hw0 hb2
  have kn : IntKind.u64.wrap (n : Int) = (n : Int) := by rw [IntKind.wrap_u64]; omega
  have q4 : ∀ p : HW (New w0), p.w.cell? ⟨b2, 4, none⟩ = some (.slice A 16 c) := fun p => (p.h.blk HB2.out).cell 4
  have q3 : ∀ p : HW (New w0), p.w.cell? ⟨b2, 3, none⟩ = some (.int .u32 gen) := fun p => (p.h.blk HB2.out).cell 3
  refine wp_region_mixH (New w0) [(true, 0), (true, 1), (true, 2), (true, 4), (true, 5), (true, 6), (true, 7), (true, 8), (true, 11), (false, 3), (false, 9), (false, 10), (false, 12), (true, 13)] (by kernel_rfl) (by kernel_rfl) (New.dr (New.refl w0)) (fun hne => ?_)
  iterate 9 (refine mix_take (o := ⟨_, _, _, _, _, _⟩) rfl (fun K hK => ?_); go_simp; refine hK _ ?_; clear hK K)
  refine mix_act (o := ⟨_, _, _, _, _, _⟩) rfl (fun K hK => ?_) (.inl rfl)
  go_simp
  refine (HN4.out w0.drew).mono ?_
  rintro e w1 ⟨rfl, hO1, hN1⟩
  have HO1 := Lib.hid hO1
  have HN1 : Hid (New w0 w1) := Lib.hid ((New.dr (New.refl w0)).tr hN1)
  obtain ⟨b1, hb1⟩ : ∃ b1, b1 = w0.drew.heap.size := ⟨_, rfl⟩
  rw [← hb1] at HO1 ⊢
  have HB1 : Hid (w0.heap.size ≤ b1) := Lib.hid (by rw [hb1]; exact Nat.le_refl _)
  clear hO1 hN1 hb1
  go_simp
  refine hK.out _ _ (fun _ => HN1.out) ?_
  clear hK K
  refine mix_act (o := ⟨_, _, _, _, _, _⟩) rfl (fun K hK => ?_) (.inl rfl)
  go_simp
  refine (HTAG.out w1 (HN0.out.tr HN1.out)).mono ?_
  rintro e w2 ⟨⟨A2, c2, rfl, hO2⟩, hN2⟩
  have HO2 := Lib.hid hO2
  have HO12 := Lib.hid (hN2.own HO1.out)
  have HN2 : Hid (New w0 w2) := Lib.hid (HN1.out.tr hN2)
  clear hO2 hN2
  go_simp
  refine hK.out _ _ (fun _ => HN2.out) ?_
  clear hK K
  refine mix_act (o := ⟨_, _, _, _, _, _⟩) rfl (fun K hK => ?_) (.inl rfl)
  refine step_app elB _ rfl (.tmp 14) (.tmp 20) rfl b1 (.slice (some ⟨b1, 0, none⟩) 4 4) 4 (u8s (beL 4 n)) rfl HO12.out A2 16 c2 (u8s (tagL l.tag gen b)) rfl (Rd.own HO2.out rfl) (u8s_one _) (by unfold maxLen; omega) (by omega) (by have := (own_lt HO12.out b1 rfl).2; omega) ?_
  intro A3 c3 w3 hO3 hF3 _
  have HO3 := Lib.hid hO3
  have HN3 : Hid (New w0 w3) := Lib.hid (HN2.out.fr hF3 (fun k hk => by have hk' := (own_lt HO12.out k hk).1; have := HB1.out; omega))
  clear hO3 hF3
  refine hK.out _ _ (fun _ => HN3.out) ?_
  clear hK K
  simp only [Act.put, List.setIfInBounds_toArray, List.set_cons_zero, List.set_cons_succ]
  refine mix_act (o := ⟨_, _, _, _, _, _⟩) rfl (fun K hK => ?_) (.inl rfl)
  refine step_app elB _ rfl (.tmp 21) (.tmp 22) rfl b1 (.slice A3 (4 + 16) c3) (4 + 16) _ rfl HO3.out B n d (u8s b) rfl ((HN0.out.tr HN3.out).rd HR.out) (u8s_one _) (by unfold maxLen; omega) (by omega) (by have := HN3.out.size; have := (own_lt HO1.out b1 rfl).2; have := HB1.out; have := (own_lt HO12.out b1 rfl).2; have := HO3.out.1; rcases HO3.out.2 with h | ⟨g, cap, cur, hv, hb, hh, hr⟩ <;> first | (have := h.1; omega) | (have := lt_of_block hh; omega)) ?_
  intro A4 c4 w4 hO4 hF4 _
  have HO4 : Hid (w4.ownsRow b1 5 1 (.slice A4 (n + 20) c4) (n + 20) (u8s (l.frame b))) := Lib.hid (by
    have e1 : 4 + 16 + n = n + 20 := by omega
    have e2 : u8s (l.frame b) = u8s (beL 4 n) ++ u8s (tagL l.tag gen b) ++ u8s b := by rw [LG.frame, HX.out, HEQ.out.1]; simp [u8s]
    rw [e2]
    rw [e1] at hO4
    exact hO4)
  have HN4' : Hid (New w0 w4) := Lib.hid (HN3.out.fr hF4 (fun k hk => by have hk' := (own_lt HO3.out k hk).1; have := HB1.out; omega))
  clear hO4 hF4
  refine hK.out _ _ (fun _ => HN4'.out) ?_
  clear hK K
  rw [show 4 + 16 + n = n + 20 by omega]
  simp only [Act.put, List.setIfInBounds_toArray, List.set_cons_zero, List.set_cons_succ]
  refine mix_take (o := ⟨_, _, _, _, _, _⟩) rfl (fun K hK => ?_); go_simp; refine hK _ ?_; clear hK K
  refine mix_done ?_
  clear q4 q3 HTAG HN4
  obtain ⟨fl, hfl⟩ : ∃ fl, fl = n + 20 := ⟨_, rfl⟩
  rw [← hfl] at HO4 HFL ⊢
  have HFL2 := Lib.hid hfl
  have hfl1 : fl ≤ 70020 := by omega
  clear hfl
  obtain ⟨gf, capf, hvf, hNf, hCf⟩ := own_form HO4.out (by have := HFL2.out; omega)
  injection hvf with hv1 hv2 hv3
  subst hv1 hv3
  have HFC : Hid (∀ j v, (u8s (l.frame b))[j]? = some v → w4.cell? ⟨gf, j, none⟩ = some v) := Lib.hid fun j v hj => by
    obtain ⟨g', o', he, -, -, hc⟩ := (Rd.own HO4.out rfl).out (by have := HFL2.out; omega) (by omega)
    injection he with he
    injection he with e1 e2
    subst e1 e2
    have := hc j v hj
    rwa [Nat.zero_add] at this
  clear hv2 hNf hCf
  go_wp2_with fail
  have HO0 : Hid (w4.ownsRow w4.heap.size 35 64 (.slice none 0 0) 0 (secF l b 0)) := Lib.hid (World.ownsRow_nil _ _ _ _)
  have HNN : Hid (New w4 w4) := Lib.hid (New.refl _)
  have hKK : K ≤ 1300 := by have := HK.out; have := HFL2.out; omega
  go_loopw [6, 7] (fun out i wr => ∃ (k : Nat) (C : Option Addr) (cc : Nat), k ≤ K ∧ i = .int .i64 k ∧ out = .slice C k cc ∧ Hid (New w4 wr) ∧ Hid (wr.ownsRow w4.heap.size 35 64 (.slice C k cc) k (secF l b k))) (fun _ i _ => K - (intOf i).toNat)
  case atStart => exact ⟨0, none, 0, Nat.zero_le _, rfl, rfl, HNN, HO0⟩
  case round =>
    clear HO0 HNN kn
    obtain ⟨k, C, cc, hk, rfl, rfl, HN, HO⟩ := hrel
    by_cases hlt : k < K
    · obtain ⟨k55, hk55⟩ : ∃ k55, k55 = 55 * k := ⟨_, rfl⟩
      have e1 : (55 : Int) * (k : Int) = (k55 : Int) := by omega
      have e2 : IntKind.i64.wrap (k55 : Int) = (k55 : Int) := IntWalk.i64_in _ (by omega)
      have hkf : k55 < fl := by have := HK.out; have := HFL2.out; omega
      have hkf' : (k55 : Int) < (fl : Int) := by omega
      obtain ⟨jn, hjn⟩ : ∃ jn, jn = us + k := ⟨_, rfl⟩
      have e3 : (us : Int) + (k : Int) = (jn : Int) := by omega
      have e4 : IntKind.i64.wrap (jn : Int) = (jn : Int) := IntWalk.i64_in _ (by omega)
      have kj : IntKind.u64.wrap (jn : Int) = (jn : Int) := by rw [IntKind.wrap_u64]; omega
      have kg : IntKind.u64.wrap (gen : Int) = (gen : Int) := by have := HG4.out; rw [IntKind.wrap_u64]; omega
      have hk0 : (0 : Int) ≤ (k : Int) := by omega
      have HJ : Hid (jn < 1000000) := Lib.hid (by omega)
      have HNJ := Lib.hid (fun W => number_any jn 4 W (by omega) (by omega))
      have HK55 := Lib.hid hk55
      have HHD : Hid (l.hdr k = beL 4 gen ++ beL 4 jn ++ [if k = 0 then 1 else 2]) := Lib.hid (by rw [hjn, LG.hdr, HEQ.out.1, HEQ.out.2])
      clear hk55 hjn
      have q2 : ∀ p : HW (New wr), p.w.cell? ⟨b2, 2, none⟩ = some (.int .i64 us) := fun p => ((HN4'.out.tr HN.out).tr p.h).blk HB2.out |>.cell 2
      have q3 : ∀ p : HW (New wr), p.w.cell? ⟨b2, 3, none⟩ = some (.int .u32 gen) := fun p => ((HN4'.out.tr HN.out).tr p.h).blk HB2.out |>.cell 3
      go_wp2_with fail
      refine wp_region_mixH (New wr) [(true, 0), (true, 1), (true, 2), (true, 4), (true, 5), (true, 6), (true, 7), (true, 8), (false, 3), (false, 9), (false, 10), (true, 11)] (by kernel_rfl) (by kernel_rfl) (New.dr (New.refl wr)) (fun hne => ?_)
      iterate 8 (refine mix_take (o := ⟨_, _, _, _, _, _⟩) rfl (fun K hK => ?_); go_simp; refine hK _ ?_; clear hK K)
      refine mix_act (o := ⟨_, _, _, _, _, _⟩) rfl (fun K hK => ?_) (.inl rfl)
      go_simp
      refine (HG8.out wr.drew).mono ?_
      rintro e w1 ⟨rfl, hO1, hN1⟩
      have HX1 := Lib.hid hO1
      have HM1 : Hid (New wr w1) := Lib.hid ((New.dr (New.refl wr)).tr hN1)
      obtain ⟨b8, hb8⟩ : ∃ b8, b8 = wr.drew.heap.size := ⟨_, rfl⟩
      rw [← hb8] at HX1 ⊢
      have HB8 : Hid (wr.heap.size ≤ b8) := Lib.hid (by rw [hb8]; exact Nat.le_refl _)
      clear hO1 hN1 hb8
      go_simp
      refine hK.out _ _ (fun _ => HM1.out) ?_
      clear hK K
      refine mix_act (o := ⟨_, _, _, _, _, _⟩) rfl (fun K hK => ?_) (.inl rfl)
      go_simp
      refine (HNJ.out w1).mono ?_
      rintro e w2 ⟨rfl, hO2, hN2⟩
      have HX2 := Lib.hid hO2
      have HX12 := Lib.hid (hN2.own HX1.out)
      have HM2 : Hid (New wr w2) := Lib.hid (HM1.out.tr hN2)
      clear hO2 hN2
      go_simp
      refine hK.out _ _ (fun _ => HM2.out) ?_
      clear hK K
      refine mix_act (o := ⟨_, _, _, _, _, _⟩) rfl (fun K hK => ?_) (.inl rfl)
      refine step_app elB _ rfl (.tmp 34) (.tmp 40) rfl b8 (.slice (some ⟨b8, 0, none⟩) 4 4) 4 (u8s (beL 4 gen)) rfl HX12.out (some ⟨w1.heap.size, 0, none⟩) 4 4 (u8s (beL 4 jn)) rfl (Rd.own HX2.out rfl) (u8s_one _) (by unfold maxLen; omega) (by omega) (by have := (own_lt HX12.out b8 rfl).2; omega) ?_
      intro A3 c3 w3 hO3 hF3 _
      have HX3 := Lib.hid hO3
      have HM3 : Hid (New wr w3) := Lib.hid (HM2.out.fr hF3 (fun k hk => by have hk' := (own_lt HX12.out k hk).1; have := HB8.out; omega))
      clear hO3 hF3
      refine hK.out _ _ (fun _ => HM3.out) ?_
      clear hK K
      simp only [Act.put, List.setIfInBounds_toArray, List.set_cons_zero, List.set_cons_succ]
      refine mix_take (o := ⟨_, _, _, _, _, _⟩) rfl (fun K hK => ?_); go_simp; refine hK _ ?_; clear hK K
      refine mix_done ?_
      clear q2 q3 e3 e4 kj kg HG4
      have HX3' : Hid (w3.ownsRow b8 5 1 (.slice A3 8 c3) 8 (u8s (beL 4 gen) ++ u8s (beL 4 jn))) := Lib.hid HX3.out
      have hb3 : b8 ≤ w3.heap.size := by
        have := (own_lt HX12.out b8 rfl).2
        have := HM2.out.size
        have h3 := HM3.out.size
        rcases HX3.out.2 with h | ⟨g, cap, cur, hv, hb, hh, hr⟩
        · have := h.1; omega
        · have := lt_of_block hh; omega
      have HB3 := Lib.hid hb3
      clear hb3
      by_cases hkz : k = 0
      · have hkb : ((k : Int) == 0) = true := by simp; omega
        have HKD : Hid ((if k = 0 then 1 else 2 : Int) = 1) := Lib.hid (if_pos hkz)
        clear hkz
        go_wp2_with ((with_reducible refine atOp ⟨some 46, _, _, _, _, _⟩ ?_); refine wpList_app elB _ rfl (.tmp 44) (.tmp 45) rfl b8 (.slice A3 8 c3) 8 _ rfl (New.own (New.al (New.refl w3) _) HX3'.out) (some ⟨w3.heap.size, 0, none⟩) 1 1 [.int .u8 1] rfl (Rd.ofBlk (p := fun _ => True) (Blk.new w3 5 #[.int .u8 1]) 1 1 rfl trivial) (by simp [Value.oneCell']) (by unfold maxLen; omega) (by omega) (by have := HB3.out; simp; omega) ?_; intro A5 c5 w5 hO5 hF5 hA5; have HF5 := Lib.hid hF5; have HO5 := Lib.hid hO5; clear hO5 hF5 hA5)
        have HM5 : Hid (New wr w5) := Lib.hid ((New.al HM3.out _).fr HF5.out (fun k hk => by have hk' := (own_lt HX3'.out k hk).1; have := HB8.out; omega))
        have HFJ : Hid (FjI w4 w5 l b k 0 (.slice A5 9 c5) (.slice C k cc)) := Lib.hid ⟨HN.out.tr HM5.out, by
          have e1 : u8s (l.rawJ b k 0) = u8s (beL 4 gen) ++ u8s (beL 4 jn) ++ [.int .u8 1] := by
            unfold LG.rawJ
            rw [HHD.out, HKD.out]
            simp [u8s]
          rw [e1]
          refine own_base HO5.out (fun k hk => ?_)
          have h1 := (own_lt HO5.out k hk).1
          have h2 := HB8.out
          have h3 := HN.out.size
          omega, HM5.out.own HO.out⟩
        clear HO5 HF5 HX1 HX2 HX12 HX3 HX3' HM1 HM2 HM3
        have hkb2 := hkb
        clear hkb
        go_wp2_with fail
        go_loopw [8, 9] (fun x i wr => ∃ (j i0 m : Nat) (X : Option Addr) (xc : Nat), j ≤ 55 ∧ Hid (i0 = k55 + j) ∧ Hid (m = 9 + j) ∧ i0 ≤ fl ∧ m ≤ 64 ∧ i = .int .i64 i0 ∧ x = .slice X m xc ∧ Hid (FjI w4 wr l b k j (.slice X m xc) (.slice C k cc))) (fun _ i _ => fl - (intOf i).toNat)
        case atStart => exact ⟨0, k55, 9, A5, c5, by omega, Lib.hid rfl, Lib.hid rfl, by omega, by omega, rfl, rfl, HFJ⟩
        case round =>
          clear HFJ
          obtain ⟨j, i, m, X, xc, hj, HI, HM, hif, hm64, rfl, rfl, HF⟩ := hrel
          have hi0 : (0 : Int) ≤ (i : Int) := by omega
          by_cases hgo : j < 55 ∧ i < fl
          · obtain ⟨hj5, hi5⟩ := hgo
            have g1 : (i : Int) < (k55 : Int) + 55 := by have := HI.out; omega
            have g2 : (i : Int) < (fl : Int) := by omega
            have hif2 : i < (l.frame b).length := by rw [HFL.out]; exact hi5
            obtain ⟨x, hx⟩ : ∃ x, x = at_ (l.frame b) i := ⟨_, rfl⟩
            have cx : wr.cell? ⟨gf, i, none⟩ = some (.int .u8 x) := HF.out.new.cell_ (HFC.out i _ (by
              unfold u8s at_ at *
              rw [List.getElem?_map, List.getElem?_eq_getElem hif2, hx, List.getD_eq_getElem?_getD, List.getElem?_eq_getElem hif2]
              rfl))
            have HS : Hid (l.rawJ b k (j + 1) = l.rawJ b k j ++ [x]) := Lib.hid (by
              rw [l.rawJ_succ b k j (by rw [HFL.out]; have := HI.out; have := HK55.out; omega), hx]
              have e : 55 * k + j = i := by have := HI.out; have := HK55.out; omega
              rw [e])
            have HXO : Hid (wr.ownsRow w4.heap.size 5 1 (.slice X m xc) m (u8s (l.rawJ b k j))) := Lib.hid (by have := HF.out.x; rwa [← HM.out] at this)
            have HOO : Hid (wr.ownsRow w4.heap.size 35 64 (.slice C k cc) k (secF l b k)) := Lib.hid HF.out.out
            clear hx hif2
            go_wp2_with ((with_reducible refine atOp ⟨some 71, _, _, _, _, _⟩ ?_); refine wpList_app elB _ rfl (.tmp 65) (.tmp 70) rfl w4.heap.size (.slice X m xc) m _ rfl (New.own (New.al (New.refl wr) _) HXO.out) (some ⟨wr.heap.size, 0, none⟩) 1 1 [.int .u8 x] rfl (Rd.ofBlk (p := fun _ => True) (Blk.new wr 5 #[.int .u8 x]) 1 1 rfl trivial) (by simp [Value.oneCell']) (by unfold maxLen; omega) (by omega) (New.al HF.out.new _).size ?_; intro A6 c6 w6 hO6 hF6 hA6; have HF6 := Lib.hid hF6; have HO6 := Lib.hid hO6; clear hO6 hF6 hA6)
            have HFJ2 : Hid (FjI w4 w6 l b k (j + 1) (.slice A6 (m + 1) c6) (.slice C k cc)) := Lib.hid ⟨(New.al HF.out.new _).fr HF6.out (fun k hk => (own_lt HXO.out k hk).1), by
              have e1 : 9 + (j + 1) = m + 1 := by have := HM.out; omega
              have e2 : u8s (l.rawJ b k (j + 1)) = u8s (l.rawJ b k j) ++ [.int .u8 x] := by rw [HS.out]; simp [u8s]
              rw [e1, e2]
              exact HO6.out, own_fr (New.own (New.al (New.refl wr) _) HOO.out) HF6.out (fun j hj hs => by
                have t1 := own_isT' HOO.out hj
                exact IsT.not_own HXO.out (by decide) hs t1)⟩
            go_roundw
            case rel => exact ⟨j + 1, i + 1, m + 1, A6, c6, by omega, Lib.hid (by have := HI.out; omega), Lib.hid (by have := HM.out; omega), by omega, by have := HM.out; omega, by go_num, rfl, HFJ2⟩
            case measure => simp [intOf]; omega
          · have HRAW : Hid (l.rawJ b k j = l.raw b k) := Lib.hid (l.rawJ_all b k j (by
              rw [HFL.out]
              have := HI.out
              have := HK55.out
              by_cases h55 : j < 55
              · exact .inr ⟨hj, by have : ¬ i < fl := fun h => hgo ⟨h55, h⟩; omega⟩
              · exact .inl (by omega)))
            have HXO : Hid (wr.ownsRow w4.heap.size 5 1 (.slice X m xc) m (u8s (l.raw b k))) := Lib.hid (by have := HF.out.x; rwa [← HM.out, HRAW.out] at this)
            have HXL : Hid ((l.raw b k).length = m) := Lib.hid (by have := HXO.out.1; rw [u8s_len] at this; omega)
            have HOO : Hid (wr.ownsRow w4.heap.size 35 64 (.slice C k cc) k (secF l b k)) := Lib.hid HF.out.out
            have hp64 : (secA (l.sec b k)).size = 64 := by rw [secA_size, LG.sec, pad64_len (l.raw_len b k)]
            have HP64 := Lib.hid hp64
            have HNr : Hid (New w4 wr) := Lib.hid HF.out.new
            have HSP : Hid (splice (u8s sec0) 0 (u8s (l.raw b k)) = u8s (l.sec b k)) := Lib.hid (splice_pad (l.raw_len b k))
            clear hp64
            have hgo2 : ¬ (i : Int) < (k55 : Int) + 55 ∨ ((i : Int) < (k55 : Int) + 55 ∧ ¬ (i : Int) < (fl : Int)) := by
              have := HI.out
              by_cases h55 : j < 55
              · exact .inr ⟨by omega, by have : ¬ i < fl := fun h => hgo ⟨h55, h⟩; omega⟩
              · exact .inl (by omega)
            clear hgo HI HM HF
            rcases hgo2 with g1 | ⟨g1, g2⟩
            · go_upto_region 15 with fail
              obtain ⟨w6, hw6⟩ : ∃ w6 : World, w6 = wr.alloc (.cells #[.int .u8 0, .int .u8 0, .int .u8 0, .int .u8 0, .int .u8 0, .int .u8 0, .int .u8 0, .int .u8 0, .int .u8 0, .int .u8 0, .int .u8 0, .int .u8 0, .int .u8 0, .int .u8 0, .int .u8 0, .int .u8 0, .int .u8 0, .int .u8 0, .int .u8 0, .int .u8 0, .int .u8 0, .int .u8 0, .int .u8 0, .int .u8 0, .int .u8 0, .int .u8 0, .int .u8 0, .int .u8 0, .int .u8 0, .int .u8 0, .int .u8 0, .int .u8 0, .int .u8 0, .int .u8 0, .int .u8 0, .int .u8 0, .int .u8 0, .int .u8 0, .int .u8 0, .int .u8 0, .int .u8 0, .int .u8 0, .int .u8 0, .int .u8 0, .int .u8 0, .int .u8 0, .int .u8 0, .int .u8 0, .int .u8 0, .int .u8 0, .int .u8 0, .int .u8 0, .int .u8 0, .int .u8 0, .int .u8 0, .int .u8 0, .int .u8 0, .int .u8 0, .int .u8 0, .int .u8 0, .int .u8 0, .int .u8 0, .int .u8 0, .int .u8 0] 35) := ⟨_, rfl⟩
              obtain ⟨b10, hb10⟩ : ∃ b10, b10 = wr.heap.size := ⟨_, rfl⟩
              have hz : (#[.int .u8 0, .int .u8 0, .int .u8 0, .int .u8 0, .int .u8 0, .int .u8 0, .int .u8 0, .int .u8 0, .int .u8 0, .int .u8 0, .int .u8 0, .int .u8 0, .int .u8 0, .int .u8 0, .int .u8 0, .int .u8 0, .int .u8 0, .int .u8 0, .int .u8 0, .int .u8 0, .int .u8 0, .int .u8 0, .int .u8 0, .int .u8 0, .int .u8 0, .int .u8 0, .int .u8 0, .int .u8 0, .int .u8 0, .int .u8 0, .int .u8 0, .int .u8 0, .int .u8 0, .int .u8 0, .int .u8 0, .int .u8 0, .int .u8 0, .int .u8 0, .int .u8 0, .int .u8 0, .int .u8 0, .int .u8 0, .int .u8 0, .int .u8 0, .int .u8 0, .int .u8 0, .int .u8 0, .int .u8 0, .int .u8 0, .int .u8 0, .int .u8 0, .int .u8 0, .int .u8 0, .int .u8 0, .int .u8 0, .int .u8 0, .int .u8 0, .int .u8 0, .int .u8 0, .int .u8 0, .int .u8 0, .int .u8 0, .int .u8 0, .int .u8 0] : Array Value) = secA sec0 := by rfl
              have HB10 : Hid (Blk w6 b10 35 (u8s sec0).toArray) := Lib.hid (by rw [hw6, hb10, hz]; exact Blk.new _ _ _)
              have HN6 : Hid (New wr w6) := Lib.hid (by rw [hw6]; exact New.al (New.refl _) _)
              have HL10 : Hid (b10 = wr.heap.size) := Lib.hid hb10
              rw [← hw6, ← hb10]
              clear hw6 hb10 hz
              go_wp2_with (first
                | ((with_reducible refine atOp ⟨some 74, _, _, _, _, _⟩ ?_); refine wpList_copyF (q := fun k => (Value.slice X m xc).ownBlock = some k) rfl (.tmp 72) (.tmp 73) 43 43 rfl 5 Tryd.underlying43 rfl b10 0 64 64 X m xc rfl rfl (u8s sec0) 35 HB10.out (u8s (l.raw b k)) (by rw [u8s_len, HXL.out]; exact (Nat.min_eq_left hm64).symm) ⟨m, u8s (l.raw b k), Rd.own (HN6.out.own HXO.out) rfl, List.take_length⟩ (by rw [u8s_len, u8s_len, HXL.out, sec0_ok.1]; omega) (u8s_one _) ?_; intro w7 hb7 hf7; rw [HSP.out] at hb7; have HB7 : Hid (Blk w7 b10 35 (secA (l.sec b k))) := Lib.hid hb7; have HF7 := Lib.hid hf7; clear hb7 hf7; have HN7 : Hid (New wr w7) := Lib.hid (HN6.out.fr HF7.out (fun k hk => by have := HL10.out; omega)))
                | ((with_reducible refine atOp ⟨some 76, .load _ _, _, _, _, _⟩ ?_); refine wpList_load_any rfl _ rfl Tryd.underlying35 rfl (by rw [HP64.out]; rfl) rfl HB7.out ?_)
                | ((with_reducible refine atOp ⟨some 77, .buildSlice _ _ _, _, _, _, _⟩ ?_); refine wpList_bs1 elSec (by decide) rfl (.tmp 76) rfl (secA (l.sec b k)) rfl HP64.out ?_)
                | ((with_reducible refine atOp ⟨some 78, _, _, _, _, _⟩ ?_); refine wpList_app elSec _ rfl (.tmp 75) (.tmp 77) rfl w4.heap.size (.slice C k cc) k _ rfl (New.own (New.al HN7.out _) HOO.out) (some ⟨w7.heap.size, 0, none⟩) 1 1 (u8s (l.sec b k)) rfl (by have h := Rd.ofBlk (p := fun _ => True) (Blk.new w7 35 (secA (l.sec b k))) 64 1 (by rw [HP64.out]) trivial; rwa [secA_list] at h) (u8s_one _) (by unfold maxLen; omega) (by omega) (New.al (HNr.out.tr HN7.out) _).size ?_; intro A8 c8 w8 hO8 hF8 hA8; have HF8 := Lib.hid hF8; have HO8 := Lib.hid hO8; clear hO8 hF8 hA8))
              have HN8 : Hid (New w4 w8) := Lib.hid ((New.al (HNr.out.tr HN7.out) _).fr HF8.out (fun k hk => (own_lt HOO.out k hk).1))
              have HO9 : Hid (w8.ownsRow w4.heap.size 35 64 (.slice A8 (k + 1) c8) (k + 1) (secF l b (k + 1))) := Lib.hid (by rw [secF_succ]; exact HO8.out)
              go_roundw
              case rel => exact ⟨k + 1, A8, c8, by omega, by go_num, rfl, HN8, HO9⟩
              case measure => simp [intOf]; omega
            · go_upto_region 15 with fail
              obtain ⟨w6, hw6⟩ : ∃ w6 : World, w6 = wr.alloc (.cells #[.int .u8 0, .int .u8 0, .int .u8 0, .int .u8 0, .int .u8 0, .int .u8 0, .int .u8 0, .int .u8 0, .int .u8 0, .int .u8 0, .int .u8 0, .int .u8 0, .int .u8 0, .int .u8 0, .int .u8 0, .int .u8 0, .int .u8 0, .int .u8 0, .int .u8 0, .int .u8 0, .int .u8 0, .int .u8 0, .int .u8 0, .int .u8 0, .int .u8 0, .int .u8 0, .int .u8 0, .int .u8 0, .int .u8 0, .int .u8 0, .int .u8 0, .int .u8 0, .int .u8 0, .int .u8 0, .int .u8 0, .int .u8 0, .int .u8 0, .int .u8 0, .int .u8 0, .int .u8 0, .int .u8 0, .int .u8 0, .int .u8 0, .int .u8 0, .int .u8 0, .int .u8 0, .int .u8 0, .int .u8 0, .int .u8 0, .int .u8 0, .int .u8 0, .int .u8 0, .int .u8 0, .int .u8 0, .int .u8 0, .int .u8 0, .int .u8 0, .int .u8 0, .int .u8 0, .int .u8 0, .int .u8 0, .int .u8 0, .int .u8 0, .int .u8 0] 35) := ⟨_, rfl⟩
              obtain ⟨b10, hb10⟩ : ∃ b10, b10 = wr.heap.size := ⟨_, rfl⟩
              have hz : (#[.int .u8 0, .int .u8 0, .int .u8 0, .int .u8 0, .int .u8 0, .int .u8 0, .int .u8 0, .int .u8 0, .int .u8 0, .int .u8 0, .int .u8 0, .int .u8 0, .int .u8 0, .int .u8 0, .int .u8 0, .int .u8 0, .int .u8 0, .int .u8 0, .int .u8 0, .int .u8 0, .int .u8 0, .int .u8 0, .int .u8 0, .int .u8 0, .int .u8 0, .int .u8 0, .int .u8 0, .int .u8 0, .int .u8 0, .int .u8 0, .int .u8 0, .int .u8 0, .int .u8 0, .int .u8 0, .int .u8 0, .int .u8 0, .int .u8 0, .int .u8 0, .int .u8 0, .int .u8 0, .int .u8 0, .int .u8 0, .int .u8 0, .int .u8 0, .int .u8 0, .int .u8 0, .int .u8 0, .int .u8 0, .int .u8 0, .int .u8 0, .int .u8 0, .int .u8 0, .int .u8 0, .int .u8 0, .int .u8 0, .int .u8 0, .int .u8 0, .int .u8 0, .int .u8 0, .int .u8 0, .int .u8 0, .int .u8 0, .int .u8 0, .int .u8 0] : Array Value) = secA sec0 := by rfl
              have HB10 : Hid (Blk w6 b10 35 (u8s sec0).toArray) := Lib.hid (by rw [hw6, hb10, hz]; exact Blk.new _ _ _)
              have HN6 : Hid (New wr w6) := Lib.hid (by rw [hw6]; exact New.al (New.refl _) _)
              have HL10 : Hid (b10 = wr.heap.size) := Lib.hid hb10
              rw [← hw6, ← hb10]
              clear hw6 hb10 hz
              go_wp2_with (first
                | ((with_reducible refine atOp ⟨some 74, _, _, _, _, _⟩ ?_); refine wpList_copyF (q := fun k => (Value.slice X m xc).ownBlock = some k) rfl (.tmp 72) (.tmp 73) 43 43 rfl 5 Tryd.underlying43 rfl b10 0 64 64 X m xc rfl rfl (u8s sec0) 35 HB10.out (u8s (l.raw b k)) (by rw [u8s_len, HXL.out]; exact (Nat.min_eq_left hm64).symm) ⟨m, u8s (l.raw b k), Rd.own (HN6.out.own HXO.out) rfl, List.take_length⟩ (by rw [u8s_len, u8s_len, HXL.out, sec0_ok.1]; omega) (u8s_one _) ?_; intro w7 hb7 hf7; rw [HSP.out] at hb7; have HB7 : Hid (Blk w7 b10 35 (secA (l.sec b k))) := Lib.hid hb7; have HF7 := Lib.hid hf7; clear hb7 hf7; have HN7 : Hid (New wr w7) := Lib.hid (HN6.out.fr HF7.out (fun k hk => by have := HL10.out; omega)))
                | ((with_reducible refine atOp ⟨some 76, .load _ _, _, _, _, _⟩ ?_); refine wpList_load_any rfl _ rfl Tryd.underlying35 rfl (by rw [HP64.out]; rfl) rfl HB7.out ?_)
                | ((with_reducible refine atOp ⟨some 77, .buildSlice _ _ _, _, _, _, _⟩ ?_); refine wpList_bs1 elSec (by decide) rfl (.tmp 76) rfl (secA (l.sec b k)) rfl HP64.out ?_)
                | ((with_reducible refine atOp ⟨some 78, _, _, _, _, _⟩ ?_); refine wpList_app elSec _ rfl (.tmp 75) (.tmp 77) rfl w4.heap.size (.slice C k cc) k _ rfl (New.own (New.al HN7.out _) HOO.out) (some ⟨w7.heap.size, 0, none⟩) 1 1 (u8s (l.sec b k)) rfl (by have h := Rd.ofBlk (p := fun _ => True) (Blk.new w7 35 (secA (l.sec b k))) 64 1 (by rw [HP64.out]) trivial; rwa [secA_list] at h) (u8s_one _) (by unfold maxLen; omega) (by omega) (New.al (HNr.out.tr HN7.out) _).size ?_; intro A8 c8 w8 hO8 hF8 hA8; have HF8 := Lib.hid hF8; have HO8 := Lib.hid hO8; clear hO8 hF8 hA8))
              have HN8 : Hid (New w4 w8) := Lib.hid ((New.al (HNr.out.tr HN7.out) _).fr HF8.out (fun k hk => (own_lt HOO.out k hk).1))
              have HO9 : Hid (w8.ownsRow w4.heap.size 35 64 (.slice A8 (k + 1) c8) (k + 1) (secF l b (k + 1))) := Lib.hid (by rw [secF_succ]; exact HO8.out)
              go_roundw
              case rel => exact ⟨k + 1, A8, c8, by omega, by go_num, rfl, HN8, HO9⟩
              case measure => simp [intOf]; omega
      · have hkb : ((k : Int) == 0) = false := by simp; omega
        have HKD : Hid ((if k = 0 then 1 else 2 : Int) = 2) := Lib.hid (if_neg hkz)
        clear hkz
        go_wp2_with ((with_reducible refine atOp ⟨some 49, _, _, _, _, _⟩ ?_); refine wpList_app elB _ rfl (.tmp 47) (.tmp 48) rfl b8 (.slice A3 8 c3) 8 _ rfl (New.own (New.al (New.refl w3) _) HX3'.out) (some ⟨w3.heap.size, 0, none⟩) 1 1 [.int .u8 2] rfl (Rd.ofBlk (p := fun _ => True) (Blk.new w3 5 #[.int .u8 2]) 1 1 rfl trivial) (by simp [Value.oneCell']) (by unfold maxLen; omega) (by omega) (by have := HB3.out; simp; omega) ?_; intro A5 c5 w5 hO5 hF5 hA5; have HF5 := Lib.hid hF5; have HO5 := Lib.hid hO5; clear hO5 hF5 hA5)
        have HM5 : Hid (New wr w5) := Lib.hid ((New.al HM3.out _).fr HF5.out (fun k hk => by have hk' := (own_lt HX3'.out k hk).1; have := HB8.out; omega))
        have HFJ : Hid (FjI w4 w5 l b k 0 (.slice A5 9 c5) (.slice C k cc)) := Lib.hid ⟨HN.out.tr HM5.out, by
          have e1 : u8s (l.rawJ b k 0) = u8s (beL 4 gen) ++ u8s (beL 4 jn) ++ [.int .u8 2] := by
            unfold LG.rawJ
            rw [HHD.out, HKD.out]
            simp [u8s]
          rw [e1]
          refine own_base HO5.out (fun k hk => ?_)
          have h1 := (own_lt HO5.out k hk).1
          have h2 := HB8.out
          have h3 := HN.out.size
          omega, HM5.out.own HO.out⟩
        clear HO5 HF5 HX1 HX2 HX12 HX3 HX3' HM1 HM2 HM3
        have hkb2 := hkb
        clear hkb
        go_wp2_with fail
        go_loopw [8, 9] (fun x i wr => ∃ (j i0 m : Nat) (X : Option Addr) (xc : Nat), j ≤ 55 ∧ Hid (i0 = k55 + j) ∧ Hid (m = 9 + j) ∧ i0 ≤ fl ∧ m ≤ 64 ∧ i = .int .i64 i0 ∧ x = .slice X m xc ∧ Hid (FjI w4 wr l b k j (.slice X m xc) (.slice C k cc))) (fun _ i _ => fl - (intOf i).toNat)
        case atStart => exact ⟨0, k55, 9, A5, c5, by omega, Lib.hid rfl, Lib.hid rfl, by omega, by omega, rfl, rfl, HFJ⟩
        case round =>
          clear HFJ
          obtain ⟨j, i, m, X, xc, hj, HI, HM, hif, hm64, rfl, rfl, HF⟩ := hrel
          have hi0 : (0 : Int) ≤ (i : Int) := by omega
          by_cases hgo : j < 55 ∧ i < fl
          · obtain ⟨hj5, hi5⟩ := hgo
            have g1 : (i : Int) < (k55 : Int) + 55 := by have := HI.out; omega
            have g2 : (i : Int) < (fl : Int) := by omega
            have hif2 : i < (l.frame b).length := by rw [HFL.out]; exact hi5
            obtain ⟨x, hx⟩ : ∃ x, x = at_ (l.frame b) i := ⟨_, rfl⟩
            have cx : wr.cell? ⟨gf, i, none⟩ = some (.int .u8 x) := HF.out.new.cell_ (HFC.out i _ (by
              unfold u8s at_ at *
              rw [List.getElem?_map, List.getElem?_eq_getElem hif2, hx, List.getD_eq_getElem?_getD, List.getElem?_eq_getElem hif2]
              rfl))
            have HS : Hid (l.rawJ b k (j + 1) = l.rawJ b k j ++ [x]) := Lib.hid (by
              rw [l.rawJ_succ b k j (by rw [HFL.out]; have := HI.out; have := HK55.out; omega), hx]
              have e : 55 * k + j = i := by have := HI.out; have := HK55.out; omega
              rw [e])
            have HXO : Hid (wr.ownsRow w4.heap.size 5 1 (.slice X m xc) m (u8s (l.rawJ b k j))) := Lib.hid (by have := HF.out.x; rwa [← HM.out] at this)
            have HOO : Hid (wr.ownsRow w4.heap.size 35 64 (.slice C k cc) k (secF l b k)) := Lib.hid HF.out.out
            clear hx hif2
            go_wp2_with ((with_reducible refine atOp ⟨some 71, _, _, _, _, _⟩ ?_); refine wpList_app elB _ rfl (.tmp 65) (.tmp 70) rfl w4.heap.size (.slice X m xc) m _ rfl (New.own (New.al (New.refl wr) _) HXO.out) (some ⟨wr.heap.size, 0, none⟩) 1 1 [.int .u8 x] rfl (Rd.ofBlk (p := fun _ => True) (Blk.new wr 5 #[.int .u8 x]) 1 1 rfl trivial) (by simp [Value.oneCell']) (by unfold maxLen; omega) (by omega) (New.al HF.out.new _).size ?_; intro A6 c6 w6 hO6 hF6 hA6; have HF6 := Lib.hid hF6; have HO6 := Lib.hid hO6; clear hO6 hF6 hA6)
            have HFJ2 : Hid (FjI w4 w6 l b k (j + 1) (.slice A6 (m + 1) c6) (.slice C k cc)) := Lib.hid ⟨(New.al HF.out.new _).fr HF6.out (fun k hk => (own_lt HXO.out k hk).1), by
              have e1 : 9 + (j + 1) = m + 1 := by have := HM.out; omega
              have e2 : u8s (l.rawJ b k (j + 1)) = u8s (l.rawJ b k j) ++ [.int .u8 x] := by rw [HS.out]; simp [u8s]
              rw [e1, e2]
              exact HO6.out, own_fr (New.own (New.al (New.refl wr) _) HOO.out) HF6.out (fun j hj hs => by
                have t1 := own_isT' HOO.out hj
                exact IsT.not_own HXO.out (by decide) hs t1)⟩
            go_roundw
            case rel => exact ⟨j + 1, i + 1, m + 1, A6, c6, by omega, Lib.hid (by have := HI.out; omega), Lib.hid (by have := HM.out; omega), by omega, by have := HM.out; omega, by go_num, rfl, HFJ2⟩
            case measure => simp [intOf]; omega
          · have HRAW : Hid (l.rawJ b k j = l.raw b k) := Lib.hid (l.rawJ_all b k j (by
              rw [HFL.out]
              have := HI.out
              have := HK55.out
              by_cases h55 : j < 55
              · exact .inr ⟨hj, by have : ¬ i < fl := fun h => hgo ⟨h55, h⟩; omega⟩
              · exact .inl (by omega)))
            have HXO : Hid (wr.ownsRow w4.heap.size 5 1 (.slice X m xc) m (u8s (l.raw b k))) := Lib.hid (by have := HF.out.x; rwa [← HM.out, HRAW.out] at this)
            have HXL : Hid ((l.raw b k).length = m) := Lib.hid (by have := HXO.out.1; rw [u8s_len] at this; omega)
            have HOO : Hid (wr.ownsRow w4.heap.size 35 64 (.slice C k cc) k (secF l b k)) := Lib.hid HF.out.out
            have hp64 : (secA (l.sec b k)).size = 64 := by rw [secA_size, LG.sec, pad64_len (l.raw_len b k)]
            have HP64 := Lib.hid hp64
            have HNr : Hid (New w4 wr) := Lib.hid HF.out.new
            have HSP : Hid (splice (u8s sec0) 0 (u8s (l.raw b k)) = u8s (l.sec b k)) := Lib.hid (splice_pad (l.raw_len b k))
            clear hp64
            have hgo2 : ¬ (i : Int) < (k55 : Int) + 55 ∨ ((i : Int) < (k55 : Int) + 55 ∧ ¬ (i : Int) < (fl : Int)) := by
              have := HI.out
              by_cases h55 : j < 55
              · exact .inr ⟨by omega, by have : ¬ i < fl := fun h => hgo ⟨h55, h⟩; omega⟩
              · exact .inl (by omega)
            clear hgo HI HM HF
            rcases hgo2 with g1 | ⟨g1, g2⟩
            · go_upto_region 15 with fail
              obtain ⟨w6, hw6⟩ : ∃ w6 : World, w6 = wr.alloc (.cells #[.int .u8 0, .int .u8 0, .int .u8 0, .int .u8 0, .int .u8 0, .int .u8 0, .int .u8 0, .int .u8 0, .int .u8 0, .int .u8 0, .int .u8 0, .int .u8 0, .int .u8 0, .int .u8 0, .int .u8 0, .int .u8 0, .int .u8 0, .int .u8 0, .int .u8 0, .int .u8 0, .int .u8 0, .int .u8 0, .int .u8 0, .int .u8 0, .int .u8 0, .int .u8 0, .int .u8 0, .int .u8 0, .int .u8 0, .int .u8 0, .int .u8 0, .int .u8 0, .int .u8 0, .int .u8 0, .int .u8 0, .int .u8 0, .int .u8 0, .int .u8 0, .int .u8 0, .int .u8 0, .int .u8 0, .int .u8 0, .int .u8 0, .int .u8 0, .int .u8 0, .int .u8 0, .int .u8 0, .int .u8 0, .int .u8 0, .int .u8 0, .int .u8 0, .int .u8 0, .int .u8 0, .int .u8 0, .int .u8 0, .int .u8 0, .int .u8 0, .int .u8 0, .int .u8 0, .int .u8 0, .int .u8 0, .int .u8 0, .int .u8 0, .int .u8 0] 35) := ⟨_, rfl⟩
              obtain ⟨b10, hb10⟩ : ∃ b10, b10 = wr.heap.size := ⟨_, rfl⟩
              have hz : (#[.int .u8 0, .int .u8 0, .int .u8 0, .int .u8 0, .int .u8 0, .int .u8 0, .int .u8 0, .int .u8 0, .int .u8 0, .int .u8 0, .int .u8 0, .int .u8 0, .int .u8 0, .int .u8 0, .int .u8 0, .int .u8 0, .int .u8 0, .int .u8 0, .int .u8 0, .int .u8 0, .int .u8 0, .int .u8 0, .int .u8 0, .int .u8 0, .int .u8 0, .int .u8 0, .int .u8 0, .int .u8 0, .int .u8 0, .int .u8 0, .int .u8 0, .int .u8 0, .int .u8 0, .int .u8 0, .int .u8 0, .int .u8 0, .int .u8 0, .int .u8 0, .int .u8 0, .int .u8 0, .int .u8 0, .int .u8 0, .int .u8 0, .int .u8 0, .int .u8 0, .int .u8 0, .int .u8 0, .int .u8 0, .int .u8 0, .int .u8 0, .int .u8 0, .int .u8 0, .int .u8 0, .int .u8 0, .int .u8 0, .int .u8 0, .int .u8 0, .int .u8 0, .int .u8 0, .int .u8 0, .int .u8 0, .int .u8 0, .int .u8 0, .int .u8 0] : Array Value) = secA sec0 := by rfl
              have HB10 : Hid (Blk w6 b10 35 (u8s sec0).toArray) := Lib.hid (by rw [hw6, hb10, hz]; exact Blk.new _ _ _)
              have HN6 : Hid (New wr w6) := Lib.hid (by rw [hw6]; exact New.al (New.refl _) _)
              have HL10 : Hid (b10 = wr.heap.size) := Lib.hid hb10
              rw [← hw6, ← hb10]
              clear hw6 hb10 hz
              go_wp2_with (first
                | ((with_reducible refine atOp ⟨some 74, _, _, _, _, _⟩ ?_); refine wpList_copyF (q := fun k => (Value.slice X m xc).ownBlock = some k) rfl (.tmp 72) (.tmp 73) 43 43 rfl 5 Tryd.underlying43 rfl b10 0 64 64 X m xc rfl rfl (u8s sec0) 35 HB10.out (u8s (l.raw b k)) (by rw [u8s_len, HXL.out]; exact (Nat.min_eq_left hm64).symm) ⟨m, u8s (l.raw b k), Rd.own (HN6.out.own HXO.out) rfl, List.take_length⟩ (by rw [u8s_len, u8s_len, HXL.out, sec0_ok.1]; omega) (u8s_one _) ?_; intro w7 hb7 hf7; rw [HSP.out] at hb7; have HB7 : Hid (Blk w7 b10 35 (secA (l.sec b k))) := Lib.hid hb7; have HF7 := Lib.hid hf7; clear hb7 hf7; have HN7 : Hid (New wr w7) := Lib.hid (HN6.out.fr HF7.out (fun k hk => by have := HL10.out; omega)))
                | ((with_reducible refine atOp ⟨some 76, .load _ _, _, _, _, _⟩ ?_); refine wpList_load_any rfl _ rfl Tryd.underlying35 rfl (by rw [HP64.out]; rfl) rfl HB7.out ?_)
                | ((with_reducible refine atOp ⟨some 77, .buildSlice _ _ _, _, _, _, _⟩ ?_); refine wpList_bs1 elSec (by decide) rfl (.tmp 76) rfl (secA (l.sec b k)) rfl HP64.out ?_)
                | ((with_reducible refine atOp ⟨some 78, _, _, _, _, _⟩ ?_); refine wpList_app elSec _ rfl (.tmp 75) (.tmp 77) rfl w4.heap.size (.slice C k cc) k _ rfl (New.own (New.al HN7.out _) HOO.out) (some ⟨w7.heap.size, 0, none⟩) 1 1 (u8s (l.sec b k)) rfl (by have h := Rd.ofBlk (p := fun _ => True) (Blk.new w7 35 (secA (l.sec b k))) 64 1 (by rw [HP64.out]) trivial; rwa [secA_list] at h) (u8s_one _) (by unfold maxLen; omega) (by omega) (New.al (HNr.out.tr HN7.out) _).size ?_; intro A8 c8 w8 hO8 hF8 hA8; have HF8 := Lib.hid hF8; have HO8 := Lib.hid hO8; clear hO8 hF8 hA8))
              have HN8 : Hid (New w4 w8) := Lib.hid ((New.al (HNr.out.tr HN7.out) _).fr HF8.out (fun k hk => (own_lt HOO.out k hk).1))
              have HO9 : Hid (w8.ownsRow w4.heap.size 35 64 (.slice A8 (k + 1) c8) (k + 1) (secF l b (k + 1))) := Lib.hid (by rw [secF_succ]; exact HO8.out)
              go_roundw
              case rel => exact ⟨k + 1, A8, c8, by omega, by go_num, rfl, HN8, HO9⟩
              case measure => simp [intOf]; omega
            · go_upto_region 15 with fail
              obtain ⟨w6, hw6⟩ : ∃ w6 : World, w6 = wr.alloc (.cells #[.int .u8 0, .int .u8 0, .int .u8 0, .int .u8 0, .int .u8 0, .int .u8 0, .int .u8 0, .int .u8 0, .int .u8 0, .int .u8 0, .int .u8 0, .int .u8 0, .int .u8 0, .int .u8 0, .int .u8 0, .int .u8 0, .int .u8 0, .int .u8 0, .int .u8 0, .int .u8 0, .int .u8 0, .int .u8 0, .int .u8 0, .int .u8 0, .int .u8 0, .int .u8 0, .int .u8 0, .int .u8 0, .int .u8 0, .int .u8 0, .int .u8 0, .int .u8 0, .int .u8 0, .int .u8 0, .int .u8 0, .int .u8 0, .int .u8 0, .int .u8 0, .int .u8 0, .int .u8 0, .int .u8 0, .int .u8 0, .int .u8 0, .int .u8 0, .int .u8 0, .int .u8 0, .int .u8 0, .int .u8 0, .int .u8 0, .int .u8 0, .int .u8 0, .int .u8 0, .int .u8 0, .int .u8 0, .int .u8 0, .int .u8 0, .int .u8 0, .int .u8 0, .int .u8 0, .int .u8 0, .int .u8 0, .int .u8 0, .int .u8 0, .int .u8 0] 35) := ⟨_, rfl⟩
              obtain ⟨b10, hb10⟩ : ∃ b10, b10 = wr.heap.size := ⟨_, rfl⟩
              have hz : (#[.int .u8 0, .int .u8 0, .int .u8 0, .int .u8 0, .int .u8 0, .int .u8 0, .int .u8 0, .int .u8 0, .int .u8 0, .int .u8 0, .int .u8 0, .int .u8 0, .int .u8 0, .int .u8 0, .int .u8 0, .int .u8 0, .int .u8 0, .int .u8 0, .int .u8 0, .int .u8 0, .int .u8 0, .int .u8 0, .int .u8 0, .int .u8 0, .int .u8 0, .int .u8 0, .int .u8 0, .int .u8 0, .int .u8 0, .int .u8 0, .int .u8 0, .int .u8 0, .int .u8 0, .int .u8 0, .int .u8 0, .int .u8 0, .int .u8 0, .int .u8 0, .int .u8 0, .int .u8 0, .int .u8 0, .int .u8 0, .int .u8 0, .int .u8 0, .int .u8 0, .int .u8 0, .int .u8 0, .int .u8 0, .int .u8 0, .int .u8 0, .int .u8 0, .int .u8 0, .int .u8 0, .int .u8 0, .int .u8 0, .int .u8 0, .int .u8 0, .int .u8 0, .int .u8 0, .int .u8 0, .int .u8 0, .int .u8 0, .int .u8 0, .int .u8 0] : Array Value) = secA sec0 := by rfl
              have HB10 : Hid (Blk w6 b10 35 (u8s sec0).toArray) := Lib.hid (by rw [hw6, hb10, hz]; exact Blk.new _ _ _)
              have HN6 : Hid (New wr w6) := Lib.hid (by rw [hw6]; exact New.al (New.refl _) _)
              have HL10 : Hid (b10 = wr.heap.size) := Lib.hid hb10
              rw [← hw6, ← hb10]
              clear hw6 hb10 hz
              go_wp2_with (first
                | ((with_reducible refine atOp ⟨some 74, _, _, _, _, _⟩ ?_); refine wpList_copyF (q := fun k => (Value.slice X m xc).ownBlock = some k) rfl (.tmp 72) (.tmp 73) 43 43 rfl 5 Tryd.underlying43 rfl b10 0 64 64 X m xc rfl rfl (u8s sec0) 35 HB10.out (u8s (l.raw b k)) (by rw [u8s_len, HXL.out]; exact (Nat.min_eq_left hm64).symm) ⟨m, u8s (l.raw b k), Rd.own (HN6.out.own HXO.out) rfl, List.take_length⟩ (by rw [u8s_len, u8s_len, HXL.out, sec0_ok.1]; omega) (u8s_one _) ?_; intro w7 hb7 hf7; rw [HSP.out] at hb7; have HB7 : Hid (Blk w7 b10 35 (secA (l.sec b k))) := Lib.hid hb7; have HF7 := Lib.hid hf7; clear hb7 hf7; have HN7 : Hid (New wr w7) := Lib.hid (HN6.out.fr HF7.out (fun k hk => by have := HL10.out; omega)))
                | ((with_reducible refine atOp ⟨some 76, .load _ _, _, _, _, _⟩ ?_); refine wpList_load_any rfl _ rfl Tryd.underlying35 rfl (by rw [HP64.out]; rfl) rfl HB7.out ?_)
                | ((with_reducible refine atOp ⟨some 77, .buildSlice _ _ _, _, _, _, _⟩ ?_); refine wpList_bs1 elSec (by decide) rfl (.tmp 76) rfl (secA (l.sec b k)) rfl HP64.out ?_)
                | ((with_reducible refine atOp ⟨some 78, _, _, _, _, _⟩ ?_); refine wpList_app elSec _ rfl (.tmp 75) (.tmp 77) rfl w4.heap.size (.slice C k cc) k _ rfl (New.own (New.al HN7.out _) HOO.out) (some ⟨w7.heap.size, 0, none⟩) 1 1 (u8s (l.sec b k)) rfl (by have h := Rd.ofBlk (p := fun _ => True) (Blk.new w7 35 (secA (l.sec b k))) 64 1 (by rw [HP64.out]) trivial; rwa [secA_list] at h) (u8s_one _) (by unfold maxLen; omega) (by omega) (New.al (HNr.out.tr HN7.out) _).size ?_; intro A8 c8 w8 hO8 hF8 hA8; have HF8 := Lib.hid hF8; have HO8 := Lib.hid hO8; clear hO8 hF8 hA8))
              have HN8 : Hid (New w4 w8) := Lib.hid ((New.al (HNr.out.tr HN7.out) _).fr HF8.out (fun k hk => (own_lt HOO.out k hk).1))
              have HO9 : Hid (w8.ownsRow w4.heap.size 35 64 (.slice A8 (k + 1) c8) (k + 1) (secF l b (k + 1))) := Lib.hid (by rw [secF_succ]; exact HO8.out)
              go_roundw
              case rel => exact ⟨k + 1, A8, c8, by omega, by go_num, rfl, HN8, HO9⟩
              case measure => simp [intOf]; omega
    · have hkK : k = K := by omega
      subst hkK
      have hkf : ¬ 55 * (k : Int) < (fl : Int) := by have := HK.out; have := HFL2.out; omega
      go_wp2_with fail
      go_ret
      exact ⟨⟨C, cc, rfl, own_base HO.out (fun j hj => by have := (own_lt HO.out j hj).1; have := HN4'.out.size; have := HN0.out.size; omega)⟩, (HN0.out.tr HN4'.out).tr HN.out⟩
end Go.Proofs.YteeclfejgpgooaaDoor
