/- Rings: drop and put. No condition but the ring's own. -/
import Derived.Test.YtpomcnfifhfffaaRgP
import Derived.Deep.CutBlock
import Derived.Deep.DeepCutAuto
namespace Go.Proofs.Ytpomcnfifhfffaa.Ro
open Go.Proofs.Ytpomcnfifhfffaa
open Go.RowKit Go.Maps

theorem keyU : Keyed Try.prog 23 := int_keyed Try.underlying23
theorem key_of {a : Int} (h : 0 ≤ a ∧ a < 18446744073709551616) : keyOf Try.prog 23 (.int .u64 a) = some (.int .u64 a) :=
  keyOf_int_mk Try.underlying23 (by simp [Lit.wf, IntKind.min, IntKind.max, IntKind.signed, IntKind.bits]; omega)

/-- The ring at block g: its order, its things by number, how many may be. -/
structure Rg (w : World) (base g : Nat) (v : Value) (bm m : Nat) (O : List Int) (f : Lit → Option Value) (most : Int) : Prop where
  hg : base ≤ g
  hm : base ≤ bm
  blk : Blk w g 54 #[v, .map (some bm), .int .i64 most]
  own : w.ownsRow base 23 1 v O.length (u64s O)
  map : MapAt w Try.prog 23 bm m f
  len : O.length ≤ 1000
  nd : O.Nodup
  wf : ∀ x ∈ O, 0 ≤ x ∧ x < 18446744073709551616
  dom : ∀ kl, f kl ≠ none → ∃ x ∈ O, kl = .int .u64 x

def eraseN (O : List Int) (a : Int) : List Int := match at_ O a with | some i => O.eraseIdx i | none => O
theorem eraseN_none {O : List Int} {a : Int} (h : at_ O a = none) : eraseN O a = O := by simp [eraseN, h]
theorem eraseN_some {O : List Int} {a : Int} {i : Nat} (h : at_ O a = some i) : eraseN O a = O.eraseIdx i := by simp [eraseN, h]
theorem eraseN_eq (O : List Int) (a : Int) : eraseN O a = O.erase a := by
  unfold eraseN at_
  induction O with
  | nil => simp
  | cons x O ih =>
    rw [List.findIdx?_cons, List.erase_cons]
    by_cases h : (x == a) = true
    · simp [h]
    · have h' : (x == a) = false := by simpa using h
      rw [h']
      simp only [Bool.false_eq_true, if_false]
      rw [← ih]
      cases O.findIdx? (fun x => x == a) <;> simp

section
variable {w w' : World} {base g bm m : Nat} {v : Value} {O : List Int} {f : Lit → Option Value} {most : Int}
theorem Rg.fr {S : Nat → Prop} (h : Rg w base g v bm m O f most) (hf : Fr S w w') (h1 : ¬ S g) (h2 : ¬ S bm) (h3 : ∀ k, v.ownBlock = some k → ¬ S k) : Rg w' base g v bm m O f most :=
  ⟨h.hg, h.hm, h.blk.fr hf h1, own_fr h.own hf h3, h.map.fr hf h2, h.len, h.nd, h.wf, h.dom⟩
theorem Rg.new (h : Rg w base g v bm m O f most) (hn : New w w') : Rg w' base g v bm m O f most := h.fr (hn.toFr NoB) (fun x => x) (fun x => x) (fun _ _ x => x)
/-- A block of cells is no map. -/
theorem map_ne {t : TypeId} {cs : Array Value} {g' : Nat} (h : MapAt w Try.prog 23 bm m f) (hg : Blk w g' t cs) : bm ≠ g' := by
  rintro rfl
  obtain ⟨D, ⟨es, clock, hb, _⟩, _⟩ := h
  unfold Blk at hg
  rw [hb] at hg
  cases hg
theorem map_ne_own {e s n : Nat} {b : Nat} {u : Value} {xs : List Value} (h : MapAt w Try.prog 23 bm m f) (ho : w.ownsRow b e s u n xs) : u.ownBlock ≠ some bm := by
  rcases ho.2 with ⟨rfl, _⟩ | ⟨g', cap, cur, rfl, _, hh, _⟩
  · simp [Value.ownBlock]
  · intro he
    have : g' = bm := by simpa [Value.ownBlock] using he
    subst this
    exact map_ne h hh rfl
/-- The ring's own blocks. -/
def Ours (g bm : Nat) (v : Value) (k : Nat) : Prop := k = g ∨ k = bm ∨ v.ownBlock = some k
theorem Rg.ours (h : Rg w base g v bm m O f most) : ∀ k, Ours g bm v k → base ≤ k ∧ k < w.heap.size := by
  rintro k (rfl | rfl | hk)
  · exact ⟨h.hg, h.blk.lt⟩
  · exact ⟨h.hm, h.map.lt⟩
  · exact own_lt h.own k hk
end

theorem drop_no (base g bm m : Nat) (v : Value) (O : List Int) (f : Lit → Option Value) (most a : Int) (w : World) (h : Rg w base g v bm m O f most) (hp : at_ O a = none) :
    Calls Try.prog 26 #[.pointer (some ⟨g, 0, none⟩), .int .u64 a] w fun e w' => e = .returned (.bool false) ∧ w = w' := by
  obtain ⟨A, c, rfl, hnc, hcm, -, -⟩ := own_shape h.own
  have h0 : w.cell? ⟨g, 0, none⟩ = some (.slice A O.length c) := h.blk.cell 0
  have HR := Lib.hid (Rd.own h.own rfl)
  have HQ := Lib.hid (atI_none hp)
  have hlen := h.len
  clear hp h
  go_enter Try.func26, Try.ntmps26
  go_wp2_with fail
  refine (index_any A O.length c O a w HR.out (by omega)).mono ?_
  rw [HQ.out]
  rintro e w1 ⟨rfl, rfl⟩
  go_wp2_with fail
  go_ret
  exact ⟨rfl, rfl⟩

theorem drop_yes (base g bm m : Nat) (v : Value) (O : List Int) (f : Lit → Option Value) (most a : Int) (w : World) (h : Rg w base g v bm m O f most) (i : Nat) (hp : at_ O a = some i) :
    Calls Try.prog 26 #[.pointer (some ⟨g, 0, none⟩), .int .u64 a] w fun e w' => e = .returned (.bool true) ∧
      ∃ v', Rg w' base g v' bm m (eraseN O a) (putF f (.int .u64 a) none) most ∧ v'.ownBlock = v.ownBlock ∧ Fr (Ours g bm v) w w' := by
  obtain ⟨hi, hOi⟩ := at_lt hp
  obtain ⟨b, c, rfl, hnc, hcm⟩ := own_form h.own (by omega)
  have h0 : w.cell? ⟨g, 0, none⟩ = some (.slice (some ⟨b, 0, none⟩) O.length c) := h.blk.cell 0
  have HR := Lib.hid (Rd.own h.own rfl)
  have HQ := Lib.hid (atI_some hp)
  have HE := Lib.hid (eraseN_some hp)
  have HI : Hid (i < O.length) := Lib.hid hi
  have hlen := h.len
  have H := Lib.hid h
  have HK := Lib.hid (key_of (h.wf a (by rw [← hOi]; exact List.getElem_mem hi)))
  clear hp h hOi
  go_enter Try.func26, Try.ntmps26
  go_wp2_with fail
  refine (index_any _ O.length c O a w HR.out (by omega)).mono ?_
  rw [HQ.out]
  rintro e w1 ⟨rfl, rfl⟩
  go_wp2_with fail
  refine (del_any base b O.length c i O w H.out.own HI.out hnc hcm).mono ?_
  rintro e w1 ⟨rfl, hO1, hF1⟩
  have hbg : ¬ g = b := fun e => own_ne H.out.own H.out.blk (by decide) (by simp [Value.ownBlock, e])
  have hbm : ¬ bm = b := fun e => map_ne_own H.out.map H.out.own (by simp [Value.ownBlock, e])
  have hB1 := H.out.blk.fr hF1 hbg
  have hM1 := H.out.map.fr hF1 hbm
  have k0 := hB1.cell 0
  have k1 := hB1.cell 1
  have q0 := hB1.frozen 0
  have hgm : ¬ bm = g := map_ne hM1 hB1
  have hM2 := hM1.fr (S := fun k => k = g) ((Fr.refl (fun k => k = g) w1).setCell (p := ⟨g, 0, none⟩) (fun _ => rfl) (.slice (some ⟨b, 0, none⟩) (O.length - 1) c)) hgm
  have HB1 := Lib.hid hB1
  have HM2 := Lib.hid hM2
  have HO1 := Lib.hid hO1
  have HF1 := Lib.hid hF1
  clear hB1 hM1 hM2 hO1 hF1
  go_wp2_with (refine wpList_mdel HM2.out keyU Try.underlying50 rfl (.tmp 28) (.tmp 29) rfl rfl (.int .u64 a) (.int .u64 a) rfl HK.out ?_; intro w3 hM3 hF3; have HM3 := Lib.hid hM3; have HF3 := Lib.hid hF3; clear hM3 hF3)
  go_ret
  have hl : (eraseN O a).length = O.length - 1 := by rw [HE.out, List.length_eraseIdx_of_lt HI.out]
  refine ⟨rfl, .slice (some ⟨b, 0, none⟩) (O.length - 1) c, ⟨H.out.hg, H.out.hm, ?_, ?_, HM3.out, by omega, ?_, ?_, ?_⟩, rfl, ?_⟩
  · exact (HB1.out.set 0 (.slice (some ⟨b, 0, none⟩) (O.length - 1) c)).fr HF3.out (fun e => hgm e.symm)
  · rw [hl, HE.out]
    exact own_fr (own_fr HO1.out ((Fr.refl (fun k => k = g) w1).setCell (p := ⟨g, 0, none⟩) (fun _ => rfl) _) (fun k hk e => hbg (by simp [Value.ownBlock] at hk; omega))) HF3.out (fun k hk e => hbm (by simp [Value.ownBlock] at hk; omega))
  · rw [eraseN_eq]; exact H.out.nd.erase a
  · intro x hx
    rw [eraseN_eq] at hx
    exact H.out.wf x (List.mem_of_mem_erase hx)
  · intro kl hkl
    by_cases e : kl = .int .u64 a
    · subst e; rw [putF_same (kl := .int .u64 a) trivial] at hkl; exact absurd rfl hkl
    · rw [putF_other e] at hkl
      obtain ⟨x, hx, rfl⟩ := H.out.dom kl hkl
      refine ⟨x, ?_, rfl⟩
      rw [eraseN_eq, List.Nodup.mem_erase_iff H.out.nd]
      exact ⟨fun e' => e (by rw [e']), hx⟩
  · refine ((HF1.out.mono (T := Ours g bm (.slice (some ⟨b, 0, none⟩) O.length c)) (fun k _ hk => .inr (.inr (by simp [Value.ownBlock, hk])))).setCell (p := ⟨g, 0, none⟩) (fun _ => .inl rfl) _).trans' HF3.out (fun k _ hk => .inr (.inl hk))

theorem drop_any (base g bm m : Nat) (v : Value) (O : List Int) (f : Lit → Option Value) (most a : Int) (w : World) (h : Rg w base g v bm m O f most) :
    Calls Try.prog 26 #[.pointer (some ⟨g, 0, none⟩), .int .u64 a] w fun e w' => e = .returned (.bool (at_ O a).isSome) ∧
      ∃ v', Rg w' base g v' bm m (eraseN O a) (putF f (.int .u64 a) none) most ∧ v'.ownBlock = v.ownBlock ∧ Fr (Ours g bm v) w w' := by
  rcases hp : at_ O a with _ | i
  · refine (drop_no base g bm m v O f most a w h hp).mono ?_
    rintro e w' ⟨rfl, rfl⟩
    refine ⟨rfl, v, ?_, rfl, Fr.refl _ _⟩
    rw [eraseN_none hp]
    have hf : putF f (.int .u64 a) none = f := by
      funext kl
      by_cases e : kl = .int .u64 a
      · subst e
        rw [putF_same (kl := .int .u64 a) trivial]
        rcases hx : f (.int .u64 a) with _ | y
        · rfl
        · obtain ⟨x, hx1, hx2⟩ := h.dom (.int .u64 a) (by rw [hx]; simp)
          injection hx2 with _ hx2
          subst hx2
          exact absurd hx1 (at_none_iff.1 hp)
      · exact putF_other e none
    rw [hf]
    exact h
  · exact drop_yes base g bm m v O f most a w h i hp

theorem put_end {w w1 w3 w4 w5 : World} {base g bm m : Nat} {v v1 v' val : Value} {O2 : List Int} {f2 : Lit → Option Value} {most a : Int} (hW : Fr (Ours g bm v) w w1) (hv : v1.ownBlock = v.ownBlock) (H1 : Rg w1 base g v1 bm m O2 f2 most) (ha : 0 ≤ a ∧ a < 18446744073709551616)
    (hno : a ∉ O2) (hlen : O2.length < 1000) (hF13 : Fr (fun k => v1.ownBlock = some k) w1 w3) (hO3 : w3.ownsRow base 23 1 v' (O2.length + 1) (u64s O2 ++ [.int .u64 a])) (hA3 : ∀ k, v'.ownBlock = some k → v1.ownBlock = some k ∨ w1.heap.size ≤ k)
    (hF4 : Fr (fun k => k = g) w3 w4) (hB4 : Blk w4 g 54 #[v', .map (some bm), .int .i64 most]) (hM5 : MapAt w5 Try.prog 23 bm (m + 1) (putF f2 (.int .u64 a) (some val))) (hF5 : Fr (fun k => k = bm) w4 w5) :
    Rg w5 base g v' bm (m + 1) (O2 ++ [a]) (putF f2 (.int .u64 a) (some val)) most ∧ Fr (Ours g bm v) w w5 ∧ (∀ k, v'.ownBlock = some k → v.ownBlock = some k ∨ w.heap.size ≤ k) := by
  have hgm : ¬ bm = g := map_ne H1.map H1.blk
  have hg1 := H1.blk.lt
  have hm1 := H1.map.lt
  have hvg : ∀ k, v'.ownBlock = some k → ¬ k = g := fun k hk e => by
    rcases hA3 k hk with h | h
    · exact own_ne H1.own H1.blk (by decide) (by rw [h, e])
    · omega
  have hvm : ∀ k, v'.ownBlock = some k → ¬ k = bm := fun k hk e => by
    rcases hA3 k hk with h | h
    · exact map_ne_own H1.map H1.own (by rw [h, e])
    · omega
  refine ⟨⟨H1.hg, H1.hm, hB4.fr hF5 (fun e => hgm e.symm), ?_, hM5, by simp; omega, ?_, ?_, ?_⟩, ?_, ?_⟩
  · rw [List.length_append, u64s_app]
    exact own_fr (own_fr hO3 hF4 hvg) hF5 hvm
  · rw [List.nodup_append]
    refine ⟨H1.nd, by simp, ?_⟩
    intro x hx y hy e
    have hy' : y = a := by simpa using hy
    subst hy' e
    exact hno hx
  · intro x hx
    rcases List.mem_append.1 hx with h | h
    · exact H1.wf x h
    · have hx' : x = a := by simpa using h
      subst hx'
      exact ha
  · intro kl hkl
    by_cases e : kl = .int .u64 a
    · exact ⟨a, by simp, e⟩
    · rw [putF_other e] at hkl
      obtain ⟨x, hx, rfl⟩ := H1.dom kl hkl
      exact ⟨x, List.mem_append_left _ hx, rfl⟩
  · refine ((hW.trans' hF13 (fun k _ hk => .inr (.inr (by rw [← hv]; exact hk)))).trans' hF4 (fun k _ hk => .inl hk)).trans' hF5 (fun k _ hk => .inr (.inl hk))
  · intro k hk
    rcases hA3 k hk with h | h
    · exact .inl (by rw [← hv]; exact h)
    · have := hW.size; exact .inr (by omega)

set_option maxHeartbeats 2000000 in
theorem put_room (base g bm m : Nat) (v : Value) (O : List Int) (f : Lit → Option Value) (most a : Int) (x : Nat) (w : World) (h : Rg w base g v bm m O f most) (ha : 0 ≤ a ∧ a < 18446744073709551616)
    (hr : ((eraseN O a).length : Int) < most) (hm : most ≤ 900) (hmm : m < 1000000) :
    Calls Try.prog 21 #[.pointer (some ⟨g, 0, none⟩), .int .u64 a, .pointer (some ⟨x, 0, none⟩)] w fun e w' => e = .returned (.tuple #[]) ∧
      ∃ v', Rg w' base g v' bm (m + 1) (eraseN O a ++ [a]) (putF (putF f (.int .u64 a) none) (.int .u64 a) (some (.pointer (some ⟨x, 0, none⟩)))) most ∧ Fr (Ours g bm v) w w' ∧
        (∀ k, v'.ownBlock = some k → v.ownBlock = some k ∨ w.heap.size ≤ k) := by
  have H := Lib.hid h
  have HK := Lib.hid (key_of ha)
  have HA := Lib.hid ha
  clear h ha
  go_enter Try.func21, Try.ntmps21
  go_wp2_with fail
  have HN0 : Hid (New w w) := Lib.hid (New.refl w)
  refine (drop_any base g bm m v O f most a w H.out).mono ?_
  rintro e w1 ⟨rfl, v1, h1, hv1, hF1⟩
  obtain ⟨A, c, rfl, hnc, hcm, -, -⟩ := own_shape h1.own
  have i0 : w1.cell? ⟨g, 0, none⟩ = some (.slice A (eraseN O a).length c) := h1.blk.cell 0
  have i2 : w1.cell? ⟨g, 2, none⟩ = some (.int .i64 most) := h1.blk.cell 2
  have hne : (((eraseN O a).length : Int) == most) = false := by simp; omega
  have H1 := Lib.hid h1
  have HF1 := Lib.hid hF1
  have HV1 := Lib.hid hv1
  clear h1 hF1 hv1
  go_wp2_with fail
  go_quiet (fail)
  obtain ⟨w2, hw2⟩ : ∃ w2 : World, w2 = w1.drewN nq := ⟨_, rfl⟩
  have HN2 : Hid (New w1 w2) := Lib.hid (by rw [hw2]; exact (New.refl w1).dn _)
  rw [← hw2]
  clear hw2
  have j0 := HN2.out.cell_ i0
  have HB2 := Lib.hid (H1.out.blk)
  have hgs : g < w2.heap.size := Nat.lt_of_lt_of_le H1.out.blk.lt HN2.out.size
  have hbs : base ≤ w2.heap.size := by have := H1.out.hg; omega
  clear i0 i2 hne
  have hng : ∀ k, (Value.slice A (eraseN O a).length c).ownBlock = some k → ¬ k = g := fun k hk e => own_ne H1.out.own H1.out.blk (by decide) (by rw [hk, e])
  have HNG := Lib.hid hng
  clear hng
  go_upto_region 4 with (at_builtin; refine wpList_app elU _ rfl (.tmp 31) (.tmp 33) rfl base (.slice A (eraseN O a).length c) (eraseN O a).length (u64s (eraseN O a)) rfl (New.own (New.al HN2.out _) H1.out.own) (some ⟨w2.heap.size, 0, none⟩) 1 1 [.int .u64 a] rfl (Rd.ofBlk (p := fun _ => True) (t := 23) (cs := #[.int .u64 a]) (Blk.new' _ _ _ rfl) 1 1 rfl trivial) (by simp [Value.oneCell']) (by unfold maxLen; omega) (by omega) (by simp; omega) ?_; intro A' c' w3 hO3 hF3 hA3; have hB3 := ((HN2.out.blk H1.out.blk).alloc (.cells #[.int .u64 a] 23)).fr hF3 (fun e => HNG.out _ e rfl); have m0 := hB3.cell 0; have m1 := hB3.cell 1; have q0 := hB3.frozen 0; have HB3 := Lib.hid hB3; have HO3 := Lib.hid hO3; have HF3 := Lib.hid hF3; have HA3 := Lib.hid hA3; clear hB3 hO3 hF3 hA3)
  have hgm : ¬ bm = g := map_ne H1.out.map H1.out.blk
  have hF13 : Fr (fun k' => (Value.slice A (eraseN O a).length c).ownBlock = some k') w1 w3 := ((HN2.out.toFr _).alloc _).trans HF3.out
  have hM3 := H1.out.map.fr hF13 (fun e => map_ne_own H1.out.map H1.out.own e)
  obtain ⟨w4, hw4⟩ : ∃ w4 : World, w4 = w3.setCell ⟨g, 0, none⟩ (.slice A' ((eraseN O a).length + 1) c') := ⟨_, rfl⟩
  have hF4 : Fr (fun k => k = g) w3 w4 := by rw [hw4]; exact (Fr.refl (fun k => k = g) w3).setCell (p := ⟨g, 0, none⟩) (fun _ => rfl) _
  have hB4 : Blk w4 g 54 #[.slice A' ((eraseN O a).length + 1) c', .map (some bm), .int .i64 most] := by rw [hw4]; exact HB3.out.set 0 _
  rw [← hw4]
  clear hw4
  have HM4 : Hid (MapAt w4 Try.prog 23 bm m (putF f (.int .u64 a) none)) := Lib.hid (hM3.fr (S := fun k => k = g) hF4 hgm)
  have y1 := hB4.cell 1
  have HF13 := Lib.hid hF13
  have HF4 := Lib.hid hF4
  have HB4 := Lib.hid hB4
  have HMM : Hid (m < maxLen) := Lib.hid (by unfold maxLen; omega)
  clear hF13 hM3 hF4 hB4 m0 m1 q0 j0
  obtain ⟨w5, hrun, hM5, hF5⟩ := HM4.out.store keyU Try.underlying50 HMM.out HK.out (.pointer (some ⟨x, 0, none⟩))
  have HM5 := Lib.hid hM5
  have HF5 := Lib.hid hF5
  clear hM5 hF5
  go_wp2_with fail
  have hnoE : a ∉ eraseN O a := by rw [eraseN_eq]; exact fun hx => ((List.Nodup.mem_erase_iff H.out.nd).1 hx).1 rfl
  have hE := put_end ((HN0.out.toFr _).trans HF1.out) HV1.out H1.out HA.out hnoE (by omega) HF13.out HO3.out (fun k hk => by
    rcases HA3.out k hk with h | h
    · exact .inl h
    · have := HN2.out.size; simp at h; exact .inr (by omega)) HF4.out HB4.out HM5.out HF5.out
  go_end0
  exact ⟨rfl, _, hE.1, hE.2.1, hE.2.2⟩
set_option maxHeartbeats 2000000 in
theorem put_full (base g bm m : Nat) (v : Value) (O : List Int) (f : Lit → Option Value) (most a : Int) (x : Nat) (w : World) (h : Rg w base g v bm m O f most) (ha : 0 ≤ a ∧ a < 18446744073709551616)
    (h0 : Int) (t : List Int) (he : eraseN O a = h0 :: t) (hr : ((eraseN O a).length : Int) = most) (hm : most ≤ 900) (hmm : m < 1000000) :
    Calls Try.prog 21 #[.pointer (some ⟨g, 0, none⟩), .int .u64 a, .pointer (some ⟨x, 0, none⟩)] w fun e w' => e = .returned (.tuple #[]) ∧
      ∃ v', Rg w' base g v' bm (m + 1) (t ++ [a]) (putF (putF (putF f (.int .u64 a) none) (.int .u64 h0) none) (.int .u64 a) (some (.pointer (some ⟨x, 0, none⟩)))) most ∧ Fr (Ours g bm v) w w' ∧
        (∀ k, v'.ownBlock = some k → v.ownBlock = some k ∨ w.heap.size ≤ k) := by
  have H := Lib.hid h
  have HEQ := Lib.hid he
  have hnoE : a ∉ eraseN O a := by rw [eraseN_eq]; exact fun hx => ((List.Nodup.mem_erase_iff h.nd).1 hx).1 rfl
  have HNE := Lib.hid hnoE
  have HK := Lib.hid (key_of ha)
  have HA := Lib.hid ha
  clear h ha he hnoE
  go_enter Try.func21, Try.ntmps21
  go_wp2_with fail
  have HN0 : Hid (New w w) := Lib.hid (New.refl w)
  refine (drop_any base g bm m v O f most a w H.out).mono ?_
  rintro e w1 ⟨rfl, v1, h1, hv1, hF1⟩
  rw [HEQ.out] at h1 hr
  obtain ⟨bb, cc, rfl, hnc1, hcm1⟩ := own_form h1.own (by simp)
  have i0 : w1.cell? ⟨g, 0, none⟩ = some (.slice (some ⟨bb, 0, none⟩) (t.length + 1) cc) := h1.blk.cell 0
  have i2 : w1.cell? ⟨g, 2, none⟩ = some (.int .i64 most) := h1.blk.cell 2
  have ih : w1.cell? ⟨bb, 0, none⟩ = some (.int .u64 h0) := h1.own.cellAt 0 (by simp)
  have hne : (((t.length + 1 : Nat) : Int) == most) = true := by simp at hr ⊢; omega
  have hne2 : (((t.length : Nat) : Int) + 1 == most) = true := by simp at hr ⊢; omega
  have H1 := Lib.hid h1
  have HF1 := Lib.hid hF1
  have HV1 := Lib.hid hv1
  clear h1 hF1 hv1
  go_wp2_with fail
  go_quiet (fail)
  obtain ⟨wq, hwq⟩ : ∃ wq : World, wq = w1.drewN nq := ⟨_, rfl⟩
  have HNq : Hid (New w1 wq) := Lib.hid (by rw [hwq]; exact (New.refl w1).dn _)
  rw [← hwq]
  clear hwq
  have l0 := HNq.out.cell_ i0
  have lh := HNq.out.cell_ ih
  clear i0 i2 ih hne hne2
  go_wp2_with fail
  refine (drop_any base g bm m _ (h0 :: t) _ most h0 wq (H1.out.new HNq.out)).mono ?_
  have het : eraseN (h0 :: t) h0 = t := by rw [eraseN_eq]; simp
  rw [het]
  rintro e wr ⟨rfl, vr, hr1, hvr, hFr⟩
  have hFt : Fr (Ours g bm v) w wr := (HF1.out.trans (HNq.out.toFr _)).trans (hFr.mono (T := Ours g bm v) (fun k _ hk => hk.imp id (Or.imp id (fun h => by rw [← HV1.out]; exact h))))
  have hvt : vr.ownBlock = v.ownBlock := hvr.trans HV1.out
  clear hvr hFr l0 lh het
  have hrr : (t.length : Int) + 1 = most := by simpa using hr
  clear hr
  clear H1 HF1 HV1
  have HF1 := Lib.hid hFt
  have HV1 := Lib.hid hvt
  have H1 := Lib.hid hr1
  obtain ⟨A, c, rfl, hnc, hcm, -, -⟩ := own_shape hr1.own
  have i0 : wr.cell? ⟨g, 0, none⟩ = some (.slice A t.length c) := hr1.blk.cell 0
  clear hFt hvt hr1
  obtain ⟨w2, hw2⟩ : ∃ w2 : World, w2 = wr := ⟨_, rfl⟩
  have HN2 : Hid (New wr w2) := Lib.hid (by rw [hw2]; exact New.refl wr)
  rw [← hw2]
  clear hw2
  have j0 := HN2.out.cell_ i0
  have HB2 := Lib.hid (H1.out.blk)
  have hgs : g < w2.heap.size := Nat.lt_of_lt_of_le H1.out.blk.lt HN2.out.size
  have hbs : base ≤ w2.heap.size := by have := H1.out.hg; omega
  clear i0
  have hng : ∀ k, (Value.slice A (t).length c).ownBlock = some k → ¬ k = g := fun k hk e => own_ne H1.out.own H1.out.blk (by decide) (by rw [hk, e])
  have HNG := Lib.hid hng
  clear hng
  go_upto_region 4 with (at_builtin; refine wpList_app elU _ rfl (.tmp 31) (.tmp 33) rfl base (.slice A (t).length c) (t).length (u64s (t)) rfl (New.own (New.al HN2.out _) H1.out.own) (some ⟨w2.heap.size, 0, none⟩) 1 1 [.int .u64 a] rfl (Rd.ofBlk (p := fun _ => True) (t := 23) (cs := #[.int .u64 a]) (Blk.new' _ _ _ rfl) 1 1 rfl trivial) (by simp [Value.oneCell']) (by unfold maxLen; omega) (by omega) (by simp; omega) ?_; intro A' c' w3 hO3 hF3 hA3; have hB3 := ((HN2.out.blk H1.out.blk).alloc (.cells #[.int .u64 a] 23)).fr hF3 (fun e => HNG.out _ e rfl); have m0 := hB3.cell 0; have m1 := hB3.cell 1; have q0 := hB3.frozen 0; have HB3 := Lib.hid hB3; have HO3 := Lib.hid hO3; have HF3 := Lib.hid hF3; have HA3 := Lib.hid hA3; clear hB3 hO3 hF3 hA3)
  have hgm : ¬ bm = g := map_ne H1.out.map H1.out.blk
  have hF13 : Fr (fun k' => (Value.slice A (t).length c).ownBlock = some k') wr w3 := ((HN2.out.toFr _).alloc _).trans HF3.out
  have hM3 := H1.out.map.fr hF13 (fun e => map_ne_own H1.out.map H1.out.own e)
  obtain ⟨w4, hw4⟩ : ∃ w4 : World, w4 = w3.setCell ⟨g, 0, none⟩ (.slice A' ((t).length + 1) c') := ⟨_, rfl⟩
  have hF4 : Fr (fun k => k = g) w3 w4 := by rw [hw4]; exact (Fr.refl (fun k => k = g) w3).setCell (p := ⟨g, 0, none⟩) (fun _ => rfl) _
  have hB4 : Blk w4 g 54 #[.slice A' ((t).length + 1) c', .map (some bm), .int .i64 most] := by rw [hw4]; exact HB3.out.set 0 _
  rw [← hw4]
  clear hw4
  have HM4 : Hid (MapAt w4 Try.prog 23 bm m (putF (putF f (.int .u64 a) none) (.int .u64 h0) none)) := Lib.hid (hM3.fr (S := fun k => k = g) hF4 hgm)
  have y1 := hB4.cell 1
  have HF13 := Lib.hid hF13
  have HF4 := Lib.hid hF4
  have HB4 := Lib.hid hB4
  have HMM : Hid (m < maxLen) := Lib.hid (by unfold maxLen; omega)
  clear hF13 hM3 hF4 hB4 m0 m1 q0 j0
  obtain ⟨w5, hrun, hM5, hF5⟩ := HM4.out.store keyU Try.underlying50 HMM.out HK.out (.pointer (some ⟨x, 0, none⟩))
  have HM5 := Lib.hid hM5
  have HF5 := Lib.hid hF5
  clear hM5 hF5
  go_wp2_with fail
  have hnoE : a ∉ t := fun hx => HNE.out (by rw [HEQ.out]; exact List.mem_cons_of_mem _ hx)
  have hE := put_end ((HN0.out.toFr _).trans HF1.out) HV1.out H1.out HA.out hnoE (by omega) HF13.out HO3.out (fun k hk => by
    rcases HA3.out k hk with h | h
    · exact .inl h
    · have := HN2.out.size; simp at h; exact .inr (by omega)) HF4.out HB4.out HM5.out HF5.out
  go_end0
  exact ⟨rfl, _, hE.1, hE.2.1, hE.2.2⟩

/-- What stays beside a thing that is put. -/
def keptO (O : List Int) (a most : Int) : List Int := if ((eraseN O a).length : Int) = most then (eraseN O a).tail else eraseN O a
def keptF (f : Lit → Option Value) (O : List Int) (a most : Int) : Lit → Option Value :=
  if ((eraseN O a).length : Int) = most then (match eraseN O a with | h :: _ => putF (putF f (.int .u64 a) none) (.int .u64 h) none | [] => putF f (.int .u64 a) none) else putF f (.int .u64 a) none
theorem keptO_sub {O : List Int} {a most x : Int} (hn : O.Nodup) (h : x ∈ keptO O a most) : x ∈ O ∧ x ≠ a := by
  have key : x ∈ eraseN O a := by
    unfold keptO at h
    split at h
    · exact List.mem_of_mem_tail h
    · exact h
  rw [eraseN_eq, List.Nodup.mem_erase_iff hn] at key
  exact ⟨key.2, key.1⟩
theorem keptF_mem {f : Lit → Option Value} {O : List Int} {a most x : Int} (hn : O.Nodup) (h : x ∈ keptO O a most) : keptF f O a most (.int .u64 x) = f (.int .u64 x) := by
  have hxa := (keptO_sub hn h).2
  have h1 : putF f (.int .u64 a) none (.int .u64 x) = f (.int .u64 x) := putF_other (by simpa using hxa) _
  have hne : (eraseN O a).Nodup := by rw [eraseN_eq]; exact hn.erase a
  unfold keptF
  unfold keptO at h
  split
  · next he =>
    rw [if_pos he] at h
    revert h hne
    cases eraseN O a with
    | nil => intro h _; simp at h
    | cons y t =>
      intro h hne
      have hxy : x ≠ y := by
        rintro rfl
        exact (List.nodup_cons.1 hne).1 h
      simp only
      rw [putF_other (by simpa using hxy), h1]
  · exact h1
theorem put_any (base g bm m : Nat) (v : Value) (O : List Int) (f : Lit → Option Value) (most a : Int) (x : Nat) (w : World) (h : Rg w base g v bm m O f most) (ha : 0 ≤ a ∧ a < 18446744073709551616)
    (hl : (O.length : Int) ≤ most) (h1 : 1 ≤ most) (hm : most ≤ 900) (hmm : m < 1000000) :
    Calls Try.prog 21 #[.pointer (some ⟨g, 0, none⟩), .int .u64 a, .pointer (some ⟨x, 0, none⟩)] w fun e w' => e = .returned (.tuple #[]) ∧
      ∃ v', Rg w' base g v' bm (m + 1) (keptO O a most ++ [a]) (putF (keptF f O a most) (.int .u64 a) (some (.pointer (some ⟨x, 0, none⟩)))) most ∧ Fr (Ours g bm v) w w' ∧
        (∀ k, v'.ownBlock = some k → v.ownBlock = some k ∨ w.heap.size ≤ k) := by
  have hle : (eraseN O a).length ≤ O.length := by rw [eraseN_eq]; exact List.length_erase_le ..
  by_cases hf : ((eraseN O a).length : Int) = most
  · have ek : keptO O a most = (eraseN O a).tail := if_pos hf
    have ef : keptF f O a most = (match eraseN O a with | h :: _ => putF (putF f (.int .u64 a) none) (.int .u64 h) none | [] => putF f (.int .u64 a) none) := if_pos hf
    rcases he : eraseN O a with _ | ⟨y, t⟩
    · rw [he] at hf; simp at hf; omega
    · rw [ek, ef, he]
      exact put_full base g bm m v O f most a x w h ha y t he hf hm hmm
  · have ek : keptO O a most = eraseN O a := if_neg hf
    have ef : keptF f O a most = putF f (.int .u64 a) none := if_neg hf
    rw [ek, ef]
    exact put_room base g bm m v O f most a x w h ha (by omega) hm hmm
end Go.Proofs.Ytpomcnfifhfffaa.Ro
