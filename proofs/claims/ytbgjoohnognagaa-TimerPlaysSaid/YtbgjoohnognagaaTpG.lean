/- TimerPlays: what holds between acts, in plain words; its arguments opened. No condition. -/
import Derived.Test.YtbgjoohnognagaaTpF
import Derived.Test.YtbgjoohnognagaaTmE
import Derived.Test.YtbgjoohnognagaaNum
import Derived.Test.YtbgjoohnognagaaMeansL
namespace Go.Proofs.Ytbgjoohnognagaa
open Go.RowKit

/-- An act. -/
structure A3 where
  kind : Int
  n : Int
  now : Int
def A3.cells (a : A3) : List Value := [.int .i64 a.kind, .int .u64 a.n, .int .i64 a.now]

theorem bits_cases {x y : Nat} (h : bitsOf x = bitsOf y) : x = y ∨ (nanB x = true ∧ nanB y = true) := by
  have hn : nanB 9221120237041090561 = true := by decide +kernel
  unfold bitsOf at h
  cases hx : nanB x <;> cases hy : nanB y <;> rw [hx, hy] at h
  · exact .inl h
  · simp at h; rw [h] at hx; rw [hx] at hn; cases hn
  · simp at h; rw [← h] at hy; rw [hy] at hn; cases hn
  · exact .inr ⟨rfl, rfl⟩
theorem tickR_nanB (m : Nat) (least most : Int) (hm : m < 18446744073709551616) (hn : nanB m = true) (h1 : 1 ≤ least) (h2 : least ≤ most) (h3 : most ≤ 65536) : TickR m least most least := by
  refine ⟨fun x hx => ?_, Int.le_refl _, h2⟩
  have hf : floatBits .mul .f64 4611686018427387904 m = none := mul_nan hm hn
  have hnx : nanB x = true := by have := hx.2; rw [hf] at this; exact this
  exact ticks_nan x least most hx.1 hnx (by omega) (by omega)
theorem tickR_both {m1 m2 : Nat} {least most : Int} (hb : bitsOf m2 = bitsOf m1) (l1 : m1 < 18446744073709551616) (l2 : m2 < 18446744073709551616) (h1 : 1 ≤ least) (h2 : least ≤ most) (h3 : most ≤ 65536) : ∃ r, TickR m1 least most r ∧ TickR m2 least most r := by
  rcases bits_cases hb with e | ⟨n2, n1⟩
  · obtain ⟨r, hr⟩ := tickR_ex m1 least most h1 h2 h3
    exact ⟨r, hr, by rw [e]; exact hr⟩
  · exact ⟨least, tickR_nanB m1 least most l1 n1 h1 h2 h3, tickR_nanB m2 least most l2 n2 h1 h2 h3⟩
theorem nan_fin {x : Nat} (h : nanB x = true) : finB x = false := by
  cases hf : finB x
  · rfl
  · rw [fin_nan hf] at h; cases h
theorem meanN_same {m1 m2 r1 r2 : Nat} {now : Int} {x : Rn} (hb : bitsOf m2 = bitsOf m1) (h1 : MeanN m1 now x r1) (h2 : MeanN m2 now x r2) : bitsOf r2 = bitsOf r1 := by
  unfold MeanN at h1 h2
  by_cases hs : x.s = 1
  · rw [if_pos hs] at h1 h2
    rcases bits_cases hb with e | ⟨n2, n1⟩
    · subst e
      have := mean_same h2 h1
      have h3 : ((bitsOf r2 : Nat) : Int) = ((bitsOf r1 : Nat) : Int) := by simpa using this
      omega
    · obtain ⟨_, h1⟩ := h1
      obtain ⟨_, h2⟩ := h2
      rw [nan_fin n1] at h1
      rw [nan_fin n2] at h2
      simp only [if_true] at h1 h2
      rw [h1, h2]
  · rw [if_neg hs] at h1 h2
    rw [h1, h2, hb]
theorem meanN_lt {m r : Nat} {now : Int} {x : Rn} (hm : m < 18446744073709551616) (h : MeanN m now x r) : r < 18446744073709551616 := by
  unfold MeanN at h
  split at h
  · exact h.1
  · rw [h]; exact hm
theorem start_fair {a now r : Int} (h0 : 0 ≤ r) (h1 : r ≤ 65536) : (⟨a, tickZ now, tickZ now + r, r, 1⟩ : Rn).Fair := by
  have := tickZ_in now
  exact ⟨this.1, this.2, h0, h1, by show (0 : Int) ≤ 1; decide, by show (1 : Int) ≤ 1001; decide, by show 0 ≤ tickZ now + r; omega, by show tickZ now + r ≤ _; omega⟩
theorem dues_fair {tk mt lm : Int} {L : List Rn} (hF : ∀ r ∈ L, r.Fair) (h0 : 1 ≤ mt) (h3 : mt ≤ 65536) (hlm : lm ≤ 1000) (ht0 : 0 ≤ tk) (ht1 : tk ≤ 1099511627776) : ∀ r ∈ (dues tk mt lm L).left, r.Fair := by
  have key : ∀ (L : List Rn) (a : Dues), (∀ r ∈ L, r.Fair) → (∀ r ∈ a.left, r.Fair) → ∀ r ∈ (L.foldl (dueStep tk mt lm) a).left, r.Fair := by
    intro L
    induction L with
    | nil => intro a _ h; exact h
    | cons x L ih =>
      intro a hL ha
      refine ih _ (fun r hr => hL r (List.mem_cons_of_mem _ hr)) ?_
      have hx := hL x (by simp)
      unfold dueStep
      split
      · intro r hr
        rcases List.mem_append.1 hr with h | h
        · exact ha r h
        · rw [List.mem_singleton.1 h]; exact hx
      · split
        · exact ha
        · next hs =>
          intro r hr
          rcases List.mem_append.1 hr with h | h
          · exact ha r h
          · rw [List.mem_singleton.1 h]
            have l0 := hx.l0
            have s0 := hx.s0
            have hl : 0 ≤ longer x mt ∧ longer x mt ≤ mt := by unfold longer; split <;> omega
            exact ⟨hx.b0, hx.b1, hl.1, by show longer x mt ≤ _; omega, by show 0 ≤ x.s + 1; omega, by show x.s + 1 ≤ _; omega, by show 0 ≤ tk + longer x mt; omega, by show tk + longer x mt ≤ _; omega⟩
  exact key L ⟨[], [], []⟩ hF (fun r hr => by cases hr)

/-- The things that run, the two means: in order. -/
structure Okay (L : List Rn) (m1 m2 : Nat) (k : Nat) : Prop where
  bits : bitsOf m2 = bitsOf m1
  l1 : m1 < 18446744073709551616
  l2 : m2 < 18446744073709551616
  fair : ∀ r ∈ L, r.Fair
  len : L.length ≤ k
theorem Okay.nil : Okay [] 9221120237041090561 9221120237041090561 0 := ⟨rfl, by decide, by decide, (fun r hr => by cases hr), Nat.le_refl _⟩
theorem Okay.up {L : List Rn} {m1 m2 k : Nat} (h : Okay L m1 m2 k) : Okay L m1 m2 (k + 1) := ⟨h.bits, h.l1, h.l2, h.fair, Nat.le_succ_of_le h.len⟩
theorem Okay.start {L : List Rn} {m1 m2 k : Nat} (h : Okay L m1 m2 k) {a now r : Int} (h0 : 0 ≤ r) (h1 : r ≤ 65536) : Okay (L ++ [⟨a, tickZ now, tickZ now + r, r, 1⟩]) m1 m2 (k + 1) := by
  refine ⟨h.bits, h.l1, h.l2, fun x hx => ?_, by have := h.len; simp; omega⟩
  rcases List.mem_append.1 hx with hx | hx
  · exact h.fair x hx
  · rw [List.mem_singleton.1 hx]; exact start_fair h0 h1
theorem Okay.erase {L : List Rn} {m1 m2 k : Nat} (h : Okay L m1 m2 k) (i : Nat) {r1 r2 : Nat} (hb : bitsOf r2 = bitsOf r1) (l1 : r1 < 18446744073709551616) (l2 : r2 < 18446744073709551616) : Okay (L.eraseIdx i) r1 r2 (k + 1) :=
  ⟨hb, l1, l2, fun x hx => h.fair x (List.mem_of_mem_eraseIdx hx), by have := h.len; have := List.length_eraseIdx_le L i; omega⟩
theorem Okay.dues {L : List Rn} {m1 m2 k : Nat} (h : Okay L m1 m2 k) {tk mt lm : Int} (h0 : 1 ≤ mt) (h3 : mt ≤ 65536) (hlm : lm ≤ 1000) (ht0 : 0 ≤ tk) (ht1 : tk ≤ 1099511627776) : Okay (dues tk mt lm L).left m1 m2 (k + 1) :=
  ⟨h.bits, h.l1, h.l2, dues_fair h.fair h0 h3 hlm ht0 ht1, by have := h.len; have := (dues_len tk mt lm L).1; omega⟩

/-- The timer and the document's, the latter in block bt. -/
structure TP (w : World) (base g bt : Nat) (a b c : Int) (k : Nat) (v : Value) (L : List Rn) (m1 : Nat) (t : RT) (wr : World) : Prop where
  tm : Tm wr base g v L a b c m1
  rin : RIn wr t L
  blk : Blk wr bt 48 t.arr
  e1 : t.lt = a
  e2 : t.mt = b
  e3 : t.lm = c
  ok : Okay L m1 t.mean k
  new : New w wr
def TPS (w : World) (base g bt : Nat) (a b c : Int) (k : Nat) (wr : World) : Prop := ∃ v L m1 t, TP w base g bt a b c k v L m1 t wr

section
variable {w w' wr : World} {base g : Nat} {v : Value} {L : List Rn} {least most limit : Int} {mean : Nat}
theorem tm_blk (hT : Tm wr base g v L least most limit mean) {S : Nat → Prop} (hS : ∀ k, S k → k = g ∨ v.ownBlock = some k) (hf : Fr S wr w') {bt : Nat} {t : TypeId} {cs : Array Value} (hB : Blk wr bt t cs) (h1 : 62 ≠ t) (h2 : 65 ≠ t) : Blk w' bt t cs :=
  hB.fr hf (fun hk => by
    rcases hS _ hk with e | e
    · exact Blk.ne_ hT.2.1 hB h1 e.symm
    · exact own_ne hT.2.2.1 hB h2 e)
theorem tm_rin (hT : Tm wr base g v L least most limit mean) {S : Nat → Prop} (hS : ∀ k, S k → k = g ∨ v.ownBlock = some k) (hf : Fr S wr w') {t : RT} {M : List Rn} (hR : RIn wr t M) : RIn w' t M :=
  hR.fr hf (fun k hk => by
    rcases hS _ hk with rfl | e
    · exact IsT.not_blk hT.2.1 (by decide)
    · exact IsT.not_own hT.2.2.1 (by decide) e)
theorem tm_New (hT : Tm wr base g v L least most limit mean) {S : Nat → Prop} (hS : ∀ k, S k → k = g ∨ v.ownBlock = some k) (hf : Fr S wr w') (hN : New w wr) (hb : w.heap.size ≤ base) : New w w' :=
  hN.fr hf (fun k hk => by
    rcases hS _ hk with rfl | e
    · have := hT.1; omega
    · have := (own_lt hT.2.2.1 k e).1; omega)
/-- A block of a timer of the document's is none of the timer's. -/
theorem tm_not (hT : Tm wr base g v L least most limit mean) {bt : Nat} {cs : Array Value} (hB : Blk wr bt 48 cs) (hf : Fr (fun k => k = bt) wr w') : Tm w' base g v L least most limit mean :=
  hT.fr hf (fun e => Blk.ne_ hT.2.1 hB (by decide) e) (fun k hk e => own_ne hT.2.2.1 hB (by decide) (by rw [hk, e]))
theorem rin_not {t : RT} {M : List Rn} (hR : RIn wr t M) {bt : Nat} {cs : Array Value} (hB : Blk wr bt 48 cs) (hf : Fr (fun k => k = bt) wr w') : RIn w' t M :=
  hR.fr hf (fun k hk => by subst hk; exact IsT.not_blk hB (by decide))
end

section
open Go.ChangeShapes Go.WideShapes
variable {H : Type} {enc : TypeId × Value → H} {w : World}
theorem open_acts {r : Reach} {b0 : Nat} {v : Value} {d : DataW H} {p : List MemPlace} (hv : Value.okWide Try.prog w r b0 43 v) (h : DataW.Trod enc Try.prog w 0 (fun _ => true) true 43 v d p) :
    ∃ (A : Option Addr) (n c : Nat) (L : List A3), v = .slice A n c ∧ n ≤ c ∧ c ≤ maxLen ∧ L.length = n ∧ Rd (fun b => b < w.heap.size) w 3 A n (L.flatMap A3.cells) ∧ ∀ a ∈ L, (Lit.int .u64 a.n).wf = true := by
  obtain ⟨A, n, c, L, h1, h2, h3, h4, h5, h6, _⟩ := open_slk (k := 3) Try.underlying43 A3.cells (by kernel_rfl) (by omega) (fun a => (Lit.int .u64 a.n).wf = true) (fun cs m y hl ht => by
    match cs, hl with
    | [c0, c1, c2], _ =>
      obtain ⟨_, _, t0⟩ := field_at (j := 0) Try.underlying50 ht rfl (by kernel_rfl) (by simp)
      obtain ⟨_, _, t1⟩ := field_at (j := 1) Try.underlying50 ht rfl (by kernel_rfl) (by simp)
      obtain ⟨_, _, t2⟩ := field_at (j := 2) Try.underlying50 ht rfl (by kernel_rfl) (by simp)
      obtain ⟨a0, e0, _, g0⟩ := DataW.trod_int Try.underlying3 t0
      obtain ⟨a1, e1, _, g1⟩ := DataW.trod_int Try.underlying31 t1
      obtain ⟨a2, e2, _, g2⟩ := DataW.trod_int Try.underlying3 t2
      simp at e0 e1 e2
      subst e0 e1 e2
      exact ⟨⟨a0, a1, a2⟩, rfl, g1⟩) hv h
  exact ⟨A, n, c, L, h1, h2, h3, h4, h5, h6⟩
end
end Go.Proofs.Ytbgjoohnognagaa
