/- Texts of one proof, one behind the other: OcA, Last, Mx, Bytes, ShB, Whole. No condition but each one's own. -/
import Derived.Test.YtfchcdbfalgdlaaGreatDoorSweepKeepsM1
import Derived.OrdersHeld
import Derived.Lib.Hide
import Derived.Test.YtfchcdbfalgdlaaGreatDoorRows
import Derived.Laws.BytesArg
import Derived.Deep.WholeRow
import Derived.Deep.MidRow
namespace Go.Proofs.YtfchcdbfalgdlaaGreatDoor
set_option linter.unusedVariables false
set_option linter.unusedSimpArgs false
set_option linter.constructorNameAsVariable false
def byteAt (n i : Nat) : Nat := n / 256 ^ i % 256
def beL (size n : Nat) : List Int := (List.range size).map fun j => ((byteAt n (size - 1 - j) : Nat) : Int)
theorem beL_len (size n : Nat) : (beL size n).length = size := by simp [beL]
theorem byteAt_lt (n i : Nat) : byteAt n i < 256 := Nat.mod_lt _ (by decide)
theorem beL_byt (size n : Nat) : ∀ x ∈ beL size n, 0 ≤ x ∧ x < 256 := by
 intro x hx
 obtain ⟨j, _, rfl⟩ := List.mem_map.1 hx
 have := byteAt_lt n (size - 1 - j)
 omega
theorem beL_succ (size n : Nat) : beL (size + 1) n = beL size (n / 256) ++ [((n % 256 : Nat) : Int)] := by
 unfold beL
 rw [List.range_succ, List.map_append, List.map_singleton]
 congr 1
 · refine List.map_congr_left fun j hj => ?_
   have hj := List.mem_range.1 hj
   have e : size + 1 - 1 - j = (size - 1 - j) + 1 := by omega
   rw [e]
   unfold byteAt
   rw [Nat.pow_succ, Nat.mul_comm, ← Nat.div_div_eq_div_mul]
 · simp [byteAt]
theorem beL_get (size n j : Nat) (h : j < (beL size n).length) : (beL size n)[j] = ((byteAt n (size - 1 - j) : Nat) : Int) := by simp [beL]
theorem beL_take (size n i : Nat) (hi : i < size) : (beL size n).take (size - i) = (beL size n).take (size - (i + 1)) ++ [((byteAt n i : Nat) : Int)] := by
 have hl : size - (i + 1) < (beL size n).length := by rw [beL_len]; omega
 have := List.take_succ_eq_append_getElem hl
 rw [show size - (i + 1) + 1 = size - i by omega] at this
 rw [this, beL_get, show size - 1 - (size - (i + 1)) = i by omega]
def valL (xs : List Int) : Nat := xs.foldl (fun n x => n * 256 + x.toNat) 0
theorem valL_snoc (xs : List Int) (x : Int) : valL (xs ++ [x]) = valL xs * 256 + x.toNat := by simp [valL]
theorem valL_take {xs : List Int} {k : Nat} (h : k < xs.length) : valL (xs.take (k + 1)) = valL (xs.take k) * 256 + (xs[k]).toNat := by
 rw [List.take_succ_eq_append_getElem h, valL_snoc]
theorem valL_lt {xs : List Int} (h : ∀ x ∈ xs, 0 ≤ x ∧ x < 256) : valL xs < 256 ^ xs.length := by
 suffices h2 : ∀ k, k ≤ xs.length → valL (xs.take k) < 256 ^ k by
  have := h2 xs.length (Nat.le_refl _)
  rwa [List.take_length] at this
 intro k
 induction k with
 | zero => intro _; simp [valL]
 | succ k ih =>
  intro hk
  have := ih (by omega)
  rw [valL_take (by omega), Nat.pow_succ]
  have := h xs[k] (List.getElem_mem _)
  omega
theorem valL_beL (size n : Nat) (h : n < 256 ^ size) : valL (beL size n) = n := by
 induction size generalizing n with
 | zero => simp at h; subst h; rfl
 | succ s ih =>
  rw [beL_succ, valL_snoc, ih _ (by rw [Nat.pow_succ] at h; omega)]
  omega
theorem beL_valL (xs : List Int) (h : ∀ x ∈ xs, 0 ≤ x ∧ x < 256) : beL xs.length (valL xs) = xs := by
 suffices h2 : ∀ k, k ≤ xs.length → beL k (valL (xs.take k)) = xs.take k by
  have := h2 xs.length (Nat.le_refl _)
  rwa [List.take_length] at this
 intro k
 induction k with
 | zero => intro _; rfl
 | succ k ih =>
  intro hk
  have hx := h xs[k] (List.getElem_mem _)
  rw [valL_take (by omega), beL_succ, List.take_succ_eq_append_getElem (by omega)]
  congr 1
  · rw [show (valL (xs.take k) * 256 + (xs[k]).toNat) / 256 = valL (xs.take k) by omega]
    exact ih (by omega)
  · congr 1
    omega
structure Rs where
 xs : List Int
 e : Nat
def Rs.left (s : Rs) : Nat := if s.e = 0 then s.xs.length else 0
def Rs.bad (s : Rs) (code : Nat) : Rs := if s.e = 0 then ⟨s.xs, code⟩ else s
def Rs.raw (s : Rs) (n : Nat) : List Int × Rs := if s.left < n then ([], s.bad 2) else (s.xs.take n, ⟨s.xs.drop n, s.e⟩)
def Rs.num (s : Rs) (size : Nat) : Nat × Rs := (valL (s.raw size).1, (s.raw size).2)
def Rs.bytes (s : Rs) (most : Nat) : List Int × Rs :=
 if s.left < 2 then ([], s.bad 2)
 else if most < valL (s.xs.take 2) ∨ s.left - 2 < valL (s.xs.take 2) then ([], s.bad 2)
 else (s.raw 2).2.raw (valL (s.xs.take 2))
def Rs.flag (s : Rs) : Bool × Rs :=
 if s.left < 1 ∨ 1 < s.xs.headD 0 then (false, s.bad 2) else (decide ((s.num 1).1 = 1), (s.num 1).2)
def Rs.fin (s : Rs) : Nat := if s.e ≠ 0 then s.e else if 0 < s.xs.length then 2 else 0
end Go.Proofs.YtfchcdbfalgdlaaGreatDoor
namespace Go.Proofs.YtfchcdbfalgdlaaGreatDoor
set_option linter.unusedVariables false
set_option linter.unusedSimpArgs false
set_option linter.constructorNameAsVariable false
open Go.RowKit
section
variable {P : Program} {md : Region.Mode} {ops : Array Oper} {Q : Exit → Act → World → Prop} {S : World → Prop} {last : Nat}
def wpAnyT (P : Program) (md : Region.Mode) (ops : Array Oper) (Q : Exit → Act → World → Prop) (S : World → Prop) (last : Nat) : Nat → Array Bool → Act → World → Prop
 | 0, listed, a, w => Region.ready md ops listed = [] ∧ Q .normal a w
 | fuel + 1, listed, a, w =>
  (Region.ready md ops listed = [] → Q .normal a w) ∧
  ∀ i ∈ Region.ready md ops listed, wpOp P ops Q i (fun a' w' => (i ≠ last → S w') ∧ wpAnyT P md ops Q S last fuel (listed.setIfInBounds i true) a' w') a w
theorem wpAny_of_T : ∀ (fuel : Nat) (listed : Array Bool) (a : Act) (w : World), wpAnyT P md ops Q S last fuel listed a w → wpAny P md ops Q fuel listed a w
 | 0, _, _, _, h => h
 | fuel + 1, _, _, _, h => ⟨h.1, fun i hi => wpOp_mono (fun a' w' h' => wpAny_of_T fuel _ a' w' h'.2) (h.2 i hi)⟩
def waitsOn (md : Region.Mode) (ops : Array Oper) (k i : Nat) : Bool := match ops[k]? with | some o => o.after.any (fun e => Region.binds md e && e.on == i) | none => false
theorem wpAnyT_first {i : Nat} {oi : Oper} {v : Value} (hi : ops[i]? = some oi) (hsel : ∀ (j : Nat) (o : Oper) cs b, ops[j]? = some o → o.op ≠ .select cs b)
    (hQ : ∀ c a w, Q (.panic c) (a.put oi.dst v) w → Q (.panic c) a w) (hlast : waitsOn md ops last i = true) :
    ∀ (fuel : Nat) (listed : Array Bool) (a : Act) (w : World),
     (∀ j oj, ops[j]? = some oj → j ≠ i → listed.getD j true = false → (∀ e ∈ oj.after, Region.binds md e = true → e.on ≠ i) → oi.apart ops oj = true) →
     i ∈ Region.ready md ops listed → YieldsIf P ops S oi v a → S w →
     wpAnyT P md ops Q S last fuel (listed.setIfInBounds i true) (a.put oi.dst v) w → wpAnyT P md ops Q S last (fuel + 1) listed a w := by
 intro fuel
 induction fuel with
 | zero =>
  intro listed a w _ hr hy hS H
  refine ⟨fun h => (by rw [h] at hr; cases hr), fun j hj => ?_⟩
  by_cases hji : j = i
  · subst hji; exact hy.wpOp hi hS ⟨fun _ => hS, H⟩
  · have := ready_mono hj hji
    rw [H.1] at this
    cases this
 | succ fuel ih =>
  intro listed a w hfree hr hy hS H
  refine ⟨fun h => (by rw [h] at hr; cases hr), fun j hj => ?_⟩
  by_cases hji : j = i
  · subst hji; exact hy.wpOp hi hS ⟨fun _ => hS, H⟩
  · have h1 := H.2 j (ready_mono hj hji)
    obtain ⟨hjun, oj, hoj, hall⟩ := mem_ready.1 hj
    have hnot : ∀ e ∈ oj.after, Region.binds md e = true → e.on ≠ i := fun e he hb heq => by
     have h1 := hall e he hb
     have h0 := (mem_ready.1 hr).1
     rw [heq] at h1
     rcases Nat.lt_or_ge i listed.size with h' | h'
     · simp [h'] at h0 h1; rw [h0] at h1; cases h1
     · simp [Array.getElem?_eq_none h'] at h1
    have hjl : j ≠ last := fun e => by
     subst e
     simp only [waitsOn, hoj, Array.any_eq_true] at hlast
     obtain ⟨n, hn, hb⟩ := hlast
     simp only [Bool.and_eq_true, beq_iff_eq] at hb
     exact hnot _ (Array.getElem_mem hn) hb.1 hb.2
    have h2 := wpOp_putIf hoj (hfree j oj hoj hji hjun hnot) (fun cs b => hsel i oi cs b hi) (fun cs b => hsel j oj cs b hoj) hQ hy h1
    have hfree' : ∀ k ok, ops[k]? = some ok → k ≠ i → (listed.setIfInBounds j true).getD k true = false →
        (∀ e ∈ ok.after, Region.binds md e = true → e.on ≠ i) → oi.apart ops ok = true := fun k ok hk hki hun hno => by
     refine hfree k ok hk hki ?_ hno
     by_cases hjk : j = k
     · subst hjk; exact hjun
     · rw [getD_set_ne true hjk] at hun; exact hun
    refine wpOp_mono (fun a' w' h3 => ⟨h3.2.1, ih (listed.setIfInBounds j true) a' w' hfree' (ready_mono hr (Ne.symm hji)) h3.1 (h3.2.1 hjl) ?_⟩) h2
    rw [Array.setIfInBounds_comm _ _ hji]
    exact h3.2.2
theorem wpAnyT_take {i : Nat} {oi : Oper} {v : Value} {fuel : Nat} {listed : Array Bool} {a : Act} {w : World} (hi : ops[i]? = some oi)
    (hs : Region.noSelect ops = true) (hf : Region.free md ops listed i = true) (hr : (Region.ready md ops listed).contains i = true) (hl : waitsOn md ops last i = true)
    (hQ : ∀ c a w, Q (.panic c) (a.put oi.dst v) w → Q (.panic c) a w) (hy : YieldsIf P ops S oi v a) (hS : S w)
    (h : wpAnyT P md ops Q S last fuel (listed.setIfInBounds i true) (a.put oi.dst v) w) : wpAnyT P md ops Q S last (fuel + 1) listed a w :=
 wpAnyT_first hi (Region.noSelect_spec hs) hQ hl fuel listed a w (Region.free_spec hi hf) (by simpa using hr) hy hS h
def AllT (P : Program) (md : Region.Mode) (ops : Array Oper) (Q : Exit → Act → World → Prop) (S : World → Prop) (last fuel : Nat) (listed : Array Bool) (a : Act) (w : World) (rs : List Nat) : Prop :=
 ∀ i ∈ rs, wpOp P ops Q i (fun a' w' => (i ≠ last → S w') ∧ wpAnyT P md ops Q S last fuel (listed.setIfInBounds i true) a' w') a w
theorem AllT.nil {fuel : Nat} {listed : Array Bool} {a : Act} {w : World} : AllT P md ops Q S last fuel listed a w [] := fun i hi => by cases hi
theorem AllT.cons {fuel : Nat} {listed : Array Bool} {a : Act} {w : World} {i : Nat} {o : Oper} {rs : List Nat} (ho : ops[i]? = some o)
    (h : ∀ K' : Act → World → Prop, Hid (∀ a w, (i ≠ last → S w) → wpAnyT P md ops Q S last fuel (listed.setIfInBounds i true) a w → K' a w) → if Region.wanted o (yielded ops a.tmps) = true then Oper.wp P o a w K' Q else K' (a.put o.dst undef) w)
    (hs : AllT P md ops Q S last fuel listed a w rs) : AllT P md ops Q S last fuel listed a w (i :: rs) := fun j hj => by
 rcases List.mem_cons.1 hj with rfl | hj
 · have := h (fun a' w' => (j ≠ last → S w') ∧ wpAnyT P md ops Q S last fuel (listed.setIfInBounds j true) a' w') (Lib.hid fun a' w' h1 h2 => ⟨h1, h2⟩)
   unfold wpOp
   rw [ho]
   simp only
   split
   · next hw => rw [if_pos hw] at this; exact .inl this
   · next hw => rw [if_neg hw] at this; exact this
 · exact hs j hj
theorem wpAnyT_ready {rs : List Nat} {fuel : Nat} {listed : Array Bool} {a : Act} {w : World} (hr : Region.ready md ops listed = rs) (hne : rs ≠ []) (h : AllT P md ops Q S last fuel listed a w rs) : wpAnyT P md ops Q S last (fuel + 1) listed a w :=
 ⟨fun h0 => absurd (hr ▸ h0) hne, hr ▸ h⟩
theorem wpAnyT_done {listed : Array Bool} {a : Act} {w : World} (hr : Region.ready md ops listed = []) (h : Q .normal a w) : ∀ fuel, wpAnyT P md ops Q S last fuel listed a w
 | 0 => ⟨hr, h⟩
 | _ + 1 => ⟨fun _ => h, by rw [hr]; simp⟩
theorem wp_region_T {id : Nat} {a : Act} {w : World} (S : World → Prop) (last : Nat) (hm : P.follows .mixedOrders = true)
    (h : wpAnyT P .any ops Q S last ops.size (Array.replicate ops.size false) a w.drew) : (Code.region id ops true).wp P Q a w :=
 wp_region_any hm (wpAny_of_T _ _ _ _ h)
end
end Go.Proofs.YtfchcdbfalgdlaaGreatDoor
namespace Go.Proofs.YtfchcdbfalgdlaaGreatDoor
set_option linter.unusedVariables false
set_option linter.unusedSimpArgs false
set_option linter.constructorNameAsVariable false
open Go.RowKit
structure HW (S : World → Prop) where
 w : World
 h : S w
section
variable {P : Program} {md : Region.Mode} {ops : Array Oper} {Q : Exit → Act → World → Prop} {S : World → Prop} {last : Nat}
def mixB (md : Region.Mode) (ops : Array Oper) (last : Nat) : List (Bool × Nat) → Array Bool → Bool
 | [], listed => (Region.ready md ops listed).isEmpty
 | (true, i) :: sc, listed => (Region.ready md ops listed).contains i && Region.free md ops listed i && (waitsOn md ops last i || decide (Region.ready md ops listed = [i])) && decide (i ≠ last) && mixB md ops last sc (listed.setIfInBounds i true)
 | (false, i) :: sc, listed => decide (Region.ready md ops listed = [i]) && (decide (i ≠ last) || sc.isEmpty) && mixB md ops last sc (listed.setIfInBounds i true)
def wpMix (P : Program) (ops : Array Oper) (S : World → Prop) (last : Nat) (Q : Exit → Act → World → Prop) : List (Bool × Nat) → Act → World → Prop
 | [], a, w => Q .normal a w
 | (true, i) :: sc, a, w => ∃ o, ops[i]? = some o ∧ (if Region.wanted o (yielded ops a.tmps) = true then ∃ v, (∀ p : HW S, (execOp a.eval o).run P p.w = .ok (.value v) p.w) ∧ wpMix P ops S last Q sc (a.put o.dst v) w else wpMix P ops S last Q sc (a.put o.dst undef) w)
 | (false, i) :: sc, a, w => ∃ o, ops[i]? = some o ∧ (if Region.wanted o (yielded ops a.tmps) = true then o.wp P a w (fun a' w' => (i ≠ last → S w') ∧ wpMix P ops S last Q sc a' w') Q else wpMix P ops S last Q sc (a.put o.dst undef) w)
theorem wpAnyT_of_mix (hs : Region.noSelect ops = true) (hQ : ∀ c a d v w, Q (.panic c) (a.put d v) w → Q (.panic c) a w) : ∀ (sc : List (Bool × Nat)) (listed : Array Bool) (a : Act) (w : World), mixB md ops last sc listed = true → (sc ≠ [] → S w) → wpMix P ops S last Q sc a w → wpAnyT P md ops Q S last sc.length listed a w
 | [], listed, a, w, hB, _, h => wpAnyT_done (by simpa [mixB] using hB) h _
 | (true, i) :: sc, listed, a, w, hB, hS, h => by
  simp only [mixB, Bool.and_eq_true] at hB
  obtain ⟨⟨⟨⟨h1, h2⟩, h3⟩, -⟩, h5⟩ := hB
  obtain ⟨o, ho, h⟩ := h
  have hSw := hS (by simp)
  have key : ∀ v, YieldsIf P ops S o v a → wpMix P ops S last Q sc (a.put o.dst v) w → wpAnyT P md ops Q S last ((true, i) :: sc).length listed a w := fun v hy h => by
   rw [Bool.or_eq_true, decide_eq_true_eq] at h3
   rcases h3 with h3 | h3
   · exact wpAnyT_take ho hs h2 h1 h3 (fun c a w => hQ c a _ _ w) hy hSw (wpAnyT_of_mix hs hQ sc _ _ _ h5 (fun _ => hSw) h)
   · refine wpAnyT_ready (rs := [i]) h3 (by simp) ?_
     intro j hj
     rw [List.mem_singleton] at hj
     subst hj
     exact hy.wpOp ho hSw ⟨fun _ => hSw, wpAnyT_of_mix hs hQ sc _ _ _ h5 (fun _ => hSw) h⟩
  by_cases hw : Region.wanted o (yielded ops a.tmps) = true
  · rw [if_pos hw] at h
    obtain ⟨v, hv, h⟩ := h
    exact key v (.inl ⟨hw, fun w hw => hv ⟨w, hw⟩⟩) h
  · rw [if_neg hw] at h
    exact key undef (.inr ⟨by simpa using hw, rfl⟩) h
 | (false, i) :: sc, listed, a, w, hB, hS, h => by
  simp only [mixB, Bool.and_eq_true, Bool.or_eq_true, decide_eq_true_eq] at hB
  obtain ⟨⟨h1, h2⟩, h3⟩ := hB
  obtain ⟨o, ho, h⟩ := h
  have hne : ∀ w', (i ≠ last → S w') → sc ≠ [] → S w' := fun w' h hsc => by
   rcases h2 with h2 | h2
   · exact h h2
   · exact absurd (List.isEmpty_iff.1 h2) hsc
  refine wpAnyT_ready (rs := [i]) h1 (by simp) (AllT.cons ho (fun K' hK => ?_) AllT.nil)
  by_cases hw : Region.wanted o (yielded ops a.tmps) = true
  · rw [if_pos hw] at h ⊢
    exact Oper.wp_mono (fun a' w' h' => hK.out a' w' h'.1 (wpAnyT_of_mix hs hQ sc _ _ _ h3 (hne w' h'.1) h'.2)) h
  · rw [if_neg hw] at h ⊢
    exact hK.out _ _ (fun _ => hS (by simp)) (wpAnyT_of_mix hs hQ sc _ _ _ h3 (fun _ => hS (by simp)) h)
def NoPan (Q : Exit → Act → World → Prop) (e : Exit) (a : Act) (w : World) : Prop := match e with | .panic _ => False | e => Q e a w
theorem NoPan.imp {Q : Exit → Act → World → Prop} (e : Exit) (a : Act) (w : World) (h : NoPan Q e a w) : Q e a w := by
 cases e <;> first | exact h | exact h.elim
theorem wp_region_mix {id : Nat} {a : Act} {w : World} {l : List Oper} (S : World → Prop) (last : Nat) (sc : List (Bool × Nat)) (hm : P.follows .mixedOrders = true)
    (hB : (Region.noSelect l.toArray && decide (sc.length = l.toArray.size) && mixB .any l.toArray last sc (Array.replicate l.toArray.size false)) = true) (hS : S w.drew)
    (h : Nonempty (HW S) → wpMix P l.toArray S last (NoPan Q) sc a w.drew) : (Code.region id l.toArray true).wp P Q a w := by
 simp only [Bool.and_eq_true, decide_eq_true_eq] at hB
 obtain ⟨⟨h1, h2⟩, h3⟩ := hB
 refine wp_mono (Q := NoPan Q) (wp_region_T S last hm ?_) NoPan.imp
 have := wpAnyT_of_mix (Q := NoPan Q) h1 (fun _ _ _ _ _ h => h) sc _ _ _ h3 (fun _ => hS) (h ⟨⟨_, hS⟩⟩)
 rwa [h2] at this
def mixBH (md : Region.Mode) (ops : Array Oper) : List (Bool × Nat) → Array Bool → Bool
 | [], listed => (Region.ready md ops listed).isEmpty
 | (true, i) :: sc, listed => (Region.ready md ops listed).contains i && Region.free md ops listed i && mixBH md ops sc (listed.setIfInBounds i true)
 | (false, i) :: sc, listed => decide (Region.ready md ops listed = [i]) && mixBH md ops sc (listed.setIfInBounds i true)
theorem wpAnyH_of_mix (hl : last = ops.size) (hs : Region.noSelect ops = true) (hQ : ∀ c a d v w, Q (.panic c) (a.put d v) w → Q (.panic c) a w) : ∀ (sc : List (Bool × Nat)) (listed : Array Bool) (a : Act) (w : World), mixBH md ops sc listed = true → S w → wpMix P ops S last Q sc a w → wpAnyH P md ops Q S sc.length listed a w
 | [], listed, a, w, hB, _, h => ⟨by simpa [mixBH] using hB, h⟩
 | (true, i) :: sc, listed, a, w, hB, hSw, h => by
  simp only [mixBH, Bool.and_eq_true] at hB
  obtain ⟨⟨h1, h2⟩, h5⟩ := hB
  obtain ⟨o, ho, h⟩ := h
  have key : ∀ v, YieldsIf P ops S o v a → wpMix P ops S last Q sc (a.put o.dst v) w → wpAnyH P md ops Q S ((true, i) :: sc).length listed a w := fun v hy h =>
   wpAnyH_first ho (Region.noSelect_spec hs) (fun c a w => hQ c a _ _ w) _ listed a w (Region.free_spec ho h2) (by simpa using h1) hy hSw (wpAnyH_of_mix hl hs hQ sc _ _ _ h5 hSw h)
  by_cases hw : Region.wanted o (yielded ops a.tmps) = true
  · rw [if_pos hw] at h
    obtain ⟨v, hv, h⟩ := h
    exact key v (.inl ⟨hw, fun w hw => hv ⟨w, hw⟩⟩) h
  · rw [if_neg hw] at h
    exact key undef (.inr ⟨by simpa using hw, rfl⟩) h
 | (false, i) :: sc, listed, a, w, hB, hS, h => by
  simp only [mixBH, Bool.and_eq_true, decide_eq_true_eq] at hB
  obtain ⟨h1, h3⟩ := hB
  obtain ⟨o, ho, h⟩ := h
  have hil : i ≠ last := by
   have := (Array.getElem?_eq_some_iff.1 ho).1
   omega
  refine ⟨fun h0 => (by rw [h1] at h0; cases h0), fun j hj => ?_⟩
  rw [h1, List.mem_singleton] at hj
  subst hj
  unfold wpOp
  simp only [ho]
  by_cases hw : Region.wanted o (yielded ops a.tmps) = true
  · rw [if_pos hw] at h
    simp only [hw, if_true]
    exact .inl (Oper.wp_mono (fun a' w' h' => ⟨h'.1 hil, wpAnyH_of_mix hl hs hQ sc _ _ _ h3 (h'.1 hil) h'.2⟩) h)
  · rw [if_neg hw] at h
    simp only [hw]
    exact ⟨hS, wpAnyH_of_mix hl hs hQ sc _ _ _ h3 hS h⟩
theorem wp_region_mixH {id : Nat} {a : Act} {w : World} {l : List Oper} (S : World → Prop) (sc : List (Bool × Nat)) (hm : P.follows .mixedOrders = true)
    (hB : (Region.noSelect l.toArray && decide (sc.length = l.toArray.size) && mixBH .any l.toArray sc (Array.replicate l.toArray.size false)) = true) (hS : S w.drew)
    (h : Nonempty (HW S) → wpMix P l.toArray S l.toArray.size (NoPan Q) sc a w.drew) : (Code.region id l.toArray true).wp P Q a w := by
 simp only [Bool.and_eq_true, decide_eq_true_eq] at hB
 obtain ⟨⟨h1, h2⟩, h3⟩ := hB
 refine wp_mono (Q := NoPan Q) (wp_region_held (S := S) hm ?_) NoPan.imp
 have := wpAnyH_of_mix (Q := NoPan Q) rfl h1 (fun _ _ _ _ _ h => h) sc _ _ _ h3 hS (h ⟨⟨_, hS⟩⟩)
 rwa [h2] at this
theorem mix_take {i : Nat} {o : Oper} {sc : List (Bool × Nat)} {a : Act} {w : World} (ho : ops[i]? = some o)
    (h : ∀ K : Act → Prop, (∀ a, wpMix P ops S last Q sc a w → K a) → if Region.wanted o (yielded ops a.tmps) = true then ∃ v, (∀ p : HW S, (execOp a.eval o).run P p.w = .ok (.value v) p.w) ∧ K (a.put o.dst v) else K (a.put o.dst undef)) : wpMix P ops S last Q ((true, i) :: sc) a w :=
 ⟨o, ho, h _ fun _ h => h⟩
theorem mix_act {i : Nat} {o : Oper} {sc : List (Bool × Nat)} {a : Act} {w : World} (ho : ops[i]? = some o)
    (h : ∀ K : Act → World → Prop, Hid (∀ a w, (i ≠ last → S w) → wpMix P ops S last Q sc a w → K a w) → if Region.wanted o (yielded ops a.tmps) = true then o.wp P a w K Q else K (a.put o.dst undef) w) (hS : Region.wanted o (yielded ops a.tmps) = true ∨ S w) : wpMix P ops S last Q ((false, i) :: sc) a w := by
 refine ⟨o, ho, ?_⟩
 have := h (fun a' w' => (i ≠ last → S w') ∧ wpMix P ops S last Q sc a' w') (Lib.hid fun a w h1 h2 => ⟨h1, h2⟩)
 by_cases hw : Region.wanted o (yielded ops a.tmps) = true
 · rw [if_pos hw] at this ⊢
   exact this
 · rw [if_neg hw] at this ⊢
   exact this.2
def CellIs (a : Addr) (v : Value) (w : World) : Prop := w.cell? a = some v
theorem CellIs.all (a : Addr) (v : Value) (p : HW (CellIs a v)) : p.w.cell? a = some v := p.h
theorem mix_done {a : Act} {w : World} (h : Q .normal a w) : wpMix P ops S last (NoPan Q) [] a w := h
end
end Go.Proofs.YtfchcdbfalgdlaaGreatDoor
namespace Go.Proofs.YtfchcdbfalgdlaaGreatDoor
set_option linter.unusedVariables false
set_option linter.unusedSimpArgs false
set_option linter.constructorNameAsVariable false
open Go.RowKit
def u8s (xs : List Int) : List Value := xs.map (Value.int .u8)
theorem u8s_len (xs : List Int) : (u8s xs).length = xs.length := by simp [u8s]
theorem u8s_one (xs : List Int) : ∀ u ∈ u8s xs, u.oneCell' = true := by
 intro u hu
 simp only [u8s, List.mem_map] at hu
 obtain ⟨x, _, rfl⟩ := hu
 rfl
def Byt (xs : List Int) : Prop := ∀ x ∈ xs, 0 ≤ x ∧ x < 256
theorem elB : ElemOf Tryz.prog 33 5 1 1 := ElemOf.mk' (z := .int .u8 0) Tryz.underlying33 (by kernel_rfl) rfl (by decide)
theorem str_inj {xs ys : List Int} (hx : Byt xs) (hy : Byt ys) : ((strOfNums xs).toList == (strOfNums ys).toList) = decide (xs = ys) := by
 rw [ByteArray.toList_eq, ByteArray.toList_eq, strOfNums_data, strOfNums_data, Bool.eq_iff_iff, decide_eq_true_iff, beq_iff_eq]
 constructor
 · intro h2
   induction xs generalizing ys with
   | nil => cases ys <;> simp at h2 ⊢
   | cons x xs ih =>
    cases ys with
    | nil => simp at h2
    | cons y ys =>
     simp only [List.map_cons, List.cons.injEq] at h2
     obtain ⟨hx0, hx1⟩ := hx x (by simp)
     obtain ⟨hy0, hy1⟩ := hy y (by simp)
     have e : x = y := by
      have := congrArg UInt8.toNat h2.1
      simp [UInt8.toNat_ofNat'] at this
      omega
     rw [e, ih (fun z hz => hx z (by simp [hz])) (fun z hz => hy z (by simp [hz])) h2.2]
 · rintro rfl
   rfl
theorem run_conv {p : Nat → Prop} {w : World} {A : Option Addr} {n c : Nat} {xs : List Int} (h : Rd p w 1 A n (u8s xs)) : (convert 33 9 (.slice A n c)).run Tryz.prog w = .ok (.string (strOfNums xs)) w := by
 have hl : xs.length = n := by have := h.1; rw [u8s_len] at this; omega
 rcases Nat.eq_zero_or_pos n with h0 | h0
 · subst h0
   have hz : xs = [] := List.eq_nil_of_length_eq_zero hl
   subst hz
   rcases A with _ | ad
   · exact run_convert_bytes_nil w 33 5 Tryz.underlying33 Tryz.underlying5 0 c 9 Tryz.underlying9
   · rw [run_convert_bytes_string w 33 9 5 _ 0 c Tryz.underlying33 Tryz.underlying5 Tryz.underlying9, run_bytesToString w ad 0 c [] rfl]
     rfl
 · obtain ⟨g, o, rfl, -, -, hc⟩ := h.out h0 (by omega)
   refine run_convert_bytes_arg w 33 5 Tryz.underlying33 Tryz.underlying5 g o n c xs hl (fun i hi => ?_) 9 Tryz.underlying9
   refine hc i _ ?_
   have hi' : i < xs.length := by omega
   simp [u8s, hi']
theorem equal_any {p q : Nat → Prop} (A B : Option Addr) (n m c d : Nat) (xs ys : List Int) (w : World) (hx : Rd p w 1 A n (u8s xs)) (hy : Rd q w 1 B m (u8s ys)) (bx : Byt xs) (by_ : Byt ys) :
    Calls Tryz.prog 68 #[.slice A n c, .slice B m d] w fun e w' => e = .returned (.bool (decide (xs = ys))) ∧ w = w' := by
 have h1 := run_conv (c := c) hx
 have h2 := run_conv (c := d) hy
 have h3 := str_inj bx by_
 generalize strOfNums xs = s1 at h1 h3
 generalize strOfNums ys = s2 at h2 h3
 generalize decide (xs = ys) = r at h3 ⊢
 clear hx hy bx by_
 go_enter Tryz.func68, Tryz.ntmps68
 go_wp2_with fail
 go_ret
 exact ⟨rfl, rfl⟩
theorem bclone_any (A : Option Addr) (n c : Nat) (xs : List Int) (w : World) (hO : Rd (fun b => b < w.heap.size) w 1 A n (u8s xs)) (hn : n ≤ 1000000) :
    Calls Tryz.prog 102 #[.slice A n c] w fun e w' => (∃ A' c', e = .returned (.slice A' n c') ∧ w'.ownsRow w.heap.size 5 1 (.slice A' n c') n (u8s xs)) ∧ New w w' := by
 have HR := Lib.hid hO
 rcases A with _ | ad
 · have h0 : n = 0 := by
    rcases Nat.eq_zero_or_pos n with h | h
    · exact h
    · obtain ⟨ad, h', _⟩ := hO.2 h
      cases h'
   subst h0
   have hz : xs = [] := List.eq_nil_of_length_eq_zero (by have := hO.1; rw [u8s_len] at this; omega)
   subst hz
   clear hO
   have hen := fun w => Lib.run_eql_slice_nil (P := Tryz.prog) w 33 5 none 0 c 0 0 Tryz.underlying33
   go_enter Tryz.func102, Tryz.ntmps102
   go_wp2_with fail
   go_ret
   exact ⟨⟨none, 0, rfl, World.ownsRow_nil _ _ _ _⟩, New.refl w⟩
 · clear hO
   have hen := fun w => Lib.run_eql_slice_nil (P := Tryz.prog) w 33 5 (some ad) n c 0 0 Tryz.underlying33
   go_enter Tryz.func102, Tryz.ntmps102
   go_wp2_with (at_builtin; refine wpList_app elB _ rfl (.tmp 5) (.tmp 6) rfl w.heap.size (.slice (some ⟨w.heap.size, 0, none⟩) 0 0) 0 [] rfl (own_lit (Blk.new w 5 #[]) (Nat.le_refl _)) (some ad) n c (u8s xs) rfl (New.rd (New.al (New.refl w) _) HR.out) (u8s_one xs) (by unfold maxLen; omega) (by omega) (by simp) ?_; intro A1 d1 w3 hO3 hF3 hA3; rw [Nat.zero_add]; rw [Nat.zero_add, List.nil_append] at hO3; have HO3 := Lib.hid hO3; have HN3 : Hid (New w w3) := Lib.hid ((New.al (New.refl w) _).fr hF3 (by intro k hk; simp [Value.ownBlock] at hk; omega)); clear hO3 hF3 hA3)
   go_ret
   exact ⟨⟨A1, d1, rfl, HO3.out⟩, HN3.out⟩
end Go.Proofs.YtfchcdbfalgdlaaGreatDoor
namespace Go.Proofs.YtfchcdbfalgdlaaGreatDoor
set_option linter.unusedVariables false
set_option linter.unusedSimpArgs false
set_option linter.constructorNameAsVariable false
open Go.RowKit
theorem u32_in (x : Int) (h0 : 0 ≤ x) (h1 : x < 4294967296) : IntKind.u32.wrap x = x := by rw [IntKind.wrap_u32]; omega
theorem word_eq {b0 b1 b2 b3 : Int} (h0 : 0 ≤ b0 ∧ b0 < 256) (h1 : 0 ≤ b1 ∧ b1 < 256) (h2 : 0 ≤ b2 ∧ b2 < 256) (h3 : 0 ≤ b3 ∧ b3 < 256) :
    bits .or .u32 (bits .or .u32 (bits .or .u32 (IntKind.u32.wrap (IntKind.u32.wrap b0 * 16777216)) (IntKind.u32.wrap (IntKind.u32.wrap b1 * 65536))) (IntKind.u32.wrap (IntKind.u32.wrap b2 * 256))) (IntKind.u32.wrap b3) = ((b0 * 256 + b1) * 256 + b2) * 256 + b3 := by
 have hk : ∀ n : Int, 0 ≤ n → n < 2 ^ 32 → IntKind.u32.wrap n = n := fun n h0 h1 => u32_in n h0 (by omega)
 rw [u32_in b0 (by omega) (by omega), u32_in b1 (by omega) (by omega), u32_in b2 (by omega) (by omega), u32_in b3 (by omega) (by omega), u32_in (b0 * 16777216) (by omega) (by omega), u32_in (b1 * 65536) (by omega) (by omega), u32_in (b2 * 256) (by omega) (by omega)]
 have j1 : bits .or .u32 (b0 * 16777216) (b1 * 65536) = b0 * 16777216 + b1 * 65536 := bits_join .u32 32 (by decide) hk 24 _ _ (by omega) (by omega) (by omega) (by omega) (by omega) (by omega)
 have j2 : bits .or .u32 (b0 * 16777216 + b1 * 65536) (b2 * 256) = b0 * 16777216 + b1 * 65536 + b2 * 256 := bits_join .u32 32 (by decide) hk 16 _ _ (by omega) (by omega) (by omega) (by omega) (by omega) (by omega)
 have j3 : bits .or .u32 (b0 * 16777216 + b1 * 65536 + b2 * 256) b3 = b0 * 16777216 + b1 * 65536 + b2 * 256 + b3 := bits_join .u32 32 (by decide) hk 8 _ _ (by omega) (by omega) (by omega) (by omega) (by omega) (by omega)
 rw [j1, j2, j3]
 omega
theorem word_any {p : Nat → Prop} (A : Option Addr) (n c : Nat) (xs : List Int) (b0 b1 b2 b3 : Int) (w : World) (h : Rd p w 1 A n (u8s xs)) (hx : xs = [b0, b1, b2, b3]) (hb : Byt xs) : Calls Tryz.prog 187 #[.slice A n c] w fun e w' => e = .returned (.int .u32 (((b0 * 256 + b1) * 256 + b2) * 256 + b3)) ∧ New w w' := by
 subst hx
 have hn : n = 4 := by have := h.1; rw [u8s_len] at this; simpa using this.symm
 subst hn
 obtain ⟨g, o, rfl, -, -, hc⟩ := h.out (by omega) (by omega)
 have c0 : ∀ p : HW (New w), p.w.cell? ⟨g, o, none⟩ = some (.int .u8 b0) := fun p => p.h.cell_ (hc 0 _ rfl)
 have c1 : ∀ p : HW (New w), p.w.cell? ⟨g, o + 1, none⟩ = some (.int .u8 b1) := fun p => p.h.cell_ (hc 1 _ rfl)
 have c2 : ∀ p : HW (New w), p.w.cell? ⟨g, o + 2, none⟩ = some (.int .u8 b2) := fun p => p.h.cell_ (hc 2 _ rfl)
 have c3 : ∀ p : HW (New w), p.w.cell? ⟨g, o + 3, none⟩ = some (.int .u8 b3) := fun p => p.h.cell_ (hc 3 _ rfl)
 have h0 := hb b0 (by simp)
 have h1 := hb b1 (by simp)
 have h2 := hb b2 (by simp)
 have h3 := hb b3 (by simp)
 clear hc
 go_enter Tryz.func187, Tryz.ntmps187
 go_wp2_with fail
 refine wp_region_mixH (New w) [(true, 0), (true, 1), (true, 2), (true, 3), (true, 4), (true, 5), (true, 6), (true, 7), (true, 8), (true, 9), (true, 10), (true, 11), (true, 12), (true, 13), (true, 14), (true, 15), (true, 16), (true, 17), (true, 18), (true, 19), (true, 20), (true, 21), (true, 22)] (by kernel_rfl) (by kernel_rfl) (New.dr (New.refl w)) (fun hne => ?_)
 iterate 23 (refine mix_take (o := ⟨_, _, _, _, _, _⟩) rfl (fun K hK => ?_); go_simp; refine hK _ ?_; clear hK K)
 refine mix_done ?_
 go_wp2_with fail
 go_ret
 rw [word_eq h0 h1 h2 h3]
 exact ⟨rfl, New.dr (New.refl w)⟩
end Go.Proofs.YtfchcdbfalgdlaaGreatDoor
namespace Go.Proofs.YtfchcdbfalgdlaaGreatDoor
set_option linter.unusedVariables false
set_option linter.unusedSimpArgs false
set_option linter.constructorNameAsVariable false
open Go.RowKit
section
variable {P : Program} {w : World} {ops : Array Oper} {rest : List Oper} {o o2 : Oper} {a : Act} {Q : Exit → Act → World → Prop}
theorem atOp (o : Oper) (h : wpList P ops Q (o :: rest) a w) : wpList P ops Q (o :: rest) a w := h
theorem wpList_want (hw : Region.wanted o (yielded ops a.tmps) = true) (h : ∀ K : Act → World → Prop, (∀ a w, wpList P ops Q rest a w → K a w) → o.wp P a w K Q) : wpList P ops Q (o :: rest) a w :=
 wpList_step fun K hK => by rw [if_pos hw]; exact h K hK
theorem setRow_blk {g : Nat} {T : TypeId} {cs cs' : Array Value} (hb : Blk w g T cs) : Blk (w.setRow g cs') g T cs' ∧ Fr (fun k => k = g) w (w.setRow g cs') :=
 ⟨setRow_heap w g cs cs' T (0, 0) hb, ⟨rfl, rfl, rfl, by simp, fun k _ hk => setRow_other w g k cs' hk⟩⟩
theorem wpList_load_any {T : TypeId} {d : TypeDesc} {g : Nat} {cs : Array Value} (hw : Region.wanted o (yielded ops a.tmps) = true) (x : Operand) (ho : o.op = .load T x) (hu : P.underlying T = some d) (hd : d.isRow = true) (hi : (P.info? T).map (·.size) = some cs.size) (hx : a.eval x = .pointer (some ⟨g, 0, none⟩)) (hb : Blk w g T cs)
    (h : wpList P ops Q rest (a.put o.dst (.agg cs)) w) : wpList P ops Q (o :: rest) a w :=
 wpList_want hw fun _ hK => wp_load_row T x ho g hx T cs (0, 0) _ hb hu (by cases d <;> first | rfl | (simp [TypeDesc.isRow] at hd)) hi (hK _ _ h)
theorem wpList_store_any {T : TypeId} {g : Nat} {cs0 cs : Array Value} (hw : Region.wanted o (yielded ops a.tmps) = true) (x y : Operand) (ho : o.op = .store T x y) (hi : (P.info? T).map (·.size) = some cs.size) (hx : a.eval x = .pointer (some ⟨g, 0, none⟩)) (hy : a.eval y = .agg cs) (hb : Blk w g T cs0) (h0 : cs0.size = cs.size) (h1 : cs.all (·.oneCell') = true)
    (h : ∀ w', Blk w' g T cs → Fr (fun k => k = g) w w' → wpList P ops Q rest (a.put o.dst undef) w') : wpList P ops Q (o :: rest) a w :=
 wpList_want hw fun K hK => by
  obtain ⟨r1, r2⟩ := setRow_blk (cs' := cs) hb
  unfold Oper.wp execOp
  simp only [ho, hx, hy, Instr.storeAt, Instr.sureAddr, Sem.run_bind, Sem.run_pure, Result.andThen_ok, run_storeVar_row w g T T cs0 cs hb hi h0 h1]
  exact hK _ _ (h _ r1 r2)
end
end Go.Proofs.YtfchcdbfalgdlaaGreatDoor
