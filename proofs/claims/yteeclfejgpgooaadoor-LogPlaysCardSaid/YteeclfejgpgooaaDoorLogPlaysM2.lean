/- Texts of one proof, one behind the other: Qt, Num, ShA, OcA. No condition but each one's own. -/
import Derived.Test.YteeclfejgpgooaaDoorLogPlaysM1
import Derived.StillTail
import Derived.Test.YteeclfejgpgooaaDoorRows
/- A region that draws its order: operations that only read and callees that may make memory, walked once in text order; behind them a tail whose order is fixed (a store, an append, a call that writes). After the kit's laws (Derived/Deep/Quiet.lean, Derived/StillTail.lean, Derived/Lib/QuietBelow.lean). No condition. -/
namespace Go.Proofs.YteeclfejgpgooaaDoor
set_option linter.unusedVariables false
set_option linter.unusedSimpArgs false
set_option linter.constructorNameAsVariable false
open Go.RowKit Go.Sort

section
variable {P : Program} {ops : Array Oper} {md : Region.Mode} {C : World → Prop}
def wpAnyLQ (P : Program) (md : Region.Mode) (ops : Array Oper) (C : World → Prop) (n : Nat) (L : Array Bool → Act → Prop) : Nat → Array Bool → Act → Prop
  | 0, listed, a => L listed a
  | f + 1, listed, a => Region.ready md ops listed ≠ [] ∧ ∀ i ∈ Region.ready md ops listed, i < n ∧ qOp P ops C i (wpAnyLQ P md ops C n L f (listed.setIfInBounds i true)) a
theorem wpAny_of_headQ {n g : Nat} {L : Array Bool → Act → Prop} {Q' : Exit → Act → World → Prop} (hL : ∀ listed a w, C w → L listed a → wpAny P md ops Q' g listed a w) :
    ∀ (f : Nat) (listed : Array Bool) (a : Act) (w : World), C w → wpAnyLQ P md ops C n L f listed a → wpAny P md ops Q' (f + g) listed a w
  | 0, listed, a, w, hw, h => by rw [Nat.zero_add]; exact hL _ _ _ hw h
  | f + 1, listed, a, w, hw, h => by
    rw [show f + 1 + g = (f + g) + 1 by omega]
    exact ⟨fun h0 => absurd h0 h.1, fun i hi => wpOp_of_qOp hw (fun a' w' hw' h' => wpAny_of_headQ hL f _ a' w' hw' h') (h.2 i hi).2⟩
theorem wpAnyLQ_first {n i : Nat} {oi : Oper} {v : Value} {L : Array Bool → Act → Prop} (hi : ops[i]? = some oi) (hsel : ∀ (j : Nat) (o : Oper) cs b, ops[j]? = some o → o.op ≠ .select cs b)
    (hs : Region.sinkB md ops n = true) (hc : Region.chainB md ops n = true) (hn : n < ops.size) (hin : i < n)
    (hdone : ∀ listed a, L listed a → ∀ j ∈ Region.ready md ops listed, n ≤ j) :
    ∀ (f : Nat) (listed : Array Bool) (a : Act), HeadInv md ops n listed →
      (∀ j oj, ops[j]? = some oj → j ≠ i → listed.getD j true = false → (∀ e ∈ oj.after, Region.binds md e = true → e.on ≠ i) → oi.apart ops oj = true) →
      i ∈ Region.ready md ops listed → YieldsIn P ops C oi v a →
      wpAnyLQ P md ops C n L f (listed.setIfInBounds i true) (a.put oi.dst v) → wpAnyLQ P md ops C n L (f + 1) listed a := by
  intro f
  induction f with
  | zero =>
    intro listed a inv _ hr hy H
    have hun := (mem_ready.1 hr).1
    refine ⟨fun h => (by rw [h] at hr; cases hr), fun j hj => ?_⟩
    have hjn : j < n := by
      rcases Nat.lt_or_ge j n with h | h
      · exact h
      · exact absurd hj (tail_waits hs hc hn inv _ i rfl hin hun j h)
    refine ⟨hjn, ?_⟩
    by_cases hji : j = i
    · subst hji; exact hy.qOp hi H
    · have := hdone _ _ H j (ready_mono hj hji)
      omega
  | succ f ih =>
    intro listed a inv hfree hr hy H
    have hun := (mem_ready.1 hr).1
    refine ⟨fun h => (by rw [h] at hr; cases hr), fun j hj => ?_⟩
    have hjn : j < n := by
      rcases Nat.lt_or_ge j n with h | h
      · exact h
      · exact absurd hj (tail_waits hs hc hn inv _ i rfl hin hun j h)
    refine ⟨hjn, ?_⟩
    by_cases hji : j = i
    · subst hji; exact hy.qOp hi H
    · have h1 := (H.2 j (ready_mono hj hji)).2
      obtain ⟨hjun, oj, hoj, hall⟩ := mem_ready.1 hj
      have hnot : ∀ e ∈ oj.after, Region.binds md e = true → e.on ≠ i := fun e he hb heq => by
        have h1 := hall e he hb
        rw [heq, getD_both hun] at h1
        cases h1
      have h2 := qOp_put hoj (hfree j oj hoj hji hjun hnot) (fun cs b => hsel i oi cs b hi) (fun cs b => hsel j oj cs b hoj) hy h1
      have hfree' : ∀ k ok, ops[k]? = some ok → k ≠ i → (listed.setIfInBounds j true).getD k true = false →
          (∀ e ∈ ok.after, Region.binds md e = true → e.on ≠ i) → oi.apart ops ok = true := fun k ok hk hki hun hno => by
        refine hfree k ok hk hki ?_ hno
        by_cases hjk : j = k
        · subst hjk; exact hjun
        · rw [getD_set_ne true hjk] at hun; exact hun
      refine qOp_mono (fun a' h3 => ih (listed.setIfInBounds j true) a' (inv.set hj hjn) hfree' (ready_mono hr (Ne.symm hji)) h3.1 ?_) h2
      rw [Array.setIfInBounds_comm _ _ hji]
      exact h3.2
theorem wpAnyLQ_lex {n g : Nat} {Lq : Act → Prop} (hsel : Region.noSelect ops = true) (hs : Region.sinkB md ops n = true) (hc : Region.chainB md ops n = true) (hn : n < ops.size) :
    ∀ (l : List Oper) (k : Nat) (listed : Array Bool) (a : Act), (∀ j, j < l.length → l[j]? = ops[k + j]?) → k + l.length = n → HeadInv md ops n listed →
    Region.lexHead md ops g l.length k listed = true → wpQuiet P ops C Lq l a →
    wpAnyLQ P md ops C n (fun listed' a' => Region.seqB md ops g n listed' = true ∧ Lq a') l.length listed a
  | [], k, listed, a, _, hk, _, hB, h => by
    have : k = n := by simpa using hk
    subst this
    exact ⟨by simpa [Region.lexHead] using hB, h⟩
  | o :: l, k, listed, a, hl, hk, inv, hB, h => by
    have h0 : ops[k]? = some o := by simpa using (hl 0 (by simp)).symm
    simp only [List.length_cons, Region.lexHead, Bool.and_eq_true] at hB
    obtain ⟨⟨hr, hf⟩, hB'⟩ := hB
    have hkn : k < n := by simp only [List.length_cons] at hk; omega
    have hr' : k ∈ Region.ready md ops listed := by simpa using hr
    have hst : qOp P ops C k (wpQuiet P ops C Lq l) a := by unfold qOp; simp only [h0]; exact h
    obtain ⟨v, hy, hK⟩ := yieldsIn_of_qOp h0 hst
    exact wpAnyLQ_first h0 (Region.noSelect_spec hsel) hs hc hn hkn (fun listed' a' hL => seqB_ready hL.1) l.length listed a inv (Region.free_spec h0 hf) hr' hy
      (wpAnyLQ_lex hsel hs hc hn l (k + 1) _ _ (fun j hj => by have := hl (j + 1) (by simp; omega); simpa [Nat.add_assoc, Nat.add_comm 1 j] using this) (by simp only [List.length_cons] at hk; omega) (inv.set hr' hkn) hB' hK)
theorem wp_region_tail {id : Nat} {Q : Exit → Act → World → Prop} {a : Act} {w : World} {l : List Oper} (n : Nat) (hm : P.follows .mixedOrders = true) (hB : Region.lexTailB .any l.toArray n = true)
    (h : wpQuiet P l.toArray (fun w' => ∃ p : Regrown, w' = grow (redrawn w p.d) p.os) (fun a' => ∀ w', New w w' → wpList P l.toArray Q (l.drop n) a' w') (l.take n) a) : (Code.region id l.toArray true).wp P Q a w := by
  simp only [Region.lexTailB, Bool.and_eq_true, decide_eq_true_eq] at hB
  obtain ⟨⟨⟨⟨hsel, hn⟩, hs⟩, hc⟩, hlex⟩ := hB
  have hn' : n < l.length := by simpa using hn
  have htl : (l.take n).length = n := by rw [List.length_take]; omega
  have hdl : (l.drop n).length = l.toArray.size - n := by simp
  have inv0 : HeadInv .any l.toArray n (Array.replicate l.toArray.size false) :=
    ⟨by simp, fun j oj _ hl => (by rw [getD_replicate_false] at hl; cases hl), fun t _ ht => getD_in (by simpa using ht) (getD_replicate_false _ _)⟩
  have H := wpAnyLQ_lex (md := .any) (g := l.toArray.size - n) hsel hs hc hn (l.take n) 0 _ a (fun j hj => by
    have hj' : j < n := by rw [htl] at hj; exact hj
    simp [hj']) (by simpa using htl) inv0 (by rw [htl]; exact hlex) h
  refine wp_region_any hm ?_
  have := wpAny_of_headQ (Q' := Q) (g := l.toArray.size - n) (C := fun w' => ∃ p : Regrown, w' = grow (redrawn w p.d) p.os) (fun listed a' w' hw' hL => by
    have hN : New w w' := by
      obtain ⟨p, rfl⟩ := hw'
      exact below_regrown w p.d p.os
    have := wpAny_of_seq (md := .any) (Q' := Q) (l.drop n) n listed a' w' (fun j => by simp [List.getElem?_drop]) (by rw [hdl]; exact hL.1) (hL.2 w' hN)
    rwa [hdl] at this) _ _ _ _ ⟨⟨w.drawn + 1, #[]⟩, by rw [grow_empty] <;> rfl⟩ H
  rw [htl, show n + (l.toArray.size - n) = l.toArray.size by omega] at this
  exact this
end
end Go.Proofs.YteeclfejgpgooaaDoor
/- entrustnum.Num and entrustnum.Is, of errors that are api.Errno's or nil. No condition. -/
namespace Go.Proofs.YteeclfejgpgooaaDoor
set_option linter.unusedVariables false
set_option linter.unusedSimpArgs false
set_option linter.constructorNameAsVariable false
open Go.RowKit

theorem ta_errno (n : Int) (w : World) : (Instr.typeAssert (.iface 63 (.int .i64 n)) 27 63 true).run Tryd.prog w = .ok (.tuple #[.int .i64 n, .bool true]) w := by
  simp [Instr.typeAssert, run_underlying Tryd.underlying63]

theorem num_some (n : Int) (w : World) (h1 : 1 ≤ n) : Calls Tryd.prog 14 #[.iface 63 (.int .i64 n)] w fun e w' => e = .returned (.int .i64 n) ∧ w = w' := by
  have ta := ta_errno n w
  have hz : (n != 0) = true := by simp; omega
  go_enter Tryd.func14, Tryd.ntmps14
  go_wp2_with fail
  go_ret
  exact ⟨rfl, rfl⟩
theorem num_none (w : World) : Calls Tryd.prog 14 #[.nilIface] w fun e w' => e = .returned (.int .i64 0) ∧ w = w' := by
  go_enter Tryd.func14, Tryd.ntmps14
  go_wp2_with fail
  go_ret
  exact ⟨rfl, rfl⟩
theorem is_some (n m : Int) (w : World) (h1 : 1 ≤ n) : Calls Tryd.prog 24 #[.iface 63 (.int .i64 n), .int .i64 m] w fun e w' => e = .returned (.bool (n == m)) ∧ w = w' := by
  go_enter Tryd.func24, Tryd.ntmps24
  go_wp2_with fail
  refine (num_some n _ h1).mono ?_
  rintro e w1 ⟨rfl, rfl⟩
  go_wp2_with fail
  go_ret
  exact ⟨rfl, rfl⟩
theorem is_none (m : Int) (w : World) (h1 : 1 ≤ m) : Calls Tryd.prog 24 #[.nilIface, .int .i64 m] w fun e w' => e = .returned (.bool false) ∧ w = w' := by
  have hz : ((0 : Int) == m) = false := by simp; omega
  go_enter Tryd.func24, Tryd.ntmps24
  go_wp2_with fail
  refine (num_none _).mono ?_
  rintro e w1 ⟨rfl, rfl⟩
  go_wp2_with fail
  go_ret
  exact ⟨rfl, rfl⟩
end Go.Proofs.YteeclfejgpgooaaDoor
/- sha, both sides: a number turned right. No condition. -/
namespace Go.Proofs.YteeclfejgpgooaaDoor
set_option linter.unusedVariables false
set_option linter.unusedSimpArgs false
set_option linter.constructorNameAsVariable false
open Go.RowKit

/-- A number turned right. -/
def rotr (x : Int) (k : Nat) : Int := bits .or .u32 (x / 2 ^ k) (x * 2 ^ (32 - k) % 4294967296)
theorem and31 (k : Nat) (hk : 1 ≤ k ∧ k ≤ 31) : bits .and .u64 (18446744073709551616 - (k : Int)) 31 = 32 - (k : Int) := by
  have h : ∀ k : Fin 32, 1 ≤ k.val → bits .and .u64 (18446744073709551616 - (k.val : Int)) 31 = 32 - (k.val : Int) := by decide
  exact h ⟨k, by omega⟩ hk.1
theorem rotl_any (x : Int) (k : Nat) (w : World) (hx : 0 ≤ x ∧ x < 4294967296) (hk : 1 ≤ k ∧ k ≤ 31) : Calls Tryd.prog 83 #[.int .u32 x, .int .i64 (-(k : Int))] w fun e w' => e = .returned (.int .u32 (bits .or .u32 (x * 2 ^ (32 - k) % 4294967296) (x / 2 ^ k))) ∧ w = w' := by
  have h1 : IntKind.u64.wrap (-(k : Int)) = 18446744073709551616 - (k : Int) := by
    unfold IntKind.wrap
    simp [IntKind.bits, IntKind.signed]
    omega
  have h2 := and31 k hk
  go_enter Tryd.func83, Tryd.ntmps83
  go_wp2_with fail
  have h3 : 32 - (32 - k) = k := by omega
  go_ret
  rw [h3]
  exact ⟨rfl, rfl⟩
theorem bits_or_comm (k : IntKind) (a b : Int) : bits .or k a b = bits .or k b a := by
  unfold bits
  simp only [BitVec.or_comm]
theorem turn_any (x : Int) (k : Nat) (w : World) (hx : 0 ≤ x ∧ x < 4294967296) (hk : 1 ≤ k ∧ k ≤ 31) : Calls Tryd.prog 81 #[.int .u32 x, .int .i64 (k : Int)] w fun e w' => e = .returned (.int .u32 (rotr x k)) ∧ w = w' := by
  go_enter Tryd.func81, Tryd.ntmps81
  go_wp2_with fail
  refine (rotl_any x k w hx hk).mono ?_
  rintro e w' ⟨rfl, rfl⟩
  go_wp2_with fail
  go_ret
  rw [bits_or_comm]
  exact ⟨rfl, rfl⟩
theorem rotr_b (x : Int) (k : Nat) : 0 ≤ rotr x k ∧ rotr x k < 4294967296 := by
  have h := bits_within .or .u32 (x / 2 ^ k) (x * 2 ^ (32 - k) % 4294967296)
  have h1 : IntKind.u32.min = 0 := by decide
  have h2 : IntKind.u32.max = 4294967295 := by decide
  unfold rotr
  omega
theorem rturn_any (x : Int) (k : Nat) (w : World) (hx : 0 ≤ x ∧ x < 4294967296) (hk : 1 ≤ k ∧ k ≤ 31) : Calls Tryd.prog 76 #[.int .u32 x, .int .i64 (k : Int)] w fun e w' => e = .returned (.int .u32 (rotr x k)) ∧ w = w' := by
  go_enter Tryd.func76, Tryd.ntmps76
  go_wp2_with fail
  go_ret
  exact ⟨rfl, rfl⟩
end Go.Proofs.YteeclfejgpgooaaDoor
/- Numbers as bytes, the highest first, and back: plain words for the octets of both sides. No condition. -/
namespace Go.Proofs.YteeclfejgpgooaaDoor
set_option linter.unusedVariables false
set_option linter.unusedSimpArgs false
set_option linter.constructorNameAsVariable false

/-- A number's byte at place i from the end. -/
def byteAt (n i : Nat) : Nat := n / 256 ^ i % 256
/-- A number's bytes, so many, the highest first. -/
def beL (size n : Nat) : List Int := (List.range size).map fun j => ((byteAt n (size - 1 - j) : Nat) : Int)
theorem beL_len (size n : Nat) : (beL size n).length = size := by simp [beL]
theorem byteAt_lt (n i : Nat) : byteAt n i < 256 := Nat.mod_lt _ (by decide)
theorem beL_byt (size n : Nat) : ∀ x ∈ beL size n, 0 ≤ x ∧ x < 256 := by
  intro x hx
  obtain ⟨j, _, rfl⟩ := List.mem_map.1 hx
  have := byteAt_lt n (size - 1 - j)
  omega
theorem beL_zero (n : Nat) : beL 0 n = [] := rfl
theorem beL_succ (size n : Nat) : beL (size + 1) n = beL size (n / 256) ++ [((n % 256 : Nat) : Int)] := by
  unfold beL
  rw [List.range_succ, List.map_append, List.map_singleton]
  congr 1
  · refine List.map_congr_left fun j hj => ?_
    have hj := List.mem_range.1 hj
    have e : size + 1 - 1 - j = (size - 1 - j) + 1 := by omega
    rw [e]
    unfold byteAt
    rw [Nat.pow_succ, Nat.mul_comm, ← Nat.div_div_eq_div_mul]
  · simp [byteAt]
theorem beL_cons (size n : Nat) : beL (size + 1) n = ((byteAt n size : Nat) : Int) :: beL size n := by
  unfold beL
  rw [List.range_succ_eq_map, List.map_cons, List.map_map]
  congr 1
  refine List.map_congr_left fun j hj => ?_
  have hj := List.mem_range.1 hj
  show ((byteAt n (size + 1 - 1 - (j + 1)) : Nat) : Int) = _
  rw [show size + 1 - 1 - (j + 1) = size - 1 - j by omega]
theorem beL_get (size n j : Nat) (h : j < (beL size n).length) : (beL size n)[j] = ((byteAt n (size - 1 - j) : Nat) : Int) := by simp [beL]
/-- What has been written when places size - 1 .. i are done. -/
theorem beL_take (size n i : Nat) (hi : i < size) : (beL size n).take (size - i) = (beL size n).take (size - (i + 1)) ++ [((byteAt n i : Nat) : Int)] := by
  have hl : size - (i + 1) < (beL size n).length := by rw [beL_len]; omega
  have := List.take_succ_eq_append_getElem hl
  rw [show size - (i + 1) + 1 = size - i by omega] at this
  rw [this, beL_get, show size - 1 - (size - (i + 1)) = i by omega]
/-- The number of bytes. -/
def valL (xs : List Int) : Nat := xs.foldl (fun n x => n * 256 + x.toNat) 0
theorem valL_snoc (xs : List Int) (x : Int) : valL (xs ++ [x]) = valL xs * 256 + x.toNat := by simp [valL]
theorem valL_nil : valL [] = 0 := rfl
theorem valL_take {xs : List Int} {k : Nat} (h : k < xs.length) : valL (xs.take (k + 1)) = valL (xs.take k) * 256 + (xs[k]).toNat := by
  rw [List.take_succ_eq_append_getElem h, valL_snoc]
theorem valL_lt {xs : List Int} (h : ∀ x ∈ xs, 0 ≤ x ∧ x < 256) : valL xs < 256 ^ xs.length := by
  suffices h2 : ∀ k, k ≤ xs.length → valL (xs.take k) < 256 ^ k by
    have := h2 xs.length (Nat.le_refl _)
    rwa [List.take_length] at this
  intro k
  induction k with
  | zero => intro _; simp [valL]
  | succ k ih =>
    intro hk
    have := ih (by omega)
    rw [valL_take (by omega), Nat.pow_succ]
    have := h xs[k] (List.getElem_mem _)
    omega
theorem valL_beL (size n : Nat) (h : n < 256 ^ size) : valL (beL size n) = n := by
  induction size generalizing n with
  | zero => simp at h; subst h; rfl
  | succ s ih =>
    rw [beL_succ, valL_snoc, ih _ (by rw [Nat.pow_succ] at h; omega)]
    omega
theorem beL_valL (xs : List Int) (h : ∀ x ∈ xs, 0 ≤ x ∧ x < 256) : beL xs.length (valL xs) = xs := by
  suffices h2 : ∀ k, k ≤ xs.length → beL k (valL (xs.take k)) = xs.take k by
    have := h2 xs.length (Nat.le_refl _)
    rwa [List.take_length] at this
  intro k
  induction k with
  | zero => intro _; rfl
  | succ k ih =>
    intro hk
    have hx := h xs[k] (List.getElem_mem _)
    rw [valL_take (by omega), beL_succ, List.take_succ_eq_append_getElem (by omega)]
    congr 1
    · rw [show (valL (xs.take k) * 256 + (xs[k]).toNat) / 256 = valL (xs.take k) by omega]
      exact ih (by omega)
    · congr 1
      omega

/-- A reader in plain words: what is left, an error's number (0: none). -/
structure Rs where
  xs : List Int
  e : Nat
def Rs.left (s : Rs) : Nat := if s.e = 0 then s.xs.length else 0
def Rs.bad (s : Rs) (code : Nat) : Rs := if s.e = 0 then ⟨s.xs, code⟩ else s
def Rs.raw (s : Rs) (n : Nat) : List Int × Rs := if s.left < n then ([], s.bad 2) else (s.xs.take n, ⟨s.xs.drop n, s.e⟩)
def Rs.num (s : Rs) (size : Nat) : Nat × Rs := (valL (s.raw size).1, (s.raw size).2)
def Rs.bytes (s : Rs) (most : Nat) : List Int × Rs :=
  if s.left < 2 then ([], s.bad 2)
  else if most < valL (s.xs.take 2) ∨ s.left - 2 < valL (s.xs.take 2) then ([], s.bad 2)
  else (s.raw 2).2.raw (valL (s.xs.take 2))
def Rs.flag (s : Rs) : Bool × Rs :=
  if s.left < 1 ∨ 1 < s.xs.headD 0 then (false, s.bad 2) else (decide ((s.num 1).1 = 1), (s.num 1).2)
def Rs.fin (s : Rs) : Nat := if s.e ≠ 0 then s.e else if 0 < s.xs.length then 2 else 0
end Go.Proofs.YteeclfejgpgooaaDoor
