/- Texts of one proof, one behind the other: Qt, KvS, KvD, KvT, KvBd. No condition but each one's own. -/
import Derived.Test.YtfhinmjpokollaaKvBatchesM3
import Derived.StillTail
import Derived.Test.YtfhinmjpokollaaKvBatchesM8
import Derived.Test.YtfhinmjpokollaaKvBatchesM5
import Derived.Lib.SlBytesConst
import Derived.Test.YtfhinmjpokollaaKvBatchesM11
/- A region that draws its order: operations that only read and callees that may make memory, walked once in text order; behind them a tail whose order is fixed (a store, an append, a call that writes). After the kit's laws (Derived/Deep/Quiet.lean, Derived/StillTail.lean, Derived/Lib/QuietBelow.lean). No condition. -/
namespace Go.Proofs.Ytfhinmjpokollaa
set_option linter.unusedVariables false
set_option linter.unusedSimpArgs false
set_option linter.constructorNameAsVariable false
open Go.RowKit Go.Sort

section
variable {P : Program} {ops : Array Oper} {md : Region.Mode} {C : World → Prop}
def wpAnyLQ (P : Program) (md : Region.Mode) (ops : Array Oper) (C : World → Prop) (n : Nat) (L : Array Bool → Act → Prop) : Nat → Array Bool → Act → Prop
  | 0, listed, a => L listed a
  | f + 1, listed, a => Region.ready md ops listed ≠ [] ∧ ∀ i ∈ Region.ready md ops listed, i < n ∧ qOp P ops C i (wpAnyLQ P md ops C n L f (listed.setIfInBounds i true)) a
theorem wpAny_of_headQ {n g : Nat} {L : Array Bool → Act → Prop} {Q' : Exit → Act → World → Prop} (hL : ∀ listed a w, C w → L listed a → wpAny P md ops Q' g listed a w) :
    ∀ (f : Nat) (listed : Array Bool) (a : Act) (w : World), C w → wpAnyLQ P md ops C n L f listed a → wpAny P md ops Q' (f + g) listed a w
  | 0, listed, a, w, hw, h => by rw [Nat.zero_add]; exact hL _ _ _ hw h
  | f + 1, listed, a, w, hw, h => by
    rw [show f + 1 + g = (f + g) + 1 by omega]
    exact ⟨fun h0 => absurd h0 h.1, fun i hi => wpOp_of_qOp hw (fun a' w' hw' h' => wpAny_of_headQ hL f _ a' w' hw' h') (h.2 i hi).2⟩
theorem wpAnyLQ_first {n i : Nat} {oi : Oper} {v : Value} {L : Array Bool → Act → Prop} (hi : ops[i]? = some oi) (hsel : ∀ (j : Nat) (o : Oper) cs b, ops[j]? = some o → o.op ≠ .select cs b)
    (hs : Region.sinkB md ops n = true) (hc : Region.chainB md ops n = true) (hn : n < ops.size) (hin : i < n)
    (hdone : ∀ listed a, L listed a → ∀ j ∈ Region.ready md ops listed, n ≤ j) :
    ∀ (f : Nat) (listed : Array Bool) (a : Act), HeadInv md ops n listed →
      (∀ j oj, ops[j]? = some oj → j ≠ i → listed.getD j true = false → (∀ e ∈ oj.after, Region.binds md e = true → e.on ≠ i) → oi.apart ops oj = true) →
      i ∈ Region.ready md ops listed → YieldsIn P ops C oi v a →
      wpAnyLQ P md ops C n L f (listed.setIfInBounds i true) (a.put oi.dst v) → wpAnyLQ P md ops C n L (f + 1) listed a := by
  intro f
  induction f with
  | zero =>
    intro listed a inv _ hr hy H
    have hun := (mem_ready.1 hr).1
    refine ⟨fun h => (by rw [h] at hr; cases hr), fun j hj => ?_⟩
    have hjn : j < n := by
      rcases Nat.lt_or_ge j n with h | h
      · exact h
      · exact absurd hj (tail_waits hs hc hn inv _ i rfl hin hun j h)
    refine ⟨hjn, ?_⟩
    by_cases hji : j = i
    · subst hji; exact hy.qOp hi H
    · have := hdone _ _ H j (ready_mono hj hji)
      omega
  | succ f ih =>
    intro listed a inv hfree hr hy H
    have hun := (mem_ready.1 hr).1
    refine ⟨fun h => (by rw [h] at hr; cases hr), fun j hj => ?_⟩
    have hjn : j < n := by
      rcases Nat.lt_or_ge j n with h | h
      · exact h
      · exact absurd hj (tail_waits hs hc hn inv _ i rfl hin hun j h)
    refine ⟨hjn, ?_⟩
    by_cases hji : j = i
    · subst hji; exact hy.qOp hi H
    · have h1 := (H.2 j (ready_mono hj hji)).2
      obtain ⟨hjun, oj, hoj, hall⟩ := mem_ready.1 hj
      have hnot : ∀ e ∈ oj.after, Region.binds md e = true → e.on ≠ i := fun e he hb heq => by
        have h1 := hall e he hb
        rw [heq, getD_both hun] at h1
        cases h1
      have h2 := qOp_put hoj (hfree j oj hoj hji hjun hnot) (fun cs b => hsel i oi cs b hi) (fun cs b => hsel j oj cs b hoj) hy h1
      have hfree' : ∀ k ok, ops[k]? = some ok → k ≠ i → (listed.setIfInBounds j true).getD k true = false →
          (∀ e ∈ ok.after, Region.binds md e = true → e.on ≠ i) → oi.apart ops ok = true := fun k ok hk hki hun hno => by
        refine hfree k ok hk hki ?_ hno
        by_cases hjk : j = k
        · subst hjk; exact hjun
        · rw [getD_set_ne true hjk] at hun; exact hun
      refine qOp_mono (fun a' h3 => ih (listed.setIfInBounds j true) a' (inv.set hj hjn) hfree' (ready_mono hr (Ne.symm hji)) h3.1 ?_) h2
      rw [Array.setIfInBounds_comm _ _ hji]
      exact h3.2
theorem wpAnyLQ_lex {n g : Nat} {Lq : Act → Prop} (hsel : Region.noSelect ops = true) (hs : Region.sinkB md ops n = true) (hc : Region.chainB md ops n = true) (hn : n < ops.size) :
    ∀ (l : List Oper) (k : Nat) (listed : Array Bool) (a : Act), (∀ j, j < l.length → l[j]? = ops[k + j]?) → k + l.length = n → HeadInv md ops n listed →
    Region.lexHead md ops g l.length k listed = true → wpQuiet P ops C Lq l a →
    wpAnyLQ P md ops C n (fun listed' a' => Region.seqB md ops g n listed' = true ∧ Lq a') l.length listed a
  | [], k, listed, a, _, hk, _, hB, h => by
    have : k = n := by simpa using hk
    subst this
    exact ⟨by simpa [Region.lexHead] using hB, h⟩
  | o :: l, k, listed, a, hl, hk, inv, hB, h => by
    have h0 : ops[k]? = some o := by simpa using (hl 0 (by simp)).symm
    simp only [List.length_cons, Region.lexHead, Bool.and_eq_true] at hB
    obtain ⟨⟨hr, hf⟩, hB'⟩ := hB
    have hkn : k < n := by simp only [List.length_cons] at hk; omega
    have hr' : k ∈ Region.ready md ops listed := by simpa using hr
    have hst : qOp P ops C k (wpQuiet P ops C Lq l) a := by unfold qOp; simp only [h0]; exact h
    obtain ⟨v, hy, hK⟩ := yieldsIn_of_qOp h0 hst
    exact wpAnyLQ_first h0 (Region.noSelect_spec hsel) hs hc hn hkn (fun listed' a' hL => seqB_ready hL.1) l.length listed a inv (Region.free_spec h0 hf) hr' hy
      (wpAnyLQ_lex hsel hs hc hn l (k + 1) _ _ (fun j hj => by have := hl (j + 1) (by simp; omega); simpa [Nat.add_assoc, Nat.add_comm 1 j] using this) (by simp only [List.length_cons] at hk; omega) (inv.set hr' hkn) hB' hK)
theorem wp_region_tail {id : Nat} {Q : Exit → Act → World → Prop} {a : Act} {w : World} {l : List Oper} (n : Nat) (hm : P.follows .mixedOrders = true) (hB : Region.lexTailB .any l.toArray n = true)
    (h : wpQuiet P l.toArray (fun w' => ∃ p : Regrown, w' = grow (redrawn w p.d) p.os) (fun a' => ∀ w', New w w' → wpList P l.toArray Q (l.drop n) a' w') (l.take n) a) : (Code.region id l.toArray true).wp P Q a w := by
  simp only [Region.lexTailB, Bool.and_eq_true, decide_eq_true_eq] at hB
  obtain ⟨⟨⟨⟨hsel, hn⟩, hs⟩, hc⟩, hlex⟩ := hB
  have hn' : n < l.length := by simpa using hn
  have htl : (l.take n).length = n := by rw [List.length_take]; omega
  have hdl : (l.drop n).length = l.toArray.size - n := by simp
  have inv0 : HeadInv .any l.toArray n (Array.replicate l.toArray.size false) :=
    ⟨by simp, fun j oj _ hl => (by rw [getD_replicate_false] at hl; cases hl), fun t _ ht => getD_in (by simpa using ht) (getD_replicate_false _ _)⟩
  have H := wpAnyLQ_lex (md := .any) (g := l.toArray.size - n) hsel hs hc hn (l.take n) 0 _ a (fun j hj => by
    have hj' : j < n := by rw [htl] at hj; exact hj
    simp [hj']) (by simpa using htl) inv0 (by rw [htl]; exact hlex) h
  refine wp_region_any hm ?_
  have := wpAny_of_headQ (Q' := Q) (g := l.toArray.size - n) (C := fun w' => ∃ p : Regrown, w' = grow (redrawn w p.d) p.os) (fun listed a' w' hw' hL => by
    have hN : New w w' := by
      obtain ⟨p, rfl⟩ := hw'
      exact below_regrown w p.d p.os
    have := wpAny_of_seq (md := .any) (Q' := Q) (l.drop n) n listed a' w' (fun j => by simp [List.getElem?_drop]) (by rw [hdl]; exact hL.1) (hL.2 w' hN)
    rwa [hdl] at this) _ _ _ _ ⟨⟨w.drawn + 1, #[]⟩, by rw [grow_empty] <;> rfl⟩ H
  rw [htl, show n + (l.toArray.size - n) = l.toArray.size by omega] at this
  exact this
end
end Go.Proofs.Ytfhinmjpokollaa
/- The law's Is: a table that has what the reference's has. No condition but that both can be read. -/
namespace Go.Proofs.Ytfhinmjpokollaa
set_option linter.unusedVariables false
set_option linter.unusedSimpArgs false
set_option linter.constructorNameAsVariable false
open Go.RowKit Go.Maps Go.Sort
attribute [local go_sem] Oper.semAt_some

/-- What Is's rounds leave. -/
def IsI (b5 : Nat) (w2 : World) (s : List (List Int × Fm)) (W : World) : Prop := Fr (fun j => b5 ≤ j) w2 W ∧ Blk W b5 3 #[.int .i64 s.length]
theorem IsI.new {b5 : Nat} {w2 : World} {s : List (List Int × Fm)} {W W' : World} (h : IsI b5 w2 s W) (hN : New W W') : IsI b5 w2 s W' := ⟨h.1.trans (hN.toFr _), hN.blk h.2⟩
theorem IsI.puts {b5 B : Nat} {w2 : World} {s : List (List Int × Fm)} {W W' : World} (h : IsI b5 w2 s W) (hz : b5 ≤ B) (hp : Puts B W W') : IsI b5 w2 s W' := ⟨h.1.trans (hp.fr (fun j hj => Nat.le_trans hz hj)), hp.blk h.2⟩
theorem cl_at {L : List Ch} {E : Tab} (h : cl L = sct (cont E)) {k : Nat} {e : List Int × Fm} (he : (st E)[k]? = some e) : ∃ hk : k < L.length, L[k].k.xs = e.1 ∧ L[k].v.xs = e.2.xs := by
  have h2 : (cont (st E))[k]? = some (e.1, e.2.xs) := by
    unfold cont
    rw [List.getElem?_map, he]
    rfl
  rw [cont_st, ← h] at h2
  unfold cl at h2
  rw [List.getElem?_map] at h2
  obtain ⟨c, hc, hce⟩ := Option.map_eq_some_iff.1 h2
  obtain ⟨hk, hck⟩ := List.getElem?_eq_some_iff.1 hc
  injection hce with h3 h4
  exact ⟨hk, by rw [hck, h3], by rw [hck, h4]⟩
set_option maxHeartbeats 4000000 in
set_option maxRecDepth 100000 in
theorem is_any {X : Nat → Prop} {w : World} {base g b m : Nat} {E : Tab} (h : TbIn X w base g b m E) (hm : m ≤ 1000000) (hE : E.length ≤ 1000000) (A : Option Addr) (n c : Nat) (L : List Ch) (hL : RTb w A n L) (hl : ∀ c ∈ L, c.k.n ≤ 16 ∧ c.v.n ≤ 16384) (hc : cl L = sct (cont E)) :
    Calls Try.prog 22 #[.pointer (some ⟨g, 0, none⟩), .slice A n c] w fun e w' => e = .returned (.bool true) ∧ New w w' := by
  have H := Lib.hid h
  have HL := Lib.hid hL
  have HS := Lib.hid hl
  have HC := Lib.hid hc
  have hn : n = E.length := by
    have := congrArg List.length hc
    unfold cl at this
    rw [List.length_map, (sct_perm _).length_eq, cont_len] at this
    rw [← hL.len, this]
  have HN := Lib.hid hn
  have hX : ∀ j, X j → j < w.heap.size := fun j hj => by
    obtain ⟨_, cs, fz, hx⟩ := h.xs j hj
    exact (Array.getElem?_eq_some_iff.1 hx).1
  have HX := Lib.hid hX
  have hn1 : n ≤ 1000000 := by omega
  clear h hL hl hc hX hn
  refine (callsIn_wide (n := 3)).1 ?_
  refine callsIn_of_wp_marks Try.func22 rfl trivial ?_ rfl
  refine wpIn_wide.2 ?_
  simp only [Try.ntmps22, List.size_toArray, List.length_cons, List.length_nil, Nat.reduceAdd, Nat.reduceSub, Array.replicate_succ, Array.replicate_zero, List.push_toArray, List.append_toArray, List.nil_append, List.cons_append]
  go_upto_region 2 with fail
  obtain ⟨w1, hw1⟩ : ∃ w1 : World, w1 = ((w.alloc (.cells #[.slice A n c] 27)).alloc (.cells #[.bool false] 4)).alloc (.cells #[.int .i64 0] 3) := ⟨_, rfl⟩
  obtain ⟨b3, hb3⟩ : ∃ b3, b3 = w.heap.size := ⟨_, rfl⟩
  obtain ⟨b4, hb4⟩ : ∃ b4, b4 = w.heap.size + 1 := ⟨_, rfl⟩
  obtain ⟨b5, hb5⟩ : ∃ b5, b5 = w.heap.size + 1 + 1 := ⟨_, rfl⟩
  have HN1 : Hid (New w w1) := Lib.hid (by rw [hw1]; exact New.al (New.al (New.al (New.refl _) _) _) _)
  have HB3 : Hid (Blk w1 b3 27 #[.slice A n c]) := Lib.hid (by rw [hw1, hb3]; exact ((Blk.new _ _ _).alloc _).alloc _)
  have HB4 : Hid (Blk w1 b4 4 #[.bool false]) := Lib.hid (by rw [hw1, hb4]; exact (Blk.new' _ _ _ (by simp)).alloc _)
  have HB5 : Hid (Blk w1 b5 3 #[.int .i64 0]) := Lib.hid (by rw [hw1, hb5]; exact Blk.new' _ _ _ (by simp))
  have HZ : Hid (b3 = w.heap.size ∧ b4 = w.heap.size + 1 ∧ b5 = w.heap.size + 2) := Lib.hid ⟨hb3, hb4, by omega⟩
  rw [← hw1, ← hb5, ← hb4, ← hb3]
  clear hw1 hb3 hb4 hb5
  go_wp2_with fail
  refine (all_any (some ⟨g, 0, none⟩) w1).mono ?_
  rintro e w2 ⟨rfl, hw2⟩
  have HN2 : Hid (New w1 w2) := Lib.hid (by rw [hw2]; exact New.al (New.refl _) _)
  have hg := H.out.blk.lt
  have hb := H.out.blt
  have h1z := HB5.out.lt
  have hz3 := HZ.out
  have HS1 := Lib.hid (all1_live (H.out.new (HN1.out.tr HN2.out)) hm hE (fun j => j = b5) w1.heap.size (by rw [hw2]; exact Blk.new w1 _ _) (fun j hj => by
    subst hj
    have := HN2.out.size
    exact ⟨by omega, by omega, by omega, fun hx => by have := HX.out _ hx; omega, by omega⟩))
  have HB52 : Hid (Blk w2 b5 3 #[.int .i64 0]) := Lib.hid (HN2.out.blk HB5.out)
  have HZB : Hid (b5 < w2.heap.size) := Lib.hid (HB52.out.lt)
  clear hw2 hg hb h1z hz3
  go_wp2_with fail
  refine wp_rangeR rfl (enters_of Try.func44 (by kernel_rfl) rfl) (fun x : List Int × Fm => #[.string (strOfNums x.1), x.2.val]) (fun _ => rfl) HS1.out (fun x W W' hg hp => hg.puts hp) (fun h k => h.tr k) (fun W W' hp => Kk.puts hp)
    (IsI b5 w2) (fun s A B h hN => h.new hN) (fun s A B h hp => h.puts (Nat.le_of_lt HZB.out) hp) ⟨Fr.refl _ _, HB52.out⟩ ?a1 ?assign ?body ?done
  case assign =>
    intro l x W K hK
    gi_wp2
    exact hK
  case body =>
    rintro l pre x W hpl ⟨hF, hB⟩ hG ⟨e0, he0, hx1, hx2, hx3⟩
    obtain ⟨hkL, hck, hcv⟩ := cl_at HC.out he0
    rw [← hx1] at hck
    rw [← hx2] at hcv
    have HNW : Hid (New w W) := Lib.hid ((HN1.out.tr HN2.out).fr hF (fun k hk => by have := HZ.out; omega))
    have hB3W : Blk W b3 27 #[.slice A n c] := (HN2.out.blk HB3.out).fr hF (by have := HZ.out; omega)
    have c5 : W.cell? ⟨b5, 0, none⟩ = some (.int .i64 (pre.length : Nat)) := hB.cell 0
    have f5 : W.frozen? ⟨b5, 0, none⟩ = false := hB.frozen 0
    have c3 : W.cell? ⟨b3, 0, none⟩ = some (.slice A n c) := hB3W.cell 0
    have hTB := HL.out.new HNW.out
    have hkn : pre.length < n := by rw [← HL.out.len]; exact hkL
    obtain ⟨gA, oA, hl, hA, -, -, hrg⟩ := rd_row (f := Ch.cells) (L := L) (fun _ => rfl) (by omega) hTB.rd hkn
    have v0 : W.cell? ⟨gA, oA + pre.length * 3, none⟩ = some (.slice L[pre.length].k.A L[pre.length].k.n L[pre.length].k.c) := hrg 0 _ rfl
    have v1 : W.cell? ⟨gA, oA + pre.length * 3 + 1, none⟩ = some (.slice L[pre.length].v.A L[pre.length].v.n L[pre.length].v.c) := hrg 1 _ rfl
    have hin := hTB.el L[pre.length] (List.getElem_mem _)
    generalize L[pre.length] = y at hck hcv v0 v1 hin
    obtain ⟨⟨kA, kn, kc, ks⟩, ⟨vA, vn, vc, vs⟩, dd⟩ := y
    dsimp only at hck hcv v0 v1
    subst hck hcv
    obtain ⟨k, hk⟩ : ∃ k, k = pre.length := ⟨_, rfl⟩
    rw [← hk] at c5 v0 v1 hkn
    have HB := Lib.hid hB
    have HF := Lib.hid hF
    have HK := Lib.hid hk
    have hcvt := run_conv (c := kc) hin.k.rd
    dsimp only at hcvt
    obtain ⟨xk, xA, xn, xc, xs⟩ := x
    dsimp only at hcvt hG hin v0 v1
    have hbt := bytes_any xA vA xn vn xc vc xs xs W (Rd.own hG.1 rfl) hin.v.rd hG.2.1 hG.2.1
    have hts : decide (xs = xs) = true := by simp
    rw [hts] at hbt
    have HBT := Lib.hid hbt
    simp only [Fm.val]
    generalize strOfNums xk = sk at hcvt ⊢
    have hk0 : (0 : Int) ≤ (k : Int) := by omega
    have hkn2 : (k : Int) < (n : Int) := by omega
    have hdc : decide ((n : Int) ≤ (k : Int)) = false := decide_eq_false (by omega)
    have hdn : decide (n ≤ k) = false := decide_eq_false (by omega)
    clear hbt hB hF hG hx1 hx2 hx3 he0 hk hin hrg hTB hl hB3W hts hkL hpl
    subst hA
    gi_wp2
    refine ⟨trivial, ?_⟩
    refine (CallsIn.inRound l (callsIn_wide.2 HBT.out)).mono ?_
    rintro e W4 ⟨rfl, rfl⟩
    gi_wp2
    have hFW : Fr (fun j => j = b5) W (W.setCell ⟨b5, 0, none⟩ (.int .i64 (k + 1))) := (Fr.refl (fun j => j = b5) W).setCell (p := ⟨b5, 0, none⟩) (fun _ => rfl) _
    refine ⟨Kept.fr hFW (fun k o hB hs => by have := HZB.out; omega), Kk.fr hFW, HF.out.trans (hFW.mono (fun k _ hs => by omega)), ?_⟩
    have hs := HB.out.set 0 (.int .i64 (k + 1))
    rw [List.length_append, List.length_singleton, ← HK.out]
    simpa using hs
  case done =>
    rintro D fs W hD hfs ⟨hF, hB⟩ hDm
    have HNW : Hid (New w W) := Lib.hid ((HN1.out.tr HN2.out).fr hF (fun k hk => by have := HZ.out; omega))
    have HDM := Lib.hid hDm
    have hlen : fs.length = n := by
      have := congrArg List.length hfs
      rw [List.length_map, cont_len, st_len] at this
      rw [this, HN.out]
    rw [hlen] at hB
    have hB3W : Blk W b3 27 #[.slice A n c] := (HN2.out.blk HB3.out).fr hF (by have := HZ.out; omega)
    have HB4W : Hid (Blk W b4 4 #[.bool false]) := Lib.hid ((HN2.out.blk HB4.out).fr hF (by have := HZ.out; omega))
    have k5 := cell_regrown (show W.cell? ⟨b5, 0, none⟩ = some (.int .i64 (n : Nat)) from hB.cell 0)
    have k3 := cell_regrown (show W.cell? ⟨b3, 0, none⟩ = some (.slice A n c) from hB3W.cell 0)
    obtain ⟨z, hz⟩ : ∃ z, z = csize (cont E) := ⟨_, rfl⟩
    have cA := calls_regrown (w := W) (v := .int .i64 n) (f := 28) (args := #[.pointer (some ⟨g, 0, none⟩)]) (fun W' hN => (len_any (H.out.new (HNW.out.tr hN)) hm hE).mono fun e w h => ⟨by rw [HN.out]; exact h.1, h.2⟩)
    have cB := calls_regrown (w := W) (v := .int .i64 z) (f := 29) (args := #[.pointer (some ⟨g, 0, none⟩)]) (fun W' hN => (size_any (H.out.new (HNW.out.tr hN)) hm hE).mono fun e w h => ⟨by rw [hz]; exact h.1, h.2⟩)
    have cC := calls_regrown (w := W) (v := .int .i64 z) (f := 40) (args := #[.slice A n c]) (fun W' hN => (rsize_any A n c L W' (HL.out.new (HNW.out.tr hN)).rd HL.out.len (by omega) HS.out).mono fun e w h => ⟨by rw [hz, ← rsz_csize HC.out (fun c hc => ⟨(HL.out.el c hc).k.len, (HL.out.el c hc).v.len⟩)]; exact h.1, h.2⟩)
    have hF2 := Lib.hid hF
    clear hF hB hB3W hfs hlen hz hDm
    dsimp only
    go_wp2_with fail
    refine wp_region_tail 17 (by kernel_rfl) (by kernel_rfl) ?_
    simp only [List.take_succ_cons, List.take_zero, List.drop_succ_cons, List.drop_zero]
    repeat (quiet_step (first | exact cA _ _ | exact cB _ _ | exact cC _ _))
    refine wpQuiet_nil ?_
    intro Wq hNq
    have HNq : Hid (New W Wq) := Lib.hid hNq
    have c4 : Wq.cell? ⟨b4, 0, none⟩ = some (.bool false) := (hNq.blk HB4W.out).cell 0
    have f4 : Wq.frozen? ⟨b4, 0, none⟩ = false := (hNq.blk HB4W.out).frozen 0
    clear k5 k3 cA cB cC hNq
    go_wp2_with fail
    have hF : Fr (fun j => j = b4) Wq (Wq.setCell ⟨b4, 0, none⟩ (.bool true)) := (Fr.refl (fun j => j = b4) Wq).setCell (p := ⟨b4, 0, none⟩) (fun _ => rfl) _
    have hB : Blk (Wq.setCell ⟨b4, 0, none⟩ (.bool true)) b4 4 #[.bool true] := (HNq.out.blk HB4W.out).set 0 _
    refine leaves_marks [D] _ (((Marks.cons (Marks.nil w2.heap.size W) (fun _ h => by cases h) hD HDM.out).new HNq.out).fr hF (fun D hD => ?_)) (fun W' hS => ⟨.bool true, ?_, rfl, ?_⟩)
    · subst hD
      exact not_def_blk (HNq.out.blk HB4W.out)
    · have hc : W'.cell? ⟨b4, 0, none⟩ = some (.bool true) := by
        have h1 : W'.heap[b4]? = _ := hS.cells b4 _ hB rfl
        exact (show Blk W' b4 4 #[.bool true] from h1).cell 0
      simp [results, Try.results22, go_sem, hc]
    · have hz : w.heap.size ≤ w2.heap.size := (HN1.out.tr HN2.out).size
      exact (New.fr (HNW.out.tr HNq.out) hF (fun k hk => by have := HZ.out; omega)).trans (hS.below.mono hz)
end Go.Proofs.Ytfhinmjpokollaa
/- The statements' fixed fact. No condition. -/
namespace Go.Proofs.Ytfhinmjpokollaa
set_option linter.unusedVariables false
set_option linter.unusedSimpArgs false
set_option linter.constructorNameAsVariable false
open Go.RowKit Go.Maps Go.Sort

/-- A literal's bytes. -/
theorem lit_rd {P : Nat → Prop} {w W : World} {x : Int} (hN : New (w.alloc (.cells #[.int .u8 x] 5 (1, 2))) W) (hP : P w.heap.size) : Rd P W 1 (some ⟨w.heap.size, 0, none⟩) 1 (u8s [x]) := by
  have hb : (w.alloc (.cells #[.int .u8 x] 5 (1, 2))).heap[w.heap.size]? = some (.cells #[.int .u8 x] 5 (1, 2)) := by
    show (w.heap.push _)[w.heap.size]? = _
    simp
  have hW : W.heap[w.heap.size]? = some (.cells #[.int .u8 x] 5 (1, 2)) := (hN.block _ (by simp)).trans hb
  refine ⟨rfl, fun _ => ⟨_, rfl, hP, (Array.getElem?_eq_some_iff.1 hW).1, fun j u hu => ?_⟩⟩
  have : j = 0 := by
    have := (List.getElem?_eq_some_iff.1 hu).1
    simp [u8s] at this
    omega
  subst this
  simp [u8s] at hu
  subst hu
  simp [World.cell?, Addr.add, hW]
set_option maxHeartbeats 8000000 in
set_option maxRecDepth 100000 in
theorem alive_any (w : World) : Calls Try.prog 8 #[] w fun e w' => e = .returned (.bool true) ∧ New w w' := by
  have kc := fun (w : World) (C : Array Value) (n c : Nat) => Lib.run_convert_bytes_const (P := Try.prog) w 39 5 C n c Try.underlying39 Try.underlying5
  go_enter Try.func8, Try.ntmps8
  go_wp2_with fail
  refine (new_any w.heap.size w (Nat.le_refl _)).mono ?_
  rintro e w1 ⟨g, b, rfl, hT, hN1, hg, hb⟩
  have HT := Lib.hid hT
  have HN1 := Lib.hid hN1
  have HG := Lib.hid hg
  have HB := Lib.hid hb
  clear hT hN1 hg hb
  have kc2 : ∀ (w : World) (o : Obj) (C : Array Value) (n c : Nat), (convert 39 39 (.slice (some ⟨w.heap.size + 1, 0, none⟩) n c)).run Try.prog ((w.alloc o).alloc (.cells C 5)) = .ok (.slice (some ⟨w.heap.size + 1, 0, none⟩) n c) ((w.alloc o).alloc (.cells C 5 (C.size, C.size + 1))) := fun w o C n c => by
    have := kc (w.alloc o) C n c
    simpa using this
  go_wp2_with fail
  obtain ⟨w2, hw2⟩ : ∃ w2 : World, w2 = ((w1.alloc (.cells #[.int .u8 97] 5 (1, 2))).alloc (.cells #[.int .u8 49] 5 (1, 2))).alloc (.cells #[.slice (some ⟨w1.heap.size, 0, none⟩) 1 1, .slice (some ⟨w1.heap.size + 1, 0, none⟩) 1 1, .bool false] 41) := ⟨_, rfl⟩
  have HB1 : Hid (b < w1.heap.size) := Lib.hid HT.out.blt
  have HN12 : Hid (New w1 w2) := Lib.hid (by rw [hw2]; exact New.al (New.al (New.al (New.refl w1) _) _) _)
  have HA2 : Hid (Rd (fun k => k ≠ b) w2 1 (some ⟨w1.heap.size, 0, none⟩) 1 (u8s [97])) := Lib.hid (lit_rd (by rw [hw2]; exact New.al (New.al (New.refl _) _) _) (by have := HB1.out; omega))
  have HB2 : Hid (Rd (fun k => k ≠ b) w2 1 (some ⟨w1.heap.size + 1, 0, none⟩) 1 (u8s [49])) := Lib.hid (by
    have := lit_rd (P := fun k => k ≠ b) (x := 49) (w := w1.alloc (.cells #[.int .u8 97] 5 (1, 2))) (W := w2) (by rw [hw2]; exact New.al (New.refl _) _) (by have := HB1.out; simp; omega)
    simpa using this)
  have HC2 : Hid (Rd (fun k => k ≠ b) w2 3 (some ⟨w1.heap.size + 1 + 1, 0, none⟩) 1 [.slice (some ⟨w1.heap.size, 0, none⟩) 1 1, .slice (some ⟨w1.heap.size + 1, 0, none⟩) 1 1, .bool false]) := Lib.hid (by
    have h1 : Blk w2 (w1.heap.size + 1 + 1) 41 #[.slice (some ⟨w1.heap.size, 0, none⟩) 1 1, .slice (some ⟨w1.heap.size + 1, 0, none⟩) 1 1, .bool false] := by rw [hw2]; exact Blk.new' _ _ _ (by simp)
    exact Rd.ofBlk h1 3 1 rfl (by have := HB1.out; omega))
  rw [← hw2]
  clear hw2
  refine (apply_any (HT.out.new HN12.out) (some ⟨w1.heap.size + 1 + 1, 0, none⟩) 1 1 [⟨⟨some ⟨w1.heap.size, 0, none⟩, 1, 1, [97]⟩, ⟨some ⟨w1.heap.size + 1, 0, none⟩, 1, 1, [49]⟩, false⟩] HC2.out rfl (fun c hc => by
    rw [List.mem_singleton] at hc
    subst hc
    exact ⟨⟨HA2.out, fun x hx => by simp at hx; omega⟩, ⟨HB2.out, fun x hx => by simp at hx; omega⟩⟩) (fun k hk => hk) (by simp [chsOk, chOk]) (by omega)).mono ?_
  rintro e w3 ⟨rfl, X3, E3, hT3, hc3, hF3, -⟩
  have HL3 : Hid (E3.length = 1) := Lib.hid (by rw [← cont_len, hc3]; rfl)
  have HC3 : Hid (cont E3 = [([97], [49])]) := Lib.hid (by rw [hc3]; rfl)
  have HT3 := Lib.hid hT3
  have HN3 : Hid (New w w3) := Lib.hid ((HN1.out.tr HN12.out).fr hF3 (fun k hk => by have := HB.out; omega))
  have HA3 : Hid (Rd (fun k => k ≠ b) w3 1 (some ⟨w1.heap.size, 0, none⟩) 1 (u8s [97])) := Lib.hid (HA2.out.fr hF3 (fun k hk => hk))
  have HZ3 : Hid (b < w3.heap.size) := Lib.hid hT3.blt
  clear hT3 hc3 hF3 HA2 HB2 HC2 HN12 HN1
  go_wp2_with fail
  refine (len_any HT3.out (by omega) (by rw [HL3.out]; omega)).mono ?_
  rintro e w4 ⟨rfl, hN4⟩
  rw [HL3.out]
  have HT4 := Lib.hid (HT3.out.new hN4)
  have HA4 := Lib.hid (hN4.rd HA3.out)
  have HN4 : Hid (New w w4) := Lib.hid (HN3.out.tr hN4)
  clear hN4 HT3 HA3 HN3
  go_wp2_with fail
  obtain ⟨w5, hw5⟩ : ∃ w5 : World, w5 = w4.alloc (.cells #[.slice (some ⟨w1.heap.size, 0, none⟩) 1 1, .slice none 0 0, .bool true] 41) := ⟨_, rfl⟩
  have HN45 : Hid (New w4 w5) := Lib.hid (by rw [hw5]; exact New.al (New.refl w4) _)
  have HC5 : Hid (Rd (fun k => k ≠ b) w5 3 (some ⟨w4.heap.size, 0, none⟩) 1 [.slice (some ⟨w1.heap.size, 0, none⟩) 1 1, .slice none 0 0, .bool true]) := Lib.hid (by
    have h1 : Blk w5 w4.heap.size 41 #[.slice (some ⟨w1.heap.size, 0, none⟩) 1 1, .slice none 0 0, .bool true] := by rw [hw5]; exact Blk.new _ _ _
    exact Rd.ofBlk h1 3 1 rfl (by have := HT4.out.blt; omega))
  rw [← hw5]
  clear hw5
  refine (apply_any (HT4.out.new HN45.out) (some ⟨w4.heap.size, 0, none⟩) 1 1 [⟨⟨some ⟨w1.heap.size, 0, none⟩, 1, 1, [97]⟩, ⟨none, 0, 0, []⟩, true⟩] HC5.out rfl (fun c hc => by
    rw [List.mem_singleton] at hc
    subst hc
    exact ⟨⟨HN45.out.rd HA4.out, fun x hx => by simp at hx; omega⟩, ⟨⟨rfl, fun h => absurd h (by simp)⟩, fun x hx => by cases hx⟩⟩) (fun k hk => hk) (by simp [chsOk, chOk]) (by omega)).mono ?_
  rintro e w6 ⟨rfl, X6, E6, hT6, hc6, hF6, -⟩
  have HL6 : Hid (E6.length = 0) := Lib.hid (by rw [← cont_len, hc6, HC3.out]; rfl)
  have HT6 := Lib.hid hT6
  have HN6 : Hid (New w w6) := Lib.hid ((HN4.out.tr HN45.out).fr hF6 (fun k hk => by have := HB.out; omega))
  clear hT6 hc6 hF6 HT4 HA4 HC5 HN45 HN4
  go_wp2_with fail
  refine (len_any HT6.out (by omega) (by rw [HL6.out]; omega)).mono ?_
  rintro e w7 ⟨rfl, hN7⟩
  rw [HL6.out]
  have HN7 := Lib.hid (HN6.out.tr hN7)
  clear hN7 HT6 HN6
  go_wp2_with fail
  go_ret
  exact ⟨rfl, HN7.out⟩
end Go.Proofs.Ytfhinmjpokollaa
/- KvPlays, as its statement's row wants it. No condition but the bound on what is read. -/
namespace Go.Proofs.Ytfhinmjpokollaa
set_option linter.unusedVariables false
set_option linter.unusedSimpArgs false
set_option linter.constructorNameAsVariable false
open Go.RowKit Go.Maps Go.Sort

theorem rd_not_map {q : Nat → Prop} {w : World} {s n : Nat} {A : Option Addr} {xs : List Value} {P : Program} {kt : TypeId} {b m : Nat} {f : Lit → Option Value} (h : Rd q w s A n xs) (hM : MapAt w P kt b m f) (hs : 0 < s) : Rd (fun k => q k ∧ k ≠ b) w s A n xs := by
  refine ⟨h.1, fun hn => ?_⟩
  obtain ⟨ad, e, hp, hb, hc⟩ := h.2 hn
  refine ⟨ad, e, ⟨hp, fun hab => ?_⟩, hb, hc⟩
  have hl : 0 < xs.length := by rw [h.1]; exact Nat.mul_pos hn hs
  have h0 := hc 0 _ (List.getElem?_eq_getElem hl)
  obtain ⟨D, ⟨es, clock, hx, _⟩, _⟩ := hM
  have hx' : w.heap[(ad.add 0).block]? = some (.map es clock) := by rw [add_block, hab]; exact hx
  simp [World.cell?, hx'] at h0
theorem RTb.frb {w w' : World} {A : Option Addr} {n : Nat} {L : List Ch} {P : Program} {kt : TypeId} {b m : Nat} {f : Lit → Option Value} (h : RTb w A n L) (hM : MapAt w P kt b m f) (hF : Fr (fun k => k = b) w w') : RTb w' A n L := by
  have hr : ∀ {s n : Nat} {A : Option Addr} {xs : List Value}, 0 < s → Rd (fun k => k < w.heap.size) w s A n xs → Rd (fun k => k < w'.heap.size) w' s A n xs := fun hs h =>
    rd_szs ((rd_not_map h hM hs).fr hF (fun k hk he => hk.2 he))
  exact ⟨hr (by decide) h.rd, h.len, fun c hc => ⟨⟨hr (by decide) (h.el c hc).k.rd, (h.el c hc).k.byt⟩, ⟨hr (by decide) (h.el c hc).v.rd, (h.el c hc).v.byt⟩⟩⟩
theorem TbIn.mapAt {X : Nat → Prop} {w : World} {base g b m : Nat} {E : Tab} (h : TbIn X w base g b m E) : ∃ f, MapAt w Try.prog 9 b m f := by
  obtain ⟨f, hm, _⟩ := h.map
  exact ⟨f, hm⟩
/-- What both find. -/
theorem both_find {w : World} {A : Option Addr} {n : Nat} {T : List Ch} {E : Tab} {k : List Int} (hT : RTb w A n T) (hc : cl T = sct (cont E)) (hK : Kn (cont E)) :
    ∃ (B : Option Addr) (m d : Nat), oval (rfind T k) = .slice B m d ∧ (rfind T k).isSome = (E.lookup k).isSome ∧ Rd (fun b => b < w.heap.size) w 1 B m (u8s (tval E k).xs) ∧ Byt (tval E k).xs := by
  have h := find_same hc hK k
  cases hr : rfind T k with
  | none =>
    rw [hr] at h
    cases hl : E.lookup k with
    | some v => rw [hl] at h; cases h
    | none =>
      unfold tval
      rw [hl]
      exact ⟨none, 0, 0, rfl, rfl, Rd.nil, fun x hx => by cases hx⟩
  | some v =>
    rw [hr] at h
    cases hl : E.lookup k with
    | none => rw [hl] at h; cases h
    | some u =>
      rw [hl] at h
      injection h with h
      unfold tval
      rw [hl]
      unfold rfind at hr
      obtain ⟨c, hc, hcv⟩ := Option.map_eq_some_iff.1 hr
      have hm := hT.el c (List.mem_of_find?_eq_some hc)
      subst hcv
      refine ⟨c.v.A, c.v.n, c.v.c, rfl, rfl, ?_, ?_⟩
      · show Rd _ w 1 c.v.A c.v.n (u8s u.xs)
        rw [← h]
        exact hm.v.rd
      · show Byt u.xs
        rw [← h]
        exact hm.v.byt
theorem kn_tb {X : Nat → Prop} {w : World} {base g b m : Nat} {E : Tab} (h : TbIn X w base g b m E) : Kn (cont E) := kn_cont h.nd (fun e he => (h.el e he).1)
/-- What stands behind some batches. -/
structure PlI (w : World) (g b j : Nat) (A : Option Addr) (n : Nat) (wr : World) : Prop where
  new : New w wr
  gb : w.heap.size ≤ g ∧ w.heap.size ≤ b
  st : ∃ (X : Nat → Prop) (mm : Nat) (E : Tab) (T : List Ch), TbIn X wr w.heap.size g b mm E ∧ RTb wr A n T ∧ (∀ c ∈ T, c.k.n ≤ 16 ∧ c.v.n ≤ 16384) ∧ cl T = sct (cont E) ∧ mm ≤ 600 * j ∧ E.length ≤ 600 * j
theorem doCs_le (T : CT) (L : List Ch) : (doCs T L).length ≤ T.length + L.length := by
  unfold doCs
  induction L generalizing T with
  | nil => simp
  | cons c L ih =>
    rw [List.foldl_cons, List.length_cons]
    have := ih (doC T c)
    have := doC_le T c
    omega
theorem rdo_mem (C : List Ch) (L : List Ch) : ∀ x ∈ rdo L C, x ∈ L ∨ x ∈ C := by
  unfold rdo
  induction C generalizing L with
  | nil => intro x hx; exact .inl hx
  | cons c C ih =>
    intro x hx
    rw [List.foldl_cons] at hx
    rcases ih _ x hx with h | h
    · rcases rapp_mem geS c L x h with h | h
      · exact .inl h
      · exact .inr (by rw [h]; exact List.mem_cons_self ..)
    · exact .inr (List.mem_cons_of_mem _ h)
set_option maxHeartbeats 8000000 in
set_option maxRecDepth 100000 in
theorem plays_law {v : Value} {w : World} (h : ∃ (A : Option Addr) (n c : Nat) (L : List Sl), v = .slice A n c ∧ n ≤ maxLen ∧ L.length = n ∧ Rd (fun b => b < w.heap.size) w 1 A n (L.flatMap Sl.cells) ∧ ∀ a ∈ L, a.Good w) :
    Calls Try.prog 3 #[v] w fun e w' => e = .returned (.bool true) ∧ Below w.heap.size w w' := by
  obtain ⟨A, n, c, L, rfl, hn, hL, hR, hG⟩ := h
  have HL := Lib.hid hL
  have HR := Lib.hid hR
  have HG := Lib.hid hG
  unfold maxLen at hn
  clear hL hR hG
  go_enter Try.func3, Try.ntmps3
  go_wp2_with fail
  refine (alive_any w).mono ?_
  rintro e w0 ⟨rfl, hN0⟩
  have HN0 := Lib.hid hN0
  clear hN0
  by_cases h20 : 20 < n
  · go_wp2_with fail
    go_ret
    exact ⟨rfl, HN0.out⟩
  go_wp2_with fail
  refine (new_any w.heap.size w0 HN0.out.size).mono ?_
  rintro e w1 ⟨g, b, rfl, hT1, hN1, hg1, hb1⟩
  have HP : Hid (PlI w g b 0 none 0 w1) := Lib.hid ⟨HN0.out.tr hN1, ⟨Nat.le_trans HN0.out.size hg1, Nat.le_trans HN0.out.size hb1⟩, ⟨_, _, _, _, hT1, RTb.nil _, (fun c h => nomatch h), by simp [cl, sct, cont], Nat.zero_le _, Nat.zero_le _⟩⟩
  clear hT1 hN1 hg1 hb1 HN0
  go_wp2_with fail
  go_loopw [4, 24] (fun s i wr => ∃ (j n' : Nat) (A' : Option Addr) (c' : Nat), j ≤ n ∧ i = .int .i64 j ∧ s = .slice A' n' c' ∧ Hid (PlI w g b j A' n' wr)) (fun s i _ => n - (intOf i).toNat)
  case atStart => exact ⟨0, 0, none, 0, Nat.zero_le _, rfl, rfl, HP⟩
  case round =>
    obtain ⟨j, n', A', c', hj, rfl, rfl, HI⟩ := hrel
    clear HP
    obtain ⟨X, mm, E, T, hTB, hRT, hsm, hct, hmm, hE⟩ := HI.out.st
    have HTB := Lib.hid hTB
    have HRT := Lib.hid hRT
    have HSM := Lib.hid hsm
    have HCT := Lib.hid hct
    clear hTB hRT hsm hct
    by_cases hlt : j < n
    · obtain ⟨gA, o, hl, rfl, -, -, hrg⟩ := rd_row (size := 1) (f := Sl.cells) (L := L) (fun _ => rfl) (by omega) (HI.out.new.rd HR.out) hlt
      rw [Nat.mul_one] at hrg
      have c0 : wr.cell? ⟨gA, o + j, none⟩ = some (.slice L[j].A L[j].n L[j].c) := hrg 0 _ rfl
      have hgood := HG.out L[j] (List.getElem_mem _)
      generalize L[j] = x at c0 hgood
      obtain ⟨xA, xn, xc, xL⟩ := x
      dsimp only at c0
      have HGD := Lib.hid hgood
      have HGW := Lib.hid (hgood.new HI.out.new)
      have hj0 : (0 : Int) ≤ (j : Int) := by omega
      have hjn : (j : Int) < (n : Int) := by omega
      have hxm : xn ≤ 9223372036854775807 := by have := hgood.nn; unfold maxLen at this; exact this
      clear hrg hgood hl
      go_wp2_with fail
      refine (long_any xA xn xc xL wr HGW.out.tb HGD.out.nn (fun c hc => ⟨(HGD.out.gd c hc).kn, (HGD.out.gd c hc).vn⟩)).mono ?_
      rintro e w2 ⟨⟨bl, rfl, hbl⟩, hN2⟩
      have HN2 := Lib.hid hN2
      have HBL := Lib.hid hbl
      clear hN2 hbl
      cases bl
      rotate_left
      · go_wp2_with fail
        go_ret
        exact ⟨rfl, HI.out.new.tr HN2.out⟩
      by_cases h4 : 40 < xn ∧ xn ≤ 600
      · obtain ⟨h4, h6⟩ := h4
        have hd4 : decide ((40 : Int) < (xn : Int)) = true := decide_eq_true (by omega)
        have hd6 : decide ((xn : Int) ≤ 600) = true := decide_eq_true (by omega)
        go_wp2_with fail
        go_ret
        exact ⟨rfl, HI.out.new.tr HN2.out⟩
      have hbs := HBL.out rfl
      have hx7 : xn ≤ 700 := by have := hbs.1; rw [HGD.out.tb.len] at this; exact this
      have HSZ : Hid (∀ c ∈ xL, c.k.n ≤ 20000 ∧ c.v.n ≤ 20000) := Lib.hid (fun c hc => by have := chSum_mem hc; have := hbs.2; omega)
      clear hbs HBL
      have hgo : (40 < xn → ¬ xn ≤ 600) := fun h1 h2 => h4 ⟨h1, h2⟩
      clear h4
      have hxl : xL.length = xn := HGD.out.tb.len
      by_cases hok : chsOk xL = true
      · have hsp := chsOk_spec hok
        have h40 : xn ≤ 40 := by rw [hxl] at hsp; omega
        have HSP := Lib.hid hsp
        have HOK := Lib.hid hok
        have HXL := Lib.hid hxl
        clear hgo hsp hok hxl
        have hd4 : decide ((40 : Int) < (xn : Int)) = false := decide_eq_false (by omega)
        go_wp2_with fail
        refine (copy_any (HTB.out.new HN2.out) (Nat.le_trans HI.out.new.size HN2.out.size)).mono ?_
        rintro e w3 ⟨g3, b3, rfl, hT3, hN3, hg3, hb3⟩
        have HN3 : Hid (New wr w3) := Lib.hid (HN2.out.tr hN3)
        clear hT3 hN3 hg3 hb3
        go_wp2_with fail
        refine (apply_any (P := fun k => k < w.heap.size) (HTB.out.new HN3.out) xA xn xc xL ((HI.out.new.tr HN3.out).rd HGD.out.tb.rd) HXL.out (fun c hc => (HGD.out.tb.el c hc).new (HI.out.new.tr HN3.out)) (fun k hk => by have := HI.out.gb.2; omega) HOK.out (by omega)).mono ?_
        rintro e w4 ⟨rfl, X4, E4, hT4, hc4, hF4, -⟩
        have HT4 := Lib.hid hT4
        have HC4 := Lib.hid hc4
        have HR4 : Hid (RTb w4 A' n' T) := Lib.hid (by
          obtain ⟨f, hM⟩ := (HTB.out.new HN3.out).mapAt
          exact (HRT.out.new HN3.out).frb hM hF4)
        have HN4 : Hid (New w w4) := Lib.hid ((HI.out.new.tr HN3.out).fr hF4 (fun k hk => by have := HI.out.gb.2; omega))
        clear hT4 hc4 hF4
        go_wp2_with fail
        refine (doc_any xA xn xc xL w4 (HN4.out.rd HGD.out.tb.rd) HXL.out (by omega)).mono ?_
        rintro e w5 ⟨⟨A5, c5, rfl, hO5⟩, hN5⟩
        have HD5 : Hid (RTb w5 A5 xn xL) := Lib.hid ⟨rd_szs (Rd.own hO5 rfl), HXL.out, fun c hc => Ch.In.szs ((HGD.out.tb.el c hc).new (HN4.out.tr hN5))⟩
        have HN5 := Lib.hid hN5
        clear hO5 hN5
        go_wp2_with fail
        refine (rright_any A5 xn c5 xL w5 HD5.out.rd HXL.out (by omega) (fun c hc => by have := HSZ.out c hc; unfold maxLen; omega)).mono ?_
        rintro e w5' ⟨rfl, rfl⟩
        rw [HOK.out]
        go_wp2_with fail
        have hn' : n' ≤ 600 * j := by
          have := congrArg List.length HCT.out
          unfold cl at this
          rw [List.length_map, (sct_perm _).length_eq, cont_len, HRT.out.len] at this
          omega
        refine (rdo_any A' n' c' T A5 xn c5 xL w5 (HR4.out.new HN5.out) HD5.out (by omega)).mono ?_
        rintro e w6 ⟨⟨A6, n6, c6, rfl, hR6⟩, hN6⟩
        have HR6 := Lib.hid hR6
        have HN6 : Hid (New w4 w6) := Lib.hid (HN5.out.tr hN6)
        clear hR6 hN6
        go_wp2_with fail
        refine (rights_any xA xn xc xL w6 ((HN4.out.tr HN6.out).rd HGD.out.tb.rd) HXL.out (by omega) (fun c hc => by have := HSZ.out c hc; unfold maxLen; omega)).mono ?_
        rintro e w7 ⟨rfl, hN7⟩
        rw [HOK.out]
        have hsct := rdo_sct (L := T) (T := cont E) xL HCT.out (kn_tb HTB.out) (fun c hc => (HGD.out.tb.el c hc).k.byt)
        rw [← HC4.out] at hsct
        have HSCT := Lib.hid hsct
        have HT7 : Hid (TbIn X4 w7 w.heap.size g b (mm + xn) E4) := Lib.hid (HT4.out.new (HN6.out.tr hN7))
        have HR7 : Hid (RTb w7 A6 n6 (rdo T xL)) := Lib.hid (HR6.out.new hN7)
        have HN7 : Hid (New w w7) := Lib.hid (HN4.out.tr (HN6.out.tr hN7))
        have HG7 := Lib.hid (HGD.out.new HN7.out)
        have hn6 : n6 ≤ 600 * j + xn := by
          have h1 := HR7.out.len
          have h2 := rdo_len T xL
          rw [HRT.out.len, HXL.out] at h2
          omega
        have HSM7 : Hid (∀ c ∈ rdo T xL, c.k.n ≤ 16 ∧ c.v.n ≤ 16384) := Lib.hid (fun c hc => by
          rcases rdo_mem xL T c hc with h | h
          · exact HSM.out c h
          · have := HSP.out.2.2 c h; omega)
        have hE4 : E4.length ≤ 600 * j + xn := by
          have h1 := congrArg List.length HC4.out
          have h2 := doCs_le (cont E) xL
          rw [cont_len] at h1 h2
          rw [HXL.out] at h2
          omega
        have HPN : Hid (PlI w g b (j + 1) A6 n6 w7) := Lib.hid ⟨HN7.out, HI.out.gb, ⟨X4, mm + xn, E4, rdo T xL, HT7.out, HR7.out, HSM7.out, HSCT.out.1, by omega, by omega⟩⟩
        clear hN7 hsct
        go_wp2_with fail
        go_loopw [75] (fun i wr => ∃ (k : Nat), k ≤ xn ∧ i = .int .i64 k ∧ Hid (New w7 wr)) (fun i _ => xn - (intOf i).toNat)
        case atStart => exact ⟨0, Nat.zero_le _, rfl, Lib.hid (New.refl _)⟩
        case round =>
          obtain ⟨k, hk, rfl, HNr⟩ := hrel
          by_cases hkl : k < xn
          · as_aux_lemma =>
              obtain ⟨gC, oC, hlC, rfl, -, -, hrC⟩ := rd_row (f := Ch.cells) (L := xL) (fun _ => rfl) (by omega) (HNr.out.rd HG7.out.tb.rd) hkl
              have v0 : wr.cell? ⟨gC, oC + k * 3, none⟩ = some (.slice xL[k].k.A xL[k].k.n xL[k].k.c) := hrC 0 _ rfl
              have v1 : wr.cell? ⟨gC, oC + k * 3 + 1, none⟩ = some (.slice xL[k].v.A xL[k].v.n xL[k].v.c) := hrC 1 _ rfl
              have v2 : wr.cell? ⟨gC, oC + k * 3 + 2, none⟩ = some (.bool xL[k].d) := hrC 2 _ rfl
              have hin := (HG7.out.tb.el xL[k] (List.getElem_mem _)).new HNr.out
              have hkn := (HSZ.out xL[k] (List.getElem_mem _)).1
              generalize xL[k] = y at v0 v1 v2 hin hkn
              obtain ⟨⟨kA, kn, kc, ks⟩, ⟨vA, vn, vc, vs⟩, dd⟩ := y
              dsimp only at v0 v1 v2 hkn
              obtain ⟨wa, hwa⟩ : ∃ wa : World, wa = wr.alloc (.cells #[.slice kA kn kc, .slice vA vn vc, .bool dd] 41) := ⟨_, rfl⟩
              have HNa : Hid (New wr wa) := Lib.hid (by rw [hwa]; exact New.al (New.refl _) _)
              have HBa : Hid (Blk wa wr.heap.size 41 #[.slice kA kn kc, .slice vA vn vc, .bool dd]) := Lib.hid (by rw [hwa]; exact Blk.new _ _ _)
              have HIN := Lib.hid hin
              have hk0 : (0 : Int) ≤ (k : Int) := by omega
              have hkn2 : (k : Int) < (xn : Int) := by omega
              obtain ⟨B2, m2, d2, hov, his, hrd2, hby2⟩ := both_find (k := ks) HR7.out HSCT.out.1 HSCT.out.2
              have HOV := Lib.hid hov
              have HIS := Lib.hid his
              have HRD2 := Lib.hid hrd2
              have HBY2 := Lib.hid hby2
              clear hin hrC hlC hov his hrd2 hby2
              go_upto_region 24 with fail
              rw [← hwa]
              have e0 : wa.cell? ⟨wr.heap.size, 0, none⟩ = some (.slice kA kn kc) := HBa.out.cell 0
              clear hwa v0 v1 v2
              go_wp2_with fail
              refine (get_any (HT7.out.new (HNr.out.tr HNa.out)) kA kn kc ks (HNa.out.rd HIN.out.k.rd) HIN.out.k.byt (by omega)).mono ?_
              rintro e wb ⟨A8, c8, rfl, hO8, hN8⟩
              have HO8 := Lib.hid hO8
              have HN8 : Hid (New wr wb) := Lib.hid (HNa.out.tr hN8)
              have e0 : wb.cell? ⟨wr.heap.size, 0, none⟩ = some (.slice kA kn kc) := hN8.cell_ e0
              clear hO8 hN8
              obtain ⟨tn, htn⟩ : ∃ tn, tn = (tval E4 ks).n := ⟨_, rfl⟩
              obtain ⟨is, hiss⟩ : ∃ is, is = (E4.lookup ks).isSome := ⟨_, rfl⟩
              rw [← htn] at HO8 ⊢
              rw [← hiss]
              have HISS := Lib.hid hiss
              clear htn hiss
              go_wp2_with fail
              refine (rget_any A6 n6 c6 (rdo T xL) kA kn kc ks wb (HR7.out.new (HNr.out.tr HN8.out)).rd HR7.out.len (by omega) (HR7.out.new (HNr.out.tr HN8.out)).el (HN8.out.rd HIN.out.k.rd) HIN.out.k.byt).mono ?_
              rintro e wc ⟨rfl, hN9⟩
              have HN9 : Hid (New wb wc) := Lib.hid hN9
              clear hN9
              rw [HOV.out, HIS.out, ← HISS.out]
              have HBT := Lib.hid (bytes_any A8 B2 tn m2 c8 d2 (tval E4 ks).xs (tval E4 ks).xs wc (HN9.out.rd (Rd.own HO8.out rfl)) ((HNr.out.tr (HN8.out.tr HN9.out)).rd HRD2.out) HBY2.out HBY2.out)
              have hts : decide ((tval E4 ks).xs = (tval E4 ks).xs) = true := by simp
              rw [hts] at HBT
              clear hts e0
              cases is
              all_goals
                go_wp2_with fail
                refine HBT.out.mono ?_
                rintro e wd ⟨rfl, rfl⟩
                go_wp2_with fail
                go_roundw
                case rel => exact ⟨k + 1, by omega, by go_num, Lib.hid (HNr.out.tr (HN8.out.tr HN9.out))⟩
                case measure => simp [intOf]; omega
          · as_aux_lemma =>
              obtain rfl : k = xn := by omega
              go_wp2_with fail
              go_roundw
              case rel => exact ⟨j + 1, n6, A6, c6, by omega, by go_num, rfl, Lib.hid ⟨HN7.out.tr HNr.out, HPN.out.gb, by
                obtain ⟨X5, m5, E5, T5, h1, h2, h3, h4, h5, h6⟩ := HPN.out.st
                exact ⟨X5, m5, E5, T5, h1.new HNr.out, h2.new HNr.out, h3, h4, h5, h6⟩⟩⟩
              case measure => simp [intOf]; omega
      · have hok : chsOk xL = false := by simpa using hok
        have HOK := Lib.hid hok
        have HXL := Lib.hid hxl
        clear hok hxl
        rcases (by omega : xn ≤ 40 ∨ 600 < xn) with h4 | h4
        · have hd4 : decide ((40 : Int) < (xn : Int)) = false := decide_eq_false (by omega)
          clear hgo
          go_wp2_with fail
          refine (copy_any (HTB.out.new HN2.out) (Nat.le_trans HI.out.new.size HN2.out.size)).mono ?_
          rintro e w3 ⟨g3, b3, rfl, hT3, hN3, hg3, hb3⟩
          have HT3 := Lib.hid hT3
          have HN3 : Hid (New wr w3) := Lib.hid (HN2.out.tr hN3)
          clear hT3 hN3 hg3 hb3
          go_wp2_with fail
          refine (apply_bad g xA xn xc xL w3 ((HI.out.new.tr HN3.out).rd HGD.out.tb.rd) HXL.out (by omega) (fun c hc => by have := HSZ.out c hc; unfold maxLen; omega) HOK.out).mono ?_
          rintro e w4 ⟨rfl, hN4⟩
          have HT4 := Lib.hid (HT3.out.new hN4)
          have HN4 : Hid (New wr w4) := Lib.hid (HN3.out.tr hN4)
          clear hN4
          go_wp2_with fail
          refine (doc_any xA xn xc xL w4 ((HI.out.new.tr HN4.out).rd HGD.out.tb.rd) HXL.out (by omega)).mono ?_
          rintro e w5 ⟨⟨A5, c5, rfl, hO5⟩, hN5⟩
          have HD5 : Hid (RTb w5 A5 xn xL) := Lib.hid ⟨rd_szs (Rd.own hO5 rfl), HXL.out, fun c hc => Ch.In.szs ((HGD.out.tb.el c hc).new ((HI.out.new.tr HN4.out).tr hN5))⟩
          have HT5 := Lib.hid (HT4.out.new hN5)
          have HN5 : Hid (New wr w5) := Lib.hid (HN4.out.tr hN5)
          clear hO5 hN5
          go_wp2_with fail
          refine (rright_any A5 xn c5 xL w5 HD5.out.rd HXL.out (by omega) (fun c hc => by have := HSZ.out c hc; unfold maxLen; omega)).mono ?_
          rintro e w5' ⟨rfl, rfl⟩
          rw [HOK.out]
          go_wp2_with fail
          refine (is_some 2 2 w5 (by omega)).mono ?_
          rintro e w5' ⟨rfl, rfl⟩
          go_wp2_with fail
          refine (same_live (HTB.out.new HN5.out) HT5.out (by omega) (by omega) (by omega) (List.Perm.refl _)).mono ?_
          rintro e w6 ⟨rfl, hN6⟩
          have HN6 : Hid (New wr w6) := Lib.hid (HN5.out.tr hN6)
          clear hN6
          go_wp2_with fail
          refine (rights_any xA xn xc xL w6 ((HI.out.new.tr HN6.out).rd HGD.out.tb.rd) HXL.out (by omega) (fun c hc => by have := HSZ.out c hc; unfold maxLen; omega)).mono ?_
          rintro e w7 ⟨rfl, hN7⟩
          rw [HOK.out]
          have HN7 : Hid (New wr w7) := Lib.hid (HN6.out.tr hN7)
          clear hN7
          go_wp2_with fail
          go_roundw
          case rel => exact ⟨j + 1, n', A', c', by omega, by go_num, rfl, Lib.hid ⟨HI.out.new.tr HN7.out, HI.out.gb, ⟨X, mm, E, T, HTB.out.new HN7.out, HRT.out.new HN7.out, HSM.out, HCT.out, by omega, by omega⟩⟩⟩
          case measure => simp [intOf]; omega
        · have hd4 : decide ((40 : Int) < (xn : Int)) = true := decide_eq_true (by omega)
          have hd6 : decide ((xn : Int) ≤ 600) = false := decide_eq_false (by omega)
          clear hgo
          go_wp2_with fail
          refine (copy_any (HTB.out.new HN2.out) (Nat.le_trans HI.out.new.size HN2.out.size)).mono ?_
          rintro e w3 ⟨g3, b3, rfl, hT3, hN3, hg3, hb3⟩
          have HT3 := Lib.hid hT3
          have HN3 : Hid (New wr w3) := Lib.hid (HN2.out.tr hN3)
          clear hT3 hN3 hg3 hb3
          go_wp2_with fail
          refine (apply_bad g xA xn xc xL w3 ((HI.out.new.tr HN3.out).rd HGD.out.tb.rd) HXL.out (by omega) (fun c hc => by have := HSZ.out c hc; unfold maxLen; omega) HOK.out).mono ?_
          rintro e w4 ⟨rfl, hN4⟩
          have HT4 := Lib.hid (HT3.out.new hN4)
          have HN4 : Hid (New wr w4) := Lib.hid (HN3.out.tr hN4)
          clear hN4
          go_wp2_with fail
          refine (doc_any xA xn xc xL w4 ((HI.out.new.tr HN4.out).rd HGD.out.tb.rd) HXL.out (by omega)).mono ?_
          rintro e w5 ⟨⟨A5, c5, rfl, hO5⟩, hN5⟩
          have HD5 : Hid (RTb w5 A5 xn xL) := Lib.hid ⟨rd_szs (Rd.own hO5 rfl), HXL.out, fun c hc => Ch.In.szs ((HGD.out.tb.el c hc).new ((HI.out.new.tr HN4.out).tr hN5))⟩
          have HT5 := Lib.hid (HT4.out.new hN5)
          have HN5 : Hid (New wr w5) := Lib.hid (HN4.out.tr hN5)
          clear hO5 hN5
          go_wp2_with fail
          refine (rright_any A5 xn c5 xL w5 HD5.out.rd HXL.out (by omega) (fun c hc => by have := HSZ.out c hc; unfold maxLen; omega)).mono ?_
          rintro e w5' ⟨rfl, rfl⟩
          rw [HOK.out]
          go_wp2_with fail
          refine (is_some 2 2 w5 (by omega)).mono ?_
          rintro e w5' ⟨rfl, rfl⟩
          go_wp2_with fail
          refine (same_live (HTB.out.new HN5.out) HT5.out (by omega) (by omega) (by omega) (List.Perm.refl _)).mono ?_
          rintro e w6 ⟨rfl, hN6⟩
          have HN6 : Hid (New wr w6) := Lib.hid (HN5.out.tr hN6)
          clear hN6
          go_wp2_with fail
          refine (rights_any xA xn xc xL w6 ((HI.out.new.tr HN6.out).rd HGD.out.tb.rd) HXL.out (by omega) (fun c hc => by have := HSZ.out c hc; unfold maxLen; omega)).mono ?_
          rintro e w7 ⟨rfl, hN7⟩
          rw [HOK.out]
          have HN7 : Hid (New wr w7) := Lib.hid (HN6.out.tr hN7)
          clear hN7
          go_wp2_with fail
          go_roundw
          case rel => exact ⟨j + 1, n', A', c', by omega, by go_num, rfl, Lib.hid ⟨HI.out.new.tr HN7.out, HI.out.gb, ⟨X, mm, E, T, HTB.out.new HN7.out, HRT.out.new HN7.out, HSM.out, HCT.out, by omega, by omega⟩⟩⟩
          case measure => simp [intOf]; omega
    · obtain rfl : j = n := by omega
      clear HR HG
      go_wp2_with fail
      have hlen := congrArg List.length HCT.out
      refine (is_any HTB.out (by omega) (by omega) A' n' c' T HRT.out HSM.out HCT.out).mono ?_
      rintro e w3 ⟨rfl, hN3⟩
      have HN3 := Lib.hid hN3
      clear hN3 hlen
      go_wp2_with fail
      go_ret
      exact ⟨rfl, HI.out.new.tr HN3.out⟩
end Go.Proofs.Ytfhinmjpokollaa
/- Batches on both sides: plain. No condition. -/
namespace Go.Proofs.Ytfhinmjpokollaa
set_option linter.unusedVariables false
set_option linter.unusedSimpArgs false
set_option linter.constructorNameAsVariable false
open Go.RowKit Go.Maps Go.Sort

def ct1 (c : Ch) : List Int × List Int := (c.k.xs, c.v.xs)
def sz1 (e : List Int × List Int) : Nat := 5 + e.1.length + e.2.length
/-- Two lists with the same contents are split alike. -/
theorem split_same {P L : List Ch} (h : cl P = cl L) : (rws (spl szc P)).map (List.map ct1) = (rws (spl szc L)).map (List.map ct1) := by
  have e : ∀ M : List Ch, (rws (spl szc M)).map (List.map ct1) = rws (spl sz1 (cl M)) := fun M => by
    have h1 := spl_map ct1 sz1 M
    have h2 : spl sz1 (cl M) = spl sz1 (M.map ct1) := rfl
    rw [h2, h1, rws_map]
    rfl
  rw [e, e, h]
theorem pc_of_ct : ∀ {L M : List Ch}, (∀ c ∈ L, c.d = false) → (∀ c ∈ M, c.d = false) → L.map ct1 = M.map ct1 → L.map pcOf = M.map pcOf := by
  intro L
  induction L with
  | nil => intro M _ _ h; cases M with
    | nil => rfl
    | cons d M => simp at h
  | cons c L ih =>
    intro M hL hM h
    cases M with
    | nil => simp at h
    | cons d M =>
      rw [List.map_cons, List.map_cons] at h ⊢
      injection h with h1 h2
      unfold ct1 at h1
      injection h1 with h3 h4
      rw [ih (fun c hc => hL c (List.mem_cons_of_mem _ hc)) (fun c hc => hM c (List.mem_cons_of_mem _ hc)) h2]
      unfold pcOf
      rw [h3, h4, hL c (List.mem_cons_self ..), hM d (List.mem_cons_self ..)]
theorem cdel_none {T : CT} {k : List Int} (h : k ∉ T.map Prod.fst) : cdel T k = T := by
  unfold cdel
  rw [List.filter_eq_self]
  intro e he
  simp only [decide_eq_true_eq]
  exact fun e1 => h (e1 ▸ List.mem_map_of_mem he)
theorem doCs_puts (P : List Ch) : ∀ (T : CT), (∀ c ∈ P, c.d = false) → ((T ++ cl P).map Prod.fst).Nodup → doCs T P = T ++ cl P := by
  induction P with
  | nil => intro T _ _; simp [doCs, cl]
  | cons c P ih =>
    intro T hd hn
    have h1 : doC T c = T ++ [(c.k.xs, c.v.xs)] := by
      unfold doC
      rw [hd c (List.mem_cons_self ..)]
      show cput T c.k.xs c.v.xs = _
      unfold cput
      rw [cdel_none]
      intro hm
      rw [List.map_append, List.nodup_append] at hn
      exact hn.2.2 _ hm _ (by simp [cl]) rfl
    show doCs (doC T c) P = _
    rw [h1, ih _ (fun x hx => hd x (List.mem_cons_of_mem _ hx)) (by simpa [cl] using hn)]
    simp [cl]
theorem rapp_all {Q : Ch → Prop} {L : List Ch} {c : Ch} (h : ∀ x ∈ L, Q x) (hc : c.d = false → Q c) : ∀ x ∈ rapp geS c L, Q x := by
  intro x hx
  cases hd : c.d
  · rcases rapp_mem geS c L x hx with h1 | h1
    · exact h x h1
    · rw [h1]; exact hc hd
  · rw [rapp_eq, hd] at hx
    exact h x (List.mem_filter.1 hx).1
theorem sct_same {T : List Ch} {E Eu : Tab} (h : cl T = sct (cont E)) (hK : Kn (cont E)) (hu : cont Eu = sct (cont E)) : cl T = sct (cont Eu) := by
  rw [h]
  exact sct_unique (sct_sorted _) (by rw [hu]) (by rw [hu]; exact hK.perm (sct_perm _).symm)
theorem flat_rows {R : List Sl} {P : List Ch} (h : R.map Sl.L = rws (spl szc P)) : R.flatMap Sl.L = P := by
  rw [List.flatMap_def, h, spl_flat]
/-- What stands behind some changes. -/
structure BaI (w : World) (g b j : Nat) (A : Option Addr) (n : Nat) (wr : World) : Prop where
  new : New w wr
  gb : w.heap.size ≤ g ∧ w.heap.size ≤ b
  st : ∃ (X : Nat → Prop) (mm : Nat) (E : Tab) (T : List Ch), TbIn X wr w.heap.size g b mm E ∧ RTb wr A n T ∧ (∀ c ∈ T, ChS c ∧ 1 ≤ c.k.n) ∧ cl T = sct (cont E) ∧ mm ≤ j ∧ E.length ≤ j
theorem RTb.len_le {w : World} {A : Option Addr} {n : Nat} {T : List Ch} {E : Tab} (h : RTb w A n T) (hc : cl T = sct (cont E)) : n = E.length := by
  have := congrArg List.length hc
  unfold cl at this
  rw [List.length_map, (sct_perm _).length_eq, cont_len, h.len] at this
  exact this
theorem Bts.frb {w w' : World} {A : Option Addr} {n : Nat} {R : List Sl} {P : Program} {kt : TypeId} {b m : Nat} {f : Lit → Option Value} (h : Bts w A n R) (hM : MapAt w P kt b m f) (hF : Fr (fun k => k = b) w w') : Bts w' A n R :=
  ⟨rd_szs ((rd_not_map h.rd hM (by decide)).fr hF (fun k hk he => hk.2 he)), h.len, fun x hx => (h.el x hx).frb hM hF⟩
theorem rows_le {α : Type} : ∀ (LL : List (List α)), (∀ l ∈ LL, 1 ≤ l.length) → LL.length ≤ LL.flatten.length
  | [], _ => Nat.le_refl _
  | l :: LL, h => by
    have h1 := h l (List.mem_cons_self ..)
    have h2 := rows_le LL (fun x hx => h x (List.mem_cons_of_mem _ hx))
    rw [List.flatten_cons, List.length_append, List.length_cons]
    omega
/-- What stands behind some batches done anew. -/
structure BbI (w : World) (base g b mm : Nat) (E : Tab) (A : Option Addr) (n : Nat) (T : List Ch) (B : Option Addr) (m : Nat) (R : List Sl) (D : Option Addr) (R' : List Sl) (g2 b2 k : Nat) (wr : World) : Prop where
  new : New w wr
  tb : ∃ X, TbIn X wr w.heap.size g b mm E
  rt : RTb wr A n T
  r : Bts wr B m R
  r' : Bts wr D m R'
  ub : ∃ (X2 : Nat → Prop) (m2 : Nat) (E2 : Tab), TbIn X2 wr base g2 b2 m2 E2 ∧ cont E2 = doCs [] ((R.take k).flatMap Sl.L) ∧ m2 ≤ 600 * k ∧ E2.length ≤ 600 * k
  ne : w.heap.size ≤ b2 ∧ g ≠ b2 ∧ b ≠ b2
/-- The rows of both sides, one by one. -/
theorem row_facts {P T : List Ch} {E : Tab} {R R' : List Sl} {w : World} {A B D : Option Addr} {n m : Nat} (hT : RTb w A n T) (hcT : cl T = sct (cont E)) (hS : ∀ c ∈ T, ChS c ∧ 1 ≤ c.k.n) (hcP : cl P = sct (cont E)) (hP : ∀ c ∈ P, ChS c)
    (hR : R.map Sl.L = rws (spl szc P)) (hR' : R'.map Sl.L = rws (spl szc T)) (hB : Bts w B m R) (hD : Bts w D m R') (hsame : R.map (fun x => x.L.map ct1) = R'.map (fun x => x.L.map ct1)) {k : Nat} (h1 : k < R.length) (h2 : k < R'.length) :
    chsOk R[k].L = true ∧ (∀ c ∈ R[k].L, ChS c) ∧ (∀ c ∈ R'[k].L, ChS c) ∧ R[k].L.length ≤ 600 ∧ R'[k].L.length ≤ 600 ∧ putB R[k].L = putB R'[k].L := by
  have hm1 : R[k].L ∈ rws (spl szc P) := by rw [← hR]; exact List.mem_map_of_mem (List.getElem_mem _)
  have hm2 : R'[k].L ∈ rws (spl szc T) := by rw [← hR']; exact List.mem_map_of_mem (List.getElem_mem _)
  have hl1 := spl_rows szc P _ hm1
  have hl2 := spl_rows szc T _ hm2
  have hb := hB.el R[k] (List.getElem_mem _)
  have hd := hD.el R'[k] (List.getElem_mem _)
  have hp : ∀ c ∈ R[k].L, c ∈ P := fun c hc => by
    rw [← flat_rows hR]
    exact List.mem_flatMap.2 ⟨_, List.getElem_mem _, hc⟩
  have ht : ∀ c ∈ R'[k].L, c ∈ T := fun c hc => by
    rw [← flat_rows hR']
    exact List.mem_flatMap.2 ⟨_, List.getElem_mem _, hc⟩
  have hk : ∀ c ∈ R[k].L, 1 ≤ c.k.n := fun c hc => by
    have h3 : (c.k.xs, c.v.xs) ∈ cl P := List.mem_map_of_mem (f := fun c : Ch => (c.k.xs, c.v.xs)) (hp c hc)
    rw [hcP, ← hcT] at h3
    obtain ⟨d, hd, he⟩ := List.mem_map.1 h3
    injection he with he _
    have h4 := (hS d hd).2
    have h5 := (hT.el d hd).k.len
    have h6 := (hb.el c hc).k.len
    rw [← he] at h6
    omega
  have hct : R[k].L.map ct1 = R'[k].L.map ct1 := by
    have := congrArg (fun l => l[k]?) hsame
    simpa [List.getElem?_map, List.getElem?_eq_getElem h1, List.getElem?_eq_getElem h2] using this
  refine ⟨?_, fun c hc => hP c (hp c hc), fun c hc => (hS c (ht c hc)).1, hl1.2, hl2.2, putB_pc hb.lens hd.lens (pc_of_ct (fun c hc => (hP c (hp c hc)).1) (fun c hc => (hS c (ht c hc)).1.1) hct)⟩
  unfold chsOk
  simp only [Bool.and_eq_true, decide_eq_true_eq, List.all_eq_true]
  refine ⟨hl1, fun c hc => ?_⟩
  have h3 := hP c (hp c hc)
  have h4 := hk c hc
  unfold chOk
  rw [h3.1]
  simp [h4, h3.2.1, h3.2.2]
end Go.Proofs.Ytfhinmjpokollaa
