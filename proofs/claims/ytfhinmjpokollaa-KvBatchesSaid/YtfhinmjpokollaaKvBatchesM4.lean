/- Texts of one proof, one behind the other: KvA, Last, KvB, Rng, RngB. No condition but each one's own. -/
import Derived.Test.YtfhinmjpokollaaKvBatchesM3
import Derived.Deep.RegionHeld3
import Derived.TacticsInMore
import Derived.Test.YtfhinmjpokollaaKvBatchesM1
import Derived.OrdersHeld
import Derived.Deep.CutBlock
import Derived.RangeFuncNested
import Derived.RangeFuncBound
import Derived.RangeFuncCalls
/- Tables: in memory, in plain words; New, a right batch done, the keys. No condition but that all can be read. -/
namespace Go.Proofs.Ytfhinmjpokollaa
set_option linter.unusedVariables false
set_option linter.unusedSimpArgs false
set_option linter.constructorNameAsVariable false
open Go.RowKit Go.Maps Go.Sort

def key (xs : List Int) : Lit := .string (strOfNums xs).data.toList
theorem key_inj {xs ys : List Int} (hx : Byt xs) (hy : Byt ys) (h : key xs = key ys) : xs = ys := by
  have := str_inj hx hy
  unfold key at h
  injection h with h
  have e : (strOfNums xs).toList = (strOfNums ys).toList := by
    have : strOfNums xs = strOfNums ys := by
      have : (strOfNums xs).data = (strOfNums ys).data := Array.toList_inj.1 h
      exact ByteArray.ext this
    rw [this]
  simpa [e] using this
theorem keyS : Keyed Try.prog 9 := string_keyed Try.underlying9
theorem key_of {xs : List Int} (h : xs.length ≤ 1000000) : keyOf Try.prog 9 (.string (strOfNums xs)) = some (key xs) :=
  Go.WideMaps.keyOf_string_mk Try.underlying9 (by rw [strOfNums_size]; unfold maxLen; omega)

/-- A table in plain words: values by keys, each key once. -/
abbrev Tab := List (List Int × Fm)
def tdel (E : Tab) (k : List Int) : Tab := E.filter fun e => decide (e.1 ≠ k)
def tput (E : Tab) (k : List Int) (v : Fm) : Tab := tdel E k ++ [(k, v)]
theorem lookup_del (E : Tab) (k ys : List Int) : (tdel E k).lookup ys = if ys = k then none else E.lookup ys := by
  unfold tdel
  induction E with
  | nil => simp
  | cons e E ih =>
    obtain ⟨x, v⟩ := e
    by_cases hx : x = k
    · rw [List.filter_cons_of_neg (by simp [hx]), ih]
      by_cases hy : ys = k
      · rw [if_pos hy, if_pos hy]
      · rw [if_neg hy, if_neg hy, List.lookup_cons]
        have : (ys == x) = false := by simp; intro h; exact hy (h.trans hx)
        rw [this]
    · rw [List.filter_cons_of_pos (by simp [hx]), List.lookup_cons, List.lookup_cons, ih]
      by_cases hy : ys = x
      · have : ¬ ys = k := fun h => hx (hy.symm.trans h)
        simp [hy, hx]
      · have : (ys == x) = false := by simpa using hy
        rw [this]
theorem lookup_put (E : Tab) (k ys : List Int) (v : Fm) : (tput E k v).lookup ys = if ys = k then some v else E.lookup ys := by
  unfold tput
  rw [List.lookup_append, lookup_del]
  by_cases hy : ys = k
  · subst hy; simp
  · rw [if_neg hy, if_neg hy]
    have : (ys == k) = false := by simpa using hy
    show (E.lookup ys).or (match ys == k with | true => some v | false => none) = _
    rw [this]
    cases E.lookup ys <;> rfl
theorem nd_del {E : Tab} (h : (E.map Prod.fst).Nodup) (k : List Int) : ((tdel E k).map Prod.fst).Nodup := (List.Sublist.map _ List.filter_sublist).nodup h
theorem nd_put {E : Tab} (h : (E.map Prod.fst).Nodup) (k : List Int) (v : Fm) : ((tput E k v).map Prod.fst).Nodup := by
  unfold tput
  rw [List.map_append, List.nodup_append]
  refine ⟨nd_del h k, by simp, fun x hx y hy e => ?_⟩
  simp at hy
  subst hy e
  simp [tdel] at hx
theorem mem_del {E : Tab} {k : List Int} {e : List Int × Fm} (h : e ∈ tdel E k) : e ∈ E := (List.mem_filter.1 h).1
theorem mem_put {E : Tab} {k : List Int} {v : Fm} {e : List Int × Fm} (h : e ∈ tput E k v) : e ∈ E ∨ e = (k, v) := by
  rcases List.mem_append.1 h with h | h
  · exact .inl (mem_del h)
  · exact .inr (List.mem_singleton.1 h)
/-- A table in memory. -/
structure TbIn (X : Nat → Prop) (w : World) (base g b m : Nat) (E : Tab) : Prop where
  blk : Blk w g 69 #[.map (some b)]
  map : ∃ f, MapAt w Try.prog 9 b m f ∧ (∀ xs, Byt xs → f (key xs) = (E.lookup xs).map Fm.val) ∧ ∀ kl, (f kl).isSome = true → ∃ xs, Byt xs ∧ kl = key xs
  nd : (E.map Prod.fst).Nodup
  el : ∀ e ∈ E, Byt e.1 ∧ e.1.length ≤ 16 ∧ e.2.In X w ∧ e.2.n ≤ 16384
  gb : base ≤ g
  lb : base ≤ b
  xs : ∀ k, X k → base ≤ k ∧ IsT 5 w k
/-- A table's own blocks that are written. -/
def Tw (b : Nat) (k : Nat) : Prop := k = b
section
variable {X : Nat → Prop} {w w' : World} {base g b m : Nat} {E : Tab} {S : Nat → Prop}
theorem Fm.In.fr {P : Nat → Prop} {x : Fm} (h : x.In P w) (hF : Fr S w w') (hS : ∀ k, P k → ¬ S k) : x.In P w' := ⟨h.rd.fr hF hS, h.byt⟩
theorem TbIn.fr (h : TbIn X w base g b m E) (hF : Fr S w w') (h1 : ¬ S g) (h2 : ¬ S b) (h3 : ∀ k, S k → ¬ X k) : TbIn X w' base g b m E := by
  obtain ⟨f, hm, r⟩ := h.map
  exact ⟨h.blk.fr hF h1, ⟨f, hm.fr hF h2, r⟩, h.nd, fun e he => ⟨(h.el e he).1, (h.el e he).2.1, (h.el e he).2.2.1.fr hF (fun k hk hs => h3 k hs hk), (h.el e he).2.2.2⟩, h.gb, h.lb, fun k hk => ⟨(h.xs k hk).1, (h.xs k hk).2.fr hF (fun hs => h3 k hs hk)⟩⟩
theorem TbIn.new (h : TbIn X w base g b m E) (hN : New w w') : TbIn X w' base g b m E := h.fr (hN.toFr NoB) (fun x => x) (fun x => x) (fun _ x => x.elim)
theorem TbIn.blt (h : TbIn X w base g b m E) : b < w.heap.size := by obtain ⟨f, hm, _⟩ := h.map; exact hm.lt
theorem TbIn.gne (h : TbIn X w base g b m E) : g ≠ b := by
  rintro rfl
  obtain ⟨f, ⟨D, ⟨es, clock, hx, _⟩, _⟩, _⟩ := h.map
  have hb := h.blk
  unfold Blk at hb
  rw [hx] at hb
  cases hb
theorem TbIn.bX (h : TbIn X w base g b m E) : ¬ X b := fun hx => by
  obtain ⟨f, hm, _⟩ := h.map
  exact IsT.not_map hm (h.xs b hx).2
theorem TbIn.gX (h : TbIn X w base g b m E) : ¬ X g := fun hx => IsT.not_blk h.blk (by decide) (h.xs g hx).2
end
theorem new_any (base : Nat) (w : World) (hb : base ≤ w.heap.size) : Calls Try.prog 9 #[] w fun e w' => ∃ g b, e = .returned (.pointer (some ⟨g, 0, none⟩)) ∧ TbIn (fun _ => False) w' base g b 0 [] ∧ New w w' ∧ w.heap.size ≤ g ∧ w.heap.size ≤ b := by
  have hmk := @run_makeMap Try.prog
  go_enter Try.func9, Try.ntmps9
  go_wp2_with fail
  go_ret
  refine ⟨w.heap.size + 1, w.heap.size, rfl, ⟨Blk.new' _ _ _ (by simp), ⟨fun _ => none, (MapAt.made w Try.prog 9).alloc _, fun xs _ => by simp, fun kl h => by simp at h⟩, by simp, (fun e he => by cases he), (by omega), hb, fun k hk => hk.elim⟩, New.al (New.al (New.refl _) _) _, by omega, Nat.le_refl _⟩
theorem strs_of {xs : List Int} : (strOfNums xs).data.toList = xs.map (fun x => UInt8.ofNat x.toNat) := by
  rw [strOfNums_data]
/-- A table's keys, sorted. -/
def kbytes (E : Tab) : List (List UInt8) := E.map fun e => (strOfNums e.1).data.toList
theorem kb_len (E : Tab) : (kbytes E).length = E.length := by simp [kbytes]
theorem lookup_mem {E : Tab} {xs : List Int} {v : Fm} (h : E.lookup xs = some v) : (xs, v) ∈ E := by
  induction E with
  | nil => simp at h
  | cons e E ih =>
    obtain ⟨x, u⟩ := e
    rw [List.lookup_cons] at h
    by_cases hx : xs = x
    · subst hx
      simp at h
      simp [h]
    · have : (xs == x) = false := by simpa using hx
      rw [this] at h
      exact List.mem_cons_of_mem _ (ih h)
theorem mem_lookup {E : Tab} (hn : (E.map Prod.fst).Nodup) {e : List Int × Fm} (h : e ∈ E) : E.lookup e.1 = some e.2 := by
  induction E with
  | nil => cases h
  | cons d E ih =>
    obtain ⟨x, u⟩ := d
    rw [List.map_cons, List.nodup_cons] at hn
    rcases List.mem_cons.1 h with rfl | h
    · simp
    · rw [List.lookup_cons]
      have : (e.1 == x) = false := by
        simp
        intro hx
        exact hn.1 (hx ▸ List.mem_map.2 ⟨e, h, rfl⟩)
      rw [this]
      exact ih hn.2 h
theorem kb_nodup {E : Tab} (hn : (E.map Prod.fst).Nodup) (hb : ∀ e ∈ E, Byt e.1) : (kbytes E).Nodup := by
  unfold kbytes
  refine List.pairwise_map.2 ((List.pairwise_map.1 hn).imp_of_mem fun {a b} ha hb' hne e => hne ?_)
  exact key_inj (hb a ha) (hb b hb') (by unfold key; rw [e])
theorem tb_perm {X : Nat → Prop} {w : World} {base g b m : Nat} {E : Tab} (h : TbIn X w base g b m E) : ∃ D : DataW Value, w.ownsMap Try.prog 9 Rv b m D ∧ (kbytes E).Perm (strKeys D) := by
  obtain ⟨f, ⟨D, hD, hf⟩, h1, h2⟩ := h.map
  refine ⟨D, hD, ?_⟩
  refine Collected.perm (left := fun _ => false) (ss := kbytes E) ⟨kb_nodup h.nd (fun e he => (h.el e he).1), fun x => ?_⟩ hD keyS Try.underlying9 (fun _ => rfl)
  have hiff : has D (.string x) = true ↔ (f (.string x)).isSome = true := by
    rw [hf]
    cases has D (.string x) <;> simp
  rw [hiff]
  simp only [and_true]
  constructor
  · intro hx
    obtain ⟨e, he, rfl⟩ := List.mem_map.1 hx
    have := h1 e.1 (h.el e he).1
    rw [mem_lookup h.nd he] at this
    show (f (key e.1)).isSome = true
    rw [this]
    rfl
  · intro hx
    obtain ⟨xs, hb, hk⟩ := h2 _ hx
    rw [hk, h1 xs hb] at hx
    cases hl : E.lookup xs with
    | none => rw [hl] at hx; cases hx
    | some v =>
      have := lookup_mem hl
      unfold key at hk
      injection hk with hk
      exact List.mem_map.2 ⟨(xs, v), this, hk.symm⟩
set_option maxHeartbeats 2000000 in
theorem keys_any {X : Nat → Prop} {w : World} {base g b m : Nat} {E : Tab} (h : TbIn X w base g b m E) (hm : m ≤ 1000000) :
    Calls Try.prog 45 #[.pointer (some ⟨g, 0, none⟩)] w fun e w' => (∃ v, e = .returned v ∧ w'.ownsRow w.heap.size 9 1 v E.length (((kbytes E).mergeSort leB).map encStr)) ∧ New w w' := by
  obtain ⟨D, hD, hP⟩ := tb_perm h
  have hsz := hD.size_le
  have c0 : w.cell? ⟨g, 0, none⟩ = some (.map (some b)) := h.blk.cell 0
  have HS := Lib.hid (sorted_keys b m D Rv w hD (by unfold maxLen; omega) (by omega))
  have HP := Lib.hid hP
  clear h hD hP hsz hm
  refine (callsIn_wide (n := 6)).1 ?_
  have hfK : Fence.wide.fn 63 := trivial
  have hfS : Fence.wide.fn 62 := trivial
  refine callsIn_of_wp Try.func45 rfl trivial ?_ rfl
  simp only [Try.ntmps45, List.size_toArray, List.length_cons, List.length_nil, Nat.reduceAdd, Nat.reduceSub, Array.replicate_succ, Array.replicate_zero, List.push_toArray, List.append_toArray, List.nil_append, List.cons_append]
  gi_wp2_with (first
    | (gi_at_call 63; refine (maps_keys _ _).mono ?_; rintro e w' ⟨rfl, rfl⟩)
    | (gi_at_call 62; refine HS.out.mono ?_; rintro e w' ⟨v, ss, rfl, hS, hrow, hnil, hb⟩))
  go_ret
  have hpp := hS.trans HP.out.symm
  have hl : ss.length = E.length := by rw [hpp.length_eq, kb_len]
  have hr : w'.ownsRow w.heap.size 9 1 v ss.length ((ss.mergeSort (fun x y => decide (x ≤ y))).map encStr) := ownsRow_base_a hrow (by simp)
  have hq : ss.mergeSort (fun x y => decide (x ≤ y)) = (kbytes E).mergeSort leB := mergeSort_of_perm hpp
  rw [hl, hq] at hr
  exact ⟨⟨v, rfl, hr⟩, ((Below.refl _ w).alloc (Nat.le_refl _) _).trans (hb.mono (by simp))⟩
theorem keys_nil (w : World) : Calls Try.prog 45 #[.pointer none] w fun e w' => e = .returned (.slice none 0 0) ∧ w = w' := by
  go_enter Try.func45, Try.ntmps45
  go_wp2_with fail
  go_ret
  exact ⟨rfl, rfl⟩
theorem len_any {X : Nat → Prop} {w : World} {base g b m : Nat} {E : Tab} (h : TbIn X w base g b m E) (hm : m ≤ 1000000) (hE : E.length ≤ 1000000) :
    Calls Try.prog 28 #[.pointer (some ⟨g, 0, none⟩)] w fun e w' => e = .returned (.int .i64 E.length) ∧ New w w' := by
  have HK := Lib.hid (keys_any h hm)
  clear h hm
  go_enter Try.func28, Try.ntmps28
  go_wp2_with fail
  refine HK.out.mono ?_
  rintro e w1 ⟨⟨v, rfl, hO⟩, hN1⟩
  obtain ⟨A, c, rfl, -, -, -, -⟩ := own_shape hO
  have HN1 := Lib.hid hN1
  clear hO hN1
  go_wp2_with fail
  go_ret
  exact ⟨rfl, HN1.out⟩
theorem len_nil (w : World) : Calls Try.prog 28 #[.pointer none] w fun e w' => e = .returned (.int .i64 0) ∧ w = w' := by
  go_enter Try.func28, Try.ntmps28
  go_wp2_with fail
  refine (keys_nil _).mono ?_
  rintro e w' ⟨rfl, rfl⟩
  go_wp2_with fail
  go_ret
  exact ⟨rfl, rfl⟩
end Go.Proofs.Ytfhinmjpokollaa
/- A region that draws its order and whose last operation waits for all others: what the others keep may be broken by the last one. After the kit's own laws on what is held (Derived/OrdersHeld.lean), with the last operation let off. No condition. -/
namespace Go.Proofs.Ytfhinmjpokollaa
set_option linter.unusedVariables false
set_option linter.unusedSimpArgs false
set_option linter.constructorNameAsVariable false
open Go.RowKit

section
variable {P : Program} {md : Region.Mode} {ops : Array Oper} {Q : Exit → Act → World → Prop} {S : World → Prop} {last : Nat}
/-- Whatever order is picked, and S holds behind every operation but the last. -/
def wpAnyT (P : Program) (md : Region.Mode) (ops : Array Oper) (Q : Exit → Act → World → Prop) (S : World → Prop) (last : Nat) : Nat → Array Bool → Act → World → Prop
  | 0, listed, a, w => Region.ready md ops listed = [] ∧ Q .normal a w
  | fuel + 1, listed, a, w =>
    (Region.ready md ops listed = [] → Q .normal a w) ∧
    ∀ i ∈ Region.ready md ops listed, wpOp P ops Q i (fun a' w' => (i ≠ last → S w') ∧ wpAnyT P md ops Q S last fuel (listed.setIfInBounds i true) a' w') a w
theorem wpAny_of_T : ∀ (fuel : Nat) (listed : Array Bool) (a : Act) (w : World), wpAnyT P md ops Q S last fuel listed a w → wpAny P md ops Q fuel listed a w
  | 0, _, _, _, h => h
  | fuel + 1, _, _, _, h => ⟨h.1, fun i hi => wpOp_mono (fun a' w' h' => wpAny_of_T fuel _ a' w' h'.2) (h.2 i hi)⟩
/-- Does operation k wait for operation i? -/
def waitsOn (md : Region.Mode) (ops : Array Oper) (k i : Nat) : Bool := match ops[k]? with | some o => o.after.any (fun e => Region.binds md e && e.on == i) | none => false

theorem wpAnyT_first {i : Nat} {oi : Oper} {v : Value} (hi : ops[i]? = some oi) (hsel : ∀ (j : Nat) (o : Oper) cs b, ops[j]? = some o → o.op ≠ .select cs b)
    (hQ : ∀ c a w, Q (.panic c) (a.put oi.dst v) w → Q (.panic c) a w) (hlast : waitsOn md ops last i = true) :
    ∀ (fuel : Nat) (listed : Array Bool) (a : Act) (w : World),
      (∀ j oj, ops[j]? = some oj → j ≠ i → listed.getD j true = false → (∀ e ∈ oj.after, Region.binds md e = true → e.on ≠ i) → oi.apart ops oj = true) →
      i ∈ Region.ready md ops listed → YieldsIf P ops S oi v a → S w →
      wpAnyT P md ops Q S last fuel (listed.setIfInBounds i true) (a.put oi.dst v) w → wpAnyT P md ops Q S last (fuel + 1) listed a w := by
  intro fuel
  induction fuel with
  | zero =>
    intro listed a w _ hr hy hS H
    refine ⟨fun h => (by rw [h] at hr; cases hr), fun j hj => ?_⟩
    by_cases hji : j = i
    · subst hji; exact hy.wpOp hi hS ⟨fun _ => hS, H⟩
    · have := ready_mono hj hji
      rw [H.1] at this
      cases this
  | succ fuel ih =>
    intro listed a w hfree hr hy hS H
    refine ⟨fun h => (by rw [h] at hr; cases hr), fun j hj => ?_⟩
    by_cases hji : j = i
    · subst hji; exact hy.wpOp hi hS ⟨fun _ => hS, H⟩
    · have h1 := H.2 j (ready_mono hj hji)
      obtain ⟨hjun, oj, hoj, hall⟩ := mem_ready.1 hj
      have hnot : ∀ e ∈ oj.after, Region.binds md e = true → e.on ≠ i := fun e he hb heq => by
        have h1 := hall e he hb
        have h0 := (mem_ready.1 hr).1
        rw [heq] at h1
        rcases Nat.lt_or_ge i listed.size with h' | h'
        · simp [h'] at h0 h1; rw [h0] at h1; cases h1
        · simp [Array.getElem?_eq_none h'] at h1
      have hjl : j ≠ last := fun e => by
        subst e
        simp only [waitsOn, hoj, Array.any_eq_true] at hlast
        obtain ⟨n, hn, hb⟩ := hlast
        simp only [Bool.and_eq_true, beq_iff_eq] at hb
        exact hnot _ (Array.getElem_mem hn) hb.1 hb.2
      have h2 := wpOp_putIf hoj (hfree j oj hoj hji hjun hnot) (fun cs b => hsel i oi cs b hi) (fun cs b => hsel j oj cs b hoj) hQ hy h1
      have hfree' : ∀ k ok, ops[k]? = some ok → k ≠ i → (listed.setIfInBounds j true).getD k true = false →
          (∀ e ∈ ok.after, Region.binds md e = true → e.on ≠ i) → oi.apart ops ok = true := fun k ok hk hki hun hno => by
        refine hfree k ok hk hki ?_ hno
        by_cases hjk : j = k
        · subst hjk; exact hjun
        · rw [getD_set_ne true hjk] at hun; exact hun
      refine wpOp_mono (fun a' w' h3 => ⟨h3.2.1, ih (listed.setIfInBounds j true) a' w' hfree' (ready_mono hr (Ne.symm hji)) h3.1 (h3.2.1 hjl) ?_⟩) h2
      rw [Array.setIfInBounds_comm _ _ hji]
      exact h3.2.2
/-- Number i is taken first. -/
theorem wpAnyT_take {i : Nat} {oi : Oper} {v : Value} {fuel : Nat} {listed : Array Bool} {a : Act} {w : World} (hi : ops[i]? = some oi)
    (hs : Region.noSelect ops = true) (hf : Region.free md ops listed i = true) (hr : (Region.ready md ops listed).contains i = true) (hl : waitsOn md ops last i = true)
    (hQ : ∀ c a w, Q (.panic c) (a.put oi.dst v) w → Q (.panic c) a w) (hy : YieldsIf P ops S oi v a) (hS : S w)
    (h : wpAnyT P md ops Q S last fuel (listed.setIfInBounds i true) (a.put oi.dst v) w) : wpAnyT P md ops Q S last (fuel + 1) listed a w :=
  wpAnyT_first hi (Region.noSelect_spec hs) hQ hl fuel listed a w (Region.free_spec hi hf) (by simpa using hr) hy hS h
def AllT (P : Program) (md : Region.Mode) (ops : Array Oper) (Q : Exit → Act → World → Prop) (S : World → Prop) (last fuel : Nat) (listed : Array Bool) (a : Act) (w : World) (rs : List Nat) : Prop :=
  ∀ i ∈ rs, wpOp P ops Q i (fun a' w' => (i ≠ last → S w') ∧ wpAnyT P md ops Q S last fuel (listed.setIfInBounds i true) a' w') a w
theorem AllT.nil {fuel : Nat} {listed : Array Bool} {a : Act} {w : World} : AllT P md ops Q S last fuel listed a w [] := fun i hi => by cases hi
theorem AllT.cons {fuel : Nat} {listed : Array Bool} {a : Act} {w : World} {i : Nat} {o : Oper} {rs : List Nat} (ho : ops[i]? = some o)
    (h : ∀ K' : Act → World → Prop, Hid (∀ a w, (i ≠ last → S w) → wpAnyT P md ops Q S last fuel (listed.setIfInBounds i true) a w → K' a w) → if Region.wanted o (yielded ops a.tmps) = true then Oper.wp P o a w K' Q else K' (a.put o.dst undef) w)
    (hs : AllT P md ops Q S last fuel listed a w rs) : AllT P md ops Q S last fuel listed a w (i :: rs) := fun j hj => by
  rcases List.mem_cons.1 hj with rfl | hj
  · have := h (fun a' w' => (j ≠ last → S w') ∧ wpAnyT P md ops Q S last fuel (listed.setIfInBounds j true) a' w') (Lib.hid fun a' w' h1 h2 => ⟨h1, h2⟩)
    unfold wpOp
    rw [ho]
    simp only
    split
    · next hw => rw [if_pos hw] at this; exact .inl this
    · next hw => rw [if_neg hw] at this; exact this
  · exact hs j hj
theorem wpAnyT_ready {rs : List Nat} {fuel : Nat} {listed : Array Bool} {a : Act} {w : World} (hr : Region.ready md ops listed = rs) (hne : rs ≠ []) (h : AllT P md ops Q S last fuel listed a w rs) : wpAnyT P md ops Q S last (fuel + 1) listed a w :=
  ⟨fun h0 => absurd (hr ▸ h0) hne, hr ▸ h⟩
theorem wpAnyT_done {listed : Array Bool} {a : Act} {w : World} (hr : Region.ready md ops listed = []) (h : Q .normal a w) : ∀ fuel, wpAnyT P md ops Q S last fuel listed a w
  | 0 => ⟨hr, h⟩
  | _ + 1 => ⟨fun _ => h, by rw [hr]; simp⟩
theorem wp_region_T {id : Nat} {a : Act} {w : World} (S : World → Prop) (last : Nat) (hm : P.follows .mixedOrders = true)
    (h : wpAnyT P .any ops Q S last ops.size (Array.replicate ops.size false) a w.drew) : (Code.region id ops true).wp P Q a w :=
  wp_region_any hm (wpAny_of_T _ _ _ _ h)
end
end Go.Proofs.Ytfhinmjpokollaa
/- Tables: Apply. No condition but that all can be read. -/
namespace Go.Proofs.Ytfhinmjpokollaa
set_option linter.unusedVariables false
set_option linter.unusedSimpArgs false
set_option linter.constructorNameAsVariable false
open Go.RowKit Go.Maps Go.Sort

/-- A table by its contents alone. -/
abbrev CT := List (List Int × List Int)
def cont (E : Tab) : CT := E.map fun e => (e.1, e.2.xs)
def cdel (T : CT) (k : List Int) : CT := T.filter fun e => decide (e.1 ≠ k)
def cput (T : CT) (k v : List Int) : CT := cdel T k ++ [(k, v)]
def doC (T : CT) (c : Ch) : CT := if c.d then cdel T c.k.xs else cput T c.k.xs c.v.xs
def doCs (T : CT) (L : List Ch) : CT := L.foldl doC T
theorem cont_del (E : Tab) (k : List Int) : cont (tdel E k) = cdel (cont E) k := by
  unfold cont tdel cdel
  rw [List.filter_map]
  rfl
theorem cont_put (E : Tab) (k : List Int) (v : Fm) : cont (tput E k v) = cput (cont E) k v.xs := by
  unfold cput tput
  rw [← cont_del]
  simp [cont]
theorem cont_len (E : Tab) : (cont E).length = E.length := by simp [cont]
theorem do_snoc (T : CT) (L : List Ch) (c : Ch) : doCs T (L ++ [c]) = doC (doCs T L) c := by simp [doCs]
theorem cdel_le (T : CT) (k : List Int) : (cdel T k).length ≤ T.length := List.length_filter_le _ _
theorem doC_le (T : CT) (c : Ch) : (doC T c).length ≤ T.length + 1 := by
  unfold doC cput
  have := cdel_le T c.k.xs
  split
  · omega
  · simp; omega
theorem chsOk_spec {L : List Ch} (h : chsOk L = true) : 1 ≤ L.length ∧ L.length ≤ 600 ∧ ∀ c ∈ L, 1 ≤ c.k.n ∧ c.k.n ≤ 16 ∧ c.v.n ≤ 16384 ∧ (c.d = true → c.v.n = 0) := by
  unfold chsOk at h
  simp only [Bool.and_eq_true, decide_eq_true_eq, List.all_eq_true] at h
  obtain ⟨⟨h1, h2⟩, h3⟩ := h
  refine ⟨h1, h2, fun c hc => ?_⟩
  have := h3 c hc
  unfold chOk at this
  simp only [Bool.and_eq_true, decide_eq_true_eq, Bool.not_eq_true', Bool.and_eq_false_iff] at this
  obtain ⟨⟨⟨a1, a2⟩, a3⟩, a4⟩ := this
  refine ⟨a1, a2, a3, fun hd => ?_⟩
  rcases a4 with a4 | a4
  · rw [hd] at a4; cases a4
  · simp at a4; omega
section
variable {X : Nat → Prop} {w w' : World} {base g b m : Nat} {E : Tab}
/-- What a delete leaves. -/
theorem TbIn.del (h : TbIn X w base g b m E) {k : List Int} {f : Lit → Option Value} (hk : Byt k) (h1 : ∀ xs, Byt xs → f (key xs) = (E.lookup xs).map Fm.val) (h2 : ∀ kl, (f kl).isSome = true → ∃ xs, Byt xs ∧ kl = key xs)
    (hM : MapAt w' Try.prog 9 b m (putF f (key k) none)) (hF : Fr (fun j => j = b) w w') : TbIn X w' base g b m (tdel E k) := by
  refine ⟨h.blk.fr hF h.gne, ⟨_, hM, fun xs hx => ?_, fun kl hs => ?_⟩, nd_del h.nd k, fun e he => ?_, h.gb, h.lb, fun j hj => ⟨(h.xs j hj).1, (h.xs j hj).2.fr hF (fun e => h.bX (e ▸ hj))⟩⟩
  · rw [lookup_del]
    by_cases e : xs = k
    · rw [if_pos e, e, putF_same (kl := key k) trivial]
      rfl
    · rw [if_neg e, putF_other (fun hh => e (key_inj hx hk hh)), h1 xs hx]
  · by_cases e : kl = key k
    · rw [e, putF_same (kl := key k) trivial] at hs
      cases hs
    · rw [putF_other e] at hs
      exact h2 kl hs
  · have := h.el e (mem_del he)
    exact ⟨this.1, this.2.1, this.2.2.1.fr hF (fun j hj hs => h.bX (hs ▸ hj)), this.2.2.2⟩
/-- What a store leaves. -/
theorem TbIn.put {Y : Nat → Prop} (h : TbIn X w base g b m E) {k : List Int} {v : Fm} {f : Lit → Option Value} (hk : Byt k) (hkl : k.length ≤ 16) (h1 : ∀ xs, Byt xs → f (key xs) = (E.lookup xs).map Fm.val) (h2 : ∀ kl, (f kl).isSome = true → ∃ xs, Byt xs ∧ kl = key xs)
    (hM : MapAt w' Try.prog 9 b (m + 1) (putF f (key k) (some v.val))) (hF : Fr (fun j => j = b) w w') (hv : v.In Y w') (hvn : v.n ≤ 16384) (hY : ∀ j, Y j → base ≤ j ∧ IsT 5 w' j) : TbIn (fun j => X j ∨ Y j) w' base g b (m + 1) (tput E k v) := by
  refine ⟨h.blk.fr hF h.gne, ⟨_, hM, fun xs hx => ?_, fun kl hs => ?_⟩, nd_put h.nd k v, fun e he => ?_, h.gb, h.lb, fun j hj => ?_⟩
  · rw [lookup_put]
    by_cases e : xs = k
    · rw [if_pos e, e, putF_same (kl := key k) trivial]
      rfl
    · rw [if_neg e, putF_other (fun hh => e (key_inj hx hk hh)), h1 xs hx]
  · by_cases e : kl = key k
    · exact ⟨k, hk, e⟩
    · rw [putF_other e] at hs
      exact h2 kl hs
  · rcases mem_put he with he | rfl
    · have := h.el e he
      exact ⟨this.1, this.2.1, ⟨(this.2.2.1.rd.fr hF (fun j hj hs => h.bX (hs ▸ hj))).imp fun _ => .inl, this.2.2.1.byt⟩, this.2.2.2⟩
    · exact ⟨hk, hkl, ⟨hv.rd.imp fun _ => .inr, hv.byt⟩, hvn⟩
  · rcases hj with hj | hj
    · exact ⟨(h.xs j hj).1, (h.xs j hj).2.fr hF (fun e => h.bX (e ▸ hj))⟩
    · exact hY j hj
end
theorem step_mdel {P : Program} {w : World} {ops : Array Oper} {o : Oper} {a : Act} {Q : Exit → Act → World → Prop} {b n : Nat} {f : Lit → Option Value} {k e t : TypeId} {K : Act → World → Prop} {F : Prop} (hM : MapAt w P k b n f) (KK : Keyed P k) (ht : P.underlying t = some (.map k e)) (hg : o.guard = none) (m x : Operand)
    (hop : o.op = Op.call { callee := Callee.builtin Builtin.delete, args := #[m, x], argTypes := #[t, k] })
    (hm : a.eval m = .map (some b)) (key : Value) (kl : Lit) (hx : a.eval x = key) (hkey : keyOf P k key = some kl)
    (hK : ∀ w', MapAt w' P k b n (putF f kl none) → Fr (fun j => j = b) w w' → K (a.put o.dst (.tuple #[])) w') :
    if Region.wanted o (yielded ops a.tmps) = true then Oper.wp P o a w K Q else F := by
  have hw : Region.wanted o (yielded ops a.tmps) = true := by simp [Region.wanted, hg]
  rw [if_pos hw]
  obtain ⟨w', hrun, r1, r2⟩ := hM.drop KK ht hkey o.type
  unfold Oper.wp
  simp [execOp, hop, resolve, invoke, builtin, hm, hx, hrun, Result.andThen]
  exact hK w' r1 r2
theorem own_isT {w : World} {base e s n k : Nat} {v : Value} {xs : List Value} (h : w.ownsRow base e s v n xs) (hk : v.ownBlock = some k) : IsT e w k := by
  rcases h.2 with ⟨rfl, _⟩ | ⟨g', cap, cur, rfl, _, hh, _⟩
  · simp [Value.ownBlock] at hk
  · have : g' = k := by simpa [Value.ownBlock] using hk
    subst this
    exact ⟨_, _, hh⟩
theorem apply_nil (A : Option Addr) (n c : Nat) (w : World) : Calls Try.prog 12 #[.pointer none, .slice A n c] w fun e w' => e = .returned (.iface 36 (.int .i64 11)) ∧ w = w' := by
  go_enter Try.func12, Try.ntmps12
  go_wp2_with fail
  go_ret
  exact ⟨rfl, rfl⟩
theorem apply_bad {P : Nat → Prop} (g : Nat) (A : Option Addr) (n c : Nat) (L : List Ch) (w : World) (h : Rd P w 3 A n (L.flatMap Ch.cells)) (hL : L.length = n) (hn : n ≤ 100000000) (hb : ∀ c ∈ L, c.k.n ≤ maxLen ∧ c.v.n ≤ maxLen) (hbad : chsOk L = false) :
    Calls Try.prog 12 #[.pointer (some ⟨g, 0, none⟩), .slice A n c] w fun e w' => e = .returned (.iface 36 (.int .i64 2)) ∧ New w w' := by
  have HC := Lib.hid (rights_any A n c L w h hL hn hb)
  rw [hbad] at HC
  clear h hL hn hb hbad
  go_enter Try.func12, Try.ntmps12
  go_wp2_with fail
  refine HC.out.mono ?_
  rintro e w1 ⟨rfl, hN1⟩
  have HN1 := Lib.hid hN1
  clear hN1 HC
  go_wp2_with fail
  go_ret
  exact ⟨rfl, HN1.out⟩
theorem keepg {w : World} {g b6 : Nat} {x : Value} {ka va : Value} (h : w.cell? ⟨g, 0, none⟩ = some x ∧ w.cell? ⟨b6, 0, none⟩ = some ka ∧ w.cell? ⟨b6, 1, none⟩ = some va) (w' : World) (hN : New w w') : w'.cell? ⟨g, 0, none⟩ = some x ∧ w'.cell? ⟨b6, 0, none⟩ = some ka ∧ w'.cell? ⟨b6, 1, none⟩ = some va :=
  ⟨hN.cell_ h.1, hN.cell_ h.2.1, hN.cell_ h.2.2⟩
set_option maxRecDepth 100000 in
set_option maxHeartbeats 8000000 in
theorem apply_any {X P : Nat → Prop} {w : World} {base g b m : Nat} {E : Tab} (h : TbIn X w base g b m E) (A : Option Addr) (n c : Nat) (L : List Ch) (hR : Rd P w 3 A n (L.flatMap Ch.cells)) (hL : L.length = n) (hin : ∀ c ∈ L, c.In P w) (hP : ∀ k, P k → k ≠ b) (hok : chsOk L = true) (hm : m ≤ 1000000) :
    Calls Try.prog 12 #[.pointer (some ⟨g, 0, none⟩), .slice A n c] w fun e w' => e = .returned .nilIface ∧ ∃ (X' : Nat → Prop) (E' : Tab), TbIn X' w' base g b (m + n) E' ∧ cont E' = doCs (cont E) L ∧ Fr (fun k => k = b) w w' ∧ ∀ k, X' k → X k ∨ w.heap.size ≤ k := by
  obtain ⟨hl1, hl2, hch⟩ := chsOk_spec hok
  have HC := Lib.hid (rights_any A n c L w hR hL (by omega) (fun c hc => by have := hch c hc; unfold maxLen; omega))
  rw [hok] at HC
  have H := Lib.hid h
  have HR := Lib.hid hR
  have HL := Lib.hid hL
  have HI := Lib.hid hin
  have HP := Lib.hid hP
  have HCH := Lib.hid hch
  have hn6 : n ≤ 600 := by omega
  clear h hR hL hin hP hok hl1 hl2 hch
  go_enter Try.func12, Try.ntmps12
  go_wp2_with fail
  refine HC.out.mono ?_
  rintro e w1 ⟨rfl, hN1⟩
  have HN1 := Lib.hid hN1
  have H1 := Lib.hid (H.out.new hN1)
  have HR1 := Lib.hid (hN1.rd HR.out)
  have HI1 : Hid (∀ c ∈ L, c.In P w1) := Lib.hid (fun c hc => (HI.out c hc).new HN1.out)
  clear hN1 HC
  go_wp2_with fail
  go_loopw [18] (fun ix wr => ∃ (j : Nat) (X' : Nat → Prop) (E' : Tab), j ≤ n ∧ ix = .int .i64 j ∧ Hid (TbIn X' wr base g b (m + j) E' ∧ cont E' = doCs (cont E) (L.take j) ∧ Fr (fun k => k = b) w1 wr ∧ ∀ k, X' k → X k ∨ w1.heap.size ≤ k)) (fun ix _ => n - (intOf ix).toNat)
  case atStart => exact ⟨0, X, E, Nat.zero_le _, rfl, Lib.hid ⟨H1.out, rfl, Fr.refl _ _, fun _ => .inl⟩⟩
  case round =>
    obtain ⟨j, X', E', hj, rfl, HS⟩ := hrel
    by_cases hlt : j < n
    · as_aux_lemma =>
      obtain ⟨ga, o, hl, rfl, -, -, hrg⟩ := rd_row (f := Ch.cells) (L := L) (fun _ => rfl) (by omega) (HR1.out.fr HS.out.2.2.1 (fun k hk hs => HP.out k hk hs)) hlt
      have c0 : wr.cell? ⟨ga, o + j * 3, none⟩ = some (.slice L[j].k.A L[j].k.n L[j].k.c) := hrg 0 _ rfl
      have c1 : wr.cell? ⟨ga, o + j * 3 + 1, none⟩ = some (.slice L[j].v.A L[j].v.n L[j].v.c) := hrg 1 _ rfl
      have c2 : wr.cell? ⟨ga, o + j * 3 + 2, none⟩ = some (.bool L[j].d) := hrg 2 _ rfl
      have hbd := HCH.out L[j] (List.getElem_mem _)
      have hcin := HI1.out L[j] (List.getElem_mem _)
      have hts : L.take (j + 1) = L.take j ++ [L[j]] := List.take_succ_eq_append_getElem hl
      generalize L[j] = x at c0 c1 c2 hbd hcin hts
      obtain ⟨⟨kA, kn, kc, ks⟩, ⟨vA, vn, vc, vs⟩, d⟩ := x
      dsimp only at c0 c1 c2 hbd
      have hj0 : (0 : Int) ≤ (j : Int) := by omega
      have hjn : (j : Int) < (n : Int) := by omega
      have hkr : Fm.In P wr ⟨kA, kn, kc, ks⟩ := hcin.k.fr HS.out.2.2.1 (fun k hk hs => HP.out k hk hs)
      have hvr : Fm.In P wr ⟨vA, vn, vc, vs⟩ := hcin.v.fr HS.out.2.2.1 (fun k hk hs => HP.out k hk hs)
      have HKR := Lib.hid hkr
      have HVR := Lib.hid hvr
      have HTS := Lib.hid hts
      have hkl : ks.length = kn := hkr.len
      have HBD := Lib.hid hbd
      have HKL := Lib.hid hkl
      clear hrg hl hbd hcin hts hkr hvr hkl
      go_upto_region 8 with fail
      obtain ⟨wa, hwa⟩ : ∃ wa : World, wa = wr.alloc (.cells #[.slice kA kn kc, .slice vA vn vc, .bool d] 41) := ⟨_, rfl⟩
      obtain ⟨b6, hb6⟩ : ∃ b6, b6 = wr.heap.size := ⟨_, rfl⟩
      have HNa : Hid (New wr wa) := Lib.hid (by rw [hwa]; exact New.al (New.refl _) _)
      have HB6 : Hid (Blk wa b6 41 #[.slice kA kn kc, .slice vA vn vc, .bool d]) := Lib.hid (by rw [hwa, hb6]; exact Blk.new _ _ _)
      rw [← hwa, ← hb6]
      clear hwa hb6 c0 c1 c2
      have HT := Lib.hid (HS.out.1.new HNa.out)
      have a0 : wa.cell? ⟨b6, 0, none⟩ = some (.slice kA kn kc) := HB6.out.cell 0
      have a1 : wa.cell? ⟨b6, 1, none⟩ = some (.slice vA vn vc) := HB6.out.cell 1
      have a2 : wa.cell? ⟨b6, 2, none⟩ = some (.bool d) := HB6.out.cell 2
      have g0 : wa.cell? ⟨g, 0, none⟩ = some (.map (some b)) := HT.out.blk.cell 0
      have hcv := run_conv (c := kc) (w := wa.drew) (show Rd P wa.drew 1 kA kn (u8s ks) from (New.dr HNa.out).rd HKR.out.rd)
      obtain ⟨f, hM, hf1, hf2⟩ := HT.out.map
      have hko := key_of (xs := ks) (by have := HBD.out.2.1; have := HKL.out; omega)
      obtain ⟨st, hst⟩ : ∃ st, st = strOfNums ks := ⟨_, rfl⟩
      rw [← hst] at hcv hko
      have HM : Hid (MapAt wa.drew Try.prog 9 b (m + j) f) := Lib.hid hM
      have HKO := Lib.hid hko
      have HF1 := Lib.hid hf1
      have HF2 := Lib.hid hf2
      have HSTE := Lib.hid hst
      clear hst hM hko hf1 hf2
      cases d
      · have hvl : vn ≤ 16384 := HBD.out.2.2.1
        go_wp2_with fail
        have hSN : ∀ w', New wa w' → (fun w' => w'.cell? ⟨g, 0, none⟩ = some (.map (some b)) ∧ w'.cell? ⟨b6, 0, none⟩ = some (.slice kA kn kc) ∧ w'.cell? ⟨b6, 1, none⟩ = some (.slice vA vn vc) ∧ Rd P w' 1 kA kn (u8s ks)) w' := fun w' hN => ⟨hN.cell_ g0, hN.cell_ a0, hN.cell_ a1, (HNa.out.tr hN).rd HKR.out.rd⟩
        clear hcv
        refine wp_region_T (fun w' => w'.cell? ⟨g, 0, none⟩ = some (.map (some b)) ∧ w'.cell? ⟨b6, 0, none⟩ = some (.slice kA kn kc) ∧ w'.cell? ⟨b6, 1, none⟩ = some (.slice vA vn vc) ∧ Rd P w' 1 kA kn (u8s ks)) 11 (by kernel_rfl) ?_
        refine wpAnyT_take (i := 0) (oi := ⟨_, _, _, _, _, _⟩) (v := .pointer (some ⟨g, 0, none⟩)) rfl (by kernel_rfl) (by kernel_rfl) (by kernel_rfl) (by kernel_rfl) (fun _ _ _ h => h) (Or.inl ⟨by rfl, fun w hSw => by obtain ⟨s1, s2, s3, s4⟩ := hSw; clear s4; go_simp⟩) (hSN _ (New.dr (New.refl _))) ?_
        try simp only [Act.put, List.setIfInBounds_toArray, List.set_cons_zero, List.set_cons_succ]
        refine wpAnyT_take (i := 1) (oi := ⟨_, _, _, _, _, _⟩) (v := .pointer (some ⟨g, 0, none⟩)) rfl (by kernel_rfl) (by kernel_rfl) (by kernel_rfl) (by kernel_rfl) (fun _ _ _ h => h) (Or.inl ⟨by rfl, fun w hSw => by obtain ⟨s1, s2, s3, s4⟩ := hSw; clear s4; go_simp⟩) (hSN _ (New.dr (New.refl _))) ?_
        try simp only [Act.put, List.setIfInBounds_toArray, List.set_cons_zero, List.set_cons_succ]
        refine wpAnyT_take (i := 2) (oi := ⟨_, _, _, _, _, _⟩) (v := .pointer (some ⟨g, 0, none⟩)) rfl (by kernel_rfl) (by kernel_rfl) (by kernel_rfl) (by kernel_rfl) (fun _ _ _ h => h) (Or.inl ⟨by rfl, fun w hSw => by obtain ⟨s1, s2, s3, s4⟩ := hSw; clear s4; go_simp⟩) (hSN _ (New.dr (New.refl _))) ?_
        try simp only [Act.put, List.setIfInBounds_toArray, List.set_cons_zero, List.set_cons_succ]
        refine wpAnyT_take (i := 3) (oi := ⟨_, _, _, _, _, _⟩) (v := .map (some b)) rfl (by kernel_rfl) (by kernel_rfl) (by kernel_rfl) (by kernel_rfl) (fun _ _ _ h => h) (Or.inl ⟨by rfl, fun w hSw => by obtain ⟨s1, s2, s3, s4⟩ := hSw; clear s4; go_simp⟩) (hSN _ (New.dr (New.refl _))) ?_
        try simp only [Act.put, List.setIfInBounds_toArray, List.set_cons_zero, List.set_cons_succ]
        refine wpAnyT_take (i := 4) (oi := ⟨_, _, _, _, _, _⟩) (v := .pointer (some ⟨b6, 0, none⟩)) rfl (by kernel_rfl) (by kernel_rfl) (by kernel_rfl) (by kernel_rfl) (fun _ _ _ h => h) (Or.inl ⟨by rfl, fun w hSw => by obtain ⟨s1, s2, s3, s4⟩ := hSw; clear s4; go_simp⟩) (hSN _ (New.dr (New.refl _))) ?_
        try simp only [Act.put, List.setIfInBounds_toArray, List.set_cons_zero, List.set_cons_succ]
        refine wpAnyT_take (i := 5) (oi := ⟨_, _, _, _, _, _⟩) (v := .slice kA kn kc) rfl (by kernel_rfl) (by kernel_rfl) (by kernel_rfl) (by kernel_rfl) (fun _ _ _ h => h) (Or.inl ⟨by rfl, fun w hSw => by obtain ⟨s1, s2, s3, s4⟩ := hSw; clear s4; go_simp⟩) (hSN _ (New.dr (New.refl _))) ?_
        try simp only [Act.put, List.setIfInBounds_toArray, List.set_cons_zero, List.set_cons_succ]
        refine wpAnyT_take (i := 6) (oi := ⟨_, _, _, _, _, _⟩) (v := .string st) rfl (by kernel_rfl) (by kernel_rfl) (by kernel_rfl) (by kernel_rfl) (fun _ _ _ h => h) (Or.inl ⟨by rfl, fun w hSw => by have s4 := run_conv (c := kc) hSw.2.2.2; rw [← HSTE.out] at s4; go_simp⟩) (hSN _ (New.dr (New.refl _))) ?_
        try simp only [Act.put, List.setIfInBounds_toArray, List.set_cons_zero, List.set_cons_succ]
        refine wpAnyT_take (i := 8) (oi := ⟨_, _, _, _, _, _⟩) (v := .pointer (some ⟨b6, 1, none⟩)) rfl (by kernel_rfl) (by kernel_rfl) (by kernel_rfl) (by kernel_rfl) (fun _ _ _ h => h) (Or.inl ⟨by rfl, fun w hSw => by obtain ⟨s1, s2, s3, s4⟩ := hSw; clear s4; go_simp⟩) (hSN _ (New.dr (New.refl _))) ?_
        try simp only [Act.put, List.setIfInBounds_toArray, List.set_cons_zero, List.set_cons_succ]
        refine wpAnyT_take (i := 9) (oi := ⟨_, _, _, _, _, _⟩) (v := .slice vA vn vc) rfl (by kernel_rfl) (by kernel_rfl) (by kernel_rfl) (by kernel_rfl) (fun _ _ _ h => h) (Or.inl ⟨by rfl, fun w hSw => by obtain ⟨s1, s2, s3, s4⟩ := hSw; clear s4; go_simp⟩) (hSN _ (New.dr (New.refl _))) ?_
        try simp only [Act.put, List.setIfInBounds_toArray, List.set_cons_zero, List.set_cons_succ]
        refine wpAnyT_ready (rs := [7]) (by kernel_rfl) (by simp) (AllT.cons (i := 7) (o := ⟨_, _, _, _, _, _⟩) rfl (fun K hK => ?_) AllT.nil)
        go_simp
        try simp only [Act.put, List.setIfInBounds_toArray, List.set_cons_zero, List.set_cons_succ]
        refine hK.out _ _ (fun _ => hSN _ (by repeat (first | exact New.refl _ | refine New.dr ?_ | refine New.al ?_ _))) ?_
        refine wpAnyT_ready (rs := [10]) (by kernel_rfl) (by simp) (AllT.cons (i := 10) (o := ⟨_, _, _, _, _, _⟩) rfl (fun K hK => ?_) AllT.nil)
        refine step_app elB _ (by rfl) (.tmp 38) (.tmp 40) (by rfl) wa.heap.size (.slice (some ⟨wa.heap.size, 0, none⟩) 0 0) 0 [] (by rfl) (own_lit (Blk.new wa.drew 5 #[]) (Nat.le_refl _)) vA vn vc (u8s vs) (by rfl) ((New.al (New.dr HNa.out) _).rd HVR.out.rd) (u8s_one vs) (by unfold maxLen; omega) (by omega) (by simp) ?_
        intro A5 d5 w5 hO5 hF5 hA5
        have hN5 : New wa w5 := (New.al (New.dr (New.refl wa)) _).fr hF5 (by intro k hk; simp [Value.ownBlock] at hk; omega)
        rw [Nat.zero_add, List.nil_append] at hO5
        rw [Nat.zero_add]
        have HN5 := Lib.hid hN5
        have HO5 := Lib.hid hO5
        clear hN5 hO5 hF5 hA5
        try simp only [Act.put, List.setIfInBounds_toArray, List.set_cons_zero, List.set_cons_succ]
        refine hK.out _ _ (fun _ => hSN _ (New.tr (New.refl _) HN5.out)) ?_
        refine wpAnyT_ready (rs := [11]) (by kernel_rfl) (by simp) (AllT.cons (i := 11) (o := ⟨_, _, _, _, _, _⟩) rfl (fun K hK => ?_) AllT.nil)
        obtain ⟨w6, hrun, hM6, hF6⟩ := MapAt.store (t := 67) ((show MapAt w5 Try.prog 9 b (m + j) f from MapAt.fr (w := wa) HM.out (HN5.out.toFr NoB) (fun x => x))) keyS Try.underlying67 (by unfold maxLen; omega) HKO.out (.slice A5 vn d5)
        have HM6 := Lib.hid hM6
        have HF6 := Lib.hid hF6
        clear hM6 hF6
        go_simp
        try simp only [Act.put, List.setIfInBounds_toArray, List.set_cons_zero, List.set_cons_succ]
        refine hK.out _ _ (fun h => absurd rfl h) ?_
        refine wpAnyT_done (by kernel_rfl) ?_ _
        go_wp2_with fail
        go_roundw
        case rel =>
          have hT5 := HT.out.new HN5.out
          have hle : ∀ k, (Value.slice A5 vn d5).ownBlock = some k → wa.heap.size ≤ k ∧ k < w5.heap.size := fun k hk => own_lt HO5.out k hk
          have hbk : ∀ k, (Value.slice A5 vn d5).ownBlock = some k → k ≠ b := fun k hk => by
            have h1 := (hle k hk).1
            have h2 := HT.out.blt
            omega
          have hv : Fm.In (fun k => (Value.slice A5 vn d5).ownBlock = some k) w6 ⟨A5, vn, d5, vs⟩ := ⟨(Rd.own HO5.out rfl).fr HF6.out (fun k hk e => hbk k hk e), HVR.out.byt⟩
          have hbase : base ≤ wa.heap.size := Nat.le_trans HT.out.lb (Nat.le_of_lt HT.out.blt)
          have ht := hT5.put HKR.out.byt (by show ks.length ≤ 16; have h16 : kn ≤ 16 := HBD.out.2.1; have := HKL.out; omega) HF1.out HF2.out HM6.out HF6.out hv (by exact hvl) (fun k hk => ⟨Nat.le_trans hbase (hle k hk).1, (own_isT HO5.out hk).fr HF6.out (fun e => hbk k hk e)⟩)
          refine ⟨j + 1, _, tput E' ks ⟨A5, vn, d5, vs⟩, by omega, by go_num, Lib.hid ⟨ht, ?_, HS.out.2.2.1.trans ((HNa.out.toFr _).trans ((HN5.out.toFr _).trans HF6.out)), ?_⟩⟩
          · rw [cont_put, HS.out.2.1, HTS.out, do_snoc]
            rfl
          · rintro k (hk | hk)
            · exact HS.out.2.2.2 k hk
            · have h1 := (hle k hk).1
              have h2 := HNa.out.size
              have h3 := HS.out.2.2.1.size
              exact .inr (by omega)
        case measure => simp [intOf]; omega
      · go_wp2_with fail
        go_region_law (refine step_mdel HM.out keyS Try.underlying67 rfl (.tmp 27) (.tmp 30) rfl (by simp [Act.eval, Act.put]) (.string st) (key ks) (by simp [Act.eval, Act.put]) HKO.out ?_; intro w3 hM3 hF3)
        all_goals
          have HM3 := Lib.hid hM3
          have HF3 : Hid (Fr (fun k => k = b) wa w3) := Lib.hid (Fr.ofDrew hF3)
          clear hM3 hF3
          go_wp2_with fail
          go_roundw
          case rel =>
            refine ⟨j + 1, X', tdel E' ks, by omega, by go_num, Lib.hid ⟨?_, ?_, HS.out.2.2.1.trans ((HNa.out.toFr _).trans HF3.out), HS.out.2.2.2⟩⟩
            · have ht := HT.out.del HKR.out.byt HF1.out HF2.out HM3.out HF3.out
              obtain ⟨f', hm', r'⟩ := ht.map
              exact ⟨ht.blk, ⟨f', hm'.mono (by omega), r'⟩, ht.nd, ht.el, ht.gb, ht.lb, ht.xs⟩
            · rw [cont_del, HS.out.2.1, HTS.out, do_snoc]
              rfl
          case measure => simp [intOf]; omega
    · as_aux_lemma =>
      obtain rfl : j = n := by omega
      go_wp2_with fail
      go_ret
      obtain ⟨h1, h2, h3, h4⟩ := HS.out
      rw [List.take_of_length_le (by rw [HL.out]; exact Nat.le_refl _)] at h2
      exact ⟨rfl, X', E', h1, h2, (HN1.out.toFr _).trans h3, fun k hk => (h4 k hk).imp id (fun e => Nat.le_trans HN1.out.size e)⟩
end Go.Proofs.Ytfhinmjpokollaa
/- A range over a function that hands out memory made in the round: an own law for an outermost loop whose rounds all go on. The round is asked only where what is handed out is 'Good' in the world of that round. No condition. -/
namespace Go.Proofs.Ytfhinmjpokollaa
set_option linter.unusedVariables false
set_option linter.unusedSimpArgs false
set_option linter.constructorNameAsVariable false
open Go.RowKit

/-- What a round keeps beside what it is said to keep: all that is no cells, from block B on. -/
structure Kept (B : Nat) (W W' : World) : Prop where
  size : W.heap.size ≤ W'.heap.size
  rest : ∀ (k : Nat) (o : Obj), B ≤ k → W.heap[k]? = some o → o.isCells = false → W'.heap[k]? = some o
section
variable {B : Nat} {A W W' : World}
theorem Kept.refl (B : Nat) (W : World) : Kept B W W := ⟨Nat.le_refl _, fun _ _ _ h _ => h⟩
theorem Kept.tr (h : Kept B A W) (k : Kept B W W') : Kept B A W' := ⟨Nat.le_trans h.size k.size, fun i o hi ho hc => k.rest i o hi (h.rest i o hi ho hc) hc⟩
theorem Kept.new (h : New W W') : Kept B W W' := ⟨h.size, fun k o _ ho _ => (h.block k (Array.getElem?_eq_some_iff.1 ho).1).trans ho⟩
theorem Kept.fr {S : Nat → Prop} (h : Fr S W W') (hS : ∀ k o, B ≤ k → S k → W.heap[k]? = some o → o.isCells = true) : Kept B W W' :=
  ⟨h.size, fun k o hb ho hc => (h.block k (Array.getElem?_eq_some_iff.1 ho).1 (fun hs => by have := hS k o hb hs ho; rw [hc] at this; cases this)).trans ho⟩
end
/-- An iterator all of whose elements come, one by one; each is good where it comes. -/
def GivesR {α : Type} (R : List α → α → Prop) (P : Program) (gf : Nat) (lb : Array Value) (encs : α → Array Value) (Good : α → World → Prop) (Kp : World → World → Prop) (S : List α → Prop) (M : Nat) (w : World) : Prop :=
  ∀ (l : Nat) (J : List α → World → Prop) (W : World), New w W → (∀ s A B, J s A → New A B → J s B) →
    (∀ pre x W1, pre.length < M → J pre W1 → Good x W1 → R pre x → YieldAt Fence.wide 2 P l (encs x) W1 fun e W' => e = .returned (.bool true) ∧ J (pre ++ [x]) W' ∧ Kp W1 W') →
    J [] W → CallsIn Fence.wide 2 P gf (#[.func (.yield l) #[] #[]] ++ lb) W fun e W' => (∃ v, e = .returned v) ∧ ∃ xs, S xs ∧ J xs W'
def Gives {α : Type} (P : Program) (gf : Nat) (lb : Array Value) (encs : α → Array Value) (Good : α → World → Prop) (Kp : World → World → Prop) (S : List α → Prop) (M : Nat) (w : World) : Prop :=
  GivesR (fun _ _ => True) P gf lb encs Good Kp S M w
theorem GivesR.gives {α : Type} {R : List α → α → Prop} {P : Program} {gf : Nat} {lb : Array Value} {encs : α → Array Value} {Good : α → World → Prop} {Kp : World → World → Prop} {S : List α → Prop} {M : Nat} {w : World} (h : GivesR R P gf lb encs Good Kp S M w) : Gives P gf lb encs Good Kp S M w :=
  fun l J W hN hJ hY h0 => h l J W hN hJ (fun pre x W1 h1 h2 h3 _ => hY pre x W1 h1 h2 h3 trivial) h0

/-- A block that is no cells, put anew. -/
def Puts (B : Nat) (W W' : World) : Prop := ∃ l o o', B ≤ l ∧ W.heap[l]? = some o ∧ o.isCells = false ∧ W' = W.putObj l o'

theorem wp_rangeR {α : Type} {R : List α → α → Prop} {P : Program} {g : Operand} {ps : Array Tmp} {assign body : Code} {Q : Exit → Act → World → Prop} {a : Act} {w : World}
    {gf : Nat} {lb : Array Value} (hg : a.eval g = .func (.func gf) #[] lb) (eg : ∀ args w, (callFunc gf args).run P w = .ok (.enter gf args) w)
    (encs : α → Array Value) (hps : ∀ x, (encs x).size = ps.size) {Good : α → World → Prop} {Kp : World → World → Prop} {S : List α → Prop} {M : Nat} (hseq : GivesR R P gf lb encs Good Kp S M w)
    (hGp : ∀ x W W', Good x W → Puts w.heap.size W W' → Good x W') (hKt : ∀ {A B C : World}, Kp A B → Kp B C → Kp A C) (hKp : ∀ W W', Puts w.heap.size W W' → Kp W W')
    (I : List α → World → Prop) (hIn : ∀ s A B, I s A → New A B → I s B) (hIp : ∀ s A B, I s A → Puts w.heap.size A B → I s B) (h0 : I [] w) (a1 : α → Act)
    (hassign : ∀ (l : Nat) (x : α) (W : World) (K : Act → World → Prop), K (a1 x) W → assign.wpIn (Fence.wide.inRound l) 2 P (Exit.then K (fun _ _ _ => False)) { tmps := (ps.zip (encs x)).foldl (fun t (p, v) => t.setIfInBounds p v) a.tmps, defers := [] } W)
    (hbody : ∀ (l : Nat) (pre : List α) (x : α) (W : World), pre.length < M → I pre W → Good x W → R pre x → body.wpIn (Fence.wide.inRound l) 2 P (fun e _ W' => e = .normal ∧ Kept w.heap.size W W' ∧ Kp W W' ∧ I (pre ++ [x]) W') (a1 x) W)
    (hdone : ∀ (D : Nat) (xs : List α) (W : World), w.heap.size ≤ D → S xs → I xs W → W.heap[D]? = some (.deferred (some [])) → Q .normal { a with defers := { target := .collected D, args := #[] } :: a.defers } W) :
    (Code.rangeFunc g ps assign body).wp P Q a w := by
  refine (wpIn_wide (n := 3)).1 ?_
  refine wpIn_rangeFunc fun fn hfn => ?_
  -- the two blocks of the loop
  obtain ⟨rc, hrc⟩ : ∃ rc : LoopState → Option Code → Loop, rc = fun st pe => { state := st, pending := pe, fn, tmps := a.tmps, params := ps, assign, body, defers := w.heap.size } := ⟨_, rfl⟩
  obtain ⟨w1, hw1⟩ : ∃ w1, w1 = (w.alloc (.deferred (some []))).alloc (.loop (rc .ready none)) := ⟨_, rfl⟩
  have hn1 : New w w1 := by rw [hw1]; exact New.al (New.al (New.refl w) _) _
  have hl1 : w1.heap[w.heap.size + 1]? = some (.loop (rc .ready none)) := by
    rw [hw1]
    have := World.alloc_heap_new (w.alloc (.deferred (some []))) (.loop (rc .ready none))
    rwa [World.size_alloc] at this
  have hd1 : w1.heap[w.heap.size]? = some (.deferred (some [])) := by
    rw [hw1]
    exact (Below.heap_alloc _ _ _ (by simp)).trans (World.alloc_heap_new w _)
  refine ⟨w.heap.size + 1, [{ target := .collected w.heap.size, args := #[] }], w1, { target := .fn (.func gf) lb, args := #[.func (.yield (w.heap.size + 1)) #[] #[]] }, w1, gf, #[.func (.yield (w.heap.size + 1)) #[] #[]] ++ lb, w1, ?_, ?_, fun _ _ => trivial, ?_, fun _ => by decide, ?_⟩
  · rw [hw1, hrc]
    exact run_enterLoop_outer _ _ _ _ _
  · simp only [resolve, hg]
    simp [go_sem]
  · simp [invoke, go_sem, eg]
  -- the record between two rounds
  have put : ∀ (W : World) (r r' : Loop), W.heap[w.heap.size + 1]? = some (.loop r) → Puts w.heap.size W (W.putObj (w.heap.size + 1) (.loop r')) := fun W r r' h => ⟨_, _, _, by omega, h, rfl, rfl⟩
  refine (hseq (w.heap.size + 1) (fun pre W => I pre W ∧ W.heap[w.heap.size + 1]? = some (.loop (rc .ready none)) ∧ W.heap[w.heap.size]? = some (.deferred (some []))) w1 hn1 ?_ ?_ ⟨hIn _ _ _ h0 hn1, hl1, hd1⟩).mono ?_
  · rintro s A B ⟨hi, hl, hd⟩ hN
    exact ⟨hIn s A B hi hN, (hN.block _ (Array.getElem?_eq_some_iff.1 hl).1).trans hl, (hN.block _ (Array.getElem?_eq_some_iff.1 hd).1).trans hd⟩
  · rintro pre x W hpl ⟨hi, hl, hd⟩ hgood hRx
    have hlt := (Array.getElem?_eq_some_iff.1 hl).1
    have hy := run_yield (P := P) (args := encs x) hl (by rw [hrc]; exact hps x)
    rw [hrc] at hy
    refine ⟨fn, _, assign, body, hy, roundIn_of_wpIn hfn (hassign _ x W _ ⟨_, run_beginRound hl (by rw [hrc]), ?_⟩)⟩
    obtain ⟨W2, hW2⟩ : ∃ W2, W2 = W.putObj (w.heap.size + 1) (.loop { rc .ready none with state := .busy }) := ⟨_, rfl⟩
    have hP2 : Puts w.heap.size W W2 := by rw [hW2]; exact put W _ _ hl
    have hl2 : W2.heap[w.heap.size + 1]? = some (.loop { rc .ready none with state := .busy }) := by rw [hW2]; exact World.putObj_heap_same hlt
    have hd2 : W2.heap[w.heap.size]? = some (.deferred (some [])) := by rw [hW2]; exact (World.putObj_heap_other (by omega)).trans hd
    rw [← hW2]
    refine wpIn_mono (hbody _ pre x W2 hpl (hIp _ _ _ hi hP2) (hGp _ _ _ hgood hP2) hRx) ?_
    rintro e a3 W3 ⟨rfl, hk3, hkp3, hi3⟩
    have hl3 := hk3.rest _ _ (by omega) hl2 rfl
    have hd3 := hk3.rest _ _ (Nat.le_refl _) hd2 rfl
    have hr := run_endRound (P := P) none hl3
    have hP3 := put W3 _ { rc .ready none with state := (if (none : Option Code).isNone then .ready else .done), pending := none } hl3
    refine ⟨_, _, hr, rfl, ⟨hIp _ _ _ hi3 hP3, ?_, (World.putObj_heap_other (by omega)).trans hd3⟩, hKt (hKp _ _ hP2) (hKt hkp3 (hKp _ _ hP3))⟩
    rw [World.putObj_heap_same (Array.getElem?_eq_some_iff.1 hl3).1, hrc]
    rfl
  · rintro e W2 ⟨⟨v, rfl⟩, xs, hS, hi, hl, hd⟩
    have hend := run_endLoop (P := P) hl (by rw [hrc]; simp)
    rw [hrc] at hend
    exact ⟨none, _, hend, hdone _ xs _ (Nat.le_refl _) hS (hIp _ _ _ hi (put W2 _ _ hl)) ((World.putObj_heap_other (by omega)).trans hd)⟩

theorem wp_range {α : Type} {P : Program} {g : Operand} {ps : Array Tmp} {assign body : Code} {Q : Exit → Act → World → Prop} {a : Act} {w : World}
    {gf : Nat} {lb : Array Value} (hg : a.eval g = .func (.func gf) #[] lb) (eg : ∀ args w, (callFunc gf args).run P w = .ok (.enter gf args) w)
    (encs : α → Array Value) (hps : ∀ x, (encs x).size = ps.size) {Good : α → World → Prop} {Kp : World → World → Prop} {S : List α → Prop} {M : Nat} (hseq : Gives P gf lb encs Good Kp S M w)
    (hGp : ∀ x W W', Good x W → Puts w.heap.size W W' → Good x W') (hKt : ∀ {A B C : World}, Kp A B → Kp B C → Kp A C) (hKp : ∀ W W', Puts w.heap.size W W' → Kp W W')
    (I : List α → World → Prop) (hIn : ∀ s A B, I s A → New A B → I s B) (hIp : ∀ s A B, I s A → Puts w.heap.size A B → I s B) (h0 : I [] w) (a1 : α → Act)
    (hassign : ∀ (l : Nat) (x : α) (W : World) (K : Act → World → Prop), K (a1 x) W → assign.wpIn (Fence.wide.inRound l) 2 P (Exit.then K (fun _ _ _ => False)) { tmps := (ps.zip (encs x)).foldl (fun t (p, v) => t.setIfInBounds p v) a.tmps, defers := [] } W)
    (hbody : ∀ (l : Nat) (pre : List α) (x : α) (W : World), pre.length < M → I pre W → Good x W → body.wpIn (Fence.wide.inRound l) 2 P (fun e _ W' => e = .normal ∧ Kept w.heap.size W W' ∧ Kp W W' ∧ I (pre ++ [x]) W') (a1 x) W)
    (hdone : ∀ (D : Nat) (xs : List α) (W : World), w.heap.size ≤ D → S xs → I xs W → W.heap[D]? = some (.deferred (some [])) → Q .normal { a with defers := { target := .collected D, args := #[] } :: a.defers } W) :
    (Code.rangeFunc g ps assign body).wp P Q a w :=
  wp_rangeR hg eg encs hps hseq hGp hKt hKp I hIn hIp h0 a1 hassign (fun l pre x W h1 h2 h3 _ => hbody l pre x W h1 h2 h3) hdone

/-! ### Marks that loops have left among a frame's deferred calls -/
def mk1 (D : Nat) : Deferred := { target := .collected D, args := #[] }
/-- Loops' marks, each with its block in the heap, none below B. -/
def Marks (B : Nat) (Ds : List Nat) (W : World) : Prop := Ds.Nodup ∧ ∀ D ∈ Ds, B ≤ D ∧ W.heap[D]? = some (.deferred (some []))
section
variable {B : Nat} {Ds : List Nat} {W W' : World}
theorem Marks.nil (B : Nat) (W : World) : Marks B [] W := ⟨List.nodup_nil, fun D h => by cases h⟩
theorem Marks.kept (h : Marks B Ds W) (hk : Kept B W W') : Marks B Ds W' := ⟨h.1, fun D hD => ⟨(h.2 D hD).1, hk.rest D _ (h.2 D hD).1 (h.2 D hD).2 rfl⟩⟩
theorem Marks.lt (h : Marks B Ds W) {D : Nat} (hD : D ∈ Ds) : D < W.heap.size := (Array.getElem?_eq_some_iff.1 (h.2 D hD).2).1
theorem Marks.cons (h : Marks B Ds W) {D : Nat} (h0 : ∀ k ∈ Ds, k < D) (hB : B ≤ D) (hd : W.heap[D]? = some (.deferred (some []))) : Marks B (D :: Ds) W :=
  ⟨List.nodup_cons.2 ⟨fun hm => by have := h0 D hm; omega, h.1⟩, fun k hk => by
    rcases List.mem_cons.1 hk with rfl | hk
    · exact ⟨hB, hd⟩
    · exact h.2 k hk⟩
/-- The blocks of the marks are shut; nothing else turns. -/
structure Shut (B : Nat) (W W' : World) : Prop where
  below : Below B W W'
  cells : ∀ (k : Nat) (o : Obj), W.heap[k]? = some o → o.isCells = true → W'.heap[k]? = some o
theorem Shut.refl (B : Nat) (W : World) : Shut B W W := ⟨Below.refl _ _, fun _ _ h _ => h⟩
theorem leaves_marks {F : Fence} {n : Nat} {P : Program} {fn : Func} {tmps : Array Value} {R : Ending → World → Prop} : ∀ (Ds : List Nat) (W : World), Marks B Ds W →
    (∀ W', Shut B W W' → ∃ v, (results fn tmps).run P W' = .ok v W' ∧ R (.returned v) W') → LeavesInM F n P fn tmps R (Ds.map mk1) .returning W := by
  intro Ds
  induction Ds with
  | nil => exact fun W _ h => h W (Shut.refl B W)
  | cons D Ds ih =>
    intro W hM h
    have hD := hM.2 D (by simp)
    have hlt := hM.lt (D := D) (by simp)
    have hn := List.nodup_cons.1 hM.1
    refine ⟨by simp, .inl ⟨D, _, rfl, run_takeDeferred hD.2, ih _ ⟨hn.2, fun k hk => ⟨(hM.2 k (by simp [hk])).1, ?_⟩⟩ ?_⟩⟩
    · have hkd : k ≠ D := fun e => hn.1 (by rw [← e]; exact hk)
      exact (World.putObj_heap_other hkd).trans (hM.2 k (by simp [hk])).2
    · intro W' hS
      refine h W' ⟨((Below.refl B W).grown (grownBy_putObj' W D (.deferred none)) (by omega) (fun k e => by cases e; exact hD.1)).trans hS.below, fun k o ho hc => hS.cells k o ?_ hc⟩
      refine (World.putObj_heap_other (fun e => ?_)).trans ho
      rw [e, hD.2] at ho
      cases ho
      cases hc
end
end Go.Proofs.Ytfhinmjpokollaa
/- More of ranges over a function: what a block that is put anew leaves, marks, cuts. No condition. -/
namespace Go.Proofs.Ytfhinmjpokollaa
set_option linter.unusedVariables false
set_option linter.unusedSimpArgs false
set_option linter.constructorNameAsVariable false
open Go.RowKit

section
variable {B : Nat} {W W' : World}
theorem Puts.keep {k : Nat} {o : Obj} (h : Puts B W W') (hk : W.heap[k]? = some o) (hc : o.isCells = true) : W'.heap[k]? = some o := by
  obtain ⟨l, o1, o', -, hl, ho, rfl⟩ := h
  refine (World.putObj_heap_other fun e => ?_).trans hk
  rw [e, hl] at hk
  injection hk with hk
  rw [hk, hc] at ho
  cases ho
theorem Puts.blk {g : Nat} {t : TypeId} {cs : Array Value} (h : Puts B W W') (hb : Blk W g t cs) : Blk W' g t cs := h.keep hb rfl
theorem Puts.fr {S : Nat → Prop} (h : Puts B W W') (hS : ∀ j, B ≤ j → S j) : Fr S W W' := by
  obtain ⟨l, o1, o', hB, hl, ho, rfl⟩ := h
  exact ⟨rfl, rfl, rfl, by simp, fun k _ hk => World.putObj_heap_other (fun e => hk (e ▸ hS _ hB))⟩
theorem Puts.own {base e size n : Nat} {v : Value} {xs : List Value} (h : Puts B W W') (ho : W.ownsRow base e size v n xs) : W'.ownsRow base e size v n xs := by
  refine ⟨ho.1, ?_⟩
  rcases ho.2 with h2 | ⟨g, cap, cur, rfl, hb, hh, rest⟩
  · exact .inl h2
  · exact .inr ⟨g, cap, cur, rfl, hb, h.keep hh rfl, rest⟩
theorem Marks.fr {B : Nat} {Ds : List Nat} {S : Nat → Prop} (h : Marks B Ds W) (hF : Fr S W W') (hS : ∀ D, S D → ¬ W.heap[D]? = some (.deferred (some []))) : Marks B Ds W' :=
  ⟨h.1, fun D hD => ⟨(h.2 D hD).1, (hF.block D (h.lt hD) (fun hs => hS D hs (h.2 D hD).2)).trans (h.2 D hD).2⟩⟩
theorem Marks.new {B : Nat} {Ds : List Nat} (h : Marks B Ds W) (hN : New W W') : Marks B Ds W' := h.fr (S := NoB) (hN.toFr _) (fun _ x => x.elim)
theorem Marks.keep {B : Nat} {Ds : List Nat} {S : Nat → Prop} (h : Marks B Ds W) (hF : Fr S W W') (hS : ∀ j, S j → W.heap.size ≤ j) : Marks B Ds W' :=
  ⟨h.1, fun D hD => ⟨(h.2 D hD).1, (hF.block D (h.lt hD) (fun hs => by have := hS D hs; have := h.lt hD; omega)).trans (h.2 D hD).2⟩⟩
end
theorem not_def_blk {W : World} {k t : Nat} {cs : Array Value} (h : Blk W k t cs) : ¬ W.heap[k]? = some (.deferred (some [])) := by
  intro e
  unfold Blk at h
  rw [h] at e
  cases e
theorem wp_only {P : Program} {c : Code} {K : Act → World → Prop} {Q0 : Exit → Act → World → Prop} {a : Act} {w : World} (h : c.wp P (Exit.then K fun _ _ _ => False) a w) : c.wp P (Exit.then K Q0) a w :=
  wp_mono h fun e a' w' hq => by
    cases e <;> first | exact hq | exact hq.elim
theorem wp_sw {P : Program} {c : Code} {Q : Exit → Act → World → Prop} {a : Act} {w : World} (R : Act → World → Prop) (h1 : ∀ a' w', R a' w' → Q .normal a' w')
    (h2 : ∀ K' : Act → World → Prop, (∀ a' w', R a' w' → K' a' w') → c.wp P (Exit.then K' fun _ _ _ => False) a w) : c.wp P Q a w :=
  wp_mono (h2 (fun a w => Q .normal a w) h1) fun e a' w' hq => by
    cases e <;> first | exact hq | exact hq.elim
end Go.Proofs.Ytfhinmjpokollaa
