/- Tables: in memory, in plain words; New, a right batch done, the keys. No condition but that all can be read. -/
import Derived.Test.YtfhinmjpokollaaKvP
import Derived.Test.YtfhinmjpokollaaKeys
import Derived.Test.YtfhinmjpokollaaNum
import Derived.Test.YtfhinmjpokollaaTyp
import Derived.Deep.RegionHeld3
import Derived.TacticsInMore
namespace Go.Proofs.Ytfhinmjpokollaa
set_option linter.unusedVariables false
set_option linter.unusedSimpArgs false
set_option linter.constructorNameAsVariable false
open Go.RowKit Go.Maps Go.Sort

def key (xs : List Int) : Lit := .string (strOfNums xs).data.toList
theorem key_inj {xs ys : List Int} (hx : Byt xs) (hy : Byt ys) (h : key xs = key ys) : xs = ys := by
  have := str_inj hx hy
  unfold key at h
  injection h with h
  have e : (strOfNums xs).toList = (strOfNums ys).toList := by
    have : strOfNums xs = strOfNums ys := by
      have : (strOfNums xs).data = (strOfNums ys).data := Array.toList_inj.1 h
      exact ByteArray.ext this
    rw [this]
  simpa [e] using this
theorem keyS : Keyed Try.prog 9 := string_keyed Try.underlying9
theorem key_of {xs : List Int} (h : xs.length ≤ 1000000) : keyOf Try.prog 9 (.string (strOfNums xs)) = some (key xs) :=
  Go.WideMaps.keyOf_string_mk Try.underlying9 (by rw [strOfNums_size]; unfold maxLen; omega)

/-- A table in plain words: values by keys, each key once. -/
abbrev Tab := List (List Int × Fm)
def tdel (E : Tab) (k : List Int) : Tab := E.filter fun e => decide (e.1 ≠ k)
def tput (E : Tab) (k : List Int) (v : Fm) : Tab := tdel E k ++ [(k, v)]
theorem lookup_del (E : Tab) (k ys : List Int) : (tdel E k).lookup ys = if ys = k then none else E.lookup ys := by
  unfold tdel
  induction E with
  | nil => simp
  | cons e E ih =>
    obtain ⟨x, v⟩ := e
    by_cases hx : x = k
    · rw [List.filter_cons_of_neg (by simp [hx]), ih]
      by_cases hy : ys = k
      · rw [if_pos hy, if_pos hy]
      · rw [if_neg hy, if_neg hy, List.lookup_cons]
        have : (ys == x) = false := by simp; intro h; exact hy (h.trans hx)
        rw [this]
    · rw [List.filter_cons_of_pos (by simp [hx]), List.lookup_cons, List.lookup_cons, ih]
      by_cases hy : ys = x
      · have : ¬ ys = k := fun h => hx (hy.symm.trans h)
        simp [hy, hx]
      · have : (ys == x) = false := by simpa using hy
        rw [this]
theorem lookup_put (E : Tab) (k ys : List Int) (v : Fm) : (tput E k v).lookup ys = if ys = k then some v else E.lookup ys := by
  unfold tput
  rw [List.lookup_append, lookup_del]
  by_cases hy : ys = k
  · subst hy; simp
  · rw [if_neg hy, if_neg hy]
    have : (ys == k) = false := by simpa using hy
    show (E.lookup ys).or (match ys == k with | true => some v | false => none) = _
    rw [this]
    cases E.lookup ys <;> rfl
theorem nd_del {E : Tab} (h : (E.map Prod.fst).Nodup) (k : List Int) : ((tdel E k).map Prod.fst).Nodup := (List.Sublist.map _ List.filter_sublist).nodup h
theorem nd_put {E : Tab} (h : (E.map Prod.fst).Nodup) (k : List Int) (v : Fm) : ((tput E k v).map Prod.fst).Nodup := by
  unfold tput
  rw [List.map_append, List.nodup_append]
  refine ⟨nd_del h k, by simp, fun x hx y hy e => ?_⟩
  simp at hy
  subst hy e
  simp [tdel] at hx
theorem mem_del {E : Tab} {k : List Int} {e : List Int × Fm} (h : e ∈ tdel E k) : e ∈ E := (List.mem_filter.1 h).1
theorem mem_put {E : Tab} {k : List Int} {v : Fm} {e : List Int × Fm} (h : e ∈ tput E k v) : e ∈ E ∨ e = (k, v) := by
  rcases List.mem_append.1 h with h | h
  · exact .inl (mem_del h)
  · exact .inr (List.mem_singleton.1 h)
/-- A table in memory. -/
structure TbIn (X : Nat → Prop) (w : World) (base g b m : Nat) (E : Tab) : Prop where
  blk : Blk w g 69 #[.map (some b)]
  map : ∃ f, MapAt w Try.prog 9 b m f ∧ (∀ xs, Byt xs → f (key xs) = (E.lookup xs).map Fm.val) ∧ ∀ kl, (f kl).isSome = true → ∃ xs, Byt xs ∧ kl = key xs
  nd : (E.map Prod.fst).Nodup
  el : ∀ e ∈ E, Byt e.1 ∧ e.1.length ≤ 16 ∧ e.2.In X w ∧ e.2.n ≤ 16384
  gb : base ≤ g
  lb : base ≤ b
  xs : ∀ k, X k → base ≤ k ∧ IsT 5 w k
/-- A table's own blocks that are written. -/
def Tw (b : Nat) (k : Nat) : Prop := k = b
section
variable {X : Nat → Prop} {w w' : World} {base g b m : Nat} {E : Tab} {S : Nat → Prop}
theorem Fm.In.fr {P : Nat → Prop} {x : Fm} (h : x.In P w) (hF : Fr S w w') (hS : ∀ k, P k → ¬ S k) : x.In P w' := ⟨h.rd.fr hF hS, h.byt⟩
theorem TbIn.fr (h : TbIn X w base g b m E) (hF : Fr S w w') (h1 : ¬ S g) (h2 : ¬ S b) (h3 : ∀ k, S k → ¬ X k) : TbIn X w' base g b m E := by
  obtain ⟨f, hm, r⟩ := h.map
  exact ⟨h.blk.fr hF h1, ⟨f, hm.fr hF h2, r⟩, h.nd, fun e he => ⟨(h.el e he).1, (h.el e he).2.1, (h.el e he).2.2.1.fr hF (fun k hk hs => h3 k hs hk), (h.el e he).2.2.2⟩, h.gb, h.lb, fun k hk => ⟨(h.xs k hk).1, (h.xs k hk).2.fr hF (fun hs => h3 k hs hk)⟩⟩
theorem TbIn.new (h : TbIn X w base g b m E) (hN : New w w') : TbIn X w' base g b m E := h.fr (hN.toFr NoB) (fun x => x) (fun x => x) (fun _ x => x.elim)
theorem TbIn.blt (h : TbIn X w base g b m E) : b < w.heap.size := by obtain ⟨f, hm, _⟩ := h.map; exact hm.lt
theorem TbIn.gne (h : TbIn X w base g b m E) : g ≠ b := by
  rintro rfl
  obtain ⟨f, ⟨D, ⟨es, clock, hx, _⟩, _⟩, _⟩ := h.map
  have hb := h.blk
  unfold Blk at hb
  rw [hx] at hb
  cases hb
theorem TbIn.bX (h : TbIn X w base g b m E) : ¬ X b := fun hx => by
  obtain ⟨f, hm, _⟩ := h.map
  exact IsT.not_map hm (h.xs b hx).2
theorem TbIn.gX (h : TbIn X w base g b m E) : ¬ X g := fun hx => IsT.not_blk h.blk (by decide) (h.xs g hx).2
end
theorem new_any (base : Nat) (w : World) (hb : base ≤ w.heap.size) : Calls Try.prog 9 #[] w fun e w' => ∃ g b, e = .returned (.pointer (some ⟨g, 0, none⟩)) ∧ TbIn (fun _ => False) w' base g b 0 [] ∧ New w w' ∧ w.heap.size ≤ g ∧ w.heap.size ≤ b := by
  have hmk := @run_makeMap Try.prog
  go_enter Try.func9, Try.ntmps9
  go_wp2_with fail
  go_ret
  refine ⟨w.heap.size + 1, w.heap.size, rfl, ⟨Blk.new' _ _ _ (by simp), ⟨fun _ => none, (MapAt.made w Try.prog 9).alloc _, fun xs _ => by simp, fun kl h => by simp at h⟩, by simp, (fun e he => by cases he), (by omega), hb, fun k hk => hk.elim⟩, New.al (New.al (New.refl _) _) _, by omega, Nat.le_refl _⟩
theorem strs_of {xs : List Int} : (strOfNums xs).data.toList = xs.map (fun x => UInt8.ofNat x.toNat) := by
  rw [strOfNums_data]
/-- A table's keys, sorted. -/
def kbytes (E : Tab) : List (List UInt8) := E.map fun e => (strOfNums e.1).data.toList
theorem kb_len (E : Tab) : (kbytes E).length = E.length := by simp [kbytes]
theorem lookup_mem {E : Tab} {xs : List Int} {v : Fm} (h : E.lookup xs = some v) : (xs, v) ∈ E := by
  induction E with
  | nil => simp at h
  | cons e E ih =>
    obtain ⟨x, u⟩ := e
    rw [List.lookup_cons] at h
    by_cases hx : xs = x
    · subst hx
      simp at h
      simp [h]
    · have : (xs == x) = false := by simpa using hx
      rw [this] at h
      exact List.mem_cons_of_mem _ (ih h)
theorem mem_lookup {E : Tab} (hn : (E.map Prod.fst).Nodup) {e : List Int × Fm} (h : e ∈ E) : E.lookup e.1 = some e.2 := by
  induction E with
  | nil => cases h
  | cons d E ih =>
    obtain ⟨x, u⟩ := d
    rw [List.map_cons, List.nodup_cons] at hn
    rcases List.mem_cons.1 h with rfl | h
    · simp
    · rw [List.lookup_cons]
      have : (e.1 == x) = false := by
        simp
        intro hx
        exact hn.1 (hx ▸ List.mem_map.2 ⟨e, h, rfl⟩)
      rw [this]
      exact ih hn.2 h
theorem kb_nodup {E : Tab} (hn : (E.map Prod.fst).Nodup) (hb : ∀ e ∈ E, Byt e.1) : (kbytes E).Nodup := by
  unfold kbytes
  refine List.pairwise_map.2 ((List.pairwise_map.1 hn).imp_of_mem fun {a b} ha hb' hne e => hne ?_)
  exact key_inj (hb a ha) (hb b hb') (by unfold key; rw [e])
theorem tb_perm {X : Nat → Prop} {w : World} {base g b m : Nat} {E : Tab} (h : TbIn X w base g b m E) : ∃ D : DataW Value, w.ownsMap Try.prog 9 Rv b m D ∧ (kbytes E).Perm (strKeys D) := by
  obtain ⟨f, ⟨D, hD, hf⟩, h1, h2⟩ := h.map
  refine ⟨D, hD, ?_⟩
  refine Collected.perm (left := fun _ => false) (ss := kbytes E) ⟨kb_nodup h.nd (fun e he => (h.el e he).1), fun x => ?_⟩ hD keyS Try.underlying9 (fun _ => rfl)
  have hiff : has D (.string x) = true ↔ (f (.string x)).isSome = true := by
    rw [hf]
    cases has D (.string x) <;> simp
  rw [hiff]
  simp only [and_true]
  constructor
  · intro hx
    obtain ⟨e, he, rfl⟩ := List.mem_map.1 hx
    have := h1 e.1 (h.el e he).1
    rw [mem_lookup h.nd he] at this
    show (f (key e.1)).isSome = true
    rw [this]
    rfl
  · intro hx
    obtain ⟨xs, hb, hk⟩ := h2 _ hx
    rw [hk, h1 xs hb] at hx
    cases hl : E.lookup xs with
    | none => rw [hl] at hx; cases hx
    | some v =>
      have := lookup_mem hl
      unfold key at hk
      injection hk with hk
      exact List.mem_map.2 ⟨(xs, v), this, hk.symm⟩
set_option maxHeartbeats 2000000 in
theorem keys_any {X : Nat → Prop} {w : World} {base g b m : Nat} {E : Tab} (h : TbIn X w base g b m E) (hm : m ≤ 1000000) :
    Calls Try.prog 45 #[.pointer (some ⟨g, 0, none⟩)] w fun e w' => (∃ v, e = .returned v ∧ w'.ownsRow w.heap.size 9 1 v E.length (((kbytes E).mergeSort leB).map encStr)) ∧ New w w' := by
  obtain ⟨D, hD, hP⟩ := tb_perm h
  have hsz := hD.size_le
  have c0 : w.cell? ⟨g, 0, none⟩ = some (.map (some b)) := h.blk.cell 0
  have HS := Lib.hid (sorted_keys b m D Rv w hD (by unfold maxLen; omega) (by omega))
  have HP := Lib.hid hP
  clear h hD hP hsz hm
  refine (callsIn_wide (n := 6)).1 ?_
  have hfK : Fence.wide.fn 63 := trivial
  have hfS : Fence.wide.fn 62 := trivial
  refine callsIn_of_wp Try.func45 rfl trivial ?_ rfl
  simp only [Try.ntmps45, List.size_toArray, List.length_cons, List.length_nil, Nat.reduceAdd, Nat.reduceSub, Array.replicate_succ, Array.replicate_zero, List.push_toArray, List.append_toArray, List.nil_append, List.cons_append]
  gi_wp2_with (first
    | (gi_at_call 63; refine (maps_keys _ _).mono ?_; rintro e w' ⟨rfl, rfl⟩)
    | (gi_at_call 62; refine HS.out.mono ?_; rintro e w' ⟨v, ss, rfl, hS, hrow, hnil, hb⟩))
  go_ret
  have hpp := hS.trans HP.out.symm
  have hl : ss.length = E.length := by rw [hpp.length_eq, kb_len]
  have hr : w'.ownsRow w.heap.size 9 1 v ss.length ((ss.mergeSort (fun x y => decide (x ≤ y))).map encStr) := ownsRow_base_a hrow (by simp)
  have hq : ss.mergeSort (fun x y => decide (x ≤ y)) = (kbytes E).mergeSort leB := mergeSort_of_perm hpp
  rw [hl, hq] at hr
  exact ⟨⟨v, rfl, hr⟩, ((Below.refl _ w).alloc (Nat.le_refl _) _).trans (hb.mono (by simp))⟩
theorem keys_nil (w : World) : Calls Try.prog 45 #[.pointer none] w fun e w' => e = .returned (.slice none 0 0) ∧ w = w' := by
  go_enter Try.func45, Try.ntmps45
  go_wp2_with fail
  go_ret
  exact ⟨rfl, rfl⟩
theorem len_any {X : Nat → Prop} {w : World} {base g b m : Nat} {E : Tab} (h : TbIn X w base g b m E) (hm : m ≤ 1000000) (hE : E.length ≤ 1000000) :
    Calls Try.prog 28 #[.pointer (some ⟨g, 0, none⟩)] w fun e w' => e = .returned (.int .i64 E.length) ∧ New w w' := by
  have HK := Lib.hid (keys_any h hm)
  clear h hm
  go_enter Try.func28, Try.ntmps28
  go_wp2_with fail
  refine HK.out.mono ?_
  rintro e w1 ⟨⟨v, rfl, hO⟩, hN1⟩
  obtain ⟨A, c, rfl, -, -, -, -⟩ := own_shape hO
  have HN1 := Lib.hid hN1
  clear hO hN1
  go_wp2_with fail
  go_ret
  exact ⟨rfl, HN1.out⟩
theorem len_nil (w : World) : Calls Try.prog 28 #[.pointer none] w fun e w' => e = .returned (.int .i64 0) ∧ w = w' := by
  go_enter Try.func28, Try.ntmps28
  go_wp2_with fail
  refine (keys_nil _).mono ?_
  rintro e w' ⟨rfl, rfl⟩
  go_wp2_with fail
  go_ret
  exact ⟨rfl, rfl⟩
end Go.Proofs.Ytfhinmjpokollaa
