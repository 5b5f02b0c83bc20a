/- Texts of one proof, one behind the other: KvC, KvF, MapB, KvG, KvH. No condition but each one's own. -/
import Derived.Test.YtfhinmjpokollaaKvBatchesM4
import Derived.Shelf.Abstract
import Derived.LoopNIn
import Derived.LoopIn
import Derived.Deep.CutRange
import Derived.Test.YtfhinmjpokollaaKvBatchesM1
import Derived.Lib.SlMapMerge
import Derived.Maps.RangeWalk
import Derived.Shelf.SlMaps.Clone
import Derived.Deep.RegionHeld3
/- What a nil table answers, function by function. No condition. -/
namespace Go.Proofs.Ytfhinmjpokollaa
set_option linter.unusedVariables false
set_option linter.unusedSimpArgs false
set_option linter.constructorNameAsVariable false
open Go.RowKit Go.Maps Go.Sort
attribute [local go_sem] Oper.semAt_some

theorem all_any (v : Option Addr) (w : World) : Calls Try.prog 27 #[.pointer v] w fun e w' => e = .returned (.func (.func 44) #[] #[.pointer (some ⟨w.heap.size, 0, none⟩)]) ∧ w' = w.alloc (.cells #[.pointer v] 24) := by
  go_enter Try.func27, Try.ntmps27
  go_wp2_with fail
  go_ret
  exact ⟨rfl, rfl⟩
/-- What an iterator hands out: a key, a value. -/
def encKV (x : List Int × Fm) : Array Value := #[.string (strOfNums x.1), x.2.val]
theorem all1_nil (b1 : Nat) (w : World) (hc1 : w.cell? ⟨b1, 0, none⟩ = some (.pointer none)) (Good : List Int × Fm → World → Prop) (Kp : World → World → Prop) :
    GivesR (fun _ _ => False) Try.prog 44 #[.pointer (some ⟨b1, 0, none⟩)] encKV Good Kp (fun xs => xs = []) 100000 w := by
  intro l J W hW hJ hY h0
  refine callsIn_wide.2 ?_
  have i1 := New.cell_ hW hc1
  have H0 := Lib.hid h0
  clear hY hJ hW hc1 h0
  show Calls Try.prog 44 #[.func (.yield l) #[] #[], .pointer (some ⟨b1, 0, none⟩)] W _
  go_enter Try.func44, Try.ntmps44
  go_wp2_with fail
  refine (keys_nil W).mono ?_
  rintro e w' ⟨rfl, rfl⟩
  go_wp2_with fail
  go_loop [8] (fun i => i = .int .i64 0) (fun _ => 0)
  case atStart => rfl
  case round =>
    subst hrel
    go_wp2_with fail
    go_end0
    exact ⟨⟨_, rfl⟩, H0.out⟩
theorem get_nil (A : Option Addr) (n c : Nat) (w : World) : Calls Try.prog 19 #[.pointer none, .slice A n c] w fun e w' => e = .returned (.tuple #[.slice none 0 0, .bool false]) ∧ w = w' := by
  go_enter Try.func19, Try.ntmps19
  go_wp2_with fail
  go_ret2
  exact ⟨rfl, rfl⟩
theorem copy_nil (w : World) : Calls Try.prog 11 #[.pointer none] w fun e w' => e = .returned (.pointer none) ∧ w = w' := by
  go_enter Try.func11, Try.ntmps11
  go_wp2_with fail
  go_ret
  exact ⟨rfl, rfl⟩
theorem New.puts {W W' : World} {w2 : World} {B : Nat} (h : New w2 W) (hp : Puts B W W') (hB : w2.heap.size ≤ B) : New w2 W' := New.fr h (hp.fr (fun j hj => hj)) (fun k hk => Nat.le_trans hB hk)
set_option maxRecDepth 100000 in
theorem size_nil (w : World) : Calls Try.prog 29 #[.pointer none] w fun e w' => e = .returned (.int .i64 0) ∧ New w w' := by
  refine (callsIn_wide (n := 3)).1 ?_
  refine callsIn_of_wp_marks Try.func29 rfl trivial ?_ rfl
  refine wpIn_wide.2 ?_
  simp only [Try.ntmps29, List.size_toArray, List.length_cons, List.length_nil, Nat.reduceAdd, Nat.reduceSub, Array.replicate_succ, Array.replicate_zero, List.push_toArray, List.append_toArray, List.nil_append, List.cons_append]
  go_wp2_with fail
  obtain ⟨w1, hw1⟩ : ∃ w1 : World, w1 = w.alloc (.cells #[.int .i64 0] 3) := ⟨_, rfl⟩
  obtain ⟨b3, hb3⟩ : ∃ b3, b3 = w.heap.size := ⟨_, rfl⟩
  have HN1 : Hid (New w w1) := Lib.hid (by rw [hw1]; exact New.al (New.refl _) _)
  have HB3 : Hid (Blk w1 b3 3 #[.int .i64 0]) := Lib.hid (by rw [hw1, hb3]; exact Blk.new _ _ _)
  rw [← hw1, ← hb3]
  clear hw1 hb3
  refine (all_any none w1).mono ?_
  rintro e w2 ⟨rfl, hw2⟩
  have HN2 : Hid (New w1 w2) := Lib.hid (by rw [hw2]; exact New.al (New.refl _) _)
  have HS := Lib.hid (all1_nil w1.heap.size w2 (by rw [hw2]; exact (Blk.new w1 _ _).cell 0) (fun _ _ => True) (fun _ _ => True))
  clear hw2
  go_wp2_with fail
  refine wp_rangeR rfl (enters_of Try.func44 (by kernel_rfl) rfl) encKV (fun _ => rfl) HS.out (fun _ _ _ _ _ => trivial) (fun _ _ => trivial) (fun _ _ _ => trivial) (fun _ W => New w2 W) (fun _ _ _ h hN => h.tr hN) (fun _ _ _ h hp => h.puts hp (Nat.le_refl _)) (New.refl _) ?a1 ?assign ?body ?done
  case assign =>
    intro l x W K hK
    gi_wp2
    exact hK
  case body =>
    rintro l pre x W hpl - - hf
    exact hf.elim
  case done =>
    rintro D fs W hD hfs hNW hDm
    have HNW := Lib.hid hNW
    have c3 : W.cell? ⟨b3, 0, none⟩ = some (.int .i64 0) := (hNW.blk (HN2.out.blk HB3.out)).cell 0
    clear hNW
    dsimp only
    go_wp2_with fail
    refine leaves_marks [D] W (Marks.cons (Marks.nil w2.heap.size W) (fun _ h => by cases h) hD hDm) (fun W' hS => ⟨.int .i64 0, by simp [results, Try.results29, go_sem], rfl, ?_⟩)
    exact ((HN1.out.tr HN2.out).tr HNW.out).trans (hS.below.mono (HN1.out.tr HN2.out).size)
set_option maxRecDepth 100000 in
theorem batches_nil (w : World) : Calls Try.prog 24 #[.pointer none] w fun e w' => e = .returned (.slice none 0 0) ∧ New w w' := by
  refine (callsIn_wide (n := 3)).1 ?_
  refine callsIn_of_wp_marks Try.func24 rfl trivial ?_ rfl
  refine wpIn_wide.2 ?_
  simp only [Try.ntmps24, List.size_toArray, List.length_cons, List.length_nil, Nat.reduceAdd, Nat.reduceSub, Array.replicate_succ, Array.replicate_zero, List.push_toArray, List.append_toArray, List.nil_append, List.cons_append]
  go_wp2_with fail
  obtain ⟨w1, hw1⟩ : ∃ w1 : World, w1 = (w.alloc (.cells #[.slice none 0 0] 22)).alloc (.cells #[.int .i64 0] 3) := ⟨_, rfl⟩
  obtain ⟨b3, hb3⟩ : ∃ b3, b3 = w.heap.size := ⟨_, rfl⟩
  have HN1 : Hid (New w w1) := Lib.hid (by rw [hw1]; exact New.al (New.al (New.refl _) _) _)
  have HB3 : Hid (Blk w1 b3 22 #[.slice none 0 0]) := Lib.hid (by rw [hw1, hb3]; exact (Blk.new _ _ _).alloc _)
  rw [← hw1, ← hb3]
  clear hw1 hb3
  refine (all_any none w1).mono ?_
  rintro e w2 ⟨rfl, hw2⟩
  have HN2 : Hid (New w1 w2) := Lib.hid (by rw [hw2]; exact New.al (New.refl _) _)
  have HS := Lib.hid (all1_nil w1.heap.size w2 (by rw [hw2]; exact (Blk.new w1 _ _).cell 0) (fun _ _ => True) (fun _ _ => True))
  clear hw2
  go_wp2_with fail
  refine wp_rangeR rfl (enters_of Try.func44 (by kernel_rfl) rfl) encKV (fun _ => rfl) HS.out (fun _ _ _ _ _ => trivial) (fun _ _ => trivial) (fun _ _ _ => trivial) (fun _ W => New w2 W) (fun _ _ _ h hN => h.tr hN) (fun _ _ _ h hp => h.puts hp (Nat.le_refl _)) (New.refl _) ?a1 ?assign ?body ?done
  case assign =>
    intro l x W K hK
    gi_wp2
    exact hK
  case body =>
    rintro l pre x W hpl - - hf
    exact hf.elim
  case done =>
    rintro D fs W hD hfs hNW hDm
    have HNW := Lib.hid hNW
    have c3 : W.cell? ⟨b3, 0, none⟩ = some (.slice none 0 0) := (hNW.blk (HN2.out.blk HB3.out)).cell 0
    clear hNW
    dsimp only
    go_wp2_with fail
    refine leaves_marks [D] W (Marks.cons (Marks.nil w2.heap.size W) (fun _ h => by cases h) hD hDm) (fun W' hS => ⟨.slice none 0 0, by simp [results, Try.results24, go_sem], rfl, ?_⟩)
    exact ((HN1.out.tr HN2.out).tr HNW.out).trans (hS.below.mono (HN1.out.tr HN2.out).size)
set_option maxRecDepth 100000 in
theorem same_nil {X : Nat → Prop} {w : World} {base g b m : Nat} (h : TbIn X w base g b m []) (hm : m ≤ 1000000) : Calls Try.prog 16 #[.pointer none, .pointer (some ⟨g, 0, none⟩)] w fun e w' => e = .returned (.bool true) ∧ New w w' := by
  have H := Lib.hid h
  clear h
  refine (callsIn_wide (n := 3)).1 ?_
  refine callsIn_of_wp_marks Try.func16 rfl trivial ?_ rfl
  refine wpIn_wide.2 ?_
  simp only [Try.ntmps16, List.size_toArray, List.length_cons, List.length_nil, Nat.reduceAdd, Nat.reduceSub, Array.replicate_succ, Array.replicate_zero, List.push_toArray, List.append_toArray, List.nil_append, List.cons_append]
  go_upto_region 1 with fail
  obtain ⟨w1, hw1⟩ : ∃ w1 : World, w1 = (w.alloc (.cells #[.pointer (some ⟨g, 0, none⟩)] 24)).alloc (.cells #[.bool false] 4) := ⟨_, rfl⟩
  obtain ⟨b3, hb3⟩ : ∃ b3, b3 = w.heap.size := ⟨_, rfl⟩
  obtain ⟨b4, hb4⟩ : ∃ b4, b4 = w.heap.size + 1 := ⟨_, rfl⟩
  have HN1 : Hid (New w w1) := Lib.hid (by rw [hw1]; exact New.al (New.al (New.refl _) _) _)
  have HB3 : Hid (Blk w1 b3 24 #[.pointer (some ⟨g, 0, none⟩)]) := Lib.hid (by rw [hw1, hb3]; exact (Blk.new _ _ _).alloc _)
  have HB4 : Hid (Blk w1 b4 4 #[.bool false]) := Lib.hid (by rw [hw1, hb4]; exact Blk.new' _ _ _ (by simp))
  rw [← hw1, ← hb4, ← hb3]
  have HZ4 : Hid (w.heap.size ≤ b4) := Lib.hid (by omega)
  clear hw1 hb3 hb4
  have k3 := cell_regrown (show w1.cell? ⟨b3, 0, none⟩ = some (.pointer (some ⟨g, 0, none⟩)) from HB3.out.cell 0)
  have cA := calls_regrown (w := w1) (v := .int .i64 0) (f := 28) (args := #[.pointer none]) (fun W hN => (len_nil W).mono fun e w h => ⟨h.1, by rw [← h.2]; exact New.refl _⟩)
  have cB := calls_regrown (w := w1) (v := .int .i64 0) (f := 28) (args := #[.pointer (some ⟨g, 0, none⟩)]) (fun W hN => (len_any (H.out.new (HN1.out.tr hN)) hm (by decide)).mono fun e w h => ⟨h.1, h.2⟩)
  refine wp_region_quiet_below (by kernel_rfl) (by kernel_rfl) ?_
  repeat (quiet_step (first | exact cA _ _ | exact cB _ _))
  refine wpQuiet_nil ?_
  intro _ hw'
  obtain ⟨⟨dq, osq⟩, hw''⟩ := hw'
  have HNq : Hid (New w1 (grow (redrawn w1 dq) osq)) := Lib.hid (below_regrown w1 dq osq)
  subst hw''
  generalize grow (redrawn w1 dq) osq = wq at HNq ⊢
  clear k3 cA cB
  go_wp2_with fail
  refine (all_any none wq).mono ?_
  rintro e w2 ⟨rfl, hw2⟩
  have HN2 : Hid (New w1 w2) := Lib.hid (by rw [hw2]; exact New.al HNq.out _)
  have HS := Lib.hid (all1_nil wq.heap.size w2 (by rw [hw2]; exact (Blk.new wq _ _).cell 0) (fun _ _ => True) (fun _ _ => True))
  clear hw2
  go_wp2_with fail
  refine wp_rangeR rfl (enters_of Try.func44 (by kernel_rfl) rfl) encKV (fun _ => rfl) HS.out (fun _ _ _ _ _ => trivial) (fun _ _ => trivial) (fun _ _ _ => trivial) (fun _ W => New w2 W) (fun _ _ _ h hN => h.tr hN) (fun _ _ _ h hp => h.puts hp (Nat.le_refl _)) (New.refl _) ?a1 ?assign ?body ?done
  case assign =>
    intro l x W K hK
    gi_wp2
    exact hK
  case body =>
    rintro l pre x W hpl - - hf
    exact hf.elim
  case done =>
    rintro D fs W hD hfs hNW hDm
    have HNW := Lib.hid (HN2.out.tr hNW)
    have HDM := Lib.hid hDm
    have c4 : W.cell? ⟨b4, 0, none⟩ = some (.bool false) := (HNW.out.blk HB4.out).cell 0
    have f4 : W.frozen? ⟨b4, 0, none⟩ = false := (HNW.out.blk HB4.out).frozen 0
    clear hNW hDm
    dsimp only
    go_wp2_with fail
    have hF : Fr (fun j => j = b4) W (W.setCell ⟨b4, 0, none⟩ (.bool true)) := (Fr.refl (fun j => j = b4) W).setCell (p := ⟨b4, 0, none⟩) (fun _ => rfl) _
    have hB : Blk (W.setCell ⟨b4, 0, none⟩ (.bool true)) b4 4 #[.bool true] := (HNW.out.blk HB4.out).set 0 _
    refine leaves_marks [D] _ ((Marks.cons (Marks.nil w2.heap.size W) (fun _ h => by cases h) hD HDM.out).fr hF (fun D hD => ?_)) (fun W' hS => ⟨.bool true, ?_, rfl, ?_⟩)
    · subst hD
      exact not_def_blk (HNW.out.blk HB4.out)
    · have hc : W'.cell? ⟨b4, 0, none⟩ = some (.bool true) := by
        have h1 : W'.heap[b4]? = _ := hS.cells b4 _ hB rfl
        exact (show Blk W' b4 4 #[.bool true] from h1).cell 0
      simp [results, Try.results16, go_sem, hc]
    · have hz : w.heap.size ≤ w2.heap.size := (HN1.out.tr HN2.out).size
      exact (New.fr (HN1.out.tr HNW.out) hF (fun k hk => by have := HZ4.out; omega)).trans (hS.below.mono hz)
end Go.Proofs.Ytfhinmjpokollaa
/- A live table's All: its keys in order, each with its value. No condition but that the table can be read. -/
namespace Go.Proofs.Ytfhinmjpokollaa
set_option linter.unusedVariables false
set_option linter.unusedSimpArgs false
set_option linter.constructorNameAsVariable false
open Go.RowKit Go.Maps Go.Sort
attribute [local go_sem] Oper.semAt_some

/-- A key's bytes. -/
def sb (xs : List Int) : List UInt8 := (strOfNums xs).data.toList
theorem enc_sb (xs : List Int) : encStr (sb xs) = .string (strOfNums xs) := by
  unfold sb
  simp [encStr]
/-- A table's entries in order of the keys. -/
def st (E : Tab) : Tab := E.mergeSort (fun a b => leB (sb a.1) (sb b.1))
def sct (T : CT) : CT := T.mergeSort (fun a b => leB (sb a.1) (sb b.1))
theorem cont_st (E : Tab) : cont (st E) = sct (cont E) := by
  unfold cont st sct
  exact List.map_mergeSort (fun a _ b _ => rfl)
theorem st_perm (E : Tab) : (st E).Perm E := List.mergeSort_perm E _
theorem st_len (E : Tab) : (st E).length = E.length := (st_perm E).length_eq
theorem st_mem {E : Tab} {e : List Int × Fm} (h : e ∈ st E) : e ∈ E := (st_perm E).mem_iff.1 h
def kcells (E : Tab) : List Value := (st E).map fun e => .string (strOfNums e.1)
theorem kcells_len (E : Tab) : (kcells E).length = E.length := by simp [kcells, st_len]
theorem kb_sorted (E : Tab) : ((kbytes E).mergeSort leB).map encStr = kcells E := by
  have h : (kbytes E).mergeSort leB = (st E).map (fun e => sb e.1) := by
    unfold kbytes st
    exact (List.map_mergeSort (f := fun e : List Int × Fm => sb e.1) (s := leB) (fun a _ b _ => rfl)).symm
  rw [h, List.map_map]
  unfold kcells
  exact List.map_congr_left fun e _ => enc_sb e.1

theorem rd_szs {p : Nat → Prop} {w : World} {s n : Nat} {A : Option Addr} {xs : List Value} (h : Rd p w s A n xs) : Rd (fun b => b < w.heap.size) w s A n xs :=
  ⟨h.1, fun hn => by obtain ⟨ad, e, _, hb, hc⟩ := h.2 hn; exact ⟨ad, e, hb, hb, hc⟩⟩
/-- What a round of a range over All keeps: all but own cells and new blocks that hold no strings. -/
def Kk (B : Nat) (S : Nat → Prop) (W W' : World) : Prop := Fr (fun j => S j ∨ (B ≤ j ∧ ¬ IsT 9 W j)) W W'
section
variable {B : Nat} {S : Nat → Prop} {A W W' : World}
theorem Kk.tr (h : Kk B S A W) (k : Kk B S W W') : Kk B S A W' := by
  refine ⟨k.os.trans h.os, k.tape.trans h.tape, k.output.trans h.output, Nat.le_trans h.size k.size, fun j hj hn => ?_⟩
  have e := h.block j hj hn
  refine (k.block j (Nat.lt_of_lt_of_le hj h.size) (fun hs => hn ?_)).trans e
  rcases hs with hs | ⟨hs, ht⟩
  · exact .inl hs
  · refine .inr ⟨hs, fun hi => ht ?_⟩
    obtain ⟨cs, fz, hx⟩ := hi
    exact ⟨cs, fz, e.trans hx⟩
theorem Kk.puts (h : Puts B W W') : Kk B S W W' := by
  have hk : ∀ {k : Nat} {o : Obj}, W.heap[k]? = some o → o.isCells = true → W'.heap[k]? = some o := fun h1 h2 => h.keep h1 h2
  obtain ⟨l, o1, o', hB, hl, ho, rfl⟩ := h
  refine ⟨rfl, rfl, rfl, by simp, fun k _ hn => World.putObj_heap_other fun e => hn (.inr ⟨e ▸ hB, ?_⟩)⟩
  rintro ⟨cs, fz, hx⟩
  rw [e, hl] at hx
  injection hx with hx
  rw [hx] at ho
  cases ho
theorem Kk.fr (h : Fr S W W') : Kk B S W W' := h.mono fun _ _ x => .inl x
end
/-- A key and a value handed out: the value's bytes are a clone. -/
def GoodK (B : Nat) (x : List Int × Fm) (W : World) : Prop := W.ownsRow B 5 1 x.2.val x.2.n (u8s x.2.xs) ∧ Byt x.2.xs ∧ x.2.n ≤ 16384 ∧ Byt x.1 ∧ x.1.length ≤ 16
theorem GoodK.puts {B : Nat} {x : List Int × Fm} {W W' : World} (h : GoodK B x W) (hp : Puts B W W') : GoodK B x W' := ⟨hp.own h.1, h.2⟩
/-- What All of a table hands out, one by one. -/
def NextK (E : Tab) (pre : List (List Int × Fm)) (x : List Int × Fm) : Prop := ∃ e, (st E)[pre.length]? = some e ∧ x.1 = e.1 ∧ x.2.xs = e.2.xs ∧ x.2.n = e.2.n
theorem zBs (w : World) : (zeroValue 39).run Try.prog w = .ok (.slice none 0 0) w := by
  first | exact Try.zeroValue39 w | simp [Try.zeroValue39, go_sem] | kernel_rfl

set_option maxHeartbeats 2000000 in
theorem all1_live {X : Nat → Prop} {w : World} {base g b m : Nat} {E : Tab} (h : TbIn X w base g b m E) (hm : m ≤ 1000000) (hE : E.length ≤ 1000000) (S : Nat → Prop) (b1 : Nat) (hb1 : Blk w b1 24 #[.pointer (some ⟨g, 0, none⟩)])
    (hS : ∀ j, S j → j < w.heap.size ∧ j ≠ g ∧ j ≠ b ∧ ¬ X j ∧ j ≠ b1) :
    GivesR (NextK E) Try.prog 44 #[.pointer (some ⟨b1, 0, none⟩)] encKV (GoodK w.heap.size) (Kk w.heap.size S) (fun xs => xs.map (fun x => (x.1, x.2.xs)) = cont (st E)) 1000001 w := by
  have hB0 : ∀ j, X j → j < w.heap.size := fun j hj => by
    obtain ⟨_, cs, fz, hx⟩ := h.xs j hj
    exact (Array.getElem?_eq_some_iff.1 hx).1
  have hg0 := h.blk.lt
  have hbt := h.blt
  have hb10 := hb1.lt
  obtain ⟨B, hB⟩ : ∃ B, B = w.heap.size := ⟨_, rfl⟩
  rw [← hB] at hS hB0 hg0 hbt hb10 ⊢
  -- what a round keeps, keeps the table
  have hkeep : ∀ W W', Kk B S W W' → (TbIn X W base g b m E ∧ Blk W b1 24 #[.pointer (some ⟨g, 0, none⟩)]) → (TbIn X W' base g b m E ∧ Blk W' b1 24 #[.pointer (some ⟨g, 0, none⟩)]) := fun W W' hk h =>
    ⟨h.1.fr hk (fun hs => hs.elim (fun x => (hS _ x).2.1 rfl) (fun x => by omega)) (fun hs => hs.elim (fun x => (hS _ x).2.2.1 rfl) (fun x => by omega)) (fun k hs hx => hs.elim (fun x => (hS _ x).2.2.2.1 hx) (fun x => by have := hB0 k hx; omega)),
     h.2.fr hk (fun hs => hs.elim (fun x => (hS _ x).2.2.2.2 rfl) (fun x => by omega))⟩
  have hkrow : ∀ (W W' : World) (bs n : Nat) (v : Value) (xs : List Value), Kk B S W W' → B ≤ bs → W.ownsRow bs 9 1 v n xs → W'.ownsRow bs 9 1 v n xs := fun W W' bs n v xs hk hbs ho =>
    own_fr ho hk (fun k hv hs => hs.elim (fun x => by have := (hS k x).1; have := (own_lt ho k hv).1; omega) (fun x => x.2 (own_isT ho hv)))
  have hkeep := Lib.hid hkeep
  have hkrow := Lib.hid hkrow
  intro l J W hW hJ hY h0
  refine callsIn_wide.2 ?_
  have HTB : Hid (TbIn X W base g b m E ∧ Blk W b1 24 #[.pointer (some ⟨g, 0, none⟩)]) := Lib.hid ⟨h.new hW, hW.blk hb1⟩
  have HBW : Hid (B ≤ W.heap.size) := Lib.hid (by rw [hB]; exact hW.size)
  have HY := Lib.hid hY
  have HJ := Lib.hid hJ
  have H0 := Lib.hid h0
  have i1 : W.cell? ⟨b1, 0, none⟩ = some (.pointer (some ⟨g, 0, none⟩)) := HTB.out.2.cell 0
  have HK := Lib.hid (keys_any HTB.out.1 hm)
  clear hY hJ hW hb1 h0 h hS hB0 hg0 hbt hb10 hB
  show Calls Try.prog 44 #[.func (.yield l) #[] #[], .pointer (some ⟨b1, 0, none⟩)] W _
  go_enter Try.func44, Try.ntmps44
  go_wp2_with fail
  refine HK.out.mono ?_
  rintro e w1 ⟨⟨v, rfl, hO⟩, hN1⟩
  rw [kb_sorted] at hO
  obtain ⟨A1, c1, rfl, -, -, -, -⟩ := own_shape hO
  generalize hn : E.length = n at *
  have HO1 := Lib.hid hO
  have HJ1 := Lib.hid (HJ.out _ _ _ H0.out hN1)
  have HT1 : Hid (TbIn X w1 base g b m E ∧ Blk w1 b1 24 #[.pointer (some ⟨g, 0, none⟩)]) := Lib.hid ⟨HTB.out.1.new hN1, hN1.blk HTB.out.2⟩
  clear hO hN1 HK HTB i1
  go_wp2_with fail
  go_loopw [8] (fun ix wr => ∃ (k : Nat) (pre : List (List Int × Fm)), k ≤ n ∧ ix = .int .i64 k ∧ pre.map (fun x => (x.1, x.2.xs)) = (cont (st E)).take k ∧ Hid (J pre wr) ∧ Hid (wr.ownsRow W.heap.size 9 1 (.slice A1 n c1) n (kcells E)) ∧ Hid (TbIn X wr base g b m E ∧ Blk wr b1 24 #[.pointer (some ⟨g, 0, none⟩)])) (fun ix _ => n - (intOf ix).toNat)
  case atStart => exact ⟨0, [], Nat.zero_le _, rfl, by simp, HJ1, HO1, HT1⟩
  case round =>
    obtain ⟨k, pre, hk, rfl, hpre, HJk, HOk, HTk⟩ := hrel
    clear HJ1 HO1 HT1 H0
    by_cases hlt : k < n
    · obtain ⟨bA, cA, he, -, -⟩ := own_form HOk.out (by omega)
      injection he with he1 he2 he3
      subst he1 he3
      have hkL : k < (st E).length := by rw [st_len]; omega
      obtain ⟨x, hx⟩ : ∃ x, x = (st E)[k] := ⟨_, rfl⟩
      have hxm : x ∈ E := st_mem (by rw [hx]; exact List.getElem_mem _)
      have HXK : Hid ((st E)[k]? = some x) := Lib.hid (by rw [List.getElem?_eq_getElem hkL, hx])
      have hcell : wr.cell? ⟨bA, k, none⟩ = some (.string (strOfNums x.1)) := by
        obtain ⟨g', o', hA, -, -, hq⟩ := (Rd.own HOk.out rfl).out (by omega) (by omega)
        injection hA with hA
        injection hA with e1 e2 e3
        subst e1 e2
        have := hq k _ (by unfold kcells; rw [List.getElem?_map, HXK.out]; rfl)
        rwa [Nat.zero_add] at this
      have hxe := HTk.out.1.el x hxm
      have hlk : (Instr.lookup 67 (.map (some b)) (.string (strOfNums x.1)) false).run Try.prog wr = .ok x.2.val wr := by
        obtain ⟨f, hM, h1, -⟩ := HTk.out.1.map
        have := (hM.look keyS Try.underlying67 (zBs wr) (key_of (xs := x.1) (by omega))).2
        rw [this, h1 x.1 hxe.1, mem_lookup HTk.out.1.nd hxm]
        rfl
      have j1 : wr.cell? ⟨b1, 0, none⟩ = some (.pointer (some ⟨g, 0, none⟩)) := HTk.out.2.cell 0
      have j2 : wr.cell? ⟨g, 0, none⟩ = some (.map (some b)) := HTk.out.1.blk.cell 0
      have HXE := Lib.hid hxe
      have hk0 : (0 : Int) ≤ (k : Int) := by omega
      have hkn : (k : Int) < (n : Int) := by omega
      clear hx hxm hkL hxe
      obtain ⟨xk, xA, xn, xc, xs⟩ := x
      simp only [Fm.val] at hlk
      dsimp only at hcell hlk
      go_upto_region 3 with fail
      refine (wpIn_wide (n := 3)).1 ?_
      gi_wp2
      refine ⟨trivial, ?_⟩
      have hpl : pre.length = k := by
        have := congrArg List.length hpre
        rw [List.length_map, List.length_take, cont_len, st_len] at this
        omega
      refine (callsIn_wide.2 (bclone_any xA xn xc xs wr (rd_szs HXE.out.2.2.1.rd) (by have := HXE.out.2.2.2; omega))).mono ?_
      rintro e w2 ⟨⟨A2, c2, rfl, hO2⟩, hN2⟩
      have hbase : B ≤ wr.heap.size := by
        have h1 := (own_lt HOk.out bA (by simp [Value.ownBlock]))
        have := HBW.out
        omega
      have hO2' := own_base (b := B) hO2 (fun k hk => by have := (own_lt hO2 k hk).1; omega)
      obtain ⟨fn, tmps, asg, bo, hy, hR⟩ := HY.out pre (xk, ⟨A2, xn, c2, xs⟩) w2 (by omega) (HJ.out _ _ _ HJk.out hN2) ⟨hO2', HXE.out.2.2.1.byt, HXE.out.2.2.2, HXE.out.1, HXE.out.2.1⟩ ⟨(xk, ⟨xA, xn, xc, xs⟩), by rw [hpl]; exact HXK.out, rfl, rfl, rfl⟩
      simp only [Fm.val, encKV] at hy
      have HN2 : Hid (New wr w2) := Lib.hid hN2
      have HR := Lib.hid hR
      clear hO2 hO2' hN2 hR
      gi_wp2
      refine HR.out.mono ?_
      rintro e w3 ⟨rfl, hJ3, hK3⟩
      have HJ3 := Lib.hid hJ3
      have HK3 := Lib.hid hK3
      clear hJ3 hK3 HR hy hcell
      gi_wp2
      try go_wp2_with fail
      go_roundw
      case rel =>
        refine ⟨k + 1, pre ++ [(xk, ⟨A2, xn, c2, xs⟩)], by omega, by go_num, ?_, HJ3, Lib.hid (hkrow.out _ _ _ _ _ _ HK3.out HBW.out (New.own HN2.out HOk.out)), Lib.hid (hkeep.out _ _ HK3.out ⟨HTk.out.1.new HN2.out, HN2.out.blk HTk.out.2⟩)⟩
        rw [List.map_append, hpre, List.take_add_one]
        unfold cont
        rw [List.getElem?_map, HXK.out]
        rfl
      case measure => simp [intOf]; omega
    · as_aux_lemma =>
        obtain rfl : k = n := by omega
        go_wp2_with fail
        go_end0
        exact ⟨⟨_, rfl⟩, pre, by rw [hpre, ← hn, List.take_of_length_le (by rw [cont_len, st_len]; omega)], HJk.out⟩
end Go.Proofs.Ytfhinmjpokollaa
/- Maps that a call makes, more of them: cleared, cloned, laid into another one; how many entries there can be. No condition. -/
namespace Go.Proofs.Ytfhinmjpokollaa
set_option linter.unusedVariables false
set_option linter.unusedSimpArgs false
set_option linter.constructorNameAsVariable false
open Go.RowKit Go.Maps
open Go.WideElems (Fit rg)

/-- f, but where h says something, that. -/
def orF (h f : Lit → Option Value) : Lit → Option Value := fun x => match h x with | some v => some v | none => f x

theorem nodup_lt {l : List Nat} : ∀ {m : Nat}, l.Nodup → (∀ x ∈ l, x < m) → l.length ≤ m := by
  intro m
  induction m generalizing l with
  | zero => intro _ h; cases l with
    | nil => simp
    | cons x l => exact absurd (h x (by simp)) (by omega)
  | succ m ih =>
    intro hn h
    have := ih (l := l.erase m) (hn.erase _) (fun x hx => by
      have h1 := h x (List.mem_of_mem_erase hx)
      have h2 : x ≠ m := fun e => by subst e; exact (List.Nodup.not_mem_erase hn) hx
      omega)
    have h3 := List.length_erase (a := m) (l := l)
    split at h3 <;> omega

section
variable {P : Program} {k : TypeId} {w w' : World} {b n : Nat} {f : Lit → Option Value}
theorem MapAt.clear {t e : TypeId} (h : MapAt w P k b n f) (ht : P.underlying t = some (.map k e)) (ty : TypeId) :
    ∃ w', (Builtin.clear_ #[t] ty #[.map (some b)]).run P w = .ok (.tuple #[]) w' ∧ MapAt w' P k b 0 (fun _ => none) ∧ Fr (fun j => j = b) w w' := by
  obtain ⟨D, ⟨es, clock, hb, F, hsz, hD⟩, hf⟩ := h
  have hset := MapKept.heap_set (o' := .map #[] clock) hb
  refine ⟨{ w with heap := w.heap.setIfInBounds b (.map #[] clock) }, by simp [Builtin.clear_, run_underlying ht, MapKept.run_getObj_map hb, MapKept.run_setObj_map _ hb, Result.andThen], ⟨.map [], ⟨#[], clock, hset.1, ⟨by simp, MapKept.stamped_empty clock, by simp⟩, Nat.le_refl _, rfl⟩, fun kl => by simp [Maps.has]⟩, ⟨rfl, rfl, rfl, by simp, fun j _ hj => hset.2 j hj⟩⟩

/-- The keys are few: so are the entries. -/
theorem MapAt.tight {q : IntKind} (h : MapAt w P k b n f) (K : Keyed P k) (m : Nat) (hk : ∀ kl, f kl ≠ none → ∃ a : Nat, kl = .int q a ∧ a < m) : MapAt w P k b m f := by
  obtain ⟨D, ⟨es, clock, hb, F, hsz, rfl⟩, hf⟩ := h
  refine ⟨_, ⟨es, clock, hb, F, ?_, rfl⟩, hf⟩
  have hp := Maps.fit_apart K F
  have hin : ∀ p ∈ es.toList.map (rg P k Rv), ∃ a : Nat, p.1 = .int q a ∧ a < m := fun p hp' => by
    refine hk p.1 ?_
    rw [hf p.1]
    have : Maps.has (DataW.map ((es.toList.map (rg P k Rv)).foldr DataW.insert [])) p.1 = true :=
      List.any_eq_true.2 ⟨p, mem_sorted.2 hp', WideAt.sameKey_self ((Maps.fit_keys F |> fun kk => K.one.key (kk p hp')))⟩
    rw [this]
    simp
  have hnum : ((es.toList.map (rg P k Rv)).map fun p => match p.1 with | .int _ a => a.toNat | _ => 0).length ≤ m := by
    refine nodup_lt ?_ ?_
    · rw [List.Nodup, List.pairwise_map]
      refine List.Pairwise.imp_of_mem ?_ hp
      intro p r hp' hr' hne he
      obtain ⟨a, ha, _⟩ := hin p hp'
      obtain ⟨c, hc, _⟩ := hin r hr'
      rw [ha, hc] at he
      simp at he
      exact hne (by rw [ha, hc, he])
    · intro x hx
      obtain ⟨p, hp', rfl⟩ := List.mem_map.1 hx
      obtain ⟨a, ha, hlt⟩ := hin p hp'
      rw [ha]
      simpa using hlt
  simpa using hnum

/-- One map laid into another, as the rounds go. -/
theorem merged_end {Dout Dd Ds : DataW Value} {left : Lit → Bool} (hM : Merged Dout Dd Ds left) (hl : ∀ k, left k = false) {fd fs : Lit → Option Value}
    (hd : ∀ kl, fd kl = if Maps.has Dd kl then some (valOf (Dd.atKey kl (.held undef))) else none) (hs : ∀ kl, fs kl = if Maps.has Ds kl then some (valOf (Ds.atKey kl (.held undef))) else none) :
    ∀ kl, orF fs fd kl = if Maps.has Dout kl then some (valOf (Dout.atKey kl (.held undef))) else none := by
  intro kl
  have h1 := hM.1 kl
  have h2 := hM.2 kl (.held undef)
  rw [hl kl] at h1 h2
  simp only [Bool.not_false, Bool.and_true] at h1 h2
  unfold orF
  rw [hs kl, hd kl, h1, h2]
  cases Maps.has Ds kl <;> cases Maps.has Dd kl <;> simp

/-- A clone. -/
theorem MapAt.cloned {t : TypeId} (h : MapAt w P k b n f) : ∃ o, (Extern.MapsClone.clone #[.iface t (.map (some b))]).run P w = .ok (.iface t (.map (some w.heap.size))) (w.alloc o) ∧ MapAt (w.alloc o) P k w.heap.size n f := by
  obtain ⟨D, ⟨es, clock, hb, F, hsz, hD⟩, hf⟩ := h
  exact ⟨_, run_maps_clone_sl w t hb, ⟨D, ⟨es, clock, (MapKept.heap_alloc w _).1, F, hsz, hD⟩, hf⟩⟩
end

section
variable {P : Program} {w : World} {ops : Array Oper} {rest : List Oper} {o : Oper} {a : Act} {Q : Exit → Act → World → Prop} {b n : Nat} {f : Lit → Option Value}
theorem wpList_mclear {k e t : TypeId} (hM : MapAt w P k b n f) (ht : P.underlying t = some (.map k e)) (hg : o.guard = none) (m : Operand) (hop : o.op = Op.call { callee := Callee.builtin Builtin.clear, args := #[m], argTypes := #[t] })
    (hm : a.eval m = .map (some b))
    (hK : ∀ w', MapAt w' P k b 0 (fun _ => none) → Fr (fun j => j = b) w w' → wpList P ops Q rest (a.put o.dst (.tuple #[])) w') : wpList P ops Q (o :: rest) a w := by
  refine wpList_plain hg fun K' hK' => ?_
  obtain ⟨w', hrun, r1, r2⟩ := hM.clear ht o.type
  unfold Oper.wp
  simp [execOp, hop, resolve, invoke, builtin, hm, hrun, Result.andThen]
  exact hK' _ _ (hK w' r1 r2)
end
end Go.Proofs.Ytfhinmjpokollaa
/- Tables: copies, a key's value. No condition but the table's own. -/
namespace Go.Proofs.Ytfhinmjpokollaa
set_option linter.unusedVariables false
set_option linter.unusedSimpArgs false
set_option linter.constructorNameAsVariable false
open Go.RowKit Go.Maps Go.Sort

set_option maxRecDepth 100000 in
theorem mclone_any (b n : Nat) (f : Lit → Option Value) (w : World) (h : MapAt w Try.prog 9 b n f) :
    Calls Try.prog 33 #[.map (some b)] w fun e w' => e = .returned (.map (some w.heap.size)) ∧ MapAt w' Try.prog 9 w.heap.size n f ∧ New w w' := by
  obtain ⟨o, hrun, hM⟩ := MapAt.cloned (t := 67) h
  have HM := Lib.hid hM
  have hq := fun w => run_eql_map_nil_sl (P := Try.prog) w 67 _ _ (some b) Try.underlying67
  clear hM h
  go_enter Try.func33, Try.ntmps33
  go_wp2
  rw [run_callFunc_extern Try.func60 (by kernel_rfl) (by kernel_rfl) (by kernel_rfl) (e := Extern.MapsClone.clone) (by kernel_rfl), hrun]
  simp only [Result.andThen]
  rw [Oper.upon_value]
  go_wp2
  rw [run_typeAssert_map_sl _ 67 20 _ _ _ Try.underlying67]
  simp only [Result.andThen]
  rw [Oper.upon_value]
  go_wp2
  go_ret
  exact ⟨rfl, HM.out, New.al (New.refl _) _⟩
/-- A copy: its own map, the same values. -/
theorem copy_any {X : Nat → Prop} {w : World} {base g b m : Nat} {E : Tab} (h : TbIn X w base g b m E) (hbase : base ≤ w.heap.size) :
    Calls Try.prog 11 #[.pointer (some ⟨g, 0, none⟩)] w fun e w' => ∃ g' b', e = .returned (.pointer (some ⟨g', 0, none⟩)) ∧ TbIn X w' base g' b' m E ∧ New w w' ∧ w.heap.size ≤ g' ∧ w.heap.size ≤ b' := by
  obtain ⟨f, hM, h1, h2⟩ := h.map
  have H := Lib.hid h
  have c0 : w.cell? ⟨g, 0, none⟩ = some (.map (some b)) := h.blk.cell 0
  have HC := Lib.hid (mclone_any b m f w hM)
  clear h hM
  go_enter Try.func11, Try.ntmps11
  go_wp2_with fail
  refine HC.out.mono ?_
  rintro e w1 ⟨rfl, hM1, hN1⟩
  have HM1 := Lib.hid hM1
  have HN1 := Lib.hid hN1
  clear hM1 hN1 HC
  go_wp2_with fail
  go_ret
  have hs := HN1.out.size
  refine ⟨w1.heap.size, w.heap.size, rfl, ⟨Blk.new _ _ _, ⟨f, HM1.out.alloc _, h1, h2⟩, H.out.nd, fun e he => ?_, by omega, hbase, fun k hk => ?_⟩, New.al HN1.out _, hs, Nat.le_refl _⟩
  · have := H.out.el e he
    have hN := New.al HN1.out (.cells #[.map (some w.heap.size)] 69)
    exact ⟨this.1, this.2.1, ⟨hN.rd this.2.2.1.rd, this.2.2.1.byt⟩, this.2.2.2⟩
  · exact ⟨(H.out.xs k hk).1, (H.out.xs k hk).2.fr ((New.al HN1.out (.cells #[.map (some w.heap.size)] 69)).toFr NoB) (fun x => x)⟩
theorem zBs2 (w : World) : (zeroValue 39).run Try.prog w = .ok (.slice none 0 0) w := zBs w
/-- A key's value, found in plain words. -/
def tval (E : Tab) (k : List Int) : Fm := (E.lookup k).getD ⟨none, 0, 0, []⟩
theorem get_any {X q : Nat → Prop} {w : World} {base g b m : Nat} {E : Tab} (h : TbIn X w base g b m E) (A : Option Addr) (n c : Nat) (xs : List Int) (hR : Rd q w 1 A n (u8s xs)) (hb : Byt xs) (hn : n ≤ 1000000) :
    Calls Try.prog 19 #[.pointer (some ⟨g, 0, none⟩), .slice A n c] w fun e w' => ∃ A' c', e = .returned (.tuple #[.slice A' (tval E xs).n c', .bool (E.lookup xs).isSome]) ∧ w'.ownsRow w.heap.size 5 1 (.slice A' (tval E xs).n c') (tval E xs).n (u8s (tval E xs).xs) ∧ New w w' := by
  have hxl : xs.length = n := by have := hR.1; rw [u8s_len] at this; omega
  have hko := key_of (xs := xs) (by omega)
  have hcv := fun q => run_conv (c := c) (w := w.drewN q) hR
  have c0 : w.cell? ⟨g, 0, none⟩ = some (.map (some b)) := h.blk.cell 0
  have hvn : (tval E xs).n ≤ 1000000 ∧ Rd X w 1 (tval E xs).A (tval E xs).n (u8s (tval E xs).xs) := by
    unfold tval
    cases hl : E.lookup xs with
    | none => exact ⟨by simp, ⟨rfl, fun h => absurd h (by simp)⟩⟩
    | some v => have := h.el _ (lookup_mem hl); exact ⟨by have h4 := this.2.2.2; dsimp only at h4; show v.n ≤ 1000000; omega, this.2.2.1.rd⟩
  have hlk : ∀ q, (Instr.lookup 67 (.map (some b)) (.string (strOfNums xs)) true).run Try.prog (w.drewN q) = .ok (.tuple #[(tval E xs).val, .bool (E.lookup xs).isSome]) (w.drewN q) := fun q => by
    obtain ⟨f, hM0, h1, -⟩ := h.map
    have hM : MapAt (w.drewN q) Try.prog 9 b m f := hM0
    have := (hM.look keyS Try.underlying67 (z := .slice none 0 0) (zBs _) hko).1
    rw [h1 xs hb] at this
    rw [this]
    unfold tval
    cases E.lookup xs <;> rfl
  obtain ⟨hvn, hvr⟩ := hvn
  have HV := Lib.hid hvr
  generalize strOfNums xs = sx at hko hcv hlk
  generalize (E.lookup xs).isSome = there at hlk ⊢
  generalize tval E xs = x at hlk hvn HV ⊢
  clear hko hR h hb hvr
  obtain ⟨xA, xn, xc, xv⟩ := x
  simp only [Fm.val] at hlk
  dsimp only at hvn HV ⊢
  go_enter Try.func19, Try.ntmps19
  go_wp2_with fail
  go_quiet (fail)
  go_wp2_with fail
  refine (bclone_any xA xn xc xv _ (rd_szs (New.rd (New.dn (New.refl _) _) HV.out)) (by omega)).mono ?_
  rintro e w' ⟨⟨A2, c2, rfl, hO2⟩, hN2⟩
  have HO2 := Lib.hid hO2
  have HN2 : Hid (New w w') := Lib.hid ((New.dn (New.refl w) _).tr hN2)
  clear hO2 hN2
  go_wp2_with fail
  go_ret2
  exact ⟨A2, c2, rfl, HO2.out, HN2.out⟩
end Go.Proofs.Ytfhinmjpokollaa
/- A live table's Size. No condition but that the table can be read. -/
namespace Go.Proofs.Ytfhinmjpokollaa
set_option linter.unusedVariables false
set_option linter.unusedSimpArgs false
set_option linter.constructorNameAsVariable false
open Go.RowKit Go.Maps Go.Sort
attribute [local go_sem] Oper.semAt_some

/-- A table's size in plain words. -/
def csize (T : CT) : Nat := (T.map fun e => 4 + e.1.length + e.2.length).sum
theorem csize_perm {T T' : CT} (h : T.Perm T') : csize T = csize T' := (h.map _).sum_nat
theorem csize_snoc (T : CT) (e : List Int × List Int) : csize (T ++ [e]) = csize T + (4 + e.1.length + e.2.length) := by simp [csize]
/-- What Size's rounds leave. -/
def SzI (b3 : Nat) (w2 : World) (s : List (List Int × Fm)) (W : World) : Prop := Fr (fun j => b3 ≤ j) w2 W ∧ csize (s.map fun x => (x.1, x.2.xs)) ≤ s.length * 16404 ∧ Blk W b3 3 #[.int .i64 (csize (s.map fun x => (x.1, x.2.xs)))]
theorem SzI.new {b3 : Nat} {w2 : World} {s : List (List Int × Fm)} {W W' : World} (h : SzI b3 w2 s W) (hN : New W W') : SzI b3 w2 s W' := ⟨h.1.trans (hN.toFr _), h.2.1, hN.blk h.2.2⟩
theorem SzI.puts {b3 B : Nat} {w2 : World} {s : List (List Int × Fm)} {W W' : World} (h : SzI b3 w2 s W) (hz : b3 ≤ B) (hp : Puts B W W') : SzI b3 w2 s W' := ⟨h.1.trans (hp.fr (fun j hj => Nat.le_trans hz hj)), h.2.1, hp.blk h.2.2⟩
set_option maxHeartbeats 2000000 in
set_option maxRecDepth 100000 in
theorem size_any {X : Nat → Prop} {w : World} {base g b m : Nat} {E : Tab} (h : TbIn X w base g b m E) (hm : m ≤ 1000000) (hE : E.length ≤ 1000000) :
    Calls Try.prog 29 #[.pointer (some ⟨g, 0, none⟩)] w fun e w' => e = .returned (.int .i64 (csize (cont E))) ∧ New w w' := by
  have H := Lib.hid h
  have hX : ∀ j, X j → j < w.heap.size := fun j hj => by
    obtain ⟨_, cs, fz, hx⟩ := h.xs j hj
    exact (Array.getElem?_eq_some_iff.1 hx).1
  have HX := Lib.hid hX
  clear h hX
  refine (callsIn_wide (n := 3)).1 ?_
  refine callsIn_of_wp_marks Try.func29 rfl trivial ?_ rfl
  refine wpIn_wide.2 ?_
  simp only [Try.ntmps29, List.size_toArray, List.length_cons, List.length_nil, Nat.reduceAdd, Nat.reduceSub, Array.replicate_succ, Array.replicate_zero, List.push_toArray, List.append_toArray, List.nil_append, List.cons_append]
  go_wp2_with fail
  obtain ⟨w1, hw1⟩ : ∃ w1 : World, w1 = w.alloc (.cells #[.int .i64 0] 3) := ⟨_, rfl⟩
  obtain ⟨b3, hb3⟩ : ∃ b3, b3 = w.heap.size := ⟨_, rfl⟩
  have HN1 : Hid (New w w1) := Lib.hid (by rw [hw1]; exact New.al (New.refl _) _)
  have HB3 : Hid (Blk w1 b3 3 #[.int .i64 0]) := Lib.hid (by rw [hw1, hb3]; exact Blk.new _ _ _)
  have HZ3 : Hid (b3 = w.heap.size) := Lib.hid hb3
  rw [← hw1, ← hb3]
  clear hw1 hb3
  refine (all_any (some ⟨g, 0, none⟩) w1).mono ?_
  rintro e w2 ⟨rfl, hw2⟩
  have HN2 : Hid (New w1 w2) := Lib.hid (by rw [hw2]; exact New.al (New.refl _) _)
  have hg := H.out.blk.lt
  have hb := H.out.blt
  have h1z := HB3.out.lt
  have hz3 := HZ3.out
  have HS := Lib.hid (all1_live (H.out.new (HN1.out.tr HN2.out)) hm hE (fun j => j = b3) w1.heap.size (by rw [hw2]; exact Blk.new w1 _ _) (fun j hj => by
    subst hj
    have := HN2.out.size
    exact ⟨by omega, by omega, by omega, fun hx => by have := HX.out _ hx; omega, by omega⟩))
  have HB32 : Hid (Blk w2 b3 3 #[.int .i64 0]) := Lib.hid (HN2.out.blk HB3.out)
  have HZB : Hid (b3 < w2.heap.size) := Lib.hid (HB32.out.lt)
  clear hw2 hg hb h1z hz3
  go_wp2_with fail
  refine wp_rangeR rfl (enters_of Try.func44 (by kernel_rfl) rfl) (fun x : List Int × Fm => #[.string (strOfNums x.1), x.2.val]) (fun _ => rfl) HS.out (fun x W W' hg hp => hg.puts hp) (fun h k => h.tr k) (fun W W' hp => Kk.puts hp)
    (SzI b3 w2) (fun s A B h hN => h.new hN) (fun s A B h hp => h.puts (Nat.le_of_lt HZB.out) hp) ⟨Fr.refl _ _, by simp [csize], HB32.out⟩ ?a1 ?assign ?body ?done
  case assign =>
    intro l x W K hK
    gi_wp2
    exact hK
  case body =>
    rintro l pre x W hpl ⟨hF, hl, hB⟩ hG hx
    have c3 : W.cell? ⟨b3, 0, none⟩ = some (.int .i64 (csize (pre.map fun x => (x.1, x.2.xs)))) := hB.cell 0
    have f3 : W.frozen? ⟨b3, 0, none⟩ = false := hB.frozen 0
    have h1 := hG.2.2.1
    have h2 := hG.2.2.2.2
    have hxl : x.2.xs.length = x.2.n := by have := hG.1.1; rw [u8s_len] at this; omega
    have hsn : csize ((pre ++ [x]).map fun x => (x.1, x.2.xs)) = csize (pre.map fun x => (x.1, x.2.xs)) + (4 + x.1.length + x.2.n) := by
      rw [List.map_append, List.map_cons, List.map_nil, csize_snoc, hxl]
    have hl' : csize (pre.map fun x => (x.1, x.2.xs)) ≤ 1000001 * 20000 := by omega
    have HB := Lib.hid hB
    have HF := Lib.hid hF
    have hss : (strOfNums x.1).size = x.1.length := strOfNums_size _
    have HPL := Lib.hid hpl
    have HL := Lib.hid hl
    clear hB hF hG hx hxl hl hpl
    obtain ⟨xk, xA, xn, xc, xs⟩ := x
    dsimp only at h1 h2 hsn hss
    simp only [Fm.val]
    generalize strOfNums xk = sk at hss ⊢
    generalize hcc : csize (pre.map fun x => (x.1, x.2.xs)) = cc at *
    generalize hkl : xk.length = kl at *
    gi_wp2
    have hFW : Fr (fun j => j = b3) W (W.setCell ⟨b3, 0, none⟩ (.int .i64 (cc + (4 + kl + xn)))) := (Fr.refl (fun j => j = b3) W).setCell (p := ⟨b3, 0, none⟩) (fun _ => rfl) _
    refine ⟨Kept.fr hFW (fun k o hB hs => by have := HZB.out; omega), Kk.fr hFW, HF.out.trans (hFW.mono (fun k _ hs => by omega)), ?_, ?_⟩
    · rw [hsn, List.length_append, List.length_singleton]
      have := HL.out
      omega
    · rw [hsn]
      have := HB.out.set 0 (.int .i64 (cc + (4 + kl + xn)))
      simpa using this
  case done =>
    rintro D fs W hD hfs ⟨hF, hl, hB⟩ hDm
    have HNW : Hid (New w W) := Lib.hid ((HN1.out.tr HN2.out).fr hF (fun k hk => by have := HZ3.out; omega))
    have c3 : W.cell? ⟨b3, 0, none⟩ = some (.int .i64 (csize (cont E))) := by
      have := hB.cell 0
      rw [hfs, csize_perm (show (cont (st E)).Perm (cont E) from (st_perm E).map _)] at this
      exact this
    clear hB hF hl
    dsimp only
    go_wp2_with fail
    refine leaves_marks [D] W (Marks.cons (Marks.nil w2.heap.size W) (fun _ h => by cases h) hD hDm) (fun W' hS => ⟨.int .i64 (csize (cont E)), by simp [results, Try.results29, go_sem], rfl, ?_⟩)
    exact HNW.out.trans (hS.below.mono (HN1.out.tr HN2.out).size)
end Go.Proofs.Ytfhinmjpokollaa
