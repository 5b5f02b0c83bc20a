/- A live table's Size. No condition but that the table can be read. -/
import Derived.Test.YtfhinmjpokollaaKvG
namespace Go.Proofs.Ytfhinmjpokollaa
set_option linter.unusedVariables false
set_option linter.unusedSimpArgs false
set_option linter.constructorNameAsVariable false
open Go.RowKit Go.Maps Go.Sort
attribute [local go_sem] Oper.semAt_some

/-- A table's size in plain words. -/
def csize (T : CT) : Nat := (T.map fun e => 4 + e.1.length + e.2.length).sum
theorem csize_perm {T T' : CT} (h : T.Perm T') : csize T = csize T' := (h.map _).sum_nat
theorem csize_snoc (T : CT) (e : List Int × List Int) : csize (T ++ [e]) = csize T + (4 + e.1.length + e.2.length) := by simp [csize]
/-- What Size's rounds leave. -/
def SzI (b3 : Nat) (w2 : World) (s : List (List Int × Fm)) (W : World) : Prop := Fr (fun j => b3 ≤ j) w2 W ∧ csize (s.map fun x => (x.1, x.2.xs)) ≤ s.length * 16404 ∧ Blk W b3 3 #[.int .i64 (csize (s.map fun x => (x.1, x.2.xs)))]
theorem SzI.new {b3 : Nat} {w2 : World} {s : List (List Int × Fm)} {W W' : World} (h : SzI b3 w2 s W) (hN : New W W') : SzI b3 w2 s W' := ⟨h.1.trans (hN.toFr _), h.2.1, hN.blk h.2.2⟩
theorem SzI.puts {b3 B : Nat} {w2 : World} {s : List (List Int × Fm)} {W W' : World} (h : SzI b3 w2 s W) (hz : b3 ≤ B) (hp : Puts B W W') : SzI b3 w2 s W' := ⟨h.1.trans (hp.fr (fun j hj => Nat.le_trans hz hj)), h.2.1, hp.blk h.2.2⟩
set_option maxHeartbeats 2000000 in
set_option maxRecDepth 100000 in
theorem size_any {X : Nat → Prop} {w : World} {base g b m : Nat} {E : Tab} (h : TbIn X w base g b m E) (hm : m ≤ 1000000) (hE : E.length ≤ 1000000) :
    Calls Try.prog 29 #[.pointer (some ⟨g, 0, none⟩)] w fun e w' => e = .returned (.int .i64 (csize (cont E))) ∧ New w w' := by
  have H := Lib.hid h
  have hX : ∀ j, X j → j < w.heap.size := fun j hj => by
    obtain ⟨_, cs, fz, hx⟩ := h.xs j hj
    exact (Array.getElem?_eq_some_iff.1 hx).1
  have HX := Lib.hid hX
  clear h hX
  refine (callsIn_wide (n := 3)).1 ?_
  refine callsIn_of_wp_marks Try.func29 rfl trivial ?_ rfl
  refine wpIn_wide.2 ?_
  simp only [Try.ntmps29, List.size_toArray, List.length_cons, List.length_nil, Nat.reduceAdd, Nat.reduceSub, Array.replicate_succ, Array.replicate_zero, List.push_toArray, List.append_toArray, List.nil_append, List.cons_append]
  go_wp2_with fail
  obtain ⟨w1, hw1⟩ : ∃ w1 : World, w1 = w.alloc (.cells #[.int .i64 0] 3) := ⟨_, rfl⟩
  obtain ⟨b3, hb3⟩ : ∃ b3, b3 = w.heap.size := ⟨_, rfl⟩
  have HN1 : Hid (New w w1) := Lib.hid (by rw [hw1]; exact New.al (New.refl _) _)
  have HB3 : Hid (Blk w1 b3 3 #[.int .i64 0]) := Lib.hid (by rw [hw1, hb3]; exact Blk.new _ _ _)
  have HZ3 : Hid (b3 = w.heap.size) := Lib.hid hb3
  rw [← hw1, ← hb3]
  clear hw1 hb3
  refine (all_any (some ⟨g, 0, none⟩) w1).mono ?_
  rintro e w2 ⟨rfl, hw2⟩
  have HN2 : Hid (New w1 w2) := Lib.hid (by rw [hw2]; exact New.al (New.refl _) _)
  have hg := H.out.blk.lt
  have hb := H.out.blt
  have h1z := HB3.out.lt
  have hz3 := HZ3.out
  have HS := Lib.hid (all1_live (H.out.new (HN1.out.tr HN2.out)) hm hE (fun j => j = b3) w1.heap.size (by rw [hw2]; exact Blk.new w1 _ _) (fun j hj => by
    subst hj
    have := HN2.out.size
    exact ⟨by omega, by omega, by omega, fun hx => by have := HX.out _ hx; omega, by omega⟩))
  have HB32 : Hid (Blk w2 b3 3 #[.int .i64 0]) := Lib.hid (HN2.out.blk HB3.out)
  have HZB : Hid (b3 < w2.heap.size) := Lib.hid (HB32.out.lt)
  clear hw2 hg hb h1z hz3
  go_wp2_with fail
  refine wp_rangeR rfl (enters_of Try.func44 (by kernel_rfl) rfl) (fun x : List Int × Fm => #[.string (strOfNums x.1), x.2.val]) (fun _ => rfl) HS.out (fun x W W' hg hp => hg.puts hp) (fun h k => h.tr k) (fun W W' hp => Kk.puts hp)
    (SzI b3 w2) (fun s A B h hN => h.new hN) (fun s A B h hp => h.puts (Nat.le_of_lt HZB.out) hp) ⟨Fr.refl _ _, by simp [csize], HB32.out⟩ ?a1 ?assign ?body ?done
  case assign =>
    intro l x W K hK
    gi_wp2
    exact hK
  case body =>
    rintro l pre x W hpl ⟨hF, hl, hB⟩ hG hx
    have c3 : W.cell? ⟨b3, 0, none⟩ = some (.int .i64 (csize (pre.map fun x => (x.1, x.2.xs)))) := hB.cell 0
    have f3 : W.frozen? ⟨b3, 0, none⟩ = false := hB.frozen 0
    have h1 := hG.2.2.1
    have h2 := hG.2.2.2.2
    have hxl : x.2.xs.length = x.2.n := by have := hG.1.1; rw [u8s_len] at this; omega
    have hsn : csize ((pre ++ [x]).map fun x => (x.1, x.2.xs)) = csize (pre.map fun x => (x.1, x.2.xs)) + (4 + x.1.length + x.2.n) := by
      rw [List.map_append, List.map_cons, List.map_nil, csize_snoc, hxl]
    have hl' : csize (pre.map fun x => (x.1, x.2.xs)) ≤ 1000001 * 20000 := by omega
    have HB := Lib.hid hB
    have HF := Lib.hid hF
    have hss : (strOfNums x.1).size = x.1.length := strOfNums_size _
    have HPL := Lib.hid hpl
    have HL := Lib.hid hl
    clear hB hF hG hx hxl hl hpl
    obtain ⟨xk, xA, xn, xc, xs⟩ := x
    dsimp only at h1 h2 hsn hss
    simp only [Fm.val]
    generalize strOfNums xk = sk at hss ⊢
    generalize hcc : csize (pre.map fun x => (x.1, x.2.xs)) = cc at *
    generalize hkl : xk.length = kl at *
    gi_wp2
    have hFW : Fr (fun j => j = b3) W (W.setCell ⟨b3, 0, none⟩ (.int .i64 (cc + (4 + kl + xn)))) := (Fr.refl (fun j => j = b3) W).setCell (p := ⟨b3, 0, none⟩) (fun _ => rfl) _
    refine ⟨Kept.fr hFW (fun k o hB hs => by have := HZB.out; omega), Kk.fr hFW, HF.out.trans (hFW.mono (fun k _ hs => by omega)), ?_, ?_⟩
    · rw [hsn, List.length_append, List.length_singleton]
      have := HL.out
      omega
    · rw [hsn]
      have := HB.out.set 0 (.int .i64 (cc + (4 + kl + xn)))
      simpa using this
  case done =>
    rintro D fs W hD hfs ⟨hF, hl, hB⟩ hDm
    have HNW : Hid (New w W) := Lib.hid ((HN1.out.tr HN2.out).fr hF (fun k hk => by have := HZ3.out; omega))
    have c3 : W.cell? ⟨b3, 0, none⟩ = some (.int .i64 (csize (cont E))) := by
      have := hB.cell 0
      rw [hfs, csize_perm (show (cont (st E)).Perm (cont E) from (st_perm E).map _)] at this
      exact this
    clear hB hF hl
    dsimp only
    go_wp2_with fail
    refine leaves_marks [D] W (Marks.cons (Marks.nil w2.heap.size W) (fun _ h => by cases h) hD hDm) (fun W' hS => ⟨.int .i64 (csize (cont E)), by simp [results, Try.results29, go_sem], rfl, ?_⟩)
    exact HNW.out.trans (hS.below.mono (HN1.out.tr HN2.out).size)
end Go.Proofs.Ytfhinmjpokollaa
