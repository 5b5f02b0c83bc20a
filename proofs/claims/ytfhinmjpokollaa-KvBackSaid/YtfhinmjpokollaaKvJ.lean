/- Two live tables that have the same: Same says so. No condition but that the tables can be read. -/
import Derived.Test.YtfhinmjpokollaaKvI
namespace Go.Proofs.Ytfhinmjpokollaa
set_option linter.unusedVariables false
set_option linter.unusedSimpArgs false
set_option linter.constructorNameAsVariable false
open Go.RowKit Go.Maps Go.Sort
attribute [local go_sem] Oper.semAt_some

theorem lookup_cont (E : Tab) (k : List Int) : (cont E).lookup k = (E.lookup k).map Fm.xs := by
  unfold cont
  induction E with
  | nil => rfl
  | cons e E ih =>
    obtain ⟨x, v⟩ := e
    rw [List.map_cons, List.lookup_cons, List.lookup_cons]
    cases hk : k == x
    · exact ih
    · rfl
/-- What a look-up in one finds of an entry of the other. -/
theorem same_look {E1 E2 : Tab} (h2 : (E2.map Prod.fst).Nodup) (hp : (cont E1).Perm (cont E2)) {e : List Int × Fm} (he : e ∈ E1) : (E2.lookup e.1).isSome = true ∧ (tval E2 e.1).xs = e.2.xs := by
  have hm : (e.1, e.2.xs) ∈ cont E2 := hp.mem_iff.1 (List.mem_map.2 ⟨e, he, rfl⟩)
  obtain ⟨d, hd, hde⟩ := List.mem_map.1 hm
  have hl := mem_lookup h2 hd
  injection hde with h3 h4
  rw [h3] at hl
  unfold tval
  rw [hl]
  exact ⟨rfl, h4⟩
set_option maxHeartbeats 2000000 in
set_option maxRecDepth 100000 in
theorem same_live {X1 X2 : Nat → Prop} {w : World} {base1 base2 g1 g2 b1 b2 m1 m2 : Nat} {E1 E2 : Tab} (h1 : TbIn X1 w base1 g1 b1 m1 E1) (h2 : TbIn X2 w base2 g2 b2 m2 E2) (hm1 : m1 ≤ 1000000) (hm2 : m2 ≤ 1000000) (hE1 : E1.length ≤ 1000000) (hp : (cont E1).Perm (cont E2)) :
    Calls Try.prog 16 #[.pointer (some ⟨g1, 0, none⟩), .pointer (some ⟨g2, 0, none⟩)] w fun e w' => e = .returned (.bool true) ∧ New w w' := by
  have H1 := Lib.hid h1
  have H2 := Lib.hid h2
  have HP := Lib.hid hp
  have hX : ∀ j, X1 j → j < w.heap.size := fun j hj => by
    obtain ⟨_, cs, fz, hx⟩ := h1.xs j hj
    exact (Array.getElem?_eq_some_iff.1 hx).1
  have HX := Lib.hid hX
  have hl : E2.length = E1.length := by have := hp.length_eq; rw [cont_len, cont_len] at this; exact this.symm
  have HL := Lib.hid hl
  clear h1 h2 hX hp hl
  refine (callsIn_wide (n := 3)).1 ?_
  refine callsIn_of_wp_marks Try.func16 rfl trivial ?_ rfl
  refine wpIn_wide.2 ?_
  simp only [Try.ntmps16, List.size_toArray, List.length_cons, List.length_nil, Nat.reduceAdd, Nat.reduceSub, Array.replicate_succ, Array.replicate_zero, List.push_toArray, List.append_toArray, List.nil_append, List.cons_append]
  go_upto_region 1 with fail
  obtain ⟨w1, hw1⟩ : ∃ w1 : World, w1 = (w.alloc (.cells #[.pointer (some ⟨g2, 0, none⟩)] 24)).alloc (.cells #[.bool false] 4) := ⟨_, rfl⟩
  obtain ⟨b3, hb3⟩ : ∃ b3, b3 = w.heap.size := ⟨_, rfl⟩
  obtain ⟨b4, hb4⟩ : ∃ b4, b4 = w.heap.size + 1 := ⟨_, rfl⟩
  have HN1 : Hid (New w w1) := Lib.hid (by rw [hw1]; exact New.al (New.al (New.refl _) _) _)
  have HB3 : Hid (Blk w1 b3 24 #[.pointer (some ⟨g2, 0, none⟩)]) := Lib.hid (by rw [hw1, hb3]; exact (Blk.new _ _ _).alloc _)
  have HB4 : Hid (Blk w1 b4 4 #[.bool false]) := Lib.hid (by rw [hw1, hb4]; exact Blk.new' _ _ _ (by simp))
  rw [← hw1, ← hb4, ← hb3]
  have HZ4 : Hid (w.heap.size ≤ b4) := Lib.hid (by omega)
  clear hw1 hb3 hb4
  have k3 := cell_regrown (show w1.cell? ⟨b3, 0, none⟩ = some (.pointer (some ⟨g2, 0, none⟩)) from HB3.out.cell 0)
  have cA := calls_regrown (w := w1) (v := .int .i64 E1.length) (f := 28) (args := #[.pointer (some ⟨g1, 0, none⟩)]) (fun W hN => (len_any (H1.out.new (HN1.out.tr hN)) hm1 hE1).mono fun e w h => ⟨h.1, h.2⟩)
  have cB := calls_regrown (w := w1) (v := .int .i64 E1.length) (f := 28) (args := #[.pointer (some ⟨g2, 0, none⟩)]) (fun W hN => (len_any (H2.out.new (HN1.out.tr hN)) hm2 (by rw [HL.out]; exact hE1)).mono fun e w h => ⟨by rw [← HL.out]; exact h.1, h.2⟩)
  refine wp_region_quiet_below (by kernel_rfl) (by kernel_rfl) ?_
  repeat (quiet_step (first | exact cA _ _ | exact cB _ _))
  refine wpQuiet_nil ?_
  intro _ hw'
  obtain ⟨⟨dq, osq⟩, hw''⟩ := hw'
  have HNq : Hid (New w1 (grow (redrawn w1 dq) osq)) := Lib.hid (below_regrown w1 dq osq)
  subst hw''
  generalize grow (redrawn w1 dq) osq = wq at HNq ⊢
  clear k3 cA cB
  go_wp2_with fail
  refine (all_any (some ⟨g1, 0, none⟩) wq).mono ?_
  rintro e w2 ⟨rfl, hw2⟩
  have HN2 : Hid (New w1 w2) := Lib.hid (by rw [hw2]; exact New.al HNq.out _)
  have HS := Lib.hid (all1_live (H1.out.new (HN1.out.tr HN2.out)) hm1 hE1 (fun _ => False) wq.heap.size (by rw [hw2]; exact Blk.new wq _ _) (fun j hj => hj.elim))
  clear hw2
  go_wp2_with fail
  refine wp_rangeR rfl (enters_of Try.func44 (by kernel_rfl) rfl) (fun x : List Int × Fm => #[.string (strOfNums x.1), x.2.val]) (fun _ => rfl) HS.out (fun x W W' hg hp => hg.puts hp) (fun h k => h.tr k) (fun W W' hp => Kk.puts hp)
    (fun _ W => New w2 W) (fun _ _ _ h hN => h.tr hN) (fun _ _ _ h hp => h.puts hp (Nat.le_refl _)) (New.refl _) ?a1 ?assign ?body ?done
  case assign =>
    intro l x W K hK
    gi_wp2
    exact hK
  case body =>
    rintro l pre x W hpl hN hG ⟨e0, he0, hx1, hx2, hx3⟩
    have he := st_mem (List.mem_of_getElem? he0)
    have hsl := same_look H2.out.nd HP.out he
    have HNW : Hid (New w W) := Lib.hid ((HN1.out.tr HN2.out).tr hN)
    have HT := Lib.hid (H2.out.new HNW.out)
    have c3 : W.cell? ⟨b3, 0, none⟩ = some (.pointer (some ⟨g2, 0, none⟩)) := (hN.blk (HN2.out.blk HB3.out)).cell 0
    obtain ⟨cc, W2, hcv, hN2, hR2⟩ := conv_back x.1 hG.2.2.2.1 W
    have HN2' := Lib.hid hN2
    have HR2 := Lib.hid hR2
    rw [← hx1] at hsl
    rw [← hx2] at hsl
    have HSL := Lib.hid hsl
    have HG := Lib.hid hG
    have HN := Lib.hid hN
    clear hN2 hR2 hsl hx1 hx2 hx3 he he0 hG hN
    obtain ⟨xk, xA, xn, xc, xs⟩ := x
    simp only [Fm.val]
    dsimp only at hcv
    have hxl : xk.length ≤ 1000000 := by have := HG.out.2.2.2.2; dsimp only at this; omega
    have hbk : Byt xk := HG.out.2.2.2.1
    gi_wp2
    refine ⟨trivial, ?_⟩
    refine (CallsIn.inRound l (callsIn_wide.2 (get_any (HT.out.new HN2'.out) (some ⟨W.heap.size, 0, none⟩) xk.length cc xk HR2.out hbk hxl))).mono ?_
    rintro e W3 ⟨A3, c3', rfl, hO3, hN3⟩
    rw [HSL.out.1]
    rw [HSL.out.2] at hO3
    generalize (tval E2 xk).n = n3 at hO3 ⊢
    have HN3 : Hid (New W W3) := Lib.hid (HN2'.out.tr hN3)
    have heq := equal_any xA A3 xn n3 xc c3' xs xs W3 (Rd.own (HN3.out.own HG.out.1) rfl) (Rd.own hO3 rfl) HG.out.2.1 HG.out.2.1
    have hts : decide (xs = xs) = true := by simp
    rw [hts] at heq
    have HEQ := Lib.hid heq
    clear heq hO3 hN3 hcv hts
    gi_wp2
    refine ⟨trivial, ?_⟩
    refine (CallsIn.inRound l (callsIn_wide.2 HEQ.out)).mono ?_
    rintro e W4 ⟨rfl, rfl⟩
    gi_wp2
    exact ⟨Kept.new HN3.out, Kk.fr (HN3.out.toFr _), HN.out.tr HN3.out⟩
  case done =>
    rintro D fs W hD hfs hNW hDm
    have HNW := Lib.hid (HN2.out.tr hNW)
    have HDM := Lib.hid hDm
    have c4 : W.cell? ⟨b4, 0, none⟩ = some (.bool false) := (HNW.out.blk HB4.out).cell 0
    have f4 : W.frozen? ⟨b4, 0, none⟩ = false := (HNW.out.blk HB4.out).frozen 0
    clear hNW hDm
    dsimp only
    go_wp2_with fail
    have hF : Fr (fun j => j = b4) W (W.setCell ⟨b4, 0, none⟩ (.bool true)) := (Fr.refl (fun j => j = b4) W).setCell (p := ⟨b4, 0, none⟩) (fun _ => rfl) _
    have hB : Blk (W.setCell ⟨b4, 0, none⟩ (.bool true)) b4 4 #[.bool true] := (HNW.out.blk HB4.out).set 0 _
    refine leaves_marks [D] _ ((Marks.cons (Marks.nil w2.heap.size W) (fun _ h => by cases h) hD HDM.out).fr hF (fun D hD => ?_)) (fun W' hS => ⟨.bool true, ?_, rfl, ?_⟩)
    · subst hD
      exact not_def_blk (HNW.out.blk HB4.out)
    · have hc : W'.cell? ⟨b4, 0, none⟩ = some (.bool true) := by
        have h1 : W'.heap[b4]? = _ := hS.cells b4 _ hB rfl
        exact (show Blk W' b4 4 #[.bool true] from h1).cell 0
      simp [results, Try.results16, go_sem, hc]
    · have hz : w.heap.size ≤ w2.heap.size := (HN1.out.tr HN2.out).size
      exact (New.fr (HN1.out.tr HNW.out) hF (fun k hk => by have := HZ4.out; omega)).trans (hS.below.mono hz)
end Go.Proofs.Ytfhinmjpokollaa
