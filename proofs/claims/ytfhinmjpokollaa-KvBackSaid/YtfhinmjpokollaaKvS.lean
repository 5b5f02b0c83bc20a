/- The law's Is: a table that has what the reference's has. No condition but that both can be read. -/
import Derived.Test.YtfhinmjpokollaaKvR
import Derived.Test.YtfhinmjpokollaaQt
namespace Go.Proofs.Ytfhinmjpokollaa
set_option linter.unusedVariables false
set_option linter.unusedSimpArgs false
set_option linter.constructorNameAsVariable false
open Go.RowKit Go.Maps Go.Sort
attribute [local go_sem] Oper.semAt_some

/-- What Is's rounds leave. -/
def IsI (b5 : Nat) (w2 : World) (s : List (List Int × Fm)) (W : World) : Prop := Fr (fun j => b5 ≤ j) w2 W ∧ Blk W b5 3 #[.int .i64 s.length]
theorem IsI.new {b5 : Nat} {w2 : World} {s : List (List Int × Fm)} {W W' : World} (h : IsI b5 w2 s W) (hN : New W W') : IsI b5 w2 s W' := ⟨h.1.trans (hN.toFr _), hN.blk h.2⟩
theorem IsI.puts {b5 B : Nat} {w2 : World} {s : List (List Int × Fm)} {W W' : World} (h : IsI b5 w2 s W) (hz : b5 ≤ B) (hp : Puts B W W') : IsI b5 w2 s W' := ⟨h.1.trans (hp.fr (fun j hj => Nat.le_trans hz hj)), hp.blk h.2⟩
theorem cl_at {L : List Ch} {E : Tab} (h : cl L = sct (cont E)) {k : Nat} {e : List Int × Fm} (he : (st E)[k]? = some e) : ∃ hk : k < L.length, L[k].k.xs = e.1 ∧ L[k].v.xs = e.2.xs := by
  have h2 : (cont (st E))[k]? = some (e.1, e.2.xs) := by
    unfold cont
    rw [List.getElem?_map, he]
    rfl
  rw [cont_st, ← h] at h2
  unfold cl at h2
  rw [List.getElem?_map] at h2
  obtain ⟨c, hc, hce⟩ := Option.map_eq_some_iff.1 h2
  obtain ⟨hk, hck⟩ := List.getElem?_eq_some_iff.1 hc
  injection hce with h3 h4
  exact ⟨hk, by rw [hck, h3], by rw [hck, h4]⟩
set_option maxHeartbeats 4000000 in
set_option maxRecDepth 100000 in
theorem is_any {X : Nat → Prop} {w : World} {base g b m : Nat} {E : Tab} (h : TbIn X w base g b m E) (hm : m ≤ 1000000) (hE : E.length ≤ 1000000) (A : Option Addr) (n c : Nat) (L : List Ch) (hL : RTb w A n L) (hl : ∀ c ∈ L, c.k.n ≤ 16 ∧ c.v.n ≤ 16384) (hc : cl L = sct (cont E)) :
    Calls Try.prog 22 #[.pointer (some ⟨g, 0, none⟩), .slice A n c] w fun e w' => e = .returned (.bool true) ∧ New w w' := by
  have H := Lib.hid h
  have HL := Lib.hid hL
  have HS := Lib.hid hl
  have HC := Lib.hid hc
  have hn : n = E.length := by
    have := congrArg List.length hc
    unfold cl at this
    rw [List.length_map, (sct_perm _).length_eq, cont_len] at this
    rw [← hL.len, this]
  have HN := Lib.hid hn
  have hX : ∀ j, X j → j < w.heap.size := fun j hj => by
    obtain ⟨_, cs, fz, hx⟩ := h.xs j hj
    exact (Array.getElem?_eq_some_iff.1 hx).1
  have HX := Lib.hid hX
  have hn1 : n ≤ 1000000 := by omega
  clear h hL hl hc hX hn
  refine (callsIn_wide (n := 3)).1 ?_
  refine callsIn_of_wp_marks Try.func22 rfl trivial ?_ rfl
  refine wpIn_wide.2 ?_
  simp only [Try.ntmps22, List.size_toArray, List.length_cons, List.length_nil, Nat.reduceAdd, Nat.reduceSub, Array.replicate_succ, Array.replicate_zero, List.push_toArray, List.append_toArray, List.nil_append, List.cons_append]
  go_upto_region 2 with fail
  obtain ⟨w1, hw1⟩ : ∃ w1 : World, w1 = ((w.alloc (.cells #[.slice A n c] 27)).alloc (.cells #[.bool false] 4)).alloc (.cells #[.int .i64 0] 3) := ⟨_, rfl⟩
  obtain ⟨b3, hb3⟩ : ∃ b3, b3 = w.heap.size := ⟨_, rfl⟩
  obtain ⟨b4, hb4⟩ : ∃ b4, b4 = w.heap.size + 1 := ⟨_, rfl⟩
  obtain ⟨b5, hb5⟩ : ∃ b5, b5 = w.heap.size + 1 + 1 := ⟨_, rfl⟩
  have HN1 : Hid (New w w1) := Lib.hid (by rw [hw1]; exact New.al (New.al (New.al (New.refl _) _) _) _)
  have HB3 : Hid (Blk w1 b3 27 #[.slice A n c]) := Lib.hid (by rw [hw1, hb3]; exact ((Blk.new _ _ _).alloc _).alloc _)
  have HB4 : Hid (Blk w1 b4 4 #[.bool false]) := Lib.hid (by rw [hw1, hb4]; exact (Blk.new' _ _ _ (by simp)).alloc _)
  have HB5 : Hid (Blk w1 b5 3 #[.int .i64 0]) := Lib.hid (by rw [hw1, hb5]; exact Blk.new' _ _ _ (by simp))
  have HZ : Hid (b3 = w.heap.size ∧ b4 = w.heap.size + 1 ∧ b5 = w.heap.size + 2) := Lib.hid ⟨hb3, hb4, by omega⟩
  rw [← hw1, ← hb5, ← hb4, ← hb3]
  clear hw1 hb3 hb4 hb5
  go_wp2_with fail
  refine (all_any (some ⟨g, 0, none⟩) w1).mono ?_
  rintro e w2 ⟨rfl, hw2⟩
  have HN2 : Hid (New w1 w2) := Lib.hid (by rw [hw2]; exact New.al (New.refl _) _)
  have hg := H.out.blk.lt
  have hb := H.out.blt
  have h1z := HB5.out.lt
  have hz3 := HZ.out
  have HS1 := Lib.hid (all1_live (H.out.new (HN1.out.tr HN2.out)) hm hE (fun j => j = b5) w1.heap.size (by rw [hw2]; exact Blk.new w1 _ _) (fun j hj => by
    subst hj
    have := HN2.out.size
    exact ⟨by omega, by omega, by omega, fun hx => by have := HX.out _ hx; omega, by omega⟩))
  have HB52 : Hid (Blk w2 b5 3 #[.int .i64 0]) := Lib.hid (HN2.out.blk HB5.out)
  have HZB : Hid (b5 < w2.heap.size) := Lib.hid (HB52.out.lt)
  clear hw2 hg hb h1z hz3
  go_wp2_with fail
  refine wp_rangeR rfl (enters_of Try.func44 (by kernel_rfl) rfl) (fun x : List Int × Fm => #[.string (strOfNums x.1), x.2.val]) (fun _ => rfl) HS1.out (fun x W W' hg hp => hg.puts hp) (fun h k => h.tr k) (fun W W' hp => Kk.puts hp)
    (IsI b5 w2) (fun s A B h hN => h.new hN) (fun s A B h hp => h.puts (Nat.le_of_lt HZB.out) hp) ⟨Fr.refl _ _, HB52.out⟩ ?a1 ?assign ?body ?done
  case assign =>
    intro l x W K hK
    gi_wp2
    exact hK
  case body =>
    rintro l pre x W hpl ⟨hF, hB⟩ hG ⟨e0, he0, hx1, hx2, hx3⟩
    obtain ⟨hkL, hck, hcv⟩ := cl_at HC.out he0
    rw [← hx1] at hck
    rw [← hx2] at hcv
    have HNW : Hid (New w W) := Lib.hid ((HN1.out.tr HN2.out).fr hF (fun k hk => by have := HZ.out; omega))
    have hB3W : Blk W b3 27 #[.slice A n c] := (HN2.out.blk HB3.out).fr hF (by have := HZ.out; omega)
    have c5 : W.cell? ⟨b5, 0, none⟩ = some (.int .i64 (pre.length : Nat)) := hB.cell 0
    have f5 : W.frozen? ⟨b5, 0, none⟩ = false := hB.frozen 0
    have c3 : W.cell? ⟨b3, 0, none⟩ = some (.slice A n c) := hB3W.cell 0
    have hTB := HL.out.new HNW.out
    have hkn : pre.length < n := by rw [← HL.out.len]; exact hkL
    obtain ⟨gA, oA, hl, hA, -, -, hrg⟩ := rd_row (f := Ch.cells) (L := L) (fun _ => rfl) (by omega) hTB.rd hkn
    have v0 : W.cell? ⟨gA, oA + pre.length * 3, none⟩ = some (.slice L[pre.length].k.A L[pre.length].k.n L[pre.length].k.c) := hrg 0 _ rfl
    have v1 : W.cell? ⟨gA, oA + pre.length * 3 + 1, none⟩ = some (.slice L[pre.length].v.A L[pre.length].v.n L[pre.length].v.c) := hrg 1 _ rfl
    have hin := hTB.el L[pre.length] (List.getElem_mem _)
    generalize L[pre.length] = y at hck hcv v0 v1 hin
    obtain ⟨⟨kA, kn, kc, ks⟩, ⟨vA, vn, vc, vs⟩, dd⟩ := y
    dsimp only at hck hcv v0 v1
    subst hck hcv
    obtain ⟨k, hk⟩ : ∃ k, k = pre.length := ⟨_, rfl⟩
    rw [← hk] at c5 v0 v1 hkn
    have HB := Lib.hid hB
    have HF := Lib.hid hF
    have HK := Lib.hid hk
    have hcvt := run_conv (c := kc) hin.k.rd
    dsimp only at hcvt
    obtain ⟨xk, xA, xn, xc, xs⟩ := x
    dsimp only at hcvt hG hin v0 v1
    have hbt := bytes_any xA vA xn vn xc vc xs xs W (Rd.own hG.1 rfl) hin.v.rd hG.2.1 hG.2.1
    have hts : decide (xs = xs) = true := by simp
    rw [hts] at hbt
    have HBT := Lib.hid hbt
    simp only [Fm.val]
    generalize strOfNums xk = sk at hcvt ⊢
    have hk0 : (0 : Int) ≤ (k : Int) := by omega
    have hkn2 : (k : Int) < (n : Int) := by omega
    have hdc : decide ((n : Int) ≤ (k : Int)) = false := decide_eq_false (by omega)
    have hdn : decide (n ≤ k) = false := decide_eq_false (by omega)
    clear hbt hB hF hG hx1 hx2 hx3 he0 hk hin hrg hTB hl hB3W hts hkL hpl
    subst hA
    gi_wp2
    refine ⟨trivial, ?_⟩
    refine (CallsIn.inRound l (callsIn_wide.2 HBT.out)).mono ?_
    rintro e W4 ⟨rfl, rfl⟩
    gi_wp2
    have hFW : Fr (fun j => j = b5) W (W.setCell ⟨b5, 0, none⟩ (.int .i64 (k + 1))) := (Fr.refl (fun j => j = b5) W).setCell (p := ⟨b5, 0, none⟩) (fun _ => rfl) _
    refine ⟨Kept.fr hFW (fun k o hB hs => by have := HZB.out; omega), Kk.fr hFW, HF.out.trans (hFW.mono (fun k _ hs => by omega)), ?_⟩
    have hs := HB.out.set 0 (.int .i64 (k + 1))
    rw [List.length_append, List.length_singleton, ← HK.out]
    simpa using hs
  case done =>
    rintro D fs W hD hfs ⟨hF, hB⟩ hDm
    have HNW : Hid (New w W) := Lib.hid ((HN1.out.tr HN2.out).fr hF (fun k hk => by have := HZ.out; omega))
    have HDM := Lib.hid hDm
    have hlen : fs.length = n := by
      have := congrArg List.length hfs
      rw [List.length_map, cont_len, st_len] at this
      rw [this, HN.out]
    rw [hlen] at hB
    have hB3W : Blk W b3 27 #[.slice A n c] := (HN2.out.blk HB3.out).fr hF (by have := HZ.out; omega)
    have HB4W : Hid (Blk W b4 4 #[.bool false]) := Lib.hid ((HN2.out.blk HB4.out).fr hF (by have := HZ.out; omega))
    have k5 := cell_regrown (show W.cell? ⟨b5, 0, none⟩ = some (.int .i64 (n : Nat)) from hB.cell 0)
    have k3 := cell_regrown (show W.cell? ⟨b3, 0, none⟩ = some (.slice A n c) from hB3W.cell 0)
    obtain ⟨z, hz⟩ : ∃ z, z = csize (cont E) := ⟨_, rfl⟩
    have cA := calls_regrown (w := W) (v := .int .i64 n) (f := 28) (args := #[.pointer (some ⟨g, 0, none⟩)]) (fun W' hN => (len_any (H.out.new (HNW.out.tr hN)) hm hE).mono fun e w h => ⟨by rw [HN.out]; exact h.1, h.2⟩)
    have cB := calls_regrown (w := W) (v := .int .i64 z) (f := 29) (args := #[.pointer (some ⟨g, 0, none⟩)]) (fun W' hN => (size_any (H.out.new (HNW.out.tr hN)) hm hE).mono fun e w h => ⟨by rw [hz]; exact h.1, h.2⟩)
    have cC := calls_regrown (w := W) (v := .int .i64 z) (f := 40) (args := #[.slice A n c]) (fun W' hN => (rsize_any A n c L W' (HL.out.new (HNW.out.tr hN)).rd HL.out.len (by omega) HS.out).mono fun e w h => ⟨by rw [hz, ← rsz_csize HC.out (fun c hc => ⟨(HL.out.el c hc).k.len, (HL.out.el c hc).v.len⟩)]; exact h.1, h.2⟩)
    have hF2 := Lib.hid hF
    clear hF hB hB3W hfs hlen hz hDm
    dsimp only
    go_wp2_with fail
    refine wp_region_tail 17 (by kernel_rfl) (by kernel_rfl) ?_
    simp only [List.take_succ_cons, List.take_zero, List.drop_succ_cons, List.drop_zero]
    repeat (quiet_step (first | exact cA _ _ | exact cB _ _ | exact cC _ _))
    refine wpQuiet_nil ?_
    intro Wq hNq
    have HNq : Hid (New W Wq) := Lib.hid hNq
    have c4 : Wq.cell? ⟨b4, 0, none⟩ = some (.bool false) := (hNq.blk HB4W.out).cell 0
    have f4 : Wq.frozen? ⟨b4, 0, none⟩ = false := (hNq.blk HB4W.out).frozen 0
    clear k5 k3 cA cB cC hNq
    go_wp2_with fail
    have hF : Fr (fun j => j = b4) Wq (Wq.setCell ⟨b4, 0, none⟩ (.bool true)) := (Fr.refl (fun j => j = b4) Wq).setCell (p := ⟨b4, 0, none⟩) (fun _ => rfl) _
    have hB : Blk (Wq.setCell ⟨b4, 0, none⟩ (.bool true)) b4 4 #[.bool true] := (HNq.out.blk HB4W.out).set 0 _
    refine leaves_marks [D] _ (((Marks.cons (Marks.nil w2.heap.size W) (fun _ h => by cases h) hD HDM.out).new HNq.out).fr hF (fun D hD => ?_)) (fun W' hS => ⟨.bool true, ?_, rfl, ?_⟩)
    · subst hD
      exact not_def_blk (HNq.out.blk HB4W.out)
    · have hc : W'.cell? ⟨b4, 0, none⟩ = some (.bool true) := by
        have h1 : W'.heap[b4]? = _ := hS.cells b4 _ hB rfl
        exact (show Blk W' b4 4 #[.bool true] from h1).cell 0
      simp [results, Try.results22, go_sem, hc]
    · have hz : w.heap.size ≤ w2.heap.size := (HN1.out.tr HN2.out).size
      exact (New.fr (HNW.out.tr HNq.out) hF (fun k hk => by have := HZ.out; omega)).trans (hS.below.mono hz)
end Go.Proofs.Ytfhinmjpokollaa
