/- Nets: copies. No condition but the net's own. -/
import Derived.Test.YtajoahhjgloefaaTrI
import Derived.Test.YtajoahhjgloefaaMapB
import Derived.Deep.RegionHeld3
namespace Go.Proofs.Ytajoahhjgloefaa
open Go.RowKit Go.Maps

theorem mclone_any (b n : Nat) (f : Lit → Option Value) (w : World) (h : MapAt w Try.prog 9 b n f) :
    Calls Try.prog 40 #[.map (some b)] w fun e w' => e = .returned (.map (some w.heap.size)) ∧ MapAt w' Try.prog 9 w.heap.size n f ∧ New w w' := by
  obtain ⟨o, hrun, hM⟩ := MapAt.cloned (t := 30) h
  have HM := Lib.hid hM
  have hq := fun w => run_eql_map_nil_sl (P := Try.prog) w 30 _ _ (some b) Try.underlying30
  clear hM h
  go_enter Try.func40, Try.ntmps40
  go_wp2
  rw [run_callFunc_extern Try.func42 (by kernel_rfl) (by kernel_rfl) (by kernel_rfl) (e := Extern.MapsClone.clone) (by kernel_rfl), hrun]
  simp only [Result.andThen]
  rw [Oper.upon_value]
  go_wp2
  rw [run_typeAssert_map_sl _ 30 20 _ _ _ Try.underlying30]
  simp only [Result.andThen]
  rw [Oper.upon_value]
  go_wp2
  go_ret
  exact ⟨rfl, HM.out, New.al (New.refl _) _⟩
theorem keepc {w : World} {g g2 j : Nat} {u : Value} {x y : Option Value} (h : w.cell? ⟨g, 0, none⟩ = x ∧ w.cell? ⟨g, 1, none⟩ = y) (hne : g ≠ g2) :
    (w.setCell ⟨g2, j, none⟩ u).cell? ⟨g, 0, none⟩ = x ∧ (w.setCell ⟨g2, j, none⟩ u).cell? ⟨g, 1, none⟩ = y := by
  have e : ∀ i, (w.setCell ⟨g2, j, none⟩ u).cell? ⟨g, i, none⟩ = w.cell? ⟨g, i, none⟩ := fun i => World.cell?_setCell_other _ _ _ _ (fun e => hne (by injection e with e; exact e.symm))
  rw [e, e]
  exact h
/-- A lane that was copied. -/
structure Cpd (X : Nat → Prop) (w w' : World) (base : Nat) (l l' : Ln) : Prop where
  ln : LnIn X w' base l'
  L : l'.L = l.L
  lost : l'.lost = l.lost
  m : l'.m = l.m
  lo : ∀ k, Lo l' k → w.heap.size ≤ k
theorem own_down {w : World} {b b' e s n : Nat} {v : Value} {xs : List Value} (h : w.ownsRow b e s v n xs) (hb : b' ≤ b) : w.ownsRow b' e s v n xs := by
  refine ⟨h.1, ?_⟩
  rcases h.2 with h2 | ⟨g, cap, cur, e1, h3, rest⟩
  · exact .inl h2
  · exact .inr ⟨g, cap, cur, e1, Nat.le_trans hb h3, rest⟩
theorem isT_lt {t : TypeId} {w : World} {k : Nat} (h : IsT t w k) : k < w.heap.size := by
  obtain ⟨cs, fz, hx⟩ := h
  exact lt_of_block hx
theorem cp_lane {X : Nat → Prop} {w ws wm w9 Wf : World} {base g' n c' : Nat} {l : Ln} {A' : Option Addr} (hl : LnIn X w base l) (hxs : ∀ k, X k → k < w.heap.size) (hb : base ≤ w.heap.size) (hg : w.heap.size ≤ g') (hg9 : g' < w9.heap.size) (hN9 : New w w9) (hNs : New w9 ws) (hNsm : New ws wm)
    (hn : n = l.L.length) (hO : ws.ownsRow w9.heap.size 33 1 (.slice A' n c') n (vals l.L)) (hM : MapAt wm Try.prog 9 ws.heap.size l.m l.f) (hF : Fr (fun k => k = g') wm Wf) :
    Cpd X w Wf base l ⟨.slice A' n c', l.L, ws.heap.size, l.m, l.f, l.lost⟩ ∧ ∀ k, Lo ⟨.slice A' n c', l.L, ws.heap.size, l.m, l.f, l.lost⟩ k → w9.heap.size ≤ k := by
  have h9 := hN9.size
  have hs := hNs.size
  have hown : ∀ k, (Value.slice A' n c').ownBlock = some k → w9.heap.size ≤ k := fun k hk => (own_lt hO k hk).1
  have hlo : ∀ k, Lo ⟨.slice A' n c', l.L, ws.heap.size, l.m, l.f, l.lost⟩ k → w9.heap.size ≤ k := by
    rintro k (rfl | hk)
    · exact hs
    · exact hown k hk
  refine ⟨⟨⟨?_, hM.fr hF (by show ¬ ws.heap.size = g'; omega), by show base ≤ ws.heap.size; omega, fun x hx => ⟨?_, (hl.reads x hx).2⟩, hl.len, hl.cnt, hl.low⟩, rfl, rfl, rfl, fun k hk => by have := hlo k hk; omega⟩, hlo⟩
  · rw [hn] at hO
    show Wf.ownsRow base 33 1 (.slice A' n c') l.L.length (vals l.L)
    rw [hn]
    refine own_fr (own_down (hNsm.own hO) (by omega)) hF (fun k hk e => ?_)
    have := hown k (by rw [hn]; exact hk)
    omega
  · exact ((hN9.tr (hNs.tr hNsm)).rd (hl.reads x hx).1).fr hF (fun k hk e => by have := hxs k hk; omega)
/-- What stands so far in the copy. -/
structure CpS (X : Nat → Prop) (w : World) (base g' : Nat) (p : Int) (l1 l2 : Ln) (k : Nat) (wr : World) : Prop where
  new : New w wr
  s0 : k = 0 → Blk wr g' 71 #[.int .i64 p, .slice none 0 0, .map none, .slice none 0 0, .map none]
  s1 : k = 1 → ∃ l1', Blk wr g' 71 #[.int .i64 p, l1'.v, .map (some l1'.b), .slice none 0 0, .map none] ∧ Cpd X w wr base l1 l1' ∧ ∀ k, Lo l1' k → k < wr.heap.size
  s2 : k = 2 → ∃ l1' l2', Blk wr g' 71 #[.int .i64 p, l1'.v, .map (some l1'.b), l2'.v, .map (some l2'.b)] ∧ Cpd X w wr base l1 l1' ∧ Cpd X w wr base l2 l2' ∧ ∀ k, Lo l1' k → ¬ Lo l2' k
set_option maxHeartbeats 4000000 in
set_option maxRecDepth 100000 in
theorem copy_any {X : Nat → Prop} {w : World} {base g : Nat} {p : Int} {l1 l2 : Ln} {N : Nat} (h : Nt X w base g p l1 l2 N) :
    Calls Try.prog 25 #[.pointer (some ⟨g, 0, none⟩)] w fun e w' => ∃ (g' : Nat) (l1' l2' : Ln), e = .returned (.pointer (some ⟨g', 0, none⟩)) ∧ Nt X w' base g' p l1' l2' N ∧
      (∀ i, (sel i l1' l2').L = (sel i l1 l2).L ∧ (sel i l1' l2').lost = (sel i l1 l2).lost) ∧ New w w' ∧ ∀ k, No g' l1' l2' k → w.heap.size ≤ k := by
  have H := Lib.hid h
  have hi0 : ∀ (w : World) (a b c d : Value), (Instr.index 69 (.agg #[a, b, c, d]) (.int .i64 0)).run Try.prog w = .ok (.agg #[a, b]) w := fun w a b c d => by first | rfl | kernel_rfl
  have hi1 : ∀ (w : World) (a b c d : Value), (Instr.index 69 (.agg #[a, b, c, d]) (.int .i64 1)).run Try.prog w = .ok (.agg #[c, d]) w := fun w a b c d => by first | rfl | kernel_rfl
  have c0 : w.cell? ⟨g, 0, none⟩ = some (.int .i64 p) := h.blk.cell 0
  have c1 : w.cell? ⟨g, 1, none⟩ = some l1.v := h.blk.cell 1
  have c2 : w.cell? ⟨g, 2, none⟩ = some (.map (some l1.b)) := h.blk.cell 2
  have c3 : w.cell? ⟨g, 3, none⟩ = some l2.v := h.blk.cell 3
  have c4 : w.cell? ⟨g, 4, none⟩ = some (.map (some l2.b)) := h.blk.cell 4
  have hgl : ¬ g = w.heap.size := by have := h.blk.lt; omega
  clear h
  go_enter Try.func25, Try.ntmps25
  go_upto_region 4 with fail
  obtain ⟨w1, hw1⟩ : ∃ w1 : World, w1 = w.alloc (.cells #[.int .i64 p, .slice none 0 0, .map none, .slice none 0 0, .map none] 71) := ⟨_, rfl⟩
  obtain ⟨g', hg'⟩ : ∃ g', g' = w.heap.size := ⟨_, rfl⟩
  have HN1 : Hid (New w w1) := Lib.hid (by rw [hw1]; exact New.al (New.refl _) _)
  have HG1 : Hid (Blk w1 g' 71 #[.int .i64 p, .slice none 0 0, .map none, .slice none 0 0, .map none]) := Lib.hid (by rw [hw1, hg']; exact Blk.new _ _ _)
  have HG' : Hid (w.heap.size ≤ g') := Lib.hid (by omega)
  rw [← hw1, ← hg']
  clear hw1 hg' hgl c0 c1 c2 c3 c4
  have c1 : w1.cell? ⟨g, 1, none⟩ = some l1.v := (HN1.out.blk H.out.blk).cell 1
  have c2 : w1.cell? ⟨g, 2, none⟩ = some (.map (some l1.b)) := (HN1.out.blk H.out.blk).cell 2
  have c3 : w1.cell? ⟨g, 3, none⟩ = some l2.v := (HN1.out.blk H.out.blk).cell 3
  have c4 : w1.cell? ⟨g, 4, none⟩ = some (.map (some l2.b)) := (HN1.out.blk H.out.blk).cell 4
  obtain ⟨A1, d1, hv1, hd1, -, -, -⟩ := own_shape H.out.one.own
  obtain ⟨A2, d2, hv2, hd2, -, -, -⟩ := own_shape H.out.two.own
  obtain ⟨n1, hn1⟩ : ∃ n, n = l1.L.length := ⟨_, rfl⟩
  obtain ⟨n2, hn2⟩ : ∃ n, n = l2.L.length := ⟨_, rfl⟩
  rw [hv1, ← hn1] at c1
  rw [hv2, ← hn2] at c3
  have HV1 : Hid (l1.v = .slice A1 n1 d1 ∧ n1 = l1.L.length) := Lib.hid ⟨by rw [hv1, hn1], hn1⟩
  have HV2 : Hid (l2.v = .slice A2 n2 d2 ∧ n2 = l2.L.length) := Lib.hid ⟨by rw [hv2, hn2], hn2⟩
  clear hv1 hv2 hd1 hd2 hn1 hn2
  go_wp2_with fail
  clear c1 c2 c3 c4
  go_loopw [18] (fun ix wr => ∃ k : Nat, k ≤ 2 ∧ ix = .int .i64 k ∧ Hid (CpS X w base g' p l1 l2 k wr)) (fun ix _ => 2 - (intOf ix).toNat)
  case atStart => exact ⟨0, by decide, rfl, Lib.hid ⟨HN1.out, fun _ => HG1.out, fun h => (by cases h), fun h => (by cases h)⟩⟩
  case round =>
    obtain ⟨k, hk, rfl, HS⟩ := hrel
    by_cases h0 : k = 0
    · as_aux_lemma =>
        subst h0
        rw [show ((0 : Nat) : Int) = 0 from rfl]
        skip
        have HN := Lib.hid HS.out.new
        have HGr : Hid (Blk wr g' 71 #[.int .i64 p, .slice none 0 0, .map none, .slice none 0 0, .map none]) := Lib.hid (HS.out.s0 rfl)
        go_upto_region 7 with fail
        obtain ⟨w9, hw9⟩ : ∃ w9 : World, w9 = wr.alloc (.cells #[.slice A1 n1 d1, .map (some l1.b)] 68) := ⟨_, rfl⟩
        obtain ⟨b5, hb5⟩ : ∃ b5, b5 = wr.heap.size := ⟨_, rfl⟩
        have HNa : Hid (New wr w9) := Lib.hid (by rw [hw9]; exact New.al (New.refl _) _)
        have HN9 : Hid (New w w9) := Lib.hid (HN.out.tr HNa.out)
        have HB5 : Hid (Blk w9 b5 68 #[.slice A1 n1 d1, .map (some l1.b)]) := Lib.hid (by rw [hw9, hb5]; exact Blk.new _ _ _)
        have HG9 : Hid (Blk w9 g' 71 #[.int .i64 p, .slice none 0 0, .map none, .slice none 0 0, .map none]) := Lib.hid (HNa.out.blk HGr.out)
        rw [← hw9, ← hb5]
        clear hw9 hb5
        have HT9 := Lib.hid (H.out.new HN9.out)
        have HSC := Lib.hid (fun (W : World) (hN : New w9 W) => clone_any A1 n1 d1 l1.L W (rd_szs (Rd.own (v := .slice A1 n1 d1) (by have := hN.own HT9.out.one.own; rw [HV1.out.1, ← HV1.out.2] at this; exact this) rfl)) (by have := HT9.out.one.len; have := HV1.out.2; omega))
        have HMC := Lib.hid (fun (W : World) (hN : New w9 W) => mclone_any l1.b l1.m l1.f W (HT9.out.one.map.fr (hN.toFr NoB) (fun x => x)))
        have hne5 : b5 ≠ g' := fun e => Blk.ne_ HB5.out HG9.out (by decide) e
        have hS0 : w9.drew.cell? ⟨b5, 0, none⟩ = some (.slice A1 n1 d1) ∧ w9.drew.cell? ⟨b5, 1, none⟩ = some (.map (some l1.b)) := ⟨HB5.out.cell 0, HB5.out.cell 1⟩
        go_region_held3 (fun w' => w'.cell? ⟨b5, 0, none⟩ = some (.slice A1 n1 d1) ∧ w'.cell? ⟨b5, 1, none⟩ = some (.map (some l1.b)))
          (first | exact hS0 | exact hS1 | exact hS2 | exact keepc hS2 hne5 | exact keepc (keepc hS2 hne5) hne5)
          (first
            | (go_at_call 29; refine (HSC.out _ (New.dr (New.refl _))).mono ?_; rintro e ws ⟨⟨A', c', rfl, hO⟩, hNs⟩; have HO := Lib.hid hO; have HNs : Hid (New w9 ws) := Lib.hid (New.tr (New.dr (New.refl _)) hNs); have hS1 : ws.cell? ⟨b5, 0, none⟩ = some (.slice A1 n1 d1) ∧ ws.cell? ⟨b5, 1, none⟩ = some (.map (some l1.b)) := ⟨(HNs.out.blk HB5.out).cell 0, (HNs.out.blk HB5.out).cell 1⟩; clear hO hNs)
            | (go_at_call 40; refine (HMC.out _ HNs.out).mono ?_; rintro e wm ⟨rfl, hM, hNm⟩; have HM := Lib.hid hM; have HNsm := Lib.hid hNm; have HNm : Hid (New w9 wm) := Lib.hid (HNs.out.tr hNm); have hS2 : wm.cell? ⟨b5, 0, none⟩ = some (.slice A1 n1 d1) ∧ wm.cell? ⟨b5, 1, none⟩ = some (.map (some l1.b)) := ⟨(HNm.out.blk HB5.out).cell 0, (HNm.out.blk HB5.out).cell 1⟩; have HGm := Lib.hid (HNm.out.blk HG9.out); have e1 : wm.cell? ⟨g', 1, none⟩ = some (.slice none 0 0) := HGm.out.cell 1; have e2 : wm.cell? ⟨g', 2, none⟩ = some (.map none) := HGm.out.cell 2; have z1 : wm.frozen? ⟨g', 1, none⟩ = false := HGm.out.frozen 1; have z2 : wm.frozen? ⟨g', 2, none⟩ = false := HGm.out.frozen 2; clear hM hNm))
        go_wp2_with fail
        go_roundw
        case rel =>
          have hFf : Fr (fun k => k = g') wm ((wm.setCell ⟨g', 1, none⟩ (.slice A' n1 c')).setCell ⟨g', 2, none⟩ (.map (some ws.heap.size))) := ((Fr.refl (fun k => k = g') wm).setCell (p := ⟨g', 1, none⟩) (fun _ => rfl) _).setCell (p := ⟨g', 2, none⟩) (fun _ => rfl) _
          have hBf := ((HGm.out.set 1 (.slice A' n1 c')).set 2 (.map (some ws.heap.size)))
          have hcp := cp_lane H.out.one (fun k hk => (isT_lt (H.out.xs k hk).2)) H.out.base_ HG'.out HG9.out.lt HN9.out HNs.out HNsm.out HV1.out.2 HO.out HM.out hFf
          have hnew := New.fr (HN9.out.tr HNm.out) hFf (fun k hk => by have := HG'.out; omega)
          exact ⟨1, by decide, by go_num, Lib.hid ⟨hnew, fun h => (by cases h), fun _ => ⟨_, by simpa using hBf, hcp.1, fun k hk => (hcp.1.ln.ours hk).2⟩, fun h => (by cases h)⟩⟩
        case measure => simp [intOf]
    · by_cases h1 : k = 1
      · as_aux_lemma =>
          subst h1
          rw [show ((1 : Nat) : Int) = 1 from rfl]
          obtain ⟨l1', hb1, hc1, hl1⟩ := HS.out.s1 rfl
          have HC1 := Lib.hid hc1
          have HL1 := Lib.hid hl1
          have HN := Lib.hid HS.out.new
          have HGr : Hid (Blk wr g' 71 #[.int .i64 p, l1'.v, .map (some l1'.b), .slice none 0 0, .map none]) := Lib.hid hb1
          go_upto_region 7 with fail
          obtain ⟨w9, hw9⟩ : ∃ w9 : World, w9 = wr.alloc (.cells #[.slice A2 n2 d2, .map (some l2.b)] 68) := ⟨_, rfl⟩
          obtain ⟨b5, hb5⟩ : ∃ b5, b5 = wr.heap.size := ⟨_, rfl⟩
          have HNa : Hid (New wr w9) := Lib.hid (by rw [hw9]; exact New.al (New.refl _) _)
          have HN9 : Hid (New w w9) := Lib.hid (HN.out.tr HNa.out)
          have HB5 : Hid (Blk w9 b5 68 #[.slice A2 n2 d2, .map (some l2.b)]) := Lib.hid (by rw [hw9, hb5]; exact Blk.new _ _ _)
          have HG9 : Hid (Blk w9 g' 71 #[.int .i64 p, l1'.v, .map (some l1'.b), .slice none 0 0, .map none]) := Lib.hid (HNa.out.blk HGr.out)
          rw [← hw9, ← hb5]
          clear hw9 hb5
          have HT9 := Lib.hid (H.out.new HN9.out)
          have HSC := Lib.hid (fun (W : World) (hN : New w9 W) => clone_any A2 n2 d2 l2.L W (rd_szs (Rd.own (v := .slice A2 n2 d2) (by have := hN.own HT9.out.two.own; rw [HV2.out.1, ← HV2.out.2] at this; exact this) rfl)) (by have := HT9.out.two.len; have := HV2.out.2; omega))
          have HMC := Lib.hid (fun (W : World) (hN : New w9 W) => mclone_any l2.b l2.m l2.f W (HT9.out.two.map.fr (hN.toFr NoB) (fun x => x)))
          have hne5 : b5 ≠ g' := fun e => Blk.ne_ HB5.out HG9.out (by decide) e
          have hS0 : w9.drew.cell? ⟨b5, 0, none⟩ = some (.slice A2 n2 d2) ∧ w9.drew.cell? ⟨b5, 1, none⟩ = some (.map (some l2.b)) := ⟨HB5.out.cell 0, HB5.out.cell 1⟩
          go_region_held3 (fun w' => w'.cell? ⟨b5, 0, none⟩ = some (.slice A2 n2 d2) ∧ w'.cell? ⟨b5, 1, none⟩ = some (.map (some l2.b)))
            (first | exact hS0 | exact hS1 | exact hS2 | exact keepc hS2 hne5 | exact keepc (keepc hS2 hne5) hne5)
            (first
              | (go_at_call 29; refine (HSC.out _ (New.dr (New.refl _))).mono ?_; rintro e ws ⟨⟨A', c', rfl, hO⟩, hNs⟩; have HO := Lib.hid hO; have HNs : Hid (New w9 ws) := Lib.hid (New.tr (New.dr (New.refl _)) hNs); have hS1 : ws.cell? ⟨b5, 0, none⟩ = some (.slice A2 n2 d2) ∧ ws.cell? ⟨b5, 1, none⟩ = some (.map (some l2.b)) := ⟨(HNs.out.blk HB5.out).cell 0, (HNs.out.blk HB5.out).cell 1⟩; clear hO hNs)
              | (go_at_call 40; refine (HMC.out _ HNs.out).mono ?_; rintro e wm ⟨rfl, hM, hNm⟩; have HM := Lib.hid hM; have HNsm := Lib.hid hNm; have HNm : Hid (New w9 wm) := Lib.hid (HNs.out.tr hNm); have hS2 : wm.cell? ⟨b5, 0, none⟩ = some (.slice A2 n2 d2) ∧ wm.cell? ⟨b5, 1, none⟩ = some (.map (some l2.b)) := ⟨(HNm.out.blk HB5.out).cell 0, (HNm.out.blk HB5.out).cell 1⟩; have HGm := Lib.hid (HNm.out.blk HG9.out); have e1 : wm.cell? ⟨g', 3, none⟩ = some (.slice none 0 0) := HGm.out.cell 3; have e2 : wm.cell? ⟨g', 4, none⟩ = some (.map none) := HGm.out.cell 4; have z1 : wm.frozen? ⟨g', 3, none⟩ = false := HGm.out.frozen 3; have z2 : wm.frozen? ⟨g', 4, none⟩ = false := HGm.out.frozen 4; clear hM hNm))
          go_wp2_with fail
          go_roundw
          case rel =>
            have hFf : Fr (fun k => k = g') wm ((wm.setCell ⟨g', 3, none⟩ (.slice A' n2 c')).setCell ⟨g', 4, none⟩ (.map (some ws.heap.size))) := ((Fr.refl (fun k => k = g') wm).setCell (p := ⟨g', 3, none⟩) (fun _ => rfl) _).setCell (p := ⟨g', 4, none⟩) (fun _ => rfl) _
            have hBf := ((HGm.out.set 3 (.slice A' n2 c')).set 4 (.map (some ws.heap.size)))
            have hcp := cp_lane H.out.two (fun k hk => (isT_lt (H.out.xs k hk).2)) H.out.base_ HG'.out HG9.out.lt HN9.out HNs.out HNsm.out HV2.out.2 HO.out HM.out hFf
            have hnew := New.fr (HN9.out.tr HNm.out) hFf (fun k hk => by have := HG'.out; omega)
            have hN9m := HNa.out.tr HNm.out
            have h1 := (HC1.out.ln.new hN9m).fr hFf (fun k e h => HC1.out.ln.blk HGr.out (e ▸ h)) (fun k e h => by have := isT_lt (H.out.xs k h).2; have := HG'.out; omega)
            exact ⟨2, by decide, by go_num, Lib.hid ⟨hnew, fun h => (by cases h), fun h => (by cases h), fun _ => ⟨l1', _, by simpa using hBf, ⟨h1, HC1.out.L, HC1.out.lost, HC1.out.m, HC1.out.lo⟩, hcp.1, fun k hk hk2 => by have := HL1.out k hk; have := hcp.2 k hk2; have := HNa.out.size; omega⟩⟩⟩
          case measure => simp [intOf]
      · obtain rfl : k = 2 := by omega
        go_wp2_with fail
        go_ret
        obtain ⟨l1', l2', hb, hc1, hc2, hap⟩ := HS.out.s2 rfl
        refine ⟨g', l1', l2', rfl, ⟨hb, Nat.le_trans H.out.base_ HG'.out, H.out.p1, H.out.p2, hc1.ln, hc2.ln, by rw [hc1.m]; exact H.out.m1, by rw [hc2.m]; exact H.out.m2, hap, fun k hk => ⟨(H.out.xs k hk).1, (H.out.xs k hk).2.fr (HS.out.new.toFr NoB) (fun x => x)⟩⟩, fun i => ?_, HS.out.new, ?_⟩
        · cases i
          · exact ⟨hc1.L, hc1.lost⟩
          · exact ⟨hc2.L, hc2.lost⟩
        · rintro k (rfl | hk | hk)
          · exact HG'.out
          · exact hc1.lo k hk
          · exact hc2.lo k hk
end Go.Proofs.Ytajoahhjgloefaa
