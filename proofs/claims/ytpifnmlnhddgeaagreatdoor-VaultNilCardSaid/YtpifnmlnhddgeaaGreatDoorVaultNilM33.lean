/- Texts of one proof, one behind the other: SwW, SwX, SwY, SwZ, SwK. No condition but each one's own. -/
import Derived.Test.YtpifnmlnhddgeaaGreatDoorVaultNilM31
import Derived.Test.YtpifnmlnhddgeaaGreatDoorVaultNilM32
namespace Go.Proofs.YtpifnmlnhddgeaaGreatDoor
set_option linter.unusedVariables false
set_option linter.unusedSimpArgs false
set_option linter.constructorNameAsVariable false
open Go.RowKit Go.Sort Go.Maps
theorem kv_pc {L : List Ch} (h : ∀ c ∈ L, c.d = false) : (L.map ct1).map kvP = L.map pcOf := by
 rw [List.map_map]
 refine List.map_congr_left fun c hc => ?_
 show (⟨c.k.xs, c.v.xs, false⟩ : PC) = ⟨c.k.xs, c.v.xs, c.d⟩
 rw [h c hc]
theorem bat_of {P : List Ch} {R : List Sl} {T : CT} (hc : cl P = sct_l19 T) (hR : R.map Sl.L = rws (spl szc P)) (hS : ∀ y ∈ P, ChS y) : batP T = R.map (fun x => x.L.map pcOf) := by
 have e : rws (spl sz1 (cl P)) = (rws (spl szc P)).map (List.map ct1) := by
  have h1 := spl_map ct1 sz1 P
  have h2 : spl sz1 (cl P) = spl sz1 (P.map ct1) := rfl
  rw [h2, h1, rws_map]
  rfl
 unfold batP
 rw [← hc, e, ← hR, List.map_map, List.map_map]
 refine List.map_congr_left fun x hx => kv_pc fun c hcx => (hS c ?_).1
 rw [← flat_rows hR]
 exact List.mem_flatMap.2 ⟨x, hx, hcx⟩
structure RowsOk (T : CT) (R : List Sl) : Prop where
 bs : (batP T).map putP = R.map fun x => putB x.L
 ok : ∀ x ∈ R, chsOk x.L = true
 len : ∀ x ∈ R, (putB x.L).length ≤ 65536
 byt : ∀ x ∈ R, Byt (putB x.L)
theorem rows_ok {P : List Ch} {R : List Sl} {T : CT} (hT : TOk T) (hc : cl P = sct_l19 T) (hR : R.map Sl.L = rws (spl szc P)) (hS : ∀ y ∈ P, ChS y) (hl : ∀ x ∈ R, LenOk x.L) : RowsOk T R := by
 have hb := bat_of hc hR hS
 have hm : ∀ x ∈ R, x.L.map pcOf ∈ batP T := fun x hx => by rw [hb]; exact List.mem_map.2 ⟨x, hx, rfl⟩
 refine ⟨?_, fun x hx => ?_, fun x hx => ?_, fun x hx => ?_⟩
 · rw [hb, List.map_map]
   exact List.map_congr_left fun x hx => (putP_of (hl x hx)).symm
 · rw [← pcsOk_len (hl x hx)]
   exact (bat_rows hT _ (hm x hx)).1
 · rw [putP_of (hl x hx)]
   exact (bat_rows hT _ (hm x hx)).2.2
 · rw [putP_of (hl x hx)]
   exact putP_byt (bat_rows hT _ (hm x hx)).2.1
section
variable {W w w' : World} {gs gd bs bf bt mm gl gt m : Nat} {s : SW} {v : Value} {X : Nat → Prop} {E : Tab}
theorem StX.own (h : StX W w gs gd bs bf bt s mm gl gt v X m E) (hF : Fr (fun k => k = gs) w w') {gl' gen : Nat} {l : LG} {br : Bool} (hB : Blk w' gs 245 #[.pointer (some ⟨gd, 0, none⟩), .pointer (some ⟨gl', 0, none⟩), .pointer (some ⟨gt, 0, none⟩), .int .u32 gen, .bool br])
    (hl : Lg w gl' gd l s.p.size) (hlo : W.heap.size ≤ gl') (hg : gen < 4294967296) : StX W w' gs gd bs bf bt { s with l := l, gen := gen, broken := br } mm gl' gt v X m E ∧ Kps (Mps bs bf bt) W w w' := by
 have hgs : ∀ t cs, Blk w gs t cs → t = 245 := fun t cs hb => Classical.byContradiction fun hne => Blk.ne_ hb h.blk hne rfl
 have hd : ∀ k, k = gs → ¬ DkOurs gd bs bf v k := fun k e hk => by subst e; exact (h.dkfr k hk).2.1 rfl
 refine ⟨⟨hB, h.dk.fr hF hd, hl.fr hF (fun e => ?_), h.tb.fr hF (fun e => ?_) (fun e => ?_) (fun k e hx => ?_), ⟨h.lo.1, hlo⟩, h.ne, h.ct, h.mm, hg, h.n4⟩, Kps.of hF (fun k e => ?_)⟩
 · subst e; exact Blk.ne_ hl.blk h.blk (by decide) rfl
 · subst e; exact Blk.ne_ h.tb.blk h.blk (by decide) rfl
 · subst e
   obtain ⟨f, hf, -⟩ := h.tb.map
   exact IsT.not_map hf ⟨_, _, h.blk⟩
 · subst e; exact IsT.not_blk h.blk (by decide) (h.tb.xs _ hx).2
 · subst e; exact ⟨h.lo.1, .inr (.inl ⟨_, _, h.blk⟩)⟩
set_option maxHeartbeats 2000000
theorem told_any (h : StX W w gs gd bs bf bt s mm gl gt v X m E) (c : Int) : Calls Tryz.prog 126 #[.pointer (some ⟨gs, 0, none⟩), errD c] w fun e w' => e = .returned (errD c) ∧ StX W w' gs gd bs bf bt { s with broken := s.broken || brk c } mm gl gt v X m E ∧ Kps (Mps bs bf bt) W w w' := by
 have HX := Lib.hid h
 obtain ⟨ec, hec⟩ := nm (errD c)
 have HS : Hid (brk c = false → StX W w gs gd bs bf bt { s with broken := s.broken || brk c } mm gl gt v X m E) := Lib.hid fun e => by rw [e, Bool.or_false]; exact h
 have hb := h.blk
 have c4 := h.c4
 have hf4 : w.frozen? ⟨gs, 4, none⟩ = false := hb.frozen 4
 have H1 := Lib.hid (eis_any c 8 (by decide) w)
 have H2 := Lib.hid (eis_any c 9 (by decide) w)
 rw [← hec] at H1 H2 ⊢
 clear h hb
 by_cases h0 : c = 0
 · have HB : Hid (brk c = false) := Lib.hid (by rw [h0]; rfl)
   have e0 : ec = .nilIface := by rw [hec, h0]; rfl
   subst e0
   clear hec H1 H2 h0 c4 hf4
   go_enter Tryz.func126, Tryz.ntmps126
   go_wp2_with fail
   go_ret
   exact ⟨rfl, HS.out HB.out, Kps.new (New.refl _)⟩
 · have e0 := errD_n h0
   rw [← hec] at e0
   subst e0
   clear hec
   by_cases h8 : c = 8
   · have HB : Hid (brk c = false) := Lib.hid (by rw [h8]; rfl)
     rw [decide_eq_true h8] at H1
     clear h8 h0 c4 hf4
     go_enter Tryz.func126, Tryz.ntmps126
     go_wp2_with fail
     refine H1.out.mono ?_
     rintro e w1 ⟨rfl, rfl⟩
     go_wp2_with fail
     go_ret
     exact ⟨rfl, HS.out HB.out, Kps.new (New.refl _)⟩
   · rw [decide_eq_false h8] at H1
     by_cases h9 : c = 9
     · have HB : Hid (brk c = false) := Lib.hid (by rw [h9]; rfl)
       rw [decide_eq_true h9] at H2
       clear h9 h8 h0 c4 hf4
       go_enter Tryz.func126, Tryz.ntmps126
       go_wp2_with fail
       refine H1.out.mono ?_
       rintro e w1 ⟨rfl, rfl⟩
       go_wp2_with fail
       refine H2.out.mono ?_
       rintro e w1 ⟨rfl, rfl⟩
       go_wp2_with fail
       go_ret
       exact ⟨rfl, HS.out HB.out, Kps.new (New.refl _)⟩
     · rw [decide_eq_false h9] at H2
       have HB : Hid (brk c = true) := Lib.hid (decide_eq_true ⟨h0, h8, h9⟩)
       clear h9 h8 h0
       go_enter Tryz.func126, Tryz.ntmps126
       go_wp2_with fail
       refine H1.out.mono ?_
       rintro e w1 ⟨rfl, rfl⟩
       go_wp2_with fail
       refine H2.out.mono ?_
       rintro e w1 ⟨rfl, rfl⟩
       go_wp2_with fail
       go_ret
       rw [HB.out, Bool.or_true]
       have hst := HX.out.own (w' := w.setCell ⟨gs, 4, none⟩ (.bool true)) ((Fr.refl (fun k => k = gs) w).setCell (p := ⟨gs, 4, none⟩) (fun _ => rfl) _) (gl' := gl) (gen := s.gen) (l := s.l) (br := true) (by have := HX.out.blk.set 4 (.bool true); simpa using this) HX.out.lg HX.out.lo.2 HX.out.gen
       exact ⟨rfl, hst⟩
end
end Go.Proofs.YtpifnmlnhddgeaaGreatDoor
namespace Go.Proofs.YtpifnmlnhddgeaaGreatDoor
set_option linter.unusedVariables false
set_option linter.unusedSimpArgs false
set_option linter.constructorNameAsVariable false
open Go.RowKit Go.Sort Go.Maps
section
variable {W w w' : World} {gs gd bs bf bt mm gl gt m : Nat} {s : SW} {v : Value} {X : Nat → Prop} {E : Tab}
def AnewSays (W w : World) (gs gd bs bf bt : Nat) (s : SW) (mm gl gt : Nat) (X : Nat → Prop) (m : Nat) (E : Tab) (r : DP × LG × Int) (e : Ending) (w' : World) : Prop :=
 ∃ (pl : Option Addr) (v' : Value), e = .returned (.tuple #[.pointer pl, errD r.2.2]) ∧ StX W w' gs gd bs bf bt { s with p := r.1 } mm gl gt v' X m E ∧ Kps (Mps bs bf bt) W w w' ∧
  (r.2.2 = 0 → ∃ gn, pl = some ⟨gn, 0, none⟩ ∧ W.heap.size ≤ gn ∧ Lg w' gn gd r.2.1 r.1.size)
def C03 (gs gd g : Nat) (w : World) : Prop := w.cell? ⟨gs, 0, none⟩ = some (.pointer (some ⟨gd, 0, none⟩)) ∧ w.cell? ⟨gs, 3, none⟩ = some (.int .u32 g)
structure AnI (W w w4 : World) (gs gd bs bf bt : Nat) (s : SW) (mm gl gt : Nat) (X : Nat → Prop) (m : Nat) (E : Tab) (gn D : Nat) (A : Option Addr) (n : Nat) (R : List Sl) (q : DP) (l : LG) (wr : World) : Prop where
 st : ∃ v', StX W wr gs gd bs bf bt { s with p := q } mm gl gt v' X m E ∧ ∀ k, v'.ownBlock = some k → k < w4.heap.size ∨ D ≤ k
 kp : Kps (Mps bs bf bt) W w wr
 lg : Lg wr gn gd l q.size
 bt : BtsN w4.heap.size D wr A n R
 dz : D ≤ wr.heap.size
theorem appL_size (p : DP) (l : LG) (b : List Int) : (appL p l b).1.size = p.size := by
 unfold appL
 split
 · rfl
 split
 · rfl
 split
 · rfl
 simp only
 split
 · exact writeN_size _ _ _ _
 · exact writeN_size _ _ _ _
theorem slc_map (R : List Sl) : R.flatMap Sl.cells = R.map fun x => .slice x.A x.n x.c := by
 induction R with
 | nil => rfl
 | cons x R ih => rw [List.flatMap_cons, ih]; rfl
theorem BtsN.at {B D n i : Nat} {A : Option Addr} {R : List Sl} (h : BtsN B D w A n R) (hi : i < n) : ∃ g o, ∃ hl : i < R.length, A = some ⟨g, o, none⟩ ∧ w.cell? ⟨g, o + i, none⟩ = some (.slice R[i].A R[i].n R[i].c) := by
 have hl : i < R.length := by rw [h.len]; exact hi
 obtain ⟨g, o, hA, -, -, hc⟩ := h.rd.out (by omega) (by omega)
 refine ⟨g, o, hl, hA, hc i _ ?_⟩
 rw [slc_map, List.getElem?_map, List.getElem?_eq_getElem hl]
 rfl
theorem AnI.new {w4 wr wr' : World} {gn D n : Nat} {A : Option Addr} {R : List Sl} {q : DP} {l : LG} (h : AnI W w w4 gs gd bs bf bt s mm gl gt X m E gn D A n R q l wr) (hN : New wr wr') : AnI W w w4 gs gd bs bf bt s mm gl gt X m E gn D A n R q l wr' := by
 obtain ⟨v', h1, h2⟩ := h.st
 exact ⟨⟨v', h1.new hN, h2⟩, h.kp.tr (Kps.new hN), h.lg.new hN, h.bt.new hN, Nat.le_trans h.dz hN.size⟩
theorem AnI.step {w4 wr wr' : World} {gn D n : Nat} {A : Option Addr} {R : List Sl} {q q' : DP} {l l' : LG} (h : AnI W w w4 gs gd bs bf bt s mm gl gt X m E gn D A n R q l wr) {v1 v2 : Value} (hX : StX W wr gs gd bs bf bt { s with p := q } mm gl gt v1 X m E) (ho : ∀ k, v1.ownBlock = some k → k < w4.heap.size ∨ D ≤ k)
    (hT : LgTo wr W.heap.size gn gd bs bf v1 q' l' wr' v2) (hz : q'.size = q.size) (hgl : gl < gn) (hgn : gn < w4.heap.size) (hlo : W.heap.size ≤ gn) (hd : gd < w4.heap.size ∧ bs < w4.heap.size ∧ bf < w4.heap.size) : AnI W w w4 gs gd bs bf bt s mm gl gt X m E gn D A n R q' l' wr' := by
 obtain ⟨h1, h2⟩ := hX.disk hT.fr (fun k hk => by
  rcases hk with rfl | hk
  · exact ⟨⟨hlo, .inr (.inr (.inl ⟨_, _, h.lg.blk⟩))⟩, fun e => Blk.ne_ h.lg.blk hX.blk (by decide) e, by omega⟩
  · exact hX.dkfr k hk) hT.dk hz
 refine ⟨⟨v2, h1, fun k hk => ?_⟩, h.kp.tr h2, hT.lg, h.bt.fr hT.fr (fun k hk => ?_), Nat.le_trans h.dz hT.fr.size⟩
 · rcases (hT.own k hk).2 with e | e
   · exact ho k e
   · have := h.dz; omega
 · rcases hk with rfl | rfl | rfl | rfl | hk
   · exact .inl hgn
   · exact .inl hd.1
   · exact .inl hd.2.1
   · exact .inl hd.2.2
   · exact ho k hk
set_option maxHeartbeats 4000000
set_option maxRecDepth 100000
theorem anew_any (h : StX W w gs gd bs bf bt s mm gl gt v X m E) (hN : New W w) (hL : ShaIn 1 0 W) (hg : s.gen + 1 < 4294967296) (hm : m ≤ 1000000) (hE : E.length ≤ 1000000) (hT : TOk s.t) :
    Calls Tryz.prog 241 #[.pointer (some ⟨gs, 0, none⟩)] w (AnewSays W w gs gd bs bf bt s mm gl gt X m E (anewS s)) := by
 have HX := Lib.hid h
 have HN := Lib.hid hN
 have HL := Lib.hid hL
 have HM := Lib.hid (And.intro hm hE)
 have HT := Lib.hid hT
 have hfit := hlf_fit (g := s.gen + 1) h.n4
 obtain ⟨g1, hg1⟩ := nm (s.gen + 1)
 obtain ⟨fs, hfs⟩ := nm (fst0 g1 s.p.size)
 obtain ⟨hl, hhl⟩ := nm (hlf s.p.size)
 rw [← hg1] at hfit
 rw [← hfs, ← hhl] at hfit
 have HPL : Hid (∀ w1, New w w1 → Calls Tryz.prog (116) #[.pointer (some ⟨gd, 0, none⟩), .int .u32 g1] w1 fun e w' => e = .returned (.tuple #[.int .i64 fs, .int .i64 hl]) ∧ w1 = w') := Lib.hid fun w1 hN => by
  rw [hfs, hhl]
  exact place_any (h.dk.new hN) (by have := h.n4; omega) g1 (by omega)
 have HFR : Hid (∀ w1, New w w1 → Calls Tryz.prog (117) #[.pointer (some ⟨gd, 0, none⟩), .int .i64 fs, .int .i64 hl, .int .u32 g1] w1 (FreshSays w1 gd W.heap.size bs bf v (lg0 fs hl g1) (wipeL s.p (lg0 fs hl g1)) s.p.size)) := Lib.hid fun w1 hN => fresh_good (h.dk.new hN) fs hl g1 hfit.1 hfit.2.1 (by omega) (by omega)
 have HLE : Hid (log0 s.p.size g1 = lg0 fs hl g1 ∧ g1 = s.gen + 1 ∧ g1 < 4294967296) := Lib.hid ⟨by rw [hfs, hhl]; rfl, hg1, by omega⟩
 obtain ⟨r, hr⟩ := nm (wipeL s.p (lg0 fs hl g1))
 obtain ⟨bsL, hbs⟩ := nm ((batP s.t).map putP)
 obtain ⟨AN, hAN⟩ := nm (anewS s)
 have HAN : Hid (AN = if r.2 ≠ 0 then (r.1, lg0 fs hl g1, r.2) else if (apps r.1 (lg0 fs hl g1) bsL).2.2 ≠ 0 then apps r.1 (lg0 fs hl g1) bsL else if (apps r.1 (lg0 fs hl g1) bsL).1.scode ≠ 0 then ((apps r.1 (lg0 fs hl g1) bsL).1.doSync, (apps r.1 (lg0 fs hl g1) bsL).2.1, (apps r.1 (lg0 fs hl g1) bsL).1.scode) else
  ((procS (apps r.1 (lg0 fs hl g1) bsL).1.doSync g1).1, (apps r.1 (lg0 fs hl g1) bsL).2.1, (procS (apps r.1 (lg0 fs hl g1) bsL).1.doSync g1).2)) := Lib.hid (by rw [hAN, hr, hbs, ← HLE.out.1, hg1]; rfl)
 have HBS := Lib.hid hbs
 have HRS : Hid (r.1.size = s.p.size) := Lib.hid (by rw [hr]; exact wipeL_size _ _)
 rw [← hr] at HFR
 rw [← hAN]
 have e1 : (s.gen : Int) + 1 = (g1 : Int) := by omega
 have e2 : IntKind.u32.wrap (g1 : Int) = (g1 : Int) := by rw [IntKind.wrap_u32]; omega
 have c0 := h.c0
 have c3 := h.c3
 have q0 : ∀ p : HW (C03 gs gd s.gen), p.w.cell? ⟨gs, 0, none⟩ = some (.pointer (some ⟨gd, 0, none⟩)) := fun p => p.h.1
 have q3 : ∀ p : HW (C03 gs gd s.gen), p.w.cell? ⟨gs, 3, none⟩ = some (.int .u32 s.gen) := fun p => p.h.2
 obtain ⟨l0, hl0⟩ := nm (lg0 fs hl g1)
 rw [← hl0] at HFR HAN
 have HL0 := Lib.hid hl0
 clear h hN hL hm hE hT hfit hg1 hfs hhl hr hbs hAN hl0 hg
 go_enter Tryz.func241, Tryz.ntmps241
 go_upto_region 1 with fail
 have hq := fun q => Calls.quiet_of_same ((HPL.out _ (New.dn (New.refl w) q)).mono fun _ _ h => ⟨h.1, h.2.symm⟩)
 go_quiet (exact hq _)
 clear hq HPL
 go_upto_region 2 with fail
 obtain ⟨w2, hw2⟩ := nm ((w.drewN nq).drew)
 have HN2 : Hid (New w w2) := Lib.hid (by rw [hw2]; exact New.dr (New.dn (New.refl w) nq))
 refine wp_region_mixH (C03 gs gd s.gen) [(true, 0), (true, 1), (true, 2), (true, 3), (true, 4), (true, 5), (true, 6), (true, 7), (true, 8), (true, 9), (true, 10), (false, 11), (true, 12), (true, 13), (true, 14), (true, 15), (true, 16)] (by kernel_rfl) (by kernel_rfl) ⟨c0, c3⟩ (fun hne => ?_)
 rw [← hw2]
 clear hw2 c0 c3
 iterate 11 (refine mix_take (o := ⟨_, _, _, _, _, _⟩) rfl (fun K hK => ?_); go_simp; refine hK _ ?_; clear hK K)
 refine mix_act (o := ⟨_, _, _, _, _, _⟩) rfl (fun K hK => ?_) (.inl rfl)
 go_simp
 refine (HFR.out w2 HN2.out).mono ?_
 intro e w3 hs
 clear HFR
 unfold FreshSays at hs
 by_cases h0 : r.2 = 0
 · rw [if_pos h0] at hs
   obtain ⟨gn, v3, rfl, hgn, hlg, hT⟩ := hs
   obtain ⟨hX3, hK3⟩ := (HX.out.new HN2.out).disk hT.fr (HX.out.new HN2.out).dkfr hT.dk HRS.out
   have HX3 := Lib.hid hX3
   have HK3 : Hid (Kps (Mps bs bf bt) W w w3) := Lib.hid ((Kps.new HN2.out).tr hK3)
   have HL3 : Hid (Lg w3 gn gd l0 r.1.size ∧ w.heap.size ≤ gn) := Lib.hid ⟨by rw [HRS.out]; exact hlg, by have := HN2.out.size; omega⟩
   have HA0 := Lib.hid (HAN.out.trans (if_neg (by rw [h0]; simp)))
   clear hT hX3 hK3 hgn hlg HAN h0
   go_simp
   refine hK.out _ _ (fun _ => ⟨HX3.out.c0, HX3.out.c3⟩) ?_
   clear hK K
   iterate 5 (refine mix_take (o := ⟨_, _, _, _, _, _⟩) rfl (fun K hK => ?_); go_simp; refine hK _ ?_; clear hK K)
   refine mix_done ?_
   have c2 := HX3.out.c2
   go_wp2_with fail
   refine (batches_any HX3.out.tb HM.out.1 HM.out.2).mono ?_
   rintro e w5 ⟨⟨A, n, c, R, P, rfl, ⟨-, D, hBN, hD⟩, hcP, hRP, hS⟩, hN5⟩
   have HRO : Hid (RowsOk s.t R) := Lib.hid (rows_ok HT.out (by rw [hcP, HX3.out.ct]) hRP hS (fun x hx => (hBN.row hx).lens))
   have HBE : Hid (bsL = R.map (fun x => putB x.L) ∧ n = R.length) := Lib.hid ⟨by rw [HBS.out]; exact HRO.out.bs, hBN.len.symm⟩
   have hnle : n ≤ 1000000 := by
    have h1 := rows_le (R.map Sl.L) (fun l hl => by
     obtain ⟨x, hx, rfl⟩ := List.mem_map.1 hl
     have := (chsOk_spec (HRO.out.ok x hx)).1
     exact this)
    have h2 : P.length = E.length := by
     have h3 := congrArg List.length hcP
     have h4 := (sct_perm (cont E)).length_eq
     rw [h4, cont_len] at h3
     simpa [cl] using h3
    have h3 : (R.map Sl.L).flatten = P := by rw [hRP]; exact spl_flat szc P
    rw [h3, List.length_map, hBN.len] at h1
    have := HM.out.2
    omega
   have HNL := Lib.hid hnle
   have HZ : Hid (gl < gn ∧ gn < w3.heap.size ∧ W.heap.size ≤ gn ∧ gd < w3.heap.size ∧ bs < w3.heap.size ∧ bf < w3.heap.size) := Lib.hid (by
    have h1 := HX.out.lg.blk.lt
    have h2 := HL3.out.1.blk.lt
    have h3 := HN.out.size
    have h4 := HL3.out.2
    have h5 := fun k hk => (HX3.out.dk.ours k hk).2
    exact ⟨by omega, h2, by omega, h5 gd (.inl rfl), h5 bs (.inr (.inl rfl)), h5 bf (.inr (.inr (.inl rfl)))⟩)
   have HI0 : Hid (AnI W w w3 gs gd bs bf bt s mm gl gt X m E gn D A n R r.1 l0 w5) := Lib.hid ⟨⟨v3, HX3.out.new hN5, fun k hk => .inl (HX3.out.dk.ours k (.inr (.inr (.inr hk)))).2⟩, HK3.out.tr (Kps.new hN5), HL3.out.1.new hN5, hBN, hD⟩
   clear hBN hD hcP hRP hS hN5 hnle c2 HX3 HK3 HL3
   go_wp2_with fail
   go_loopw [9, 10, 11, 12, 51] (fun _ _ _ _ i wr => ∃ (k : Nat) (q : DP) (l : LG), k ≤ n ∧ i = .int .i64 k ∧ Hid (AnI W w w3 gs gd bs bf bt s mm gl gt X m E gn D A n R q l wr) ∧ Hid (apps r.1 l0 bsL = apps q l (bsL.drop k))) (fun _ _ _ _ i _ => n - (intOf i).toNat)
   case atStart => exact ⟨0, r.1, l0, Nat.zero_le _, rfl, HI0, Lib.hid rfl⟩
   case round =>
    clear HI0
    obtain ⟨k, q, l, hk, rfl, HI, HAP⟩ := hrel
    obtain ⟨v1, hv1, hv2⟩ := HI.out.st
    have HV := Lib.hid hv1
    have HVO := Lib.hid hv2
    clear hv1 hv2
    by_cases hlt : k < n
    · have hlt' : (k : Int) < (n : Int) := by omega
      have hk0 : (0 : Int) ≤ (k : Int) := by omega
      have hnb := HNL.out
      obtain ⟨ga, o, hl, hA, hcell⟩ := HI.out.bt.at hlt
      subst hA
      obtain ⟨x, hx⟩ := nm R[k]
      rw [← hx] at hcell
      have HXM : Hid (x ∈ R) := Lib.hid (by rw [hx]; exact List.getElem_mem _)
      have HDR : Hid (bsL.drop k = putB x.L :: bsL.drop (k + 1)) := Lib.hid (by
       have hl2 : k < bsL.length := by rw [HBE.out.1, List.length_map]; exact hl
       rw [List.drop_eq_getElem_cons hl2]
       congr 1
       simp only [HBE.out.1, List.getElem_map, hx])
      have HPU := Lib.hid (put_any x.A x.n x.c x.L wr (HI.out.bt.row HXM.out) (HRO.out.ok x HXM.out))
      have HLT := Lib.hid hlt
      clear hl hx hlt
      go_wp2_with fail
      refine HPU.out.mono ?_
      rintro e w6 ⟨⟨A6, c6, b6, rfl, hb6, hO6⟩, hN6⟩
      have HO6 := Lib.hid hO6
      have HI6 := Lib.hid (HI.out.new hN6)
      have HV6 := Lib.hid (HV.out.new hN6)
      obtain ⟨pb, hpb⟩ := nm (putB x.L)
      have HPB : Hid (pb.length ≤ 65536 ∧ Byt pb) := Lib.hid (by rw [hpb]; exact ⟨HRO.out.len x HXM.out, HRO.out.byt x HXM.out⟩)
      rw [← hpb] at HO6 HDR ⊢
      have HSH : Hid (ShaIn 1 0 w6) := Lib.hid (HL.out.new (HI6.out.kp.nw HN.out))
      clear hb6 hO6 hN6 hpb HPU hcell HI HV
      go_wp2_with fail
      refine (app_any HI6.out.lg HV6.out.dk HSH.out A6 pb.length c6 pb (Rd.own HO6.out rfl) HPB.out.2 (by have := HPB.out.1; unfold maxLen; omega)).mono ?_
      rintro e w7 ⟨rfl, v7, hT7⟩
      have HI7 : Hid (AnI W w w3 gs gd bs bf bt s mm gl gt X m E gn D (some ⟨ga, o, none⟩) n R (appL q l pb).1 (appL q l pb).2.1 w7) := Lib.hid (HI6.out.step HV6.out HVO.out hT7 (appL_size q l pb) HZ.out.1 HZ.out.2.1 HZ.out.2.2.1 HZ.out.2.2.2)
      have HAP2 : Hid (apps r.1 l0 bsL = if (appL q l pb).2.2 ≠ 0 then appL q l pb else apps (appL q l pb).1 (appL q l pb).2.1 (bsL.drop (k + 1))) := Lib.hid (by rw [HAP.out, HDR.out]; rfl)
      obtain ⟨ap, hap⟩ := nm (appL q l pb)
      rw [← hap] at HI7 HAP2 ⊢
      clear hT7 hap HAP HDR HI6 HV6 HVO HSH
      by_cases h1 : ap.2.2 = 0
      · have HAP3 := Lib.hid (HAP2.out.trans (if_neg (by rw [h1]; simp)))
        rw [h1, errD_0]
        clear h1 HAP2
        go_wp2_with fail
        go_roundw
        case rel => exact ⟨k + 1, ap.1, ap.2.1, HLT.out, by go_num, HI7, HAP3⟩
        case measure => simp [intOf]; have := HLT.out; omega
      · have HAP3 := Lib.hid (HAP2.out.trans (if_pos h1))
        have HE := Lib.hid (errD_n h1)
        have HNE := Lib.hid h1
        have HA1 : Hid (AN = ap) := Lib.hid (by rw [HA0.out, HAP3.out, if_pos h1])
        rw [HE.out]
        clear h1 HAP2
        go_wp2_with fail
        go_ret2
        obtain ⟨v8, hv8, -⟩ := HI7.out.st
        rw [HA1.out]
        exact ⟨none, v8, by rw [HE.out]; rfl, hv8, HI7.out.kp, fun e => absurd e HNE.out⟩
    · have hge : ¬ (k : Int) < (n : Int) := by omega
      have hkn : k = n := by omega
      subst hkn
      have HAP2 : Hid (apps r.1 l0 bsL = (q, l, 0)) := Lib.hid (by rw [HAP.out, List.drop_of_length_le (by rw [HBE.out.1, List.length_map, HBE.out.2]; exact Nat.le_refl _)]; rfl)
      have HA1 : Hid (AN = if q.scode ≠ 0 then (q.doSync, l, q.scode) else ((procS q.doSync g1).1, l, (procS q.doSync g1).2)) := Lib.hid (by rw [HA0.out, HAP2.out, if_neg (by simp)])
      have c0 := HV.out.c0
      clear hlt HAP HAP2 HA0
      go_wp2_with fail
      refine (sync_all HV.out.dk).mono ?_
      rintro e w6 ⟨rfl, v6, hD6, hF6, hO6⟩
      obtain ⟨hX6, hK6⟩ := HV.out.disk hF6 HV.out.dkfr hD6 (DP.doSync_size q)
      have HX6 := Lib.hid hX6
      have HK6 : Hid (Kps (Mps bs bf bt) W w w6) := Lib.hid (HI.out.kp.tr hK6)
      have HL6 : Hid (Lg w6 gn gd l q.doSync.size) := Lib.hid (by rw [DP.doSync_size]; exact HI.out.lg.fr hF6 (lg_apart HV.out.dk HI.out.lg))
      obtain ⟨sc, hsc⟩ := nm q.scode
      obtain ⟨q2, hq2⟩ := nm q.doSync
      rw [← hsc, ← hq2] at HA1
      rw [← hq2] at HX6 HL6
      rw [← hsc]
      clear hX6 hK6 hD6 hF6 hO6 hsc hq2 HI HV c0 HVO
      by_cases h1 : sc = 0
      · have HA2 := Lib.hid (HA1.out.trans (if_neg (by rw [h1]; simp)))
        rw [h1, errD_0]
        have c0 := HX6.out.c0
        have c3 : w6.cell? ⟨gs, 3, none⟩ = some (.int .u32 s.gen) := HX6.out.c3
        clear h1 HA1
        go_upto_region 18 with fail
        refine wp_region_mixH (C03 gs gd s.gen) [(true, 0), (true, 1), (true, 2), (true, 3), (true, 4), (true, 5), (true, 6), (true, 7), (true, 8), (true, 9), (false, 10), (true, 11), (true, 12)] (by kernel_rfl) (by kernel_rfl) ⟨c0, c3⟩ (fun hne => ?_)
        have HX7 := Lib.hid (HX6.out.new (New.dr (New.refl w6)))
        clear c0 c3
        iterate 10 (refine mix_take (o := ⟨_, _, _, _, _, _⟩) rfl (fun K hK => ?_); go_simp; refine hK _ ?_; clear hK K)
        refine mix_act (o := ⟨_, _, _, _, _, _⟩) rfl (fun K hK => ?_) (.inl rfl)
        go_simp
        refine (proc_any HX7.out.dk (HL.out.new ((HK6.out.tr (Kps.new (New.dr (New.refl w6)))).nw HN.out)) g1 HLE.out.2.2).mono ?_
        rintro e w8 ⟨rfl, v8, hT8⟩
        have hps : (procS q2 g1).1.size = q2.size := by unfold procS; split <;> simp [DP.doSync_size, DP.doWrite_size]
        obtain ⟨hX8, hK8⟩ := HX7.out.disk hT8.fr HX7.out.dkfr hT8.dk hps
        have HX8 := Lib.hid hX8
        have HK8 : Hid (Kps (Mps bs bf bt) W w w8) := Lib.hid ((HK6.out.tr (Kps.new (New.dr (New.refl w6)))).tr hK8)
        have HL8 : Hid (Lg w8 gn gd l (procS q2 g1).1.size) := Lib.hid (by rw [hps]; exact (HL6.out.new (New.dr (New.refl w6))).fr hT8.fr (lg_apart HX7.out.dk (HL6.out.new (New.dr (New.refl w6)))))
        obtain ⟨ev, hev⟩ := nm (errD (procS q2 g1).2)
        have HEV := Lib.hid hev
        rw [← hev]
        clear hX8 hK8 hT8 hps hev
        go_simp
        refine hK.out _ _ (fun _ => ⟨HX8.out.c0, HX8.out.c3⟩) ?_
        clear hK K
        iterate 2 (refine mix_take (o := ⟨_, _, _, _, _, _⟩) rfl (fun K hK => ?_); go_simp; refine hK _ ?_; clear hK K)
        refine mix_done ?_
        go_wp2_with fail
        go_ret2
        rw [HA2.out]
        exact ⟨some ⟨gn, 0, none⟩, v8, by rw [HEV.out]; rfl, HX8.out, HK8.out, fun _ => ⟨gn, rfl, HZ.out.2.2.1, HL8.out⟩⟩
      · have HA2 := Lib.hid (HA1.out.trans (if_pos h1))
        have HE := Lib.hid (errD_n h1)
        have HNE := Lib.hid h1
        rw [HE.out]
        clear h1 HA1
        go_wp2_with fail
        go_ret2
        rw [HA2.out]
        exact ⟨none, v6, by rw [HE.out]; rfl, HX6.out, HK6.out, fun e => absurd e HNE.out⟩
 · rw [if_neg h0] at hs
   obtain ⟨v3, rfl, hT⟩ := hs
   obtain ⟨hX3, hK3⟩ := (HX.out.new HN2.out).disk hT.fr (HX.out.new HN2.out).dkfr hT.dk HRS.out
   have HX3 := Lib.hid hX3
   have HK3 : Hid (Kps (Mps bs bf bt) W w w3) := Lib.hid ((Kps.new HN2.out).tr hK3)
   have HA0 := Lib.hid (HAN.out.trans (if_pos h0))
   have HE := Lib.hid (errD_n h0)
   have HNE := Lib.hid h0
   rw [HE.out]
   clear hT hX3 hK3 HAN h0
   go_simp
   refine hK.out _ _ (fun _ => ⟨HX3.out.c0, HX3.out.c3⟩) ?_
   clear hK K
   iterate 5 (refine mix_take (o := ⟨_, _, _, _, _, _⟩) rfl (fun K hK => ?_); go_simp; refine hK _ ?_; clear hK K)
   refine mix_done ?_
   go_wp2_with fail
   go_ret2
   rw [HA0.out]
   exact ⟨none, v3, by rw [HE.out]; rfl, HX3.out, HK3.out, fun e => absurd e HNE.out⟩
end
end Go.Proofs.YtpifnmlnhddgeaaGreatDoor
namespace Go.Proofs.YtpifnmlnhddgeaaGreatDoor
set_option linter.unusedVariables false
set_option linter.unusedSimpArgs false
set_option linter.constructorNameAsVariable false
open Go.RowKit Go.Sort Go.Maps
def StTo (W w : World) (gs gd bs bf bt : Nat) (s : SW) (mm : Nat) (w' : World) : Prop := StIn W w' gs gd bs bf bt s mm ∧ Kps (Mps bs bf bt) W w w'
def StSays (W w : World) (gs gd bs bf bt mm : Nat) (r : SW × Int) (e : Ending) (w' : World) : Prop := e = .returned (errD r.2) ∧ StTo W w gs gd bs bf bt r.1 mm w'
section
variable {W w w' : World} {gs gd bs bf bt mm : Nat} {s : SW}
theorem StX.to {gl gt m : Nat} {v : Value} {X : Nat → Prop} {E : Tab} (h : StX W w' gs gd bs bf bt s mm gl gt v X m E) (hK : Kps (Mps bs bf bt) W w w') : StTo W w gs gd bs bf bt s mm w' := ⟨⟨gl, gt, v, X, m, E, h⟩, hK⟩
theorem StIn.keep (h : StIn W w gs gd bs bf bt s mm) : StTo W w gs gd bs bf bt s mm w := ⟨h, Kps.new (New.refl _)⟩
set_option maxHeartbeats 4000000
set_option maxRecDepth 100000
theorem sweep_any (h : StIn W w gs gd bs bf bt s mm) (hN : New W w) (hL : ShaIn 1 0 W) (hm : mm ≤ 1000000) (hT : TOk s.t) :
    Calls Tryz.prog 172 #[.pointer (some ⟨gs, 0, none⟩)] w (StSays W w gs gd bs bf bt mm (swpS s)) := by
 have HI := Lib.hid h
 obtain ⟨gl, gt, v, X, m, E, h⟩ := h
 have HX := Lib.hid h
 have c3 := h.c3
 have c4 := h.c4
 obtain ⟨g, hg⟩ := nm s.gen
 obtain ⟨br, hbr⟩ := nm s.broken
 obtain ⟨R, hR⟩ := nm (swpS s)
 have HR : Hid (R = if br = true then (s, (10 : Int)) else if g = 4294967295 then (s, (9 : Int)) else if (anewS s).2.2 ≠ 0 then ({ s with p := (anewS s).1, broken := brk (anewS s).2.2 }, (anewS s).2.2) else ({ s with p := (anewS s).1, l := (anewS s).2.1, gen := s.gen + 1 }, 0)) := Lib.hid (by rw [hR, hbr, hg]; rfl)
 rw [← hR]
 rw [← hg] at c3
 rw [← hbr] at c4
 cases br with
 | true =>
  have HR0 := Lib.hid (HR.out.trans (if_pos rfl))
  clear h hN hL hm hT hg hbr hR c3 HR
  go_enter Tryz.func172, Tryz.ntmps172
  go_wp2_with fail
  go_ret
  rw [HR0.out]
  exact ⟨by rw [errD_n (show (10 : Int) ≠ 0 by decide)]; rfl, HI.out.keep⟩
 | false =>
  have HR0 := Lib.hid (HR.out.trans (if_neg (by decide)))
  by_cases hgm : g = 4294967295
  · have HR1 := Lib.hid (HR0.out.trans (if_pos hgm))
    rw [hgm] at c3
    clear h hN hL hm hT hg hbr hR HR HR0 hgm
    go_enter Tryz.func172, Tryz.ntmps172
    go_wp2_with fail
    go_ret
    rw [HR1.out]
    exact ⟨by rw [errD_n (show (9 : Int) ≠ 0 by decide)]; rfl, HI.out.keep⟩
  · have HR1 := Lib.hid (HR0.out.trans (if_neg hgm))
    have HAN := Lib.hid (anew_any h hN hL (by have := h.gen; omega) (by have := h.mm; omega) (by have := h.mm; omega) hT)
    obtain ⟨r, hr⟩ := nm (anewS s)
    rw [← hr] at HAN HR1
    have HGB : Hid (g = s.gen ∧ g + 1 < 4294967296 ∧ s.broken = false) := Lib.hid ⟨hg, by have := h.gen; omega, hbr.symm⟩
    have hne : ¬ (g : Int) = 4294967295 := by omega
    clear h hN hL hm hT hg hbr hR HR HR0 hgm hr
    go_enter Tryz.func172, Tryz.ntmps172
    go_wp2_with fail
    refine HAN.out.mono ?_
    rintro e w1 ⟨pl, v1, rfl, hX1, hK1, hgn⟩
    have HX1 := Lib.hid hX1
    have HK1 := Lib.hid hK1
    have HGN := Lib.hid hgn
    clear hX1 hK1 hgn HAN c3 c4 hne
    by_cases h0 : r.2.2 = 0
    · obtain ⟨gn, rfl, hlo, hlg⟩ := HGN.out h0
      have HR2 := Lib.hid (HR1.out.trans (if_neg (by rw [h0]; simp)))
      have HLG := Lib.hid (And.intro hlo hlg)
      rw [h0, errD_0]
      have hB1 := HX1.out.blk
      have f1 : w1.frozen? ⟨gs, 1, none⟩ = false := hB1.frozen 1
      have c1 : w1.cell? ⟨gs, 1, none⟩ = some (.pointer (some ⟨gl, 0, none⟩)) := HX1.out.c1
      have f3 : ∀ u, (w1.setCell ⟨gs, 1, none⟩ u).frozen? ⟨gs, 3, none⟩ = false := fun u => (hB1.set 1 u).frozen 3
      have c3 : ∀ u, (w1.setCell ⟨gs, 1, none⟩ u).cell? ⟨gs, 3, none⟩ = some (.int .u32 g) := fun u => by rw [HGB.out.1]; exact (hB1.set 1 u).cell 3
      clear hB1
      obtain ⟨g2, hg2⟩ := nm (g + 1)
      have e1 : (g : Int) + 1 = (g2 : Int) := by omega
      have e2 : IntKind.u32.wrap (g2 : Int) = (g2 : Int) := by rw [IntKind.wrap_u32]; have := HGB.out.2.1; omega
      have HG2 : Hid (g2 = s.gen + 1 ∧ g2 < 4294967296) := Lib.hid (by rw [hg2, ← HGB.out.1]; exact ⟨rfl, HGB.out.2.1⟩)
      clear hg2
      clear hlo hlg HGN h0 HR1
      go_wp2_with fail
      go_ret
      rw [HR2.out]
      obtain ⟨hX2, hK2⟩ := HX1.out.own (w' := (w1.setCell ⟨gs, 1, none⟩ (.pointer (some ⟨gn, 0, none⟩))).setCell ⟨gs, 3, none⟩ (.int .u32 g2)) (((Fr.refl (fun k => k = gs) w1).setCell (p := ⟨gs, 1, none⟩) (fun _ => rfl) _).setCell (p := ⟨gs, 3, none⟩) (fun _ => rfl) _) (gl' := gn) (gen := g2) (l := r.2.1) (br := s.broken) (by have := (HX1.out.blk.set 1 (.pointer (some ⟨gn, 0, none⟩))).set 3 (.int .u32 g2); simpa using this) HLG.out.2 HLG.out.1 HG2.out.2
      have e3 : ({ ({ s with p := r.1 } : SW) with l := r.2.1, gen := g2, broken := s.broken } : SW) = { s with p := r.1, l := r.2.1, gen := s.gen + 1 } := by rw [HG2.out.1]
      rw [e3] at hX2
      exact ⟨rfl, hX2.to (HK1.out.tr hK2)⟩
    · have HR2 := Lib.hid (HR1.out.trans (if_pos h0))
      have HE := Lib.hid (errD_n h0)
      have HTO := Lib.hid (told_any HX1.out r.2.2)
      rw [HE.out] at HTO ⊢
      clear h0 HR1 HGN
      go_wp2_with fail
      refine HTO.out.mono ?_
      rintro e w2 ⟨rfl, hX2, hK2⟩
      go_wp2_with fail
      go_ret
      rw [HR2.out]
      have e3 : ({ ({ s with p := r.1 } : SW) with broken := ({ s with p := r.1 } : SW).broken || brk r.2.2 } : SW) = { s with p := r.1, broken := brk r.2.2 } := by
       show ({ s with p := r.1, broken := s.broken || brk r.2.2 } : SW) = _
       rw [HGB.out.2.2, Bool.false_or]
      rw [e3] at hX2
      exact ⟨by rw [HE.out]; rfl, hX2.to (HK1.out.tr hK2)⟩
end
end Go.Proofs.YtpifnmlnhddgeaaGreatDoor
namespace Go.Proofs.YtpifnmlnhddgeaaGreatDoor
set_option linter.unusedVariables false
set_option linter.unusedSimpArgs false
set_option linter.constructorNameAsVariable false
open Go.RowKit Go.Sort Go.Maps
section
variable {W w w' : World} {gs gd bs bf bt mm gl gt m : Nat} {s : SW} {v v' : Value} {X : Nat → Prop} {E : Tab}
theorem StX.logd (h : StX W w gs gd bs bf bt s mm gl gt v X m E) {q : DP} {l : LG} (hT : LgTo w W.heap.size gl gd bs bf v q l w' v') (hz : q.size = s.p.size) : StX W w' gs gd bs bf bt { s with p := q, l := l } mm gl gt v' X m E ∧ Kps (Mps bs bf bt) W w w' := by
 have hS : ∀ k, (k = gl ∨ DkOurs gd bs bf v k) → Cls (Mps bs bf bs) W w k ∧ k ≠ gs := fun k hk => by
  rcases hk with rfl | hk
  · exact ⟨⟨h.lo.2, .inr (.inr (.inl ⟨_, _, h.lg.blk⟩))⟩, fun e => Blk.ne_ h.lg.blk h.blk (by decide) e⟩
  · exact ⟨(h.dkfr k hk).1, (h.dkfr k hk).2.1⟩
 have hK : Kps (Mps bs bf bs) W w w' := Kps.of hT.fr fun k hk => (hS k hk).1
 have hM : ∀ k, Mps bs bf bs k → Mps bs bf bt k := fun k hk => by
  rcases hk with e | e | e
  · exact .inl e
  · exact .inr (.inl e)
  · exact .inl e
 refine ⟨⟨h.blk.fr hT.fr (fun hs => (hS _ hs).2 rfl), hT.dk, hT.lg, Kps.tb hK h.tb (fun k hk => ⟨?_, h.mps k (hM k hk) _, h.mps k (hM k hk) _⟩), h.lo, h.ne, h.ct, h.mm, h.gen, by show 4 ≤ q.size; rw [hz]; exact h.n4⟩, hK.mono fun k _ => hM k⟩
 rintro rfl
 rcases hk with e | e | e
 · exact h.ne.1 e
 · exact h.ne.2 e
 · exact h.ne.1 e
def Kept1 (W w : World) (q : Nat → Prop) : Prop := ∀ k, q k → k < W.heap.size ∨ IsT 5 w k ∨ IsT 124 w k
theorem Kept1.not {M : Nat → Prop} {q : Nat → Prop} (h : Kept1 W w q) (hM : ∀ k, M k → ∀ t, ¬ IsT t w k) : ∀ k, q k → ¬ Cls M W w k := fun k hk hC => by
 rcases h k hk with e | e | e
 · exact absurd hC.1 (by omega)
 · exact cls_not (fun hm => hM k hm _ e) (by decide) (by decide) (by decide) (by decide) e hC
 · exact cls_not (fun hm => hM k hm _ e) (by decide) (by decide) (by decide) (by decide) e hC
theorem Kept1.kps {M : Nat → Prop} {q : Nat → Prop} (h : Kept1 W w q) (hM : ∀ k, M k → ∀ t, ¬ IsT t w k) (hK : Kps M W w w') : Kept1 W w' q := fun k hk => by
 rcases h k hk with e | e | e
 · exact .inl e
 · exact .inr (.inl (e.fr hK (h.not hM k hk)))
 · exact .inr (.inr (e.fr hK (h.not hM k hk)))
set_option maxHeartbeats 4000000
set_option maxRecDepth 100000
theorem append_any (h : StIn W w gs gd bs bf bt s mm) (hN : New W w) (hL : ShaIn 1 0 W) (hm : mm ≤ 1000000) (hT : TOk s.t) {q : Nat → Prop} (A : Option Addr) (n c : Nat) (b : List Int) (hR : Rd q w 1 A n (u8s b)) (hq : Kept1 W w q) (hb : Byt b) (hn : n ≤ 100000000) :
    Calls Tryz.prog 125 #[.pointer (some ⟨gs, 0, none⟩), .slice A n c] w (StSays W w gs gd bs bf bt mm (addS s b)) := by
 obtain ⟨gl, gt, v, X, m, E, h⟩ := h
 have HX := Lib.hid h
 have HN := Lib.hid hN
 have HL := Lib.hid hL
 have HT := Lib.hid (And.intro hm hT)
 have HQ := Lib.hid hq
 have HR := Lib.hid hR
 have HB := Lib.hid (And.intro hb hn)
 have HAP := Lib.hid (app_any h.lg h.dk (hL.new hN) A n c b hR hb (by unfold maxLen; omega))
 have HZ := Lib.hid (appL_size s.p s.l b)
 obtain ⟨a, ha⟩ := nm (appL s.p s.l b)
 obtain ⟨R, hR0⟩ := nm (addS s b)
 have HAD : Hid (R = if a.2.2 ≠ 8 then (({ s with p := a.1, l := a.2.1 } : SW), a.2.2) else if (swpS { s with p := a.1, l := a.2.1 }).2 ≠ 0 then swpS { s with p := a.1, l := a.2.1 } else
  ({ (swpS { s with p := a.1, l := a.2.1 }).1 with p := (appL (swpS { s with p := a.1, l := a.2.1 }).1.p (swpS { s with p := a.1, l := a.2.1 }).1.l b).1, l := (appL (swpS { s with p := a.1, l := a.2.1 }).1.p (swpS { s with p := a.1, l := a.2.1 }).1.l b).2.1 }, (appL (swpS { s with p := a.1, l := a.2.1 }).1.p (swpS { s with p := a.1, l := a.2.1 }).1.l b).2.2)) := Lib.hid (by rw [hR0, ha]; rfl)
 rw [← hR0]
 rw [← ha] at HAP HZ
 have c1 := h.c1
 clear h hN hL hm hT hR hq hb hn ha hR0
 go_enter Tryz.func125, Tryz.ntmps125
 go_wp2_with fail
 refine HAP.out.mono ?_
 rintro e w1 ⟨rfl, v1, hT1⟩
 obtain ⟨hX1, hK1⟩ := HX.out.logd hT1 HZ.out
 have HX1 := Lib.hid hX1
 have HK1 := Lib.hid hK1
 have HIS := Lib.hid (eis_any a.2.2 8 (by decide) w1)
 obtain ⟨ev, hev⟩ := nm (errD a.2.2)
 have HEV := Lib.hid hev
 rw [← hev] at HIS ⊢
 clear hX1 hK1 hT1 hev HAP c1
 by_cases h8 : a.2.2 = 8
 · rw [decide_eq_true h8] at HIS
   have HA1 := Lib.hid (HAD.out.trans (if_neg (by rw [h8]; simp)))
   have HSW := Lib.hid (sweep_any ⟨_, _, _, _, _, _, HX1.out⟩ (HK1.out.nw HN.out) HL.out HT.out.1 HT.out.2)
   obtain ⟨r, hr⟩ := nm (swpS { s with p := a.1, l := a.2.1 })
   rw [← hr] at HSW HA1
   clear h8 HAD hr
   go_wp2_with fail
   refine HIS.out.mono ?_
   rintro e w2 ⟨rfl, rfl⟩
   go_wp2_with fail
   refine HSW.out.mono ?_
   rintro e w2 ⟨rfl, hS2, hK2⟩
   have HS2 := Lib.hid hS2
   have HK2 : Hid (Kps (Mps bs bf bt) W w w2) := Lib.hid (HK1.out.tr hK2)
   clear hS2 hK2 HSW HIS
   by_cases h0 : r.2 = 0
   · have HA2 := Lib.hid (HA1.out.trans (if_neg (by rw [h0]; simp)))
     rw [h0, errD_0]
     obtain ⟨gl3, gt3, v3, X3, m3, E3, hX3⟩ := HS2.out
     have HX3 := Lib.hid hX3
     have hc1 := hX3.c1
     have HAP := Lib.hid (app_any hX3.lg hX3.dk (HL.out.new (HK2.out.nw HN.out)) A n c b (HR.out.fr HK2.out (HQ.out.not HX.out.mps)) HB.out.1 (by have := HB.out.2; unfold maxLen; omega))
     have HZ3 := Lib.hid (appL_size r.1.p r.1.l b)
     obtain ⟨a3, ha3⟩ := nm (appL r.1.p r.1.l b)
     rw [← ha3] at HAP HZ3 HA2
     clear h0 hX3 ha3 HA1
     go_wp2_with fail
     refine HAP.out.mono ?_
     rintro e w4 ⟨rfl, v4, hT4⟩
     obtain ⟨hX4, hK4⟩ := HX3.out.logd hT4 HZ3.out
     go_wp2_with fail
     go_ret
     rw [HA2.out]
     exact ⟨rfl, hX4.to (HK2.out.tr hK4)⟩
   · have HA2 := Lib.hid (HA1.out.trans (if_pos h0))
     have HE := Lib.hid (errD_n h0)
     rw [HE.out]
     clear h0 HA1
     go_wp2_with fail
     go_ret
     rw [HA2.out]
     exact ⟨by rw [HE.out]; rfl, HS2.out, HK2.out⟩
 · rw [decide_eq_false h8] at HIS
   have HA1 := Lib.hid (HAD.out.trans (if_pos h8))
   clear h8 HAD
   go_wp2_with fail
   refine HIS.out.mono ?_
   rintro e w2 ⟨rfl, rfl⟩
   go_wp2_with fail
   go_ret
   rw [HA1.out]
   exact ⟨by rw [HEV.out]; rfl, HX1.out.to HK1.out⟩
end
end Go.Proofs.YtpifnmlnhddgeaaGreatDoor
namespace Go.Proofs.YtpifnmlnhddgeaaGreatDoor
set_option linter.unusedVariables false
set_option linter.unusedSimpArgs false
set_option linter.constructorNameAsVariable false
open Go.RowKit Go.Sort Go.Maps
theorem swpS_t (s : SW) : (swpS s).1.t = s.t := by
 unfold swpS
 split
 · rfl
 · split
   · rfl
   · simp only; split <;> rfl
theorem addS_t (s : SW) (b : List Int) : (addS s b).1.t = s.t := by
 unfold addS
 split
 · rfl
 · simp only
   split
   · exact swpS_t _
   · exact swpS_t _
section
variable {W w w' : World} {gs gd bs bf bt mm mm' gl gt m m' : Nat} {s : SW} {v v' : Value} {X X' : Nat → Prop} {E E' : Tab}
theorem StIn.up (h : StIn W w gs gd bs bf bt s mm) (hm : mm ≤ mm') : StIn W w gs gd bs bf bt s mm' := by
 obtain ⟨gl, gt, v, X, m, E, h⟩ := h
 exact ⟨gl, gt, v, X, m, E, h.blk, h.dk, h.lg, h.tb, h.lo, h.ne, h.ct, ⟨Nat.le_trans h.mm.1 hm, Nat.le_trans h.mm.2 hm⟩, h.gen, h.n4⟩
theorem StX.tabd (h : StX W w gs gd bs bf bt s mm gl gt v X m E) (hF : Fr (fun k => k = bt) w w') (hT : TbIn X' w' W.heap.size gt bt m' E') (hm : m' ≤ mm' ∧ E'.length ≤ mm') : StX W w' gs gd bs bf bt { s with t := cont E' } mm' gl gt v X' m' E' ∧ Kps (Mps bs bf bt) W w w' := by
 obtain ⟨f, hf, -⟩ := h.tb.map
 have hc : ∀ k t cs, Blk w k t cs → k ≠ bt := fun k t cs hb e => IsT.not_map (t := t) hf (by rw [← e]; exact ⟨_, _, hb⟩)
 refine ⟨⟨h.blk.fr hF (hc _ _ _ h.blk), h.dk.fr hF (fun k e hk => ?_), h.lg.fr hF (hc _ _ _ h.lg.blk), hT, h.lo, h.ne, rfl, hm, h.gen, h.n4⟩, Kps.of hF (fun k e => ?_)⟩
 · subst e
   rcases hk with e | e | e | ho
   · exact hc _ _ _ h.dk.blk e.symm
   · exact h.ne.1 e
   · exact h.ne.2 e
   · exact IsT.not_map hf (own_isT' h.dk.own ho)
 · subst e; exact ⟨h.tb.lb, .inl (.inr (.inr rfl))⟩
set_option maxHeartbeats 4000000
set_option maxRecDepth 100000
theorem commit_any (h : StIn W w gs gd bs bf bt s mm) (hN : New W w) (hL : ShaIn 1 0 W) (hm : mm ≤ 900000) (hT : TOk s.t) {q : Nat → Prop} (A : Option Addr) (n c : Nat) (L : List Ch) (hR : Rd q w 3 A n (L.flatMap Ch.cells)) (hl : L.length = n) (hin : ∀ c ∈ L, c.In q w) (hq : Kept1 W w q) (hn : n ≤ 100000000) (hz : ∀ c ∈ L, c.k.n ≤ maxLen ∧ c.v.n ≤ maxLen) :
    Calls Tryz.prog 49 #[.pointer (some ⟨gs, 0, none⟩), .slice A n c] w (StSays W w gs gd bs bf bt (mm + 600) (cmtS s (L.map pcOf))) := by
 have HI := Lib.hid h
 obtain ⟨gl, gt, v, X, m, E, hX⟩ := h
 have hRT : RTb w A n L := ⟨rd_szs hR, hl, fun c hc => Ch.In.szs (hin c hc)⟩
 have HLN := Lib.hid hRT.lens
 have HX := Lib.hid hX
 have HN := Lib.hid hN
 have HL := Lib.hid hL
 have HT := Lib.hid (And.intro hm hT)
 have HQ := Lib.hid hq
 have HR := Lib.hid hR
 have HIN := Lib.hid (And.intro hl hin)
 obtain ⟨R, hR0⟩ := nm (cmtS s (L.map pcOf))
 obtain ⟨br, hbr⟩ := nm s.broken
 have HC : Hid (R = if chsOk L = false then (s, (2 : Int)) else if br = true then (s, (10 : Int)) else if 65536 < (putB L).length then (s, (3 : Int)) else
     if (addS s (putB L)).2 ≠ 0 then ({ (addS s (putB L)).1 with broken := (addS s (putB L)).1.broken || brk (addS s (putB L)).2 }, (addS s (putB L)).2) else
     if (addS s (putB L)).1.p.scode ≠ 0 then ({ (addS s (putB L)).1 with p := (addS s (putB L)).1.p.doSync, broken := (addS s (putB L)).1.broken || brk (addS s (putB L)).1.p.scode }, (addS s (putB L)).1.p.scode) else
     ({ (addS s (putB L)).1 with p := (addS s (putB L)).1.p.doSync, t := doPs (addS s (putB L)).1.t (L.map pcOf) }, 0)) := Lib.hid (by rw [hR0, hbr, ← pcsOk_len hRT.lens, putP_of hRT.lens]; rfl)
 rw [← hR0]
 have c4 := hX.c4
 rw [← hbr] at c4
 by_cases hok : chsOk L = false
 · have HC0 := Lib.hid (HC.out.trans (if_pos hok))
   have HPB := Lib.hid (put_bad A n c L w hRT hn hz hok)
   clear hX hN hL hm hT hR hl hin hq hn hz hRT hR0 hbr hok HC c4
   go_enter Tryz.func49, Tryz.ntmps49
   go_wp2_with fail
   refine HPB.out.mono ?_
   rintro e w1 ⟨rfl, hN1⟩
   go_wp2_with fail
   go_ret
   rw [HC0.out]
   exact ⟨by rw [errD_n (show (2 : Int) ≠ 0 by decide)]; rfl, (HI.out.up (Nat.le_add_right _ _)).new hN1, Kps.new hN1⟩
 have HC0 := Lib.hid (HC.out.trans (if_neg hok))
 have hok : chsOk L = true := by simpa using hok
 have HOK := Lib.hid hok
 have HPU := Lib.hid (put_any A n c L w hRT hok)
 have HPY : Hid (Byt (putB L)) := Lib.hid (by
  rw [putP_of hRT.lens]
  refine putP_byt fun x hx => ?_
  obtain ⟨y, hy, rfl⟩ := List.mem_map.1 hx
  exact ⟨(hin y hy).k.byt, (hin y hy).v.byt⟩)
 obtain ⟨pb, hpb⟩ := nm (putB L)
 rw [← hpb] at HC0 HPU HPY
 obtain ⟨pn, hpn⟩ := nm pb.length
 rw [← hpn] at HC0 HPU
 have HPN := Lib.hid hpn
 clear hX hN hL hm hT hR hl hin hq hn hz hRT hR0 hbr hok HC hpb hpn
 cases br with
 | true =>
  have HC1 := Lib.hid (HC0.out.trans (if_pos rfl))
  clear HC0
  go_enter Tryz.func49, Tryz.ntmps49
  go_wp2_with fail
  refine HPU.out.mono ?_
  rintro e w1 ⟨⟨A1, c1, b1, rfl, -, -⟩, hN1⟩
  have c4 := hN1.cell_ c4
  have HN1 := Lib.hid hN1
  clear hN1
  go_wp2_with fail
  go_ret
  rw [HC1.out]
  exact ⟨by rw [errD_n (show (10 : Int) ≠ 0 by decide)]; rfl, (HI.out.up (Nat.le_add_right _ _)).new HN1.out, Kps.new HN1.out⟩
 | false =>
  have HC1 := Lib.hid (HC0.out.trans (if_neg (by decide)))
  by_cases h6 : 65536 < pn
  · have HC2 := Lib.hid (HC1.out.trans (if_pos h6))
    have h6' : (65536 : Int) < (pn : Int) := by omega
    clear HC0 HC1 h6
    go_enter Tryz.func49, Tryz.ntmps49
    go_wp2_with fail
    refine HPU.out.mono ?_
    rintro e w1 ⟨⟨A1, c1, b1, rfl, -, -⟩, hN1⟩
    have c4 := hN1.cell_ c4
    have HN1 := Lib.hid hN1
    clear hN1
    go_wp2_with fail
    go_ret
    rw [HC2.out]
    exact ⟨by rw [errD_n (show (3 : Int) ≠ 0 by decide)]; rfl, (HI.out.up (Nat.le_add_right _ _)).new HN1.out, Kps.new HN1.out⟩
  · have HC2 := Lib.hid (HC1.out.trans (if_neg h6))
    have h6' : ¬ (65536 : Int) < (pn : Int) := by omega
    have HP6 := Lib.hid h6
    clear HC0 HC1 h6
    go_enter Tryz.func49, Tryz.ntmps49
    go_wp2_with fail
    refine HPU.out.mono ?_
    rintro e w1 ⟨⟨A1, c1, b1, rfl, -, hO1⟩, hN1⟩
    have c4 := hN1.cell_ c4
    have HN1 := Lib.hid hN1
    have HO1 := Lib.hid hO1
    have HAD := Lib.hid (append_any (HI.out.new hN1) (HN.out.tr hN1) HL.out (by have := HT.out.1; omega) HT.out.2 A1 pn c1 pb (Rd.own hO1 rfl) (fun k hk => .inr (.inl (own_isT hO1 hk))) HPY.out (by have := HP6.out; omega))
    have HTT := Lib.hid (addS_t s pb)
    obtain ⟨r, hr⟩ := nm (addS s pb)
    rw [← hr] at HAD HC2 HTT
    clear hN1 hO1 hr HPU
    go_wp2_with fail
    refine HAD.out.mono ?_
    rintro e w2 ⟨rfl, hS2, hK2⟩
    have HS2 := Lib.hid hS2
    have HK2 : Hid (Kps (Mps bs bf bt) W w w2) := Lib.hid ((Kps.new HN1.out).tr hK2)
    clear hS2 hK2 HAD c4 h6'
    by_cases h0 : r.2 = 0
    · have HC3 := Lib.hid (HC2.out.trans (if_neg (by rw [h0]; simp)))
      rw [h0, errD_0]
      obtain ⟨gl3, gt3, v3, X3, m3, E3, hX3⟩ := HS2.out
      have HX3 := Lib.hid hX3
      have hc0 := hX3.c0
      clear h0 hX3 HC2
      go_wp2_with fail
      refine (sync_all HX3.out.dk).mono ?_
      rintro e w4 ⟨rfl, v4, hD4, hF4, hO4⟩
      obtain ⟨hX4, hK4⟩ := HX3.out.disk hF4 HX3.out.dkfr hD4 (DP.doSync_size _)
      have HX4 := Lib.hid hX4
      have HK4 : Hid (Kps (Mps bs bf bt) W w w4) := Lib.hid (HK2.out.tr hK4)
      obtain ⟨sc, hsc⟩ := nm r.1.p.scode
      rw [← hsc] at HC3 ⊢
      clear hD4 hF4 hO4 hX4 hK4 hc0 hsc
      by_cases h1 : sc = 0
      · have HC4 := Lib.hid (HC3.out.trans (if_neg (by rw [h1]; simp)))
        rw [h1, errD_0]
        have hc2 := HX4.out.c2
        obtain ⟨f, hf, -⟩ := HX4.out.tb.map
        have HRA := Lib.hid (HR.out.fr HK4.out (HQ.out.not HX.out.mps))
        have HAP := Lib.hid (apply_any (P := q) HX4.out.tb A n c L HRA.out HIN.out.1 (fun y hy => (HIN.out.2 y hy).frq HK4.out (HQ.out.not HX.out.mps)) (fun k hk e => by
         rcases (HQ.out.kps HX.out.mps HK4.out) k hk with e1 | e1 | e1
         · have := HX4.out.tb.lb; omega
         · rw [e] at e1; exact IsT.not_map hf e1
         · rw [e] at e1; exact IsT.not_map hf e1) HOK.out (by have := HX4.out.mm; have := HT.out.1; omega))
        have HCT := Lib.hid HX4.out.ct
        have HMM := Lib.hid HX4.out.mm
        clear h1 HC3 hf
        go_wp2_with fail
        refine HAP.out.mono ?_
        rintro e w5 ⟨rfl, X5, E5, hT5, hc5, hF5, -⟩
        obtain ⟨hX5, hK5⟩ := HX4.out.tabd (mm' := mm + 600) hF5 hT5 (by
         have h1 := congrArg List.length hc5
         have h2 := doCs_le (cont E3) L
         rw [cont_len] at h1 h2
         have h3 := (chsOk_spec HOK.out).2.1
         have h4 := HMM.out
         have h5 := HIN.out.1
         omega)
        go_wp2_with fail
        go_ret
        rw [HC4.out]
        have e3 : cont E5 = doPs r.1.t (L.map pcOf) := by rw [hc5, doPs_of]; congr 1
        rw [e3] at hX5
        exact ⟨rfl, hX5.to (HK4.out.tr hK5)⟩
      · have HC4 := Lib.hid (HC3.out.trans (if_pos h1))
        have HE := Lib.hid (errD_n h1)
        have HTO := Lib.hid (told_any HX4.out sc)
        rw [HE.out] at HTO ⊢
        clear h1 HC3
        go_wp2_with fail
        refine HTO.out.mono ?_
        rintro e w5 ⟨rfl, hX5, hK5⟩
        go_wp2_with fail
        go_ret
        rw [HC4.out]
        have h6 := hX5.to (HK4.out.tr hK5)
        exact ⟨by rw [HE.out]; rfl, h6.1.up (Nat.le_add_right _ _), h6.2⟩
    · have HC3 := Lib.hid (HC2.out.trans (if_pos h0))
      have HE := Lib.hid (errD_n h0)
      obtain ⟨gl3, gt3, v3, X3, m3, E3, hX3⟩ := HS2.out
      have HTO := Lib.hid (told_any hX3 r.2)
      rw [HE.out] at HTO ⊢
      clear h0 HC2 hX3
      go_wp2_with fail
      refine HTO.out.mono ?_
      rintro e w5 ⟨rfl, hX5, hK5⟩
      go_wp2_with fail
      go_ret
      rw [HC3.out]
      have h6 := hX5.to (HK2.out.tr hK5)
      exact ⟨by rw [HE.out]; rfl, h6.1.up (Nat.le_add_right _ _), h6.2⟩
end
end Go.Proofs.YtpifnmlnhddgeaaGreatDoor
