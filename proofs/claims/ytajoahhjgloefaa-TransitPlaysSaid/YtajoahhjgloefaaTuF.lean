/- The reference: Twice, where there is a frame. (mkref29d.py writes this text.) No condition but that all can be read. -/
import Derived.Test.YtajoahhjgloefaaTuE
namespace Go.Proofs.Ytajoahhjgloefaa
open Go.RowKit Go.Maps

theorem blk_set5 {w : World} {g : Nat} {t : TypeId} {a b c d e : Value} (h : Blk w g t #[a, b, c, d, e]) (A B C D E : Value) :
    Blk (((((w.setCell ⟨g, 0, none⟩ A).setCell ⟨g, 1, none⟩ B).setCell ⟨g, 2, none⟩ C).setCell ⟨g, 3, none⟩ D).setCell ⟨g, 4, none⟩ E) g t #[A, B, C, D, E] := by
  have := ((((h.set 0 A).set 1 B).set 2 C).set 3 D).set 4 E
  simpa using this
theorem Fr.set5 {S : Nat → Prop} {w w2 : World} {g : Nat} (h : Fr S w w2) (hg : g < w.heap.size → S g) (A B C D E : Value) :
    Fr S w (((((w2.setCell ⟨g, 0, none⟩ A).setCell ⟨g, 1, none⟩ B).setCell ⟨g, 2, none⟩ C).setCell ⟨g, 3, none⟩ D).setCell ⟨g, 4, none⟩ E) :=
  ((((h.setCell (p := ⟨g, 0, none⟩) hg A).setCell (p := ⟨g, 1, none⟩) hg B).setCell (p := ⟨g, 2, none⟩) hg C).setCell (p := ⟨g, 3, none⟩) hg D).setCell (p := ⟨g, 4, none⟩) hg E

set_option maxHeartbeats 4000000 in
theorem rtwice_full {P : Nat → Prop} {N : Nat} (i : Bool) (p : Int) (a b : Rl) (k : Int) (y : Fm) (w : World) (hk0 : 0 ≤ k) (hk1 : k < 18446744073709551616) (h : RlIn P w N (rsel i a b)) (hNN : N ≤ 100000) (hy : (rsel i a b).F[k.toNat % (rsel i a b).F.length]? = some y) (hfu : (rsel i a b).n = 256) :
    Calls Try.prog 20 #[rnv p a b, .int .i64 (wayI i), .int .u64 k] w fun e w' => e = .returned (.tuple #[rnv p a b, .int .i64 12]) ∧ New w w' := by
  have HS := Lib.hid (fun v w => rsend_full i p a b v w hfu)
  clear hfu
  unfold rnv rnc at HS
  obtain ⟨l, hl⟩ : ∃ l, l = rsel i a b := ⟨_, rfl⟩
  rw [← hl] at h hy
  try rw [← hl]
  have hln := h.f.len
  have h6 := h.fl
  have hn0 : 0 < l.F.length := by
    rcases Nat.eq_zero_or_pos l.F.length with e | e
    · rw [List.eq_nil_of_length_eq_zero e] at hy
      simp at hy
    · exact e
  have HL : Hid (∀ w, Calls Try.prog 34 #[.agg #[.int .i64 p, .slice a.A a.n a.c, .slice a.B a.m a.d, .slice b.A b.n b.c, .slice b.B b.m b.d], .int .i64 (wayI i), .int .u64 k] w fun e w' => e = .returned (.tuple #[.agg #[.slice l.A l.n l.c, .slice l.B l.m l.d], .int .i64 ((k.toNat % l.F.length : Nat) : Int), .int .i64 0]) ∧ New w w') := Lib.hid (fun w => by
    have hp := rplace_in i p a b k w hk0 hk1 (by rw [← hl, hln]; exact hn0) (by rw [← hl, hln]; exact h6)
    rw [← hl, hln] at hp
    exact hln ▸ hp)
  clear hl
  have hrl : k.toNat % l.F.length < l.F.length := Nat.mod_lt _ hn0
  generalize k.toNat % l.F.length = r at hy hrl HL ⊢
  have H := Lib.hid h.lt
  have HTL := Lib.hid h.tl
  have hat := RsIn.at (h.lt.f) (by omega) hrl
  have hye : l.F[r] = y := by
    rw [List.getElem?_eq_getElem hrl] at hy
    exact Option.some.inj hy
  rw [hye] at hat
  have hry := h.lt.f.el y (hye ▸ List.getElem_mem _)
  have HY := Lib.hid hry
  have hfl := h.fl
  clear h hy hye hn0 hry h6
  obtain ⟨lA, ln, lc, F, lB, lm, ld, T⟩ := l
  dsimp only at H hat hrl hfl HL hln HTL ⊢
  subst hln
  obtain ⟨g, o, c', e, hcc, hcell⟩ := hat
  injection e with e1 e2 e3
  subst e1
  have HC := Lib.hid hcell
  obtain ⟨yA, yn, yc, ys⟩ := y
  have HFL := Lib.hid hfl
  clear hcell e2 e3 hfl
  simp only [Fm.val] at HC ⊢
  obtain ⟨ln, hln⟩ : ∃ ln, ln = F.length := ⟨_, rfl⟩
  rw [← hln] at hrl hcc HL
  have HLN := Lib.hid hln
  try rw [← hln]
  clear hln
  change Calls _ _ #[.agg #[.int .i64 p, .slice a.A a.n a.c, .slice a.B a.m a.d, .slice b.A b.n b.c, .slice b.B b.m b.d], .int .i64 (wayI i), .int .u64 k] w _
  go_enter Try.func20, Try.ntmps20
  go_upto_region 1 with fail
  obtain ⟨w0, hw0⟩ : ∃ w0 : World, w0 = ((w.alloc (.cells #[.int .i64 p, .slice a.A a.n a.c, .slice a.B a.m a.d, .slice b.A b.n b.c, .slice b.B b.m b.d] 54)).alloc (.cells #[.int .i64 0, .slice none 0 0, .slice none 0 0, .slice none 0 0, .slice none 0 0] 54)) := ⟨_, rfl⟩
  obtain ⟨G, hG⟩ : ∃ G, G = w.heap.size := ⟨_, rfl⟩
  have HN0 : Hid (New w w0) := Lib.hid (by rw [hw0]; repeat (first | exact New.refl _ | refine New.al ?_ _))
  have HB0 : Hid (Blk w0 G 54 #[.int .i64 p, .slice a.A a.n a.c, .slice a.B a.m a.d, .slice b.A b.n b.c, .slice b.B b.m b.d]) := Lib.hid (by rw [hw0, hG]; exact (Blk.new _ _ _).alloc _)
  have HR0 : Hid (Blk w0 (G + 1) 54 #[.int .i64 0, .slice none 0 0, .slice none 0 0, .slice none 0 0, .slice none 0 0]) := Lib.hid (by rw [hw0, hG]; exact Blk.new' _ _ _ (by simp))
  have HG : Hid (G = w.heap.size) := Lib.hid hG
  go_wp2_with (first | ((with_reducible refine atOp ⟨some 12, .load _ _, _, _, _, _⟩ ?_); refine wpList_load_any rfl _ rfl Try.underlying54 rfl rfl rfl HB0.out ?_))
  rw [← hw0, ← hG]
  clear hw0 hG
  refine (HL.out w0).mono ?_
  rintro e w1 ⟨rfl, hN1⟩
  have HN1 : Hid (New w w1) := Lib.hid (HN0.out.tr hN1)
  have HR1 := Lib.hid (hN1.blk HR0.out)
  have HB1 := Lib.hid (hN1.blk HB0.out)
  have hs1 : G + 1 < w1.heap.size := HR1.out.lt
  clear hN1
  obtain ⟨w2, hw2'⟩ : ∃ w2 : World, w2 = w1.alloc (.cells #[.slice (some ⟨g, o, none⟩) ln lc, .slice lB lm ld] 52) := ⟨_, rfl⟩
  obtain ⟨g8, hg8⟩ : ∃ g8, g8 = w1.heap.size := ⟨_, rfl⟩
  have HN2 : Hid (New w w2) := Lib.hid (by rw [hw2']; exact New.al HN1.out _)
  have HB8v : Hid (Blk w2 g8 52 #[.slice (some ⟨g, o, none⟩) ln lc, .slice lB lm ld]) := Lib.hid (by rw [hw2', hg8]; exact Blk.new _ _ _)
  have HR2 := Lib.hid (show Blk w2 (G + 1) 54 #[.int .i64 0, .slice none 0 0, .slice none 0 0, .slice none 0 0, .slice none 0 0] by rw [hw2']; exact HR1.out.alloc _)
  have HB2 := Lib.hid (show Blk w2 G 54 #[.int .i64 p, .slice a.A a.n a.c, .slice a.B a.m a.d, .slice b.A b.n b.c, .slice b.B b.m b.d] by rw [hw2']; exact HB1.out.alloc _)
  have HGG : Hid (G + 1 < g8) := Lib.hid (by omega)
  go_upto_region 4 with fail
  rw [← hw2', ← hg8]
  clear hw2' hg8 HR1 HB1 hs1
  have d0 : w2.cell? ⟨g8, 0, none⟩ = some (.slice (some ⟨g, o, none⟩) ln lc) := HB8v.out.cell 0
  have d2 : w2.cell? ⟨g, o + r, none⟩ = some (.slice yA yn yc) := HN2.out.cell_ HC.out
  have i0 : w2.cell? ⟨G, 0, none⟩ = some (.int .i64 p) := HB2.out.cell 0
  have i1 : w2.cell? ⟨G, 1, none⟩ = some (.slice a.A a.n a.c) := HB2.out.cell 1
  have i2 : w2.cell? ⟨G, 2, none⟩ = some (.slice a.B a.m a.d) := HB2.out.cell 2
  have i3 : w2.cell? ⟨G, 3, none⟩ = some (.slice b.A b.n b.c) := HB2.out.cell 3
  have i4 : w2.cell? ⟨G, 4, none⟩ = some (.slice b.B b.m b.d) := HB2.out.cell 4
  go_region_with (go_at_call 21; refine (HS.out _ _).mono ?_; rintro e w3 ⟨rfl, hN3⟩; have HN3 := Lib.hid hN3; have HR3 := Lib.hid (HN3.out.blk (show Blk _ (G + 1) _ _ from HR2.out)); clear hN3; have z0 := HR3.out.frozen 0; have z1 := HR3.out.frozen 1; have z2 := HR3.out.frozen 2; have z3 := HR3.out.frozen 3; have z4 := HR3.out.frozen 4; have q0 := HR3.out.cell 0; have q1 := HR3.out.cell 1; have q2 := HR3.out.cell 2; have q3 := HR3.out.cell 3; have q4 := HR3.out.cell 4)
  all_goals
    go_wp2_with fail
    refine bodyPost_ret (results_row2 rfl _ _ (G + 1) _ _ rfl (blk_set5 HR3.out _ _ _ _ _) Try.underlying54 rfl rfl) rfl ⟨rfl, ?_⟩
    have hg1 := HG.out
    refine New.fr ((show New w _ from by first | exact HN2.out | exact New.dr HN2.out).tr HN3.out) (Fr.set5 (Fr.refl (fun k => k = G + 1) _) (fun _ => rfl) _ _ _ _ _) (fun k hk => by omega)
set_option maxHeartbeats 4000000 in
theorem rtwice_in {P : Nat → Prop} {N : Nat} (i : Bool) (p : Int) (a b : Rl) (k : Int) (y : Fm) (w : World) (hk0 : 0 ≤ k) (hk1 : k < 18446744073709551616) (h : RlIn P w N (rsel i a b)) (hNN : N ≤ 100000) (hy : (rsel i a b).F[k.toNat % (rsel i a b).F.length]? = some y) (hfu : (rsel i a b).F.length < 256) :
    Calls Try.prog 20 #[rnv p a b, .int .i64 (wayI i), .int .u64 k] w fun e w' => ∃ x : Rl, e = .returned (.tuple #[rnv p (rput1 i a x) (rput2 i b x), .int .i64 0]) ∧ RlIn (fun k => P k ∨ w.heap.size ≤ k) w' N x ∧ x.F = (rsel i a b).F ++ [y] ∧ x.T = (rsel i a b).T ∧ New w w' := by
  have hye : y ∈ (rsel i a b).F := List.mem_of_getElem? hy
  have HS := Lib.hid (fun (W : World) (hN : New w W) => rsend_in (P := fun k => P k ∧ k < w.heap.size) i p a b y W (h.lt.new hN) hfu ⟨hN.rd (h.lt.f.el y hye).1, (h.lt.f.el y hye).2⟩)
  clear hfu hye
  simp only [rnv, rnc, Fm.val] at HS
  obtain ⟨l, hl⟩ : ∃ l, l = rsel i a b := ⟨_, rfl⟩
  rw [← hl] at h hy HS
  try rw [← hl]
  have hln := h.f.len
  have h6 := h.fl
  have hn0 : 0 < l.F.length := by
    rcases Nat.eq_zero_or_pos l.F.length with e | e
    · rw [List.eq_nil_of_length_eq_zero e] at hy
      simp at hy
    · exact e
  have HL : Hid (∀ w, Calls Try.prog 34 #[.agg #[.int .i64 p, .slice a.A a.n a.c, .slice a.B a.m a.d, .slice b.A b.n b.c, .slice b.B b.m b.d], .int .i64 (wayI i), .int .u64 k] w fun e w' => e = .returned (.tuple #[.agg #[.slice l.A l.n l.c, .slice l.B l.m l.d], .int .i64 ((k.toNat % l.F.length : Nat) : Int), .int .i64 0]) ∧ New w w') := Lib.hid (fun w => by
    have hp := rplace_in i p a b k w hk0 hk1 (by rw [← hl, hln]; exact hn0) (by rw [← hl, hln]; exact h6)
    rw [← hl, hln] at hp
    exact hln ▸ hp)
  clear hl
  have hrl : k.toNat % l.F.length < l.F.length := Nat.mod_lt _ hn0
  generalize k.toNat % l.F.length = r at hy hrl HL ⊢
  have H := Lib.hid h.lt
  have HTL := Lib.hid h.tl
  have hat := RsIn.at (h.lt.f) (by omega) hrl
  have hye : l.F[r] = y := by
    rw [List.getElem?_eq_getElem hrl] at hy
    exact Option.some.inj hy
  rw [hye] at hat
  have hry := h.lt.f.el y (hye ▸ List.getElem_mem _)
  have HY := Lib.hid hry
  have hfl := h.fl
  clear h hy hye hn0 hry h6
  obtain ⟨lA, ln, lc, F, lB, lm, ld, T⟩ := l
  dsimp only at H hat hrl hfl HL hln HTL ⊢
  subst hln
  obtain ⟨g, o, c', e, hcc, hcell⟩ := hat
  injection e with e1 e2 e3
  subst e1
  have HC := Lib.hid hcell
  obtain ⟨yA, yn, yc, ys⟩ := y
  have HFL := Lib.hid hfl
  clear hcell e2 e3 hfl
  simp only [Fm.val] at HC ⊢
  obtain ⟨ln, hln⟩ : ∃ ln, ln = F.length := ⟨_, rfl⟩
  rw [← hln] at hrl hcc HL
  have HLN := Lib.hid hln
  try rw [← hln]
  clear hln
  change Calls _ _ #[.agg #[.int .i64 p, .slice a.A a.n a.c, .slice a.B a.m a.d, .slice b.A b.n b.c, .slice b.B b.m b.d], .int .i64 (wayI i), .int .u64 k] w _
  go_enter Try.func20, Try.ntmps20
  go_upto_region 1 with fail
  obtain ⟨w0, hw0⟩ : ∃ w0 : World, w0 = ((w.alloc (.cells #[.int .i64 p, .slice a.A a.n a.c, .slice a.B a.m a.d, .slice b.A b.n b.c, .slice b.B b.m b.d] 54)).alloc (.cells #[.int .i64 0, .slice none 0 0, .slice none 0 0, .slice none 0 0, .slice none 0 0] 54)) := ⟨_, rfl⟩
  obtain ⟨G, hG⟩ : ∃ G, G = w.heap.size := ⟨_, rfl⟩
  have HN0 : Hid (New w w0) := Lib.hid (by rw [hw0]; repeat (first | exact New.refl _ | refine New.al ?_ _))
  have HB0 : Hid (Blk w0 G 54 #[.int .i64 p, .slice a.A a.n a.c, .slice a.B a.m a.d, .slice b.A b.n b.c, .slice b.B b.m b.d]) := Lib.hid (by rw [hw0, hG]; exact (Blk.new _ _ _).alloc _)
  have HR0 : Hid (Blk w0 (G + 1) 54 #[.int .i64 0, .slice none 0 0, .slice none 0 0, .slice none 0 0, .slice none 0 0]) := Lib.hid (by rw [hw0, hG]; exact Blk.new' _ _ _ (by simp))
  have HG : Hid (G = w.heap.size) := Lib.hid hG
  go_wp2_with (first | ((with_reducible refine atOp ⟨some 12, .load _ _, _, _, _, _⟩ ?_); refine wpList_load_any rfl _ rfl Try.underlying54 rfl rfl rfl HB0.out ?_))
  rw [← hw0, ← hG]
  clear hw0 hG
  refine (HL.out w0).mono ?_
  rintro e w1 ⟨rfl, hN1⟩
  have HN1 : Hid (New w w1) := Lib.hid (HN0.out.tr hN1)
  have HR1 := Lib.hid (hN1.blk HR0.out)
  have HB1 := Lib.hid (hN1.blk HB0.out)
  have hs1 : G + 1 < w1.heap.size := HR1.out.lt
  clear hN1
  obtain ⟨w2, hw2'⟩ : ∃ w2 : World, w2 = w1.alloc (.cells #[.slice (some ⟨g, o, none⟩) ln lc, .slice lB lm ld] 52) := ⟨_, rfl⟩
  obtain ⟨g8, hg8⟩ : ∃ g8, g8 = w1.heap.size := ⟨_, rfl⟩
  have HN2 : Hid (New w w2) := Lib.hid (by rw [hw2']; exact New.al HN1.out _)
  have HB8v : Hid (Blk w2 g8 52 #[.slice (some ⟨g, o, none⟩) ln lc, .slice lB lm ld]) := Lib.hid (by rw [hw2', hg8]; exact Blk.new _ _ _)
  have HR2 := Lib.hid (show Blk w2 (G + 1) 54 #[.int .i64 0, .slice none 0 0, .slice none 0 0, .slice none 0 0, .slice none 0 0] by rw [hw2']; exact HR1.out.alloc _)
  have HB2 := Lib.hid (show Blk w2 G 54 #[.int .i64 p, .slice a.A a.n a.c, .slice a.B a.m a.d, .slice b.A b.n b.c, .slice b.B b.m b.d] by rw [hw2']; exact HB1.out.alloc _)
  have HGG : Hid (G + 1 < g8) := Lib.hid (by omega)
  go_upto_region 4 with fail
  rw [← hw2', ← hg8]
  clear hw2' hg8 HR1 HB1 hs1
  have d0 : w2.cell? ⟨g8, 0, none⟩ = some (.slice (some ⟨g, o, none⟩) ln lc) := HB8v.out.cell 0
  have d2 : w2.cell? ⟨g, o + r, none⟩ = some (.slice yA yn yc) := HN2.out.cell_ HC.out
  have i0 : w2.cell? ⟨G, 0, none⟩ = some (.int .i64 p) := HB2.out.cell 0
  have i1 : w2.cell? ⟨G, 1, none⟩ = some (.slice a.A a.n a.c) := HB2.out.cell 1
  have i2 : w2.cell? ⟨G, 2, none⟩ = some (.slice a.B a.m a.d) := HB2.out.cell 2
  have i3 : w2.cell? ⟨G, 3, none⟩ = some (.slice b.A b.n b.c) := HB2.out.cell 3
  have i4 : w2.cell? ⟨G, 4, none⟩ = some (.slice b.B b.m b.d) := HB2.out.cell 4
  try dsimp only at HS
  go_region_with (go_at_call 21; refine (HS.out _ (by first | exact HN2.out | exact New.dr HN2.out | exact New.dr (New.dr HN2.out))).mono ?_; rintro e w3 ⟨x, rfl, hRx, hxF, hxT, hN3⟩; have HN3 := Lib.hid hN3; have HR3 := Lib.hid (HN3.out.blk (show Blk _ (G + 1) _ _ from HR2.out)); have HRx := Lib.hid hRx; have HXF := Lib.hid hxF; have HXT := Lib.hid hxT; clear hN3 hRx hxF hxT; obtain ⟨a', ha'⟩ : ∃ a', a' = rput1 i a x := ⟨_, rfl⟩; obtain ⟨b', hb'⟩ : ∃ b', b' = rput2 i b x := ⟨_, rfl⟩; rw [← ha', ← hb']; have HA' := Lib.hid ha'; have HB' := Lib.hid hb'; clear ha' hb'; have z0 := HR3.out.frozen 0; have z1 := HR3.out.frozen 1; have z2 := HR3.out.frozen 2; have z3 := HR3.out.frozen 3; have z4 := HR3.out.frozen 4; have q0 := HR3.out.cell 0; have q1 := HR3.out.cell 1; have q2 := HR3.out.cell 2; have q3 := HR3.out.cell 3; have q4 := HR3.out.cell 4)
  all_goals
    go_wp2_with fail
    refine bodyPost_ret (results_row2 rfl _ _ (G + 1) _ _ rfl (blk_set5 HR3.out _ _ _ _ _) Try.underlying54 rfl rfl) rfl ?_
    have hn := Below.size HN3.out
    have hn2 : w.heap.size ≤ w2.heap.size := HN2.out.size
    have hg1 := HG.out
    refine ⟨x, by rw [HA'.out, HB'.out]; rfl, ?_, HXF.out, HXT.out, ?_⟩
    · refine (HRx.out.fr (Fr.set5 (Fr.refl (fun k => k = G + 1) _) (fun _ => rfl) _ _ _ _ _) ?_).imp ?_
      · rintro k (⟨_, h⟩ | h)
        · omega
        · have := HR2.out.lt
          simp at h
          omega
      · rintro k (⟨h, _⟩ | h)
        · exact .inl h
        · exact .inr (by simp at h; omega)
    · refine New.fr ((show New w _ from by first | exact HN2.out | exact New.dr HN2.out).tr HN3.out) (Fr.set5 (Fr.refl (fun k => k = G + 1) _) (fun _ => rfl) _ _ _ _ _) (fun k hk => by omega)
end Go.Proofs.Ytajoahhjgloefaa
