/- The reference: Take, Lose, Twice. (mkref29d.py writes this text.) No condition but that all can be read. -/
import Derived.Test.YtajoahhjgloefaaTuC
namespace Go.Proofs.Ytajoahhjgloefaa
open Go.RowKit Go.Maps

set_option maxHeartbeats 2000000 in
theorem rtake_no (p : Int) (a b q : Rl) (y k z : Int) (hz : ¬ z = 0) (h : ∀ w, Calls Try.prog 34 #[rnv p a b, .int .i64 y, .int .u64 k] w fun e w' => e = .returned (.tuple #[q.val, .int .i64 0, .int .i64 z]) ∧ New w w') (w : World) :
    Calls Try.prog 17 #[rnv p a b, .int .i64 y, .int .u64 k] w fun e w' => e = .returned (.tuple #[rnv p a b, .slice none 0 0, .int .i64 z]) ∧ New w w' := by
  have HL : Hid (∀ w, Calls Try.prog 34 #[.agg #[.int .i64 p, .slice a.A a.n a.c, .slice a.B a.m a.d, .slice b.A b.n b.c, .slice b.B b.m b.d], .int .i64 y, .int .u64 k] w fun e w' => e = .returned (.tuple #[.agg #[.slice q.A q.n q.c, .slice q.B q.m q.d], .int .i64 0, .int .i64 z]) ∧ New w w') := Lib.hid h
  clear h
  have hz' : (z == 0) = false := by simpa using hz
  change Calls _ _ #[.agg #[.int .i64 p, .slice a.A a.n a.c, .slice a.B a.m a.d, .slice b.A b.n b.c, .slice b.B b.m b.d], .int .i64 y, .int .u64 k] w _
  go_enter Try.func17, Try.ntmps17
  go_upto_region 1 with fail
  obtain ⟨w0, hw0⟩ : ∃ w0 : World, w0 = ((w.alloc (.cells #[.int .i64 p, .slice a.A a.n a.c, .slice a.B a.m a.d, .slice b.A b.n b.c, .slice b.B b.m b.d] 54)).alloc (.cells #[.int .i64 0, .slice none 0 0, .slice none 0 0, .slice none 0 0, .slice none 0 0] 54)) := ⟨_, rfl⟩
  obtain ⟨G, hG⟩ : ∃ G, G = w.heap.size := ⟨_, rfl⟩
  have HN0 : Hid (New w w0) := Lib.hid (by rw [hw0]; repeat (first | exact New.refl _ | refine New.al ?_ _))
  have HB0 : Hid (Blk w0 G 54 #[.int .i64 p, .slice a.A a.n a.c, .slice a.B a.m a.d, .slice b.A b.n b.c, .slice b.B b.m b.d]) := Lib.hid (by rw [hw0, hG]; exact (Blk.new _ _ _).alloc _)
  have HR0 : Hid (Blk w0 (G + 1) 54 #[.int .i64 0, .slice none 0 0, .slice none 0 0, .slice none 0 0, .slice none 0 0]) := Lib.hid (by rw [hw0, hG]; exact Blk.new' _ _ _ (by simp))
  have HG : Hid (G = w.heap.size) := Lib.hid hG
  go_wp2_with (first | ((with_reducible refine atOp ⟨some 16, .load _ _, _, _, _, _⟩ ?_); refine wpList_load_any rfl _ rfl Try.underlying54 rfl rfl rfl HB0.out ?_))
  rw [← hw0, ← hG]
  clear hw0 hG
  refine (HL.out w0).mono ?_
  rintro e w1 ⟨rfl, hN1⟩
  have HN1 : Hid (New w w1) := Lib.hid (HN0.out.tr hN1)
  have HR1 := Lib.hid (hN1.blk HR0.out)
  have HB1 := Lib.hid (hN1.blk HB0.out)
  have hs1 : G + 1 < w1.heap.size := HR1.out.lt
  clear hN1
  go_wp2_with (first | ((with_reducible refine atOp ⟨some 25, .load _ _, _, _, _, _⟩ ?_); refine wpList_load_any rfl _ rfl Try.underlying54 rfl rfl rfl (HB1.out.alloc _) ?_) | ((with_reducible refine atOp ⟨none, .store 54 (.tmp 6) _, _, _, _, _⟩ ?_); refine wpList_store_any rfl (.tmp 6) (.tmp 25) rfl rfl rfl rfl (HR1.out.alloc _) rfl (by simp [rnc, Value.oneCell']) ?_; intro w8 hb8 hf8; have HB8 := Lib.hid hb8; have HF8 := Lib.hid hf8; clear hb8 hf8))
  refine bodyPost_ret (results_row3 rfl _ _ (G + 1) _ _ rfl HB8.out Try.underlying54 rfl rfl) rfl ⟨rfl, ?_⟩
  exact (New.al HN1.out _).fr HF8.out (fun k hk => by have := HG.out; omega)
set_option maxHeartbeats 2000000 in
theorem rlose_no (p : Int) (a b q : Rl) (y k z : Int) (hz : ¬ z = 0) (h : ∀ w, Calls Try.prog 34 #[rnv p a b, .int .i64 y, .int .u64 k] w fun e w' => e = .returned (.tuple #[q.val, .int .i64 0, .int .i64 z]) ∧ New w w') (w : World) :
    Calls Try.prog 19 #[rnv p a b, .int .i64 y, .int .u64 k] w fun e w' => e = .returned (.tuple #[rnv p a b, .int .i64 z]) ∧ New w w' := by
  have HL : Hid (∀ w, Calls Try.prog 34 #[.agg #[.int .i64 p, .slice a.A a.n a.c, .slice a.B a.m a.d, .slice b.A b.n b.c, .slice b.B b.m b.d], .int .i64 y, .int .u64 k] w fun e w' => e = .returned (.tuple #[.agg #[.slice q.A q.n q.c, .slice q.B q.m q.d], .int .i64 0, .int .i64 z]) ∧ New w w') := Lib.hid h
  clear h
  have hz' : (z == 0) = false := by simpa using hz
  change Calls _ _ #[.agg #[.int .i64 p, .slice a.A a.n a.c, .slice a.B a.m a.d, .slice b.A b.n b.c, .slice b.B b.m b.d], .int .i64 y, .int .u64 k] w _
  go_enter Try.func19, Try.ntmps19
  go_upto_region 1 with fail
  obtain ⟨w0, hw0⟩ : ∃ w0 : World, w0 = ((w.alloc (.cells #[.int .i64 p, .slice a.A a.n a.c, .slice a.B a.m a.d, .slice b.A b.n b.c, .slice b.B b.m b.d] 54)).alloc (.cells #[.int .i64 0, .slice none 0 0, .slice none 0 0, .slice none 0 0, .slice none 0 0] 54)) := ⟨_, rfl⟩
  obtain ⟨G, hG⟩ : ∃ G, G = w.heap.size := ⟨_, rfl⟩
  have HN0 : Hid (New w w0) := Lib.hid (by rw [hw0]; repeat (first | exact New.refl _ | refine New.al ?_ _))
  have HB0 : Hid (Blk w0 G 54 #[.int .i64 p, .slice a.A a.n a.c, .slice a.B a.m a.d, .slice b.A b.n b.c, .slice b.B b.m b.d]) := Lib.hid (by rw [hw0, hG]; exact (Blk.new _ _ _).alloc _)
  have HR0 : Hid (Blk w0 (G + 1) 54 #[.int .i64 0, .slice none 0 0, .slice none 0 0, .slice none 0 0, .slice none 0 0]) := Lib.hid (by rw [hw0, hG]; exact Blk.new' _ _ _ (by simp))
  have HG : Hid (G = w.heap.size) := Lib.hid hG
  go_wp2_with (first | ((with_reducible refine atOp ⟨some 12, .load _ _, _, _, _, _⟩ ?_); refine wpList_load_any rfl _ rfl Try.underlying54 rfl rfl rfl HB0.out ?_))
  rw [← hw0, ← hG]
  clear hw0 hG
  refine (HL.out w0).mono ?_
  rintro e w1 ⟨rfl, hN1⟩
  have HN1 : Hid (New w w1) := Lib.hid (HN0.out.tr hN1)
  have HR1 := Lib.hid (hN1.blk HR0.out)
  have HB1 := Lib.hid (hN1.blk HB0.out)
  have hs1 : G + 1 < w1.heap.size := HR1.out.lt
  clear hN1
  go_wp2_with (first | ((with_reducible refine atOp ⟨some 21, .load _ _, _, _, _, _⟩ ?_); refine wpList_load_any rfl _ rfl Try.underlying54 rfl rfl rfl (HB1.out.alloc _) ?_) | ((with_reducible refine atOp ⟨none, .store 54 (.tmp 6) _, _, _, _, _⟩ ?_); refine wpList_store_any rfl (.tmp 6) (.tmp 21) rfl rfl rfl rfl (HR1.out.alloc _) rfl (by simp [rnc, Value.oneCell']) ?_; intro w8 hb8 hf8; have HB8 := Lib.hid hb8; have HF8 := Lib.hid hf8; clear hb8 hf8))
  refine bodyPost_ret (results_row2 rfl _ _ (G + 1) _ _ rfl HB8.out Try.underlying54 rfl rfl) rfl ⟨rfl, ?_⟩
  exact (New.al HN1.out _).fr HF8.out (fun k hk => by have := HG.out; omega)
set_option maxHeartbeats 2000000 in
theorem rtwice_no (p : Int) (a b q : Rl) (y k z : Int) (hz : ¬ z = 0) (h : ∀ w, Calls Try.prog 34 #[rnv p a b, .int .i64 y, .int .u64 k] w fun e w' => e = .returned (.tuple #[q.val, .int .i64 0, .int .i64 z]) ∧ New w w') (w : World) :
    Calls Try.prog 20 #[rnv p a b, .int .i64 y, .int .u64 k] w fun e w' => e = .returned (.tuple #[rnv p a b, .int .i64 z]) ∧ New w w' := by
  have HL : Hid (∀ w, Calls Try.prog 34 #[.agg #[.int .i64 p, .slice a.A a.n a.c, .slice a.B a.m a.d, .slice b.A b.n b.c, .slice b.B b.m b.d], .int .i64 y, .int .u64 k] w fun e w' => e = .returned (.tuple #[.agg #[.slice q.A q.n q.c, .slice q.B q.m q.d], .int .i64 0, .int .i64 z]) ∧ New w w') := Lib.hid h
  clear h
  have hz' : (z == 0) = false := by simpa using hz
  change Calls _ _ #[.agg #[.int .i64 p, .slice a.A a.n a.c, .slice a.B a.m a.d, .slice b.A b.n b.c, .slice b.B b.m b.d], .int .i64 y, .int .u64 k] w _
  go_enter Try.func20, Try.ntmps20
  go_upto_region 1 with fail
  obtain ⟨w0, hw0⟩ : ∃ w0 : World, w0 = ((w.alloc (.cells #[.int .i64 p, .slice a.A a.n a.c, .slice a.B a.m a.d, .slice b.A b.n b.c, .slice b.B b.m b.d] 54)).alloc (.cells #[.int .i64 0, .slice none 0 0, .slice none 0 0, .slice none 0 0, .slice none 0 0] 54)) := ⟨_, rfl⟩
  obtain ⟨G, hG⟩ : ∃ G, G = w.heap.size := ⟨_, rfl⟩
  have HN0 : Hid (New w w0) := Lib.hid (by rw [hw0]; repeat (first | exact New.refl _ | refine New.al ?_ _))
  have HB0 : Hid (Blk w0 G 54 #[.int .i64 p, .slice a.A a.n a.c, .slice a.B a.m a.d, .slice b.A b.n b.c, .slice b.B b.m b.d]) := Lib.hid (by rw [hw0, hG]; exact (Blk.new _ _ _).alloc _)
  have HR0 : Hid (Blk w0 (G + 1) 54 #[.int .i64 0, .slice none 0 0, .slice none 0 0, .slice none 0 0, .slice none 0 0]) := Lib.hid (by rw [hw0, hG]; exact Blk.new' _ _ _ (by simp))
  have HG : Hid (G = w.heap.size) := Lib.hid hG
  go_wp2_with (first | ((with_reducible refine atOp ⟨some 12, .load _ _, _, _, _, _⟩ ?_); refine wpList_load_any rfl _ rfl Try.underlying54 rfl rfl rfl HB0.out ?_))
  rw [← hw0, ← hG]
  clear hw0 hG
  refine (HL.out w0).mono ?_
  rintro e w1 ⟨rfl, hN1⟩
  have HN1 : Hid (New w w1) := Lib.hid (HN0.out.tr hN1)
  have HR1 := Lib.hid (hN1.blk HR0.out)
  have HB1 := Lib.hid (hN1.blk HB0.out)
  have hs1 : G + 1 < w1.heap.size := HR1.out.lt
  clear hN1
  go_wp2_with (first | ((with_reducible refine atOp ⟨some 21, .load _ _, _, _, _, _⟩ ?_); refine wpList_load_any rfl _ rfl Try.underlying54 rfl rfl rfl (HB1.out.alloc _) ?_) | ((with_reducible refine atOp ⟨none, .store 54 (.tmp 6) _, _, _, _, _⟩ ?_); refine wpList_store_any rfl (.tmp 6) (.tmp 21) rfl rfl rfl rfl (HR1.out.alloc _) rfl (by simp [rnc, Value.oneCell']) ?_; intro w8 hb8 hf8; have HB8 := Lib.hid hb8; have HF8 := Lib.hid hf8; clear hb8 hf8))
  refine bodyPost_ret (results_row2 rfl _ _ (G + 1) _ _ rfl HB8.out Try.underlying54 rfl rfl) rfl ⟨rfl, ?_⟩
  exact (New.al HN1.out _).fr HF8.out (fun k hk => by have := HG.out; omega)
/-- Those with other bytes. -/
def othR (T : List Fm) (xs : List Int) : List Fm := T.filter fun z => decide (z.xs ≠ xs)
theorem othR_step {T : List Fm} {j : Nat} (h : j < T.length) (xs : List Int) : othR (T.take (j + 1)) xs = if T[j].xs = xs then othR (T.take j) xs else othR (T.take j) xs ++ [T[j]] := by
  unfold othR
  rw [List.take_succ_eq_append_getElem h, List.filter_append]
  by_cases e : T[j].xs = xs <;> simp [e]
theorem othR_le (T : List Fm) (xs : List Int) : (othR T xs).length ≤ T.length := List.length_filter_le _ _
theorem own_rs2 {P : Nat → Prop} {w : World} {v : Value} {L : List Fm} {B : Nat} (h : w.ownsRow B 33 1 v L.length (vals L)) (hr : ∀ x ∈ L, Rd P w 1 x.A x.n (u8s x.xs) ∧ Byt x.xs ∧ x.n ≤ 1000) (hB : ∀ k, B ≤ k → P k) : RsIn P w v L :=
  (own_rs h hr).imp fun k hk => hk.elim id (hB k)
set_option maxHeartbeats 8000000 in
theorem rtake_in {P : Nat → Prop} {N : Nat} (i : Bool) (p : Int) (a b : Rl) (k : Int) (y : Fm) (w : World) (hk0 : 0 ≤ k) (hk1 : k < 18446744073709551616) (h : RlIn P w N (rsel i a b)) (hNN : N ≤ 100000) (hy : (rsel i a b).F[k.toNat % (rsel i a b).F.length]? = some y) :
    Calls Try.prog 17 #[rnv p a b, .int .i64 (wayI i), .int .u64 k] w fun e w' => ∃ x : Rl, e = .returned (.tuple #[rnv p (rput1 i a x) (rput2 i b x), y.val, .int .i64 0]) ∧ RlIn (fun k => P k ∨ w.heap.size ≤ k) w' N x ∧ x.F = (rsel i a b).F.eraseIdx (k.toNat % (rsel i a b).F.length) ∧ x.T = othR (rsel i a b).T y.xs ∧ New w w' := by
  obtain ⟨l, hl⟩ : ∃ l, l = rsel i a b := ⟨_, rfl⟩
  rw [← hl] at h hy
  try rw [← hl]
  have hln := h.f.len
  have h6 := h.fl
  have hn0 : 0 < l.F.length := by
    rcases Nat.eq_zero_or_pos l.F.length with e | e
    · rw [List.eq_nil_of_length_eq_zero e] at hy
      simp at hy
    · exact e
  have HL : Hid (∀ w, Calls Try.prog 34 #[.agg #[.int .i64 p, .slice a.A a.n a.c, .slice a.B a.m a.d, .slice b.A b.n b.c, .slice b.B b.m b.d], .int .i64 (wayI i), .int .u64 k] w fun e w' => e = .returned (.tuple #[.agg #[.slice l.A l.n l.c, .slice l.B l.m l.d], .int .i64 ((k.toNat % l.F.length : Nat) : Int), .int .i64 0]) ∧ New w w') := Lib.hid (fun w => by
    have hp := rplace_in i p a b k w hk0 hk1 (by rw [← hl, hln]; exact hn0) (by rw [← hl, hln]; exact h6)
    rw [← hl, hln] at hp
    exact hln ▸ hp)
  clear hl
  have hrl : k.toNat % l.F.length < l.F.length := Nat.mod_lt _ hn0
  generalize k.toNat % l.F.length = r at hy hrl HL ⊢
  have H := Lib.hid h.lt
  have HTL := Lib.hid h.tl
  have hat := RsIn.at (h.lt.f) (by omega) hrl
  have hye : l.F[r] = y := by
    rw [List.getElem?_eq_getElem hrl] at hy
    exact Option.some.inj hy
  rw [hye] at hat
  have hry := h.lt.f.el y (hye ▸ List.getElem_mem _)
  have HY := Lib.hid hry
  have hfl := h.fl
  clear h hy hye hn0 hry h6
  obtain ⟨lA, ln, lc, F, lB, lm, ld, T⟩ := l
  dsimp only at H hat hrl hfl HL hln HTL ⊢
  subst hln
  obtain ⟨g, o, c', e, hcc, hcell⟩ := hat
  injection e with e1 e2 e3
  subst e1
  have HC := Lib.hid hcell
  obtain ⟨yA, yn, yc, ys⟩ := y
  have HFL := Lib.hid hfl
  clear hcell e2 e3 hfl
  simp only [Fm.val] at HC ⊢
  obtain ⟨ln, hln⟩ : ∃ ln, ln = F.length := ⟨_, rfl⟩
  rw [← hln] at hrl hcc HL
  have HLN := Lib.hid hln
  try rw [← hln]
  clear hln
  change Calls _ _ #[.agg #[.int .i64 p, .slice a.A a.n a.c, .slice a.B a.m a.d, .slice b.A b.n b.c, .slice b.B b.m b.d], .int .i64 (wayI i), .int .u64 k] w _
  go_enter Try.func17, Try.ntmps17
  go_upto_region 1 with fail
  obtain ⟨w0, hw0⟩ : ∃ w0 : World, w0 = ((w.alloc (.cells #[.int .i64 p, .slice a.A a.n a.c, .slice a.B a.m a.d, .slice b.A b.n b.c, .slice b.B b.m b.d] 54)).alloc (.cells #[.int .i64 0, .slice none 0 0, .slice none 0 0, .slice none 0 0, .slice none 0 0] 54)) := ⟨_, rfl⟩
  obtain ⟨G, hG⟩ : ∃ G, G = w.heap.size := ⟨_, rfl⟩
  have HN0 : Hid (New w w0) := Lib.hid (by rw [hw0]; repeat (first | exact New.refl _ | refine New.al ?_ _))
  have HB0 : Hid (Blk w0 G 54 #[.int .i64 p, .slice a.A a.n a.c, .slice a.B a.m a.d, .slice b.A b.n b.c, .slice b.B b.m b.d]) := Lib.hid (by rw [hw0, hG]; exact (Blk.new _ _ _).alloc _)
  have HR0 : Hid (Blk w0 (G + 1) 54 #[.int .i64 0, .slice none 0 0, .slice none 0 0, .slice none 0 0, .slice none 0 0]) := Lib.hid (by rw [hw0, hG]; exact Blk.new' _ _ _ (by simp))
  have HG : Hid (G = w.heap.size) := Lib.hid hG
  go_wp2_with (first | ((with_reducible refine atOp ⟨some 16, .load _ _, _, _, _, _⟩ ?_); refine wpList_load_any rfl _ rfl Try.underlying54 rfl rfl rfl HB0.out ?_))
  rw [← hw0, ← hG]
  clear hw0 hG
  refine (HL.out w0).mono ?_
  rintro e w1 ⟨rfl, hN1⟩
  have HN1 : Hid (New w w1) := Lib.hid (HN0.out.tr hN1)
  have HR1 := Lib.hid (hN1.blk HR0.out)
  have HB1 := Lib.hid (hN1.blk HB0.out)
  have hs1 : G + 1 < w1.heap.size := HR1.out.lt
  clear hN1
  obtain ⟨w2, hw2'⟩ : ∃ w2 : World, w2 = w1.alloc (.cells #[.slice (some ⟨g, o, none⟩) ln lc, .slice lB lm ld] 52) := ⟨_, rfl⟩
  obtain ⟨g8, hg8⟩ : ∃ g8, g8 = w1.heap.size := ⟨_, rfl⟩
  have HN2 : Hid (New w w2) := Lib.hid (by rw [hw2']; exact New.al HN1.out _)
  have HB8v : Hid (Blk w2 g8 52 #[.slice (some ⟨g, o, none⟩) ln lc, .slice lB lm ld]) := Lib.hid (by rw [hw2', hg8]; exact Blk.new _ _ _)
  have HR2 := Lib.hid (show Blk w2 (G + 1) 54 #[.int .i64 0, .slice none 0 0, .slice none 0 0, .slice none 0 0, .slice none 0 0] by rw [hw2']; exact HR1.out.alloc _)
  have HB2 := Lib.hid (show Blk w2 G 54 #[.int .i64 p, .slice a.A a.n a.c, .slice a.B a.m a.d, .slice b.A b.n b.c, .slice b.B b.m b.d] by rw [hw2']; exact HB1.out.alloc _)
  have HGG : Hid (G + 1 < g8) := Lib.hid (by omega)
  go_upto_region 4 with fail
  rw [← hw2', ← hg8]
  clear hw2' hg8 HR1 HB1 hs1
  have d0 : w2.cell? ⟨g8, 0, none⟩ = some (.slice (some ⟨g, o, none⟩) ln lc) := HB8v.out.cell 0
  have d1 : w2.cell? ⟨g, o + r, none⟩ = some (.slice yA yn yc) := HN2.out.cell_ HC.out
  have HM := Lib.hid (rwithout_any _ F r w2 (H.out.f.new HN2.out) (by have := HFL.out; omega))
  rw [← HLN.out] at HM
  go_wp2_with fail
  refine HM.out.mono ?_
  rintro e w3 ⟨⟨v', rfl, hR'⟩, hN3⟩
  obtain ⟨A', c', rfl, hc', -⟩ := hR'.sl
  obtain ⟨n', hn'⟩ : ∃ n', n' = (F.eraseIdx r).length := ⟨_, rfl⟩
  rw [← hn'] at hR' ⊢
  have HR' := Lib.hid hR'
  have HB3 := Lib.hid (hN3.blk HB8v.out)
  have HR3 := Lib.hid (hN3.blk HR2.out)
  have HBN3 := Lib.hid (hN3.blk HB2.out)
  have HN3 := Lib.hid (HN2.out.tr hN3)
  have H3s := Lib.hid hN3.size
  have e0 : w3.cell? ⟨g8, 0, none⟩ = some (.slice (some ⟨g, o, none⟩) ln lc) := HB3.out.cell 0
  have z0 : w3.frozen? ⟨g8, 0, none⟩ = false := HB3.out.frozen 0
  clear hR' hN3 hn' hc' d0 d1 hrl hcc HM
  go_upto_region 6 with fail
  obtain ⟨w4, hw4⟩ : ∃ w4 : World, w4 = w3.setCell ⟨g8, 0, none⟩ (.slice A' n' c') := ⟨_, rfl⟩
  have hF4 : Fr (fun k => k = g8) w3 w4 := hw4 ▸ (Fr.refl (fun k => k = g8) w3).setCell (p := ⟨g8, 0, none⟩) (fun _ => rfl) _
  have HB4 : Hid (Blk w4 g8 52 #[.slice A' n' c', .slice lB lm ld]) := Lib.hid (by rw [hw4]; exact HB3.out.set 0 _)
  have HR4 := Lib.hid (HR3.out.fr hF4 (by have := HGG.out; omega))
  have HBN4 := Lib.hid (HBN3.out.fr hF4 (by have := HGG.out; omega))
  have HN4 := Lib.hid (HN3.out.fr hF4 (fun k hk => by have := HGG.out; have := HG.out; omega))
  have HF4 := Lib.hid hF4
  rw [← hw4]
  clear hw4 hF4
  clear e0 z0
  obtain ⟨M, hM⟩ : ∃ M, M = T.length := ⟨_, rfl⟩
  have hlm : lm = M := by rw [hM]; exact H.out.t.len
  have hMN : M ≤ 100000 := by have := HTL.out; omega
  subst hlm
  have HT4 : Hid (RsIn (fun k => P k ∧ k < w.heap.size) w4 (.slice lB lm ld) T) := Lib.hid ((H.out.t.new HN3.out).fr HF4.out (by rintro k ⟨_, h⟩; have := HGG.out; have := HG.out; omega))
  have HMT := Lib.hid hM
  have hmd : lm ≤ ld := by
    obtain ⟨⟨A9, c9, e9, h9, -⟩, -⟩ := H.out.t
    injection e9 with _ _ e9
    subst e9
    rw [hM]; exact h9
  have HYS : Hid (Rd (fun k => P k ∧ k < w.heap.size) w4 1 yA yn (u8s ys) ∧ Byt ys) := Lib.hid ⟨(HN3.out.rd HY.out.1).fr HF4.out (by rintro k ⟨_, h⟩; have := HGG.out; have := HG.out; omega), HY.out.2.1⟩
  have HSZ : Hid (w2.heap.size ≤ w4.heap.size ∧ w.heap.size ≤ w2.heap.size) := Lib.hid ⟨Nat.le_trans H3s.out HF4.out.size, HN2.out.size⟩
  clear hM
  go_wp2_with fail
  go_loopw [13, 14] (fun u i wr => ∃ (j : Nat), j ≤ lm ∧ i = .int .i64 j ∧ Hid (wr.ownsRow w4.heap.size 33 1 u (othR (T.take j) ys).length (vals (othR (T.take j) ys)) ∧ New w4 wr)) (fun _ i _ => lm - (intOf i).toNat)
  case atStart => exact ⟨0, Nat.zero_le _, rfl, Lib.hid ⟨by simpa [vals, othR] using World.ownsRow_nil _ _ _ _, New.refl _⟩⟩
  case round =>
    obtain ⟨j, hj, rfl, HO⟩ := hrel
    have q1 : wr.cell? ⟨g8, 1, none⟩ = some (.slice lB lm ld) := HO.out.2.cell_ (HB4.out.cell 1)
    by_cases hlt : j < lm
    · have hjl : j < T.length := by rw [← HMT.out]; exact hlt
      obtain ⟨gt, ot, ct, e, -, hcell⟩ := (HT4.out.new HO.out.2).at (by rw [← HMT.out]; omega) hjl
      injection e with e1 e2 e3
      subst e1
      have hst := othR_step hjl ys
      have hrt := (HT4.out.new HO.out.2).el T[j] (List.getElem_mem _)
      generalize T[j] = z at hcell hst hrt
      obtain ⟨zA, zn, zc, zs⟩ := z
      simp only [Fm.val] at hcell
      have hcz := fun k => run_conv (c := zc) (w := wr.drewN k) (show Rd _ (wr.drewN k) 1 zA zn (u8s zs) from (New.dn (New.refl _) k).rd hrt.1)
      have hcy := fun k => run_conv (c := yc) (w := wr.drewN k) (show Rd _ (wr.drewN k) 1 yA yn (u8s ys) from (New.dn HO.out.2 k).rd HYS.out.1)
      obtain ⟨sz, hsz'⟩ : ∃ s, s = strOfNums zs := ⟨_, rfl⟩
      obtain ⟨sy, hsy'⟩ : ∃ s, s = strOfNums ys := ⟨_, rfl⟩
      have hin : (sz.toList == sy.toList) = decide (zs = ys) := by rw [hsz', hsy']; exact str_inj hrt.2.1 HYS.out.2
      rw [← hsz'] at hcz
      rw [← hsy'] at hcy
      have HST := Lib.hid hst
      have hml : (othR (T.take j) ys).length ≤ j := Nat.le_trans (othR_le _ _) (List.length_take_le _ _)
      obtain ⟨M, hM⟩ : ∃ M, M = othR (T.take j) ys := ⟨_, rfl⟩
      rw [← hM] at HO hml HST
      obtain ⟨sA, sc, rfl, hnc, hcm, -, -⟩ := own_shape HO.out.1
      have hsz := HO.out.2.size
      clear hst e2 e3 hM hrt hsz' hsy' hnc hcm
      by_cases hd : zs = ys
      · have hin' : (sz.toList == sy.toList) = true := by rw [hin]; exact decide_eq_true hd
        have HE := Lib.hid hd
        clear hin hd
        go_wp2_with fail
        go_quiet (fail)
        go_wp2_with fail
        go_roundw
        case rel => exact ⟨j + 1, by omega, by go_num, by rw [HST.out, if_pos HE.out]; exact Lib.hid ⟨HO.out.1, New.dn HO.out.2 _⟩⟩
        case measure => simp [intOf]; omega
      · have hin' : (sz.toList == sy.toList) = false := by rw [hin]; exact decide_eq_false hd
        have HE := Lib.hid hd
        clear hin hd
        go_wp2_with fail
        go_quiet (fail)
        obtain ⟨wq, hwq⟩ : ∃ wq : World, wq = wr.drewN nq := ⟨_, rfl⟩
        have HOq : Hid (wq.ownsRow w4.heap.size 33 1 (.slice sA M.length sc) M.length (vals M) ∧ New w4 wq) := Lib.hid (by rw [hwq]; exact ⟨HO.out.1, New.dn HO.out.2 _⟩)
        have q1' : wq.cell? ⟨g8, 1, none⟩ = some (.slice (some ⟨gt, ot, none⟩) lm ld) := by rw [hwq]; exact q1
        have hcell' : wq.cell? ⟨gt, ot + j, none⟩ = some (.slice zA zn zc) := by rw [hwq]; exact hcell
        have hszq : w4.heap.size ≤ wq.heap.size := HOq.out.2.size
        rw [← hwq]
        clear hwq hcz hcy hin' q1 hcell
        go_wp2_with (at_builtin; refine wpList_app elL _ rfl (.tmp 53) (.tmp 59) rfl w4.heap.size (.slice sA M.length sc) M.length (vals M) rfl (New.own (New.al (New.refl wq) _) HOq.out.1) (some ⟨wq.heap.size, 0, none⟩) 1 1 [.slice zA zn zc] rfl (Rd.ofBlk (p := fun _ => True) (t := 33) (cs := #[.slice zA zn zc]) (Blk.new' _ _ _ rfl) 1 1 rfl trivial) (by simp [Value.oneCell']) (by unfold maxLen; omega) (by omega) (by simp; omega) ?_; intro A1 d1 w5 hO3 hF3 hA3; have HO3 := Lib.hid hO3; have HN5 : Hid (New w4 w5) := Lib.hid (New.fr (New.al HOq.out.2 _) hF3 (fun k hk => (own_lt HOq.out.1 k hk).1)); clear hO3 hF3 hA3)
        go_roundw
        case rel =>
          refine ⟨j + 1, by omega, by go_num, ?_⟩
          rw [HST.out, if_neg HE.out]
          refine Lib.hid ⟨?_, HN5.out⟩
          have h := HO3.out
          simpa [vals, Fm.val] using h
        case measure => simp [intOf]; omega
    · obtain rfl : j = lm := by omega
      obtain ⟨tA, tc, rfl, htc, htm, -, -⟩ := own_shape HO.out.1
      have HT' := HO
      rw [List.take_of_length_le (by rw [HMT.out]; exact Nat.le_refl _)] at HT'
      have htl : (othR (T.take j) ys).length = (othR T ys).length := by rw [List.take_of_length_le (by rw [HMT.out]; exact Nat.le_refl _)]
      rw [htl]
      rw [htl] at HO htc
      obtain ⟨m', hm'⟩ : ∃ m', m' = (othR T ys).length := ⟨_, rfl⟩
      rw [← hm'] at HT' htc ⊢
      have HM' := Lib.hid hm'
      have HN5 := HO.out.2
      have HB5 := Lib.hid (HN5.blk HB4.out)
      have HR5 := Lib.hid (HN5.blk HR4.out)
      have HBN5 := Lib.hid (HN5.blk HBN4.out)
      have HN5 := Lib.hid (HN4.out.tr HN5)
      have z1 : wr.frozen? ⟨g8, 1, none⟩ = false := HB5.out.frozen 1
      clear hm' htl htm HO
      go_upto_region 13 with fail
      obtain ⟨w5, hw5⟩ : ∃ w5, w5 = wr := ⟨_, rfl⟩
      subst hw5
      obtain ⟨w6, hw6⟩ : ∃ w6 : World, w6 = w5.setCell ⟨g8, 1, none⟩ (.slice tA m' tc) := ⟨_, rfl⟩
      have hF6 : Fr (fun k => k = g8) w5 w6 := hw6 ▸ (Fr.refl (fun k => k = g8) w5).setCell (p := ⟨g8, 1, none⟩) (fun _ => rfl) _
      have HB6 : Hid (Blk w6 g8 52 #[.slice A' n' c', .slice tA m' tc]) := Lib.hid (by rw [hw6]; exact HB5.out.set 1 _)
      have HR6 := Lib.hid (HR5.out.fr hF6 (by have := HGG.out; omega))
      have HBN6 := Lib.hid (HBN5.out.fr hF6 (by have := HGG.out; omega))
      have HN6 := Lib.hid (HN5.out.fr hF6 (fun k hk => by have := HGG.out; have := HG.out; omega))
      have HF6 := Lib.hid hF6
      rw [← hw6]
      clear hw6 hF6
      clear q1 z1
      go_wp2_with (first | ((with_reducible refine atOp ⟨some 63, .load _ _, _, _, _, _⟩ ?_); refine wpList_load_any rfl _ rfl Try.underlying54 rfl rfl rfl HBN6.out ?_) | ((with_reducible refine atOp ⟨some 65, .load _ _, _, _, _, _⟩ ?_); refine wpList_load_any rfl _ rfl Try.underlying52 rfl rfl rfl HB6.out ?_))
      refine (rwith_in i p a b ⟨A', n', c', F.eraseIdx r, tA, m', tc, othR T ys⟩ w6).mono ?_
      rintro e w7 ⟨rfl, hN7⟩
      have HR7 := Lib.hid (hN7.blk HR6.out)
      have HN7 := Lib.hid hN7
      clear hN7
      unfold rnv
      go_wp2_with (first | ((with_reducible refine atOp ⟨none, .store 54 (.tmp 6) _, _, _, _, _⟩ ?_); refine wpList_store_any rfl (.tmp 6) (.tmp 66) rfl rfl rfl rfl HR7.out rfl (by simp [rnc, Value.oneCell']) ?_; intro w8 hb8 hf8; have HB8 := Lib.hid hb8; have HF8 := Lib.hid hf8; clear hb8 hf8))
      refine bodyPost_ret (results_row3 rfl _ _ (G + 1) _ _ rfl HB8.out Try.underlying54 rfl rfl) rfl ?_
      have hg1 := HG.out
      have hgg := HGG.out
      have hs := HSZ.out
      have hg8 := HB8v.out.lt
      have h4s := HT'.out.2
      refine ⟨⟨A', n', c', F.eraseIdx r, tA, m', tc, othR T ys⟩, rfl, ⟨?_, ?_, ?_, ?_⟩, rfl, rfl, (HN6.out.tr HN7.out).fr HF8.out (fun k hk => by omega)⟩
      · refine (((((HR'.out.fr HF4.out ?_).new HT'.out.2).fr HF6.out ?_).new HN7.out).fr HF8.out ?_).imp ?_
        · rintro k (⟨_, h⟩ | h) <;> omega
        · rintro k (⟨_, h⟩ | h) <;> omega
        · rintro k (⟨_, h⟩ | h) <;> omega
        · rintro k (⟨h, _⟩ | h)
          · exact .inl h
          · exact .inr (by omega)
      · have hm := HM'.out
        have hw := HT'.out.1
        subst hm
        refine (((own_rs hw fun x hx => (HT4.out.new HT'.out.2).el x ((List.mem_filter.1 hx).1)).fr HF6.out ?_).new HN7.out |>.fr HF8.out ?_).imp ?_
        · rintro k (⟨_, h⟩ | h) <;> omega
        · rintro k (⟨_, h⟩ | h) <;> omega
        · rintro k (⟨h, _⟩ | h)
          · exact .inl h
          · exact .inr (by omega)
      · show (F.eraseIdx r).length ≤ 256
        have := HFL.out
        have := List.length_eraseIdx_le F r
        omega
      · show (othR T ys).length ≤ N
        have := HTL.out
        have := othR_le T ys
        omega
set_option maxHeartbeats 4000000 in
theorem rlose_full {P : Nat → Prop} {N : Nat} (i : Bool) (p : Int) (a b : Rl) (k : Int) (y : Fm) (w : World) (hp0 : 0 ≤ p) (hp1 : p ≤ 64) (hk0 : 0 ≤ k) (hk1 : k < 18446744073709551616) (h : RlIn P w N (rsel i a b)) (hNN : N ≤ 100000) (hy : (rsel i a b).F[k.toNat % (rsel i a b).F.length]? = some y) (hlt_ : p - 1 ≤ cntR (rsel i a b).T y.xs) :
    Calls Try.prog 19 #[rnv p a b, .int .i64 (wayI i), .int .u64 k] w fun e w' => e = .returned (.tuple #[rnv p a b, .int .i64 10]) ∧ New w w' := by
  obtain ⟨l, hl⟩ : ∃ l, l = rsel i a b := ⟨_, rfl⟩
  rw [← hl] at h hy hlt_
  try rw [← hl]
  have hln := h.f.len
  have h6 := h.fl
  have hn0 : 0 < l.F.length := by
    rcases Nat.eq_zero_or_pos l.F.length with e | e
    · rw [List.eq_nil_of_length_eq_zero e] at hy
      simp at hy
    · exact e
  have HL : Hid (∀ w, Calls Try.prog 34 #[.agg #[.int .i64 p, .slice a.A a.n a.c, .slice a.B a.m a.d, .slice b.A b.n b.c, .slice b.B b.m b.d], .int .i64 (wayI i), .int .u64 k] w fun e w' => e = .returned (.tuple #[.agg #[.slice l.A l.n l.c, .slice l.B l.m l.d], .int .i64 ((k.toNat % l.F.length : Nat) : Int), .int .i64 0]) ∧ New w w') := Lib.hid (fun w => by
    have hp := rplace_in i p a b k w hk0 hk1 (by rw [← hl, hln]; exact hn0) (by rw [← hl, hln]; exact h6)
    rw [← hl, hln] at hp
    exact hln ▸ hp)
  clear hl
  have hrl : k.toNat % l.F.length < l.F.length := Nat.mod_lt _ hn0
  generalize k.toNat % l.F.length = r at hy hrl HL ⊢
  have H := Lib.hid h.lt
  have HTL := Lib.hid h.tl
  have hat := RsIn.at (h.lt.f) (by omega) hrl
  have hye : l.F[r] = y := by
    rw [List.getElem?_eq_getElem hrl] at hy
    exact Option.some.inj hy
  rw [hye] at hat
  have hry := h.lt.f.el y (hye ▸ List.getElem_mem _)
  have HY := Lib.hid hry
  have hfl := h.fl
  clear h hy hye hn0 hry h6
  obtain ⟨lA, ln, lc, F, lB, lm, ld, T⟩ := l
  dsimp only at H hat hrl hfl HL hln HTL ⊢
  subst hln
  obtain ⟨g, o, c', e, hcc, hcell⟩ := hat
  injection e with e1 e2 e3
  subst e1
  have HC := Lib.hid hcell
  obtain ⟨yA, yn, yc, ys⟩ := y
  have HFL := Lib.hid hfl
  clear hcell e2 e3 hfl
  simp only [Fm.val] at HC ⊢
  obtain ⟨ln, hln⟩ : ∃ ln, ln = F.length := ⟨_, rfl⟩
  rw [← hln] at hrl hcc HL
  have HLN := Lib.hid hln
  try rw [← hln]
  clear hln
  dsimp only at hlt_
  change Calls _ _ #[.agg #[.int .i64 p, .slice a.A a.n a.c, .slice a.B a.m a.d, .slice b.A b.n b.c, .slice b.B b.m b.d], .int .i64 (wayI i), .int .u64 k] w _
  go_enter Try.func19, Try.ntmps19
  go_upto_region 1 with fail
  obtain ⟨w0, hw0⟩ : ∃ w0 : World, w0 = ((w.alloc (.cells #[.int .i64 p, .slice a.A a.n a.c, .slice a.B a.m a.d, .slice b.A b.n b.c, .slice b.B b.m b.d] 54)).alloc (.cells #[.int .i64 0, .slice none 0 0, .slice none 0 0, .slice none 0 0, .slice none 0 0] 54)) := ⟨_, rfl⟩
  obtain ⟨G, hG⟩ : ∃ G, G = w.heap.size := ⟨_, rfl⟩
  have HN0 : Hid (New w w0) := Lib.hid (by rw [hw0]; repeat (first | exact New.refl _ | refine New.al ?_ _))
  have HB0 : Hid (Blk w0 G 54 #[.int .i64 p, .slice a.A a.n a.c, .slice a.B a.m a.d, .slice b.A b.n b.c, .slice b.B b.m b.d]) := Lib.hid (by rw [hw0, hG]; exact (Blk.new _ _ _).alloc _)
  have HR0 : Hid (Blk w0 (G + 1) 54 #[.int .i64 0, .slice none 0 0, .slice none 0 0, .slice none 0 0, .slice none 0 0]) := Lib.hid (by rw [hw0, hG]; exact Blk.new' _ _ _ (by simp))
  have HG : Hid (G = w.heap.size) := Lib.hid hG
  go_wp2_with (first | ((with_reducible refine atOp ⟨some 12, .load _ _, _, _, _, _⟩ ?_); refine wpList_load_any rfl _ rfl Try.underlying54 rfl rfl rfl HB0.out ?_))
  rw [← hw0, ← hG]
  clear hw0 hG
  refine (HL.out w0).mono ?_
  rintro e w1 ⟨rfl, hN1⟩
  have HN1 : Hid (New w w1) := Lib.hid (HN0.out.tr hN1)
  have HR1 := Lib.hid (hN1.blk HR0.out)
  have HB1 := Lib.hid (hN1.blk HB0.out)
  have hs1 : G + 1 < w1.heap.size := HR1.out.lt
  clear hN1
  obtain ⟨w2, hw2'⟩ : ∃ w2 : World, w2 = w1.alloc (.cells #[.slice (some ⟨g, o, none⟩) ln lc, .slice lB lm ld] 52) := ⟨_, rfl⟩
  obtain ⟨g8, hg8⟩ : ∃ g8, g8 = w1.heap.size := ⟨_, rfl⟩
  have HN2 : Hid (New w w2) := Lib.hid (by rw [hw2']; exact New.al HN1.out _)
  have HB8v : Hid (Blk w2 g8 52 #[.slice (some ⟨g, o, none⟩) ln lc, .slice lB lm ld]) := Lib.hid (by rw [hw2', hg8]; exact Blk.new _ _ _)
  have HR2 := Lib.hid (show Blk w2 (G + 1) 54 #[.int .i64 0, .slice none 0 0, .slice none 0 0, .slice none 0 0, .slice none 0 0] by rw [hw2']; exact HR1.out.alloc _)
  have HB2 := Lib.hid (show Blk w2 G 54 #[.int .i64 p, .slice a.A a.n a.c, .slice a.B a.m a.d, .slice b.A b.n b.c, .slice b.B b.m b.d] by rw [hw2']; exact HB1.out.alloc _)
  have HGG : Hid (G + 1 < g8) := Lib.hid (by omega)
  go_upto_region 4 with fail
  rw [← hw2', ← hg8]
  clear hw2' hg8 HR1 HB1 hs1
  have d0 : w2.cell? ⟨g8, 0, none⟩ = some (.slice (some ⟨g, o, none⟩) ln lc) := HB8v.out.cell 0
  have d1 : w2.cell? ⟨g8, 1, none⟩ = some (.slice lB lm ld) := HB8v.out.cell 1
  have d2 : w2.cell? ⟨g, o + r, none⟩ = some (.slice yA yn yc) := HN2.out.cell_ HC.out
  have d3 : w2.cell? ⟨G, 0, none⟩ = some (.int .i64 p) := HB2.out.cell 0
  obtain ⟨M, hM⟩ : ∃ M, M = T.length := ⟨_, rfl⟩
  have hlm : lm = M := by rw [hM]; exact H.out.t.len
  have hMN : M ≤ 100000 := by have := HTL.out; omega
  subst hlm
  have ql := fun t => Calls.quiet_of (rcount_q (.slice lB lm ld) T yA yn yc ys (w2.drewN t) ((H.out.t.new HN2.out).new (New.dn (New.refl _) t)) (by rw [← hM]; omega) ((New.dn (New.refl _) t).rd (HN2.out.rd HY.out.1)) HY.out.2.1)
  have hcb := cntR_le T ys
  have hct : Hid (cntR (Rl.mk (some ⟨g, o, none⟩) ln lc F lB lm ld T).T ys = cntR T ys) := Lib.hid rfl
  rw [← hM] at hcb
  have hcb0 := hcb.1
  have hcb1 : cntR T ys ≤ 100000 := by omega
  have HMT := Lib.hid hM
  have HLT := Lib.hid hlt_
  clear hM hcb hlt_
  generalize cntR T ys = ct at ql hcb0 hcb1 HLT hct
  have QL := Lib.hid ql
  clear ql
  have ht : (ct ≥ p - 1) := HLT.out
  have ht' : decide (p - 1 ≤ ct) = true := decide_eq_true ht
  go_quiet ((exact QL.out _))
  have HN2q : Hid (New w (w2.drewN nq)) := Lib.hid (New.dn HN2.out nq)
  have HR2q : Hid (Blk (w2.drewN nq) (G + 1) 54 #[.int .i64 0, .slice none 0 0, .slice none 0 0, .slice none 0 0, .slice none 0 0]) := Lib.hid (Blk.drewN HR2.out nq)
  have HB2q : Hid (Blk (w2.drewN nq) G 54 #[.int .i64 p, .slice a.A a.n a.c, .slice a.B a.m a.d, .slice b.A b.n b.c, .slice b.B b.m b.d]) := Lib.hid (Blk.drewN HB2.out nq)
  go_wp2_with (first | ((with_reducible refine atOp ⟨some 35, .load _ _, _, _, _, _⟩ ?_); refine wpList_load_any rfl _ rfl Try.underlying54 rfl rfl rfl HB2q.out ?_) | ((with_reducible refine atOp ⟨none, .store 54 (.tmp 6) _, _, _, _, _⟩ ?_); refine wpList_store_any rfl (.tmp 6) (.tmp 35) rfl rfl rfl rfl HR2q.out rfl (by simp [rnc, Value.oneCell']) ?_; intro w8 hb8 hf8; have HB8 := Lib.hid hb8; have HF8 := Lib.hid hf8; clear hb8 hf8))
  refine bodyPost_ret (results_row2 rfl _ _ (G + 1) _ _ rfl HB8.out Try.underlying54 rfl rfl) rfl ⟨rfl, ?_⟩
  exact (HN2q.out).fr HF8.out (fun k hk => by have := HG.out; omega)
end Go.Proofs.Ytajoahhjgloefaa
