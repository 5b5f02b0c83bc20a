/- The reference: Lost, a pick's place, Send. (mkref29.py writes this text.) No condition but that all can be read. -/
import Derived.Test.YtajoahhjgloefaaTuB
import Derived.Test.YtajoahhjgloefaaWhole
import Derived.BigRegion
namespace Go.Proofs.Ytajoahhjgloefaa
open Go.RowKit Go.Maps

set_option maxHeartbeats 2000000 in
theorem rlost_in {P Q : Nat → Prop} {N : Nat} (i : Bool) (p : Int) (a b : Rl) (A : Option Addr) (n c : Nat) (xs : List Int) (w : World) (h : RlIn P w N (rsel i a b)) (hl : N ≤ 1000000) (hR : Rd Q w 1 A n (u8s xs)) (hb : Byt xs) :
    Calls Try.prog 24 #[rnv p a b, .int .i64 (wayI i), .slice A n c] w fun e w' => e = .returned (.int .i64 (cntR (rsel i a b).T xs)) ∧ New w w' := by
  have HNN := Lib.hid hl
  have HR := Lib.hid hR
  clear hl
  obtain ⟨l, hl⟩ : ∃ l, l = rsel i a b := ⟨_, rfl⟩
  rw [← hl] at h
  try rw [← hl]
  have HL : Hid (∀ w, Calls Try.prog 39 #[.agg #[.int .i64 p, .slice a.A a.n a.c, .slice a.B a.m a.d, .slice b.A b.n b.c, .slice b.B b.m b.d], .int .i64 (wayI i)] w fun e w' => e = .returned (.tuple #[.agg #[.slice l.A l.n l.c, .slice l.B l.m l.d], .bool true]) ∧ New w w') := Lib.hid (fun w => by rw [hl]; exact rlane_in i p a b w)
  have H := Lib.hid h
  clear hl h hR
  change Calls _ _ #[.agg #[.int .i64 p, .slice a.A a.n a.c, .slice a.B a.m a.d, .slice b.A b.n b.c, .slice b.B b.m b.d], .int .i64 (wayI i), .slice A n c] w _
  go_enter Try.func24, Try.ntmps24
  go_upto_region 1 with fail
  obtain ⟨w0, hw0⟩ : ∃ w0 : World, w0 = (w.alloc (.cells #[.int .i64 p, .slice a.A a.n a.c, .slice a.B a.m a.d, .slice b.A b.n b.c, .slice b.B b.m b.d] 54)) := ⟨_, rfl⟩
  obtain ⟨G, hG⟩ : ∃ G, G = w.heap.size := ⟨_, rfl⟩
  have HN0 : Hid (New w w0) := Lib.hid (by rw [hw0]; repeat (first | exact New.refl _ | refine New.al ?_ _))
  have HB0 : Hid (Blk w0 G 54 #[.int .i64 p, .slice a.A a.n a.c, .slice a.B a.m a.d, .slice b.A b.n b.c, .slice b.B b.m b.d]) := Lib.hid (by rw [hw0, hG]; exact Blk.new _ _ _)
  have HG : Hid (G = w.heap.size) := Lib.hid hG
  go_wp2_with (first | ((with_reducible refine atOp ⟨some 10, .load _ _, _, _, _, _⟩ ?_); refine wpList_load_any rfl _ rfl Try.underlying54 rfl rfl rfl HB0.out ?_))
  rw [← hw0]
  clear hw0 hG
  refine (HL.out w0).mono ?_
  rintro e w1 ⟨rfl, hN1⟩
  have HN1 : Hid (New w w1) := Lib.hid (HN0.out.tr hN1)
  clear hN1
  go_wp2_with fail
  refine (rcount_any _ l.T A n c xs _ ((H.out.t.new HN1.out).new (New.al (New.refl _) _)) (Nat.le_trans H.out.tl HNN.out) ((New.al (New.refl _) _).rd (HN1.out.rd HR.out)) hb).mono ?_
  rintro e w2 ⟨rfl, hN2⟩
  have HN2 : Hid (New w w2) := Lib.hid ((New.al HN1.out _).tr hN2)
  clear hN2
  go_wp2_with fail
  go_ret
  exact ⟨rfl, HN2.out⟩
set_option maxHeartbeats 2000000 in
theorem rlost_bad (p : Int) (a b : Rl) (y : Int) (h1 : ¬ y = 1) (h2 : ¬ y = 2) (v : Value) (w : World) :
    Calls Try.prog 24 #[rnv p a b, .int .i64 y, v] w fun e w' => e = .returned (.int .i64 0) ∧ New w w' := by
  have HL : Hid (∀ w, Calls Try.prog 39 #[.agg #[.int .i64 p, .slice a.A a.n a.c, .slice a.B a.m a.d, .slice b.A b.n b.c, .slice b.B b.m b.d], .int .i64 y] w fun e w' => e = .returned (.tuple #[.agg #[.slice b.A b.n b.c, .slice b.B b.m b.d], .bool false]) ∧ New w w') := Lib.hid (fun w => rlane_bad p a b y h1 h2 w)
  clear h1 h2
  change Calls _ _ #[.agg #[.int .i64 p, .slice a.A a.n a.c, .slice a.B a.m a.d, .slice b.A b.n b.c, .slice b.B b.m b.d], .int .i64 y, v] w _
  go_enter Try.func24, Try.ntmps24
  go_upto_region 1 with fail
  obtain ⟨w0, hw0⟩ : ∃ w0 : World, w0 = (w.alloc (.cells #[.int .i64 p, .slice a.A a.n a.c, .slice a.B a.m a.d, .slice b.A b.n b.c, .slice b.B b.m b.d] 54)) := ⟨_, rfl⟩
  obtain ⟨G, hG⟩ : ∃ G, G = w.heap.size := ⟨_, rfl⟩
  have HN0 : Hid (New w w0) := Lib.hid (by rw [hw0]; repeat (first | exact New.refl _ | refine New.al ?_ _))
  have HB0 : Hid (Blk w0 G 54 #[.int .i64 p, .slice a.A a.n a.c, .slice a.B a.m a.d, .slice b.A b.n b.c, .slice b.B b.m b.d]) := Lib.hid (by rw [hw0, hG]; exact Blk.new _ _ _)
  have HG : Hid (G = w.heap.size) := Lib.hid hG
  go_wp2_with (first | ((with_reducible refine atOp ⟨some 10, .load _ _, _, _, _, _⟩ ?_); refine wpList_load_any rfl _ rfl Try.underlying54 rfl rfl rfl HB0.out ?_))
  rw [← hw0]
  clear hw0 hG
  refine (HL.out w0).mono ?_
  rintro e w1 ⟨rfl, hN1⟩
  have HN1 : Hid (New w w1) := Lib.hid (HN0.out.tr hN1)
  clear hN1
  go_wp2_with fail
  go_ret
  exact ⟨rfl, New.al HN1.out _⟩
set_option maxHeartbeats 2000000 in
theorem rplace_bad (p : Int) (a b : Rl) (y k : Int) (h1 : ¬ y = 1) (h2 : ¬ y = 2) (w : World) :
    Calls Try.prog 34 #[rnv p a b, .int .i64 y, .int .u64 k] w fun e w' => e = .returned (.tuple #[b.val, .int .i64 0, .int .i64 2]) ∧ New w w' := by
  have HL : Hid (∀ w, Calls Try.prog 39 #[.agg #[.int .i64 p, .slice a.A a.n a.c, .slice a.B a.m a.d, .slice b.A b.n b.c, .slice b.B b.m b.d], .int .i64 y] w fun e w' => e = .returned (.tuple #[.agg #[.slice b.A b.n b.c, .slice b.B b.m b.d], .bool false]) ∧ New w w') := Lib.hid (fun w => rlane_bad p a b y h1 h2 w)
  clear h1 h2
  change Calls _ _ #[.agg #[.int .i64 p, .slice a.A a.n a.c, .slice a.B a.m a.d, .slice b.A b.n b.c, .slice b.B b.m b.d], .int .i64 y, .int .u64 k] w _
  go_enter Try.func34, Try.ntmps34
  go_upto_region 1 with fail
  obtain ⟨w0, hw0⟩ : ∃ w0 : World, w0 = ((w.alloc (.cells #[.int .i64 p, .slice a.A a.n a.c, .slice a.B a.m a.d, .slice b.A b.n b.c, .slice b.B b.m b.d] 54)).alloc (.cells #[.slice none 0 0, .slice none 0 0] 52)) := ⟨_, rfl⟩
  obtain ⟨G, hG⟩ : ∃ G, G = w.heap.size := ⟨_, rfl⟩
  have HN0 : Hid (New w w0) := Lib.hid (by rw [hw0]; repeat (first | exact New.refl _ | refine New.al ?_ _))
  have HB0 : Hid (Blk w0 G 54 #[.int .i64 p, .slice a.A a.n a.c, .slice a.B a.m a.d, .slice b.A b.n b.c, .slice b.B b.m b.d]) := Lib.hid (by rw [hw0, hG]; exact (Blk.new _ _ _).alloc _)
  have HR0 : Hid (Blk w0 (G + 1) 52 #[.slice none 0 0, .slice none 0 0]) := Lib.hid (by rw [hw0, hG]; exact Blk.new' _ _ _ (by simp))
  have HG : Hid (G = w.heap.size) := Lib.hid hG
  go_wp2_with (first | ((with_reducible refine atOp ⟨some 12, .load _ _, _, _, _, _⟩ ?_); refine wpList_load_any rfl _ rfl Try.underlying54 rfl rfl rfl HB0.out ?_))
  rw [← hw0, ← hG]
  clear hw0 hG
  refine (HL.out w0).mono ?_
  rintro e w1 ⟨rfl, hN1⟩
  have HN1 : Hid (New w w1) := Lib.hid (HN0.out.tr hN1)
  have HR1 := Lib.hid (hN1.blk HR0.out)
  have HB1 := Lib.hid (hN1.blk HB0.out)
  have hs1 : G + 1 < w1.heap.size := HR1.out.lt
  clear hN1
  go_wp2_with (first | ((with_reducible refine atOp ⟨none, .store 52 (.tmp 6) _, _, _, _, _⟩ ?_); refine wpList_store_any rfl (.tmp 6) (.tmp 19) rfl rfl rfl rfl (HR1.out.alloc _) rfl (by simp [rnc, Value.oneCell']) ?_; intro w8 hb8 hf8; have HB8 := Lib.hid hb8; have HF8 := Lib.hid hf8; clear hb8 hf8))
  refine bodyPost_ret (results_row3 rfl _ _ (G + 1) _ _ rfl HB8.out Try.underlying52 rfl rfl) rfl ⟨rfl, ?_⟩
  exact (New.al HN1.out _).fr HF8.out (fun k hk => by have := HG.out; omega)
set_option maxHeartbeats 2000000 in
theorem rplace_none (i : Bool) (p : Int) (a b : Rl) (k : Int) (w : World) (h : (rsel i a b).n = 0) :
    Calls Try.prog 34 #[rnv p a b, .int .i64 (wayI i), .int .u64 k] w fun e w' => e = .returned (.tuple #[(rsel i a b).val, .int .i64 0, .int .i64 11]) ∧ New w w' := by
  obtain ⟨l, hl⟩ : ∃ l, l = rsel i a b := ⟨_, rfl⟩
  rw [← hl] at h
  try rw [← hl]
  have HL : Hid (∀ w, Calls Try.prog 39 #[.agg #[.int .i64 p, .slice a.A a.n a.c, .slice a.B a.m a.d, .slice b.A b.n b.c, .slice b.B b.m b.d], .int .i64 (wayI i)] w fun e w' => e = .returned (.tuple #[.agg #[.slice l.A l.n l.c, .slice l.B l.m l.d], .bool true]) ∧ New w w') := Lib.hid (fun w => by rw [hl]; exact rlane_in i p a b w)
  clear hl
  obtain ⟨lA, ln, lc, F, lB, lm, ld, T⟩ := l
  dsimp only at h HL
  subst h
  change Calls _ _ #[.agg #[.int .i64 p, .slice a.A a.n a.c, .slice a.B a.m a.d, .slice b.A b.n b.c, .slice b.B b.m b.d], .int .i64 (wayI i), .int .u64 k] w _
  go_enter Try.func34, Try.ntmps34
  go_upto_region 1 with fail
  obtain ⟨w0, hw0⟩ : ∃ w0 : World, w0 = ((w.alloc (.cells #[.int .i64 p, .slice a.A a.n a.c, .slice a.B a.m a.d, .slice b.A b.n b.c, .slice b.B b.m b.d] 54)).alloc (.cells #[.slice none 0 0, .slice none 0 0] 52)) := ⟨_, rfl⟩
  obtain ⟨G, hG⟩ : ∃ G, G = w.heap.size := ⟨_, rfl⟩
  have HN0 : Hid (New w w0) := Lib.hid (by rw [hw0]; repeat (first | exact New.refl _ | refine New.al ?_ _))
  have HB0 : Hid (Blk w0 G 54 #[.int .i64 p, .slice a.A a.n a.c, .slice a.B a.m a.d, .slice b.A b.n b.c, .slice b.B b.m b.d]) := Lib.hid (by rw [hw0, hG]; exact (Blk.new _ _ _).alloc _)
  have HR0 : Hid (Blk w0 (G + 1) 52 #[.slice none 0 0, .slice none 0 0]) := Lib.hid (by rw [hw0, hG]; exact Blk.new' _ _ _ (by simp))
  have HG : Hid (G = w.heap.size) := Lib.hid hG
  go_wp2_with (first | ((with_reducible refine atOp ⟨some 12, .load _ _, _, _, _, _⟩ ?_); refine wpList_load_any rfl _ rfl Try.underlying54 rfl rfl rfl HB0.out ?_))
  rw [← hw0, ← hG]
  clear hw0 hG
  refine (HL.out w0).mono ?_
  rintro e w1 ⟨rfl, hN1⟩
  have HN1 : Hid (New w w1) := Lib.hid (HN0.out.tr hN1)
  have HR1 := Lib.hid (hN1.blk HR0.out)
  have HB1 := Lib.hid (hN1.blk HB0.out)
  have hs1 : G + 1 < w1.heap.size := HR1.out.lt
  clear hN1
  go_wp2_with (first | ((with_reducible refine atOp ⟨none, .store 52 (.tmp 6) _, _, _, _, _⟩ ?_); refine wpList_store_any rfl (.tmp 6) (.tmp 24) rfl rfl rfl rfl (HR1.out.alloc _) rfl (by simp [rnc, Value.oneCell']) ?_; intro w8 hb8 hf8; have HB8 := Lib.hid hb8; have HF8 := Lib.hid hf8; clear hb8 hf8))
  refine bodyPost_ret (results_row3 rfl _ _ (G + 1) _ _ rfl HB8.out Try.underlying52 rfl rfl) rfl ⟨rfl, ?_⟩
  exact (New.al HN1.out _).fr HF8.out (fun k hk => by have := HG.out; omega)
set_option maxHeartbeats 2000000 in
theorem rplace_in (i : Bool) (p : Int) (a b : Rl) (k : Int) (w : World) (hk0 : 0 ≤ k) (hk1 : k < 18446744073709551616) (h : 0 < (rsel i a b).n) (h6 : (rsel i a b).n ≤ 256) :
    Calls Try.prog 34 #[rnv p a b, .int .i64 (wayI i), .int .u64 k] w fun e w' => e = .returned (.tuple #[(rsel i a b).val, .int .i64 ((k.toNat % (rsel i a b).n : Nat) : Int), .int .i64 0]) ∧ New w w' := by
  obtain ⟨l, hl⟩ : ∃ l, l = rsel i a b := ⟨_, rfl⟩
  rw [← hl] at h h6
  try rw [← hl]
  have HL : Hid (∀ w, Calls Try.prog 39 #[.agg #[.int .i64 p, .slice a.A a.n a.c, .slice a.B a.m a.d, .slice b.A b.n b.c, .slice b.B b.m b.d], .int .i64 (wayI i)] w fun e w' => e = .returned (.tuple #[.agg #[.slice l.A l.n l.c, .slice l.B l.m l.d], .bool true]) ∧ New w w') := Lib.hid (fun w => by rw [hl]; exact rlane_in i p a b w)
  clear hl
  obtain ⟨lA, ln, lc, F, lB, lm, ld, T⟩ := l
  dsimp only at h h6 HL ⊢
  have hn0 : ((ln : Int) == 0) = false := by simp; omega
  have hnz : ¬ ln = 0 := by omega
  have hwn : IntKind.u64.wrap (ln : Int) = ln := IntWalk.u64_in _ (by omega)
  have hmod : k.tmod (ln : Int) = ((k.toNat % ln : Nat) : Int) := by
    rw [Int.tmod_eq_emod_of_nonneg hk0]
    obtain ⟨q, rfl⟩ := Int.eq_ofNat_of_zero_le hk0
    simp
  have hlt : k.toNat % ln < ln := Nat.mod_lt _ h
  have hw2 : IntKind.u64.wrap (((k.toNat % ln : Nat) : Int)) = ((k.toNat % ln : Nat) : Int) := IntWalk.u64_in _ (by omega)
  have hw3 : IntKind.i64.wrap (((k.toNat % ln : Nat) : Int)) = ((k.toNat % ln : Nat) : Int) := IntWalk.i64_in _ (by omega)
  generalize k.toNat % ln = r at hmod hlt hw2 hw3 ⊢
  change Calls _ _ #[.agg #[.int .i64 p, .slice a.A a.n a.c, .slice a.B a.m a.d, .slice b.A b.n b.c, .slice b.B b.m b.d], .int .i64 (wayI i), .int .u64 k] w _
  go_enter Try.func34, Try.ntmps34
  go_upto_region 1 with fail
  obtain ⟨w0, hw0⟩ : ∃ w0 : World, w0 = ((w.alloc (.cells #[.int .i64 p, .slice a.A a.n a.c, .slice a.B a.m a.d, .slice b.A b.n b.c, .slice b.B b.m b.d] 54)).alloc (.cells #[.slice none 0 0, .slice none 0 0] 52)) := ⟨_, rfl⟩
  obtain ⟨G, hG⟩ : ∃ G, G = w.heap.size := ⟨_, rfl⟩
  have HN0 : Hid (New w w0) := Lib.hid (by rw [hw0]; repeat (first | exact New.refl _ | refine New.al ?_ _))
  have HB0 : Hid (Blk w0 G 54 #[.int .i64 p, .slice a.A a.n a.c, .slice a.B a.m a.d, .slice b.A b.n b.c, .slice b.B b.m b.d]) := Lib.hid (by rw [hw0, hG]; exact (Blk.new _ _ _).alloc _)
  have HR0 : Hid (Blk w0 (G + 1) 52 #[.slice none 0 0, .slice none 0 0]) := Lib.hid (by rw [hw0, hG]; exact Blk.new' _ _ _ (by simp))
  have HG : Hid (G = w.heap.size) := Lib.hid hG
  go_wp2_with (first | ((with_reducible refine atOp ⟨some 12, .load _ _, _, _, _, _⟩ ?_); refine wpList_load_any rfl _ rfl Try.underlying54 rfl rfl rfl HB0.out ?_))
  rw [← hw0, ← hG]
  clear hw0 hG
  refine (HL.out w0).mono ?_
  rintro e w1 ⟨rfl, hN1⟩
  have HN1 : Hid (New w w1) := Lib.hid (HN0.out.tr hN1)
  have HR1 := Lib.hid (hN1.blk HR0.out)
  have HB1 := Lib.hid (hN1.blk HB0.out)
  have hs1 : G + 1 < w1.heap.size := HR1.out.lt
  clear hN1
  obtain ⟨w2, hw2'⟩ : ∃ w2 : World, w2 = w1.alloc (.cells #[.slice lA ln lc, .slice lB lm ld] 52) := ⟨_, rfl⟩
  obtain ⟨g9, hg9⟩ : ∃ g9, g9 = w1.heap.size := ⟨_, rfl⟩
  have HN2 : Hid (New w w2) := Lib.hid (by rw [hw2']; exact New.al HN1.out _)
  have HB9 : Hid (Blk w2 g9 52 #[.slice lA ln lc, .slice lB lm ld]) := Lib.hid (by rw [hw2', hg9]; exact Blk.new _ _ _)
  have HR2 : Hid (Blk w2 (G + 1) 52 #[.slice none 0 0, .slice none 0 0]) := Lib.hid (by rw [hw2']; exact HR1.out.alloc _)
  go_upto_region 6 with fail
  rw [← hw2', ← hg9]
  clear hw2' hg9 HR1 HB1 hs1
  have d0 : w2.cell? ⟨g9, 0, none⟩ = some (.slice lA ln lc) := HB9.out.cell 0
  have d1 : w2.cell? ⟨g9, 1, none⟩ = some (.slice lB lm ld) := HB9.out.cell 1
  have f0 : w2.cell? ⟨G + 1, 0, none⟩ = some (.slice none 0 0) := HR2.out.cell 0
  have f1 : w2.cell? ⟨G + 1, 1, none⟩ = some (.slice none 0 0) := HR2.out.cell 1
  have z0 : w2.frozen? ⟨G + 1, 0, none⟩ = false := HR2.out.frozen 0
  have z1 : w2.frozen? ⟨G + 1, 1, none⟩ = false := HR2.out.frozen 1
  have hne : ¬ g9 = G + 1 := fun e => by have := HB9.out; have := HR2.out; rw [e] at HB9; have h := HB9.out; unfold Blk at *; simp_all
  go_region
  all_goals
    go_wp2_with fail
    refine bodyPost_ret (results_row3 rfl _ _ (G + 1) _ _ rfl (blk_set2 (Blk.drew HR2.out) _ _) Try.underlying52 rfl rfl) rfl ⟨rfl, ?_⟩
    exact (New.dr HN2.out).fr (Fr.set2 (Fr.refl (fun k => k = G + 1) _) (fun _ => rfl) _ _) (fun k hk => by have := HG.out; omega)
set_option maxHeartbeats 2000000 in
theorem rsend_bad (p : Int) (a b : Rl) (y : Int) (h1 : ¬ y = 1) (h2 : ¬ y = 2) (v : Value) (w : World) :
    Calls Try.prog 21 #[rnv p a b, .int .i64 y, v] w fun e w' => e = .returned (.tuple #[rnv p a b, .int .i64 2]) ∧ New w w' := by
  have HL : Hid (∀ w, Calls Try.prog 39 #[.agg #[.int .i64 p, .slice a.A a.n a.c, .slice a.B a.m a.d, .slice b.A b.n b.c, .slice b.B b.m b.d], .int .i64 y] w fun e w' => e = .returned (.tuple #[.agg #[.slice b.A b.n b.c, .slice b.B b.m b.d], .bool false]) ∧ New w w') := Lib.hid (fun w => rlane_bad p a b y h1 h2 w)
  clear h1 h2
  change Calls _ _ #[.agg #[.int .i64 p, .slice a.A a.n a.c, .slice a.B a.m a.d, .slice b.A b.n b.c, .slice b.B b.m b.d], .int .i64 y, v] w _
  go_enter Try.func21, Try.ntmps21
  go_upto_region 1 with fail
  obtain ⟨w0, hw0⟩ : ∃ w0 : World, w0 = ((w.alloc (.cells #[.int .i64 p, .slice a.A a.n a.c, .slice a.B a.m a.d, .slice b.A b.n b.c, .slice b.B b.m b.d] 54)).alloc (.cells #[.int .i64 0, .slice none 0 0, .slice none 0 0, .slice none 0 0, .slice none 0 0] 54)) := ⟨_, rfl⟩
  obtain ⟨G, hG⟩ : ∃ G, G = w.heap.size := ⟨_, rfl⟩
  have HN0 : Hid (New w w0) := Lib.hid (by rw [hw0]; repeat (first | exact New.refl _ | refine New.al ?_ _))
  have HB0 : Hid (Blk w0 G 54 #[.int .i64 p, .slice a.A a.n a.c, .slice a.B a.m a.d, .slice b.A b.n b.c, .slice b.B b.m b.d]) := Lib.hid (by rw [hw0, hG]; exact (Blk.new _ _ _).alloc _)
  have HR0 : Hid (Blk w0 (G + 1) 54 #[.int .i64 0, .slice none 0 0, .slice none 0 0, .slice none 0 0, .slice none 0 0]) := Lib.hid (by rw [hw0, hG]; exact Blk.new' _ _ _ (by simp))
  have HG : Hid (G = w.heap.size) := Lib.hid hG
  go_wp2_with (first | ((with_reducible refine atOp ⟨some 11, .load _ _, _, _, _, _⟩ ?_); refine wpList_load_any rfl _ rfl Try.underlying54 rfl rfl rfl HB0.out ?_))
  rw [← hw0, ← hG]
  clear hw0 hG
  refine (HL.out w0).mono ?_
  rintro e w1 ⟨rfl, hN1⟩
  have HN1 : Hid (New w w1) := Lib.hid (HN0.out.tr hN1)
  have HR1 := Lib.hid (hN1.blk HR0.out)
  have HB1 := Lib.hid (hN1.blk HB0.out)
  have hs1 : G + 1 < w1.heap.size := HR1.out.lt
  clear hN1
  go_wp2_with (first | ((with_reducible refine atOp ⟨some 18, .load _ _, _, _, _, _⟩ ?_); refine wpList_load_any rfl _ rfl Try.underlying54 rfl rfl rfl (HB1.out.alloc _) ?_) | ((with_reducible refine atOp ⟨none, .store 54 (.tmp 6) _, _, _, _, _⟩ ?_); refine wpList_store_any rfl (.tmp 6) (.tmp 18) rfl rfl rfl rfl (HR1.out.alloc _) rfl (by simp [rnc, Value.oneCell']) ?_; intro w8 hb8 hf8; have HB8 := Lib.hid hb8; have HF8 := Lib.hid hf8; clear hb8 hf8))
  refine bodyPost_ret (results_row2 rfl _ _ (G + 1) _ _ rfl HB8.out Try.underlying54 rfl rfl) rfl ⟨rfl, ?_⟩
  exact (New.al HN1.out _).fr HF8.out (fun k hk => by have := HG.out; omega)
set_option maxHeartbeats 2000000 in
theorem rsend_full (i : Bool) (p : Int) (a b : Rl) (v : Value) (w : World) (h : (rsel i a b).n = 256) :
    Calls Try.prog 21 #[rnv p a b, .int .i64 (wayI i), v] w fun e w' => e = .returned (.tuple #[rnv p a b, .int .i64 12]) ∧ New w w' := by
  obtain ⟨l, hl⟩ : ∃ l, l = rsel i a b := ⟨_, rfl⟩
  rw [← hl] at h
  try rw [← hl]
  have HL : Hid (∀ w, Calls Try.prog 39 #[.agg #[.int .i64 p, .slice a.A a.n a.c, .slice a.B a.m a.d, .slice b.A b.n b.c, .slice b.B b.m b.d], .int .i64 (wayI i)] w fun e w' => e = .returned (.tuple #[.agg #[.slice l.A l.n l.c, .slice l.B l.m l.d], .bool true]) ∧ New w w') := Lib.hid (fun w => by rw [hl]; exact rlane_in i p a b w)
  clear hl
  obtain ⟨lA, ln, lc, F, lB, lm, ld, T⟩ := l
  dsimp only at h HL
  subst h
  change Calls _ _ #[.agg #[.int .i64 p, .slice a.A a.n a.c, .slice a.B a.m a.d, .slice b.A b.n b.c, .slice b.B b.m b.d], .int .i64 (wayI i), v] w _
  go_enter Try.func21, Try.ntmps21
  go_upto_region 1 with fail
  obtain ⟨w0, hw0⟩ : ∃ w0 : World, w0 = ((w.alloc (.cells #[.int .i64 p, .slice a.A a.n a.c, .slice a.B a.m a.d, .slice b.A b.n b.c, .slice b.B b.m b.d] 54)).alloc (.cells #[.int .i64 0, .slice none 0 0, .slice none 0 0, .slice none 0 0, .slice none 0 0] 54)) := ⟨_, rfl⟩
  obtain ⟨G, hG⟩ : ∃ G, G = w.heap.size := ⟨_, rfl⟩
  have HN0 : Hid (New w w0) := Lib.hid (by rw [hw0]; repeat (first | exact New.refl _ | refine New.al ?_ _))
  have HB0 : Hid (Blk w0 G 54 #[.int .i64 p, .slice a.A a.n a.c, .slice a.B a.m a.d, .slice b.A b.n b.c, .slice b.B b.m b.d]) := Lib.hid (by rw [hw0, hG]; exact (Blk.new _ _ _).alloc _)
  have HR0 : Hid (Blk w0 (G + 1) 54 #[.int .i64 0, .slice none 0 0, .slice none 0 0, .slice none 0 0, .slice none 0 0]) := Lib.hid (by rw [hw0, hG]; exact Blk.new' _ _ _ (by simp))
  have HG : Hid (G = w.heap.size) := Lib.hid hG
  go_wp2_with (first | ((with_reducible refine atOp ⟨some 11, .load _ _, _, _, _, _⟩ ?_); refine wpList_load_any rfl _ rfl Try.underlying54 rfl rfl rfl HB0.out ?_))
  rw [← hw0, ← hG]
  clear hw0 hG
  refine (HL.out w0).mono ?_
  rintro e w1 ⟨rfl, hN1⟩
  have HN1 : Hid (New w w1) := Lib.hid (HN0.out.tr hN1)
  have HR1 := Lib.hid (hN1.blk HR0.out)
  have HB1 := Lib.hid (hN1.blk HB0.out)
  have hs1 : G + 1 < w1.heap.size := HR1.out.lt
  clear hN1
  go_wp2_with (first | ((with_reducible refine atOp ⟨some 23, .load _ _, _, _, _, _⟩ ?_); refine wpList_load_any rfl _ rfl Try.underlying54 rfl rfl rfl (HB1.out.alloc _) ?_) | ((with_reducible refine atOp ⟨none, .store 54 (.tmp 6) _, _, _, _, _⟩ ?_); refine wpList_store_any rfl (.tmp 6) (.tmp 23) rfl rfl rfl rfl (HR1.out.alloc _) rfl (by simp [rnc, Value.oneCell']) ?_; intro w8 hb8 hf8; have HB8 := Lib.hid hb8; have HF8 := Lib.hid hf8; clear hb8 hf8))
  refine bodyPost_ret (results_row2 rfl _ _ (G + 1) _ _ rfl HB8.out Try.underlying54 rfl rfl) rfl ⟨rfl, ?_⟩
  exact (New.al HN1.out _).fr HF8.out (fun k hk => by have := HG.out; omega)
theorem Rd.lt {p : Nat → Prop} {w : World} {size n : Nat} {A : Option Addr} {xs : List Value} (h : Rd p w size A n xs) : Rd (fun k => p k ∧ k < w.heap.size) w size A n xs := by
  refine ⟨h.1, fun hn => ?_⟩
  obtain ⟨ad, e, hp, hl, hc⟩ := h.2 hn
  exact ⟨ad, e, ⟨hp, hl⟩, hl, hc⟩
theorem RsIn.lt {P : Nat → Prop} {W : World} {v : Value} {L : List Fm} (h : RsIn P W v L) : RsIn (fun k => P k ∧ k < W.heap.size) W v L := by
  obtain ⟨⟨A, c, e, hc, hr⟩, h2⟩ := h
  exact ⟨⟨A, c, e, hc, hr.lt⟩, fun x hx => ⟨(h2 x hx).1.lt, (h2 x hx).2⟩⟩
theorem RlIn.lt {P : Nat → Prop} {W : World} {N : Nat} {r : Rl} (h : RlIn P W N r) : RlIn (fun k => P k ∧ k < W.heap.size) W N r := ⟨h.f.lt, h.t.lt, h.fl, h.tl⟩
theorem RsIn.len {P : Nat → Prop} {W : World} {A : Option Addr} {n c : Nat} {L : List Fm} (h : RsIn P W (.slice A n c) L) : n = L.length := by
  obtain ⟨⟨A', c', e, hc, hr⟩, -⟩ := h
  injection e
set_option maxHeartbeats 4000000 in
theorem rsend_in {P : Nat → Prop} {N : Nat} (i : Bool) (p : Int) (a b : Rl) (y : Fm) (w : World) (h : RlIn P w N (rsel i a b)) (hf : (rsel i a b).F.length < 256) (hy : Rd P w 1 y.A y.n (u8s y.xs) ∧ Byt y.xs ∧ y.n ≤ 1000) :
    Calls Try.prog 21 #[rnv p a b, .int .i64 (wayI i), y.val] w fun e w' => ∃ x : Rl, e = .returned (.tuple #[rnv p (rput1 i a x) (rput2 i b x), .int .i64 0]) ∧ RlIn (fun k => P k ∨ w.heap.size ≤ k) w' N x ∧ x.F = (rsel i a b).F ++ [y] ∧ x.T = (rsel i a b).T ∧ New w w' := by
  obtain ⟨l, hl⟩ : ∃ l, l = rsel i a b := ⟨_, rfl⟩
  rw [← hl] at h hf
  try rw [← hl]
  have HL : Hid (∀ w, Calls Try.prog 39 #[.agg #[.int .i64 p, .slice a.A a.n a.c, .slice a.B a.m a.d, .slice b.A b.n b.c, .slice b.B b.m b.d], .int .i64 (wayI i)] w fun e w' => e = .returned (.tuple #[.agg #[.slice l.A l.n l.c, .slice l.B l.m l.d], .bool true]) ∧ New w w') := Lib.hid (fun w => by rw [hl]; exact rlane_in i p a b w)
  clear hl
  have H := Lib.hid h.lt
  have hln := h.f.len
  have hN := h.tl
  have HY := Lib.hid (show Rd (fun k => P k ∧ k < w.heap.size) w 1 y.A y.n (u8s y.xs) ∧ Byt y.xs ∧ y.n ≤ 1000 from ⟨hy.1.lt, hy.2⟩)
  have HTL := Lib.hid hN
  clear h hy hN
  obtain ⟨lA, ln, lc, F, lB, lm, ld, T⟩ := l
  dsimp only at H hf HL hln HTL ⊢
  have hn6 : ((ln : Int) == 256) = false := by simp; omega
  have hf6 : Hid (F.length < 256) := Lib.hid hf
  clear hln hf
  change Calls _ _ #[.agg #[.int .i64 p, .slice a.A a.n a.c, .slice a.B a.m a.d, .slice b.A b.n b.c, .slice b.B b.m b.d], .int .i64 (wayI i), y.val] w _
  go_enter Try.func21, Try.ntmps21
  go_upto_region 1 with fail
  obtain ⟨w0, hw0⟩ : ∃ w0 : World, w0 = ((w.alloc (.cells #[.int .i64 p, .slice a.A a.n a.c, .slice a.B a.m a.d, .slice b.A b.n b.c, .slice b.B b.m b.d] 54)).alloc (.cells #[.int .i64 0, .slice none 0 0, .slice none 0 0, .slice none 0 0, .slice none 0 0] 54)) := ⟨_, rfl⟩
  obtain ⟨G, hG⟩ : ∃ G, G = w.heap.size := ⟨_, rfl⟩
  have HN0 : Hid (New w w0) := Lib.hid (by rw [hw0]; repeat (first | exact New.refl _ | refine New.al ?_ _))
  have HB0 : Hid (Blk w0 G 54 #[.int .i64 p, .slice a.A a.n a.c, .slice a.B a.m a.d, .slice b.A b.n b.c, .slice b.B b.m b.d]) := Lib.hid (by rw [hw0, hG]; exact (Blk.new _ _ _).alloc _)
  have HR0 : Hid (Blk w0 (G + 1) 54 #[.int .i64 0, .slice none 0 0, .slice none 0 0, .slice none 0 0, .slice none 0 0]) := Lib.hid (by rw [hw0, hG]; exact Blk.new' _ _ _ (by simp))
  have HG : Hid (G = w.heap.size) := Lib.hid hG
  go_wp2_with (first | ((with_reducible refine atOp ⟨some 11, .load _ _, _, _, _, _⟩ ?_); refine wpList_load_any rfl _ rfl Try.underlying54 rfl rfl rfl HB0.out ?_))
  rw [← hw0, ← hG]
  clear hw0 hG
  refine (HL.out w0).mono ?_
  rintro e w1 ⟨rfl, hN1⟩
  have HN1 : Hid (New w w1) := Lib.hid (HN0.out.tr hN1)
  have HR1 := Lib.hid (hN1.blk HR0.out)
  have HB1 := Lib.hid (hN1.blk HB0.out)
  have hs1 : G + 1 < w1.heap.size := HR1.out.lt
  clear hN1
  obtain ⟨w2, hw2'⟩ : ∃ w2 : World, w2 = w1.alloc (.cells #[.slice lA ln lc, .slice lB lm ld] 52) := ⟨_, rfl⟩
  obtain ⟨g8, hg8⟩ : ∃ g8, g8 = w1.heap.size := ⟨_, rfl⟩
  have HN2 : Hid (New w w2) := Lib.hid (by rw [hw2']; exact New.al HN1.out _)
  have HB8v : Hid (Blk w2 g8 52 #[.slice lA ln lc, .slice lB lm ld]) := Lib.hid (by rw [hw2', hg8]; exact Blk.new _ _ _)
  have HR2 := Lib.hid (show Blk w2 (G + 1) 54 #[.int .i64 0, .slice none 0 0, .slice none 0 0, .slice none 0 0, .slice none 0 0] by rw [hw2']; exact HR1.out.alloc _)
  have HB2 := Lib.hid (show Blk w2 G 54 #[.int .i64 p, .slice a.A a.n a.c, .slice a.B a.m a.d, .slice b.A b.n b.c, .slice b.B b.m b.d] by rw [hw2']; exact HB1.out.alloc _)
  have HGG : Hid (G + 1 < g8) := Lib.hid (by omega)
  go_upto_region 6 with fail
  rw [← hw2', ← hg8]
  clear hw2' hg8 HR1 HB1 hs1
  have d0 : w2.cell? ⟨g8, 0, none⟩ = some (.slice lA ln lc) := HB8v.out.cell 0
  have HM := Lib.hid (rmore_any _ F y w2 (H.out.f.new HN2.out) (by have := hf6.out; omega) ⟨HN2.out.rd HY.out.1, HY.out.2⟩)
  clear hn6
  go_wp2_with fail
  refine HM.out.mono ?_
  rintro e w3 ⟨⟨v', rfl, hR'⟩, hN3⟩
  obtain ⟨A', c', rfl, hc', -⟩ := hR'.sl
  obtain ⟨n', hn'⟩ : ∃ n', n' = (F ++ [y]).length := ⟨_, rfl⟩
  rw [← hn'] at hR' ⊢
  have HR' := Lib.hid hR'
  have HB3 := Lib.hid (hN3.blk HB8v.out)
  have HR3 := Lib.hid (hN3.blk HR2.out)
  have HBN3 := Lib.hid (hN3.blk HB2.out)
  have HN3 := Lib.hid (HN2.out.tr hN3)
  have H3s := Lib.hid hN3.size
  have e0 : w3.cell? ⟨g8, 0, none⟩ = some (.slice lA ln lc) := HB3.out.cell 0
  have z0 : w3.frozen? ⟨g8, 0, none⟩ = false := HB3.out.frozen 0
  clear hR' hN3 hn' hc' d0
  go_upto_region 7 with fail
  obtain ⟨w4, hw4⟩ : ∃ w4 : World, w4 = w3.setCell ⟨g8, 0, none⟩ (.slice A' n' c') := ⟨_, rfl⟩
  have hF4 : Fr (fun k => k = g8) w3 w4 := hw4 ▸ (Fr.refl (fun k => k = g8) w3).setCell (p := ⟨g8, 0, none⟩) (fun _ => rfl) _
  have HB4 : Hid (Blk w4 g8 52 #[.slice A' n' c', .slice lB lm ld]) := Lib.hid (by rw [hw4]; exact HB3.out.set 0 _)
  have HR4 := Lib.hid (HR3.out.fr hF4 (by have := HGG.out; omega))
  have HBN4 := Lib.hid (HBN3.out.fr hF4 (by have := HGG.out; omega))
  have HN4 := Lib.hid (HN3.out.fr hF4 (fun k hk => by have := HGG.out; have := HG.out; omega))
  have HF4 := Lib.hid hF4
  rw [← hw4]
  clear hw4 hF4 e0 z0
  go_wp2_with (first | ((with_reducible refine atOp ⟨some 29, .load _ _, _, _, _, _⟩ ?_); refine wpList_load_any rfl _ rfl Try.underlying54 rfl rfl rfl HBN4.out ?_) | ((with_reducible refine atOp ⟨some 31, .load _ _, _, _, _, _⟩ ?_); refine wpList_load_any rfl _ rfl Try.underlying52 rfl rfl rfl HB4.out ?_))
  refine (rwith_in i p a b ⟨A', n', c', F ++ [y], lB, lm, ld, T⟩ w4).mono ?_
  rintro e w5 ⟨rfl, hN5⟩
  have HR5 := Lib.hid (hN5.blk HR4.out)
  have HN5 := Lib.hid hN5
  clear hN5
  unfold rnv
  go_wp2_with (first | ((with_reducible refine atOp ⟨none, .store 54 (.tmp 6) _, _, _, _, _⟩ ?_); refine wpList_store_any rfl (.tmp 6) (.tmp 32) rfl rfl rfl rfl HR5.out rfl (by simp [rnc, Value.oneCell']) ?_; intro w8 hb8 hf8; have HB8 := Lib.hid hb8; have HF8 := Lib.hid hf8; clear hb8 hf8))
  refine bodyPost_ret (results_row2 rfl _ _ (G + 1) _ _ rfl HB8.out Try.underlying54 rfl rfl) rfl ?_
  have hg1 := HG.out
  have hgg := HGG.out
  have h2s := HN2.out.size
  have hg8 := HB8v.out.lt
  refine ⟨⟨A', n', c', F ++ [y], lB, lm, ld, T⟩, rfl, ⟨?_, ?_, ?_, HTL.out⟩, rfl, rfl, (HN4.out.tr HN5.out).fr HF8.out (fun k hk => by omega)⟩
  · refine (((HR'.out.fr HF4.out ?_).new HN5.out).fr HF8.out ?_).imp ?_
    · rintro k (⟨_, h⟩ | h) <;> omega
    · rintro k (⟨_, h⟩ | h) <;> omega
    · rintro k (⟨h, _⟩ | h)
      · exact .inl h
      · exact .inr (by omega)
  · refine ((((H.out.t.new HN3.out).fr HF4.out ?_).new HN5.out).fr HF8.out ?_).imp fun k h => .inl h.1
    · rintro k ⟨_, h⟩; omega
    · rintro k ⟨_, h⟩; omega
  · show (F ++ [y]).length ≤ 256
    have := hf6.out
    simp; omega
end Go.Proofs.Ytajoahhjgloefaa
