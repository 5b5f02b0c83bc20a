/- The reference: Lose, Twice, where they do something. (mkref29d.py writes this text.) No condition but that all can be read. -/
import Derived.Test.YtajoahhjgloefaaTuD
namespace Go.Proofs.Ytajoahhjgloefaa
open Go.RowKit Go.Maps

set_option maxHeartbeats 8000000 in
theorem rlose_in {P : Nat → Prop} {N : Nat} (i : Bool) (p : Int) (a b : Rl) (k : Int) (y : Fm) (w : World) (hp0 : 0 ≤ p) (hp1 : p ≤ 64) (hk0 : 0 ≤ k) (hk1 : k < 18446744073709551616) (h : RlIn P w N (rsel i a b)) (hNN : N ≤ 100000) (hy : (rsel i a b).F[k.toNat % (rsel i a b).F.length]? = some y) (hlt_ : cntR (rsel i a b).T y.xs < p - 1) :
    Calls Try.prog 19 #[rnv p a b, .int .i64 (wayI i), .int .u64 k] w fun e w' => ∃ x : Rl, e = .returned (.tuple #[rnv p (rput1 i a x) (rput2 i b x), .int .i64 0]) ∧ RlIn (fun k => P k ∨ w.heap.size ≤ k) w' (N + 1) x ∧ x.F = (rsel i a b).F.eraseIdx (k.toNat % (rsel i a b).F.length) ∧ x.T = (rsel i a b).T ++ [y] ∧ New w w' := by
  obtain ⟨l, hl⟩ : ∃ l, l = rsel i a b := ⟨_, rfl⟩
  rw [← hl] at h hy hlt_
  try rw [← hl]
  have hln := h.f.len
  have h6 := h.fl
  have hn0 : 0 < l.F.length := by
    rcases Nat.eq_zero_or_pos l.F.length with e | e
    · rw [List.eq_nil_of_length_eq_zero e] at hy
      simp at hy
    · exact e
  have HL : Hid (∀ w, Calls Try.prog 34 #[.agg #[.int .i64 p, .slice a.A a.n a.c, .slice a.B a.m a.d, .slice b.A b.n b.c, .slice b.B b.m b.d], .int .i64 (wayI i), .int .u64 k] w fun e w' => e = .returned (.tuple #[.agg #[.slice l.A l.n l.c, .slice l.B l.m l.d], .int .i64 ((k.toNat % l.F.length : Nat) : Int), .int .i64 0]) ∧ New w w') := Lib.hid (fun w => by
    have hp := rplace_in i p a b k w hk0 hk1 (by rw [← hl, hln]; exact hn0) (by rw [← hl, hln]; exact h6)
    rw [← hl, hln] at hp
    exact hln ▸ hp)
  clear hl
  have hrl : k.toNat % l.F.length < l.F.length := Nat.mod_lt _ hn0
  generalize k.toNat % l.F.length = r at hy hrl HL ⊢
  have H := Lib.hid h.lt
  have HTL := Lib.hid h.tl
  have hat := RsIn.at (h.lt.f) (by omega) hrl
  have hye : l.F[r] = y := by
    rw [List.getElem?_eq_getElem hrl] at hy
    exact Option.some.inj hy
  rw [hye] at hat
  have hry := h.lt.f.el y (hye ▸ List.getElem_mem _)
  have HY := Lib.hid hry
  have hfl := h.fl
  clear h hy hye hn0 hry h6
  obtain ⟨lA, ln, lc, F, lB, lm, ld, T⟩ := l
  dsimp only at H hat hrl hfl HL hln HTL ⊢
  subst hln
  obtain ⟨g, o, c', e, hcc, hcell⟩ := hat
  injection e with e1 e2 e3
  subst e1
  have HC := Lib.hid hcell
  obtain ⟨yA, yn, yc, ys⟩ := y
  have HFL := Lib.hid hfl
  clear hcell e2 e3 hfl
  simp only [Fm.val] at HC ⊢
  obtain ⟨ln, hln⟩ : ∃ ln, ln = F.length := ⟨_, rfl⟩
  rw [← hln] at hrl hcc HL
  have HLN := Lib.hid hln
  try rw [← hln]
  clear hln
  dsimp only at hlt_
  change Calls _ _ #[.agg #[.int .i64 p, .slice a.A a.n a.c, .slice a.B a.m a.d, .slice b.A b.n b.c, .slice b.B b.m b.d], .int .i64 (wayI i), .int .u64 k] w _
  go_enter Try.func19, Try.ntmps19
  go_upto_region 1 with fail
  obtain ⟨w0, hw0⟩ : ∃ w0 : World, w0 = ((w.alloc (.cells #[.int .i64 p, .slice a.A a.n a.c, .slice a.B a.m a.d, .slice b.A b.n b.c, .slice b.B b.m b.d] 54)).alloc (.cells #[.int .i64 0, .slice none 0 0, .slice none 0 0, .slice none 0 0, .slice none 0 0] 54)) := ⟨_, rfl⟩
  obtain ⟨G, hG⟩ : ∃ G, G = w.heap.size := ⟨_, rfl⟩
  have HN0 : Hid (New w w0) := Lib.hid (by rw [hw0]; repeat (first | exact New.refl _ | refine New.al ?_ _))
  have HB0 : Hid (Blk w0 G 54 #[.int .i64 p, .slice a.A a.n a.c, .slice a.B a.m a.d, .slice b.A b.n b.c, .slice b.B b.m b.d]) := Lib.hid (by rw [hw0, hG]; exact (Blk.new _ _ _).alloc _)
  have HR0 : Hid (Blk w0 (G + 1) 54 #[.int .i64 0, .slice none 0 0, .slice none 0 0, .slice none 0 0, .slice none 0 0]) := Lib.hid (by rw [hw0, hG]; exact Blk.new' _ _ _ (by simp))
  have HG : Hid (G = w.heap.size) := Lib.hid hG
  go_wp2_with (first | ((with_reducible refine atOp ⟨some 12, .load _ _, _, _, _, _⟩ ?_); refine wpList_load_any rfl _ rfl Try.underlying54 rfl rfl rfl HB0.out ?_))
  rw [← hw0, ← hG]
  clear hw0 hG
  refine (HL.out w0).mono ?_
  rintro e w1 ⟨rfl, hN1⟩
  have HN1 : Hid (New w w1) := Lib.hid (HN0.out.tr hN1)
  have HR1 := Lib.hid (hN1.blk HR0.out)
  have HB1 := Lib.hid (hN1.blk HB0.out)
  have hs1 : G + 1 < w1.heap.size := HR1.out.lt
  clear hN1
  obtain ⟨w2, hw2'⟩ : ∃ w2 : World, w2 = w1.alloc (.cells #[.slice (some ⟨g, o, none⟩) ln lc, .slice lB lm ld] 52) := ⟨_, rfl⟩
  obtain ⟨g8, hg8⟩ : ∃ g8, g8 = w1.heap.size := ⟨_, rfl⟩
  have HN2 : Hid (New w w2) := Lib.hid (by rw [hw2']; exact New.al HN1.out _)
  have HB8v : Hid (Blk w2 g8 52 #[.slice (some ⟨g, o, none⟩) ln lc, .slice lB lm ld]) := Lib.hid (by rw [hw2', hg8]; exact Blk.new _ _ _)
  have HR2 := Lib.hid (show Blk w2 (G + 1) 54 #[.int .i64 0, .slice none 0 0, .slice none 0 0, .slice none 0 0, .slice none 0 0] by rw [hw2']; exact HR1.out.alloc _)
  have HB2 := Lib.hid (show Blk w2 G 54 #[.int .i64 p, .slice a.A a.n a.c, .slice a.B a.m a.d, .slice b.A b.n b.c, .slice b.B b.m b.d] by rw [hw2']; exact HB1.out.alloc _)
  have HGG : Hid (G + 1 < g8) := Lib.hid (by omega)
  go_upto_region 4 with fail
  rw [← hw2', ← hg8]
  clear hw2' hg8 HR1 HB1 hs1
  have d0 : w2.cell? ⟨g8, 0, none⟩ = some (.slice (some ⟨g, o, none⟩) ln lc) := HB8v.out.cell 0
  have d1 : w2.cell? ⟨g8, 1, none⟩ = some (.slice lB lm ld) := HB8v.out.cell 1
  have d2 : w2.cell? ⟨g, o + r, none⟩ = some (.slice yA yn yc) := HN2.out.cell_ HC.out
  have d3 : w2.cell? ⟨G, 0, none⟩ = some (.int .i64 p) := HB2.out.cell 0
  obtain ⟨M, hM⟩ : ∃ M, M = T.length := ⟨_, rfl⟩
  have hlm : lm = M := by rw [hM]; exact H.out.t.len
  have hMN : M ≤ 100000 := by have := HTL.out; omega
  subst hlm
  have ql := fun t => Calls.quiet_of (rcount_q (.slice lB lm ld) T yA yn yc ys (w2.drewN t) ((H.out.t.new HN2.out).new (New.dn (New.refl _) t)) (by rw [← hM]; omega) ((New.dn (New.refl _) t).rd (HN2.out.rd HY.out.1)) HY.out.2.1)
  have hcb := cntR_le T ys
  have hct : Hid (cntR (Rl.mk (some ⟨g, o, none⟩) ln lc F lB lm ld T).T ys = cntR T ys) := Lib.hid rfl
  rw [← hM] at hcb
  have hcb0 := hcb.1
  have hcb1 : cntR T ys ≤ 100000 := by omega
  have HMT := Lib.hid hM
  have HLT := Lib.hid hlt_
  clear hM hcb hlt_
  generalize cntR T ys = ct at ql hcb0 hcb1 HLT hct
  have QL := Lib.hid ql
  clear ql
  have ht : ¬ (ct ≥ p - 1) := by have := HLT.out; omega
  have ht' : decide (p - 1 ≤ ct) = false := decide_eq_false ht
  go_quiet ((exact QL.out _))
  obtain ⟨w9, hw9⟩ : ∃ w9 : World, w9 = w2.drewN nq := ⟨_, rfl⟩
  have HN9 : Hid (New w w9) := Lib.hid (by rw [hw9]; exact New.dn HN2.out nq)
  have HR9 : Hid (Blk w9 (G + 1) 54 #[.int .i64 0, .slice none 0 0, .slice none 0 0, .slice none 0 0, .slice none 0 0]) := Lib.hid (by rw [hw9]; exact Blk.drewN HR2.out nq)
  have HBN9 : Hid (Blk w9 G 54 #[.int .i64 p, .slice a.A a.n a.c, .slice a.B a.m a.d, .slice b.A b.n b.c, .slice b.B b.m b.d]) := Lib.hid (by rw [hw9]; exact Blk.drewN HB2.out nq)
  have HB9 : Hid (Blk w9 g8 52 #[.slice (some ⟨g, o, none⟩) ln lc, .slice lB lm ld]) := Lib.hid (by rw [hw9]; exact Blk.drewN HB8v.out nq)
  rw [← hw9]
  clear hw9 d0 d1 d2 d3 HR2 HB2 HB8v QL ht ht'
  have d0 : w9.cell? ⟨g8, 0, none⟩ = some (.slice (some ⟨g, o, none⟩) ln lc) := HB9.out.cell 0
  have d1 : w9.cell? ⟨g8, 1, none⟩ = some (.slice lB lm ld) := HB9.out.cell 1
  have d2 : w9.cell? ⟨g, o + r, none⟩ = some (.slice yA yn yc) := HN9.out.cell_ HC.out
  have hmore := Lib.hid (fun (w : World) (h : New w9 w) => rmore_any (.slice lB lm ld) T ⟨yA, yn, yc, ys⟩ w ((H.out.t.new HN9.out).new h) (by rw [← HMT.out]; omega) ⟨h.rd (HN9.out.rd HY.out.1), HY.out.2⟩)
  simp only [Fm.val] at hmore
  go_wp2_with fail
  go_region_with (go_at_call 38; refine (hmore.out _ (by repeat (first | exact New.refl _ | refine New.dr ?_))).mono ?_; rintro e w3 ⟨⟨v', rfl, hR'⟩, hN3⟩; obtain ⟨A', c', rfl, hc', -⟩ := hR'.sl; have HR' := Lib.hid hR'; have HN3 := Lib.hid hN3; have e1 : w3.cell? ⟨g8, 1, none⟩ = some (.slice lB lm ld) := HN3.out.cell_ (HB9.out.cell 1); have z1 : w3.frozen? ⟨g8, 1, none⟩ = false := (HN3.out.blk HB9.out).frozen 1; clear hR' hN3)
  all_goals
    obtain ⟨m', hm'⟩ : ∃ m', m' = T.length + 1 := ⟨_, rfl⟩
    have HR' := Lib.hid (show RsIn _ w3 (.slice A' m' c') (T ++ [⟨yA, yn, yc, ys⟩]) by rw [hm']; simpa using HR'.out)
    rw [← hm']
    have HMP := Lib.hid hm'
    have hN3' := (New.dr (New.refl w9)).tr HN3.out
    have HB3 := Lib.hid (hN3'.blk HB9.out)
    have HR3 := Lib.hid (hN3'.blk HR9.out)
    have HBN3 := Lib.hid (hN3'.blk HBN9.out)
    have H3s := Lib.hid hN3'.size
    have HN3o := Lib.hid hN3'
    have HN3 := Lib.hid (HN9.out.tr hN3')
    clear hm' hN3' hmore hc' hct HLT d0 d1 d2
    obtain ⟨w4, hw4⟩ : ∃ w4 : World, w4 = w3.setCell ⟨g8, 1, none⟩ (.slice A' m' c') := ⟨_, rfl⟩
    have hF4 : Fr (fun k => k = g8) w3 w4 := hw4 ▸ (Fr.refl (fun k => k = g8) w3).setCell (p := ⟨g8, 1, none⟩) (fun _ => rfl) _
    have HB4 : Hid (Blk w4 g8 52 #[.slice (some ⟨g, o, none⟩) ln lc, .slice A' m' c']) := Lib.hid (by rw [hw4]; exact HB3.out.set 1 _)
    have HR4 := Lib.hid (HR3.out.fr hF4 (by have := HGG.out; omega))
    have HBN4 := Lib.hid (HBN3.out.fr hF4 (by have := HGG.out; omega))
    have HN4 := Lib.hid (HN3.out.fr hF4 (fun k hk => by have := HGG.out; have := HG.out; omega))
    have HF4 := Lib.hid hF4
    rw [← hw4]
    clear hw4 hF4
    clear e1 z1
    have d0 : w4.cell? ⟨g8, 0, none⟩ = some (.slice (some ⟨g, o, none⟩) ln lc) := HB4.out.cell 0
    have HF4' : Hid (RsIn (fun k => P k ∧ k < w.heap.size) w4 (.slice (some ⟨g, o, none⟩) ln lc) F) := Lib.hid (by rw [HLN.out]; exact ((H.out.f.new HN9.out).new HN3o.out).fr HF4.out (by rintro k ⟨_, h⟩; have := HGG.out; have := HG.out; omega))
    have HM := Lib.hid (rwithout_any _ F r w4 HF4'.out (by have := HFL.out; omega))
    go_wp2_with fail
    refine HM.out.mono ?_
    rintro e w5 ⟨⟨v'', rfl, hR5⟩, hN5⟩
    obtain ⟨B', d', rfl, hd', -⟩ := hR5.sl
    obtain ⟨n', hn'⟩ : ∃ n', n' = (F.eraseIdx r).length := ⟨_, rfl⟩
    rw [← hn'] at hR5 ⊢
    have HRF := Lib.hid hR5
    have HB5 := Lib.hid (hN5.blk HB4.out)
    have HR5 := Lib.hid (hN5.blk HR4.out)
    have HBN5 := Lib.hid (hN5.blk HBN4.out)
    have HN5o := Lib.hid hN5
    have HN5 := Lib.hid (HN4.out.tr hN5)
    have H5s := Lib.hid hN5.size
    have H4s := Lib.hid HF4.out.size
    have e0 : w5.cell? ⟨g8, 0, none⟩ = some (.slice (some ⟨g, o, none⟩) ln lc) := HB5.out.cell 0
    have z0 : w5.frozen? ⟨g8, 0, none⟩ = false := HB5.out.frozen 0
    clear hR5 hN5 hn' hd' d0 hrl hcc HM
    go_upto_region 8 with fail
    obtain ⟨w6, hw6⟩ : ∃ w6 : World, w6 = w5.setCell ⟨g8, 0, none⟩ (.slice B' n' d') := ⟨_, rfl⟩
    have hF6 : Fr (fun k => k = g8) w5 w6 := hw6 ▸ (Fr.refl (fun k => k = g8) w5).setCell (p := ⟨g8, 0, none⟩) (fun _ => rfl) _
    have HB6 : Hid (Blk w6 g8 52 #[.slice B' n' d', .slice A' m' c']) := Lib.hid (by rw [hw6]; exact HB5.out.set 0 _)
    have HR6 := Lib.hid (HR5.out.fr hF6 (by have := HGG.out; omega))
    have HBN6 := Lib.hid (HBN5.out.fr hF6 (by have := HGG.out; omega))
    have HN6 := Lib.hid (HN5.out.fr hF6 (fun k hk => by have := HGG.out; have := HG.out; omega))
    have HF6 := Lib.hid hF6
    rw [← hw6]
    clear hw6 hF6
    clear e0 z0
    go_wp2_with (first | ((with_reducible refine atOp ⟨some 50, .load _ _, _, _, _, _⟩ ?_); refine wpList_load_any rfl _ rfl Try.underlying54 rfl rfl rfl HBN6.out ?_) | ((with_reducible refine atOp ⟨some 52, .load _ _, _, _, _, _⟩ ?_); refine wpList_load_any rfl _ rfl Try.underlying52 rfl rfl rfl HB6.out ?_))
    refine (rwith_in i p a b ⟨B', n', d', F.eraseIdx r, A', m', c', T ++ [⟨yA, yn, yc, ys⟩]⟩ w6).mono ?_
    rintro e w7 ⟨rfl, hN7⟩
    have HR7 := Lib.hid (hN7.blk HR6.out)
    have HN7 := Lib.hid hN7
    clear hN7
    unfold rnv
    go_wp2_with (first | ((with_reducible refine atOp ⟨none, .store 54 (.tmp 6) _, _, _, _, _⟩ ?_); refine wpList_store_any rfl (.tmp 6) (.tmp 53) rfl rfl rfl rfl HR7.out rfl (by simp [rnc, Value.oneCell']) ?_; intro w8 hb8 hf8; have HB8 := Lib.hid hb8; have HF8 := Lib.hid hf8; clear hb8 hf8))
    refine bodyPost_ret (results_row2 rfl _ _ (G + 1) _ _ rfl HB8.out Try.underlying54 rfl rfl) rfl ?_
    have hg1 := HG.out
    have hgg := HGG.out
    have h9s := HN9.out.size
    have hg8 := HB9.out.lt
    have h3s := H3s.out
    have h4s := H4s.out
    have h5s := H5s.out
    refine ⟨⟨B', n', d', F.eraseIdx r, A', m', c', T ++ [⟨yA, yn, yc, ys⟩]⟩, rfl, ⟨?_, ?_, ?_, ?_⟩, rfl, rfl, (HN6.out.tr HN7.out).fr HF8.out (fun k hk => by omega)⟩
    · refine (((HRF.out.fr HF6.out ?_).new HN7.out).fr HF8.out ?_).imp ?_
      · rintro k (⟨_, h⟩ | h) <;> omega
      · rintro k (⟨_, h⟩ | h) <;> omega
      · rintro k (⟨h, _⟩ | h)
        · exact .inl h
        · exact .inr (by omega)
    · refine (((((HR'.out.fr HF4.out ?_).new HN5o.out).fr HF6.out ?_).new HN7.out).fr HF8.out ?_).imp ?_
      · rintro k (⟨_, h⟩ | h) <;> first | omega | (simp at h; omega)
      · rintro k (⟨_, h⟩ | h) <;> first | omega | (simp at h; omega)
      · rintro k (⟨_, h⟩ | h) <;> first | omega | (simp at h; omega)
      · rintro k (⟨h, _⟩ | h)
        · exact .inl h
        · exact .inr (by first | omega | (simp at h; omega))
    · show (F.eraseIdx r).length ≤ 256
      have := HFL.out
      have := List.length_eraseIdx_le F r
      omega
    · show (T ++ [(⟨yA, yn, yc, ys⟩ : Fm)]).length ≤ N + 1
      have := HTL.out
      have := HMT.out
      simp
      omega
end Go.Proofs.Ytajoahhjgloefaa
