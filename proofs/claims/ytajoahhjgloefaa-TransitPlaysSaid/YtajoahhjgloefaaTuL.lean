/- TransitPlays' walk, and its row's word. (mkplaysc.py writes this text.) No condition. -/
import Derived.Test.YtajoahhjgloefaaTuK
import Derived.Test.YtajoahhjgloefaaTuG
import Derived.Test.YtajoahhjgloefaaTuH
import Derived.Great.BuildSlice
import Derived.Lib.SlBytesConst
namespace Go.Proofs.Ytajoahhjgloefaa
open Go.RowKit Go.Maps Go.Sort

theorem is_rep {X P : Nat → Prop} {l1 l2 : Ln} {w : World} {base g : Nat} {p : Int} {N M : Nat} {s : Ms} {v : Value} (h : NRep X l1 l2 w base g p N s) (r : RRep P w p M s v) (hM : M ≤ 100000) :
    Calls Try.prog 26 #[.pointer (some ⟨g, 0, none⟩), v] w fun e w' => e = .returned (.bool true) ∧ New w w' := by
  obtain ⟨a, b, rfl, ha, hb, eF, eT⟩ := r.ex
  exact is_any h.nt ha hb hM (fun i => (h.eF i).trans (eF i).symm) (fun i xs => (h.eT i xs).trans (eT i xs).symm)
theorem lit_rds {w : World} (xs : List Int) (z : Nat × Nat) : Rd (fun _ => True) (w.alloc (.cells (xs.map (Value.int .u8)).toArray 5 z)) 1 (some ⟨w.heap.size, 0, none⟩) xs.length (u8s xs) := by
  refine ⟨by simp [u8s], fun _ => ⟨_, rfl, trivial, by simp, fun j u hu => ?_⟩⟩
  have hb : (w.alloc (.cells (xs.map (Value.int .u8)).toArray 5 z)).heap[w.heap.size]? = some (.cells (xs.map (Value.int .u8)).toArray 5 z) := by
    show (w.heap.push _)[w.heap.size]? = _
    simp
  have h := cell_of_row _ w.heap.size j _ _ _ hb
  have e : (Addr.add ⟨w.heap.size, 0, none⟩ j : Addr) = ⟨w.heap.size, j, none⟩ := by simp [Addr.add]; intro h; exact h.symm
  rw [e, h]
  unfold u8s at hu
  simpa using hu
/-- The net, the document's, and a copy that goes on apart. -/
structure P3 (w : World) (base g b7 : Nat) (p : Int) (N : Nat) (W : World) (X : Nat → Prop) (l1 l2 : Ln) (P : Nat → Prop) (s : Ms) (cs : Array Value) (g' : Nat) (Xc : Nat → Prop) (c1 c2 : Ln) (sc : Ms) : Prop where
  ps : PS w base g b7 p N W X l1 l2 P s s cs
  cp : NRep Xc c1 c2 W base g' p N sc
  far : ∀ k, No g' c1 c2 k → ¬ No g l1 l2 k ∧ ¬ X k ∧ ¬ P k ∧ k ≠ b7 ∧ w.heap.size ≤ k
section
variable {w W W' : World} {base g b7 g' : Nat} {p : Int} {N : Nat} {X Xc : Nat → Prop} {l1 l2 c1 c2 : Ln} {P : Nat → Prop} {s sc s' : Ms} {cs : Array Value}
theorem P3.keep (h : P3 w base g b7 p N W X l1 l2 P s cs g' Xc c1 c2 sc) (hN : New W W') : P3 w base g b7 p N W' X l1 l2 P s cs g' Xc c1 c2 sc := ⟨h.ps.keep hN, h.cp.new hN, h.far⟩
theorem P3.step (h : P3 w base g b7 p N W X l1 l2 P s cs g' Xc c1 c2 sc) (hs : NStep Xc c1 c2 W base g' p N s' W') : ∃ Xc' c1' c2', P3 w base g b7 p N W' X l1 l2 P s cs g' Xc' c1' c2' s' := by
  obtain ⟨X', l1', l2', hn, hF, hno, hX⟩ := hs
  refine ⟨X', l1', l2', h.ps.away hF h.far, hn, fun k hk => ?_⟩
  rcases hno k hk with h1 | h1
  · exact h.far k h1
  · refine ⟨fun e => ?_, fun e => ?_, fun e => ?_, ?_, ?_⟩
    · have := (h.ps.nr.nt.ours e).2; omega
    · obtain ⟨cs, fz, hx⟩ := (h.ps.nr.nt.xs k e).2
      have := lt_of_block hx
      omega
    · have := (h.ps.sep k e).1; omega
    · have := h.ps.B7.lt; omega
    · have := h.ps.new.size; omega
end
set_option maxHeartbeats 16000000 in
set_option maxRecDepth 100000 in
theorem plays_walk (p : Int) (A : Option Addr) (n c : Nat) (L : List Ac) (w : World) (hR : Rd (fun b => b < w.heap.size) w 4 A n (L.flatMap Ac.cells)) (hL : L.length = n) (hn : n ≤ maxLen) (hg : ∀ a ∈ L, a.Good w) :
    Calls Try.prog 5 #[.int .i64 p, .slice A n c] w fun e w' => e = .returned (.bool true) ∧ Below w.heap.size w w' := by
  have HR := Lib.hid hR
  have HL := Lib.hid hL
  have HG := Lib.hid hg
  have HLL := Lib.hid (fun w1 (hN : New w w1) => long_law A n c L w1 (hN.rd hR) hL hn (fun a ha => (hg a ha).nn))
  unfold maxLen at hn
  have kc := fun (w : World) (C : Array Value) (n c : Nat) => Lib.run_convert_bytes_const (P := Try.prog) w 33 5 C n c Try.underlying33 Try.underlying5
  clear hR hL hg
  go_enter Try.func5, Try.ntmps5
  go_wp2_with fail
  refine (alive_any w).mono ?_
  rintro e w1 ⟨rfl, hN1⟩
  have HN1 : Hid (New w w1) := Lib.hid hN1
  clear hN1
  go_wp2_with fail
  refine (HLL.out w1 HN1.out).mono ?_
  rintro e w2 ⟨⟨lb, rfl, hlb⟩, hN2⟩
  have HN2 : Hid (New w w2) := Lib.hid (HN1.out.tr hN2)
  have HLB := Lib.hid hlb
  clear hN2 hlb HLL
  rcases lb with _ | _
  · obtain ⟨h600, h200⟩ := HLB.out rfl
    have H200 := Lib.hid h200
    clear HLB h200 hn
    go_wp2_with fail
    by_cases hbad : p < 1 ∨ 64 < p
    · have HBAD := Lib.hid hbad
      refine (new_bad p w2 HBAD.out).mono ?_
      rintro e w' ⟨rfl, rfl⟩
      as_aux_lemma =>
      by_cases hb1 : p < 1
      · clear hbad
        go_wp2_with (refine (is_some 1 1 _ (by decide)).mono ?_; rintro e w' ⟨rfl, rfl⟩)
        go_ret
        exact ⟨rfl, HN2.out⟩
      · have hb2 : 64 < p := by omega
        clear hbad
        go_wp2_with (refine (is_some 1 1 _ (by decide)).mono ?_; rintro e w' ⟨rfl, rfl⟩)
        go_ret
        exact ⟨rfl, HN2.out⟩
    have hp1 : 1 ≤ p := by omega
    have hp2 : p ≤ 64 := by omega
    have hq1 : decide (p < 1) = false := decide_eq_false (by omega)
    have hq2 : decide (64 < p) = false := decide_eq_false (by omega)
    have hq3 : ¬ p < 1 := by omega
    have hq4 : ¬ 64 < p := by omega
    clear hbad
    refine (new_ok p w2.heap.size w2 hp1 hp2 (Nat.le_refl _)).mono ?_
    rintro e w3 ⟨rfl, b1, b2, hT, hN3⟩
    obtain ⟨g, hg⟩ : ∃ g, g = w2.heap.size := ⟨_, rfl⟩
    obtain ⟨base, hbs⟩ : ∃ base, base = w2.heap.size := ⟨_, rfl⟩
    have HT : Hid (Nt (fun _ => False) w3 base g p (L0 b1) (L0 b2) 0) := Lib.hid (by rw [hg, hbs]; exact hT)
    have HN3 : Hid (New w w3) := Lib.hid (HN2.out.tr hN3)
    have HBS : Hid (w.heap.size ≤ base) := Lib.hid (by rw [hbs]; exact HN2.out.size)
    rw [← hg]
    clear hT hN3 hg hbs
    go_upto_region 9 with fail
    obtain ⟨w4, hw4⟩ : ∃ w4 : World, w4 = w3.alloc (.cells #[.int .i64 p, .slice none 0 0, .slice none 0 0, .slice none 0 0, .slice none 0 0] 54) := ⟨_, rfl⟩
    obtain ⟨b7, hb7⟩ : ∃ b7, b7 = w3.heap.size := ⟨_, rfl⟩
    have HN4 : Hid (New w3 w4) := Lib.hid (by rw [hw4]; exact New.al (New.refl _) _)
    have HB7 : Hid (Blk w4 b7 54 #[.int .i64 p, .slice none 0 0, .slice none 0 0, .slice none 0 0, .slice none 0 0]) := Lib.hid (by rw [hw4, hb7]; exact Blk.new _ _ _)
    have HZ7 : Hid (b7 = w3.heap.size) := Lib.hid hb7
    rw [← hw4, ← hb7]
    clear hw4 hb7
    go_wp2_with fail
    refine p_loop (w := w) (base := base) (g := g) (b7 := b7) L HL.out HR.out HG.out h600 H200.out (by omega) hp2 ?h0 ?hexit
    case h0 =>
      refine ⟨fun _ => False, L0 b1, L0 b2, fun k => k < w.heap.size, ⟨fun _ => [], fun _ _ => 0⟩, _, ⟨?_, ?_, HB7.out, ?_, fun k hk => hk, ⟨?_, fun h => h⟩, ?_, HBS.out, HN3.out.tr HN4.out⟩⟩
      · refine ⟨HT.out.new HN4.out, fun i => ?_, fun i xs => ?_⟩
        · cases i <;> rfl
        · cases i <;> rfl
      · refine ⟨⟨⟨none, 0, 0, [], none, 0, 0, []⟩, ⟨none, 0, 0, [], none, 0, 0, []⟩, rfl, ⟨RsIn.nil, RsIn.nil, by decide, by decide⟩, ⟨RsIn.nil, RsIn.nil, by decide, by decide⟩, fun i => ?_, fun i xs => ?_⟩⟩
        · cases i <;> rfl
        · cases i <;> rfl
      · intro k hk
        have h3 := HN3.out.size
        have h4 := HN4.out.size
        have hb := HBS.out
        have hz := HZ7.out
        refine ⟨by omega, fun e => ?_, by omega⟩
        have := (HT.out.ours e).1
        omega
      · intro e
        have := (HT.out.ours e).2
        have := HZ7.out
        omega
      · have := HZ7.out
        have := HN3.out.size
        omega
    case hexit =>
      rintro u4 u6 u9 u10 u11 u12 u13 u14 u15 u16 u17 u46 u47 u48 u49 u50 u51 u52 u53 u54 u55 u56 u57 u58 u59 u60 u61 u62 u63 u64 u65 u66 u67 u68 u69 u70 u71 u72 u73 u74 u75 u76 u77 u78 u79 u80 u81 u82 u83 u84 u85 u86 u87 u88 u89 u90 u91 u92 u93 u94 u95 u96 u97 u98 u99 u100 u101 u102 u103 u104 u105 u106 u107 u108 u109 u110 u111 u112 u113 u114 u115 u116 u117 u118 u119 u120 u121 u122 u123 u124 u125 u126 u127 u128 u129 u130 u131 u132 u133 u134 u135 u136 u137 u138 u139 u140 u141 u142 u143 u144 u145 u146 u147 u148 u149 u150 u151 u152 u153 u154 u155 u156 u157 u158 u159 u160 u161 u162 u163 u164 wr ⟨X, l1, l2, P, s, cs, hPS⟩
      have HPS := Lib.hid hPS
      have HNM : Hid (2 * n ≤ 100000) := Lib.hid (by omega)
      obtain ⟨ra, rb, hcs⟩ := rnv_agg hPS.rr
      injection hcs with hcs
      subst hcs
      clear hPS HB7 HZ7 HT HN4 HN3 HN2 HN1
      go_wp2_with fail
      refine (copy_any HPS.out.nr.nt).mono ?_
      rintro e w5 ⟨g', c1, c2, rfl, hcT, hcE, hcN, hcB⟩
      have HP5 := Lib.hid (HPS.out.keep hcN)
      have H3 : Hid (P3 w base g b7 p (2 * n) w5 X l1 l2 P s #[.int .i64 p, .slice ra.A ra.n ra.c, .slice ra.B ra.m ra.d, .slice rb.A rb.n rb.c, .slice rb.B rb.m rb.d] g' X c1 c2 s) := Lib.hid ⟨HP5.out, ⟨hcT, fun i => by rw [(hcE i).1]; exact HPS.out.nr.eF i, fun i xs => by rw [(hcE i).2]; exact HPS.out.nr.eT i xs⟩, fun k hk => by
        have h1 := hcB k hk
        refine ⟨fun e => ?_, fun e => ?_, fun e => ?_, ?_, ?_⟩
        · have := (HPS.out.nr.nt.ours e).2; omega
        · obtain ⟨cs, fz, hx⟩ := (HPS.out.nr.nt.xs k e).2
          have := lt_of_block hx
          omega
        · have := (HPS.out.sep k e).1; omega
        · have := HPS.out.B7.lt; omega
        · have := HPS.out.new.size; omega⟩
      clear hcT hcE hcN hcB
      go_wp2_with (first | ((with_reducible refine atOp ⟨some 168, .load _ _, _, _, _, _⟩ ?_); refine wpList_load_any rfl _ rfl Try.underlying54 rfl rfl rfl HP5.out.B7 ?_))
      refine (is_rep HP5.out.nr HP5.out.rr HNM.out).mono ?_
      rintro e w6 ⟨rfl, hN6⟩
      have H36 := Lib.hid (H3.out.keep hN6)
      clear hN6 HP5 HPS H3
      go_wp2_with (first | ((with_reducible refine atOp ⟨some 173, .load _ _, _, _, _, _⟩ ?_); refine wpList_load_any rfl _ rfl Try.underlying54 rfl rfl rfl H36.out.ps.B7 ?_))
      refine (is_rep H36.out.cp H36.out.ps.rr HNM.out).mono ?_
      rintro e w7 ⟨rfl, hN7⟩
      have H37 := Lib.hid (H36.out.keep hN7)
      clear hN7 H36
      go_wp2_with fail
      go_loopw [19] (fun ix wz => ∃ (i : Nat) (Xc : Nat → Prop) (d1 d2 : Ln) (sc : Ms), 1 ≤ i ∧ i ≤ 3 ∧ ix = .int .i64 i ∧ Hid (P3 w base g b7 p (2 * n) wz X l1 l2 P s #[.int .i64 p, .slice ra.A ra.n ra.c, .slice ra.B ra.m ra.d, .slice rb.A rb.n rb.c, .slice rb.B rb.m rb.d] g' Xc d1 d2 sc)) (fun ix _ => 3 - (intOf ix).toNat)
      case atStart => exact ⟨1, X, c1, c2, s, by decide, by decide, rfl, H37⟩
      case round =>
        obtain ⟨i, Xc, d1, d2, sc, hi1, hi2, rfl, HI⟩ := hrel
        by_cases hlt : i < 3
        · as_aux_lemma =>
          have hlt' : (i : Int) < 3 := by omega
          clear H37
          go_wp2_with fail
          refine (n_take HI.out.cp (i : Int) 0 (by decide) (by decide)).mono ?_
          rintro e w8 ⟨⟨A8, n8, k8, rfl, -, -⟩, hS8⟩
          obtain ⟨Xd, e1, e2, h8⟩ := HI.out.step hS8
          have H8 := Lib.hid h8
          clear hS8 h8
          generalize mTake sc (i : Int) 0 = r at H8 ⊢
          obtain ⟨s8, x8, z8⟩ := r
          dsimp only at H8 ⊢
          go_wp2_with (first | ((with_reducible refine atOp ⟨some 189, .buildSlice _ _ _, _, _, _, _⟩ ?_); refine wpList_buildFlatAt rfl 33 5 5 _ rfl .u8 [111, 116, 104, 101, 114] w8.heap.size rfl (some 189) rfl Try.underlying33 (by kernel_rfl) (by kernel_rfl) (by kernel_rfl) (by decide) (by decide) (by kernel_rfl) ?_))
          refine (n_send (H8.out.cp.new (New.al (New.refl w8) _)) (i : Int) _ 5 5 [111, 116, 104, 101, 114] (lit_rds [111, 116, 104, 101, 114] _) (by intro x hx; simp at hx; omega) (by decide)).mono ?_
          rintro e w9 ⟨rfl, hS9⟩
          obtain ⟨Xe, f1, f2, h9⟩ := (H8.out.keep (New.al (New.refl w8) _)).step hS9
          have H9 := Lib.hid h9
          clear hS9 h9
          generalize mSend s8 (i : Int) [111, 116, 104, 101, 114] = r at H9 ⊢
          obtain ⟨s9, z9⟩ := r
          dsimp only at H9 ⊢
          go_wp2_with fail
          go_roundw
          case rel => exact ⟨i + 1, Xe, f1, f2, s9, by omega, by omega, by go_num, H9⟩
          case measure => simp [intOf]; omega
        · as_aux_lemma =>
          obtain rfl : i = 3 := by omega
          clear H37
          go_wp2_with (first | ((with_reducible refine atOp ⟨some 193, .load _ _, _, _, _, _⟩ ?_); refine wpList_load_any rfl _ rfl Try.underlying54 rfl rfl rfl HI.out.ps.B7 ?_))
          refine (is_rep HI.out.ps.nr HI.out.ps.rr HNM.out).mono ?_
          rintro e w8 ⟨rfl, hN8⟩
          have HN8 := Lib.hid hN8
          clear hN8
          go_wp2_with fail
          go_ret
          exact ⟨rfl, HI.out.ps.new.tr HN8.out⟩
  · clear HLB hn
    go_wp2_with fail
    go_ret
    exact ⟨rfl, HN2.out⟩
theorem plays_law (p : Int) (_ : (Lit.int .i64 p).wf = true) {v : Value} {w : World}
    (o : ∃ (A : Option Addr) (n c : Nat) (L : List Ac), v = .slice A n c ∧ n ≤ maxLen ∧ L.length = n ∧ Rd (fun b => b < w.heap.size) w 4 A n (L.flatMap Ac.cells) ∧ ∀ a ∈ L, a.Good w) :
    Calls Try.prog 5 #[.int .i64 p, v] w fun e w' => e = .returned (.bool true) ∧ Below w.heap.size w w' := by
  obtain ⟨A, n, c, L, rfl, hn, hL, hR, hg⟩ := o
  exact plays_walk p A n c L w hR hL hn hg
end Go.Proofs.Ytajoahhjgloefaa
