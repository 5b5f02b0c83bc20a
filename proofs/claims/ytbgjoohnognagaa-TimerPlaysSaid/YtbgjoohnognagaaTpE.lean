/- The document's timer: Due. No condition but that its list can be read. -/
import Derived.Test.YtbgjoohnognagaaTpD
namespace Go.Proofs.Ytbgjoohnognagaa
open Go.RowKit

/-- What Due's loop holds behind k things. -/
structure RDI (w : World) (D : Dues) (vl va vt : Value) (wr : World) : Prop where
  l : wr.ownsRow w.heap.size 76 5 vl D.left.length (flat D.left)
  a : wr.ownsRow w.heap.size 31 1 va D.again.length (u64s D.again)
  t : wr.ownsRow w.heap.size 31 1 vt D.late.length (u64s D.late)
  d : ∀ b, va.ownBlock = some b → ¬ vt.ownBlock = some b
  n : New w wr
def RDue (w w' : World) (t : RT) (D : Dues) (e : Ending) : Prop := ∃ A' c' va vt, e = .returned (.tuple #[.agg #[.int .i64 t.lt, .int .i64 t.mt, .int .i64 t.lm, .float .f64 t.mean, .slice A' D.left.length c'], va, vt]) ∧ RIn w' ⟨t.lt, t.mt, t.lm, t.mean, A', D.left.length, c'⟩ D.left ∧
  w'.ownsRow w.heap.size 31 1 va D.again.length (u64s D.again) ∧ w'.ownsRow w.heap.size 31 1 vt D.late.length (u64s D.late)
theorem take_dues {tk mt lm : Int} {L : List Rn} {k : Nat} (hk : k < L.length) : dues tk mt lm (L.take (k + 1)) = dueStep tk mt lm (dues tk mt lm (L.take k)) L[k] := by
  rw [List.take_succ_eq_append_getElem hk, dues_snoc]

set_option maxHeartbeats 8000000 in
set_option maxRecDepth 100000 in
theorem rdue_any (t : RT) (L : List Rn) (now : Int) (w : World) (h : RIn w t L) (hF : ∀ r ∈ L, r.Fair) (h3 : t.mt ≤ 65536) (h0 : 1 ≤ t.mt) :
    Calls Try.prog 22 #[.agg #[.int .i64 t.lt, .int .i64 t.mt, .int .i64 t.lm, .float .f64 t.mean, .slice t.A t.n t.c], .int .i64 now] w fun e w' => RDue w w' t (dues (tickZ now) t.mt t.lm L) e ∧ New w w' := by
  have HL := Lib.hid h.len
  have HFA := Lib.hid hF
  have hle := h.le
  have HR := Lib.hid h.rd
  have htk := tickZ_in now
  have htc := rtick_any now
  have HDE : Hid (∀ w w' D e, RDue w w' t D e = ∃ A' c' va vt, e = .returned (.tuple #[.agg #[.int .i64 t.lt, .int .i64 t.mt, .int .i64 t.lm, .float .f64 t.mean, .slice A' D.left.length c'], va, vt]) ∧ RIn w' ⟨t.lt, t.mt, t.lm, t.mean, A', D.left.length, c'⟩ D.left ∧
    w'.ownsRow w.heap.size 31 1 va D.again.length (u64s D.again) ∧ w'.ownsRow w.heap.size 31 1 vt D.late.length (u64s D.late)) := Lib.hid fun _ _ _ _ => rfl
  obtain ⟨lt, mt, lm, mean, A, n, c⟩ := t
  dsimp only at hle HL HR h3 h0 HDE ⊢
  generalize tickZ now = tk at htk htc ⊢
  have HTC := Lib.hid htc
  clear h hF htc
  obtain ⟨w0, bx, bz, hw0, hbx, hbz, hB, hZ, hN0, hx1, hz1, hxz⟩ := two_blk w 48 #[.int .i64 lt, .int .i64 mt, .int .i64 lm, .float .f64 mean, .slice A n c] #[.int .i64 0, .int .i64 0, .int .i64 0, .float .f64 0, .slice none 0 0]
  have HBX := Lib.hid hB
  have HBZ := Lib.hid hZ
  have HN0 : Hid (New w w0) := Lib.hid hN0
  have HW := Lib.hid hw0
  have HBE := Lib.hid hbx
  have HZE := Lib.hid hbz
  clear hB hZ hN0 hw0 hbx hbz
  go_enter Try.func22, Try.ntmps22
  go_upto_region 1 with fail
  rw [← HW.out, ← HZE.out, ← HBE.out]
  go_wp2_with (go_at_call 35; refine (HTC.out _).mono ?_; rintro e w2 ⟨rfl, rfl⟩)
  have HI0 : Hid (RDI w0 (dues tk mt lm (L.take 0)) (.slice none 0 0) (.slice none 0 0) (.slice none 0 0) w0) := Lib.hid ⟨World.ownsRow_nil _ _ _ _, World.ownsRow_nil _ _ _ _, World.ownsRow_nil _ _ _ _, (fun b hb => by cases hb), New.refl _⟩
  go_loopw [7, 8, 9, 10] (fun vl va vt i wr => ∃ (k : Nat), k ≤ n ∧ i = .int .i64 k ∧ Hid (RDI w0 (dues tk mt lm (L.take k)) vl va vt wr)) (fun _ _ _ i _ => n - (intOf i).toNat)
  case atStart => exact ⟨0, by omega, rfl, HI0⟩
  case round =>
    obtain ⟨k, hk, rfl, HI⟩ := hrel
    have hB := HI.out.n.blk HBX.out
    have x4 : wr.cell? ⟨bx, 4, none⟩ = some (.slice A n c) := hB.cell 4
    have HBw := Lib.hid hB
    have hbx2 := hB.lt
    have hws : w0.heap.size ≤ wr.heap.size := HI.out.n.size
    have hdl := dues_len tk mt lm (L.take k)
    have hlk : (L.take k).length ≤ k := List.length_take_le _ _
    obtain ⟨Al, cl, rfl, -, -, -, -⟩ := own_shape HI.out.l
    obtain ⟨Aa, ca, rfl, -, -, -, -⟩ := own_shape HI.out.a
    obtain ⟨At, ct, rfl, -, -, -, -⟩ := own_shape HI.out.t
    clear hB
    by_cases hlt : k < n
    · as_aux_lemma =>
      obtain ⟨g, o, hl, rfl, -, -, hrg⟩ := rd_row (f := Rn.cells) (L := L) (fun _ => rfl) (by omega) (New.rd HI.out.n (New.rd HN0.out HR.out)) hlt
      have hfx := HFA.out L[k] (List.getElem_mem _)
      have hst := take_dues (tk := tk) (mt := mt) (lm := lm) hl
      generalize L[k] = x at hrg hfx hst
      generalize dues tk mt lm (L.take k) = D at HI hst hdl ⊢
      generalize hdk : dues tk mt lm (L.take (k + 1)) = D2 at hst
      have HDK := Lib.hid hdk
      have hw1 := fun (h : tk < x.d) => hst.trans (dues_wait h)
      have hw2 := fun (h : ¬ tk < x.d) (h2 : lm ≤ x.s) => hst.trans (dues_late h h2)
      have hw3 := fun (h : ¬ tk < x.d) (h2 : ¬ lm ≤ x.s) => hst.trans (dues_again h h2)
      unfold nextRun longer at hw3
      have hl0 := hfx.l0
      have hl1 := hfx.l1
      have hs0 := hfx.s0
      have hs1 := hfx.s1
      obtain ⟨xn, xb, xd, xl, xs⟩ := x
      dsimp only at hw1 hw2 hw3 hl0 hl1 hs0 hs1
      have HW1 := Lib.hid hw1
      have HW2 := Lib.hid hw2
      have HW3 := Lib.hid hw3
      have HRG : Hid (wr.rangeAt g (o + k * 5) [.int .u64 xn, .int .i64 xb, .int .i64 xd, .int .i64 xl, .int .i64 xs]) := Lib.hid hrg
      have hki : (0 : Int) ≤ (k : Int) := by omega
      have hkn : (k : Int) < (n : Int) := by omega
      have hD1 : D.left.length ≤ 1000 := by omega
      have hD2 : D.again.length ≤ 1000 := by omega
      have hD3 : D.late.length ≤ 1000 := by omega
      clear hst hfx hrg hl hw1 hw2 hw3 hdl hlk HI0 hdk
      go_upto_region 8 with ((with_reducible refine atOpS ⟨some 25, .load _ _, _, _, _, _⟩ ?_); refine row_load_at rowQ rfl (.tmp 24) rfl rfl HRG.out rfl ?_)
      obtain ⟨w3, hw3⟩ : ∃ w3 : World, w3 = wr.alloc (.cells #[.int .u64 xn, .int .i64 xb, .int .i64 xd, .int .i64 xl, .int .i64 xs] 76) := ⟨_, rfl⟩
      obtain ⟨b2, hb2⟩ : ∃ b2, b2 = wr.heap.size := ⟨_, rfl⟩
      have HN3 : Hid (New wr w3) := Lib.hid (by rw [hw3]; exact (New.refl wr).al _)
      have hB3 : Blk w3 b2 76 #[.int .u64 xn, .int .i64 xb, .int .i64 xd, .int .i64 xl, .int .i64 xs] := by rw [hw3, hb2]; exact Blk.new _ _ _
      have hb2s : wr.heap.size ≤ b2 := by omega
      rw [← hw3, ← hb2]
      clear hw3 hb2
      have b0 : w3.cell? ⟨b2, 0, none⟩ = some (.int .u64 xn) := hB3.cell 0
      have b2' : w3.cell? ⟨b2, 2, none⟩ = some (.int .i64 xd) := hB3.cell 2
      have b3' : w3.cell? ⟨b2, 3, none⟩ = some (.int .i64 xl) := hB3.cell 3
      have b4' : w3.cell? ⟨b2, 4, none⟩ = some (.int .i64 xs) := hB3.cell 4
      have x1' : w3.cell? ⟨bx, 1, none⟩ = some (.int .i64 mt) := HN3.out.cell_ (HBw.out.cell 1)
      have x2' : w3.cell? ⟨bx, 2, none⟩ = some (.int .i64 lm) := HN3.out.cell_ (HBw.out.cell 2)
      have HB3 := Lib.hid hB3
      have HOl := Lib.hid (HN3.out.own HI.out.l)
      have HOa := Lib.hid (HN3.out.own HI.out.a)
      have HOt := Lib.hid (HN3.out.own HI.out.t)
      have HD := Lib.hid HI.out.d
      have HNr : Hid (New w0 w3) := Lib.hid (HI.out.n.tr HN3.out)
      have hws3 : w0.heap.size ≤ w3.heap.size := HNr.out.size
      have hlo : Hid (∀ q, (Value.slice Al D.left.length cl).ownBlock = some q → q < wr.heap.size) := Lib.hid fun q hq => (own_lt HI.out.l q hq).2
      have hao : Hid (∀ q, (Value.slice Aa D.again.length ca).ownBlock = some q → q < wr.heap.size) := Lib.hid fun q hq => (own_lt HI.out.a q hq).2
      have hto : Hid (∀ q, (Value.slice At D.late.length ct).ownBlock = some q → q < wr.heap.size) := Lib.hid fun q hq => (own_lt HI.out.t q hq).2
      clear hB3 x4 HI
      by_cases hq1 : tk < xd
      · as_aux_lemma =>
        have hq2 : ¬ xd ≤ tk := by omega
        have HQ := Lib.hid hq1
        clear hq1
        go_wp2_with (first
          | ((with_reducible refine atOpS ⟨some 73, .load _ _, _, _, _, _⟩ ?_); refine row_load (cs := #[.int .u64 xn, .int .i64 xb, .int .i64 xd, .int .i64 xl, .int .i64 xs]) rowQ rfl (.tmp 11) rfl rfl HB3.out rfl ?_)
          | ((with_reducible refine atOpS ⟨some 74, .buildSlice _ _ _, _, _, _, _⟩ ?_); refine wpList_bs1 elQ (by decide) rfl (.tmp 73) rfl #[.int .u64 xn, .int .i64 xb, .int .i64 xd, .int .i64 xl, .int .i64 xs] rfl rfl ?_)
          | (at_builtin; refine wpList_app (o := ⟨some 75, _, _, _, _, _⟩) elQ _ rfl (.tmp 72) (.tmp 74) rfl w0.heap.size (.slice Al D.left.length cl) D.left.length (flat D.left) rfl (New.own (New.al (New.refl w3) _) HOl.out) (some ⟨w3.heap.size, 0, none⟩) 1 1 [.int .u64 xn, .int .i64 xb, .int .i64 xd, .int .i64 xl, .int .i64 xs] rfl (Rd.ofBlk (p := fun _ => True) (t := 76) (cs := #[.int .u64 xn, .int .i64 xb, .int .i64 xd, .int .i64 xl, .int .i64 xs]) (Blk.new' _ _ _ rfl) 5 1 rfl trivial) (by simp [Value.oneCell']) (by unfold maxLen; omega) (by omega) (by simp; omega) ?_; intro A7 d7 w7 hO7 hF7 hA7; have HO7 := Lib.hid hO7; have HF7 : Hid (Fr (fun k' => (Value.slice Al D.left.length cl).ownBlock = some k') w3 w7) := Lib.hid (((Fr.refl _ w3).alloc _).trans hF7); clear hO7 hF7 hA7))
        go_roundw
        case rel =>
          refine ⟨k + 1, by omega, by go_num, Lib.hid ?_⟩
          rw [HDK.out, HW1.out HQ.out]
          refine ⟨?_, own_fr HOa.out HF7.out (own_apart HOa.out HOl.out (by decide)), own_fr HOt.out HF7.out (own_apart HOt.out HOl.out (by decide)), HD.out, HNr.out.fr HF7.out (fun q hq => (own_lt HOl.out q hq).1)⟩
          show w7.ownsRow _ _ _ _ (D.left ++ [_]).length (flat (D.left ++ [_]))
          rw [List.length_append, flat_app, flat_one]
          exact HO7.out
        case measure => simp [intOf]; omega
      · by_cases hq2 : lm ≤ xs
        · as_aux_lemma =>
          have hq3 : xd ≤ tk := by omega
          have HQ := Lib.hid hq1
          have HQ2 := Lib.hid hq2
          clear hq1
          go_wp2_with (at_builtin; refine wpList_app (o := ⟨some 41, _, _, _, _, _⟩) elU _ rfl (.tmp 37) (.tmp 40) rfl w0.heap.size (.slice At D.late.length ct) D.late.length (u64s D.late) rfl (New.own (New.al (New.refl w3) _) HOt.out) (some ⟨w3.heap.size, 0, none⟩) 1 1 [.int .u64 xn] rfl (Rd.ofBlk (p := fun _ => True) (t := 31) (cs := #[.int .u64 xn]) (Blk.new' _ _ _ rfl) 1 1 rfl trivial) (by simp [Value.oneCell']) (by unfold maxLen; omega) (by omega) (by simp; omega) ?_; intro A7 d7 w7 hO7 hF7 hA7; have HO7 := Lib.hid hO7; have HA7 := Lib.hid hA7; have HF7 : Hid (Fr (fun k' => (Value.slice At D.late.length ct).ownBlock = some k') w3 w7) := Lib.hid (((Fr.refl _ w3).alloc _).trans hF7); clear hO7 hF7 hA7)
          go_roundw
          case rel =>
            refine ⟨k + 1, by omega, by go_num, Lib.hid ?_⟩
            rw [HDK.out, HW2.out HQ.out HQ2.out]
            refine ⟨own_fr HOl.out HF7.out (own_apart HOl.out HOt.out (by decide)), own_fr HOa.out HF7.out (fun b hb h => HD.out b hb h), ?_, ?_, HNr.out.fr HF7.out (fun q hq => (own_lt HOt.out q hq).1)⟩
            · show w7.ownsRow _ _ _ _ (D.late ++ [_]).length (u64s (D.late ++ [_]))
              rw [List.length_append, u64s_app]
              exact HO7.out
            · intro b hb hbt
              rcases HA7.out b hbt with h' | h'
              · exact HD.out b hb h'
              · have := hao.out b hb; have := HN3.out.size; simp at h'; omega
          case measure => simp [intOf]; omega
        · as_aux_lemma =>
          have hq3 : xd ≤ tk := by omega
          have HQ := Lib.hid hq1
          have HQ2 := Lib.hid hq2
          clear hq1
          go_upto_region 14 with (at_builtin; refine wpList_app (o := ⟨some 50, _, _, _, _, _⟩) elU _ rfl (.tmp 46) (.tmp 49) rfl w0.heap.size (.slice Aa D.again.length ca) D.again.length (u64s D.again) rfl (New.own (New.al (New.refl w3) _) HOa.out) (some ⟨w3.heap.size, 0, none⟩) 1 1 [.int .u64 xn] rfl (Rd.ofBlk (p := fun _ => True) (t := 31) (cs := #[.int .u64 xn]) (Blk.new' _ _ _ rfl) 1 1 rfl trivial) (by simp [Value.oneCell']) (by unfold maxLen; omega) (by omega) (by simp; omega) ?_; intro A4 d4 w4 hO4 hF4 hA4; have HO4 := Lib.hid hO4; have HA4 := Lib.hid hA4; have HF4 : Hid (Fr (fun k' => (Value.slice Aa D.again.length ca).ownBlock = some k') w3 w4) := Lib.hid (((Fr.refl _ w3).alloc _).trans hF4); have hB4 := HB3.out.fr HF4.out (fun e => by have := hao.out _ e; omega); have HN4 : Hid (New w0 w4) := Lib.hid (HNr.out.fr HF4.out (fun q hq => (own_lt HOa.out q hq).1)); have y1 := HN4.out.cell_ (HBX.out.cell 1); have m0 := hB4.cell 0; have m2 := hB4.cell 2; have m3 := hB4.cell 3; have m4 := hB4.cell 4; have q2 := hB4.frozen 2; have q3 := hB4.frozen 3; have q4 := hB4.frozen 4; have HB4 := Lib.hid hB4; clear hO4 hF4 hA4 hB4)
          obtain ⟨w5, hw5⟩ : ∃ w5 : World, w5 = (w4.setCell ⟨b2, 4, none⟩ (.int .i64 (xs + 1))).setCell ⟨b2, 3, none⟩ (.int .i64 (2 * xl)) := ⟨_, rfl⟩
          have HF5 : Hid (Fr (fun q => q = b2) w4 w5) := Lib.hid (by rw [hw5]; exact ((Fr.refl (fun q => q = b2) w4).setCell (p := ⟨b2, 4, none⟩) (fun _ => rfl) _).setCell (p := ⟨b2, 3, none⟩) (fun _ => rfl) _)
          have hB5 : Blk w5 b2 76 #[.int .u64 xn, .int .i64 xb, .int .i64 xd, .int .i64 (2 * xl), .int .i64 (xs + 1)] := by rw [hw5]; have := (HB4.out.set 4 (.int .i64 (xs + 1))).set 3 (.int .i64 (2 * xl)); simpa using this
          rw [← hw5]
          clear hw5 m0 m2 m3 m4 q2 q3 q4 y1
          have HN5 : Hid (New w0 w5) := Lib.hid (HN4.out.fr HF5.out (fun q hq => by omega))
          have HOl4 := Lib.hid (own_fr HOl.out HF4.out (own_apart HOl.out HOa.out (by decide)))
          have HOt4 := Lib.hid (own_fr HOt.out HF4.out (fun b hb h => HD.out b h hb))
          have y1 : w5.cell? ⟨bx, 1, none⟩ = some (.int .i64 mt) := HN5.out.cell_ (HBX.out.cell 1)
          have m2 : w5.cell? ⟨b2, 2, none⟩ = some (.int .i64 xd) := hB5.cell 2
          have m3 : w5.cell? ⟨b2, 3, none⟩ = some (.int .i64 (2 * xl)) := hB5.cell 3
          have q2 := hB5.frozen 2
          have q3 := hB5.frozen 3
          have HB5 := Lib.hid hB5
          clear hB5
          by_cases hm : mt < 2 * xl
          · go_upto_region 17 with fail
            obtain ⟨w6, hw6⟩ : ∃ w6 : World, w6 = (w5.setCell ⟨b2, 3, none⟩ (.int .i64 mt)).setCell ⟨b2, 2, none⟩ (.int .i64 (tk + mt)) := ⟨_, rfl⟩
            have hF6 : Fr (fun q => q = b2) w5 w6 := by rw [hw6]; exact ((Fr.refl (fun q => q = b2) w5).setCell (p := ⟨b2, 3, none⟩) (fun _ => rfl) _).setCell (p := ⟨b2, 2, none⟩) (fun _ => rfl) _
            have HB6 : Hid (Blk w6 b2 76 #[.int .u64 xn, .int .i64 xb, .int .i64 (tk + mt), .int .i64 mt, .int .i64 (xs + 1)]) := Lib.hid (by rw [hw6]; have := (HB5.out.set 3 (.int .i64 mt)).set 2 (.int .i64 (tk + mt)); simpa using this)
            rw [← hw6]
            clear hw6
            have HF46 : Hid (Fr (fun q => q = b2) w4 w6) := Lib.hid (HF5.out.trans hF6)
            have HN6 : Hid (New w0 w6) := Lib.hid (HN4.out.fr HF46.out (fun q hq => by omega))
            have hws6 : w0.heap.size ≤ w6.heap.size := HN6.out.size
            have HOl6 := Lib.hid (own_fr HOl4.out HF46.out (fun q hq e => by have := hlo.out q hq; omega))
            clear hF6
            go_wp2_with (first
              | ((with_reducible refine atOpS ⟨some 73, .load _ _, _, _, _, _⟩ ?_); refine row_load (cs := #[.int .u64 xn, .int .i64 xb, .int .i64 (tk + mt), .int .i64 mt, .int .i64 (xs + 1)]) rowQ rfl (.tmp 11) rfl rfl HB6.out rfl ?_)
              | ((with_reducible refine atOpS ⟨some 74, .buildSlice _ _ _, _, _, _, _⟩ ?_); refine wpList_bs1 elQ (by decide) rfl (.tmp 73) rfl #[.int .u64 xn, .int .i64 xb, .int .i64 (tk + mt), .int .i64 mt, .int .i64 (xs + 1)] rfl rfl ?_)
              | (at_builtin; refine wpList_app (o := ⟨some 75, _, _, _, _, _⟩) elQ _ rfl (.tmp 72) (.tmp 74) rfl w0.heap.size (.slice Al D.left.length cl) D.left.length (flat D.left) rfl (New.own (New.al (New.refl w6) _) HOl6.out) (some ⟨w6.heap.size, 0, none⟩) 1 1 [.int .u64 xn, .int .i64 xb, .int .i64 (tk + mt), .int .i64 mt, .int .i64 (xs + 1)] rfl (Rd.ofBlk (p := fun _ => True) (t := 76) (cs := #[.int .u64 xn, .int .i64 xb, .int .i64 (tk + mt), .int .i64 mt, .int .i64 (xs + 1)]) (Blk.new' _ _ _ rfl) 5 1 rfl trivial) (by simp [Value.oneCell']) (by unfold maxLen; omega) (by omega) (by simp; omega) ?_; intro A7 d7 w7 hO7 hF7 hA7; have HO7 := Lib.hid hO7; have HF7 : Hid (Fr (fun k' => (Value.slice Al D.left.length cl).ownBlock = some k') w6 w7) := Lib.hid (((Fr.refl _ w6).alloc _).trans hF7); clear hO7 hF7 hA7))
            go_roundw
            case rel =>
              refine ⟨k + 1, by omega, by go_num, Lib.hid ?_⟩
              rw [HDK.out, HW3.out HQ.out HQ2.out, if_pos hm]
              have HOa6 := own_fr HO4.out HF46.out (fun q hq e => by
                rcases HA4.out q hq with h' | h'
                · have := hao.out q h'; omega
                · have := HB3.out.lt; simp at h'; omega)
              have HOt6 := own_fr HOt4.out HF46.out (fun q hq e => by have := hto.out q hq; omega)
              refine ⟨?_, ?_, own_fr HOt6 HF7.out (own_apart HOt6 HOl6.out (by decide)), ?_, HN6.out.fr HF7.out (fun q hq => (own_lt HOl6.out q hq).1)⟩
              · show w7.ownsRow _ _ _ _ (D.left ++ [_]).length (flat (D.left ++ [_]))
                rw [List.length_append, flat_app, flat_one]
                exact HO7.out
              · show w7.ownsRow _ _ _ _ (D.again ++ [_]).length (u64s (D.again ++ [_]))
                rw [List.length_append, u64s_app]
                exact own_fr HOa6 HF7.out (own_apart HOa6 HOl6.out (by decide))
              · intro b hb hbt
                rcases HA4.out b hb with h' | h'
                · exact HD.out b h' hbt
                · have := hto.out b hbt; have := HN3.out.size; simp at h'; omega
            case measure => simp [intOf]; omega
          · have hm2 : 2 * xl ≤ mt := by omega
            go_upto_region 17 with fail
            obtain ⟨w6, hw6⟩ : ∃ w6 : World, w6 = w5.setCell ⟨b2, 2, none⟩ (.int .i64 (tk + 2 * xl)) := ⟨_, rfl⟩
            have hF6 : Fr (fun q => q = b2) w5 w6 := by rw [hw6]; exact (Fr.refl (fun q => q = b2) w5).setCell (p := ⟨b2, 2, none⟩) (fun _ => rfl) _
            have HB6 : Hid (Blk w6 b2 76 #[.int .u64 xn, .int .i64 xb, .int .i64 (tk + 2 * xl), .int .i64 (2 * xl), .int .i64 (xs + 1)]) := Lib.hid (by rw [hw6]; have := HB5.out.set 2 (.int .i64 (tk + 2 * xl)); simpa using this)
            rw [← hw6]
            clear hw6
            have HF46 : Hid (Fr (fun q => q = b2) w4 w6) := Lib.hid (HF5.out.trans hF6)
            have HN6 : Hid (New w0 w6) := Lib.hid (HN4.out.fr HF46.out (fun q hq => by omega))
            have hws6 : w0.heap.size ≤ w6.heap.size := HN6.out.size
            have HOl6 := Lib.hid (own_fr HOl4.out HF46.out (fun q hq e => by have := hlo.out q hq; omega))
            clear hF6
            go_wp2_with (first
              | ((with_reducible refine atOpS ⟨some 73, .load _ _, _, _, _, _⟩ ?_); refine row_load (cs := #[.int .u64 xn, .int .i64 xb, .int .i64 (tk + 2 * xl), .int .i64 (2 * xl), .int .i64 (xs + 1)]) rowQ rfl (.tmp 11) rfl rfl HB6.out rfl ?_)
              | ((with_reducible refine atOpS ⟨some 74, .buildSlice _ _ _, _, _, _, _⟩ ?_); refine wpList_bs1 elQ (by decide) rfl (.tmp 73) rfl #[.int .u64 xn, .int .i64 xb, .int .i64 (tk + 2 * xl), .int .i64 (2 * xl), .int .i64 (xs + 1)] rfl rfl ?_)
              | (at_builtin; refine wpList_app (o := ⟨some 75, _, _, _, _, _⟩) elQ _ rfl (.tmp 72) (.tmp 74) rfl w0.heap.size (.slice Al D.left.length cl) D.left.length (flat D.left) rfl (New.own (New.al (New.refl w6) _) HOl6.out) (some ⟨w6.heap.size, 0, none⟩) 1 1 [.int .u64 xn, .int .i64 xb, .int .i64 (tk + 2 * xl), .int .i64 (2 * xl), .int .i64 (xs + 1)] rfl (Rd.ofBlk (p := fun _ => True) (t := 76) (cs := #[.int .u64 xn, .int .i64 xb, .int .i64 (tk + 2 * xl), .int .i64 (2 * xl), .int .i64 (xs + 1)]) (Blk.new' _ _ _ rfl) 5 1 rfl trivial) (by simp [Value.oneCell']) (by unfold maxLen; omega) (by omega) (by simp; omega) ?_; intro A7 d7 w7 hO7 hF7 hA7; have HO7 := Lib.hid hO7; have HF7 : Hid (Fr (fun k' => (Value.slice Al D.left.length cl).ownBlock = some k') w6 w7) := Lib.hid (((Fr.refl _ w6).alloc _).trans hF7); clear hO7 hF7 hA7))
            go_roundw
            case rel =>
              refine ⟨k + 1, by omega, by go_num, Lib.hid ?_⟩
              rw [HDK.out, HW3.out HQ.out HQ2.out, if_neg hm]
              have HOa6 := own_fr HO4.out HF46.out (fun q hq e => by
                rcases HA4.out q hq with h' | h'
                · have := hao.out q h'; omega
                · have := HB3.out.lt; simp at h'; omega)
              have HOt6 := own_fr HOt4.out HF46.out (fun q hq e => by have := hto.out q hq; omega)
              refine ⟨?_, ?_, own_fr HOt6 HF7.out (own_apart HOt6 HOl6.out (by decide)), ?_, HN6.out.fr HF7.out (fun q hq => (own_lt HOl6.out q hq).1)⟩
              · show w7.ownsRow _ _ _ _ (D.left ++ [_]).length (flat (D.left ++ [_]))
                rw [List.length_append, flat_app, flat_one]
                exact HO7.out
              · show w7.ownsRow _ _ _ _ (D.again ++ [_]).length (u64s (D.again ++ [_]))
                rw [List.length_append, u64s_app]
                exact own_fr HOa6 HF7.out (own_apart HOa6 HOl6.out (by decide))
              · intro b hb hbt
                rcases HA4.out b hb with h' | h'
                · exact HD.out b h' hbt
                · have := hto.out b hbt; have := HN3.out.size; simp at h'; omega
            case measure => simp [intOf]; omega
    · as_aux_lemma =>
      obtain rfl : k = n := by omega
      rw [List.take_of_length_le (by rw [HL.out]; omega)] at HI hdl ⊢
      generalize hdd : dues tk mt lm L = D at HI hdl ⊢
      have HDD := Lib.hid hdd
      have hD1 : D.left.length ≤ 1000 := by have := HL.out; omega
      have hB := HI.out.n.blk HBX.out
      have hZ := HI.out.n.blk HBZ.out
      have q4 := hB.frozen 4
      have hB5 : ∀ u, Blk (wr.setCell ⟨bx, 4, none⟩ u) bx 48 #[.int .i64 lt, .int .i64 mt, .int .i64 lm, .float .f64 mean, u] := fun u => by have := hB.set 4 u; simpa using this
      have HB5 := Lib.hid hB5
      have HZ5 : Hid (∀ u, Blk (wr.setCell ⟨bx, 4, none⟩ u) bz 48 #[.int .i64 0, .int .i64 0, .int .i64 0, .float .f64 0, .slice none 0 0]) := Lib.hid (fun u => hZ.far (p := ⟨bx, 4, none⟩) (fun e => hxz e.symm) u)
      have HBL := Lib.hid hB.lt
      have HZL := Lib.hid hZ.lt
      clear hB hZ hB5 HI0 hdl hlk hdd
      go_wp2_with (first
        | ((with_reducible refine atOpS ⟨some 78, .load _ _, _, _, _, _⟩ ?_); refine row_load rowT rfl (.tmp 2) rfl rfl (HB5.out _) rfl ?_)
        | ((with_reducible refine atOpS ⟨none, .store 48 _ _, _, _, _, _⟩ ?_); refine row_store rowT rfl (.tmp 4) (.tmp 78) rfl rfl rfl (HZ5.out _) rfl rfl (RT.one ⟨_, _, _, _, _, _, _⟩) ?_; intro wz hBz hFz; have z0 := hBz.cell 0; have z1 := hBz.cell 1; have z2 := hBz.cell 2; have z3 := hBz.cell 3; have z4 := hBz.cell 4; have HFz := Lib.hid hFz; clear hBz hFz))
      refine bodyPost_ret (v := .tuple #[.agg #[.int .i64 lt, .int .i64 mt, .int .i64 lm, .float .f64 mean, .slice Al D.left.length cl], .slice Aa D.again.length ca, .slice At D.late.length ct]) (by simp [results, Try.results22, go_sem, z0, z1, z2, z3, z4]) rfl ?_
      have hF : Fr (fun q => q = bx ∨ q = bz) wr wz := ((Fr.refl _ wr).setCell (p := ⟨bx, 4, none⟩) (fun _ => .inl rfl) _).trans (HFz.out.mono fun q _ hq => .inr hq)
      have hbzw : w0.heap.size > bz := HBZ.out.lt
      have hbxw : w0.heap.size > bx := HBX.out.lt
      rw [HDD.out, HDE.out]
      refine ⟨⟨Al, cl, .slice Aa D.again.length ca, .slice At D.late.length ct, rfl, ⟨?_, rfl, by show D.left.length ≤ 1000; omega, ?_⟩, ?_, ?_⟩, ?_⟩
      · exact RdT.own (own_fr HI.out.l hF (fun q hq e => by have := (own_lt HI.out.l q hq).1; omega)) rfl
      · obtain ⟨A', c', hv, hnc', -, -, -⟩ := own_shape HI.out.l
        injection hv with _ _ hv
        show D.left.length ≤ cl
        omega
      · exact own_base (own_fr HI.out.a hF (fun q hq e => by have := (own_lt HI.out.a q hq).1; omega)) (fun q hq => by have := (own_lt HI.out.a q hq).1; have := HN0.out.size; omega)
      · exact own_base (own_fr HI.out.t hF (fun q hq e => by have := (own_lt HI.out.t q hq).1; omega)) (fun q hq => by have := (own_lt HI.out.t q hq).1; have := HN0.out.size; omega)
      · exact (HN0.out.tr HI.out.n).fr hF (fun q hq => by omega)
end Go.Proofs.Ytbgjoohnognagaa
