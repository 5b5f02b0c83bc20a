/- A disk and the document's, held against each other. No condition but that they go with each other. -/
import Derived.Test.YtpdgnidoglmgcaaDrF
import Derived.Test.YtpdgnidoglmgcaaDkG
namespace Go.Proofs.Ytpdgnidoglmgcaa
open Go.RowKit Go.Maps

set_option maxHeartbeats 8000000 in
set_option maxRecDepth 100000 in
theorem same_any {w : World} {base g bs bf : Nat} {v : Value} {p : DP} (h : Dk w base g bs bf v p) (r : RP) (A1 : Option Addr) (c1 : Nat) (A2 : Option Addr) (c2 : Nat) (hr : RfIn w r A1 A2) (hM : Mt p r) (hn : r.tot ≤ 100000) :
    Calls Try.prog 19 #[.pointer (some ⟨g, 0, none⟩), .agg (RfV r A1 c1 A2 c2)] w fun e w' => e = .returned (.bool true) ∧ New w w' := by
  have H := Lib.hid h
  have HI := Lib.hid hr
  have HM := Lib.hid hM
  have HT := Lib.hid hn
  have hsz := h.ok.s2
  have hsz1 := h.ok.s1
  have hfz := h.ok.fz
  have HE1 : RfV r A1 c1 A2 c2 = #[.int .i64 p.size, .slice A1 r.sure.length c1, .slice A2 r.fresh.length c2, .int .i64 p.fuse, .bool p.down] := by
    unfold RfV; rw [hM.size, hM.fuse, hM.down]
  have HE := Lib.hid HE1
  rw [HE1]
  clear h hr hM hn HE1
  go_enter Try.func19, Try.ntmps19
  go_wp2_with fail
  obtain ⟨w0, hw0⟩ : ∃ w0 : World, w0 = w.alloc (.cells #[.int .i64 p.size, .slice A1 r.sure.length c1, .slice A2 r.fresh.length c2, .int .i64 p.fuse, .bool p.down] 48) := ⟨_, rfl⟩
  obtain ⟨G, hG⟩ : ∃ G, G = w.heap.size := ⟨_, rfl⟩
  rw [← hG]
  have HN0 : Hid (New w w0) := Lib.hid (by rw [hw0]; exact (New.refl w).al _)
  have HB0 : Hid (Blk w0 G 48 #[.int .i64 p.size, .slice A1 r.sure.length c1, .slice A2 r.fresh.length c2, .int .i64 p.fuse, .bool p.down]) := Lib.hid (by rw [hw0, hG]; exact Blk.new _ _ _)
  rw [← hw0]
  clear hw0 hG
  go_loopw [5] (fun i wr => ∃ (j : Nat), j ≤ 21 ∧ i = .int .i64 ((j : Int) - 1) ∧ Hid (New w0 wr)) (fun i _ => (20 - intOf i).toNat)
  case atStart => exact ⟨0, by omega, by go_num, Lib.hid (New.refl _)⟩
  case round =>
    obtain ⟨j, hj, rfl, HN⟩ := hrel
    by_cases hlt : j < 21
    · as_aux_lemma =>
      obtain ⟨x, hx⟩ : ∃ x : Int, x = (j : Int) - 1 := ⟨_, rfl⟩
      rw [← hx]
      have hx1 : -1 ≤ x ∧ x < 20 := by omega
      have hxw : (Lit.int .i64 x).wf = true := by simp [Lit.wf, IntKind.min, IntKind.max, IntKind.signed, IntKind.bits]; omega
      have hxw2 := Lib.hid hxw
      have HX := Lib.hid hx
      have HG : Hid (r.rget x = p.rget x ∧ r.rcode x = p.rcode x) := Lib.hid ⟨HM.out.rget x, HM.out.rcode x⟩
      have HS : Hid (SecOk (p.rget x)) := Lib.hid (H.out.ok.rget x)
      clear hx hxw
      go_wp2_with fail
      refine (read_all (H.out.new (HN0.out.tr HN.out)) x).mono ?_
      rintro e w1 ⟨rfl, hN1⟩
      have hrr := fun (w' : World) (hN : New w0 w') => rread_any r A1 c1 A2 c2 x w' (HI.out.new (HN0.out.tr hN)) (by have := HT.out; omega) hxw2.out (by rw [HM.out.size]; omega)
      rw [HG.out.1, HG.out.2, HE.out] at hrr
      have HRR := Lib.hid hrr
      have hnum := num_errV (p.rcode x)
      generalize errV (p.rcode x) = ev at hnum ⊢
      generalize p.rget x = s at *
      generalize p.rcode x = cd at *
      have HNUM := Lib.hid hnum
      have HN1 : Hid (New w0 w1) := Lib.hid (HN.out.tr hN1)
      have heq : ∀ w, (Op.equalIn 10000 31 (.agg (secA s)) (.agg (secA s))).run Try.prog w = .ok true w := fun w => (equal_sec HS.out HS.out w).trans (by simp)
      clear hN1 hrr hnum
      go_wp2_with (first
        | ((with_reducible refine atOp ⟨some 6, .alloc _, _, _, _, _⟩ ?_); refine wpList_newvar (s := s) rfl rfl rfl _ _ rfl secInfo rfl rfl rfl HS.out.1 ?_)
        | ((with_reducible refine atOp ⟨some 21, .load _ _, _, _, _, _⟩ ?_); refine wpList_load_any rfl _ rfl Try.underlying48 rfl rfl rfl ((New.blk HN1.out HB0.out).alloc _) ?_))
      obtain ⟨w2, hw2⟩ : ∃ w2 : World, w2 = w1.alloc (.cells (secA s) 31) := ⟨_, rfl⟩
      have HN2 : Hid (New w0 w2) := Lib.hid (by rw [hw2]; exact HN1.out.al _)
      have HB2 : Hid (Blk w2 w1.heap.size 31 (secA s)) := Lib.hid (by rw [hw2]; exact Blk.new _ _ _)
      rw [← hw2]
      clear hw2
      refine (HRR.out w2 HN2.out).mono ?_
      rintro e w3 ⟨rfl, hN3⟩
      have HN3 : Hid (New w0 w3) := Lib.hid (HN2.out.tr hN3)
      have HB3 := Lib.hid (New.blk hN3 HB2.out)
      clear hN3
      go_wp2_with (first
        | ((with_reducible refine atOp ⟨some 8, .alloc _, _, _, _, _⟩ ?_); refine wpList_newvar (s := s) rfl rfl rfl _ _ rfl secInfo rfl rfl rfl HS.out.1 ?_)
        | ((with_reducible refine atOp ⟨some 26, .load _ _, _, _, _, _⟩ ?_); refine wpList_load_blk (s := s) rfl _ rfl Try.underlying31 rfl rfl (HB3.out.alloc _) HS.out.1 ?_)
        | ((with_reducible refine atOp ⟨some 27, .load _ _, _, _, _, _⟩ ?_); refine wpList_load_blk (s := s) rfl _ rfl Try.underlying31 rfl rfl (Blk.new _ _ _) HS.out.1 ?_)
        | (go_at_call 26; refine (HNUM.out _).mono ?_; rintro e w4 ⟨rfl, rfl⟩))
      all_goals
        go_roundw
        case rel => exact ⟨j + 1, by omega, by rw [HX.out]; go_num, Lib.hid (HN3.out.al _)⟩
        case measure => simp [intOf]; omega
    · as_aux_lemma =>
      obtain rfl : j = 21 := by omega
      go_wp2_with fail
      have HD := Lib.hid (H.out.new (HN0.out.tr HN.out))
      have hS0 : ∀ w', New w0 w' → w'.cell? ⟨G, 0, none⟩ = some (.int .i64 p.size) ∧ w'.cell? ⟨G, 1, none⟩ = some (.slice A1 r.sure.length c1) ∧ w'.cell? ⟨G, 2, none⟩ = some (.slice A2 r.fresh.length c2) ∧ w'.cell? ⟨G, 3, none⟩ = some (.int .i64 p.fuse) ∧ w'.cell? ⟨G, 4, none⟩ = some (.bool p.down) := fun w' hN =>
        ⟨hN.cell_ (HB0.out.cell 0), hN.cell_ (HB0.out.cell 1), hN.cell_ (HB0.out.cell 2), hN.cell_ (HB0.out.cell 3), hN.cell_ (HB0.out.cell 4)⟩
      have hww := fun (w' : World) (hN : New w0 w') => rwaits_any r A1 c1 A2 c2 w' (HI.out.new (HN0.out.tr hN)) (by have := HT.out; omega)
      rw [HE.out, ← HM.out.order] at hww
      have HWW := Lib.hid hww
      have hN0 := HN.out
      have tokN : New w0 wr.drew := HN.out.dr
      clear hww
      go_region_held3 (fun w' => w'.cell? ⟨G, 0, none⟩ = some (.int .i64 p.size) ∧ w'.cell? ⟨G, 1, none⟩ = some (.slice A1 r.sure.length c1) ∧ w'.cell? ⟨G, 2, none⟩ = some (.slice A2 r.fresh.length c2) ∧ w'.cell? ⟨G, 3, none⟩ = some (.int .i64 p.fuse) ∧ w'.cell? ⟨G, 4, none⟩ = some (.bool p.down))
        (first | exact hS0 _ hNW | exact hS0 _ tokN | exact hS0 _ hN0)
        (first
          | (go_at_call 20; refine (len_in (HD.out.new ((New.refl wr).dr))).mono ?_; rintro e w' ⟨rfl, rfl⟩)
          | (go_at_call 14; refine (wait_in (HD.out.new ((New.refl wr).dr))).mono ?_; rintro e w' ⟨rfl, rfl⟩)
          | (go_at_call 31; refine (HWW.out _ tokN).mono ?_; rintro e w5 ⟨⟨AW, cW, rfl, -⟩, hN5⟩; have hNW : New w0 w5 := tokN.tr hN5; have HDW := Lib.hid (HD.out.new (New.tr ((New.refl wr).dr) hN5)); clear hN5)
          | (go_at_call 15; refine (down_in HDW.out).mono ?_; rintro e w' ⟨rfl, rfl⟩))
      all_goals
        go_wp2_with fail
        go_ret
        exact ⟨rfl, HN0.out.tr hNW⟩
end Go.Proofs.Ytpdgnidoglmgcaa
