/- An act done on a disk and on the document's. No condition but that the two go with each other. -/
import Derived.Test.YtpdgnidoglmgcaaDoA
import Derived.Test.YtpdgnidoglmgcaaDkJ
import Derived.Deep.CutBlock
namespace Go.Proofs.Ytpdgnidoglmgcaa
open Go.RowKit Go.Maps


set_option maxHeartbeats 8000000 in
set_option maxRecDepth 100000 in
theorem do_sync {w wb : World} {base g bs bf : Nat} {v : Value} {p : DP} (h : Dk w base g bs bf v p) (r : RP) (A1 : Option Addr) (c1 : Nat) (A2 : Option Addr) (c2 : Nat) (hr : RfIn w r A1 A2) (hM : Mt p r) (hn : r.tot ≤ 1000) (a : AC) (ha : a.Good wb) (hb : New wb w) (hwb : wb.heap.size ≤ base) (k2 : (kq a.kind == 0) = false) (k3 : (kq a.kind == 1) = false) (k4 : (kq a.kind == 2) = true) :
    Calls Try.prog 18 #[.pointer (some ⟨g, 0, none⟩), .agg (RfV r A1 c1 A2 c2), .agg a.cells.toArray] w fun e w' => DoEnd w v base g bs bf r.tot e w' := by
  unfold kq at k2 k3 k4
  have H := Lib.hid h
  have HI := Lib.hid hr
  have HM := Lib.hid hM
  have HT := Lib.hid hn
  have HA := Lib.hid ha
  have HBW := Lib.hid hb
  have hsz := h.ok.s2
  have hsz1 := h.ok.s1
  have hfz := h.ok.fz
  have kb := bounds_i64 ha.kind
  have HE1 : RfV r A1 c1 A2 c2 = #[.int .i64 p.size, .slice A1 r.sure.length c1, .slice A2 r.fresh.length c2, .int .i64 p.fuse, .bool p.down] := by
    unfold RfV; rw [hM.size, hM.fuse, hM.down]
  have HE := Lib.hid HE1
  rw [HE1]
  clear h hr hM hn HE1 ha hb
  go_enter Try.func18, Try.ntmps18
  go_upto_region 1 with fail
  obtain ⟨w0, hw0⟩ : ∃ w0 : World, w0 = ((w.alloc (.cells #[.int .i64 p.size, .slice A1 r.sure.length c1, .slice A2 r.fresh.length c2, .int .i64 p.fuse, .bool p.down] 48)).alloc (.cells a.cells.toArray 33)).alloc (.cells #[.int .i64 0, .slice none 0 0, .slice none 0 0, .int .i64 0, .bool false] 48) := ⟨_, rfl⟩
  obtain ⟨G, hG⟩ : ∃ G, G = w.heap.size := ⟨_, rfl⟩
  rw [← hG]
  have HN0 : Hid (New w w0) := Lib.hid (by rw [hw0]; exact (((New.refl w).al _).al _).al _)
  have HB0 : Hid (Blk w0 G 48 #[.int .i64 p.size, .slice A1 r.sure.length c1, .slice A2 r.fresh.length c2, .int .i64 p.fuse, .bool p.down]) := Lib.hid (by rw [hw0, hG]; exact ((Blk.new _ _ _).alloc _).alloc _)
  have hA0 : Blk w0 (G + 1) 33 a.cells.toArray := by rw [hw0, hG]; exact (Blk.new' _ _ _ (by simp)).alloc _
  have HR0 : Hid (Blk w0 (G + 1 + 1) 48 #[.int .i64 0, .slice none 0 0, .slice none 0 0, .int .i64 0, .bool false]) := Lib.hid (by rw [hw0, hG]; exact Blk.new' _ _ _ (by simp))
  rw [← hw0]
  have HGW : Hid (G = w.heap.size) := Lib.hid hG
  clear hw0 hG
  have HD0 := Lib.hid (H.out.new HN0.out)
  have HI0 := Lib.hid (HI.out.new HN0.out)
  have HB0W : Hid (New wb w0) := Lib.hid (HBW.out.tr HN0.out)
  have HNO : Hid (∀ k, DkOurs g bs bf v k → k < G) := Lib.hid (fun k ho => by have := (H.out.ours k ho).2; have := HGW.out; omega)
  have k0 : w0.cell? ⟨G + 1, 0, none⟩ = some (.int .i64 a.kind) := by rw [hA0.cell 0]; simpa using a.at0
  have k1 : w0.cell? ⟨G + 1, 1, none⟩ = some (.int .i64 a.pos) := by rw [hA0.cell 1]; simpa using a.at1
  have k66 : w0.cell? ⟨G + 1, 66, none⟩ = some (.slice a.A a.n a.c) := by rw [hA0.cell 66]; simpa using AC.at66 HA.out.s
  have HK2 : Hid (w0.rangeAt (G + 1) 2 (u8s a.s)) := Lib.hid (fun j u hu => by rw [hA0.cell (2 + j)]; simpa using AC.atS j u hu)
  have HA0 := Lib.hid hA0
  clear hA0
  have HW0 := fun (w' : World) (hN : New w0 w') => rsync_any r A1 c1 A2 c2 w' (HI0.out.new hN) (by have := HT.out; omega)
  rw [HE.out, HM.out.scode] at HW0
  have HRW := Lib.hid HW0
  have HMW := Lib.hid HM.out.sync
  have HTW : Hid (r.sync.tot ≤ r.tot + 1) := Lib.hid (by have := r.tot_sync; omega)
  have hnum := num_errV p.scode
  have hwa := fun (w' : World) (hd : Dk w' base g bs bf v p) => sync_all hd
  generalize errV p.scode = ev at hnum hwa
  generalize p.scode = cd at *
  generalize r.sync = r1 at *
  generalize p.doSync = p1 at *
  have HNUM := Lib.hid hnum
  have HWA := Lib.hid hwa
  clear HW0 hnum hwa
  · go_wp2_with ((with_reducible refine atOp ⟨some 45, .load _ _, _, _, _, _⟩ ?_); refine wpList_load_any rfl _ rfl Try.underlying48 rfl rfl rfl HB0.out ?_)
    refine (HRW.out w0 (New.refl _)).mono ?_
    rintro e w1 ⟨⟨B1, d1, B2, d2, rfl, hI1⟩, hN1⟩
    have HI1 := Lib.hid hI1
    have HN1 := Lib.hid hN1
    clear hI1 hN1
    unfold RfV
    go_wp2_with ((with_reducible refine atOp ⟨some 10, .alloc _, _, _, _, _⟩ ?_); refine wpList_newrow (C := #[.int .i64 r1.size, .slice B1 r1.sure.length d1, .slice B2 r1.fresh.length d2, .int .i64 r1.fuse, .bool r1.down]) rfl rfl rfl _ _ rfl rInfo rfl rfl rfl rfl (rf_one _ _ _ _ _ _ _ _ _) ?_)
    obtain ⟨wz, hwz⟩ : ∃ wz : World, wz = w1.alloc (.cells #[.int .i64 r1.size, .slice B1 r1.sure.length d1, .slice B2 r1.fresh.length d2, .int .i64 r1.fuse, .bool r1.down] 48) := ⟨_, rfl⟩
    obtain ⟨G8, hG8⟩ : ∃ G8, G8 = w1.heap.size := ⟨_, rfl⟩
    rw [← hwz, ← hG8]
    have HNz : Hid (New w0 wz) := Lib.hid (by rw [hwz]; exact HN1.out.al _)
    have HB8 : Hid (Blk wz G8 48 #[.int .i64 r1.size, .slice B1 r1.sure.length d1, .slice B2 r1.fresh.length d2, .int .i64 r1.fuse, .bool r1.down]) := Lib.hid (by rw [hwz, hG8]; exact Blk.new _ _ _)
    have HIz : Hid (RfIn wz r1 B1 B2) := Lib.hid (by rw [hwz]; exact HI1.out.new ((New.refl _).al _))
    have HG8 : Hid (G + 1 + 1 < G8) := Lib.hid (by have h1 := HR0.out.lt; have h2 := HN1.out.size; omega)
    have HDz := Lib.hid (HD0.out.new HNz.out)
    have HRz := Lib.hid (New.blk HNz.out HR0.out)
    clear hwz hG8 k0 k1 k66 k2 k3 k4
    have hS : ∀ w', Fr (fun k => DkOurs g bs bf v k ∨ k = G + 1 + 1) wz w' → w'.cell? ⟨G8, 0, none⟩ = some (.int .i64 r1.size) ∧ w'.cell? ⟨G8, 1, none⟩ = some (.slice B1 r1.sure.length d1) ∧ w'.cell? ⟨G8, 2, none⟩ = some (.slice B2 r1.fresh.length d2) ∧ w'.cell? ⟨G8, 3, none⟩ = some (.int .i64 r1.fuse) ∧ w'.cell? ⟨G8, 4, none⟩ = some (.bool r1.down) := fun w' hF => by
      have hb := HB8.out.fr hF (fun hk => by rcases hk with hk | hk; have := HNO.out _ hk; have := HG8.out; omega; have := HG8.out; omega)
      exact ⟨hb.cell 0, hb.cell 1, hb.cell 2, hb.cell 3, hb.cell 4⟩
    go_region_held3 (fun w' => w'.cell? ⟨G8, 0, none⟩ = some (.int .i64 r1.size) ∧ w'.cell? ⟨G8, 1, none⟩ = some (.slice B1 r1.sure.length d1) ∧ w'.cell? ⟨G8, 2, none⟩ = some (.slice B2 r1.fresh.length d2) ∧ w'.cell? ⟨G8, 3, none⟩ = some (.int .i64 r1.fuse) ∧ w'.cell? ⟨G8, 4, none⟩ = some (.bool r1.down))
      (exact hS _ (by repeat (first | with_reducible exact Fr.refl _ _ | with_reducible assumption | with_reducible refine Fr.drew ?_ | with_reducible refine Fr.alloc ?_ _ | refine Fr.setCell ?_ (fun _ => .inr rfl) _) : Fr (fun k => DkOurs g bs bf v k ∨ k = G + 1 + 1) wz _))
      (first
        | (go_at_call 9; refine (HWA.out _ (HDz.out.new ((New.refl wz).dr))).mono ?_; rintro e w5 ⟨rfl, v5, hD5, hF5, hv5⟩; have hFz : Fr (fun k => DkOurs g bs bf v k ∨ k = G + 1 + 1) wz w5 := (hF5.mono fun b _ h => Or.inl h).ofDrew; have HD5 := Lib.hid hD5; have HF5 := Lib.hid hF5.ofDrew; have hR5 := HRz.out.fr HF5.out (fun ho => by have := HNO.out _ ho; omega); have m0 := hR5.cell 0; have m1 := hR5.cell 1; have m2 := hR5.cell 2; have m3 := hR5.cell 3; have m4 := hR5.cell 4; have f0 := hR5.frozen 0; have f1 := hR5.frozen 1; have f2 := hR5.frozen 2; have f3 := hR5.frozen 3; have f4 := hR5.frozen 4; have HR5 := Lib.hid hR5; clear hD5 hF5 hv5 hR5)
        | (go_at_call 26; refine (HNUM.out _).mono ?_; rintro e w6 ⟨rfl, rfl⟩))
    go_wp2_with fail
    refine bodyPost_ret (results_row2 rfl _ _ (G + 1 + 1) _ _ rfl (blk5 HR5.out _ _ _ _ _) Try.underlying48 rfl rfl) rfl ?_
    exact ⟨v5, p1, r1, B1, d1, B2, d2, rfl, do_end HDz.out HF5.out (fun _ h => h) HD5.out HIz.out HMW.out HTW.out HRz.out (fr5 (S := fun k => k = G + 1 + 1) (Fr.refl _ w5) rfl _ _ _ _ _) ((HN0.out.tr HNz.out).toFr _) (fun _ h => h) (by have := HGW.out; omega)⟩

set_option maxHeartbeats 8000000 in
set_option maxRecDepth 100000 in
theorem do_cut {w wb : World} {base g bs bf : Nat} {v : Value} {p : DP} (h : Dk w base g bs bf v p) (r : RP) (A1 : Option Addr) (c1 : Nat) (A2 : Option Addr) (c2 : Nat) (hr : RfIn w r A1 A2) (hM : Mt p r) (hn : r.tot ≤ 1000) (a : AC) (ha : a.Good wb) (hb : New wb w) (hwb : wb.heap.size ≤ base) (k2 : (kq a.kind == 0) = false) (k3 : (kq a.kind == 1) = false) (k4 : (kq a.kind == 2) = false) (k5 : (kq a.kind == 3) = true) :
    Calls Try.prog 18 #[.pointer (some ⟨g, 0, none⟩), .agg (RfV r A1 c1 A2 c2), .agg a.cells.toArray] w fun e w' => DoEnd w v base g bs bf r.tot e w' := by
  unfold kq at k2 k3 k4 k5
  have H := Lib.hid h
  have HI := Lib.hid hr
  have HM := Lib.hid hM
  have HT := Lib.hid hn
  have HA := Lib.hid ha
  have HBW := Lib.hid hb
  have hsz := h.ok.s2
  have hsz1 := h.ok.s1
  have hfz := h.ok.fz
  have kb := bounds_i64 ha.kind
  have HE1 : RfV r A1 c1 A2 c2 = #[.int .i64 p.size, .slice A1 r.sure.length c1, .slice A2 r.fresh.length c2, .int .i64 p.fuse, .bool p.down] := by
    unfold RfV; rw [hM.size, hM.fuse, hM.down]
  have HE := Lib.hid HE1
  rw [HE1]
  clear h hr hM hn HE1 ha hb
  go_enter Try.func18, Try.ntmps18
  go_upto_region 1 with fail
  obtain ⟨w0, hw0⟩ : ∃ w0 : World, w0 = ((w.alloc (.cells #[.int .i64 p.size, .slice A1 r.sure.length c1, .slice A2 r.fresh.length c2, .int .i64 p.fuse, .bool p.down] 48)).alloc (.cells a.cells.toArray 33)).alloc (.cells #[.int .i64 0, .slice none 0 0, .slice none 0 0, .int .i64 0, .bool false] 48) := ⟨_, rfl⟩
  obtain ⟨G, hG⟩ : ∃ G, G = w.heap.size := ⟨_, rfl⟩
  rw [← hG]
  have HN0 : Hid (New w w0) := Lib.hid (by rw [hw0]; exact (((New.refl w).al _).al _).al _)
  have HB0 : Hid (Blk w0 G 48 #[.int .i64 p.size, .slice A1 r.sure.length c1, .slice A2 r.fresh.length c2, .int .i64 p.fuse, .bool p.down]) := Lib.hid (by rw [hw0, hG]; exact ((Blk.new _ _ _).alloc _).alloc _)
  have hA0 : Blk w0 (G + 1) 33 a.cells.toArray := by rw [hw0, hG]; exact (Blk.new' _ _ _ (by simp)).alloc _
  have HR0 : Hid (Blk w0 (G + 1 + 1) 48 #[.int .i64 0, .slice none 0 0, .slice none 0 0, .int .i64 0, .bool false]) := Lib.hid (by rw [hw0, hG]; exact Blk.new' _ _ _ (by simp))
  rw [← hw0]
  have HGW : Hid (G = w.heap.size) := Lib.hid hG
  clear hw0 hG
  have HD0 := Lib.hid (H.out.new HN0.out)
  have HI0 := Lib.hid (HI.out.new HN0.out)
  have HB0W : Hid (New wb w0) := Lib.hid (HBW.out.tr HN0.out)
  have HNO : Hid (∀ k, DkOurs g bs bf v k → k < G) := Lib.hid (fun k ho => by have := (H.out.ours k ho).2; have := HGW.out; omega)
  have k0 : w0.cell? ⟨G + 1, 0, none⟩ = some (.int .i64 a.kind) := by rw [hA0.cell 0]; simpa using a.at0
  have k1 : w0.cell? ⟨G + 1, 1, none⟩ = some (.int .i64 a.pos) := by rw [hA0.cell 1]; simpa using a.at1
  have k66 : w0.cell? ⟨G + 1, 66, none⟩ = some (.slice a.A a.n a.c) := by rw [hA0.cell 66]; simpa using AC.at66 HA.out.s
  have HK2 : Hid (w0.rangeAt (G + 1) 2 (u8s a.s)) := Lib.hid (fun j u hu => by rw [hA0.cell (2 + j)]; simpa using AC.atS j u hu)
  have HA0 := Lib.hid hA0
  clear hA0
  have HKR : Hid (Rd (fun b => b < wb.heap.size) w0 1 a.A a.n (bools a.keep)) := Lib.hid (HB0W.out.rd HA.out.rd)
  have HMW := Lib.hid (HM.out.cut H.out.ok a.keep)
  have HTW : Hid ((r.cut a.keep).tot ≤ r.tot + 1) := Lib.hid (by have := r.tot_cut a.keep; omega)
  go_wp2_with fail
  refine (cut_in HD0.out a.A a.n a.c a.keep HKR.out HA.out.n (fun k hk e => by have := HD0.out.lo; omega)).mono ?_
  rintro e w5 ⟨rfl, hD5, hF5⟩
  have HD5 := Lib.hid hD5
  have HF5 : Hid (Fr (DkOurs g bs bf v) w0 w5) := Lib.hid (hF5.mono fun b _ hb => by
    rcases hb with h | h | h
    · exact .inl h
    · exact .inr (.inl h)
    · exact .inr (.inr (.inl h)))
  have HI5 := Lib.hid (HI0.out.fr HF5.out (fun k hk => dk_not HD0.out k hk))
  have HB5 := Lib.hid (HB0.out.fr HF5.out (fun ho => by have := HNO.out _ ho; omega))
  have hA5 := HA0.out.fr HF5.out (fun ho => by have := HNO.out _ ho; omega)
  have HR5 := Lib.hid (HR0.out.fr HF5.out (fun ho => by have := HNO.out _ ho; omega))
  have j66 : w5.cell? ⟨G + 1, 66, none⟩ = some (.slice a.A a.n a.c) := by rw [hA5.cell 66]; simpa using AC.at66 HA.out.s
  have HKR5 : Hid (Rd (fun b => b < wb.heap.size) w5 1 a.A a.n (bools a.keep)) := Lib.hid (HKR.out.fr HF5.out (fun k hk ho => by have := (HD0.out.ours k ho).1; omega))
  clear hD5 hF5 hA5 k0 k1 k66 k2 k3 k4 k5
  have hrc := rcut_any r A1 c1 A2 c2 a.A a.n a.c a.keep w5 HI5.out HKR5.out (fun k hk => by have := HB0W.out.size; have := HF5.out.size; omega) (by have := HT.out; omega) HA.out.n
  rw [HE.out] at hrc
  have HRC := Lib.hid hrc
  clear hrc
  go_wp2_with ((with_reducible refine atOp ⟨some 61, .load _ _, _, _, _, _⟩ ?_); refine wpList_load_any rfl _ rfl Try.underlying48 rfl rfl rfl HB5.out ?_)
  refine HRC.out.mono ?_
  rintro e w6 ⟨⟨B1, d1, B2, d2, rfl, hI6⟩, hN6⟩
  have HI6 := Lib.hid hI6
  have HN6 := Lib.hid hN6
  have HR6 := Lib.hid (New.blk hN6 HR5.out)
  clear hI6 hN6
  generalize r.cut a.keep = r1 at *
  generalize p.cut a.keep = p1 at *
  unfold RfV
  go_wp2_with ((with_reducible refine atOp ⟨none, .store 48 (.tmp 6) _, _, _, _, _⟩ ?_); refine wpList_store_any rfl (.tmp 6) (.tmp 64) rfl rfl rfl rfl HR6.out rfl (rf_one _ _ _ _ _ _ _ _ _) ?_; intro w8 hb8 hf8; have HB8 := Lib.hid hb8; have HF8 := Lib.hid hf8; clear hb8 hf8)
  refine bodyPost_ret (results_row2 rfl _ _ (G + 1 + 1) _ _ rfl HB8.out Try.underlying48 rfl rfl) rfl ?_
  have hD6 := HD5.out.new HN6.out
  have hwb5 : Fr (DkOurs g bs bf v) w w6 := ((HN0.out.toFr _).trans HF5.out).trans (HN6.out.toFr _)
  exact ⟨_, p1, r1, B1, d1, B2, d2, rfl, do_end (S := NoB) hD6 (Fr.refl _ w6) (fun _ h => h.elim) hD6 HI6.out HMW.out HTW.out HR6.out HF8.out hwb5 (fun _ h => h.elim) (by have := HGW.out; omega)⟩

set_option maxHeartbeats 8000000 in
set_option maxRecDepth 100000 in
theorem do_fuse {w wb : World} {base g bs bf : Nat} {v : Value} {p : DP} (h : Dk w base g bs bf v p) (r : RP) (A1 : Option Addr) (c1 : Nat) (A2 : Option Addr) (c2 : Nat) (hr : RfIn w r A1 A2) (hM : Mt p r) (hn : r.tot ≤ 1000) (a : AC) (ha : a.Good wb) (hb : New wb w) (hwb : wb.heap.size ≤ base) (k2 : (kq a.kind == 0) = false) (k3 : (kq a.kind == 1) = false) (k4 : (kq a.kind == 2) = false) (k5 : (kq a.kind == 3) = false) (k6 : (kq a.kind == 4) = true) :
    Calls Try.prog 18 #[.pointer (some ⟨g, 0, none⟩), .agg (RfV r A1 c1 A2 c2), .agg a.cells.toArray] w fun e w' => DoEnd w v base g bs bf r.tot e w' := by
  unfold kq at k2 k3 k4 k5 k6
  have H := Lib.hid h
  have HI := Lib.hid hr
  have HM := Lib.hid hM
  have HT := Lib.hid hn
  have HA := Lib.hid ha
  have HBW := Lib.hid hb
  have hsz := h.ok.s2
  have hsz1 := h.ok.s1
  have hfz := h.ok.fz
  have kb := bounds_i64 ha.kind
  have HE1 : RfV r A1 c1 A2 c2 = #[.int .i64 p.size, .slice A1 r.sure.length c1, .slice A2 r.fresh.length c2, .int .i64 p.fuse, .bool p.down] := by
    unfold RfV; rw [hM.size, hM.fuse, hM.down]
  have HE := Lib.hid HE1
  rw [HE1]
  clear h hr hM hn HE1 ha hb
  go_enter Try.func18, Try.ntmps18
  go_upto_region 1 with fail
  obtain ⟨w0, hw0⟩ : ∃ w0 : World, w0 = ((w.alloc (.cells #[.int .i64 p.size, .slice A1 r.sure.length c1, .slice A2 r.fresh.length c2, .int .i64 p.fuse, .bool p.down] 48)).alloc (.cells a.cells.toArray 33)).alloc (.cells #[.int .i64 0, .slice none 0 0, .slice none 0 0, .int .i64 0, .bool false] 48) := ⟨_, rfl⟩
  obtain ⟨G, hG⟩ : ∃ G, G = w.heap.size := ⟨_, rfl⟩
  rw [← hG]
  have HN0 : Hid (New w w0) := Lib.hid (by rw [hw0]; exact (((New.refl w).al _).al _).al _)
  have HB0 : Hid (Blk w0 G 48 #[.int .i64 p.size, .slice A1 r.sure.length c1, .slice A2 r.fresh.length c2, .int .i64 p.fuse, .bool p.down]) := Lib.hid (by rw [hw0, hG]; exact ((Blk.new _ _ _).alloc _).alloc _)
  have hA0 : Blk w0 (G + 1) 33 a.cells.toArray := by rw [hw0, hG]; exact (Blk.new' _ _ _ (by simp)).alloc _
  have HR0 : Hid (Blk w0 (G + 1 + 1) 48 #[.int .i64 0, .slice none 0 0, .slice none 0 0, .int .i64 0, .bool false]) := Lib.hid (by rw [hw0, hG]; exact Blk.new' _ _ _ (by simp))
  rw [← hw0]
  have HGW : Hid (G = w.heap.size) := Lib.hid hG
  clear hw0 hG
  have HD0 := Lib.hid (H.out.new HN0.out)
  have HI0 := Lib.hid (HI.out.new HN0.out)
  have HB0W : Hid (New wb w0) := Lib.hid (HBW.out.tr HN0.out)
  have HNO : Hid (∀ k, DkOurs g bs bf v k → k < G) := Lib.hid (fun k ho => by have := (H.out.ours k ho).2; have := HGW.out; omega)
  have k0 : w0.cell? ⟨G + 1, 0, none⟩ = some (.int .i64 a.kind) := by rw [hA0.cell 0]; simpa using a.at0
  have k1 : w0.cell? ⟨G + 1, 1, none⟩ = some (.int .i64 a.pos) := by rw [hA0.cell 1]; simpa using a.at1
  have k66 : w0.cell? ⟨G + 1, 66, none⟩ = some (.slice a.A a.n a.c) := by rw [hA0.cell 66]; simpa using AC.at66 HA.out.s
  have HK2 : Hid (w0.rangeAt (G + 1) 2 (u8s a.s)) := Lib.hid (fun j u hu => by rw [hA0.cell (2 + j)]; simpa using AC.atS j u hu)
  have HA0 := Lib.hid hA0
  clear hA0
  have HMW := Lib.hid (HM.out.fused a.pos)
  have HTW : Hid ((r.fused a.pos).tot ≤ r.tot + 1) := Lib.hid (by unfold RP.fused RP.tot; simp)
  have hpb := bounds_i64 HA.out.pos
  go_upto_region 13 with fail
  go_wp2_with fail
  refine (fuse_in HD0.out HA.out.pos).mono ?_
  rintro e w5 ⟨rfl, hD5, hF5⟩
  have HD5 := Lib.hid hD5
  have HF5 : Hid (Fr (DkOurs g bs bf v) w0 w5) := Lib.hid (hF5.mono fun b _ hb => .inl hb)
  have HI5 := Lib.hid (HI0.out.fr HF5.out (fun k hk => dk_not HD0.out k hk))
  have HB5 := Lib.hid (HB0.out.fr HF5.out (fun ho => by have := HNO.out _ ho; omega))
  have hA5 := HA0.out.fr HF5.out (fun ho => by have := HNO.out _ ho; omega)
  have HR5 := Lib.hid (HR0.out.fr HF5.out (fun ho => by have := HNO.out _ ho; omega))
  have j1 : w5.cell? ⟨G + 1, 1, none⟩ = some (.int .i64 a.pos) := by rw [hA5.cell 1]; simpa using a.at1
  have i3 := HB5.out.cell 3
  have q3 := HB5.out.frozen 3
  have HWB5 : Hid (Fr (DkOurs g bs bf v) w w5) := Lib.hid ((HN0.out.toFr _).trans HF5.out)
  obtain ⟨mx, hmx⟩ : ∃ mx, mx = max a.pos (-1) := ⟨_, rfl⟩
  have hmx2 : (a.pos < -1 ∧ mx = -1) ∨ (-1 ≤ a.pos ∧ mx = a.pos) := by omega
  have HMX := Lib.hid hmx
  have hgl : w.heap.size ≤ G := by have := HGW.out; omega
  clear hD5 hF5 hA5 k0 k1 k66 k2 k3 k4 k5 k6 hmx
  go_upto_region 15 with fail
  all_goals
    obtain ⟨w6, hw6⟩ : ∃ w6 : World, w6 = w5.setCell ⟨G, 3, none⟩ (.int .i64 mx) := ⟨_, rfl⟩
    have hmxe : mx = -1 ∨ mx = a.pos := by omega
    have HB6 : Hid (Blk w6 G 48 #[.int .i64 p.size, .slice A1 r.sure.length c1, .slice A2 r.fresh.length c2, .int .i64 mx, .bool p.down]) := Lib.hid (by rw [hw6]; exact HB5.out.set 3 _)
    have HF6 : Hid (Fr (fun k => k = G) w5 w6) := Lib.hid (by rw [hw6]; exact (Fr.refl (fun k => k = G) w5).setCell (p := ⟨G, 3, none⟩) (fun _ => rfl) _)
    have HR6 := Lib.hid (HR5.out.fr HF6.out (by omega))
    first
      | rw [show w5.setCell ⟨G, 3, none⟩ (.int .i64 (-1)) = w6 from by rw [hw6, show mx = -1 by omega]]
      | rw [show w5.setCell ⟨G, 3, none⟩ (.int .i64 a.pos) = w6 from by rw [hw6, show mx = a.pos by omega]]
      | rw [show w5.setCell ⟨G, 3, none⟩ (.int .i64 (if a.pos < -1 then -1 else a.pos)) = w6 from by rw [hw6, show mx = (if a.pos < -1 then -1 else a.pos) by split <;> omega]]
    clear hw6 i3 q3 j1
    go_wp2_with (first
      | ((with_reducible refine atOp ⟨some 75, .load _ _, _, _, _, _⟩ ?_); refine wpList_load_any rfl _ rfl Try.underlying48 rfl rfl rfl HB6.out ?_)
      | ((with_reducible refine atOp ⟨none, .store 48 (.tmp 6) _, _, _, _, _⟩ ?_); refine wpList_store_any rfl (.tmp 6) (.tmp 75) rfl rfl rfl rfl HR6.out rfl (rf_one _ _ _ _ _ _ _ _ _) ?_; intro w8 hb8 hf8; have HB8 := Lib.hid hb8; have HF8 := Lib.hid hf8; clear hb8 hf8))
    all_goals
      refine bodyPost_ret (results_row2 rfl _ _ (G + 1 + 1) _ _ rfl HB8.out Try.underlying48 rfl rfl) rfl ?_
      have hD6 := HD5.out.fr HF6.out (fun k hk => by subst hk; exact dk_notB HD5.out HB5.out)
      have hI6 := HI5.out.fr HF6.out (fun k hk => by subst hk; exact IsT.not_blk HB5.out (by decide))
      have he : RfV (r.fused a.pos) A1 c1 A2 c2 = #[.int .i64 p.size, .slice A1 r.sure.length c1, .slice A2 r.fresh.length c2, .int .i64 mx, .bool p.down] := by
        unfold RfV RP.fused
        rw [HMX.out, ← HM.out.size, ← HM.out.down]
      refine ⟨_, _, _, A1, c1, A2, c2, by rw [he]; rfl, do_end (S := NoB) (r1 := r.fused a.pos) hD6 (Fr.refl _ w6) (fun _ h => h.elim) hD6 ⟨hI6.sure, hI6.fresh, hI6.ok⟩ HMW.out HTW.out HR6.out HF8.out (HWB5.out.trans' HF6.out (fun k hk e => by subst e; omega)) (fun _ h => h.elim) (by omega)⟩
end Go.Proofs.Ytpdgnidoglmgcaa
