/- An act done on a disk and on the document's. No condition but that the two go with each other. -/
import Derived.Test.YtpdgnidoglmgcaaDoB
import Derived.Test.YtpdgnidoglmgcaaLast
import Derived.Test.YtpdgnidoglmgcaaDkJ
import Derived.Deep.CutBlock
namespace Go.Proofs.Ytpdgnidoglmgcaa
open Go.RowKit Go.Maps


set_option maxHeartbeats 8000000 in
set_option maxRecDepth 100000 in
theorem do_read {w wb : World} {base g bs bf : Nat} {v : Value} {p : DP} (h : Dk w base g bs bf v p) (r : RP) (A1 : Option Addr) (c1 : Nat) (A2 : Option Addr) (c2 : Nat) (hr : RfIn w r A1 A2) (hM : Mt p r) (hn : r.tot ≤ 1000) (a : AC) (ha : a.Good wb) (hb : New wb w) (hwb : wb.heap.size ≤ base) (k2 : (kq a.kind == 0) = false) (k3 : (kq a.kind == 1) = false) (k4 : (kq a.kind == 2) = false) (k5 : (kq a.kind == 3) = false) (k6 : (kq a.kind == 4) = false) :
    Calls Try.prog 18 #[.pointer (some ⟨g, 0, none⟩), .agg (RfV r A1 c1 A2 c2), .agg a.cells.toArray] w fun e w' => DoEnd w v base g bs bf r.tot e w' := by
  unfold kq at k2 k3 k4 k5 k6
  have H := Lib.hid h
  have HI := Lib.hid hr
  have HM := Lib.hid hM
  have HT := Lib.hid hn
  have HA := Lib.hid ha
  have HBW := Lib.hid hb
  have hsz := h.ok.s2
  have hsz1 := h.ok.s1
  have hfz := h.ok.fz
  have kb := bounds_i64 ha.kind
  have HE1 : RfV r A1 c1 A2 c2 = #[.int .i64 p.size, .slice A1 r.sure.length c1, .slice A2 r.fresh.length c2, .int .i64 p.fuse, .bool p.down] := by
    unfold RfV; rw [hM.size, hM.fuse, hM.down]
  have HE := Lib.hid HE1
  rw [HE1]
  clear h hr hM hn HE1 ha hb
  go_enter Try.func18, Try.ntmps18
  go_upto_region 1 with fail
  obtain ⟨w0, hw0⟩ : ∃ w0 : World, w0 = ((w.alloc (.cells #[.int .i64 p.size, .slice A1 r.sure.length c1, .slice A2 r.fresh.length c2, .int .i64 p.fuse, .bool p.down] 48)).alloc (.cells a.cells.toArray 33)).alloc (.cells #[.int .i64 0, .slice none 0 0, .slice none 0 0, .int .i64 0, .bool false] 48) := ⟨_, rfl⟩
  obtain ⟨G, hG⟩ : ∃ G, G = w.heap.size := ⟨_, rfl⟩
  rw [← hG]
  have HN0 : Hid (New w w0) := Lib.hid (by rw [hw0]; exact (((New.refl w).al _).al _).al _)
  have HB0 : Hid (Blk w0 G 48 #[.int .i64 p.size, .slice A1 r.sure.length c1, .slice A2 r.fresh.length c2, .int .i64 p.fuse, .bool p.down]) := Lib.hid (by rw [hw0, hG]; exact ((Blk.new _ _ _).alloc _).alloc _)
  have hA0 : Blk w0 (G + 1) 33 a.cells.toArray := by rw [hw0, hG]; exact (Blk.new' _ _ _ (by simp)).alloc _
  have HR0 : Hid (Blk w0 (G + 1 + 1) 48 #[.int .i64 0, .slice none 0 0, .slice none 0 0, .int .i64 0, .bool false]) := Lib.hid (by rw [hw0, hG]; exact Blk.new' _ _ _ (by simp))
  rw [← hw0]
  have HGW : Hid (G = w.heap.size) := Lib.hid hG
  clear hw0 hG
  have HD0 := Lib.hid (H.out.new HN0.out)
  have HI0 := Lib.hid (HI.out.new HN0.out)
  have HB0W : Hid (New wb w0) := Lib.hid (HBW.out.tr HN0.out)
  have HNO : Hid (∀ k, DkOurs g bs bf v k → k < G) := Lib.hid (fun k ho => by have := (H.out.ours k ho).2; have := HGW.out; omega)
  have k0 : w0.cell? ⟨G + 1, 0, none⟩ = some (.int .i64 a.kind) := by rw [hA0.cell 0]; simpa using a.at0
  have k1 : w0.cell? ⟨G + 1, 1, none⟩ = some (.int .i64 a.pos) := by rw [hA0.cell 1]; simpa using a.at1
  have k66 : w0.cell? ⟨G + 1, 66, none⟩ = some (.slice a.A a.n a.c) := by rw [hA0.cell 66]; simpa using AC.at66 HA.out.s
  have HK2 : Hid (w0.rangeAt (G + 1) 2 (u8s a.s)) := Lib.hid (fun j u hu => by rw [hA0.cell (2 + j)]; simpa using AC.atS j u hu)
  have HA0 := Lib.hid hA0
  clear hA0
  obtain ⟨x, hx⟩ : ∃ x, x = a.pos := ⟨_, rfl⟩
  have hxw : (Lit.int .i64 x).wf = true := by rw [hx]; exact HA.out.pos
  have hxw2 := Lib.hid hxw
  rw [← hx] at k1
  have HG : Hid (r.rget x = p.rget x ∧ r.rcode x = p.rcode x) := Lib.hid ⟨HM.out.rget x, HM.out.rcode x⟩
  have HS : Hid (SecOk (p.rget x)) := Lib.hid (H.out.ok.rget x)
  clear hx hxw k66
  go_upto_region 16 with fail
  go_wp2_with fail
  refine (read_all HD0.out x).mono ?_
  rintro e w1 ⟨rfl, hN1⟩
  have hrr := fun (w' : World) (hN : New w0 w') => rread_any r A1 c1 A2 c2 x w' (HI0.out.new hN) (by have := HT.out; omega) hxw2.out (by rw [HM.out.size]; omega)
  rw [HG.out.1, HG.out.2, HE.out] at hrr
  have HRR := Lib.hid hrr
  have hnum := num_errV (p.rcode x)
  generalize errV (p.rcode x) = ev at hnum ⊢
  generalize p.rget x = s at *
  generalize p.rcode x = cd at *
  have HNUM := Lib.hid hnum
  have HN1 : Hid (New w0 w1) := Lib.hid hN1
  have heq : ∀ w, (Op.equalIn 10000 31 (.agg (secA s)) (.agg (secA s))).run Try.prog w = .ok true w := fun w => (equal_sec HS.out HS.out w).trans (by simp)
  have j1 : ∀ o, (w1.alloc o).cell? ⟨G + 1, 1, none⟩ = some (.int .i64 x) := fun o => (HN1.out.al o).cell_ k1
  clear hN1 hrr hnum k0 k1
  go_wp2_with (first
    | ((with_reducible refine atOp ⟨some 12, .alloc _, _, _, _, _⟩ ?_); refine wpList_newvar (s := s) rfl rfl rfl _ _ rfl secInfo rfl rfl rfl HS.out.1 ?_)
    | ((with_reducible refine atOp ⟨some 84, .load _ _, _, _, _, _⟩ ?_); refine wpList_load_any rfl _ rfl Try.underlying48 rfl rfl rfl ((New.blk HN1.out HB0.out).alloc _) ?_))
  obtain ⟨w2, hw2⟩ : ∃ w2 : World, w2 = w1.alloc (.cells (secA s) 31) := ⟨_, rfl⟩
  obtain ⟨K2, hK2⟩ : ∃ K2, K2 = w1.heap.size := ⟨_, rfl⟩
  rw [← hK2]
  have HN2 : Hid (New w0 w2) := Lib.hid (by rw [hw2]; exact HN1.out.al _)
  have HB2 : Hid (Blk w2 K2 31 (secA s)) := Lib.hid (by rw [hw2, hK2]; exact Blk.new _ _ _)
  have HK2 : Hid (G + 1 + 1 < K2) := Lib.hid (by have h1 := HR0.out.lt; have h2 := HN1.out.size; omega)
  rw [← hw2]
  clear hw2 hK2
  refine (HRR.out w2 HN2.out).mono ?_
  rintro e w3 ⟨rfl, hN3⟩
  have HN3 : Hid (New w0 w3) := Lib.hid (HN2.out.tr hN3)
  have HB3 := Lib.hid (New.blk hN3 HB2.out)
  clear hN3 j1
  go_wp2_with ((with_reducible refine atOp ⟨some 14, .alloc _, _, _, _, _⟩ ?_); refine wpList_newvar (s := s) rfl rfl rfl _ _ rfl secInfo rfl rfl rfl HS.out.1 ?_)
  obtain ⟨wz, hwz⟩ : ∃ wz : World, wz = w3.alloc (.cells (secA s) 31) := ⟨_, rfl⟩
  obtain ⟨K3, hK3⟩ : ∃ K3, K3 = w3.heap.size := ⟨_, rfl⟩
  rw [← hK3, ← hwz]
  have HNz : Hid (New w0 wz) := Lib.hid (by rw [hwz]; exact HN3.out.al _)
  have HBz : Hid (Blk wz K3 31 (secA s)) := Lib.hid (by rw [hwz, hK3]; exact Blk.new _ _ _)
  have HBy : Hid (Blk wz K2 31 (secA s)) := Lib.hid (by rw [hwz]; exact HB3.out.alloc _)
  have HK3 : Hid (K2 < K3) := Lib.hid (by have h1 := HB3.out.lt; omega)
  have HRz := Lib.hid (New.blk HNz.out HR0.out)
  have HBg := Lib.hid (New.blk HNz.out HB0.out)
  clear hwz hK3
  have hS : ∀ w', Fr (fun k => k = G + 1 + 1) wz w' → w'.rangeAt K2 0 (u8s s) ∧ w'.rangeAt K3 0 (u8s s) ∧ w'.cell? ⟨G, 0, none⟩ = some (.int .i64 p.size) ∧ w'.cell? ⟨G, 1, none⟩ = some (.slice A1 r.sure.length c1) ∧ w'.cell? ⟨G, 2, none⟩ = some (.slice A2 r.fresh.length c2) ∧ w'.cell? ⟨G, 3, none⟩ = some (.int .i64 p.fuse) ∧ w'.cell? ⟨G, 4, none⟩ = some (.bool p.down) := fun w' hF => by
    have h2 := HBy.out.fr hF (by have := HK2.out; omega)
    have h3 := HBz.out.fr hF (by have := HK2.out; have := HK3.out; omega)
    have hb := HBg.out.fr hF (by omega)
    exact ⟨h2.range, h3.range, hb.cell 0, hb.cell 1, hb.cell 2, hb.cell 3, hb.cell 4⟩
  have m0 := HRz.out.cell 0; have m1 := HRz.out.cell 1; have m2 := HRz.out.cell 2; have m3 := HRz.out.cell 3; have m4 := HRz.out.cell 4; have f0 := HRz.out.frozen 0; have f1 := HRz.out.frozen 1; have f2 := HRz.out.frozen 2; have f3 := HRz.out.frozen 3; have f4 := HRz.out.frozen 4
  have hu := Try.underlying31
  have hi : (Try.prog.info? 31).map (·.size) = some (u8s s).length := by rw [u8s_len, HS.out.1]; rfl
  clear k2 k3 k4 k5 k6
  refine wp_region_T (fun w' => w'.rangeAt K2 0 (u8s s) ∧ w'.rangeAt K3 0 (u8s s) ∧ w'.cell? ⟨G, 0, none⟩ = some (.int .i64 p.size) ∧ w'.cell? ⟨G, 1, none⟩ = some (.slice A1 r.sure.length c1) ∧ w'.cell? ⟨G, 2, none⟩ = some (.slice A2 r.fresh.length c2) ∧ w'.cell? ⟨G, 3, none⟩ = some (.int .i64 p.fuse) ∧ w'.cell? ⟨G, 4, none⟩ = some (.bool p.down)) 11 (by kernel_rfl) ?_
  refine wpAnyT_take (i := 0) (oi := ⟨_, _, _, _, _, _⟩) (v := .agg #[.int .i64 p.size, .slice A1 r.sure.length c1, .slice A2 r.fresh.length c2, .int .i64 p.fuse, .bool p.down]) rfl (by kernel_rfl) (by kernel_rfl) (by kernel_rfl) (by kernel_rfl) (fun _ _ _ h => h) (Or.inl ⟨by rfl, fun w hSw => by obtain ⟨g1, g2, h0, h1, h2, h3, h4⟩ := hSw; clear g1 g2; go_simp⟩) ((hS _ (by repeat (first | with_reducible exact Fr.refl _ _ | with_reducible assumption | with_reducible refine Fr.drew ?_ | with_reducible refine Fr.alloc ?_ _ | refine Fr.setCell ?_ (by intro _; rfl) _) : Fr (fun k => k = G + 1 + 1) wz _))) ?_
  try simp only [Act.put, List.setIfInBounds_toArray, List.set_cons_zero, List.set_cons_succ]
  refine wpAnyT_take (i := 1) (oi := ⟨_, _, _, _, _, _⟩) (v := .agg (u8s s).toArray) rfl (by kernel_rfl) (by kernel_rfl) (by kernel_rfl) (by kernel_rfl) (fun _ _ _ h => h) (yieldsIf_load_mid (by rfl) _ _ rfl _ _ rfl _ _ (fun w hSw => hSw.1) hu rfl hi) ((hS _ (by repeat (first | with_reducible exact Fr.refl _ _ | with_reducible assumption | with_reducible refine Fr.drew ?_ | with_reducible refine Fr.alloc ?_ _ | refine Fr.setCell ?_ (by intro _; rfl) _) : Fr (fun k => k = G + 1 + 1) wz _))) ?_
  try simp only [Act.put, List.setIfInBounds_toArray, List.set_cons_zero, List.set_cons_succ]
  refine wpAnyT_take (i := 2) (oi := ⟨_, _, _, _, _, _⟩) (v := .agg (u8s s).toArray) rfl (by kernel_rfl) (by kernel_rfl) (by kernel_rfl) (by kernel_rfl) (fun _ _ _ h => h) (yieldsIf_load_mid (by rfl) _ _ rfl _ _ rfl _ _ (fun w hSw => hSw.2.1) hu rfl hi) ((hS _ (by repeat (first | with_reducible exact Fr.refl _ _ | with_reducible assumption | with_reducible refine Fr.drew ?_ | with_reducible refine Fr.alloc ?_ _ | refine Fr.setCell ?_ (by intro _; rfl) _) : Fr (fun k => k = G + 1 + 1) wz _))) ?_
  try simp only [Act.put, List.setIfInBounds_toArray, List.set_cons_zero, List.set_cons_succ]
  refine wpAnyT_take (i := 3) (oi := ⟨_, _, _, _, _, _⟩) (v := .bool true) rfl (by kernel_rfl) (by kernel_rfl) (by kernel_rfl) (by kernel_rfl) (fun _ _ _ h => h) (Or.inl ⟨by rfl, fun w hSw => by clear hSw; have heq1 : (Op.equalIn 10000 31 (.agg (u8s s).toArray) (.agg (u8s s).toArray)).run Try.prog w = .ok true w := heq w; go_simp⟩) ((hS _ (by repeat (first | with_reducible exact Fr.refl _ _ | with_reducible assumption | with_reducible refine Fr.drew ?_ | with_reducible refine Fr.alloc ?_ _ | refine Fr.setCell ?_ (by intro _; rfl) _) : Fr (fun k => k = G + 1 + 1) wz _))) ?_
  try simp only [Act.put, List.setIfInBounds_toArray, List.set_cons_zero, List.set_cons_succ]
  refine wpAnyT_take (i := 4) (oi := ⟨_, _, _, _, _, _⟩) (v := .bool true) rfl (by kernel_rfl) (by kernel_rfl) (by kernel_rfl) (by kernel_rfl) (fun _ _ _ h => h) (Or.inl ⟨by rfl, fun w hSw => by clear hSw; go_simp⟩) ((hS _ (by repeat (first | with_reducible exact Fr.refl _ _ | with_reducible assumption | with_reducible refine Fr.drew ?_ | with_reducible refine Fr.alloc ?_ _ | refine Fr.setCell ?_ (by intro _; rfl) _) : Fr (fun k => k = G + 1 + 1) wz _))) ?_
  try simp only [Act.put, List.setIfInBounds_toArray, List.set_cons_zero, List.set_cons_succ]
  refine wpAnyT_take (i := 5) (oi := ⟨_, _, _, _, _, _⟩) (v := ev) rfl (by kernel_rfl) (by kernel_rfl) (by kernel_rfl) (by kernel_rfl) (fun _ _ _ h => h) (Or.inl ⟨by rfl, fun w hSw => by clear hSw; go_simp⟩) ((hS _ (by repeat (first | with_reducible exact Fr.refl _ _ | with_reducible assumption | with_reducible refine Fr.drew ?_ | with_reducible refine Fr.alloc ?_ _ | refine Fr.setCell ?_ (by intro _; rfl) _) : Fr (fun k => k = G + 1 + 1) wz _))) ?_
  try simp only [Act.put, List.setIfInBounds_toArray, List.set_cons_zero, List.set_cons_succ]
  refine wpAnyT_take (i := 7) (oi := ⟨_, _, _, _, _, _⟩) (v := .int .i64 cd) rfl (by kernel_rfl) (by kernel_rfl) (by kernel_rfl) (by kernel_rfl) (fun _ _ _ h => h) (Or.inl ⟨by rfl, fun w hSw => by clear hSw; go_simp⟩) ((hS _ (by repeat (first | with_reducible exact Fr.refl _ _ | with_reducible assumption | with_reducible refine Fr.drew ?_ | with_reducible refine Fr.alloc ?_ _ | refine Fr.setCell ?_ (by intro _; rfl) _) : Fr (fun k => k = G + 1 + 1) wz _))) ?_
  try simp only [Act.put, List.setIfInBounds_toArray, List.set_cons_zero, List.set_cons_succ]
  refine wpAnyT_ready (rs := [6]) (by kernel_rfl) (by simp) (AllT.cons (i := 6) (o := ⟨_, _, _, _, _, _⟩) rfl (fun K hK => ?_) AllT.nil)
  go_simp
  go_at_call 26
  refine (HNUM.out _).mono ?_
  rintro e w6 ⟨rfl, rfl⟩
  try go_simp
  try simp only [Act.put, List.setIfInBounds_toArray, List.set_cons_zero, List.set_cons_succ]
  refine hK.out _ _ (fun _ => (hS _ (by repeat (first | with_reducible exact Fr.refl _ _ | with_reducible assumption | with_reducible refine Fr.drew ?_ | with_reducible refine Fr.alloc ?_ _ | refine Fr.setCell ?_ (by intro _; rfl) _) : Fr (fun k => k = G + 1 + 1) wz _))) ?_
  refine wpAnyT_take (i := 8) (oi := ⟨_, _, _, _, _, _⟩) (v := .bool true) rfl (by kernel_rfl) (by kernel_rfl) (by kernel_rfl) (by kernel_rfl) (fun _ _ _ h => h) (Or.inl ⟨by rfl, fun w hSw => by clear hSw; go_simp⟩) ((hS _ (by repeat (first | with_reducible exact Fr.refl _ _ | with_reducible assumption | with_reducible refine Fr.drew ?_ | with_reducible refine Fr.alloc ?_ _ | refine Fr.setCell ?_ (by intro _; rfl) _) : Fr (fun k => k = G + 1 + 1) wz _))) ?_
  try simp only [Act.put, List.setIfInBounds_toArray, List.set_cons_zero, List.set_cons_succ]
  refine wpAnyT_take (i := 9) (oi := ⟨_, _, _, _, _, _⟩) (v := .bool true) rfl (by kernel_rfl) (by kernel_rfl) (by kernel_rfl) (by kernel_rfl) (fun _ _ _ h => h) (Or.inl ⟨by rfl, fun w hSw => by clear hSw; go_simp⟩) ((hS _ (by repeat (first | with_reducible exact Fr.refl _ _ | with_reducible assumption | with_reducible refine Fr.drew ?_ | with_reducible refine Fr.alloc ?_ _ | refine Fr.setCell ?_ (by intro _; rfl) _) : Fr (fun k => k = G + 1 + 1) wz _))) ?_
  try simp only [Act.put, List.setIfInBounds_toArray, List.set_cons_zero, List.set_cons_succ]
  refine wpAnyT_ready (rs := [10]) (by kernel_rfl) (by simp) (AllT.cons (i := 10) (o := ⟨_, _, _, _, _, _⟩) rfl (fun K hK => ?_) AllT.nil)
  go_simp
  try simp only [Act.put, List.setIfInBounds_toArray, List.set_cons_zero, List.set_cons_succ]
  refine hK.out _ _ (fun _ => (hS _ (by repeat (first | with_reducible exact Fr.refl _ _ | with_reducible assumption | with_reducible refine Fr.drew ?_ | with_reducible refine Fr.alloc ?_ _ | refine Fr.setCell ?_ (by intro _; rfl) _) : Fr (fun k => k = G + 1 + 1) wz _))) ?_
  refine wpAnyT_ready (rs := [11]) (by kernel_rfl) (by simp) (AllT.cons (i := 11) (o := ⟨_, _, _, _, _, _⟩) rfl (fun K hK => ?_) AllT.nil)
  go_simp
  try simp only [Act.put, List.setIfInBounds_toArray, List.set_cons_zero, List.set_cons_succ]
  refine hK.out _ _ (fun h => absurd rfl h) ?_
  refine wpAnyT_done (by kernel_rfl) ?_ _
  skip
  go_wp2_with fail
  refine bodyPost_ret (results_row2 rfl _ _ (G + 1 + 1) _ _ rfl (blk5 HRz.out _ _ _ _ _) Try.underlying48 rfl rfl) rfl ?_
  have hDz := HD0.out.new HNz.out
  have hIz := HI0.out.new HNz.out
  exact ⟨v, p, r, A1, c1, A2, c2, by unfold RfV; rw [HM.out.size, HM.out.fuse, HM.out.down]; rfl, do_end (S := NoB) hDz (Fr.refl _ wz) (fun _ h => h.elim) hDz hIz HM.out (by omega) HRz.out (fr5 (S := fun k => k = G + 1 + 1) (Fr.refl _ wz) rfl _ _ _ _ _).drew ((HN0.out.tr HNz.out).toFr _) (fun _ h => h.elim) (by have := HGW.out; omega)⟩

/-- An act. -/
theorem do_any {w wb : World} {base g bs bf : Nat} {v : Value} {p : DP} (h : Dk w base g bs bf v p) (r : RP) (A1 : Option Addr) (c1 : Nat) (A2 : Option Addr) (c2 : Nat) (hr : RfIn w r A1 A2) (hM : Mt p r) (hn : r.tot ≤ 1000) (a : AC) (ha : a.Good wb) (hb : New wb w) (hwb : wb.heap.size ≤ base) :
    Calls Try.prog 18 #[.pointer (some ⟨g, 0, none⟩), .agg (RfV r A1 c1 A2 c2), .agg a.cells.toArray] w fun e w' => DoEnd w v base g bs bf r.tot e w' := by
  by_cases q0 : (kq a.kind == 0) = true
  · exact do_write h r A1 c1 A2 c2 hr hM hn a ha hb hwb (.inl q0)
  have q0 := Bool.eq_false_iff.2 q0
  by_cases q1 : (kq a.kind == 1) = true
  · exact do_write h r A1 c1 A2 c2 hr hM hn a ha hb hwb (.inr ⟨q0, q1⟩)
  have q1 := Bool.eq_false_iff.2 q1
  by_cases q2 : (kq a.kind == 2) = true
  · exact do_sync h r A1 c1 A2 c2 hr hM hn a ha hb hwb q0 q1 q2
  have q2 := Bool.eq_false_iff.2 q2
  by_cases q3 : (kq a.kind == 3) = true
  · exact do_cut h r A1 c1 A2 c2 hr hM hn a ha hb hwb q0 q1 q2 q3
  have q3 := Bool.eq_false_iff.2 q3
  by_cases q4 : (kq a.kind == 4) = true
  · exact do_fuse h r A1 c1 A2 c2 hr hM hn a ha hb hwb q0 q1 q2 q3 q4
  have q4 := Bool.eq_false_iff.2 q4
  exact do_read h r A1 c1 A2 c2 hr hM hn a ha hb hwb q0 q1 q2 q3 q4
end Go.Proofs.Ytpdgnidoglmgcaa
