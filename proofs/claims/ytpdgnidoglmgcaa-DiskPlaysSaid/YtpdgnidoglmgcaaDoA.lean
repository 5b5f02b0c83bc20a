/- An act done on a disk and on the document's. No condition but that the two go with each other. -/
import Derived.Test.YtpdgnidoglmgcaaDsA
import Derived.Test.YtpdgnidoglmgcaaDkJ
import Derived.Deep.CutBlock
namespace Go.Proofs.Ytpdgnidoglmgcaa
open Go.RowKit Go.Maps

/-- What holds behind an act. -/
def DoEnd (w : World) (v : Value) (base g bs bf : Nat) (n : Nat) (e : Ending) (w' : World) : Prop := ∃ v' p' r' A1 c1 A2 c2, e = .returned (.tuple #[.agg (RfV r' A1 c1 A2 c2), .bool true]) ∧ Dk w' base g bs bf v' p' ∧ RfIn w' r' A1 A2 ∧ Mt p' r' ∧ r'.tot ≤ n + 1 ∧ Fr (DkOurs g bs bf v) w w'
/-- The act's kind, as the switch asks it. -/
def kq (k : Int) : Int := (IntKind.u64.wrap k).tmod 6
theorem dk_notB {w : World} {base g bs bf : Nat} {v : Value} {p : DP} (h : Dk w base g bs bf v p) {k : Nat} {cs : Array Value} (hk : Blk w k 48 cs) : ¬ DkOurs g bs bf v k := by
  rintro (rfl | rfl | rfl | ho)
  · exact Blk.ne_ hk h.blk (by decide) rfl
  · exact blk_map hk h.ms rfl
  · exact blk_map hk h.mw rfl
  · exact own_ne h.own hk (by decide) ho
theorem fr5 {S : Nat → Prop} {w w5 : World} {g : Nat} (h : Fr S w w5) (hg : S g) (a b c d e : Value) : Fr S w (((((w5.setCell ⟨g, 0, none⟩ a).setCell ⟨g, 1, none⟩ b).setCell ⟨g, 2, none⟩ c).setCell ⟨g, 3, none⟩ d).setCell ⟨g, 4, none⟩ e) :=
  ((((h.setCell (p := ⟨g, 0, none⟩) (fun _ => hg) _).setCell (p := ⟨g, 1, none⟩) (fun _ => hg) _).setCell (p := ⟨g, 2, none⟩) (fun _ => hg) _).setCell (p := ⟨g, 3, none⟩) (fun _ => hg) _).setCell (p := ⟨g, 4, none⟩) (fun _ => hg) _
theorem blk5 {w5 : World} {g : Nat} {a0 b0 c0 d0 e0 : Value} (h : Blk w5 g 48 #[a0, b0, c0, d0, e0]) (a b c d e : Value) : Blk (((((w5.setCell ⟨g, 0, none⟩ a).setCell ⟨g, 1, none⟩ b).setCell ⟨g, 2, none⟩ c).setCell ⟨g, 3, none⟩ d).setCell ⟨g, 4, none⟩ e) g 48 #[a, b, c, d, e] := by
  have := ((((h.set 0 a).set 1 b).set 2 c).set 3 d).set 4 e
  simpa using this
/-- The end of an act: the disk in w5, the result's block filled. -/
theorem do_end {w wz w5 wF : World} {base g bs bf g5 bs5 bf5 R n : Nat} {v v5 : Value} {p p1 : DP} {r1 : RP} {B1 B2 : Option Addr} {cs : Array Value} {S T : Nat → Prop} (hDz : Dk wz base g bs bf v p) (hF5 : Fr S wz w5) (hS : ∀ k, S k → DkOurs g bs bf v k) (hD5 : Dk w5 base g5 bs5 bf5 v5 p1) (hI : RfIn wz r1 B1 B2) (hM : Mt p1 r1) (ht : r1.tot ≤ n + 1) (hR : Blk wz R 48 cs)
    (hF : Fr (fun k => k = R) w5 wF) (hN : Fr T w wz) (hST : ∀ k, S k → T k) (hRw : w.heap.size ≤ R) : Dk wF base g5 bs5 bf5 v5 p1 ∧ RfIn wF r1 B1 B2 ∧ Mt p1 r1 ∧ r1.tot ≤ n + 1 ∧ Fr T w wF := by
  have hR5 := hR.fr hF5 (fun hs => dk_notB hDz hR (hS _ hs))
  refine ⟨hD5.fr hF (fun k hk => by subst hk; exact dk_notB hD5 hR5), (hI.fr hF5 (fun k hk => dk_not hDz k (hS k hk))).fr hF (fun k hk => by subst hk; exact IsT.not_blk hR5 (by decide)), hM, ht, ?_⟩
  exact (hN.trans' hF5 (fun k _ hk => hST k hk)).trans' hF (fun k hk e => by subst e; omega)
theorem dk_lt {w : World} {base g bs bf : Nat} {v : Value} {p : DP} (h : Dk w base g bs bf v p) {k : Nat} (hk : w.heap.size ≤ k) : ¬ DkOurs g bs bf v k := fun ho => by have := (h.ours k ho).2; omega

set_option maxHeartbeats 8000000 in
set_option maxRecDepth 100000 in
theorem do_write {w wb : World} {base g bs bf : Nat} {v : Value} {p : DP} (h : Dk w base g bs bf v p) (r : RP) (A1 : Option Addr) (c1 : Nat) (A2 : Option Addr) (c2 : Nat) (hr : RfIn w r A1 A2) (hM : Mt p r) (hn : r.tot ≤ 1000) (a : AC) (ha : a.Good wb) (hb : New wb w) (hwb : wb.heap.size ≤ base) (hk : (kq a.kind == 0) = true ∨ ((kq a.kind == 0) = false ∧ (kq a.kind == 1) = true)) :
    Calls Try.prog 18 #[.pointer (some ⟨g, 0, none⟩), .agg (RfV r A1 c1 A2 c2), .agg a.cells.toArray] w fun e w' => DoEnd w v base g bs bf r.tot e w' := by
  unfold kq at hk
  have H := Lib.hid h
  have HI := Lib.hid hr
  have HM := Lib.hid hM
  have HT := Lib.hid hn
  have HA := Lib.hid ha
  have HBW := Lib.hid hb
  have hsz := h.ok.s2
  have hsz1 := h.ok.s1
  have hfz := h.ok.fz
  have kb := bounds_i64 ha.kind
  have HE1 : RfV r A1 c1 A2 c2 = #[.int .i64 p.size, .slice A1 r.sure.length c1, .slice A2 r.fresh.length c2, .int .i64 p.fuse, .bool p.down] := by
    unfold RfV; rw [hM.size, hM.fuse, hM.down]
  have HE := Lib.hid HE1
  rw [HE1]
  clear h hr hM hn HE1 ha hb
  go_enter Try.func18, Try.ntmps18
  go_upto_region 1 with fail
  obtain ⟨w0, hw0⟩ : ∃ w0 : World, w0 = ((w.alloc (.cells #[.int .i64 p.size, .slice A1 r.sure.length c1, .slice A2 r.fresh.length c2, .int .i64 p.fuse, .bool p.down] 48)).alloc (.cells a.cells.toArray 33)).alloc (.cells #[.int .i64 0, .slice none 0 0, .slice none 0 0, .int .i64 0, .bool false] 48) := ⟨_, rfl⟩
  obtain ⟨G, hG⟩ : ∃ G, G = w.heap.size := ⟨_, rfl⟩
  rw [← hG]
  have HN0 : Hid (New w w0) := Lib.hid (by rw [hw0]; exact (((New.refl w).al _).al _).al _)
  have HB0 : Hid (Blk w0 G 48 #[.int .i64 p.size, .slice A1 r.sure.length c1, .slice A2 r.fresh.length c2, .int .i64 p.fuse, .bool p.down]) := Lib.hid (by rw [hw0, hG]; exact ((Blk.new _ _ _).alloc _).alloc _)
  have hA0 : Blk w0 (G + 1) 33 a.cells.toArray := by rw [hw0, hG]; exact (Blk.new' _ _ _ (by simp)).alloc _
  have HR0 : Hid (Blk w0 (G + 1 + 1) 48 #[.int .i64 0, .slice none 0 0, .slice none 0 0, .int .i64 0, .bool false]) := Lib.hid (by rw [hw0, hG]; exact Blk.new' _ _ _ (by simp))
  rw [← hw0]
  have HGW : Hid (G = w.heap.size) := Lib.hid hG
  clear hw0 hG
  have HD0 := Lib.hid (H.out.new HN0.out)
  have HI0 := Lib.hid (HI.out.new HN0.out)
  have HB0W : Hid (New wb w0) := Lib.hid (HBW.out.tr HN0.out)
  have HNO : Hid (∀ k, DkOurs g bs bf v k → k < G) := Lib.hid (fun k ho => by have := (H.out.ours k ho).2; have := HGW.out; omega)
  have k0 : w0.cell? ⟨G + 1, 0, none⟩ = some (.int .i64 a.kind) := by rw [hA0.cell 0]; simpa using a.at0
  have k1 : w0.cell? ⟨G + 1, 1, none⟩ = some (.int .i64 a.pos) := by rw [hA0.cell 1]; simpa using a.at1
  have k66 : w0.cell? ⟨G + 1, 66, none⟩ = some (.slice a.A a.n a.c) := by rw [hA0.cell 66]; simpa using AC.at66 HA.out.s
  have HK2 : Hid (w0.rangeAt (G + 1) 2 (u8s a.s)) := Lib.hid (fun j u hu => by rw [hA0.cell (2 + j)]; simpa using AC.atS j u hu)
  have HA0 := Lib.hid hA0
  clear hA0
  have HW0 := fun (w' : World) (hN : New w0 w') => rwrite_any r A1 c1 A2 c2 a.pos a.s w' (HI0.out.new hN) HA.out.s (by have := HT.out; omega) HA.out.pos (by rw [HM.out.fuse]; simp [Lit.wf, IntKind.min, IntKind.max, IntKind.signed, IntKind.bits]; omega) (by rw [HM.out.size]; omega)
  rw [HE.out, HM.out.wcode] at HW0
  have HRW := Lib.hid HW0
  have HMW := Lib.hid (HM.out.write a.pos a.s)
  have HTW := Lib.hid (r.tot_write a.pos a.s)
  have hnum := num_errV (p.wcode a.pos)
  have hwa := fun (w' : World) (hd : Dk w' base g bs bf v p) => write_all hd a.pos HA.out.s
  have hszw : (r.write a.pos a.s).size = p.size := by rw [HMW.out.size, DP.doWrite_size]
  generalize errV (p.wcode a.pos) = ev at hnum hwa
  generalize p.wcode a.pos = cd at *
  generalize r.write a.pos a.s = r1 at *
  generalize p.doWrite a.pos a.s = p1 at *
  have HNUM := Lib.hid hnum
  have HWA := Lib.hid hwa
  clear HW0 hnum hwa hszw
  rcases hk with k2 | ⟨k2, k3⟩
  all_goals
    go_wp2_with (first
      | ((with_reducible refine atOp ⟨some 24, .load _ _, _, _, _, _⟩ ?_); refine wpList_load_any rfl _ rfl Try.underlying48 rfl rfl rfl HB0.out ?_)
      | ((with_reducible refine atOp ⟨some 28, .load _ _, _, _, _, _⟩ ?_); refine wpList_load_range rfl _ rfl rfl HK2.out Try.underlying31 rfl (by rw [u8s_len, HA.out.s.1]; rfl) ?_))
    refine (HRW.out w0 (New.refl _)).mono ?_
    rintro e w1 ⟨⟨B1, d1, B2, d2, rfl, hI1⟩, hN1⟩
    have HI1 := Lib.hid hI1
    have HN1 := Lib.hid hN1
    clear hI1 hN1
    unfold RfV
    go_wp2_with ((with_reducible refine atOp ⟨some 8, .alloc _, _, _, _, _⟩ ?_); refine wpList_newrow (C := #[.int .i64 r1.size, .slice B1 r1.sure.length d1, .slice B2 r1.fresh.length d2, .int .i64 r1.fuse, .bool r1.down]) rfl rfl rfl _ _ rfl rInfo rfl rfl rfl rfl (rf_one _ _ _ _ _ _ _ _ _) ?_)
    obtain ⟨wz, hwz⟩ : ∃ wz : World, wz = w1.alloc (.cells #[.int .i64 r1.size, .slice B1 r1.sure.length d1, .slice B2 r1.fresh.length d2, .int .i64 r1.fuse, .bool r1.down] 48) := ⟨_, rfl⟩
    obtain ⟨G8, hG8⟩ : ∃ G8, G8 = w1.heap.size := ⟨_, rfl⟩
    rw [← hwz, ← hG8]
    have HNz : Hid (New w0 wz) := Lib.hid (by rw [hwz]; exact HN1.out.al _)
    have HB8 : Hid (Blk wz G8 48 #[.int .i64 r1.size, .slice B1 r1.sure.length d1, .slice B2 r1.fresh.length d2, .int .i64 r1.fuse, .bool r1.down]) := Lib.hid (by rw [hwz, hG8]; exact Blk.new _ _ _)
    have HIz : Hid (RfIn wz r1 B1 B2) := Lib.hid (by rw [hwz]; exact HI1.out.new ((New.refl _).al _))
    have HG8 : Hid (G + 1 + 1 < G8) := Lib.hid (by have h1 := HR0.out.lt; have h2 := HN1.out.size; omega)
    have HDz := Lib.hid (HD0.out.new HNz.out)
    have HRz := Lib.hid (New.blk HNz.out HR0.out)
    clear hwz hG8 k0 k1 k66 k2
    have hS : ∀ w', Fr (fun k => DkOurs g bs bf v k ∨ k = G + 1 + 1) wz w' → w'.rangeAt (G + 1) 2 (u8s a.s) ∧ w'.cell? ⟨G + 1, 1, none⟩ = some (.int .i64 a.pos) ∧ w'.cell? ⟨G8, 0, none⟩ = some (.int .i64 r1.size) ∧ w'.cell? ⟨G8, 1, none⟩ = some (.slice B1 r1.sure.length d1) ∧ w'.cell? ⟨G8, 2, none⟩ = some (.slice B2 r1.fresh.length d2) ∧ w'.cell? ⟨G8, 3, none⟩ = some (.int .i64 r1.fuse) ∧ w'.cell? ⟨G8, 4, none⟩ = some (.bool r1.down) := fun w' hF => by
      have hb := HB8.out.fr hF (fun hk => by rcases hk with hk | hk; have := HNO.out _ hk; have := HG8.out; omega; have := HG8.out; omega)
      have ha := (New.blk HNz.out HA0.out).fr hF (fun hk => by rcases hk with hk | hk; have := HNO.out _ hk; omega; omega)
      exact ⟨fun j u hu => by rw [ha.cell (2 + j)]; simpa using AC.atS j u hu, by rw [ha.cell 1]; simpa using a.at1, hb.cell 0, hb.cell 1, hb.cell 2, hb.cell 3, hb.cell 4⟩
    have hu := Try.underlying31
    have hi : (Try.prog.info? 31).map (·.size) = some (u8s a.s).length := by rw [u8s_len, HA.out.s.1]; rfl
    go_region_held3 (fun w' => w'.rangeAt (G + 1) 2 (u8s a.s) ∧ w'.cell? ⟨G + 1, 1, none⟩ = some (.int .i64 a.pos) ∧ w'.cell? ⟨G8, 0, none⟩ = some (.int .i64 r1.size) ∧ w'.cell? ⟨G8, 1, none⟩ = some (.slice B1 r1.sure.length d1) ∧ w'.cell? ⟨G8, 2, none⟩ = some (.slice B2 r1.fresh.length d2) ∧ w'.cell? ⟨G8, 3, none⟩ = some (.int .i64 r1.fuse) ∧ w'.cell? ⟨G8, 4, none⟩ = some (.bool r1.down))
      (exact hS _ (by repeat (first | with_reducible exact Fr.refl _ _ | with_reducible assumption | with_reducible refine Fr.drew ?_ | with_reducible refine Fr.alloc ?_ _ | refine Fr.setCell ?_ (fun _ => .inr rfl) _) : Fr (fun k => DkOurs g bs bf v k ∨ k = G + 1 + 1) wz _))
      (first
        | (go_at_call 8; refine (HWA.out _ (HDz.out.new ((New.refl wz).dr))).mono ?_; rintro e w5 ⟨rfl, v5, hD5, hF5, hv5⟩; have hFz : Fr (fun k => DkOurs g bs bf v k ∨ k = G + 1 + 1) wz w5 := (hF5.mono fun b _ h => Or.inl h).ofDrew; have HD5 := Lib.hid hD5; have HF5 := Lib.hid hF5.ofDrew; have hR5 := HRz.out.fr HF5.out (fun ho => by have := HNO.out _ ho; omega); have m0 := hR5.cell 0; have m1 := hR5.cell 1; have m2 := hR5.cell 2; have m3 := hR5.cell 3; have m4 := hR5.cell 4; have f0 := hR5.frozen 0; have f1 := hR5.frozen 1; have f2 := hR5.frozen 2; have f3 := hR5.frozen 3; have f4 := hR5.frozen 4; have HR5 := Lib.hid hR5; clear hD5 hF5 hv5 hR5)
        | (go_at_call 26; refine (HNUM.out _).mono ?_; rintro e w6 ⟨rfl, rfl⟩))
    go_wp2_with fail
    refine bodyPost_ret (results_row2 rfl _ _ (G + 1 + 1) _ _ rfl (blk5 HR5.out _ _ _ _ _) Try.underlying48 rfl rfl) rfl ?_
    exact ⟨v5, p1, r1, B1, d1, B2, d2, rfl, do_end HDz.out HF5.out (fun _ h => h) HD5.out HIz.out HMW.out HTW.out HRz.out (fr5 (S := fun k => k = G + 1 + 1) (Fr.refl _ w5) rfl _ _ _ _ _) ((HN0.out.tr HNz.out).toFr _) (fun _ h => h) (by have := HGW.out; omega)⟩
end Go.Proofs.Ytpdgnidoglmgcaa
