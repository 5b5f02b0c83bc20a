/- Disks: copies. No condition but the disk's own. -/
import Derived.Test.YtpdgnidoglmgcaaDkE
namespace Go.Proofs.Ytpdgnidoglmgcaa
open Go.RowKit Go.Maps

theorem sclone_any (A : Option Addr) (n c : Nat) (xs : List Int) (w : World) {q : Nat → Prop} (hO : Rd q w 1 A n (i64s xs)) (hn : n ≤ 1000000) :
    Calls Try.prog 25 #[.slice A n c] w fun e w' => (∃ A' c', e = .returned (.slice A' n c') ∧ w'.ownsRow w.heap.size 3 1 (.slice A' n c') n (i64s xs)) ∧ New w w' := by
  have HR := Lib.hid hO
  rcases A with _ | ad
  · have h0 : n = 0 := by
      rcases Nat.eq_zero_or_pos n with h | h
      · exact h
      · obtain ⟨ad, h', _⟩ := hO.2 h
        cases h'
    subst h0
    have hz : xs = [] := List.eq_nil_of_length_eq_zero (by have := hO.1; rw [i64s_len] at this; omega)
    subst hz
    clear hO
    have hen := fun w => Lib.run_eql_slice_nil (P := Try.prog) w 56 3 none 0 c 0 0 Try.underlying56
    go_enter Try.func25, Try.ntmps25
    go_wp2_with fail
    go_ret
    exact ⟨⟨none, 0, rfl, World.ownsRow_nil _ _ _ _⟩, New.refl w⟩
  · clear hO
    have hen := fun w => Lib.run_eql_slice_nil (P := Try.prog) w 56 3 (some ad) n c 0 0 Try.underlying56
    go_enter Try.func25, Try.ntmps25
    go_wp2_with (at_builtin; refine wpList_app elI _ rfl (.tmp 5) (.tmp 6) rfl w.heap.size (.slice (some ⟨w.heap.size, 0, none⟩) 0 0) 0 [] rfl (own_lit (Blk.new w 3 #[]) (Nat.le_refl _)) (some ad) n c (i64s xs) rfl (New.rd (New.al (New.refl w) _) HR.out) (i64s_one xs) (by unfold maxLen; omega) (by omega) (by simp) ?_; intro A1 d1 w3 hO3 hF3 hA3; rw [Nat.zero_add]; rw [Nat.zero_add, List.nil_append] at hO3; have HO3 := Lib.hid hO3; have HN3 : Hid (New w w3) := Lib.hid ((New.al (New.refl w) _).fr hF3 (by intro k hk; simp [Value.ownBlock] at hk; omega)); clear hO3 hF3 hA3)
    go_ret
    exact ⟨⟨A1, d1, rfl, HO3.out⟩, HN3.out⟩

theorem clone_any (b n : Nat) (f : Lit → Option Value) (w : World) (h : MapAt w Try.prog 3 b n f) :
    Calls Try.prog 24 #[.map (some b)] w fun e w' => e = .returned (.map (some w.heap.size)) ∧ MapAt w' Try.prog 3 w.heap.size n f ∧ New w w' := by
  obtain ⟨o, hrun, hM⟩ := MapAt.cloned (t := 55) h
  have HM := Lib.hid hM
  have hq := fun w => run_eql_map_nil_sl (P := Try.prog) w 55 _ _ (some b) Try.underlying55
  clear hM h
  go_enter Try.func24, Try.ntmps24
  go_wp2
  rw [run_callFunc_extern Try.func32 (by kernel_rfl) (by kernel_rfl) (by kernel_rfl) (e := Extern.MapsClone.clone) (by kernel_rfl), hrun]
  simp only [Result.andThen]
  rw [Oper.upon_value]
  go_wp2
  rw [run_typeAssert_map_sl _ 55 20 _ _ _ Try.underlying55]
  simp only [Result.andThen]
  rw [Oper.upon_value]
  go_wp2
  go_ret
  exact ⟨rfl, HM.out, New.al (New.refl _) _⟩
theorem keep3 {w : World} {g g2 j : Nat} {u : Value} {x y z : Option Value} (h : w.cell? ⟨g, 1, none⟩ = x ∧ w.cell? ⟨g, 2, none⟩ = y ∧ w.cell? ⟨g, 3, none⟩ = z) (hne : g2 ≠ g) :
    (w.setCell ⟨g2, j, none⟩ u).cell? ⟨g, 1, none⟩ = x ∧ (w.setCell ⟨g2, j, none⟩ u).cell? ⟨g, 2, none⟩ = y ∧ (w.setCell ⟨g2, j, none⟩ u).cell? ⟨g, 3, none⟩ = z := by
  have e : ∀ i, (w.setCell ⟨g2, j, none⟩ u).cell? ⟨g, i, none⟩ = w.cell? ⟨g, i, none⟩ := fun i => World.cell?_setCell_other _ _ _ _ (fun e => hne (by injection e))
  rw [e, e, e]
  exact h
theorem dcopy_nil (w : World) : Calls Try.prog 11 #[.pointer none] w fun e w' => e = .returned (.pointer none) ∧ w = w' := by
  go_enter Try.func11, Try.ntmps11
  go_wp2_with fail
  go_ret
  exact ⟨rfl, rfl⟩
theorem dcopy_in {w : World} {base g bs bf : Nat} {v : Value} {p : DP} (h : Dk w base g bs bf v p) :
    Calls Try.prog 11 #[.pointer (some ⟨g, 0, none⟩)] w fun e w' => (∃ g2 bs2 bf2 v2, e = .returned (.pointer (some ⟨g2, 0, none⟩)) ∧ Dk w' w.heap.size g2 bs2 bf2 v2 p) ∧ New w w' := by
  obtain ⟨A, c, rfl, hnc, hcm, -, -⟩ := own_shape h.own
  have H := Lib.hid h
  have HO := Lib.hid (Rd.own h.own rfl)
  have HLEN : Hid (p.order.length ≤ 1000000) := Lib.hid (by have := h.ok.len; have := h.ok.s2; omega)
  have c0 := h.blk.cell 0
  have c1 := h.blk.cell 1
  have c2 := h.blk.cell 2
  have c3 := h.blk.cell 3
  have c4 := h.blk.cell 4
  have c5 := h.blk.cell 5
  clear h hnc hcm
  go_enter Try.func11, Try.ntmps11
  go_wp2_with fail
  obtain ⟨w2, hw2⟩ : ∃ w2 : World, w2 = w.alloc (.cells #[.int .i64 p.size, .map (some bs), .map (some bf), .slice A p.order.length c, .int .i64 p.fuse, .bool p.down] 58) := ⟨_, rfl⟩
  have HN2 : Hid (New w w2) := Lib.hid (by rw [hw2]; exact New.al (New.refl _) _)
  have HB2 : Hid (Blk w2 w.heap.size 58 #[.int .i64 p.size, .map (some bs), .map (some bf), .slice A p.order.length c, .int .i64 p.fuse, .bool p.down]) := Lib.hid (by rw [hw2]; exact Blk.new _ _ _)
  have HD2 := Lib.hid (H.out.new HN2.out)
  rw [← hw2]
  clear hw2 c0 c1 c2 c3 c4 c5
  obtain ⟨g2, hg2⟩ : ∃ g2, g2 = w.heap.size := ⟨_, rfl⟩
  rw [← hg2] at HB2
  rw [← hg2]
  have HG2 := Lib.hid hg2
  have hlt2 := HN2.out.size
  have hlt3 := HB2.out.lt
  clear hg2
  have hgg : g2 ≠ g := fun e => by have := H.out.blk.lt; have := HG2.out; omega
  have tok1 : True := trivial
  have hS0 : w2.drew.cell? ⟨g, 1, none⟩ = some (.map (some bs)) ∧ w2.drew.cell? ⟨g, 2, none⟩ = some (.map (some bf)) ∧ w2.drew.cell? ⟨g, 3, none⟩ = some (.slice A p.order.length c) := ⟨HD2.out.blk.cell 1, HD2.out.blk.cell 2, HD2.out.blk.cell 3⟩
  go_region_held3 (fun w' => w'.cell? ⟨g, 1, none⟩ = some (.map (some bs)) ∧ w'.cell? ⟨g, 2, none⟩ = some (.map (some bf)) ∧ w'.cell? ⟨g, 3, none⟩ = some (.slice A p.order.length c))
    (first | exact hS0 | exact hS1 | exact hS2 | exact hS3 | exact keep3 hS3 hgg | exact keep3 (keep3 hS3 hgg) hgg | exact keep3 (keep3 (keep3 hS3 hgg) hgg) hgg)
    (first
      | (go_at_call 24; have tk := tok1; refine (clone_any bs p.size _ _ (HD2.out.ms.fr (S := NoB) ((Fr.refl _ w2).drew) (fun x => x))).mono ?_; rintro e w3 ⟨rfl, hM3, hN3⟩; have HN3 : Hid (New w2 w3) := Lib.hid ⟨hN3.os, hN3.tape, hN3.output, hN3.size, hN3.block⟩; have HM3 := Lib.hid hM3; have HD3 := Lib.hid (HD2.out.new HN3.out); have hS1 : w3.cell? ⟨g, 1, none⟩ = some (.map (some bs)) ∧ w3.cell? ⟨g, 2, none⟩ = some (.map (some bf)) ∧ w3.cell? ⟨g, 3, none⟩ = some (.slice A p.order.length c) := ⟨HD3.out.blk.cell 1, HD3.out.blk.cell 2, HD3.out.blk.cell 3⟩; clear hM3 hN3 tok1 tk)
      | (go_at_call 24; refine (clone_any bf p.size _ _ HD3.out.mw).mono ?_; rintro e w4 ⟨rfl, hM4, hN4⟩; have HN4 := Lib.hid hN4; have HM4 := Lib.hid hM4; have HD4 := Lib.hid (HD3.out.new hN4); have hS2 : w4.cell? ⟨g, 1, none⟩ = some (.map (some bs)) ∧ w4.cell? ⟨g, 2, none⟩ = some (.map (some bf)) ∧ w4.cell? ⟨g, 3, none⟩ = some (.slice A p.order.length c) := ⟨HD4.out.blk.cell 1, HD4.out.blk.cell 2, HD4.out.blk.cell 3⟩; clear hM4 hN4)
      | (go_at_call 25; refine (sclone_any A p.order.length c p.order _ (((HN2.out.tr HN3.out).tr HN4.out).rd HO.out) HLEN.out).mono ?_; rintro e w5 ⟨⟨A5, c5, rfl, hO5⟩, hN5⟩; have HN5 := Lib.hid hN5; have HO5 := Lib.hid hO5; have HD5 := Lib.hid (HD4.out.new hN5); have hS3 : w5.cell? ⟨g, 1, none⟩ = some (.map (some bs)) ∧ w5.cell? ⟨g, 2, none⟩ = some (.map (some bf)) ∧ w5.cell? ⟨g, 3, none⟩ = some (.slice A p.order.length c) := ⟨HD5.out.blk.cell 1, HD5.out.blk.cell 2, HD5.out.blk.cell 3⟩; have hB5 := New.blk ((HN3.out.tr HN4.out).tr hN5) HB2.out; have b1 := hB5.cell 1; have b2 := hB5.cell 2; have b3 := hB5.cell 3; have q1 := hB5.frozen 1; have q2 := hB5.frozen 2; have q3 := hB5.frozen 3; have HB5 := Lib.hid hB5; clear hO5 hN5 hB5))
  go_wp2_with fail
  go_ret
  have hN25 := (HN3.out.tr HN4.out).tr HN5.out
  have hdr : w2.drew.heap.size = w2.heap.size := rfl
  have m3 : w2.heap.size < w3.heap.size := HM3.out.lt
  have m4 : w3.heap.size < w4.heap.size := HM4.out.lt
  have hz : ∀ j u (x : World), Fr (fun k => k = g2) x (x.setCell ⟨g2, j, none⟩ u) := fun j u x => (Fr.refl (fun k => k = g2) x).setCell (p := ⟨g2, j, none⟩) (fun _ => rfl) _
  have hF : ∀ u1 u2 u3, Fr (fun k => k = g2) w5 (((w5.setCell ⟨g2, 1, none⟩ u1).setCell ⟨g2, 2, none⟩ u2).setCell ⟨g2, 3, none⟩ u3) := fun u1 u2 u3 => ((hz 1 u1 w5).trans (hz 2 u2 _)).trans (hz 3 u3 _)
  have hg2 := HG2.out
  refine ⟨⟨g2, w2.heap.size, w3.heap.size, .slice A5 p.order.length c5, rfl, ?_, ?_, ?_, ?_, ?_, ?_, H.out.ok⟩, ?_⟩
  · have := ((HB5.out.set 1 (.map (some w2.heap.size))).set 2 (.map (some w3.heap.size))).set 3 (.slice A5 p.order.length c5)
    exact this
  · exact ((New.tr HN4.out HN5.out).toFr NoB |> fun hf => HM3.out.fr hf (fun x => x)).fr (hF _ _ _) (by omega)
  · exact (HN5.out.toFr NoB |> fun hf => HM4.out.fr hf (fun x => x)).fr (hF _ _ _) (by omega)
  · refine own_fr (own_base HO5.out fun k hk => ?_) (hF _ _ _) (fun k hk e => ?_)
    · have := (own_lt HO5.out k hk).1; omega
    · have := (own_lt HO5.out k hk).1; omega
  · omega
  · omega
  · exact ((HN2.out.tr hN25).fr (hF _ _ _) (fun k hk => by omega))
end Go.Proofs.Ytpdgnidoglmgcaa
