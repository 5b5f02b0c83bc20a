/- Disks: written. No condition but the disk's own. -/
import Derived.Test.YtpdgnidoglmgcaaDkB
namespace Go.Proofs.Ytpdgnidoglmgcaa
open Go.RowKit Go.Maps

theorem write_bad {pt : Option Addr} {a n : Int} {s : List Int} {w : World} (hmay : ∀ w', New w w' → Calls Try.prog 21 #[.pointer pt, .int .i64 a] w' fun e w'' => e = .returned (.iface 45 (.int .i64 n)) ∧ w' = w'') :
    Calls Try.prog 8 #[.pointer pt, .int .i64 a, .agg (secA s)] w fun e w' => e = .returned (.iface 45 (.int .i64 n)) ∧ New w w' := by
  have HM := Lib.hid hmay
  clear hmay
  go_enter Try.func8, Try.ntmps8
  go_wp2_with fail
  obtain ⟨w0, hw0⟩ : ∃ w0 : World, w0 = w.alloc (.cells (secA s) 31) := ⟨_, rfl⟩
  have HN0 : Hid (New w w0) := Lib.hid (by rw [hw0]; exact New.al (New.refl _) _)
  rw [← hw0]
  clear hw0
  refine (HM.out w0 HN0.out).mono ?_
  rintro e w1 ⟨rfl, rfl⟩
  go_wp2_with fail
  go_ret
  exact ⟨rfl, HN0.out⟩
theorem write_nil (a : Int) (s : List Int) (w : World) : Calls Try.prog 8 #[.pointer none, .int .i64 a, .agg (secA s)] w fun e w' => e = .returned (.iface 45 (.int .i64 11)) ∧ New w w' := write_bad fun w' _ => may_nil a w'
theorem write_out {w : World} {base g bs bf : Nat} {v : Value} {p : DP} (h : Dk w base g bs bf v p) {a : Int} (s : List Int) (h1 : ¬ (0 ≤ a ∧ a < p.size)) : Calls Try.prog 8 #[.pointer (some ⟨g, 0, none⟩), .int .i64 a, .agg (secA s)] w fun e w' => e = .returned (.iface 45 (.int .i64 1)) ∧ New w w' := write_bad fun w' hN => may_out (h.new hN) h1

def DP.fall (p : DP) : DP := { p with down := true }
theorem DP.Ok.fall {p : DP} (h : p.Ok) : p.fall.Ok := ⟨h.s1, h.s2, h.sureR, h.freshR, h.nod, h.ord, h.fz⟩
theorem Dk.setDown {w : World} {base g bs bf : Nat} {v : Value} {p : DP} (h : Dk w base g bs bf v p) (b : Bool) : Dk (w.setCell ⟨g, 5, none⟩ (.bool b)) base g bs bf v { p with down := b } := by
  have hf : Fr (fun k => k = g) w (w.setCell ⟨g, 5, none⟩ (.bool b)) := (Fr.refl _ w).setCell (S := fun k => k = g) (p := ⟨g, 5, none⟩) (fun _ => rfl) _
  refine ⟨?_, h.ms.fr hf (fun e => h.gs e.symm), h.mw.fr hf (fun e => h.gf e.symm), own_fr h.own hf (fun k hk e => h.vg (by rw [hk, e])), h.ne, h.lo, ⟨h.ok.s1, h.ok.s2, h.ok.sureR, h.ok.freshR, h.ok.nod, h.ok.ord, h.ok.fz⟩⟩
  have := h.blk.set 5 (.bool b)
  simpa using this
theorem Dk.setFuse {w : World} {base g bs bf : Nat} {v : Value} {p : DP} (h : Dk w base g bs bf v p) (n : Int) (hn : -1 ≤ n ∧ n ≤ 9223372036854775807) : Dk (w.setCell ⟨g, 4, none⟩ (.int .i64 n)) base g bs bf v { p with fuse := n } := by
  have hf : Fr (fun k => k = g) w (w.setCell ⟨g, 4, none⟩ (.int .i64 n)) := (Fr.refl _ w).setCell (S := fun k => k = g) (p := ⟨g, 4, none⟩) (fun _ => rfl) _
  refine ⟨?_, h.ms.fr hf (fun e => h.gs e.symm), h.mw.fr hf (fun e => h.gf e.symm), own_fr h.own hf (fun k hk e => h.vg (by rw [hk, e])), h.ne, h.lo, ⟨h.ok.s1, h.ok.s2, h.ok.sureR, h.ok.freshR, h.ok.nod, h.ok.ord, hn⟩⟩
  have := h.blk.set 4 (.int .i64 n)
  simpa using this
theorem write_down {w : World} {base g bs bf : Nat} {v : Value} {p : DP} (h : Dk w base g bs bf v p) {a : Int} (s : List Int) (h0 : 0 ≤ a) (h1 : a < p.size) (hd : p.fuse = 0 ∨ p.down = true) :
    Calls Try.prog 8 #[.pointer (some ⟨g, 0, none⟩), .int .i64 a, .agg (secA s)] w fun e w' => e = .returned (.iface 45 (.int .i64 14)) ∧ Dk w' base g bs bf v p.fall ∧ Fr (fun k => k = g) w w' := by
  have H := Lib.hid h
  clear h
  by_cases hz : p.fuse = 0
  · clear hd
    have hz' : (p.fuse == 0) = true := by simp [hz]
    clear hz
    go_enter Try.func8, Try.ntmps8
    go_wp2_with fail
    obtain ⟨w0, hw0⟩ : ∃ w0 : World, w0 = w.alloc (.cells (secA s) 31) := ⟨_, rfl⟩
    have HN0 : Hid (New w w0) := Lib.hid (by rw [hw0]; exact New.al (New.refl _) _)
    have HD0 := Lib.hid (H.out.new HN0.out)
    rw [← hw0]
    clear hw0
    refine (may_in HD0.out h0 h1).mono ?_
    rintro e w1 ⟨rfl, rfl⟩
    have c4 := HD0.out.blk.cell 4
    have c5 := HD0.out.blk.cell 5
    have f5 := HD0.out.blk.frozen 5
    go_wp2_with fail
    go_ret
    exact ⟨rfl, HD0.out.setDown true, (HN0.out.toFr _).setCell (S := fun k => k = g) (p := ⟨g, 5, none⟩) (fun _ => rfl) _⟩
  · have hz' : (p.fuse == 0) = false := by simp [hz]
    have hd' : p.down = true := hd.resolve_left hz
    clear hd hz
    have HP : Hid (p.fall = p) := Lib.hid (by cases p; simp only [DP.fall]; simp only at hd'; rw [hd'])
    have HDD := Lib.hid hd'
    clear hd'
    go_enter Try.func8, Try.ntmps8
    go_wp2_with fail
    obtain ⟨w0, hw0⟩ : ∃ w0 : World, w0 = w.alloc (.cells (secA s) 31) := ⟨_, rfl⟩
    have HN0 : Hid (New w w0) := Lib.hid (by rw [hw0]; exact New.al (New.refl _) _)
    have HD0 := Lib.hid (H.out.new HN0.out)
    rw [← hw0]
    clear hw0
    refine (may_in HD0.out h0 h1).mono ?_
    rintro e w1 ⟨rfl, rfl⟩
    have c4 := HD0.out.blk.cell 4
    have c5 : w0.cell? ⟨g, 5, none⟩ = some (.bool true) := by rw [HD0.out.blk.cell 5]; simp [HDD.out]
    go_wp2_with fail
    go_ret
    exact ⟨rfl, by rw [HP.out]; exact HD0.out, HN0.out.toFr _⟩

/-- What Write's last store leaves. -/
theorem put_end {w1 w3 w4 w5 : World} {base g bs bf n : Nat} {v v3 : Value} {p : DP} (hD : Dk w1 base g bs bf v p) {a : Int} {s : List Int} (ha : 0 ≤ a ∧ a < p.size) (hs : SecOk s)
    (h2 : Fr (fun k => v.ownBlock = some k) w1 w3) (h3 : w3.ownsRow base 3 1 v3 (p.put a s).order.length (i64s (p.put a s).order))
    (hv : ∀ k, v3.ownBlock = some k → v.ownBlock = some k ∨ w1.heap.size ≤ k) (h4 : Fr (fun k => k = g) w3 w4) (hb4 : Blk w4 g 58 #[.int .i64 p.size, .map (some bs), .map (some bf), v3, .int .i64 p.fuse, .bool p.down])
    (hM : MapAt w5 Try.prog 3 bf n (putF (mf p.fresh) (.int .i64 a) (some (.agg (secA s))))) (h5 : Fr (fun k => k = bf) w4 w5) :
    Dk w5 base g bs bf v3 (p.put a s) ∧ Fr (DkOurs g bs bf v) w1 w5 := by
  have hok := hD.ok.put ha hs
  have hvg : ∀ k, v3.ownBlock = some k → k ≠ g := fun k hk e => by
    rcases hv k hk with h | h
    · exact hD.vg (by rw [h, e])
    · have := hD.blk.lt; omega
  have hvf : ∀ k, v3.ownBlock = some k → k ≠ bf := fun k hk e => by
    rcases hv k hk with h | h
    · exact hD.vf k h e
    · have := hD.mw.lt; omega
  refine ⟨⟨hb4.fr h5 hD.gf, ?_, ?_, own_fr (own_fr h3 h4 hvg) h5 hvf, hD.ne, hD.lo, hok⟩, ?_⟩
  · exact ((hD.ms.fr h2 (fun e => hD.vs _ e rfl)).fr h4 (fun e => hD.gs e.symm)).fr h5 hD.ne
  · have : putF (mf p.fresh) (.int .i64 a) (some (.agg (secA s))) = mf (p.put a s).fresh := mf_upd p.fresh a (some s)
    rw [this] at hM
    exact hM.tight kI _ fun kl hk => mf_keys hok.freshR kl hk
  · exact ((h2.mono fun b _ h => .inr (.inr (.inr h))).trans (h4.mono fun b _ h => .inl h)).trans (h5.mono fun b _ h => .inr (.inr (.inl h)))

set_option maxHeartbeats 4000000 in
set_option maxRecDepth 100000 in
theorem write_in {w : World} {base g bs bf : Nat} {v : Value} {p : DP} (h : Dk w base g bs bf v p) {a : Int} {s : List Int} (h0 : 0 ≤ a) (h1 : a < p.size) (hs : SecOk s) (hd : p.down = false) (hf : p.fuse ≠ 0) :
    Calls Try.prog 8 #[.pointer (some ⟨g, 0, none⟩), .int .i64 a, .agg (secA s)] w fun e w' => e = .returned .nilIface ∧ ∃ v', Dk w' base g bs bf v' (p.write a s) ∧ Fr (DkOurs g bs bf v) w w' ∧ ∀ k, v'.ownBlock = some k → v.ownBlock = some k ∨ w.heap.size ≤ k := by
  have H := Lib.hid h
  have HK := Lib.hid (keyI h0 (by have := h.ok.s2; omega))
  have HS := Lib.hid hs
  have hz' : (p.fuse == 0) = false := by simp [hf]
  have hfz := h.ok.fz
  have HDD := Lib.hid hd
  clear h hs hd
  go_enter Try.func8, Try.ntmps8
  go_wp2_with fail
  obtain ⟨w0, hw0⟩ : ∃ w0 : World, w0 = w.alloc (.cells (secA s) 31) := ⟨_, rfl⟩
  have HN0 : Hid (New w w0) := Lib.hid (by rw [hw0]; exact New.al (New.refl _) _)
  have HB0 : Hid (Blk w0 w.heap.size 31 (secA s)) := Lib.hid (by rw [hw0]; exact Blk.new _ _ _)
  have HD0 := Lib.hid (H.out.new HN0.out)
  rw [← hw0]
  clear hw0
  refine (may_in HD0.out h0 h1).mono ?_
  rintro e w1 ⟨rfl, rfl⟩
  obtain ⟨w1, hw1, HD1, HF1⟩ : ∃ w1, w1 = (if 0 < p.fuse then w0.setCell ⟨g, 4, none⟩ (.int .i64 (p.fuse - 1)) else w0) ∧ Hid (Dk w1 base g bs bf v p.burn) ∧ Hid (Fr (fun k => k = g) w0 w1) := by
    refine ⟨_, rfl, ?_, ?_⟩
    · by_cases hp : 0 < p.fuse
      · rw [if_pos hp]
        have := HD0.out.setFuse (p.fuse - 1) (by omega)
        have e : p.burn = { p with fuse := p.fuse - 1 } := by simp [DP.burn, if_pos hp]
        exact Lib.hid (by rw [e]; exact this)
      · rw [if_neg hp]
        have e : p.burn = p := by simp [DP.burn, if_neg hp]
        exact Lib.hid (by rw [e]; exact HD0.out)
    · by_cases hp : 0 < p.fuse
      · rw [if_pos hp]; exact Lib.hid ((Fr.refl _ w0).setCell (S := fun k => k = g) (p := ⟨g, 4, none⟩) (fun _ => rfl) _)
      · rw [if_neg hp]; exact Lib.hid (Fr.refl _ _)
  have c4 := HD0.out.blk.cell 4
  have f4 := HD0.out.blk.frozen 4
  have c5 : w0.cell? ⟨g, 5, none⟩ = some (.bool false) := by rw [HD0.out.blk.cell 5]; simp [HDD.out]
  have hgne : ¬ w.heap.size = g := fun e => by have := H.out.blk.lt; omega
  have HB1 := Lib.hid (HB0.out.fr HF1.out hgne)
  have HW1 := Lib.hid hw1
  clear hw1
  go_upto_region 10 with (fail)
  all_goals
    first
      | rw [show w0.setCell ⟨g, 4, none⟩ (.int .i64 (p.fuse - 1)) = w1 from by rw [HW1.out, if_pos (by assumption)]]
      | rw [show w0 = w1 from by rw [HW1.out, if_neg (by omega)]]
    clear c4 f4 c5 HB0 hz' hfz hf
    have HF01 : Hid (Fr (DkOurs g bs bf v) w w1) := Lib.hid ((HN0.out.toFr _).trans (HF1.out.mono fun b _ hb => .inl hb))
    have d2 := HD1.out.blk.cell 2
    have hbw : base ≤ w1.heap.size := by have := HD1.out.lo.1; have := HD1.out.blk.lt; omega
    obtain ⟨w2, hw2⟩ : ∃ w2 : World, w2 = w1.alloc (.cells (secA ((p.fresh a).getD sec0)) 31) := ⟨_, rfl⟩
    have HN2 : Hid (New w1 w2) := Lib.hid (by rw [hw2]; exact New.al (New.refl _) _)
    have HB2 := Lib.hid (New.blk HN2.out HB1.out)
    have HD2 := Lib.hid (HD1.out.new HN2.out)
    have e2 := HD2.out.blk.cell 2
    have e3 := HD2.out.blk.cell 3
    have e3f := HD2.out.blk.frozen 3
    have HW2 := Lib.hid hw2
    clear hw2
    cases hfr : p.fresh a with
    | some s0 =>
      as_aux_lemma =>
      have HS0 := Lib.hid (HD1.out.ok.freshR a s0 hfr).2
      have HFR := Lib.hid hfr
      clear hfr
      have HW3 : Hid (w1.alloc (.cells (secA s0) 31) = w2) := Lib.hid (by rw [HW2.out, HFR.out]; rfl)
      have HM2 : Hid (MapAt w2.drew Try.prog 3 bf p.size (mf p.fresh)) := Lib.hid (HD2.out.mw.fr (S := NoB) ((Fr.refl _ _).drew) (fun x => x))
      obtain ⟨w5, hrun, hM5, hF5⟩ := HM2.out.store kI Try.underlying55 (by have := HD2.out.ok.s2; have : p.burn.size = p.size := rfl; unfold maxLen; omega) HK.out (.agg (u8s s).toArray)
      have HM5 : Hid (MapAt w5 Try.prog 3 bf (p.size + 1) (putF (mf p.fresh) (.int .i64 a) (some (.agg (secA s))))) := Lib.hid hM5
      have HF5 := Lib.hid hF5
      have hS5 : w5.rangeAt w.heap.size 0 (u8s s) ∧ w5.cell? ⟨g, 2, none⟩ = some (.map (some bf)) := ⟨((HB2.out.drew).fr hF5 (fun e => by have := H.out.mw.lt; omega)).range, (HD2.out.blk.drew.fr hF5 HD2.out.gf).cell 2⟩
      have hS2 : w2.drew.rangeAt w.heap.size 0 (u8s s) ∧ w2.drew.cell? ⟨g, 2, none⟩ = some (.map (some bf)) := ⟨HB2.out.drew.range, e2⟩
      have hu := Try.underlying31
      have hi : (Try.prog.info? 31).map (·.size) = some (u8s s).length := by rw [u8s_len, HS.out.1]; rfl
      clear hM5 hF5
      go_wp2_with (first
        | ((with_reducible refine atOp ⟨some 47, _, _, _, _, _⟩ ?_); refine wpList_mlook2 (o := ⟨some 47, _, _, _, _, _⟩) HD1.out.mw kI Try.underlying55 (zSec _) rfl (.tmp 45) (.tmp 46) rfl rfl _ _ rfl HK.out (.agg (secA s0)) true (by simp [DP.burn, mf, HFR.out]) (by simp [DP.burn, mf, HFR.out]) ?_)
        | ((with_reducible refine atOp ⟨some 8, .alloc _, _, _, _, _⟩ ?_); refine wpList_newvar (s := s0) rfl rfl rfl _ _ rfl secInfo rfl rfl rfl HS0.out.1 ?_; rw [HW3.out]))
      go_region_held3 (fun w' => w'.rangeAt w.heap.size 0 (u8s s) ∧ w'.cell? ⟨g, 2, none⟩ = some (.map (some bf))) (first | exact hS5 | exact hS2) (fail)
      go_wp2_with fail
      go_ret
      have hO : w2.ownsRow base 3 1 v (p.burn.put a s).order.length (i64s (p.burn.put a s).order) := by
        have e : (p.burn.put a s).order = p.order := by simp [DP.put, DP.burn, HFR.out]
        rw [e]; exact HD2.out.own
      have hE := put_end HD2.out ⟨h0, h1⟩ HS.out (Fr.refl _ _) hO (fun k hk => .inl hk) (Fr.refl _ _) HD2.out.blk HM5.out HF5.out.ofDrew
      exact ⟨rfl, v, hE.1, (HF01.out.trans (HN2.out.toFr _)).trans hE.2, fun k hk => .inl hk⟩
    | none =>
      as_aux_lemma =>
      have HFR := Lib.hid hfr
      clear hfr
      have HW3 : Hid (w1.alloc (.cells (secA sec0) 31) = w2) := Lib.hid (by rw [HW2.out, HFR.out]; rfl)
      have hO2 : w2.ownsRow base 3 1 v p.order.length (i64s p.order) := HD2.out.own
      obtain ⟨A, c, rfl, hnc, hcm, -, -⟩ := own_shape hO2
      have hlen : p.order.length ≤ p.size := HD0.out.ok.len
      have hs2 : p.size ≤ 16384 := HD0.out.ok.s2
      have hml : p.order.length + 1 ≤ maxLen := by unfold maxLen; omega
      have HLEN := Lib.hid hlen
      have HSZ := Lib.hid hs2
      have HML := Lib.hid hml
      have HO2 := Lib.hid hO2
      have hb8 : (p.order.length + 1) * 8 ≤ 140737488355328 := by omega
      have HB8 := Lib.hid hb8
      have hbw2 : base ≤ w2.heap.size := by have := HN2.out.size; omega
      have HVG := Lib.hid HD2.out.vg
      clear hlen hs2 hml hO2 hb8
      go_upto_region 13 with (first
        | ((with_reducible refine atOp ⟨some 47, _, _, _, _, _⟩ ?_); refine wpList_mlook2 (o := ⟨some 47, _, _, _, _, _⟩) HD1.out.mw kI Try.underlying55 (zSec _) rfl (.tmp 45) (.tmp 46) rfl rfl _ _ rfl HK.out (.agg (secA sec0)) false (by simp [DP.burn, mf, HFR.out]) (by simp [DP.burn, mf, HFR.out]) ?_)
        | ((with_reducible refine atOp ⟨some 8, .alloc _, _, _, _, _⟩ ?_); refine wpList_newvar (s := sec0) rfl rfl rfl _ _ rfl secInfo rfl rfl rfl sec0_ok.1 ?_; rw [HW3.out])
        | (at_builtin; refine wpList_app elI _ rfl (.tmp 56) (.tmp 58) rfl base (.slice A p.order.length c) p.order.length (i64s p.order) rfl (New.own (New.al (New.refl w2) _) HO2.out) (some ⟨w2.heap.size, 0, none⟩) 1 1 [.int .i64 a] rfl (Rd.ofBlk (p := fun _ => True) (t := 3) (cs := #[.int .i64 a]) (Blk.new' _ _ _ rfl) 1 1 rfl trivial) (by simp [Value.oneCell']) HML.out HB8.out (by simp; omega) ?_; intro A' c' w3 hO3 hF3 hA3; have hB3 := (HD2.out.blk.alloc (.cells #[.int .i64 a] 3)).fr hF3 (fun e => HVG.out e); have m3 := hB3.cell 3; have q3 := hB3.frozen 3; have HB3 := Lib.hid hB3; have HO3 := Lib.hid hO3; have HF3 := Lib.hid hF3; have HA3 := Lib.hid hA3; clear hB3 hO3 hF3 hA3))
      have hF23 : Fr (fun k => (Value.slice A p.order.length c).ownBlock = some k) w2 w3 := ((Fr.refl _ w2).alloc _).trans HF3.out
      obtain ⟨w4, hw4⟩ : ∃ w4 : World, w4 = w3.setCell ⟨g, 3, none⟩ (.slice A' (p.order.length + 1) c') := ⟨_, rfl⟩
      have hF4 : Fr (fun k => k = g) w3 w4 := by rw [hw4]; exact (Fr.refl (fun k => k = g) w3).setCell (p := ⟨g, 3, none⟩) (fun _ => rfl) _
      have hB4 : Blk w4 g 58 #[.int .i64 p.burn.size, .map (some bs), .map (some bf), .slice A' (p.order.length + 1) c', .int .i64 p.burn.fuse, .bool p.burn.down] := by rw [hw4]; exact HB3.out.set 3 _
      have hM4 := (HD2.out.mw.fr hF23 (fun e => HD2.out.vf _ e rfl)).fr (S := fun k => k = g) hF4.drew (fun e => HD2.out.gf e.symm)
      have hb24 : Blk w4 w.heap.size 31 (secA s) := (HB2.out.fr hF23 (fun e => by have := H.out.ours _ (.inr (.inr (.inr e))); omega)).fr hF4 hgne
      rw [← hw4]
      clear hw4 m3 q3
      have HF23 := Lib.hid hF23
      have HF4 := Lib.hid hF4
      have HB4 := Lib.hid hB4
      have HB24 := Lib.hid hb24
      have hmx : p.burn.size < maxLen := by have := HSZ.out; have : p.burn.size = p.size := rfl; unfold maxLen; omega
      obtain ⟨w5, hrun, hM5, hF5⟩ := hM4.store kI Try.underlying55 hmx HK.out (.agg (u8s s).toArray)
      have HM5 : Hid (MapAt w5 Try.prog 3 bf (p.size + 1) (putF (mf p.fresh) (.int .i64 a) (some (.agg (secA s))))) := Lib.hid hM5
      have HF5 := Lib.hid hF5
      have e2' := HB4.out.cell 2
      have hS5 : w5.rangeAt w.heap.size 0 (u8s s) ∧ w5.cell? ⟨g, 2, none⟩ = some (.map (some bf)) := ⟨((HB24.out.drew).fr hF5 (fun e => by have := H.out.mw.lt; omega)).range, (HB4.out.drew.fr hF5 HD2.out.gf).cell 2⟩
      have hS2 : w4.drew.rangeAt w.heap.size 0 (u8s s) ∧ w4.drew.cell? ⟨g, 2, none⟩ = some (.map (some bf)) := ⟨HB24.out.drew.range, e2'⟩
      have hu := Try.underlying31
      have hi : (Try.prog.info? 31).map (·.size) = some (u8s s).length := by rw [u8s_len, HS.out.1]; rfl
      clear hM5 hF5 hM4 hF23 hF4 hB4 hb24 e3 e3f d2 e2
      go_region_held3 (fun w' => w'.rangeAt w.heap.size 0 (u8s s) ∧ w'.cell? ⟨g, 2, none⟩ = some (.map (some bf))) (first | exact hS5 | exact hS2) (fail)
      go_wp2_with fail
      go_ret
      have he : (p.burn.put a s).order = p.order ++ [a] := by simp [DP.put, DP.burn, HFR.out]
      have hv3 : ∀ k, (Value.slice A' (p.order.length + 1) c').ownBlock = some k → (Value.slice A p.order.length c).ownBlock = some k ∨ w2.heap.size ≤ k := fun k hk => by
        rcases HA3.out k hk with h | h
        · exact .inl h
        · right; simp at h; omega
      have hE := put_end (v3 := .slice A' (p.order.length + 1) c') HD2.out ⟨h0, h1⟩ HS.out HF23.out (by rw [he, i64s_app, List.length_append]; exact HO3.out) hv3 HF4.out HB4.out HM5.out HF5.out.ofDrew
      refine ⟨rfl, _, hE.1, (HF01.out.trans (HN2.out.toFr _)).trans hE.2, fun k hk => ?_⟩
      rcases hv3 k hk with h | h
      · exact .inl h
      · right
        have := HN2.out.size
        have := HF01.out.size
        omega
end Go.Proofs.Ytpdgnidoglmgcaa
