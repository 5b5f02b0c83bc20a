/- Disks: the power cut; copies. No condition but the disk's own. -/
import Derived.Test.YtpdgnidoglmgcaaDkD
namespace Go.Proofs.Ytpdgnidoglmgcaa
open Go.RowKit Go.Maps

theorem cut_nil (k : Value) (w : World) : Calls Try.prog 12 #[.pointer none, k] w fun e w' => e = .returned (.tuple #[]) ∧ w = w' := by
  go_enter Try.func12, Try.ntmps12
  go_wp2_with fail
  refine bodyPost_ret (v := .tuple #[]) (by simp [results, Try.results12, go_sem]) rfl ?_
  exact ⟨rfl, rfl⟩

def bools (xs : List Bool) : List Value := xs.map Value.bool
theorem bools_len (xs : List Bool) : (bools xs).length = xs.length := by simp [bools]
theorem rd_bool {p : Nat → Prop} {w : World} {A : Option Addr} {n : Nat} {xs : List Bool} (h : Rd p w 1 A n (bools xs)) {i : Nat} (hi : i < n) :
    ∃ g o, A = some ⟨g, o, none⟩ ∧ g < w.heap.size ∧ p g ∧ w.cell? ⟨g, o + i, none⟩ = some (.bool (xs.getD i false)) := by
  obtain ⟨g, o, hA, hp, hg, hc⟩ := h.out (by omega) (by omega)
  refine ⟨g, o, hA, hg, hp, hc i _ ?_⟩
  have hl : i < xs.length := by have := h.1; rw [bools_len] at this; omega
  simp [bools, List.getD, hl]
theorem rd_int {p : Nat → Prop} {w : World} {A : Option Addr} {n : Nat} {xs : List Int} (h : Rd p w 1 A n (i64s xs)) {i : Nat} (hi : i < n) :
    ∃ g o, A = some ⟨g, o, none⟩ ∧ g < w.heap.size ∧ p g ∧ w.cell? ⟨g, o + i, none⟩ = some (.int .i64 (xs.getD i 0)) := by
  obtain ⟨g, o, hA, hp, hg, hc⟩ := h.out (by omega) (by omega)
  refine ⟨g, o, hA, hg, hp, hc i _ ?_⟩
  have hl : i < xs.length := by have := h.1; rw [i64s_len] at this; omega
  simp [i64s, List.getD, hl]

/-- A disk some of whose waiting sectors are sure. -/
def DP.part (p : DP) (keep : List Bool) (j : Nat) : DP := { p with sure := cutS p keep j }
theorem DP.Ok.part {p : DP} (h : p.Ok) (keep : List Bool) (j : Nat) : (p.part keep j).Ok := ⟨h.s1, h.s2, cutS_ok h keep j, h.freshR, h.nod, h.ord, h.fz⟩
theorem part_skip {p : DP} {keep : List Bool} {j : Nat} (h : keep.getD j false = false) : p.part keep (j + 1) = p.part keep j := by
  unfold DP.part
  congr 1
  simp only [cutS, h]
  rfl
theorem part_step {w w' : World} {base g bs bf n : Nat} {v : Value} {p : DP} {keep : List Bool} {j : Nat} {s : List Int} (hD : Dk w base g bs bf v (p.part keep j)) (hj : j < p.order.length) (hk : keep.getD j false = true) (hs : p.fresh (p.order.getD j 0) = some s)
    (hM : MapAt w' Try.prog 3 bs n (putF (mf (cutS p keep j)) (.int .i64 (p.order.getD j 0)) (some (.agg (secA s))))) (hF : Fr (fun k => k = bs) w w') (hok : p.Ok) : Dk w' base g bs bf v (p.part keep (j + 1)) := by
  have e : cutS p keep (j + 1) = upd (cutS p keep j) (p.order.getD j 0) (some s) := by simp only [cutS, hk, if_true, hs]
  refine ⟨hD.blk.fr hF hD.gs, ?_, hD.mw.fr hF (fun e => hD.ne e.symm), own_fr hD.own hF (fun k hk => hD.vs k hk), hD.ne, hD.lo, hok.part keep (j + 1)⟩
  have h2 : putF (mf (cutS p keep j)) (.int .i64 (p.order.getD j 0)) (some (.agg (secA s))) = mf (p.part keep (j + 1)).sure := by
    show _ = mf (cutS p keep (j + 1))
    rw [e]
    exact mf_upd _ _ (some s)
  rw [h2] at hM
  exact hM.tight kI _ fun kl hk => mf_keys (hok.part keep (j + 1)).sureR kl hk

set_option maxHeartbeats 4000000 in
set_option maxRecDepth 100000 in
theorem cut_in {w : World} {base g bs bf : Nat} {v : Value} {p : DP} (h : Dk w base g bs bf v p) {q : Nat → Prop} (A : Option Addr) (n c : Nat) (keep : List Bool) (hR : Rd q w 1 A n (bools keep)) (hn : n ≤ maxLen) (hq : ∀ k, q k → k ≠ bs) :
    Calls Try.prog 12 #[.pointer (some ⟨g, 0, none⟩), .slice A n c] w fun e w' => e = .returned (.tuple #[]) ∧ Dk w' base g bs bf (.slice none 0 0) (p.cut keep) ∧ Fr (fun k => k = g ∨ k = bs ∨ k = bf) w w' := by
  have H := Lib.hid h
  have HR := Lib.hid hR
  have HQ := Lib.hid hq
  have hkl : keep.length = n := by have := hR.1; rw [bools_len] at this; omega
  have HKL := Lib.hid hkl
  unfold maxLen at hn
  obtain ⟨A1, c1, rfl, hnc, hcm, -, -⟩ := own_shape h.own
  have HO := Lib.hid (Rd.own h.own rfl)
  have HLEN : Hid (p.order.length ≤ 16384) := Lib.hid (by have := h.ok.len; have := h.ok.s2; omega)
  have c3 : w.cell? ⟨g, 3, none⟩ = some (.slice A1 p.order.length c1) := h.blk.cell 3
  have hl := HLEN.out
  clear h hR hq hkl
  go_enter Try.func12, Try.ntmps12
  go_wp2_with fail
  go_loopw [13] (fun i wr => ∃ (j : Nat), j ≤ p.order.length ∧ i = .int .i64 j ∧ Hid (Dk wr base g bs bf (.slice A1 p.order.length c1) (p.part keep j)) ∧ Hid (Fr (fun k => k = bs) w wr)) (fun i _ => p.order.length - (intOf i).toNat)
  case atStart => exact ⟨0, Nat.zero_le _, rfl, Lib.hid H.out, Lib.hid (Fr.refl _ _)⟩
  case round =>
    obtain ⟨j, hj, rfl, HD, HF⟩ := hrel
    by_cases hlt : j < p.order.length
    · as_aux_lemma =>
      obtain ⟨gA, oA, rfl, -, hgA, cj⟩ := rd_int (HO.out.fr HF.out (fun k hk e => H.out.vs k hk e)) hlt
      by_cases hjn : j < n
      · obtain ⟨gK, oK, rfl, -, -, ck⟩ := rd_bool (HR.out.fr HF.out HQ.out) hjn
        cases hb : keep.getD j false with
        | false =>
          rw [hb] at ck
          have HB := Lib.hid hb
          clear hb c3
          go_wp2_with fail
          go_roundw
          case rel => exact ⟨j + 1, by omega, by go_num, Lib.hid (by rw [part_skip HB.out]; exact HD.out), HF⟩
          case measure => simp [intOf]; omega
        | true =>
          rw [hb] at ck
          have HB := Lib.hid hb
          have ha : p.order.getD j 0 ∈ p.order := by rw [List.getD_eq_getElem?_getD, List.getElem?_eq_getElem hlt]; exact List.getElem_mem _
          have hr := H.out.ok.inOrd ha
          obtain ⟨s, hs⟩ : ∃ s, p.fresh (p.order.getD j 0) = some s := by
            cases hf : p.fresh (p.order.getD j 0) with
            | some s => exact ⟨s, rfl⟩
            | none => exact absurd hf ((H.out.ok.ord _).1 ha)
          have hkey := keyI hr.1 (by have := H.out.ok.s2; omega)
          have HS := Lib.hid hs
          have HK := Lib.hid hkey
          have cj' : wr.cell? ⟨gA, oA + j, none⟩ = some (.int .i64 (p.order.getD j 0)) := cj
          have hlk : (Instr.lookup 55 (.map (some bf)) (.int .i64 (p.order.getD j 0)) false).run Try.prog wr.drew = .ok (.agg (secA s)) wr.drew := by
            have := ((HD.out.mw.fr (S := NoB) ((Fr.refl _ wr).drew) (fun x => x)).look kI Try.underlying55 (zSec _) hkey).2
            rw [this]
            simp only [DP.part, mf, hs, Option.map_some, Option.getD_some]
          have hM0 : MapAt wr.drew Try.prog 3 bs p.size (mf (cutS p keep j)) := HD.out.ms.fr (S := NoB) ((Fr.refl _ wr).drew) (fun x => x)
          obtain ⟨w5, hrun, hM5, hF5⟩ := hM0.store kI Try.underlying55 (by have := H.out.ok.s2; unfold maxLen; omega) hkey (.agg (secA s))
          have HM5 := Lib.hid hM5
          have HF5 := Lib.hid hF5
          have d1 : wr.cell? ⟨g, 1, none⟩ = some (.map (some bs)) := HD.out.blk.cell 1
          have d2 : wr.cell? ⟨g, 2, none⟩ = some (.map (some bf)) := HD.out.blk.cell 2
          clear hb c3 ha hr hs hkey cj hM0 hM5 hF5
          generalize hx : p.order.getD j 0 = x at *
          have HX := Lib.hid hx
          clear hx
          go_wp2_with fail
          go_region
          go_wp2_with fail
          go_roundw
          case rel =>
            refine ⟨j + 1, by omega, by go_num, Lib.hid ?_, Lib.hid (HF.out.trans HF5.out.ofDrew)⟩
            subst x
            exact part_step HD.out hlt HB.out HS.out HM5.out HF5.out.ofDrew H.out.ok
          case measure => simp [intOf]; omega
      · have hb : keep.getD j false = false := by
          have := HKL.out
          rw [List.getD_eq_getElem?_getD, List.getElem?_eq_none (by omega)]; rfl
        have HB := Lib.hid hb
        clear hb c3
        go_wp2_with fail
        go_roundw
        case rel => exact ⟨j + 1, by omega, by go_num, Lib.hid (by rw [part_skip HB.out]; exact HD.out), HF⟩
        case measure => simp [intOf]; omega
    · obtain rfl : j = p.order.length := by omega
      go_wp2_with fail
      refine (forget_in HD.out).mono ?_
      rintro e w2 ⟨rfl, hD2, hF2⟩
      have f4 := hD2.blk.frozen 4
      have f5 := hD2.blk.frozen 5
      have e4 := hD2.blk.cell 4
      have e5 := hD2.blk.cell 5
      have HD2 := Lib.hid hD2
      have HF2 := Lib.hid hF2
      clear hD2 hF2
      go_wp2_with fail
      go_end0
      have hz := (HD2.out.setFuse (-1) (by omega)).setDown false
      refine ⟨rfl, hz, ?_⟩
      refine (((HF.out.mono fun b _ hb => .inr (.inl hb)).trans (HF2.out.mono fun b _ hb => hb.imp id .inr)).setCell (p := ⟨g, 4, none⟩) (fun _ => .inl rfl) _).setCell (p := ⟨g, 5, none⟩) (fun _ => .inl rfl) _
end Go.Proofs.Ytpdgnidoglmgcaa
