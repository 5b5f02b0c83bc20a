/- Texts of one proof, one behind the other: DkE, DkF, DkI, LgA. No condition but each one's own. -/
import Derived.Test.YteeclfejgpgooaaDoorLogPlaysM10
import Derived.Test.YteeclfejgpgooaaDoorLogPlaysM1
import Derived.Test.YteeclfejgpgooaaDoorLogPlaysM2
/- Disks: the power cut; copies. No condition but the disk's own. -/
namespace Go.Proofs.YteeclfejgpgooaaDoor
set_option linter.unusedVariables false
set_option linter.unusedSimpArgs false
set_option linter.constructorNameAsVariable false
open Go.RowKit Go.Maps

theorem cut_nil (k : Value) (w : World) : Calls Tryd.prog 31 #[.pointer none, k] w fun e w' => e = .returned (.tuple #[]) ∧ w = w' := by
  go_enter Tryd.func31, Tryd.ntmps31
  go_wp2_with fail
  refine bodyPost_ret (v := .tuple #[]) (by simp [results, Tryd.results31, go_sem]) rfl ?_
  exact ⟨rfl, rfl⟩

def bools (xs : List Bool) : List Value := xs.map Value.bool
theorem bools_len (xs : List Bool) : (bools xs).length = xs.length := by simp [bools]
theorem rd_bool {p : Nat → Prop} {w : World} {A : Option Addr} {n : Nat} {xs : List Bool} (h : Rd p w 1 A n (bools xs)) {i : Nat} (hi : i < n) :
    ∃ g o, A = some ⟨g, o, none⟩ ∧ g < w.heap.size ∧ p g ∧ w.cell? ⟨g, o + i, none⟩ = some (.bool (xs.getD i false)) := by
  obtain ⟨g, o, hA, hp, hg, hc⟩ := h.out (by omega) (by omega)
  refine ⟨g, o, hA, hg, hp, hc i _ ?_⟩
  have hl : i < xs.length := by have := h.1; rw [bools_len] at this; omega
  simp [bools, List.getD, hl]
theorem rd_int {p : Nat → Prop} {w : World} {A : Option Addr} {n : Nat} {xs : List Int} (h : Rd p w 1 A n (i64s xs)) {i : Nat} (hi : i < n) :
    ∃ g o, A = some ⟨g, o, none⟩ ∧ g < w.heap.size ∧ p g ∧ w.cell? ⟨g, o + i, none⟩ = some (.int .i64 (xs.getD i 0)) := by
  obtain ⟨g, o, hA, hp, hg, hc⟩ := h.out (by omega) (by omega)
  refine ⟨g, o, hA, hg, hp, hc i _ ?_⟩
  have hl : i < xs.length := by have := h.1; rw [i64s_len] at this; omega
  simp [i64s, List.getD, hl]

/-- A disk some of whose waiting sectors are sure. -/
def DP.part (p : DP) (keep : List Bool) (j : Nat) : DP := { p with sure := cutS p keep j }
theorem DP.Ok.part {p : DP} (h : p.Ok) (keep : List Bool) (j : Nat) : (p.part keep j).Ok := ⟨h.s1, h.s2, cutS_ok h keep j, h.freshR, h.nod, h.ord, h.fz⟩
theorem part_skip {p : DP} {keep : List Bool} {j : Nat} (h : keep.getD j false = false) : p.part keep (j + 1) = p.part keep j := by
  unfold DP.part
  congr 1
  simp only [cutS, h]
  rfl
theorem part_step {w w' : World} {base g bs bf n : Nat} {v : Value} {p : DP} {keep : List Bool} {j : Nat} {s : List Int} (hD : Dk w base g bs bf v (p.part keep j)) (hj : j < p.order.length) (hk : keep.getD j false = true) (hs : p.fresh (p.order.getD j 0) = some s)
    (hM : MapAt w' Tryd.prog 3 bs n (putF (mf (cutS p keep j)) (.int .i64 (p.order.getD j 0)) (some (.agg (secA s))))) (hF : Fr (fun k => k = bs) w w') (hok : p.Ok) : Dk w' base g bs bf v (p.part keep (j + 1)) := by
  have e : cutS p keep (j + 1) = upd (cutS p keep j) (p.order.getD j 0) (some s) := by simp only [cutS, hk, if_true, hs]
  refine ⟨hD.blk.fr hF hD.gs, ?_, hD.mw.fr hF (fun e => hD.ne e.symm), own_fr hD.own hF (fun k hk => hD.vs k hk), hD.ne, hD.lo, hok.part keep (j + 1)⟩
  have h2 : putF (mf (cutS p keep j)) (.int .i64 (p.order.getD j 0)) (some (.agg (secA s))) = mf (p.part keep (j + 1)).sure := by
    show _ = mf (cutS p keep (j + 1))
    rw [e]
    exact mf_upd _ _ (some s)
  rw [h2] at hM
  exact hM.tight kI _ fun kl hk => mf_keys (hok.part keep (j + 1)).sureR kl hk

set_option maxHeartbeats 4000000 in
set_option maxRecDepth 100000 in
theorem cut_in {w : World} {base g bs bf : Nat} {v : Value} {p : DP} (h : Dk w base g bs bf v p) {q : Nat → Prop} (A : Option Addr) (n c : Nat) (keep : List Bool) (hR : Rd q w 1 A n (bools keep)) (hn : n ≤ maxLen) (hq : ∀ k, q k → k ≠ bs) :
    Calls Tryd.prog 31 #[.pointer (some ⟨g, 0, none⟩), .slice A n c] w fun e w' => e = .returned (.tuple #[]) ∧ Dk w' base g bs bf (.slice none 0 0) (p.cut keep) ∧ Fr (fun k => k = g ∨ k = bs ∨ k = bf) w w' := by
  have H := Lib.hid h
  have HR := Lib.hid hR
  have HQ := Lib.hid hq
  have hkl : keep.length = n := by have := hR.1; rw [bools_len] at this; omega
  have HKL := Lib.hid hkl
  unfold maxLen at hn
  obtain ⟨A1, c1, rfl, hnc, hcm, -, -⟩ := own_shape h.own
  have HO := Lib.hid (Rd.own h.own rfl)
  have HLEN : Hid (p.order.length ≤ 16384) := Lib.hid (by have := h.ok.len; have := h.ok.s2; omega)
  have c3 : w.cell? ⟨g, 3, none⟩ = some (.slice A1 p.order.length c1) := h.blk.cell 3
  have hl := HLEN.out
  clear h hR hq hkl
  go_enter Tryd.func31, Tryd.ntmps31
  go_wp2_with fail
  go_loopw [13] (fun i wr => ∃ (j : Nat), j ≤ p.order.length ∧ i = .int .i64 j ∧ Hid (Dk wr base g bs bf (.slice A1 p.order.length c1) (p.part keep j)) ∧ Hid (Fr (fun k => k = bs) w wr)) (fun i _ => p.order.length - (intOf i).toNat)
  case atStart => exact ⟨0, Nat.zero_le _, rfl, Lib.hid H.out, Lib.hid (Fr.refl _ _)⟩
  case round =>
    obtain ⟨j, hj, rfl, HD, HF⟩ := hrel
    by_cases hlt : j < p.order.length
    · as_aux_lemma =>
      obtain ⟨gA, oA, rfl, -, hgA, cj⟩ := rd_int (HO.out.fr HF.out (fun k hk e => H.out.vs k hk e)) hlt
      by_cases hjn : j < n
      · obtain ⟨gK, oK, rfl, -, -, ck⟩ := rd_bool (HR.out.fr HF.out HQ.out) hjn
        cases hb : keep.getD j false with
        | false =>
          rw [hb] at ck
          have HB := Lib.hid hb
          clear hb c3
          go_wp2_with fail
          go_roundw
          case rel => exact ⟨j + 1, by omega, by go_num, Lib.hid (by rw [part_skip HB.out]; exact HD.out), HF⟩
          case measure => simp [intOf]; omega
        | true =>
          rw [hb] at ck
          have HB := Lib.hid hb
          have ha : p.order.getD j 0 ∈ p.order := by rw [List.getD_eq_getElem?_getD, List.getElem?_eq_getElem hlt]; exact List.getElem_mem _
          have hr := H.out.ok.inOrd ha
          obtain ⟨s, hs⟩ : ∃ s, p.fresh (p.order.getD j 0) = some s := by
            cases hf : p.fresh (p.order.getD j 0) with
            | some s => exact ⟨s, rfl⟩
            | none => exact absurd hf ((H.out.ok.ord _).1 ha)
          have hkey := keyI hr.1 (by have := H.out.ok.s2; omega)
          have HS := Lib.hid hs
          have HK := Lib.hid hkey
          have cj' : wr.cell? ⟨gA, oA + j, none⟩ = some (.int .i64 (p.order.getD j 0)) := cj
          have hlk : (Instr.lookup 86 (.map (some bf)) (.int .i64 (p.order.getD j 0)) false).run Tryd.prog wr.drew = .ok (.agg (secA s)) wr.drew := by
            have := ((HD.out.mw.fr (S := NoB) ((Fr.refl _ wr).drew) (fun x => x)).look kI Tryd.underlying86 (zSec _) hkey).2
            rw [this]
            simp only [DP.part, mf, hs, Option.map_some, Option.getD_some]
          have hM0 : MapAt wr.drew Tryd.prog 3 bs p.size (mf (cutS p keep j)) := HD.out.ms.fr (S := NoB) ((Fr.refl _ wr).drew) (fun x => x)
          obtain ⟨w5, hrun, hM5, hF5⟩ := hM0.store kI Tryd.underlying86 (by have := H.out.ok.s2; unfold maxLen; omega) hkey (.agg (secA s))
          have HM5 := Lib.hid hM5
          have HF5 := Lib.hid hF5
          have d1 : wr.cell? ⟨g, 1, none⟩ = some (.map (some bs)) := HD.out.blk.cell 1
          have d2 : wr.cell? ⟨g, 2, none⟩ = some (.map (some bf)) := HD.out.blk.cell 2
          clear hb c3 ha hr hs hkey cj hM0 hM5 hF5
          generalize hx : p.order.getD j 0 = x at *
          have HX := Lib.hid hx
          clear hx
          go_wp2_with fail
          go_region
          go_wp2_with fail
          go_roundw
          case rel =>
            refine ⟨j + 1, by omega, by go_num, Lib.hid ?_, Lib.hid (HF.out.trans HF5.out.ofDrew)⟩
            subst x
            exact part_step HD.out hlt HB.out HS.out HM5.out HF5.out.ofDrew H.out.ok
          case measure => simp [intOf]; omega
      · have hb : keep.getD j false = false := by
          have := HKL.out
          rw [List.getD_eq_getElem?_getD, List.getElem?_eq_none (by omega)]; rfl
        have HB := Lib.hid hb
        clear hb c3
        go_wp2_with fail
        go_roundw
        case rel => exact ⟨j + 1, by omega, by go_num, Lib.hid (by rw [part_skip HB.out]; exact HD.out), HF⟩
        case measure => simp [intOf]; omega
    · obtain rfl : j = p.order.length := by omega
      go_wp2_with fail
      refine (forget_in HD.out).mono ?_
      rintro e w2 ⟨rfl, hD2, hF2⟩
      have f4 := hD2.blk.frozen 4
      have f5 := hD2.blk.frozen 5
      have e4 := hD2.blk.cell 4
      have e5 := hD2.blk.cell 5
      have HD2 := Lib.hid hD2
      have HF2 := Lib.hid hF2
      clear hD2 hF2
      go_wp2_with fail
      go_end0
      have hz := (HD2.out.setFuse (-1) (by omega)).setDown false
      refine ⟨rfl, hz, ?_⟩
      refine (((HF.out.mono fun b _ hb => .inr (.inl hb)).trans (HF2.out.mono fun b _ hb => hb.imp id .inr)).setCell (p := ⟨g, 4, none⟩) (fun _ => .inl rfl) _).setCell (p := ⟨g, 5, none⟩) (fun _ => .inl rfl) _
end Go.Proofs.YteeclfejgpgooaaDoor
/- Disks: copies. No condition but the disk's own. -/
namespace Go.Proofs.YteeclfejgpgooaaDoor
set_option linter.unusedVariables false
set_option linter.unusedSimpArgs false
set_option linter.constructorNameAsVariable false
open Go.RowKit Go.Maps

theorem keep3 {w : World} {g g2 j : Nat} {u : Value} {x y z : Option Value} (h : w.cell? ⟨g, 1, none⟩ = x ∧ w.cell? ⟨g, 2, none⟩ = y ∧ w.cell? ⟨g, 3, none⟩ = z) (hne : g2 ≠ g) :
    (w.setCell ⟨g2, j, none⟩ u).cell? ⟨g, 1, none⟩ = x ∧ (w.setCell ⟨g2, j, none⟩ u).cell? ⟨g, 2, none⟩ = y ∧ (w.setCell ⟨g2, j, none⟩ u).cell? ⟨g, 3, none⟩ = z := by
  have e : ∀ i, (w.setCell ⟨g2, j, none⟩ u).cell? ⟨g, i, none⟩ = w.cell? ⟨g, i, none⟩ := fun i => World.cell?_setCell_other _ _ _ _ (fun e => hne (by injection e))
  rw [e, e, e]
  exact h
end Go.Proofs.YteeclfejgpgooaaDoor
/- Disks: each method whole, errors by their numbers; what a power cut keeps. No condition but the disk's own. -/
namespace Go.Proofs.YteeclfejgpgooaaDoor
set_option linter.unusedVariables false
set_option linter.unusedSimpArgs false
set_option linter.constructorNameAsVariable false
open Go.RowKit Go.Maps

/-- An error by its number; 0: none. -/
def errD (n : Int) : Value := if n = 0 then .nilIface else .iface 63 (.int .i64 n)
theorem errD_0 : errD 0 = .nilIface := rfl
theorem errD_n {n : Int} (h : n ≠ 0) : errD n = .iface 63 (.int .i64 n) := if_neg h
theorem num_errD (n : Int) (w : World) : Calls Tryd.prog 14 #[errD n] w fun e w' => e = .returned (.int .i64 n) ∧ w = w' := by
  by_cases h : n = 0
  · subst h; exact num_nil w
  · rw [errD_n h]; exact num_err n w (by simp [h])

def DP.within (p : DP) (a : Int) : Bool := decide (0 ≤ a ∧ a < p.size)
def DP.wcode (p : DP) (a : Int) : Int := if p.within a = true then (if p.fuse = 0 ∨ p.down = true then 14 else 0) else 1
def DP.doWrite (p : DP) (a : Int) (s : List Int) : DP := if p.within a = true then (if p.fuse = 0 ∨ p.down = true then p.fall else p.write a s) else p
def DP.scode (p : DP) : Int := if p.down = true then 14 else 0
def DP.doSync (p : DP) : DP := if p.down = true then p else p.sync
def DP.rcode (p : DP) (a : Int) : Int := if p.within a = true then 0 else 1
def DP.rget (p : DP) (a : Int) : List Int := if p.within a = true then p.get a else sec0
theorem DP.doWrite_size (p : DP) (a : Int) (s : List Int) : (p.doWrite a s).size = p.size := by
  unfold DP.doWrite
  split
  · split <;> rfl
  · rfl
theorem DP.doSync_size (p : DP) : p.doSync.size = p.size := by unfold DP.doSync; split <;> rfl

theorem write_any {w : World} {base g bs bf : Nat} {v : Value} {p : DP} (h : Dk w base g bs bf v p) (a : Int) {s : List Int} (hs : SecOk s) :
    Calls Tryd.prog 10 #[.pointer (some ⟨g, 0, none⟩), .int .i64 a, .agg (secA s)] w fun e w' => e = .returned (errD (p.wcode a)) ∧ ∃ v', Dk w' base g bs bf v' (p.doWrite a s) ∧ New w w' ∨ Dk w' base g bs bf v' (p.doWrite a s) ∧ Fr (DkOurs g bs bf v) w w' ∧ ∀ k, v'.ownBlock = some k → v.ownBlock = some k ∨ w.heap.size ≤ k := by
  unfold DP.wcode DP.doWrite DP.within
  by_cases hw : 0 ≤ a ∧ a < p.size
  · rw [decide_eq_true hw]
    by_cases hd : p.fuse = 0 ∨ p.down = true
    · simp only [if_true, if_pos hd]
      refine (write_down h s hw.1 hw.2 hd).mono ?_
      rintro e w' ⟨rfl, h1, h2⟩
      exact ⟨rfl, v, .inr ⟨h1, h2.mono fun b _ hb => .inl hb, fun k hk => .inl hk⟩⟩
    · simp only [if_true, if_neg hd]
      have h0 : p.down = false := by
        cases hq : p.down with
        | true => exact absurd (.inr hq) hd
        | false => rfl
      refine (write_in h hw.1 hw.2 hs h0 (fun e => hd (.inl e))).mono ?_
      rintro e w' ⟨rfl, v', h1, h2, h3⟩
      exact ⟨rfl, v', .inr ⟨h1, h2, h3⟩⟩
  · rw [decide_eq_false hw]
    simp only [Bool.false_eq_true, if_false]
    refine (write_out h s hw).mono ?_
    rintro e w' ⟨rfl, h1⟩
    exact ⟨rfl, v, .inl ⟨h.new h1, h1⟩⟩
/-- The same, the frame as Fr alone. -/
theorem write_all {w : World} {base g bs bf : Nat} {v : Value} {p : DP} (h : Dk w base g bs bf v p) (a : Int) {s : List Int} (hs : SecOk s) :
    Calls Tryd.prog 10 #[.pointer (some ⟨g, 0, none⟩), .int .i64 a, .agg (secA s)] w fun e w' => e = .returned (errD (p.wcode a)) ∧ ∃ v', Dk w' base g bs bf v' (p.doWrite a s) ∧ Fr (DkOurs g bs bf v) w w' ∧ ∀ k, v'.ownBlock = some k → base ≤ k ∧ (v.ownBlock = some k ∨ w.heap.size ≤ k) := by
  unfold DP.wcode DP.doWrite DP.within
  by_cases hw : 0 ≤ a ∧ a < p.size
  · rw [decide_eq_true hw]
    by_cases hd : p.fuse = 0 ∨ p.down = true
    · simp only [if_true, if_pos hd]
      refine (write_down h s hw.1 hw.2 hd).mono ?_
      rintro e w' ⟨rfl, h1, h2⟩
      exact ⟨rfl, v, h1, h2.mono fun b _ hb => .inl hb, fun k hk => ⟨(own_lt h1.own k hk).1, .inl hk⟩⟩
    · simp only [if_true, if_neg hd]
      have h0 : p.down = false := by
        cases hq : p.down with
        | true => exact absurd (.inr hq) hd
        | false => rfl
      refine (write_in h hw.1 hw.2 hs h0 (fun e => hd (.inl e))).mono ?_
      rintro e w' ⟨rfl, v', h1, h2, h3⟩
      exact ⟨rfl, v', h1, h2, fun k hk => ⟨(own_lt h1.own k hk).1, h3 k hk⟩⟩
  · rw [decide_eq_false hw]
    simp only [Bool.false_eq_true, if_false]
    refine (write_out h s hw).mono ?_
    rintro e w' ⟨rfl, h1⟩
    exact ⟨rfl, v, h.new h1, h1.toFr _, fun k hk => ⟨(own_lt h.own k hk).1, .inl hk⟩⟩
theorem sync_all {w : World} {base g bs bf : Nat} {v : Value} {p : DP} (h : Dk w base g bs bf v p) :
    Calls Tryd.prog 30 #[.pointer (some ⟨g, 0, none⟩)] w fun e w' => e = .returned (errD p.scode) ∧ ∃ v', Dk w' base g bs bf v' p.doSync ∧ Fr (DkOurs g bs bf v) w w' ∧ ∀ k, v'.ownBlock = some k → base ≤ k ∧ (v.ownBlock = some k ∨ w.heap.size ≤ k) := by
  unfold DP.scode DP.doSync
  by_cases hd : p.down = true
  · simp only [if_pos hd]
    refine (sync_down h hd).mono ?_
    rintro e w' ⟨rfl, rfl⟩
    exact ⟨rfl, v, h, Fr.refl _ _, fun k hk => ⟨(own_lt h.own k hk).1, .inl hk⟩⟩
  · simp only [if_neg hd]
    refine (sync_in h (by simpa using hd)).mono ?_
    rintro e w' ⟨rfl, h1, h2⟩
    refine ⟨rfl, _, h1, h2.mono fun b _ hb => ?_, fun k hk => by cases hk⟩
    rcases hb with rfl | rfl | rfl
    · exact .inl rfl
    · exact .inr (.inl rfl)
    · exact .inr (.inr (.inl rfl))
theorem read_all {w : World} {base g bs bf : Nat} {v : Value} {p : DP} (h : Dk w base g bs bf v p) (a : Int) :
    Calls Tryd.prog 19 #[.pointer (some ⟨g, 0, none⟩), .int .i64 a] w fun e w' => e = .returned (.tuple #[.agg (secA (p.rget a)), errD (p.rcode a)]) ∧ New w w' := by
  unfold DP.rcode DP.rget DP.within
  by_cases hw : 0 ≤ a ∧ a < p.size
  · rw [decide_eq_true hw]
    exact read_in h hw.1 hw.2
  · rw [decide_eq_false hw]
    exact read_out h hw
theorem DP.Ok.rget {p : DP} (h : p.Ok) (a : Int) : SecOk (p.rget a) := by
  unfold DP.rget
  split
  · exact h.get a
  · exact sec0_ok

/-- What is sure behind a power cut was sure ahead of it, or is what waited. -/
theorem cutS_either {p : DP} (h : p.Ok) (keep : List Bool) (x : Int) : ∀ j, j ≤ p.order.length → (cutS p keep j x = p.sure x ∨ ∃ s, p.fresh x = some s ∧ cutS p keep j x = some s)
  | 0, _ => .inl rfl
  | j + 1, hj => by
    simp only [cutS]
    split
    · simp only [upd]
      split
      · next e =>
        subst e
        have hlt : j < p.order.length := by omega
        have ha : p.order.getD j 0 ∈ p.order := by rw [List.getD_eq_getElem?_getD, List.getElem?_eq_getElem hlt]; exact List.getElem_mem _
        cases hf : p.fresh (p.order.getD j 0) with
        | some s => exact .inr ⟨s, rfl, rfl⟩
        | none => exact absurd hf ((h.ord _).1 ha)
      · exact cutS_either h keep x j (by omega)
    · exact cutS_either h keep x j (by omega)
theorem cutS_nil (p : DP) : ∀ j, cutS p [] j = p.sure
  | 0 => rfl
  | j + 1 => by simp only [cutS, List.getD_nil, Bool.false_eq_true, if_false]; exact cutS_nil p j
theorem cut_keeps {p : DP} (h : p.Ok) (keep : List Bool) (x : Int) : (p.cut keep).get x = p.get x ∨ (p.cut keep).get x = (p.cut []).get x := by
  have e1 : (p.cut keep).get x = (cutS p keep p.order.length x).getD sec0 := rfl
  have e2 : (p.cut []).get x = (p.sure x).getD sec0 := by
    show (cutS p [] p.order.length x).getD sec0 = _
    rw [cutS_nil]
  rcases cutS_either h keep x p.order.length (Nat.le_refl _) with h1 | ⟨s, h1, h2⟩
  · right; rw [e1, e2, h1]
  · left; rw [e1, h2, get_fresh h1]; rfl
end Go.Proofs.YteeclfejgpgooaaDoor
/- How many sectors a record needs; what a nil log and a nil disk answer. No condition but that numbers are of their kinds. -/
namespace Go.Proofs.YteeclfejgpgooaaDoor
set_option linter.unusedVariables false
set_option linter.unusedSimpArgs false
set_option linter.constructorNameAsVariable false
open Go.RowKit

/-- How many sectors a record of n bytes needs. -/
def secs (n : Int) : Int := if 1 ≤ n ∧ n ≤ 65536 then (n + 74) / 55 else 0
theorem secs_le (n : Int) : 0 ≤ secs n ∧ secs n ≤ 1193 := by
  unfold secs
  split <;> omega
theorem secs_0 {n : Int} (h : ¬ (1 ≤ n ∧ n ≤ 65536)) : secs n = 0 := if_neg h
theorem secs_in {n : Int} (h1 : 1 ≤ n) (h2 : n ≤ 65536) : secs n = (n + 74) / 55 := if_pos ⟨h1, h2⟩
theorem ret_i {a b : Int} (h : a = b) : Ending.returned (.int .i64 a) = Ending.returned (.int .i64 b) := by rw [h]
theorem sectors_any (n : Int) (w : World) : Calls Tryd.prog 22 #[.int .i64 n] w fun e w' => e = .returned (.int .i64 (secs n)) ∧ w = w' := by
  by_cases h1 : n < 1
  · have HS := Lib.hid (secs_0 (n := n) (by omega))
    go_enter Tryd.func22, Tryd.ntmps22
    go_wp2_with fail
    go_ret
    exact ⟨ret_i (a := 0) HS.out.symm, rfl⟩
  · by_cases h2 : 65536 < n
    · have HS := Lib.hid (secs_0 (n := n) (by omega))
      go_enter Tryd.func22, Tryd.ntmps22
      go_wp2_with fail
      go_ret
      exact ⟨ret_i (a := 0) HS.out.symm, rfl⟩
    · have HS := Lib.hid (secs_in (n := n) (by omega) (by omega))
      have h3 : 1 ≤ n := by omega
      have h4 : n ≤ 65536 := by omega
      go_enter Tryd.func22, Tryd.ntmps22
      go_wp2_with fail
      go_ret
      exact ⟨ret_i (by rw [HS.out]; omega), rfl⟩
theorem rsectors_any (n : Int) (w : World) : Calls Tryd.prog 23 #[.int .i64 n] w fun e w' => e = .returned (.int .i64 (secs n)) ∧ w = w' := by
  by_cases h1 : n < 1
  · have HS := Lib.hid (secs_0 (n := n) (by omega))
    go_enter Tryd.func23, Tryd.ntmps23
    go_wp2_with fail
    go_ret
    exact ⟨ret_i (a := 0) HS.out.symm, rfl⟩
  · by_cases h2 : 65536 < n
    · have HS := Lib.hid (secs_0 (n := n) (by omega))
      go_enter Tryd.func23, Tryd.ntmps23
      go_wp2_with fail
      go_ret
      exact ⟨ret_i (a := 0) HS.out.symm, rfl⟩
    · have HS := Lib.hid (secs_in (n := n) (by omega) (by omega))
      have h3 : 1 ≤ n := by omega
      have h4 : n ≤ 65536 := by omega
      go_enter Tryd.func23, Tryd.ntmps23
      go_wp2_with fail
      go_loop [3] (fun i => ∃ k : Nat, 55 * (k : Int) < n + 75 ∧ i = .int .i64 k) (fun i => 1300 - (intOf i).toNat)
      case atStart => exact ⟨0, by omega, rfl⟩
      case round =>
        obtain ⟨k, hk, rfl⟩ := hrel
        by_cases hlt : 55 * (k : Int) < n + 20
        · go_wp2_with fail
          go_round
          case rel => exact ⟨k + 1, by omega, by go_num⟩
          case measure => simp [intOf]; omega
        · go_wp2_with fail
          go_ret
          exact ⟨ret_i (a := k) (by rw [HS.out]; omega), rfl⟩
theorem alive_any (w : World) : Calls Tryd.prog 7 #[] w fun e w' => e = .returned (.bool true) ∧ w = w' := by
  have s1 : secs 1 = 1 := by decide
  have s2 : secs 36 = 2 := by decide
  have s3 : secs 35 = 1 := by decide
  go_enter Tryd.func7, Tryd.ntmps7
  go_wp2_with (go_at_call 22; refine (sectors_any _ _).mono ?_; rintro e w' ⟨rfl, rfl⟩)
  go_ret
  exact ⟨rfl, rfl⟩
theorem at_nil (a b c : Int) (w : World) : Calls Tryd.prog 39 #[.pointer none, .int .i64 a, .int .i64 b, .int .u32 c] w fun e w' => e = .returned (.tuple #[.pointer none, .iface 63 (.int .i64 11)]) ∧ w = w' := by
  go_enter Tryd.func39, Tryd.ntmps39
  go_wp2_with fail
  go_ret2
  exact ⟨rfl, rfl⟩
theorem open_nil (a b c : Int) (w : World) : Calls Tryd.prog 12 #[.pointer none, .int .i64 a, .int .i64 b, .int .u32 c] w fun e w' => e = .returned (.tuple #[.pointer none, .slice none 0 0, .iface 63 (.int .i64 11)]) ∧ w = w' := by
  go_enter Tryd.func12, Tryd.ntmps12
  go_wp2_with (go_at_call 39; refine (at_nil _ _ _ _).mono ?_; rintro e w' ⟨rfl, rfl⟩)
  refine bodyPost_ret (v := .tuple #[.pointer none, .slice none 0 0, .iface 63 (.int .i64 11)]) (by simp [results, Tryd.results12, go_sem]) rfl ⟨rfl, rfl⟩
theorem fresh_nil (a b c : Int) (w : World) : Calls Tryd.prog 21 #[.pointer none, .int .i64 a, .int .i64 b, .int .u32 c] w fun e w' => e = .returned (.tuple #[.pointer none, .iface 63 (.int .i64 11)]) ∧ w = w' := by
  go_enter Tryd.func21, Tryd.ntmps21
  go_wp2_with (go_at_call 39; refine (at_nil _ _ _ _).mono ?_; rintro e w' ⟨rfl, rfl⟩)
  go_ret2
  exact ⟨rfl, rfl⟩
theorem app_nil (A : Option Addr) (n c : Nat) (w : World) : Calls Tryd.prog 25 #[.pointer none, .slice A n c] w fun e w' => e = .returned (.iface 63 (.int .i64 11)) ∧ w = w' := by
  go_enter Tryd.func25, Tryd.ntmps25
  go_wp2_with (go_at_call 22; refine (sectors_any _ _).mono ?_; rintro e w' ⟨rfl, rfl⟩)
  go_ret
  exact ⟨rfl, rfl⟩
theorem used_nil (w : World) : Calls Tryd.prog 16 #[.pointer none] w fun e w' => e = .returned (.int .i64 0) ∧ w = w' := by
  go_enter Tryd.func16, Tryd.ntmps16
  go_wp2_with fail
  go_ret
  exact ⟨rfl, rfl⟩
theorem size_nil (w : World) : Calls Tryd.prog 26 #[.pointer none] w fun e w' => e = .returned (.int .i64 0) ∧ w = w' := by
  go_enter Tryd.func26, Tryd.ntmps26
  go_wp2_with fail
  go_ret
  exact ⟨rfl, rfl⟩
theorem gen_nil (w : World) : Calls Tryd.prog 27 #[.pointer none] w fun e w' => e = .returned (.int .u32 0) ∧ w = w' := by
  go_enter Tryd.func27, Tryd.ntmps27
  go_wp2_with fail
  go_ret
  exact ⟨rfl, rfl⟩
def z16 : Value := .agg #[.int .u8 0, .int .u8 0, .int .u8 0, .int .u8 0, .int .u8 0, .int .u8 0, .int .u8 0, .int .u8 0, .int .u8 0, .int .u8 0, .int .u8 0, .int .u8 0, .int .u8 0, .int .u8 0, .int .u8 0, .int .u8 0]
theorem tag_nil (w : World) : Calls Tryd.prog 28 #[.pointer none] w fun e w' => e = .returned z16 ∧ New w w' := by
  unfold z16
  go_enter Tryd.func28, Tryd.ntmps28
  go_wp2_with fail
  refine bodyPost_ret (v := z16) (by simp [results, Tryd.results28, go_sem, z16]) rfl ⟨rfl, ?_⟩
  repeat (first | exact New.refl _ | refine New.al ?_ _ | (refine New.set ?_ (by simp) _))
end Go.Proofs.YteeclfejgpgooaaDoor
