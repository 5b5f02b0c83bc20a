/- Texts of one proof, one behind the other: DkF, DkI, DkT, RcK. No condition but each one's own. -/
import Derived.Test.YtdojmjglnlkmoaaDoorRecordPlaysM12
import Derived.Test.YtdojmjglnlkmoaaDoorRecordPlaysM6
import Derived.Test.YtdojmjglnlkmoaaDoorRecordPlaysM10
/- Disks: copies. No condition but the disk's own. -/
namespace Go.Proofs.YtdojmjglnlkmoaaDoor
set_option linter.unusedVariables false
set_option linter.unusedSimpArgs false
set_option linter.constructorNameAsVariable false
open Go.RowKit Go.Maps

theorem keep3 {w : World} {g g2 j : Nat} {u : Value} {x y z : Option Value} (h : w.cell? ⟨g, 1, none⟩ = x ∧ w.cell? ⟨g, 2, none⟩ = y ∧ w.cell? ⟨g, 3, none⟩ = z) (hne : g2 ≠ g) :
    (w.setCell ⟨g2, j, none⟩ u).cell? ⟨g, 1, none⟩ = x ∧ (w.setCell ⟨g2, j, none⟩ u).cell? ⟨g, 2, none⟩ = y ∧ (w.setCell ⟨g2, j, none⟩ u).cell? ⟨g, 3, none⟩ = z := by
  have e : ∀ i, (w.setCell ⟨g2, j, none⟩ u).cell? ⟨g, i, none⟩ = w.cell? ⟨g, i, none⟩ := fun i => World.cell?_setCell_other _ _ _ _ (fun e => hne (by injection e))
  rw [e, e, e]
  exact h
end Go.Proofs.YtdojmjglnlkmoaaDoor
/- Disks: each method whole, errors by their numbers; what a power cut keeps. No condition but the disk's own. -/
namespace Go.Proofs.YtdojmjglnlkmoaaDoor
set_option linter.unusedVariables false
set_option linter.unusedSimpArgs false
set_option linter.constructorNameAsVariable false
open Go.RowKit Go.Maps

/-- An error by its number; 0: none. -/
def errD (n : Int) : Value := if n = 0 then .nilIface else .iface 55 (.int .i64 n)
theorem errD_0 : errD 0 = .nilIface := rfl
theorem errD_n {n : Int} (h : n ≠ 0) : errD n = .iface 55 (.int .i64 n) := if_neg h
theorem num_errD (n : Int) (w : World) : Calls Tryd.prog 28 #[errD n] w fun e w' => e = .returned (.int .i64 n) ∧ w = w' := by
  by_cases h : n = 0
  · subst h; exact num_nil w
  · rw [errD_n h]; exact num_err n w (by simp [h])

def DP.within (p : DP) (a : Int) : Bool := decide (0 ≤ a ∧ a < p.size)
def DP.wcode (p : DP) (a : Int) : Int := if p.within a = true then (if p.fuse = 0 ∨ p.down = true then 14 else 0) else 1
def DP.doWrite (p : DP) (a : Int) (s : List Int) : DP := if p.within a = true then (if p.fuse = 0 ∨ p.down = true then p.fall else p.write a s) else p
def DP.scode (p : DP) : Int := if p.down = true then 14 else 0
def DP.doSync (p : DP) : DP := if p.down = true then p else p.sync
def DP.rcode (p : DP) (a : Int) : Int := if p.within a = true then 0 else 1
def DP.rget (p : DP) (a : Int) : List Int := if p.within a = true then p.get a else sec0
theorem DP.doWrite_size (p : DP) (a : Int) (s : List Int) : (p.doWrite a s).size = p.size := by
  unfold DP.doWrite
  split
  · split <;> rfl
  · rfl
theorem DP.doSync_size (p : DP) : p.doSync.size = p.size := by unfold DP.doSync; split <;> rfl

theorem write_any {w : World} {base g bs bf : Nat} {v : Value} {p : DP} (h : Dk w base g bs bf v p) (a : Int) {s : List Int} (hs : SecOk s) :
    Calls Tryd.prog 10 #[.pointer (some ⟨g, 0, none⟩), .int .i64 a, .agg (secA s)] w fun e w' => e = .returned (errD (p.wcode a)) ∧ ∃ v', Dk w' base g bs bf v' (p.doWrite a s) ∧ New w w' ∨ Dk w' base g bs bf v' (p.doWrite a s) ∧ Fr (DkOurs g bs bf v) w w' ∧ ∀ k, v'.ownBlock = some k → v.ownBlock = some k ∨ w.heap.size ≤ k := by
  unfold DP.wcode DP.doWrite DP.within
  by_cases hw : 0 ≤ a ∧ a < p.size
  · rw [decide_eq_true hw]
    by_cases hd : p.fuse = 0 ∨ p.down = true
    · simp only [if_true, if_pos hd]
      refine (write_down h s hw.1 hw.2 hd).mono ?_
      rintro e w' ⟨rfl, h1, h2⟩
      exact ⟨rfl, v, .inr ⟨h1, h2.mono fun b _ hb => .inl hb, fun k hk => .inl hk⟩⟩
    · simp only [if_true, if_neg hd]
      have h0 : p.down = false := by
        cases hq : p.down with
        | true => exact absurd (.inr hq) hd
        | false => rfl
      refine (write_in h hw.1 hw.2 hs h0 (fun e => hd (.inl e))).mono ?_
      rintro e w' ⟨rfl, v', h1, h2, h3⟩
      exact ⟨rfl, v', .inr ⟨h1, h2, h3⟩⟩
  · rw [decide_eq_false hw]
    simp only [Bool.false_eq_true, if_false]
    refine (write_out h s hw).mono ?_
    rintro e w' ⟨rfl, h1⟩
    exact ⟨rfl, v, .inl ⟨h.new h1, h1⟩⟩
/-- The same, the frame as Fr alone. -/
theorem write_all {w : World} {base g bs bf : Nat} {v : Value} {p : DP} (h : Dk w base g bs bf v p) (a : Int) {s : List Int} (hs : SecOk s) :
    Calls Tryd.prog 10 #[.pointer (some ⟨g, 0, none⟩), .int .i64 a, .agg (secA s)] w fun e w' => e = .returned (errD (p.wcode a)) ∧ ∃ v', Dk w' base g bs bf v' (p.doWrite a s) ∧ Fr (DkOurs g bs bf v) w w' ∧ ∀ k, v'.ownBlock = some k → base ≤ k ∧ (v.ownBlock = some k ∨ w.heap.size ≤ k) := by
  unfold DP.wcode DP.doWrite DP.within
  by_cases hw : 0 ≤ a ∧ a < p.size
  · rw [decide_eq_true hw]
    by_cases hd : p.fuse = 0 ∨ p.down = true
    · simp only [if_true, if_pos hd]
      refine (write_down h s hw.1 hw.2 hd).mono ?_
      rintro e w' ⟨rfl, h1, h2⟩
      exact ⟨rfl, v, h1, h2.mono fun b _ hb => .inl hb, fun k hk => ⟨(own_lt h1.own k hk).1, .inl hk⟩⟩
    · simp only [if_true, if_neg hd]
      have h0 : p.down = false := by
        cases hq : p.down with
        | true => exact absurd (.inr hq) hd
        | false => rfl
      refine (write_in h hw.1 hw.2 hs h0 (fun e => hd (.inl e))).mono ?_
      rintro e w' ⟨rfl, v', h1, h2, h3⟩
      exact ⟨rfl, v', h1, h2, fun k hk => ⟨(own_lt h1.own k hk).1, h3 k hk⟩⟩
  · rw [decide_eq_false hw]
    simp only [Bool.false_eq_true, if_false]
    refine (write_out h s hw).mono ?_
    rintro e w' ⟨rfl, h1⟩
    exact ⟨rfl, v, h.new h1, h1.toFr _, fun k hk => ⟨(own_lt h.own k hk).1, .inl hk⟩⟩
theorem sync_all {w : World} {base g bs bf : Nat} {v : Value} {p : DP} (h : Dk w base g bs bf v p) :
    Calls Tryd.prog 55 #[.pointer (some ⟨g, 0, none⟩)] w fun e w' => e = .returned (errD p.scode) ∧ ∃ v', Dk w' base g bs bf v' p.doSync ∧ Fr (DkOurs g bs bf v) w w' ∧ ∀ k, v'.ownBlock = some k → base ≤ k ∧ (v.ownBlock = some k ∨ w.heap.size ≤ k) := by
  unfold DP.scode DP.doSync
  by_cases hd : p.down = true
  · simp only [if_pos hd]
    refine (sync_down h hd).mono ?_
    rintro e w' ⟨rfl, rfl⟩
    exact ⟨rfl, v, h, Fr.refl _ _, fun k hk => ⟨(own_lt h.own k hk).1, .inl hk⟩⟩
  · simp only [if_neg hd]
    refine (sync_in h (by simpa using hd)).mono ?_
    rintro e w' ⟨rfl, h1, h2⟩
    refine ⟨rfl, _, h1, h2.mono fun b _ hb => ?_, fun k hk => by cases hk⟩
    rcases hb with rfl | rfl | rfl
    · exact .inl rfl
    · exact .inr (.inl rfl)
    · exact .inr (.inr (.inl rfl))
theorem read_all {w : World} {base g bs bf : Nat} {v : Value} {p : DP} (h : Dk w base g bs bf v p) (a : Int) :
    Calls Tryd.prog 46 #[.pointer (some ⟨g, 0, none⟩), .int .i64 a] w fun e w' => e = .returned (.tuple #[.agg (secA (p.rget a)), errD (p.rcode a)]) ∧ New w w' := by
  unfold DP.rcode DP.rget DP.within
  by_cases hw : 0 ≤ a ∧ a < p.size
  · rw [decide_eq_true hw]
    exact read_in h hw.1 hw.2
  · rw [decide_eq_false hw]
    exact read_out h hw
theorem DP.Ok.rget {p : DP} (h : p.Ok) (a : Int) : SecOk (p.rget a) := by
  unfold DP.rget
  split
  · exact h.get a
  · exact sec0_ok

/-- What is sure behind a power cut was sure ahead of it, or is what waited. -/
theorem cutS_either {p : DP} (h : p.Ok) (keep : List Bool) (x : Int) : ∀ j, j ≤ p.order.length → (cutS p keep j x = p.sure x ∨ ∃ s, p.fresh x = some s ∧ cutS p keep j x = some s)
  | 0, _ => .inl rfl
  | j + 1, hj => by
    simp only [cutS]
    split
    · simp only [upd]
      split
      · next e =>
        subst e
        have hlt : j < p.order.length := by omega
        have ha : p.order.getD j 0 ∈ p.order := by rw [List.getD_eq_getElem?_getD, List.getElem?_eq_getElem hlt]; exact List.getElem_mem _
        cases hf : p.fresh (p.order.getD j 0) with
        | some s => exact .inr ⟨s, rfl, rfl⟩
        | none => exact absurd hf ((h.ord _).1 ha)
      · exact cutS_either h keep x j (by omega)
    · exact cutS_either h keep x j (by omega)
theorem cutS_nil (p : DP) : ∀ j, cutS p [] j = p.sure
  | 0 => rfl
  | j + 1 => by simp only [cutS, List.getD_nil, Bool.false_eq_true, if_false]; exact cutS_nil p j
theorem cut_keeps {p : DP} (h : p.Ok) (keep : List Bool) (x : Int) : (p.cut keep).get x = p.get x ∨ (p.cut keep).get x = (p.cut []).get x := by
  have e1 : (p.cut keep).get x = (cutS p keep p.order.length x).getD sec0 := rfl
  have e2 : (p.cut []).get x = (p.sure x).getD sec0 := by
    show (cutS p [] p.order.length x).getD sec0 = _
    rw [cutS_nil]
  rcases cutS_either h keep x p.order.length (Nat.le_refl _) with h1 | ⟨s, h1, h2⟩
  · right; rw [e1, e2, h1]
  · left; rw [e1, h2, get_fresh h1]; rfl
end Go.Proofs.YtdojmjglnlkmoaaDoor
/- A disk that went on, as one fact. No condition. -/
namespace Go.Proofs.YtdojmjglnlkmoaaDoor
set_option linter.unusedVariables false
set_option linter.unusedSimpArgs false
set_option linter.constructorNameAsVariable false
open Go.RowKit

/-- A disk that went on: what it is now; what else is as it was. -/
structure DkTo (w : World) (base g bs bf : Nat) (v : Value) (p : DP) (w' : World) (v' : Value) : Prop where
  dk : Dk w' base g bs bf v' p
  fr : Fr (DkOurs g bs bf v) w w'
  own : ∀ k, v'.ownBlock = some k → base ≤ k ∧ (v.ownBlock = some k ∨ w.heap.size ≤ k)
section
variable {w w' w'' : World} {base g bs bf : Nat} {v v' v'' : Value} {p q : DP}
theorem DkTo.same (h : Dk w base g bs bf v p) (hN : New w w') : DkTo w base g bs bf v p w' v := ⟨h.new hN, hN.toFr _, fun k hk => ⟨(h.ours k (.inr (.inr (.inr hk)))).1, .inl hk⟩⟩
theorem DkTo.new (h : DkTo w base g bs bf v p w' v') (hN : New w' w'') : DkTo w base g bs bf v p w'' v' := ⟨h.dk.new hN, h.fr.trans (hN.toFr _), h.own⟩
theorem DkTo.tr (h : DkTo w base g bs bf v p w' v') (k : DkTo w' base g bs bf v' q w'' v'') : DkTo w base g bs bf v q w'' v'' :=
  ⟨k.dk, h.fr.trans' k.fr (fun b hb ho => by
    rcases ho with ho | ho | ho | ho
    · exact .inl ho
    · exact .inr (.inl ho)
    · exact .inr (.inr (.inl ho))
    · rcases (h.own b ho).2 with h1 | h1
      · exact .inr (.inr (.inr h1))
      · omega), fun b hb => ⟨(k.own b hb).1, by
    rcases (k.own b hb).2 with h1 | h1
    · exact (h.own b h1).2
    · exact .inr (by have := h.fr.size; omega)⟩⟩
end
theorem dk_notBlk {w : World} {base g bs bf : Nat} {v : Value} {p : DP} (h : Dk w base g bs bf v p) {k t : Nat} {cs : Array Value} (hk : Blk w k t cs) (h1 : k ≠ g) (h2 : t ≠ 3) : ¬ DkOurs g bs bf v k := by
  rintro (ho | ho | ho | ho)
  · exact h1 ho
  · exact blk_map hk h.ms ho
  · exact blk_map hk h.mw ho
  · exact own_ne h.own hk (Ne.symm h2) ho
theorem dk_notT {w : World} {base g bs bf : Nat} {v : Value} {p : DP} {t : Nat} (h : Dk w base g bs bf v p) (h1 : 83 ≠ t) (h2 : 3 ≠ t) : ∀ k, DkOurs g bs bf v k → ¬ IsT t w k := by
  rintro k (rfl | rfl | rfl | hk)
  · exact IsT.not_blk h.blk h1
  · exact IsT.not_map h.ms
  · exact IsT.not_map h.mw
  · exact IsT.not_own h.own h2 hk
end Go.Proofs.YtdojmjglnlkmoaaDoor
/- A keeper in plain words, and in memory; its small answers. No condition. -/
namespace Go.Proofs.YtdojmjglnlkmoaaDoor
set_option linter.unusedVariables false
set_option linter.unusedSimpArgs false
set_option linter.constructorNameAsVariable false
open Go.RowKit Go.Sort

/-- A keeper in plain words. -/
structure KR where
  number : Nat
  now : Rc
  broken : Bool
def KR.new : KR := ⟨0, rc0, false⟩
/-- A record's bytes written to their slot; all of it; what is saved; what a disk holds. -/
def slotA (n i : Nat) : Int := ((2 * (n % 2) + i : Nat) : Int)
def sec2 (all : List Int) (i : Nat) : List Int := (all.drop (64 * i)).take 64
def writeQ (p : DP) (n : Nat) (all : List Int) : Nat → DP × Int
  | 0 => (p, 0)
  | k + 1 => let r := writeQ p n all k
    if r.2 ≠ 0 then r else (r.1.doWrite (slotA n k) (sec2 all k), r.1.wcode (slotA n k))
def writeP (p : DP) (n : Nat) (all : List Int) : DP × Int :=
  let r := writeQ p n all 2
  if r.2 ≠ 0 then r else (r.1.doSync, r.1.scode)
theorem writeQ_go {p : DP} {n : Nat} {all : List Int} {k : Nat} (h : (writeQ p n all k).2 = 0) : writeQ p n all (k + 1) = ((writeQ p n all k).1.doWrite (slotA n k) (sec2 all k), (writeQ p n all k).1.wcode (slotA n k)) := by
  simp only [writeQ]
  rw [if_neg (by rw [h]; simp)]
theorem writeQ_bad {p : DP} {n : Nat} {all : List Int} {k : Nat} (h : (writeQ p n all k).2 ≠ 0) : writeQ p n all (k + 1) = writeQ p n all k := by
  simp only [writeQ]
  rw [if_pos h]
theorem sec2_ok {all : List Int} (h : all.length = 128) (hb : Byt all) {i : Nat} (hi : i < 2) : SecOk (sec2 all i) := ⟨by unfold sec2; rw [List.length_take, List.length_drop]; omega, fun x hx => hb x (List.mem_of_mem_drop (List.mem_of_mem_take hx))⟩
theorem sec2_range {w : World} {g T : Nat} {all : List Int} {i : Nat} (hb : Blk w g T (secA all)) : w.rangeAt g (64 * i) (u8s (sec2 all i)) := fun j v hv => by
  rw [hb.cell]
  have hj := (List.getElem?_eq_some_iff.1 hv).1
  rw [u8s_len] at hj
  unfold secA
  rw [List.getElem?_toArray, ← hv]
  unfold u8s sec2 at *
  rw [List.length_take] at hj
  rw [List.getElem?_map, List.getElem?_map, List.getElem?_take_of_lt (by omega), List.getElem?_drop]
def saveP (p : DP) (k : KR) (r : Rc) : DP × KR × Int :=
  if ¬ r.Right then (p, k, 2) else if k.broken = true then (p, k, 10) else if k.number = 18446744073709551615 then (p, k, 9) else
  let x := writeP p (k.number + 1) (putL (k.number + 1) r)
  if x.2 ≠ 0 then (x.1, { k with broken := true }, x.2) else (x.1, ⟨k.number + 1, r, k.broken⟩, 0)
def slotB (p : DP) (s : Nat) : List Int := p.rget ((2 * s : Nat) : Int) ++ p.rget ((2 * s + 1 : Nat) : Int)
theorem slotB_ok {p : DP} (h : p.Ok) (s : Nat) : (slotB p s).length = 128 ∧ Byt (slotB p s) := ⟨by unfold slotB; rw [List.length_append, (h.rget _).1, (h.rget _).1], fun x hx => (List.mem_append.1 hx).elim ((h.rget _).2 x) ((h.rget _).2 x)⟩
def takeK (k : KR) (n : Nat) (r : Rc) : KR := if k.number < n then { k with number := n, now := r } else k
def openP (p : DP) : KR := takeK (takeK KR.new (getN 0 (slotB p 0)) (getR 0 (slotB p 0))) (getN 1 (slotB p 1)) (getR 1 (slotB p 1))
/-- A keeper in memory. -/
structure KR.Ok (k : KR) : Prop where
  now : k.now.Ok
  num : k.number < 18446744073709551616
theorem KR.new_ok : KR.new.Ok := ⟨rc0_ok, by decide⟩
theorem takeK_ok {k : KR} (h : k.Ok) {n : Nat} {r : Rc} (hr : r.Ok) (hn : n < 18446744073709551616) : (takeK k n r).Ok := by
  unfold takeK
  split
  · exact ⟨hr, hn⟩
  · exact h
def kpA (k : KR) (gd : Nat) : List Value := [.pointer (some ⟨gd, 0, none⟩), .int .u64 k.number] ++ k.now.cells.toList ++ [.bool k.broken]
theorem Rc.cells_len {r : Rc} (h : r.root.length = 32) : r.cells.toList.length = 37 := by rw [Array.length_toList, Rc.size h]
structure Kp (w : World) (gk gd : Nat) (k : KR) : Prop where
  blk : Blk w gk 90 (kpA k gd).toArray
  ok : k.Ok
theorem Kp.fr {S : Nat → Prop} {w w' : World} {gk gd : Nat} {k : KR} (h : Kp w gk gd k) (hF : Fr S w w') (hs : ¬ S gk) : Kp w' gk gd k := ⟨h.blk.fr hF hs, h.ok⟩
theorem Kp.new {w w' : World} {gk gd : Nat} {k : KR} (h : Kp w gk gd k) (hN : New w w') : Kp w' gk gd k := ⟨hN.blk h.blk, h.ok⟩
theorem Kp.c0 {w : World} {gk gd : Nat} {k : KR} (h : Kp w gk gd k) : w.cell? ⟨gk, 0, none⟩ = some (.pointer (some ⟨gd, 0, none⟩)) := h.blk.cell 0
theorem Kp.c1 {w : World} {gk gd : Nat} {k : KR} (h : Kp w gk gd k) : w.cell? ⟨gk, 1, none⟩ = some (.int .u64 k.number) := h.blk.cell 1
theorem Kp.c3 {w : World} {gk gd : Nat} {k : KR} (h : Kp w gk gd k) : w.cell? ⟨gk, 39, none⟩ = some (.bool k.broken) := by
  rw [h.blk.cell 39, List.getElem?_toArray]
  unfold kpA
  rw [List.getElem?_append_right (by simp [Rc.size h.ok.now.len])]
  simp [Rc.size h.ok.now.len]
theorem kpA_len {k : KR} (h : k.now.root.length = 32) (gd : Nat) : (kpA k gd).length = 40 := by simp [kpA, Rc.size h]
theorem Kp.nowAt {w : World} {gk gd : Nat} {k : KR} (h : Kp w gk gd k) : w.rangeAt gk 2 k.now.cells.toList := fun j v hv => by
  rw [h.blk.cell, List.getElem?_toArray]
  have hj := (List.getElem?_eq_some_iff.1 hv).1
  unfold kpA
  rw [List.append_assoc, List.getElem?_append_right (by simp), List.getElem?_append_left (by simpa using hj)]
  simpa using hv
theorem Kp.setNum {w : World} {gk gd : Nat} {k : KR} (h : Kp w gk gd k) (n : Nat) (hn : n < 18446744073709551616) : Kp (w.setCell ⟨gk, 1, none⟩ (.int .u64 n)) gk gd { k with number := n } :=
  ⟨by
    have := h.blk.set 1 (.int .u64 n)
    rw [List.setIfInBounds_toArray] at this
    exact this, ⟨h.ok.now, hn⟩⟩
theorem Kp.setBroken {w : World} {gk gd : Nat} {k : KR} (h : Kp w gk gd k) (b : Bool) : Kp (w.setCell ⟨gk, 39, none⟩ (.bool b)) gk gd { k with broken := b } :=
  ⟨by
    have := h.blk.set 39 (.bool b)
    rw [List.setIfInBounds_toArray] at this
    have e : (kpA k gd).set 39 (.bool b) = kpA { k with broken := b } gd := by
      unfold kpA
      rw [List.set_append_right _ _ (by simp [Rc.size h.ok.now.len])]
      simp [Rc.size h.ok.now.len]
    rw [e] at this
    exact this, ⟨h.ok.now, h.ok.num⟩⟩
theorem kpA_now {k : KR} (h : k.now.root.length = 32) (gd : Nat) (r : Rc) (hr : r.root.length = 32) : splice (kpA k gd) 2 r.cells.toList = kpA { k with now := r } gd := by
  unfold splice kpA
  rw [Rc.cells_len hr]
  have h5 : ([Value.pointer (some ⟨gd, 0, none⟩), .int .u64 k.number] ++ k.now.cells.toList ++ [Value.bool k.broken]).drop (2 + 37) = [Value.bool k.broken] := by
    rw [List.drop_append_of_le_length (by simp [Rc.size h]), List.drop_of_length_le (by simp [Rc.size h])]
    rfl
  rw [h5]
  simp
set_option maxHeartbeats 1000000
set_option maxRecDepth 100000
theorem number_nil (w : World) : Calls Tryd.prog 16 #[.pointer none] w fun e w' => e = .returned (.int .u64 0) ∧ w = w' := by
  go_enter Tryd.func16, Tryd.ntmps16
  go_wp2_with fail
  go_ret
  exact ⟨rfl, rfl⟩
theorem number_kp {w : World} {gk gd : Nat} {k : KR} (h : Kp w gk gd k) : Calls Tryd.prog 16 #[.pointer (some ⟨gk, 0, none⟩)] w fun e w' => e = .returned (.int .u64 k.number) ∧ w = w' := by
  have c1 := h.c1
  clear h
  go_enter Tryd.func16, Tryd.ntmps16
  go_wp2_with fail
  go_ret
  exact ⟨rfl, rfl⟩
theorem broken_nil (w : World) : Calls Tryd.prog 19 #[.pointer none] w fun e w' => e = .returned (.bool false) ∧ w = w' := by
  go_enter Tryd.func19, Tryd.ntmps19
  go_wp2_with fail
  go_ret
  exact ⟨rfl, rfl⟩
theorem broken_kp {w : World} {gk gd : Nat} {k : KR} (h : Kp w gk gd k) : Calls Tryd.prog 19 #[.pointer (some ⟨gk, 0, none⟩)] w fun e w' => e = .returned (.bool k.broken) ∧ w = w' := by
  have c1 := h.c3
  clear h
  go_enter Tryd.func19, Tryd.ntmps19
  go_wp2_with fail
  go_ret
  exact ⟨rfl, rfl⟩
end Go.Proofs.YtdojmjglnlkmoaaDoor
