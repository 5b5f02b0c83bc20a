/- Disks: each method whole, errors by their numbers; what a power cut keeps. No condition but the disk's own. -/
import Derived.Test.YtpdgnidoglmgcaaDkF
namespace Go.Proofs.Ytpdgnidoglmgcaa
open Go.RowKit Go.Maps

/-- An error by its number; 0: none. -/
def errV (n : Int) : Value := if n = 0 then .nilIface else .iface 45 (.int .i64 n)
theorem errV_0 : errV 0 = .nilIface := rfl
theorem errV_n {n : Int} (h : n ≠ 0) : errV n = .iface 45 (.int .i64 n) := if_neg h
theorem num_errV (n : Int) (w : World) : Calls Try.prog 26 #[errV n] w fun e w' => e = .returned (.int .i64 n) ∧ w = w' := by
  by_cases h : n = 0
  · subst h; exact num_nil w
  · rw [errV_n h]; exact num_err n w (by simp [h])

def DP.within (p : DP) (a : Int) : Bool := decide (0 ≤ a ∧ a < p.size)
def DP.wcode (p : DP) (a : Int) : Int := if p.within a = true then (if p.fuse = 0 ∨ p.down = true then 14 else 0) else 1
def DP.doWrite (p : DP) (a : Int) (s : List Int) : DP := if p.within a = true then (if p.fuse = 0 ∨ p.down = true then p.fall else p.write a s) else p
def DP.scode (p : DP) : Int := if p.down = true then 14 else 0
def DP.doSync (p : DP) : DP := if p.down = true then p else p.sync
def DP.rcode (p : DP) (a : Int) : Int := if p.within a = true then 0 else 1
def DP.rget (p : DP) (a : Int) : List Int := if p.within a = true then p.get a else sec0
theorem DP.doWrite_size (p : DP) (a : Int) (s : List Int) : (p.doWrite a s).size = p.size := by
  unfold DP.doWrite
  split
  · split <;> rfl
  · rfl
theorem DP.doSync_size (p : DP) : p.doSync.size = p.size := by unfold DP.doSync; split <;> rfl

theorem write_any {w : World} {base g bs bf : Nat} {v : Value} {p : DP} (h : Dk w base g bs bf v p) (a : Int) {s : List Int} (hs : SecOk s) :
    Calls Try.prog 8 #[.pointer (some ⟨g, 0, none⟩), .int .i64 a, .agg (secA s)] w fun e w' => e = .returned (errV (p.wcode a)) ∧ ∃ v', Dk w' base g bs bf v' (p.doWrite a s) ∧ New w w' ∨ Dk w' base g bs bf v' (p.doWrite a s) ∧ Fr (DkOurs g bs bf v) w w' ∧ ∀ k, v'.ownBlock = some k → v.ownBlock = some k ∨ w.heap.size ≤ k := by
  unfold DP.wcode DP.doWrite DP.within
  by_cases hw : 0 ≤ a ∧ a < p.size
  · rw [decide_eq_true hw]
    by_cases hd : p.fuse = 0 ∨ p.down = true
    · simp only [if_true, if_pos hd]
      refine (write_down h s hw.1 hw.2 hd).mono ?_
      rintro e w' ⟨rfl, h1, h2⟩
      exact ⟨rfl, v, .inr ⟨h1, h2.mono fun b _ hb => .inl hb, fun k hk => .inl hk⟩⟩
    · simp only [if_true, if_neg hd]
      have h0 : p.down = false := by
        cases hq : p.down with
        | true => exact absurd (.inr hq) hd
        | false => rfl
      refine (write_in h hw.1 hw.2 hs h0 (fun e => hd (.inl e))).mono ?_
      rintro e w' ⟨rfl, v', h1, h2, h3⟩
      exact ⟨rfl, v', .inr ⟨h1, h2, h3⟩⟩
  · rw [decide_eq_false hw]
    simp only [Bool.false_eq_true, if_false]
    refine (write_out h s hw).mono ?_
    rintro e w' ⟨rfl, h1⟩
    exact ⟨rfl, v, .inl ⟨h.new h1, h1⟩⟩
/-- The same, the frame as Fr alone. -/
theorem write_all {w : World} {base g bs bf : Nat} {v : Value} {p : DP} (h : Dk w base g bs bf v p) (a : Int) {s : List Int} (hs : SecOk s) :
    Calls Try.prog 8 #[.pointer (some ⟨g, 0, none⟩), .int .i64 a, .agg (secA s)] w fun e w' => e = .returned (errV (p.wcode a)) ∧ ∃ v', Dk w' base g bs bf v' (p.doWrite a s) ∧ Fr (DkOurs g bs bf v) w w' ∧ ∀ k, v'.ownBlock = some k → base ≤ k ∧ (v.ownBlock = some k ∨ w.heap.size ≤ k) := by
  unfold DP.wcode DP.doWrite DP.within
  by_cases hw : 0 ≤ a ∧ a < p.size
  · rw [decide_eq_true hw]
    by_cases hd : p.fuse = 0 ∨ p.down = true
    · simp only [if_true, if_pos hd]
      refine (write_down h s hw.1 hw.2 hd).mono ?_
      rintro e w' ⟨rfl, h1, h2⟩
      exact ⟨rfl, v, h1, h2.mono fun b _ hb => .inl hb, fun k hk => ⟨(own_lt h1.own k hk).1, .inl hk⟩⟩
    · simp only [if_true, if_neg hd]
      have h0 : p.down = false := by
        cases hq : p.down with
        | true => exact absurd (.inr hq) hd
        | false => rfl
      refine (write_in h hw.1 hw.2 hs h0 (fun e => hd (.inl e))).mono ?_
      rintro e w' ⟨rfl, v', h1, h2, h3⟩
      exact ⟨rfl, v', h1, h2, fun k hk => ⟨(own_lt h1.own k hk).1, h3 k hk⟩⟩
  · rw [decide_eq_false hw]
    simp only [Bool.false_eq_true, if_false]
    refine (write_out h s hw).mono ?_
    rintro e w' ⟨rfl, h1⟩
    exact ⟨rfl, v, h.new h1, h1.toFr _, fun k hk => ⟨(own_lt h.own k hk).1, .inl hk⟩⟩
theorem sync_all {w : World} {base g bs bf : Nat} {v : Value} {p : DP} (h : Dk w base g bs bf v p) :
    Calls Try.prog 9 #[.pointer (some ⟨g, 0, none⟩)] w fun e w' => e = .returned (errV p.scode) ∧ ∃ v', Dk w' base g bs bf v' p.doSync ∧ Fr (DkOurs g bs bf v) w w' ∧ ∀ k, v'.ownBlock = some k → base ≤ k ∧ (v.ownBlock = some k ∨ w.heap.size ≤ k) := by
  unfold DP.scode DP.doSync
  by_cases hd : p.down = true
  · simp only [if_pos hd]
    refine (sync_down h hd).mono ?_
    rintro e w' ⟨rfl, rfl⟩
    exact ⟨rfl, v, h, Fr.refl _ _, fun k hk => ⟨(own_lt h.own k hk).1, .inl hk⟩⟩
  · simp only [if_neg hd]
    refine (sync_in h (by simpa using hd)).mono ?_
    rintro e w' ⟨rfl, h1, h2⟩
    refine ⟨rfl, _, h1, h2.mono fun b _ hb => ?_, fun k hk => by cases hk⟩
    rcases hb with rfl | rfl | rfl
    · exact .inl rfl
    · exact .inr (.inl rfl)
    · exact .inr (.inr (.inl rfl))
theorem read_all {w : World} {base g bs bf : Nat} {v : Value} {p : DP} (h : Dk w base g bs bf v p) (a : Int) :
    Calls Try.prog 13 #[.pointer (some ⟨g, 0, none⟩), .int .i64 a] w fun e w' => e = .returned (.tuple #[.agg (secA (p.rget a)), errV (p.rcode a)]) ∧ New w w' := by
  unfold DP.rcode DP.rget DP.within
  by_cases hw : 0 ≤ a ∧ a < p.size
  · rw [decide_eq_true hw]
    exact read_in h hw.1 hw.2
  · rw [decide_eq_false hw]
    exact read_out h hw
theorem DP.Ok.rget {p : DP} (h : p.Ok) (a : Int) : SecOk (p.rget a) := by
  unfold DP.rget
  split
  · exact h.get a
  · exact sec0_ok

/-- What is sure behind a power cut was sure ahead of it, or is what waited. -/
theorem cutS_either {p : DP} (h : p.Ok) (keep : List Bool) (x : Int) : ∀ j, j ≤ p.order.length → (cutS p keep j x = p.sure x ∨ ∃ s, p.fresh x = some s ∧ cutS p keep j x = some s)
  | 0, _ => .inl rfl
  | j + 1, hj => by
    simp only [cutS]
    split
    · simp only [upd]
      split
      · next e =>
        subst e
        have hlt : j < p.order.length := by omega
        have ha : p.order.getD j 0 ∈ p.order := by rw [List.getD_eq_getElem?_getD, List.getElem?_eq_getElem hlt]; exact List.getElem_mem _
        cases hf : p.fresh (p.order.getD j 0) with
        | some s => exact .inr ⟨s, rfl, rfl⟩
        | none => exact absurd hf ((h.ord _).1 ha)
      · exact cutS_either h keep x j (by omega)
    · exact cutS_either h keep x j (by omega)
theorem cutS_nil (p : DP) : ∀ j, cutS p [] j = p.sure
  | 0 => rfl
  | j + 1 => by simp only [cutS, List.getD_nil, Bool.false_eq_true, if_false]; exact cutS_nil p j
theorem cut_keeps {p : DP} (h : p.Ok) (keep : List Bool) (x : Int) : (p.cut keep).get x = p.get x ∨ (p.cut keep).get x = (p.cut []).get x := by
  have e1 : (p.cut keep).get x = (cutS p keep p.order.length x).getD sec0 := rfl
  have e2 : (p.cut []).get x = (p.sure x).getD sec0 := by
    show (cutS p [] p.order.length x).getD sec0 = _
    rw [cutS_nil]
  rcases cutS_either h keep x p.order.length (Nat.le_refl _) with h1 | ⟨s, h1, h2⟩
  · right; rw [e1, e2, h1]
  · left; rw [e1, h2, get_fresh h1]; rfl
end Go.Proofs.Ytpdgnidoglmgcaa
