/- The program's reader of octets: what it hands out, and what is left, in plain words. No condition but that what is read can be read. -/
import Derived.Test.YtfhinmjpokollaaOcW
namespace Go.Proofs.Ytfhinmjpokollaa
set_option linter.unusedVariables false
set_option linter.unusedSimpArgs false
set_option linter.constructorNameAsVariable false
open Go.RowKit Go.Maps

def errV (e : Nat) : Value := if e = 0 then .nilIface else .iface 36 (.int .i64 e)
theorem errV_zero : errV 0 = .nilIface := rfl
theorem errV_pos {e : Nat} (h : e ≠ 0) : errV e = .iface 36 (.int .i64 e) := if_neg h
/-- A reader in memory. -/
structure RdIn (w : World) (g : Nat) (s : Rs) : Prop where
  st : ∃ A c, Blk w g 115 #[errV s.e, .slice A s.xs.length c] ∧ RdT 5 w 1 A s.xs.length (u8s s.xs) ∧ s.xs.length ≤ c
  byt : Byt s.xs
  len : s.xs.length ≤ 140737488355328
section
variable {g : Nat} {w w' : World} {s : Rs}
theorem RdIn.lt (h : RdIn w g s) : g < w.heap.size := by obtain ⟨A, c, hb, _⟩ := h.st; exact hb.lt
theorem RdIn.new (h : RdIn w g s) (hN : New w w') : RdIn w' g s := by
  obtain ⟨A, c, hb, hr, hc⟩ := h.st
  exact ⟨⟨A, c, hN.blk hb, hr.new hN, hc⟩, h.byt, h.len⟩
theorem RdIn.fr {S : Nat → Prop} (h : RdIn w g s) (hF : Fr S w w') (hg : ¬ S g) (hS : ∀ k, S k → ¬ IsT 5 w k) : RdIn w' g s := by
  obtain ⟨A, c, hb, hr, hc⟩ := h.st
  exact ⟨⟨A, c, hb.fr hF hg, hr.fr hF hS, hc⟩, h.byt, h.len⟩
end
theorem Rd.take {p : Nat → Prop} {w : World} {A : Option Addr} {n : Nat} {xs : List Int} (h : Rd p w 1 A n (u8s xs)) {k : Nat} (hk : k ≤ n) : Rd p w 1 A k (u8s (xs.take k)) := by
  have hl : xs.length = n := by have := h.1; rw [u8s_len] at this; omega
  refine ⟨by rw [u8s_len, List.length_take]; omega, fun hp => ?_⟩
  obtain ⟨ad, e, h1, h2, h3⟩ := h.2 (by omega)
  refine ⟨ad, e, h1, h2, fun j u hu => h3 j u ?_⟩
  have : u8s (xs.take k) = (u8s xs).take k := by simp [u8s]
  rw [this, List.getElem?_take] at hu
  split at hu
  · exact hu
  · cases hu
theorem from_any {p : Nat → Prop} (A : Option Addr) (n c : Nat) (xs : List Int) (w : World) (hO : Rd p w 1 A n (u8s xs)) (hb : Byt xs) (hn : n ≤ 140737488355328) :
    Calls Try.prog 50 #[.slice A n c] w fun e w' => ∃ g, e = .returned (.pointer (some ⟨g, 0, none⟩)) ∧ RdIn w' g ⟨xs, 0⟩ ∧ New w w' ∧ w.heap.size ≤ g := by
  have hx : xs.length = n := by have := hO.1; rw [u8s_len] at this; omega
  have HC := Lib.hid (sclone_any A n c xs w hO hn)
  have HB := Lib.hid hb
  have HX := Lib.hid hx
  clear hO hb hx
  go_enter Try.func50, Try.ntmps50
  go_wp2_with fail
  refine HC.out.mono ?_
  rintro e w1 ⟨⟨A1, d1, rfl, hO1⟩, hN1⟩
  have HO1 := Lib.hid hO1
  have HN1 := Lib.hid hN1
  clear hO1 hN1
  go_wp2_with fail
  go_ret
  have hN2 := New.al (New.refl w1) (.cells #[.nilIface, .slice A1 n d1] 115)
  refine ⟨w1.heap.size, rfl, ⟨⟨A1, d1, ?_, ?_, ?_⟩, HB.out, by rw [HX.out]; exact hn⟩, HN1.out.tr hN2, HN1.out.size⟩
  · rw [HX.out]
    exact Blk.new _ _ _
  · rw [HX.out]
    exact (RdT.own HO1.out rfl).new hN2
  · rw [HX.out]
    obtain ⟨A', c', h1, h2, -⟩ := own_shape HO1.out
    injection h1 with _ _ h3
    omega
theorem ffail_any (g T : Nat) (v : Value) (e c : Nat) (w : World) (hB : Blk w g T #[errV e, v]) (hc : 1 ≤ c) :
    Calls Try.prog 65 #[.pointer (some ⟨g, 0, none⟩), .iface 36 (.int .i64 c)] w fun x w' => x = .returned (.tuple #[]) ∧ Blk w' g T #[errV (if e = 0 then c else e), v] ∧ Fr (fun k => k = g) w w' := by
  have c0 : w.cell? ⟨g, 0, none⟩ = some (errV e) := hB.cell 0
  have f0 := hB.frozen 0
  have HB := Lib.hid hB
  clear hB
  by_cases h0 : e = 0
  · subst h0
    rw [errV_zero] at c0
    go_enter Try.func65, Try.ntmps65
    go_wp2_with fail
    go_end0
    refine ⟨rfl, ?_, (Fr.refl (fun k => k = g) w).setCell (p := ⟨g, 0, none⟩) (fun _ => rfl) _⟩
    have := HB.out.set 0 (.iface 36 (.int .i64 c))
    show Blk _ g T #[errV c, v]
    rw [errV_pos (e := c) (by omega)]
    simpa using this
  · rw [errV_pos h0] at c0
    rw [if_neg h0]
    clear h0
    go_enter Try.func65, Try.ntmps65
    go_wp2_with fail
    go_end0
    exact ⟨rfl, HB.out, Fr.refl _ _⟩
theorem rfail_any {g : Nat} {s : Rs} {w : World} (h : RdIn w g s) (c : Nat) (hc : 1 ≤ c) :
    Calls Try.prog 54 #[.pointer (some ⟨g, 0, none⟩), .iface 36 (.int .i64 c)] w fun x w' => x = .returned (.tuple #[]) ∧ RdIn w' g (s.bad c) ∧ Fr (fun k => k = g) w w' := by
  obtain ⟨A, d, hb, hr, hcc⟩ := h.st
  have HF := Lib.hid (ffail_any g 115 _ s.e c w hb hc)
  have H := Lib.hid h
  have HR := Lib.hid hr
  have HCC := Lib.hid hcc
  clear h hb hr hcc
  go_enter Try.func54, Try.ntmps54
  go_wp2_with fail
  refine HF.out.mono ?_
  rintro e w1 ⟨rfl, hB1, hF1⟩
  have HB1 := Lib.hid hB1
  have HF1 := Lib.hid hF1
  clear hB1 hF1
  go_wp2_with fail
  go_end0
  have hr1 : RdT 5 w1 1 A s.xs.length (u8s s.xs) := HR.out.fr HF1.out (fun k hk => by
    subst hk
    obtain ⟨A', d', hb', _⟩ := H.out.st
    exact IsT.not_blk hb' (by decide))
  refine ⟨rfl, ?_, HF1.out⟩
  have hB1 := HB1.out
  unfold Rs.bad
  by_cases h0 : s.e = 0
  · rw [if_pos h0] at hB1 ⊢
    exact ⟨⟨A, d, hB1, hr1, HCC.out⟩, H.out.byt, H.out.len⟩
  · rw [if_neg h0] at hB1 ⊢
    exact ⟨⟨A, d, hB1, hr1, HCC.out⟩, H.out.byt, H.out.len⟩
theorem rleft_any {g : Nat} {s : Rs} {w : World} (h : RdIn w g s) :
    Calls Try.prog 69 #[.pointer (some ⟨g, 0, none⟩)] w fun x w' => x = .returned (.int .i64 s.left) ∧ w = w' := by
  obtain ⟨A, d, hb, hr, hcc⟩ := h.st
  have c0 : w.cell? ⟨g, 0, none⟩ = some (errV s.e) := hb.cell 0
  have c1 : w.cell? ⟨g, 1, none⟩ = some (.slice A s.xs.length d) := hb.cell 1
  clear h hb hr hcc
  unfold Rs.left
  by_cases h0 : s.e = 0
  · rw [h0, errV_zero] at c0
    rw [if_pos h0]
    clear h0
    go_enter Try.func69, Try.ntmps69
    go_wp2_with fail
    go_ret
    exact ⟨rfl, rfl⟩
  · rw [errV_pos h0] at c0
    rw [if_neg h0]
    clear h0
    go_enter Try.func69, Try.ntmps69
    go_wp2_with fail
    go_ret
    exact ⟨rfl, rfl⟩
theorem left_le (s : Rs) : s.left ≤ s.xs.length := by
  unfold Rs.left
  split <;> omega
theorem left_zero {s : Rs} (h : 0 < s.left) : s.e = 0 ∧ s.left = s.xs.length := by
  unfold Rs.left at h ⊢
  split at h
  · next h0 => exact ⟨h0, by rw [if_pos h0]⟩
  · omega
set_option maxHeartbeats 2000000 in
theorem rraw_any {g : Nat} {s : Rs} {w : World} (h : RdIn w g s) (n : Nat) (hn : n ≤ 140737488355328) :
    Calls Try.prog 68 #[.pointer (some ⟨g, 0, none⟩), .int .i64 n] w fun x w' => (∃ A c, x = .returned (.slice A (s.raw n).1.length c) ∧ w'.ownsRow w.heap.size 5 1 (.slice A (s.raw n).1.length c) (s.raw n).1.length (u8s (s.raw n).1)) ∧ RdIn w' g (s.raw n).2 ∧ Fr (fun k => k = g) w w' := by
  have HL := Lib.hid (rleft_any h)
  have HFL := Lib.hid (rfail_any h 2 (by omega))
  have hll := left_le s
  have hlen := h.len
  by_cases hlt : s.left < n
  · have hx : s.raw n = ([], s.bad 2) := by unfold Rs.raw; rw [if_pos hlt]
    rw [hx]
    generalize s.left = l at *
    clear hx
    go_enter Try.func68, Try.ntmps68
    go_wp2_with fail
    refine HL.out.mono ?_
    rintro e w1 ⟨rfl, rfl⟩
    have hd : decide ((l : Int) < (n : Int)) = true := decide_eq_true (by omega)
    go_wp2_with fail
    refine HFL.out.mono ?_
    rintro e w2 ⟨rfl, hR2, hF2⟩
    have HR2 := Lib.hid hR2
    have HF2 := Lib.hid hF2
    clear hR2 hF2
    go_wp2_with fail
    go_ret
    exact ⟨⟨none, 0, rfl, World.ownsRow_nil _ _ _ _⟩, HR2.out, HF2.out⟩
  · have hx : s.raw n = (s.xs.take n, ⟨s.xs.drop n, s.e⟩) := by unfold Rs.raw; rw [if_neg hlt]
    rw [hx]
    dsimp only
    by_cases hn0 : n = 0
    · subst hn0
      rw [List.take_zero, List.drop_zero]
      have hd : decide ((s.left : Int) < 0) = false := decide_eq_false (by omega)
      have H := Lib.hid h
      generalize s.left = l at *
      clear hx h
      go_enter Try.func68, Try.ntmps68
      go_wp2_with fail
      refine HL.out.mono ?_
      rintro e w1 ⟨rfl, rfl⟩
      go_wp2_with fail
      go_ret
      exact ⟨⟨none, 0, rfl, World.ownsRow_nil _ _ _ _⟩, H.out, Fr.refl _ _⟩
    · obtain ⟨he, hle⟩ := left_zero (s := s) (by omega)
      have hnx : n ≤ s.xs.length := by omega
      obtain ⟨A, d, hb, hr, hcc⟩ := h.st
      obtain ⟨l, hl⟩ : ∃ l, l = s.xs.length := ⟨_, rfl⟩
      rw [← hl] at hb hr hcc hnx hlen
      have hd : decide ((l : Int) < (n : Int)) = false := decide_eq_false (by omega)
      rw [hle, ← hl] at HL
      rw [he, errV_zero] at hb
      have htk : (s.xs.take n).length = n := by rw [List.length_take]; omega
      rw [htk]
      have HB := Lib.hid hb
      have HR : Hid (RdT 5 w 1 A l (u8s s.xs)) := Lib.hid hr
      have HCC := Lib.hid hcc
      have HX := Lib.hid hl
      have HE := Lib.hid he
      have HBY := Lib.hid h.byt
      have HTK := Lib.hid htk
      have c1 : w.cell? ⟨g, 1, none⟩ = some (.slice A l d) := hb.cell 1
      have f1 := hb.frozen 1
      obtain ⟨gA, o, rfl, -⟩ : ∃ gA o, A = some ⟨gA, o, none⟩ ∧ True := by
        obtain ⟨gA, o, hA, _⟩ := hr.out (by omega) (by omega)
        exact ⟨gA, o, hA, trivial⟩
      clear hx h hb hr hcc hl he hle hll hlt htk
      go_enter Try.func68, Try.ntmps68
      go_wp2_with fail
      refine HL.out.mono ?_
      rintro e w1 ⟨rfl, rfl⟩
      have HNX := Lib.hid hnx
      by_cases hdn : d = n
      · subst hdn
        obtain rfl : l = d := by have := HCC.out; omega
        go_wp2_with fail
        refine (sclone_any (some ⟨gA, o, none⟩) l l (s.xs.take l) w (Rd.take HR.out HNX.out) (by omega)).mono ?_
        rintro e w2 ⟨⟨A2, d2, rfl, hO2⟩, hN2⟩
        have HO2 := Lib.hid hO2
        have HN2 := Lib.hid hN2
        have c1 : w2.cell? ⟨g, 1, none⟩ = some (.slice (some ⟨gA, o, none⟩) l l) := (hN2.blk HB.out).cell 1
        have f1 : w2.frozen? ⟨g, 1, none⟩ = false := (hN2.blk HB.out).frozen 1
        clear hO2 hN2
        go_wp2_with fail
        go_ret
        have hFs := fun v => (Fr.refl (fun k => k = g) w2).setCell (p := ⟨g, 1, none⟩) (fun _ => rfl) v
        have hng : ∀ k, k = g → ¬ IsT 5 w2 k := fun k hk => by subst hk; exact IsT.not_blk (HN2.out.blk HB.out) (by decide)
        have hnx : ∀ k, (Value.slice A2 l d2).ownBlock = some k → ¬ k = g := fun k hk e => hng k e (own_isT' HO2.out hk)
        have hd0 : s.xs.drop l = [] := List.drop_eq_nil_of_le (by rw [← HX.out]; exact Nat.le_refl _)
        rw [hd0]
        refine ⟨⟨A2, d2, rfl, own_fr HO2.out (hFs _) hnx⟩, ⟨⟨some ⟨gA, o, none⟩, 0, ?_, RdT.nil, Nat.le_refl _⟩, (fun x hx => nomatch hx), Nat.zero_le _⟩, (HN2.out.toFr _).trans (hFs _)⟩
        have hb := (HN2.out.blk HB.out).set 1 (.slice (some ⟨gA, o, none⟩) 0 0)
        dsimp only
        rw [HE.out, errV_zero]
        simpa using hb
      · have hlt2 : n < d := by have := HCC.out; omega
        go_wp2_with fail
        refine (sclone_any (some ⟨gA, o, none⟩) n d (s.xs.take n) w (Rd.take HR.out HNX.out) (by omega)).mono ?_
        rintro e w2 ⟨⟨A2, d2, rfl, hO2⟩, hN2⟩
        have HO2 := Lib.hid hO2
        have HN2 := Lib.hid hN2
        have c1 : w2.cell? ⟨g, 1, none⟩ = some (.slice (some ⟨gA, o, none⟩) l d) := (hN2.blk HB.out).cell 1
        have f1 : w2.frozen? ⟨g, 1, none⟩ = false := (hN2.blk HB.out).frozen 1
        clear hO2 hN2
        go_wp2_with fail
        go_ret
        have hFs := fun v => (Fr.refl (fun k => k = g) w2).setCell (p := ⟨g, 1, none⟩) (fun _ => rfl) v
        have hng : ∀ k, k = g → ¬ IsT 5 w2 k := fun k hk => by subst hk; exact IsT.not_blk (HN2.out.blk HB.out) (by decide)
        have hnx : ∀ k, (Value.slice A2 n d2).ownBlock = some k → ¬ k = g := fun k hk e => hng k e (own_isT' HO2.out hk)
        have hdl : (s.xs.drop n).length = l - n := by rw [List.length_drop, HX.out]
        have hrd : RdT 5 w2 1 (some ⟨gA, o + n, none⟩) (l - n) (u8s (s.xs.drop n)) := by
          have h1 := Rd.drop (cap := d) (HR.out.new HN2.out) HNX.out HCC.out
          rw [if_neg hdn, Option.map_some, Nat.mul_one] at h1
          have h2 : (⟨gA, o, none⟩ : Addr).add n = ⟨gA, o + n, none⟩ := by
            unfold Addr.add
            rw [if_neg hn0]
          rw [h2] at h1
          have h3 : (u8s s.xs).drop n = u8s (s.xs.drop n) := by simp [u8s]
          rw [h3] at h1
          exact h1
        refine ⟨⟨A2, d2, rfl, own_fr HO2.out (hFs _) hnx⟩, ⟨⟨some ⟨gA, o + n, none⟩, d - n, ?_, ?_, ?_⟩, ?_, ?_⟩, (HN2.out.toFr _).trans (hFs _)⟩
        · have hb := (HN2.out.blk HB.out).set 1 (.slice (some ⟨gA, o + n, none⟩) (l - n) (d - n))
          dsimp only
          rw [hdl, HE.out, errV_zero]
          simpa using hb
        · dsimp only
          rw [hdl]
          exact hrd.fr (hFs _) hng
        · dsimp only
          rw [hdl]
          have := HCC.out
          omega
        · exact fun x hx => HBY.out x (List.mem_of_mem_drop hx)
        · dsimp only
          rw [hdl]
          omega
end Go.Proofs.Ytfhinmjpokollaa
