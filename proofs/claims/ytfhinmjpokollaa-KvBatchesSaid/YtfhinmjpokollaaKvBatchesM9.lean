/- Texts of one proof, one behind the other: OcR, OcS, OcF, KvV, KvW. No condition but each one's own. -/
import Derived.Test.YtfhinmjpokollaaKvBatchesM8
import Derived.Laws.BitsAllLaws
/- The program's reader of octets: what it hands out, and what is left, in plain words. No condition but that what is read can be read. -/
namespace Go.Proofs.Ytfhinmjpokollaa
set_option linter.unusedVariables false
set_option linter.unusedSimpArgs false
set_option linter.constructorNameAsVariable false
open Go.RowKit Go.Maps

def errV (e : Nat) : Value := if e = 0 then .nilIface else .iface 36 (.int .i64 e)
theorem errV_zero : errV 0 = .nilIface := rfl
theorem errV_pos {e : Nat} (h : e ≠ 0) : errV e = .iface 36 (.int .i64 e) := if_neg h
/-- A reader in memory. -/
structure RdIn (w : World) (g : Nat) (s : Rs) : Prop where
  st : ∃ A c, Blk w g 115 #[errV s.e, .slice A s.xs.length c] ∧ RdT 5 w 1 A s.xs.length (u8s s.xs) ∧ s.xs.length ≤ c
  byt : Byt s.xs
  len : s.xs.length ≤ 140737488355328
section
variable {g : Nat} {w w' : World} {s : Rs}
theorem RdIn.lt (h : RdIn w g s) : g < w.heap.size := by obtain ⟨A, c, hb, _⟩ := h.st; exact hb.lt
theorem RdIn.new (h : RdIn w g s) (hN : New w w') : RdIn w' g s := by
  obtain ⟨A, c, hb, hr, hc⟩ := h.st
  exact ⟨⟨A, c, hN.blk hb, hr.new hN, hc⟩, h.byt, h.len⟩
theorem RdIn.fr {S : Nat → Prop} (h : RdIn w g s) (hF : Fr S w w') (hg : ¬ S g) (hS : ∀ k, S k → ¬ IsT 5 w k) : RdIn w' g s := by
  obtain ⟨A, c, hb, hr, hc⟩ := h.st
  exact ⟨⟨A, c, hb.fr hF hg, hr.fr hF hS, hc⟩, h.byt, h.len⟩
end
theorem Rd.take {p : Nat → Prop} {w : World} {A : Option Addr} {n : Nat} {xs : List Int} (h : Rd p w 1 A n (u8s xs)) {k : Nat} (hk : k ≤ n) : Rd p w 1 A k (u8s (xs.take k)) := by
  have hl : xs.length = n := by have := h.1; rw [u8s_len] at this; omega
  refine ⟨by rw [u8s_len, List.length_take]; omega, fun hp => ?_⟩
  obtain ⟨ad, e, h1, h2, h3⟩ := h.2 (by omega)
  refine ⟨ad, e, h1, h2, fun j u hu => h3 j u ?_⟩
  have : u8s (xs.take k) = (u8s xs).take k := by simp [u8s]
  rw [this, List.getElem?_take] at hu
  split at hu
  · exact hu
  · cases hu
theorem from_any {p : Nat → Prop} (A : Option Addr) (n c : Nat) (xs : List Int) (w : World) (hO : Rd p w 1 A n (u8s xs)) (hb : Byt xs) (hn : n ≤ 140737488355328) :
    Calls Try.prog 50 #[.slice A n c] w fun e w' => ∃ g, e = .returned (.pointer (some ⟨g, 0, none⟩)) ∧ RdIn w' g ⟨xs, 0⟩ ∧ New w w' ∧ w.heap.size ≤ g := by
  have hx : xs.length = n := by have := hO.1; rw [u8s_len] at this; omega
  have HC := Lib.hid (sclone_any A n c xs w hO hn)
  have HB := Lib.hid hb
  have HX := Lib.hid hx
  clear hO hb hx
  go_enter Try.func50, Try.ntmps50
  go_wp2_with fail
  refine HC.out.mono ?_
  rintro e w1 ⟨⟨A1, d1, rfl, hO1⟩, hN1⟩
  have HO1 := Lib.hid hO1
  have HN1 := Lib.hid hN1
  clear hO1 hN1
  go_wp2_with fail
  go_ret
  have hN2 := New.al (New.refl w1) (.cells #[.nilIface, .slice A1 n d1] 115)
  refine ⟨w1.heap.size, rfl, ⟨⟨A1, d1, ?_, ?_, ?_⟩, HB.out, by rw [HX.out]; exact hn⟩, HN1.out.tr hN2, HN1.out.size⟩
  · rw [HX.out]
    exact Blk.new _ _ _
  · rw [HX.out]
    exact (RdT.own HO1.out rfl).new hN2
  · rw [HX.out]
    obtain ⟨A', c', h1, h2, -⟩ := own_shape HO1.out
    injection h1 with _ _ h3
    omega
theorem ffail_any (g T : Nat) (v : Value) (e c : Nat) (w : World) (hB : Blk w g T #[errV e, v]) (hc : 1 ≤ c) :
    Calls Try.prog 65 #[.pointer (some ⟨g, 0, none⟩), .iface 36 (.int .i64 c)] w fun x w' => x = .returned (.tuple #[]) ∧ Blk w' g T #[errV (if e = 0 then c else e), v] ∧ Fr (fun k => k = g) w w' := by
  have c0 : w.cell? ⟨g, 0, none⟩ = some (errV e) := hB.cell 0
  have f0 := hB.frozen 0
  have HB := Lib.hid hB
  clear hB
  by_cases h0 : e = 0
  · subst h0
    rw [errV_zero] at c0
    go_enter Try.func65, Try.ntmps65
    go_wp2_with fail
    go_end0
    refine ⟨rfl, ?_, (Fr.refl (fun k => k = g) w).setCell (p := ⟨g, 0, none⟩) (fun _ => rfl) _⟩
    have := HB.out.set 0 (.iface 36 (.int .i64 c))
    show Blk _ g T #[errV c, v]
    rw [errV_pos (e := c) (by omega)]
    simpa using this
  · rw [errV_pos h0] at c0
    rw [if_neg h0]
    clear h0
    go_enter Try.func65, Try.ntmps65
    go_wp2_with fail
    go_end0
    exact ⟨rfl, HB.out, Fr.refl _ _⟩
theorem rfail_any {g : Nat} {s : Rs} {w : World} (h : RdIn w g s) (c : Nat) (hc : 1 ≤ c) :
    Calls Try.prog 54 #[.pointer (some ⟨g, 0, none⟩), .iface 36 (.int .i64 c)] w fun x w' => x = .returned (.tuple #[]) ∧ RdIn w' g (s.bad c) ∧ Fr (fun k => k = g) w w' := by
  obtain ⟨A, d, hb, hr, hcc⟩ := h.st
  have HF := Lib.hid (ffail_any g 115 _ s.e c w hb hc)
  have H := Lib.hid h
  have HR := Lib.hid hr
  have HCC := Lib.hid hcc
  clear h hb hr hcc
  go_enter Try.func54, Try.ntmps54
  go_wp2_with fail
  refine HF.out.mono ?_
  rintro e w1 ⟨rfl, hB1, hF1⟩
  have HB1 := Lib.hid hB1
  have HF1 := Lib.hid hF1
  clear hB1 hF1
  go_wp2_with fail
  go_end0
  have hr1 : RdT 5 w1 1 A s.xs.length (u8s s.xs) := HR.out.fr HF1.out (fun k hk => by
    subst hk
    obtain ⟨A', d', hb', _⟩ := H.out.st
    exact IsT.not_blk hb' (by decide))
  refine ⟨rfl, ?_, HF1.out⟩
  have hB1 := HB1.out
  unfold Rs.bad
  by_cases h0 : s.e = 0
  · rw [if_pos h0] at hB1 ⊢
    exact ⟨⟨A, d, hB1, hr1, HCC.out⟩, H.out.byt, H.out.len⟩
  · rw [if_neg h0] at hB1 ⊢
    exact ⟨⟨A, d, hB1, hr1, HCC.out⟩, H.out.byt, H.out.len⟩
theorem rleft_any {g : Nat} {s : Rs} {w : World} (h : RdIn w g s) :
    Calls Try.prog 69 #[.pointer (some ⟨g, 0, none⟩)] w fun x w' => x = .returned (.int .i64 s.left) ∧ w = w' := by
  obtain ⟨A, d, hb, hr, hcc⟩ := h.st
  have c0 : w.cell? ⟨g, 0, none⟩ = some (errV s.e) := hb.cell 0
  have c1 : w.cell? ⟨g, 1, none⟩ = some (.slice A s.xs.length d) := hb.cell 1
  clear h hb hr hcc
  unfold Rs.left
  by_cases h0 : s.e = 0
  · rw [h0, errV_zero] at c0
    rw [if_pos h0]
    clear h0
    go_enter Try.func69, Try.ntmps69
    go_wp2_with fail
    go_ret
    exact ⟨rfl, rfl⟩
  · rw [errV_pos h0] at c0
    rw [if_neg h0]
    clear h0
    go_enter Try.func69, Try.ntmps69
    go_wp2_with fail
    go_ret
    exact ⟨rfl, rfl⟩
theorem left_le (s : Rs) : s.left ≤ s.xs.length := by
  unfold Rs.left
  split <;> omega
theorem left_zero {s : Rs} (h : 0 < s.left) : s.e = 0 ∧ s.left = s.xs.length := by
  unfold Rs.left at h ⊢
  split at h
  · next h0 => exact ⟨h0, by rw [if_pos h0]⟩
  · omega
set_option maxHeartbeats 2000000 in
theorem rraw_any {g : Nat} {s : Rs} {w : World} (h : RdIn w g s) (n : Nat) (hn : n ≤ 140737488355328) :
    Calls Try.prog 68 #[.pointer (some ⟨g, 0, none⟩), .int .i64 n] w fun x w' => (∃ A c, x = .returned (.slice A (s.raw n).1.length c) ∧ w'.ownsRow w.heap.size 5 1 (.slice A (s.raw n).1.length c) (s.raw n).1.length (u8s (s.raw n).1)) ∧ RdIn w' g (s.raw n).2 ∧ Fr (fun k => k = g) w w' := by
  have HL := Lib.hid (rleft_any h)
  have HFL := Lib.hid (rfail_any h 2 (by omega))
  have hll := left_le s
  have hlen := h.len
  by_cases hlt : s.left < n
  · have hx : s.raw n = ([], s.bad 2) := by unfold Rs.raw; rw [if_pos hlt]
    rw [hx]
    generalize s.left = l at *
    clear hx
    go_enter Try.func68, Try.ntmps68
    go_wp2_with fail
    refine HL.out.mono ?_
    rintro e w1 ⟨rfl, rfl⟩
    have hd : decide ((l : Int) < (n : Int)) = true := decide_eq_true (by omega)
    go_wp2_with fail
    refine HFL.out.mono ?_
    rintro e w2 ⟨rfl, hR2, hF2⟩
    have HR2 := Lib.hid hR2
    have HF2 := Lib.hid hF2
    clear hR2 hF2
    go_wp2_with fail
    go_ret
    exact ⟨⟨none, 0, rfl, World.ownsRow_nil _ _ _ _⟩, HR2.out, HF2.out⟩
  · have hx : s.raw n = (s.xs.take n, ⟨s.xs.drop n, s.e⟩) := by unfold Rs.raw; rw [if_neg hlt]
    rw [hx]
    dsimp only
    by_cases hn0 : n = 0
    · subst hn0
      rw [List.take_zero, List.drop_zero]
      have hd : decide ((s.left : Int) < 0) = false := decide_eq_false (by omega)
      have H := Lib.hid h
      generalize s.left = l at *
      clear hx h
      go_enter Try.func68, Try.ntmps68
      go_wp2_with fail
      refine HL.out.mono ?_
      rintro e w1 ⟨rfl, rfl⟩
      go_wp2_with fail
      go_ret
      exact ⟨⟨none, 0, rfl, World.ownsRow_nil _ _ _ _⟩, H.out, Fr.refl _ _⟩
    · obtain ⟨he, hle⟩ := left_zero (s := s) (by omega)
      have hnx : n ≤ s.xs.length := by omega
      obtain ⟨A, d, hb, hr, hcc⟩ := h.st
      obtain ⟨l, hl⟩ : ∃ l, l = s.xs.length := ⟨_, rfl⟩
      rw [← hl] at hb hr hcc hnx hlen
      have hd : decide ((l : Int) < (n : Int)) = false := decide_eq_false (by omega)
      rw [hle, ← hl] at HL
      rw [he, errV_zero] at hb
      have htk : (s.xs.take n).length = n := by rw [List.length_take]; omega
      rw [htk]
      have HB := Lib.hid hb
      have HR : Hid (RdT 5 w 1 A l (u8s s.xs)) := Lib.hid hr
      have HCC := Lib.hid hcc
      have HX := Lib.hid hl
      have HE := Lib.hid he
      have HBY := Lib.hid h.byt
      have HTK := Lib.hid htk
      have c1 : w.cell? ⟨g, 1, none⟩ = some (.slice A l d) := hb.cell 1
      have f1 := hb.frozen 1
      obtain ⟨gA, o, rfl, -⟩ : ∃ gA o, A = some ⟨gA, o, none⟩ ∧ True := by
        obtain ⟨gA, o, hA, _⟩ := hr.out (by omega) (by omega)
        exact ⟨gA, o, hA, trivial⟩
      clear hx h hb hr hcc hl he hle hll hlt htk
      go_enter Try.func68, Try.ntmps68
      go_wp2_with fail
      refine HL.out.mono ?_
      rintro e w1 ⟨rfl, rfl⟩
      have HNX := Lib.hid hnx
      by_cases hdn : d = n
      · subst hdn
        obtain rfl : l = d := by have := HCC.out; omega
        go_wp2_with fail
        refine (sclone_any (some ⟨gA, o, none⟩) l l (s.xs.take l) w (Rd.take HR.out HNX.out) (by omega)).mono ?_
        rintro e w2 ⟨⟨A2, d2, rfl, hO2⟩, hN2⟩
        have HO2 := Lib.hid hO2
        have HN2 := Lib.hid hN2
        have c1 : w2.cell? ⟨g, 1, none⟩ = some (.slice (some ⟨gA, o, none⟩) l l) := (hN2.blk HB.out).cell 1
        have f1 : w2.frozen? ⟨g, 1, none⟩ = false := (hN2.blk HB.out).frozen 1
        clear hO2 hN2
        go_wp2_with fail
        go_ret
        have hFs := fun v => (Fr.refl (fun k => k = g) w2).setCell (p := ⟨g, 1, none⟩) (fun _ => rfl) v
        have hng : ∀ k, k = g → ¬ IsT 5 w2 k := fun k hk => by subst hk; exact IsT.not_blk (HN2.out.blk HB.out) (by decide)
        have hnx : ∀ k, (Value.slice A2 l d2).ownBlock = some k → ¬ k = g := fun k hk e => hng k e (own_isT' HO2.out hk)
        have hd0 : s.xs.drop l = [] := List.drop_eq_nil_of_le (by rw [← HX.out]; exact Nat.le_refl _)
        rw [hd0]
        refine ⟨⟨A2, d2, rfl, own_fr HO2.out (hFs _) hnx⟩, ⟨⟨some ⟨gA, o, none⟩, 0, ?_, RdT.nil, Nat.le_refl _⟩, (fun x hx => nomatch hx), Nat.zero_le _⟩, (HN2.out.toFr _).trans (hFs _)⟩
        have hb := (HN2.out.blk HB.out).set 1 (.slice (some ⟨gA, o, none⟩) 0 0)
        dsimp only
        rw [HE.out, errV_zero]
        simpa using hb
      · have hlt2 : n < d := by have := HCC.out; omega
        go_wp2_with fail
        refine (sclone_any (some ⟨gA, o, none⟩) n d (s.xs.take n) w (Rd.take HR.out HNX.out) (by omega)).mono ?_
        rintro e w2 ⟨⟨A2, d2, rfl, hO2⟩, hN2⟩
        have HO2 := Lib.hid hO2
        have HN2 := Lib.hid hN2
        have c1 : w2.cell? ⟨g, 1, none⟩ = some (.slice (some ⟨gA, o, none⟩) l d) := (hN2.blk HB.out).cell 1
        have f1 : w2.frozen? ⟨g, 1, none⟩ = false := (hN2.blk HB.out).frozen 1
        clear hO2 hN2
        go_wp2_with fail
        go_ret
        have hFs := fun v => (Fr.refl (fun k => k = g) w2).setCell (p := ⟨g, 1, none⟩) (fun _ => rfl) v
        have hng : ∀ k, k = g → ¬ IsT 5 w2 k := fun k hk => by subst hk; exact IsT.not_blk (HN2.out.blk HB.out) (by decide)
        have hnx : ∀ k, (Value.slice A2 n d2).ownBlock = some k → ¬ k = g := fun k hk e => hng k e (own_isT' HO2.out hk)
        have hdl : (s.xs.drop n).length = l - n := by rw [List.length_drop, HX.out]
        have hrd : RdT 5 w2 1 (some ⟨gA, o + n, none⟩) (l - n) (u8s (s.xs.drop n)) := by
          have h1 := Rd.drop (cap := d) (HR.out.new HN2.out) HNX.out HCC.out
          rw [if_neg hdn, Option.map_some, Nat.mul_one] at h1
          have h2 : (⟨gA, o, none⟩ : Addr).add n = ⟨gA, o + n, none⟩ := by
            unfold Addr.add
            rw [if_neg hn0]
          rw [h2] at h1
          have h3 : (u8s s.xs).drop n = u8s (s.xs.drop n) := by simp [u8s]
          rw [h3] at h1
          exact h1
        refine ⟨⟨A2, d2, rfl, own_fr HO2.out (hFs _) hnx⟩, ⟨⟨some ⟨gA, o + n, none⟩, d - n, ?_, ?_, ?_⟩, ?_, ?_⟩, (HN2.out.toFr _).trans (hFs _)⟩
        · have hb := (HN2.out.blk HB.out).set 1 (.slice (some ⟨gA, o + n, none⟩) (l - n) (d - n))
          dsimp only
          rw [hdl, HE.out, errV_zero]
          simpa using hb
        · dsimp only
          rw [hdl]
          exact hrd.fr (hFs _) hng
        · dsimp only
          rw [hdl]
          have := HCC.out
          omega
        · exact fun x hx => HBY.out x (List.mem_of_mem_drop hx)
        · dsimp only
          rw [hdl]
          omega
end Go.Proofs.Ytfhinmjpokollaa
/- The program's reader of octets: numbers, bytes, flags, the end. No condition but that what is read can be read. -/
namespace Go.Proofs.Ytfhinmjpokollaa
set_option linter.unusedVariables false
set_option linter.unusedSimpArgs false
set_option linter.constructorNameAsVariable false
open Go.RowKit Go.Maps

theorem or_shl (v y : Nat) (hv : v < 256 ^ 7) (hy : y < 256) : bits .or .u64 ((v : Int) * 256) (y : Int) = ((v * 256 + y : Nat) : Int) := by
  rw [show (v : Int) * 256 = ((v * 256 : Nat) : Int) by simp, u64_or_nat _ _ (by omega) (by omega)]
  congr 1
  rw [show v * 256 = v <<< 8 by rw [Nat.shiftLeft_eq], Nat.shiftLeft_add_eq_or_of_lt (by omega)]
theorem raw_le (s : Rs) (n : Nat) : (s.raw n).1.length ≤ n := by
  unfold Rs.raw
  split
  · simp
  · simp; omega
theorem raw_byt {s : Rs} (h : Byt s.xs) (n : Nat) : Byt (s.raw n).1 := by
  unfold Rs.raw
  split
  · intro x hx; cases hx
  · exact fun x hx => h x (List.mem_of_mem_take hx)
set_option maxHeartbeats 2000000 in
theorem rnum_any {g : Nat} {s : Rs} {w : World} (h : RdIn w g s) (size : Nat) (hs : size = 1 ∨ size = 2 ∨ size = 4 ∨ size = 8) :
    Calls Try.prog 51 #[.pointer (some ⟨g, 0, none⟩), .int .i64 size] w fun x w' => x = .returned (.int .u64 (s.num size).1) ∧ RdIn w' g (s.num size).2 ∧ Fr (fun k => k = g) w w' := by
  have HS := Lib.hid (fun w => sized_yes size (by omega) w)
  have HW := Lib.hid (rraw_any h size (by omega))
  have hle := raw_le s size
  have hby := raw_byt h.byt size
  unfold Rs.num
  dsimp only
  obtain ⟨bs, hbs⟩ : ∃ bs, bs = (s.raw size).1 := ⟨_, rfl⟩
  rw [← hbs] at HW hle hby ⊢
  obtain ⟨m, hm⟩ : ∃ m, m = bs.length := ⟨_, rfl⟩
  rw [← hm] at HW hle
  have hm8 : m ≤ 8 := by omega
  have HM := Lib.hid hm
  have HBY := Lib.hid hby
  clear hbs hm hby h hs
  go_enter Try.func51, Try.ntmps51
  go_wp2_with fail
  refine (HS.out _).mono ?_
  rintro e w1 ⟨rfl, rfl⟩
  go_wp2_with fail
  refine HW.out.mono ?_
  rintro e w2 ⟨⟨A, c, rfl, hO⟩, hR, hF⟩
  have HO := Lib.hid hO
  have HR := Lib.hid hR
  have HF := Lib.hid hF
  clear hO hR hF HW HS
  go_wp2_with fail
  go_loop [5, 18] (fun n i => ∃ j : Nat, j ≤ m ∧ i = .int .i64 j ∧ n = .int .u64 (valL (bs.take j))) (fun n i => m - (intOf i).toNat)
  case atStart => exact ⟨0, Nat.zero_le _, rfl, rfl⟩
  case round =>
    obtain ⟨j, hj, rfl, rfl⟩ := hrel
    by_cases hlt : j < m
    · obtain ⟨gA, o, rfl, -, -, hq⟩ := (Rd.own HO.out rfl).out (by omega) (by omega)
      have hjl : j < bs.length := by rw [← HM.out]; exact hlt
      have hcell : w2.cell? ⟨gA, o + j, none⟩ = some (.int .u8 bs[j]) := hq j _ (by simp [u8s, hjl])
      have hst := valL_take hjl
      have hb := HBY.out bs[j] (List.getElem_mem _)
      have hv := valL_lt (xs := bs.take j) (fun x hx => HBY.out x (List.mem_of_mem_take hx))
      rw [List.length_take, Nat.min_eq_left (by omega)] at hv
      have hv7 : valL (bs.take j) < 256 ^ 7 := Nat.lt_of_lt_of_le hv (Nat.pow_le_pow_right (by decide) (by omega))
      generalize bs[j] = x at hcell hst hb
      generalize valL (bs.take j) = v at hst hv7 ⊢
      obtain ⟨y, rfl⟩ : ∃ y : Nat, x = (y : Int) := ⟨x.toNat, by omega⟩
      have HST := Lib.hid hst
      have hy : y < 256 := by omega
      have hj0 : (0 : Int) ≤ (j : Int) := by omega
      have hjm : (j : Int) < (m : Int) := by omega
      clear hst hq hv hb hjl
      go_wp2_with fail
      refine ⟨⟨j + 1, by omega, by go_num, ?_⟩, by simp [intOf]; omega⟩
      rw [HST.out, or_shl v y hv7 hy]
      simp
    · obtain rfl : j = m := by omega
      go_wp2_with fail
      go_ret
      rw [List.take_of_length_le (by rw [← HM.out]; exact Nat.le_refl _)]
      exact ⟨rfl, HR.out, HF.out⟩
theorem or_i64 (x y : Nat) (hx : x < 256) (hy : y < 256) : bits .or .i64 ((x : Int) * 256) (y : Int) = ((x * 256 + y : Nat) : Int) := by
  rw [bits_join .i64 63 (by decide) (fun n h0 h1 => IntWalk.i64_in n (by omega)) 8 _ _ (by omega) (by omega) (by omega) (by omega) (by omega) (by omega)]
  simp
theorem val2 {xs : List Int} (hb : Byt xs) (h : 2 ≤ xs.length) : ∃ x y : Nat, x < 256 ∧ y < 256 ∧ xs[0]? = some (x : Int) ∧ xs[1]? = some (y : Int) ∧ valL (xs.take 2) = x * 256 + y := by
  match xs, h with
  | a :: b :: r, _ =>
    have ha := hb a (by simp)
    have hbb := hb b (by simp)
    refine ⟨a.toNat, b.toNat, by omega, by omega, by simp; omega, by simp; omega, by simp [valL]⟩
theorem RdIn.left1 {g : Nat} {s : Rs} {w : World} (h : RdIn w g s) (hl : 0 < s.left) : ∃ gA o c, Blk w g 115 #[.nilIface, .slice (some ⟨gA, o, none⟩) s.xs.length c] ∧ (∀ j x, s.xs[j]? = some x → w.cell? ⟨gA, o + j, none⟩ = some (.int .u8 x)) ∧ s.left = s.xs.length := by
  obtain ⟨he, hle⟩ := left_zero hl
  obtain ⟨A, c, hb, hr, hc⟩ := h.st
  obtain ⟨gA, o, rfl, -, -, hq⟩ := Rd.out hr (by omega) (by omega)
  rw [he, errV_zero] at hb
  refine ⟨gA, o, c, hb, fun j x hx => hq j _ ?_, hle⟩
  unfold u8s
  rw [List.getElem?_map, hx]
  rfl
set_option maxHeartbeats 4000000 in
theorem rbytes_any {g : Nat} {s : Rs} {w : World} (h : RdIn w g s) (most : Nat) (hmost : most ≤ 140737488355328) :
    Calls Try.prog 53 #[.pointer (some ⟨g, 0, none⟩), .int .i64 most] w fun x w' => (∃ A c, x = .returned (.slice A (s.bytes most).1.length c) ∧ ∃ base, w.heap.size ≤ base ∧ w'.ownsRow base 5 1 (.slice A (s.bytes most).1.length c) (s.bytes most).1.length (u8s (s.bytes most).1)) ∧ RdIn w' g (s.bytes most).2 ∧ Fr (fun k => k = g) w w' := by
  have HL := Lib.hid (rleft_any h)
  have HFL := Lib.hid (rfail_any h 2 (by omega))
  have hll := left_le s
  have hlen := h.len
  by_cases hl2 : s.left < 2
  · have hx : s.bytes most = ([], s.bad 2) := by unfold Rs.bytes; rw [if_pos hl2]
    rw [hx]
    generalize s.left = l at *
    clear hx
    have hd : decide ((l : Int) < 2) = true := decide_eq_true (by omega)
    go_enter Try.func53, Try.ntmps53
    go_wp2_with fail
    refine HL.out.mono ?_
    rintro e w1 ⟨rfl, rfl⟩
    go_wp2_with fail
    refine HFL.out.mono ?_
    rintro e w2 ⟨rfl, hR2, hF2⟩
    have HR2 := Lib.hid hR2
    have HF2 := Lib.hid hF2
    clear hR2 hF2
    go_wp2_with fail
    go_ret
    exact ⟨⟨none, 0, rfl, w.heap.size, Nat.le_refl _, World.ownsRow_nil _ _ _ _⟩, HR2.out, HF2.out⟩
  · obtain ⟨gA, o, c, hb, hq, hle⟩ := h.left1 (by omega)
    obtain ⟨x, y, hx, hy, h0, h1, hv⟩ := val2 h.byt (by omega)
    have k0 : w.cell? ⟨gA, o, none⟩ = some (.int .u8 x) := hq 0 _ h0
    have k1 : w.cell? ⟨gA, o + 1, none⟩ = some (.int .u8 y) := hq 1 _ h1
    have c1 : w.cell? ⟨g, 1, none⟩ = some (.slice (some ⟨gA, o, none⟩) s.xs.length c) := hb.cell 1
    have hor := or_i64 x y hx hy
    obtain ⟨v, hvv⟩ : ∃ v, v = x * 256 + y := ⟨_, rfl⟩
    rw [← hvv] at hv hor
    have hv16 : v < 65536 := by omega
    have hlx : s.xs.length = s.left := hle.symm
    rw [hlx] at c1
    have hR2 := rraw_any h 2 (by omega)
    have H := Lib.hid h
    by_cases hbad : most < v ∨ s.left - 2 < v
    · have hxb : s.bytes most = ([], s.bad 2) := by unfold Rs.bytes; rw [if_neg hl2, hv, if_pos hbad]
      rw [hxb]
      have hlb : s.left ≤ 140737488355328 := by omega
      clear hxb hR2 hlx hle hll
      obtain ⟨l, hl⟩ : ∃ l, l = s.left := ⟨_, rfl⟩
      rw [← hl] at HL c1 hl2 hbad hlb
      have HL2 := Lib.hid hl.symm
      clear hl
      have hd : decide ((l : Int) < 2) = false := decide_eq_false (by omega)
      clear hvv h h0 h1 hq hb hv
      by_cases hb1 : most < v
      · have hdb : decide (most < v) = true := decide_eq_true (by omega)
        go_enter Try.func53, Try.ntmps53
        go_wp2_with fail
        refine HL.out.mono ?_
        rintro e w1 ⟨rfl, rfl⟩
        go_wp2_with fail
        go_quiet (fail)
        obtain ⟨wq, hwq⟩ : ∃ wq : World, wq = w.drewN nq := ⟨_, rfl⟩
        have HNQ : Hid (New w wq) := Lib.hid (by rw [hwq]; exact New.dn (New.refl _) _)
        have HFQ := Lib.hid (rfail_any (H.out.new HNQ.out) 2 (by omega))
        rw [← hwq]
        clear hwq k0 k1 c1 hor
        go_wp2_with fail
        refine HFQ.out.mono ?_
        rintro e w2 ⟨rfl, hR3, hF3⟩
        have HR3 := Lib.hid hR3
        have HF3 := Lib.hid ((HNQ.out.toFr _).trans hF3)
        clear hR3 hF3
        go_wp2_with fail
        go_ret
        exact ⟨⟨none, 0, rfl, w.heap.size, Nat.le_refl _, World.ownsRow_nil _ _ _ _⟩, HR3.out, HF3.out⟩
      · have hdb : decide (most < v) = false := decide_eq_false (by omega)
        have hdc : decide ((l : Int) - 2 < (v : Int)) = true := decide_eq_true (by omega)
        go_enter Try.func53, Try.ntmps53
        go_wp2_with fail
        refine HL.out.mono ?_
        rintro e w1 ⟨rfl, rfl⟩
        go_wp2_with fail
        go_quiet (fail)
        obtain ⟨wq, hwq⟩ : ∃ wq : World, wq = w.drewN nq := ⟨_, rfl⟩
        have HNQ : Hid (New w wq) := Lib.hid (by rw [hwq]; exact New.dn (New.refl _) _)
        have HFQ := Lib.hid (rfail_any (H.out.new HNQ.out) 2 (by omega))
        have HLQ := rleft_any (H.out.new HNQ.out)
        rw [HL2.out] at HLQ
        have HLQ := Lib.hid HLQ
        rw [← hwq]
        clear hwq k0 k1 c1 hor
        go_wp2_with fail
        refine HLQ.out.mono ?_
        rintro e w1 ⟨rfl, rfl⟩
        go_wp2_with fail
        refine HFQ.out.mono ?_
        rintro e w2 ⟨rfl, hR3, hF3⟩
        have HR3 := Lib.hid hR3
        have HF3 := Lib.hid ((HNQ.out.toFr _).trans hF3)
        clear hR3 hF3
        go_wp2_with fail
        go_ret
        exact ⟨⟨none, 0, rfl, w.heap.size, Nat.le_refl _, World.ownsRow_nil _ _ _ _⟩, HR3.out, HF3.out⟩
    · have hxb : s.bytes most = (s.raw 2).2.raw v := by unfold Rs.bytes; rw [if_neg hl2, hv, if_neg hbad]
      rw [hxb]
      obtain ⟨s2, hs2⟩ : ∃ s2, s2 = (s.raw 2).2 := ⟨_, rfl⟩
      rw [← hs2]
      obtain ⟨m3, hm3⟩ : ∃ m3, m3 = (s2.raw v).1.length := ⟨_, rfl⟩
      rw [← hm3]
      have HS2 := Lib.hid hs2
      have HM3 := Lib.hid hm3
      clear hs2 hm3
      have hlb : s.left ≤ 140737488355328 := by omega
      clear hxb hR2 hlx hle hll
      obtain ⟨l, hl⟩ : ∃ l, l = s.left := ⟨_, rfl⟩
      rw [← hl] at HL c1 hl2 hbad hlb
      have HL2 := Lib.hid hl.symm
      clear hl
      have hd : decide ((l : Int) < 2) = false := decide_eq_false (by omega)
      clear hvv h h0 h1 hq hb hv
      have hdb : decide (most < v) = false := decide_eq_false (by omega)
      have hdc : decide ((l : Int) - 2 < (v : Int)) = false := decide_eq_false (by omega)
      clear hbad
      go_enter Try.func53, Try.ntmps53
      go_wp2_with fail
      refine HL.out.mono ?_
      rintro e w1 ⟨rfl, rfl⟩
      go_wp2_with fail
      go_quiet (fail)
      obtain ⟨wq, hwq⟩ : ∃ wq : World, wq = w.drewN nq := ⟨_, rfl⟩
      have HNQ : Hid (New w wq) := Lib.hid (by rw [hwq]; exact New.dn (New.refl _) _)
      have HLQ := rleft_any (H.out.new HNQ.out)
      rw [HL2.out] at HLQ
      have HLQ := Lib.hid HLQ
      rw [← hwq]
      clear hwq k0 k1 c1 hor
      go_wp2_with fail
      refine HLQ.out.mono ?_
      rintro e w1 ⟨rfl, rfl⟩
      go_wp2_with fail
      refine (rraw_any (H.out.new HNQ.out) 2 (by omega)).mono ?_
      rintro e w2 ⟨⟨A2, c2, rfl, -⟩, hR3, hF3⟩
      have HR3 := Lib.hid hR3
      have HF3 : Hid (Fr (fun k => k = g) w w2) := Lib.hid ((HNQ.out.toFr _).trans hF3)
      clear hR3 hF3
      rw [← HS2.out] at HR3
      generalize (s.raw 2).1.length = m2
      have HW3 := Lib.hid (rraw_any HR3.out v (by omega))
      rw [← HM3.out] at HW3
      go_wp2_with fail
      refine HW3.out.mono ?_
      rintro e w3 ⟨⟨A3, c3, rfl, hO3⟩, hR4, hF4⟩
      have HO3 := Lib.hid hO3
      have HR4 := Lib.hid hR4
      have HF4 := Lib.hid (HF3.out.trans hF4)
      clear hO3 hR4 hF4
      go_wp2_with fail
      go_ret
      exact ⟨⟨A3, c3, rfl, w2.heap.size, HF3.out.size, HO3.out⟩, HR4.out, HF4.out⟩
theorem rend_any {g : Nat} {s : Rs} {w : World} (h : RdIn w g s) :
    Calls Try.prog 55 #[.pointer (some ⟨g, 0, none⟩)] w fun x w' => x = .returned (errV s.fin) ∧ w = w' := by
  obtain ⟨A, c, hb, hr, hc⟩ := h.st
  have c0 : w.cell? ⟨g, 0, none⟩ = some (errV s.e) := hb.cell 0
  have c1 : w.cell? ⟨g, 1, none⟩ = some (.slice A s.xs.length c) := hb.cell 1
  unfold Rs.fin
  clear hb hr hc h
  by_cases h0 : s.e = 0
  · rw [h0, errV_zero] at c0
    rw [if_neg (by omega)]
    obtain ⟨n, hn⟩ : ∃ n, n = s.xs.length := ⟨_, rfl⟩
    rw [← hn] at c1 ⊢
    clear hn h0
    by_cases hn : 0 < n
    · have hd : decide ((0 : Int) < (n : Int)) = true := decide_eq_true (by omega)
      rw [if_pos hn, errV_pos (by omega)]
      go_enter Try.func55, Try.ntmps55
      go_wp2_with fail
      go_ret
      exact ⟨rfl, rfl⟩
    · have hd : decide ((0 : Int) < (n : Int)) = false := decide_eq_false (by omega)
      rw [if_neg hn, errV_zero]
      go_enter Try.func55, Try.ntmps55
      go_wp2_with fail
      go_ret
      exact ⟨rfl, rfl⟩
  · rw [if_pos h0]
    rw [errV_pos h0] at c0 ⊢
    clear h0
    go_enter Try.func55, Try.ntmps55
    go_wp2_with fail
    go_ret
    exact ⟨rfl, rfl⟩
end Go.Proofs.Ytfhinmjpokollaa
/- The program's reader of octets: flags. No condition but that what is read can be read. -/
namespace Go.Proofs.Ytfhinmjpokollaa
set_option linter.unusedVariables false
set_option linter.unusedSimpArgs false
set_option linter.constructorNameAsVariable false
open Go.RowKit Go.Maps

set_option maxHeartbeats 2000000 in
theorem rflag_any {g : Nat} {s : Rs} {w : World} (h : RdIn w g s) :
    Calls Try.prog 52 #[.pointer (some ⟨g, 0, none⟩)] w fun x w' => x = .returned (.bool s.flag.1) ∧ RdIn w' g s.flag.2 ∧ Fr (fun k => k = g) w w' := by
  have HL := Lib.hid (rleft_any h)
  have HFL := Lib.hid (rfail_any h 2 (by omega))
  have HN := Lib.hid (rnum_any h 1 (by omega))
  by_cases hl1 : s.left < 1
  · have hx : s.flag = (false, s.bad 2) := by unfold Rs.flag; rw [if_pos (.inl hl1)]
    rw [hx]
    generalize s.left = l at *
    clear hx h
    have hd : decide ((l : Int) < 1) = true := decide_eq_true (by omega)
    go_enter Try.func52, Try.ntmps52
    go_wp2_with fail
    refine HL.out.mono ?_
    rintro e w1 ⟨rfl, rfl⟩
    go_wp2_with fail
    refine HFL.out.mono ?_
    rintro e w2 ⟨rfl, hR2, hF2⟩
    have HR2 := Lib.hid hR2
    have HF2 := Lib.hid hF2
    clear hR2 hF2
    go_wp2_with fail
    go_ret
    exact ⟨rfl, HR2.out, HF2.out⟩
  · obtain ⟨gA, o, c, hb, hq, hle⟩ := h.left1 (by omega)
    have hxl : 0 < s.xs.length := by omega
    have h0 : s.xs[0]? = some s.xs[0] := List.getElem?_eq_getElem hxl
    have hby := h.byt s.xs[0] (List.getElem_mem _)
    have hhd : s.xs.headD 0 = s.xs[0] := by
      obtain ⟨xs, e⟩ := s
      match xs, hxl with
      | a :: r, _ => rfl
    have k0 : w.cell? ⟨gA, o, none⟩ = some (.int .u8 s.xs[0]) := hq 0 _ h0
    have c1 : w.cell? ⟨g, 1, none⟩ = some (.slice (some ⟨gA, o, none⟩) s.xs.length c) := hb.cell 1
    have hd : decide ((s.left : Int) < 1) = false := decide_eq_false (by omega)
    have hf : s.flag = if (1 : Int) < s.xs[0] then (false, s.bad 2) else (decide ((s.num 1).1 = 1), (s.num 1).2) := by
      unfold Rs.flag
      rw [hhd]
      by_cases h1 : (1 : Int) < s.xs[0]
      · rw [if_pos (.inr h1), if_pos h1]
      · rw [if_neg (by rintro (h | h) <;> omega), if_neg h1]
    rw [hf]
    rw [hle] at HL hd
    generalize s.xs[0] = x at *
    generalize s.xs.length = l at *
    clear hq hb hhd hf h0 hle hl1 h
    by_cases h1 : 1 < x
    · have hd1 : decide (1 < x) = true := decide_eq_true h1
      rw [if_pos h1]
      go_enter Try.func52, Try.ntmps52
      go_wp2_with fail
      refine HL.out.mono ?_
      rintro e w1 ⟨rfl, rfl⟩
      go_wp2_with fail
      refine HFL.out.mono ?_
      rintro e w2 ⟨rfl, hR2, hF2⟩
      have HR2 := Lib.hid hR2
      have HF2 := Lib.hid hF2
      clear hR2 hF2
      go_wp2_with fail
      go_ret
      exact ⟨rfl, HR2.out, HF2.out⟩
    · have hd1 : decide (1 < x) = false := decide_eq_false h1
      rw [if_neg h1]
      generalize (s.num 1).1 = v at *
      go_enter Try.func52, Try.ntmps52
      go_wp2_with fail
      refine HL.out.mono ?_
      rintro e w1 ⟨rfl, rfl⟩
      go_wp2_with fail
      refine HN.out.mono ?_
      rintro e w2 ⟨rfl, hR2, hF2⟩
      have HR2 := Lib.hid hR2
      have HF2 := Lib.hid hF2
      clear hR2 hF2
      go_wp2_with fail
      go_ret
      refine ⟨?_, HR2.out, HF2.out⟩
      congr 2
      by_cases hv : v = 1
      · subst hv; rfl
      · rw [decide_eq_false hv]
        simp
        omega
end Go.Proofs.Ytfhinmjpokollaa
/- The batch of bytes, as the program reads it. No condition but that the bytes can be read. -/
namespace Go.Proofs.Ytfhinmjpokollaa
set_option linter.unusedVariables false
set_option linter.unusedSimpArgs false
set_option linter.constructorNameAsVariable false
open Go.RowKit Go.Maps Go.Sort

/-- A change in plain words. -/
structure PC where
  k : List Int
  v : List Int
  d : Bool
def pcOf (c : Ch) : PC := ⟨c.k.xs, c.v.xs, c.d⟩
/-- One change read. -/
def prsStep (s : Rs) : PC × Rs :=
  if s.flag.1 then (⟨(s.flag.2.bytes 16).1, ((s.flag.2.bytes 16).2.bytes 16384).1, false⟩, ((s.flag.2.bytes 16).2.bytes 16384).2)
  else (⟨(s.flag.2.bytes 16).1, [], true⟩, (s.flag.2.bytes 16).2)
def prs : Nat → Rs → List PC → List PC × Rs
  | 0, s, out => (out, s)
  | n + 1, s, out => if (prsStep s).1.k = [] then (out, (prsStep s).2.bad 2) else prs n (prsStep s).2 (out ++ [(prsStep s).1])
def pcOk (c : PC) : Bool := decide (1 ≤ c.k.length) && decide (c.k.length ≤ 16) && decide (c.v.length ≤ 16384) && !(c.d && decide (0 < c.v.length))
def pcsOk (L : List PC) : Bool := decide (1 ≤ L.length) && decide (L.length ≤ 600) && L.all pcOk
def parseB (xs : List Int) : Option (List PC) :=
  if (prs ((⟨xs, 0⟩ : Rs).num 2).1 ((⟨xs, 0⟩ : Rs).num 2).2 []).2.fin = 0 ∧ pcsOk (prs ((⟨xs, 0⟩ : Rs).num 2).1 ((⟨xs, 0⟩ : Rs).num 2).2 []).1 = true then some (prs ((⟨xs, 0⟩ : Rs).num 2).1 ((⟨xs, 0⟩ : Rs).num 2).2 []).1 else none
/-- A change whose bytes lie in blocks of bytes. -/
structure Ch.InT (w : World) (c : Ch) : Prop where
  k : RdT 5 w 1 c.k.A c.k.n (u8s c.k.xs)
  kb : Byt c.k.xs
  v : RdT 5 w 1 c.v.A c.v.n (u8s c.v.xs)
  vb : Byt c.v.xs
theorem Ch.InT.new {w w' : World} {c : Ch} (h : c.InT w) (hN : New w w') : c.InT w' := ⟨h.k.new hN, h.kb, h.v.new hN, h.vb⟩
theorem Ch.InT.fr {S : Nat → Prop} {w w' : World} {c : Ch} (h : c.InT w) (hF : Fr S w w') (hS : ∀ k, S k → ¬ IsT 5 w k) : c.InT w' := ⟨h.k.fr hF hS, h.kb, h.v.fr hF hS, h.vb⟩
theorem Ch.InT.in_ {w : World} {c : Ch} (h : c.InT w) : c.In (fun b => b < w.heap.size) w := ⟨⟨rd_szs h.k, h.kb⟩, ⟨rd_szs h.v, h.vb⟩⟩
theorem Ch.InT.pc {w : World} {c : Ch} (h : c.InT w) : c.k.xs.length = c.k.n ∧ c.v.xs.length = c.v.n := ⟨h.in_.k.len, h.in_.v.len⟩
theorem pcOk_of {w : World} {c : Ch} (h : c.InT w) : pcOk (pcOf c) = chOk c := by
  obtain ⟨h1, h2⟩ := h.pc
  unfold pcOk chOk pcOf
  simp only [h1, h2]
theorem pcsOk_of {w : World} {L : List Ch} (h : ∀ c ∈ L, c.InT w) : pcsOk (L.map pcOf) = chsOk L := by
  unfold pcsOk chsOk
  have hlen : (L.map pcOf).length = L.length := by simp
  have e : (L.map pcOf).all pcOk = L.all chOk := by
    clear hlen
    induction L with
    | nil => rfl
    | cons c L ih => rw [List.map_cons, List.all_cons, List.all_cons, pcOk_of (h c (List.mem_cons_self ..)), ih fun c hc => h c (List.mem_cons_of_mem _ hc)]
  rw [hlen, e]
theorem raw_len_le (s : Rs) (n : Nat) : (s.raw n).1.length ≤ n := raw_le s n
theorem bytes_le (s : Rs) (most : Nat) : (s.bytes most).1.length ≤ most := by
  unfold Rs.bytes
  split
  · simp
  · split
    · simp
    · next h =>
      have := raw_le (s.raw 2).2 (valL (s.xs.take 2))
      omega
theorem raw_byt2 {s : Rs} (h : Byt s.xs) (n : Nat) : Byt (s.raw n).2.xs := by
  unfold Rs.raw
  split
  · unfold Rs.bad
    split <;> exact h
  · exact fun x hx => h x (List.mem_of_mem_drop hx)
theorem bytes_byt {s : Rs} (h : Byt s.xs) (most : Nat) : Byt (s.bytes most).1 := by
  unfold Rs.bytes
  split
  · intro x hx; cases hx
  · split
    · intro x hx; cases hx
    · exact raw_byt (raw_byt2 h 2) _
/-- What stands in a round of Parse. -/
structure PrI (w : World) (g : Nat) (s : Rs) (A : Option Addr) (m c : Nat) (L : List Ch) (wr : World) : Prop where
  new : New w wr
  gz : w.heap.size ≤ g
  rd : RdIn wr g s
  own : wr.ownsRow w.heap.size 41 3 (.slice A m c) m (L.flatMap Ch.cells)
  el : ∀ c ∈ L, c.InT wr
  sz : ∀ c ∈ L, c.k.n ≤ 16 ∧ c.v.n ≤ 16384
theorem elC : ElemOf Try.prog 28 41 3 56 := ElemOf.mk' (z := .agg ch0.cells.toArray) Try.underlying28 (by kernel_rfl) rfl (by decide)
/-- What Parse says. -/
def ParseSays (w : World) (r : Option (List PC)) (e : Ending) (w' : World) : Prop :=
  (r = none ∧ e = .returned (.tuple #[.slice none 0 0, .iface 36 (.int .i64 2)])) ∨
  (∃ (A : Option Addr) (n c : Nat) (L : List Ch), r = some (L.map pcOf) ∧ e = .returned (.tuple #[.slice A n c, .nilIface]) ∧ RTb w' A n L)
set_option maxHeartbeats 8000000 in
set_option maxRecDepth 100000 in
theorem parse_any {p : Nat → Prop} (A : Option Addr) (n c : Nat) (xs : List Int) (w : World) (hR : Rd p w 1 A n (u8s xs)) (hb : Byt xs) (hn : n ≤ 140737488355328) :
    Calls Try.prog 31 #[.slice A n c] w fun e w' => ParseSays w (parseB xs) e w' ∧ New w w' := by
  have HF := Lib.hid (from_any A n c xs w hR hb hn)
  obtain ⟨N, hN⟩ : ∃ N, N = ((⟨xs, 0⟩ : Rs).num 2).1 := ⟨_, rfl⟩
  obtain ⟨s0, hs0⟩ : ∃ s0, s0 = ((⟨xs, 0⟩ : Rs).num 2).2 := ⟨_, rfl⟩
  have hN16 : N < 65536 := by
    rw [hN]
    unfold Rs.num
    have h1 := valL_lt (xs := ((⟨xs, 0⟩ : Rs).raw 2).1) (raw_byt (s := ⟨xs, 0⟩) hb 2)
    have h2 := raw_le (⟨xs, 0⟩ : Rs) 2
    have h3 : 256 ^ ((⟨xs, 0⟩ : Rs).raw 2).1.length ≤ 256 ^ 2 := Nat.pow_le_pow_right (by decide) h2
    exact Nat.lt_of_lt_of_le h1 h3
  obtain ⟨r, hr⟩ : ∃ r, r = prs N s0 [] := ⟨_, rfl⟩
  obtain ⟨q, hq⟩ : ∃ q, q = parseB xs := ⟨_, rfl⟩
  rw [← hq]
  unfold parseB at hq
  rw [← hN, ← hs0, ← hr] at hq
  have HNN := Lib.hid hN
  have HS0 := Lib.hid hs0
  have HRR := Lib.hid hr
  have HQ := Lib.hid hq
  clear hR hb hN hs0 hr hq
  go_enter Try.func31, Try.ntmps31
  go_wp2_with fail
  refine HF.out.mono ?_
  rintro e w1 ⟨g, rfl, hR1, hN1, hg⟩
  have HR1 := Lib.hid hR1
  have HN1 := Lib.hid hN1
  have HG := Lib.hid hg
  clear hR1 hN1 hg HF
  go_wp2_with fail
  refine (rnum_any HR1.out 2 (by omega)).mono ?_
  rintro e w2 ⟨rfl, hR2, hF2⟩
  rw [← HNN.out]
  rw [← HS0.out] at hR2
  have HI : Hid (PrI w g s0 none 0 0 [] w2) := Lib.hid ⟨HN1.out.fr hF2 (fun k hk => by have := HG.out; omega), HG.out, hR2, World.ownsRow_nil _ _ _ _, (fun c hc => nomatch hc), fun c hc => nomatch hc⟩
  have HP : Hid (r = prs (N - 0) s0 (([] : List Ch).map pcOf)) := Lib.hid HRR.out
  clear hR2 hF2 HR1 HN1
  go_wp2_with fail
  go_loopw [5, 11] (fun o i wr => ∃ (j m : Nat) (s : Rs) (A' : Option Addr) (c' : Nat) (L : List Ch), j ≤ N ∧ m ≤ j ∧ i = .int .u64 j ∧ o = .slice A' m c' ∧ Hid (PrI w g s A' m c' L wr) ∧ Hid (r = prs (N - j) s (L.map pcOf))) (fun o i _ => N - (intOf i).toNat)
  case atStart => exact ⟨0, 0, s0, none, 0, [], Nat.zero_le _, Nat.le_refl _, rfl, rfl, HI, HP⟩
  case round =>
    obtain ⟨j, m, s, A', c', L, hj, hm, rfl, rfl, HJ, HPJ⟩ := hrel
    clear HI HP
    by_cases hlt : j < N
    · skip
      obtain ⟨i0, hNj⟩ : ∃ i0, N - j = i0 + 1 := ⟨N - j - 1, by omega⟩
      obtain rfl : i0 = N - (j + 1) := by omega
      have hj0 : (0 : Int) ≤ (j : Int) := by omega
      have hjn : (j : Int) < (N : Int) := by omega
      cases hb : s.flag.1
      · as_aux_lemma =>
        have HFG := Lib.hid (rflag_any HJ.out.rd)
        rw [hb] at HFG
        obtain ⟨s1, hs1⟩ : ∃ s1, s1 = s.flag.2 := ⟨_, rfl⟩
        rw [← hs1] at HFG
        obtain ⟨key, hkey⟩ : ∃ key, key = (s1.bytes 16).1 := ⟨_, rfl⟩
        obtain ⟨s2, hs2⟩ : ∃ s2, s2 = (s1.bytes 16).2 := ⟨_, rfl⟩
        obtain ⟨kn, hkn⟩ : ∃ kn, kn = key.length := ⟨_, rfl⟩
        have HSTP : Hid (prsStep s = (⟨key, [], true⟩, s2)) := Lib.hid (by unfold prsStep; rw [hb, if_neg (by decide), ← hs1, ← hs2, ← hkey])
        have HKEY := Lib.hid hkey
        have HS2 := Lib.hid hs2
        have HKN := Lib.hid hkn
        have HK16 : Hid (kn ≤ 16) := Lib.hid (by rw [hkn, hkey]; exact bytes_le s1 16)
        clear hb hs1 hkey hs2 hkn
        go_wp2_with fail
        refine HFG.out.mono ?_
        rintro e w3 ⟨rfl, hR3, hF3⟩
        have HR3 := Lib.hid hR3
        have HF3 := Lib.hid hF3
        clear hR3 hF3
        have hky := rbytes_any HR3.out 16 (by omega)
        rw [← HS2.out, ← HKEY.out, ← HKN.out] at hky
        have HKY := Lib.hid hky
        clear hky
        go_wp2_with fail
        refine HKY.out.mono ?_
        rintro e w4 ⟨⟨kA, kc, rfl, bk, hbk, hO4⟩, hR4, hF4⟩
        have HF4 : Hid (Fr (fun k => k = g) wr w4) := Lib.hid (HF3.out.trans hF4)
        have HKB : Hid (Byt key) := Lib.hid (by rw [HKEY.out]; exact bytes_byt HR3.out.byt 16)
        have hng : ∀ k, k = g → ¬ IsT 5 wr k := fun k hk => by
          subst hk
          obtain ⟨Ar, cr, hbr, _⟩ := HJ.out.rd.st
          exact IsT.not_blk hbr (by decide)
        obtain ⟨w5, hw5⟩ : ∃ w5 : World, w5 = w4.alloc (.cells #[.slice kA kn kc, .slice none 0 0, .bool true] 41) := ⟨_, rfl⟩
        obtain ⟨b6, hb6⟩ : ∃ b6, b6 = w4.heap.size := ⟨_, rfl⟩
        have HN45 : Hid (New w4 w5) := Lib.hid (by rw [hw5]; exact New.al (New.refl _) _)
        have HB5 : Hid (Blk w5 b6 41 #[.slice kA kn kc, .slice none 0 0, .bool true]) := Lib.hid (by rw [hw5, hb6]; exact Blk.new _ _ _)
        have HF5 : Hid (Fr (fun k => k = g) wr w5) := Lib.hid (HF4.out.trans (HN45.out.toFr _))
        have HNG := Lib.hid hng
        have HRT : Hid (RdIn w5 g s2) := Lib.hid (hR4.new HN45.out)
        have HKT : Hid (RdT 5 w5 1 kA kn (u8s key)) := Lib.hid ((RdT.own hO4 rfl).new HN45.out)
        have HNT : Hid (New w w5) := Lib.hid (HJ.out.new.fr HF5.out (fun k hk => by have := HJ.out.gz; omega))
        have HOT : Hid (w5.ownsRow w.heap.size 41 3 (.slice A' m c') m (L.flatMap Ch.cells)) := Lib.hid (own_fr HJ.out.own HF5.out (fun k hk e => by
          obtain ⟨Ar, cr, hbr, _⟩ := HJ.out.rd.st
          subst e
          exact own_ne HJ.out.own hbr (by decide) hk))
        have HLT : Hid (∀ c ∈ L, c.InT w5) := Lib.hid (fun c hc => (HJ.out.el c hc).fr HF5.out HNG.out)
        have hgb : b6 ≠ g := by have := hR4.lt; omega
        clear hO4 hR4 hF4 hng hbk
        go_upto_region 6 with fail
        rw [← hw5, ← hb6]
        clear hw5 hb6
        have HBT := HB5
        have c0 : w5.cell? ⟨b6, 0, none⟩ = some (.slice kA kn kc) := HB5.out.cell 0
        have c2 : w5.cell? ⟨b6, 2, none⟩ = some (.bool true) := HB5.out.cell 2
        by_cases hk0 : kn = 0
        · subst hk0
          have hke : key = [] := List.eq_nil_of_length_eq_zero HKN.out.symm
          have HST : Hid (q = none) := Lib.hid (by
            have h1 := HPJ.out
            rw [hNj] at h1
            unfold prs at h1
            rw [HSTP.out, if_pos hke] at h1
            rw [HQ.out, h1]
            refine if_neg (fun h => ?_)
            have h2 := h.1
            dsimp only at h2
            revert h2
            unfold Rs.bad Rs.fin
            split <;> simp_all)
          have HFL := Lib.hid (rfail_any HRT.out 2 (by omega))
          have hfin : (s2.bad 2).fin ≠ 0 := by
            unfold Rs.bad Rs.fin
            split <;> simp_all
          have HFIN := Lib.hid hfin
          clear hfin hke HSTP hNj
          go_wp2_with fail
          refine HFL.out.mono ?_
          rintro e w7 ⟨rfl, hR7, hF7⟩
          have HN7 : Hid (New w w7) := Lib.hid (HNT.out.fr hF7 (fun k hk => by have := HJ.out.gz; omega))
          have HE7 := Lib.hid (rend_any hR7)
          clear hR7 hF7
          go_wp2_with fail
          refine HE7.out.mono ?_
          rintro e w8 ⟨rfl, rfl⟩
          rw [errV_pos HFIN.out]
          go_wp2_with fail
          go_ret2
          exact ⟨.inl ⟨HST.out, rfl⟩, HN7.out⟩
        · have hkne : key ≠ [] := fun e => hk0 (by have := HKN.out; rw [e] at this; simpa using this)
          have hkp : (0 : Int) < (kn : Int) := by omega
          have hkz : ((kn : Int) == 0) = false := by simp; omega
          have HST : Hid (r = prs (N - (j + 1)) s2 ((L ++ [(⟨⟨kA, kn, kc, key⟩, ⟨none, 0, 0, []⟩, true⟩ : Ch)]).map pcOf)) := Lib.hid (by
            have h1 := HPJ.out
            rw [hNj] at h1
            unfold prs at h1
            rw [HSTP.out, if_neg hkne] at h1
            rw [h1, List.map_append]
            rfl)
          have hdk : decide ((0 : Int) = (kn : Int)) = false := decide_eq_false (by omega)
          clear hkne HSTP hNj
          have e0 : w5.cell? ⟨b6, 0, none⟩ = some (.slice kA kn kc) := HBT.out.cell 0
          have e1 : w5.cell? ⟨b6, 1, none⟩ = some (.slice none 0 0) := HBT.out.cell 1
          have e2 : w5.cell? ⟨b6, 2, none⟩ = some (.bool true) := HBT.out.cell 2
          go_wp2_with (first
            | ((with_reducible refine atOpS ⟨some 34, .buildSlice _ _ _, _, _, _, _⟩ ?_); refine wpList_bs1 elC (by decide) rfl (.tmp 33) rfl #[.slice kA kn kc, .slice none 0 0, .bool true] rfl rfl ?_)
            | (at_builtin; refine atOpS ⟨some 35, _, _, _, _, _⟩ ?_; refine stopHere ?_))
          refine ⟨?_⟩
          refine wpList_app (o := ⟨some 35, _, _, _, _, _⟩) elC _ rfl (.tmp 32) (.tmp 34) rfl w.heap.size (.slice A' m c') m (L.flatMap Ch.cells) rfl (New.own (New.al (New.refl _) _) HOT.out) _ 1 1 [.slice kA kn kc, .slice none 0 0, .bool true] rfl (Rd.ofBlk (p := fun _ => True) (Blk.new _ 41 #[.slice kA kn kc, .slice none 0 0, .bool true]) 3 1 rfl trivial) (cells_one ⟨⟨kA, kn, kc, key⟩, ⟨none, 0, 0, []⟩, true⟩) (by unfold maxLen; omega) (by omega) (by have := HNT.out.size; simp; omega) ?_
          intro A8 d8 w8 hO8 hF8 hA8
          have HN8 : Hid (New w w8) := Lib.hid ((New.al HNT.out _).fr hF8 (fun k hk => (own_lt HOT.out k hk).1))
          have hF8t := ((New.al (New.refl w5) (.cells #[.slice kA kn kc, .slice none 0 0, .bool true] 41)).toFr (fun k => (Value.slice A' m c').ownBlock = some k)).trans hF8
          have hnB : ∀ k, (Value.slice A' m c').ownBlock = some k → ¬ IsT 5 w5 k := fun k hk => IsT.not_own HOT.out (by decide) hk
          have HI8 : Hid (PrI w g s2 A8 (m + 1) d8 (L ++ [⟨⟨kA, kn, kc, key⟩, ⟨none, 0, 0, []⟩, true⟩]) w8) := Lib.hid ⟨HN8.out, HJ.out.gz, HRT.out.fr hF8t (fun hk => by
              obtain ⟨Ar, cr, hbr, _⟩ := HRT.out.st
              exact own_ne HOT.out hbr (by decide) hk) hnB, by rw [List.flatMap_append]; simpa [Ch.cells] using hO8, fun c hc => by
              rcases List.mem_append.1 hc with hc | hc
              · exact (HLT.out c hc).fr hF8t hnB
              · rw [List.mem_singleton.1 hc]
                exact Ch.InT.fr (w := w5) (c := ⟨⟨kA, kn, kc, key⟩, ⟨none, 0, 0, []⟩, true⟩) ⟨HKT.out, HKB.out, RdT.nil, fun x hx => nomatch hx⟩ hF8t hnB, fun c hc => by
              rcases List.mem_append.1 hc with hc | hc
              · exact HJ.out.sz c hc
              · rw [List.mem_singleton.1 hc]
                exact ⟨HK16.out, Nat.zero_le _⟩⟩
          clear hO8 hF8 hA8 hF8t hnB
          go_wp2_with fail
          go_roundw
          case rel => exact ⟨j + 1, m + 1, _, A8, d8, _, by omega, by omega, by go_num, rfl, HI8, HST⟩
          case measure => simp [intOf]; omega
      · as_aux_lemma =>
        have HFG := Lib.hid (rflag_any HJ.out.rd)
        rw [hb] at HFG
        obtain ⟨s1, hs1⟩ : ∃ s1, s1 = s.flag.2 := ⟨_, rfl⟩
        rw [← hs1] at HFG
        obtain ⟨key, hkey⟩ : ∃ key, key = (s1.bytes 16).1 := ⟨_, rfl⟩
        obtain ⟨s2, hs2⟩ : ∃ s2, s2 = (s1.bytes 16).2 := ⟨_, rfl⟩
        obtain ⟨kn, hkn⟩ : ∃ kn, kn = key.length := ⟨_, rfl⟩
        obtain ⟨val, hval⟩ : ∃ val, val = (s2.bytes 16384).1 := ⟨_, rfl⟩
        obtain ⟨s3, hs3⟩ : ∃ s3, s3 = (s2.bytes 16384).2 := ⟨_, rfl⟩
        obtain ⟨vn, hvn⟩ : ∃ vn, vn = val.length := ⟨_, rfl⟩
        have HSTP : Hid (prsStep s = (⟨key, val, false⟩, s3)) := Lib.hid (by unfold prsStep; rw [hb, if_pos rfl, ← hs1, ← hs2, ← hkey, ← hval, ← hs3])
        have HVAL := Lib.hid hval
        have HS3 := Lib.hid hs3
        have HVN := Lib.hid hvn
        clear hval hs3 hvn
        have HKEY := Lib.hid hkey
        have HS2 := Lib.hid hs2
        have HKN := Lib.hid hkn
        have HK16 : Hid (kn ≤ 16) := Lib.hid (by rw [hkn, hkey]; exact bytes_le s1 16)
        clear hb hs1 hkey hs2 hkn
        go_wp2_with fail
        refine HFG.out.mono ?_
        rintro e w3 ⟨rfl, hR3, hF3⟩
        have HR3 := Lib.hid hR3
        have HF3 := Lib.hid hF3
        clear hR3 hF3
        have hky := rbytes_any HR3.out 16 (by omega)
        rw [← HS2.out, ← HKEY.out, ← HKN.out] at hky
        have HKY := Lib.hid hky
        clear hky
        go_wp2_with fail
        refine HKY.out.mono ?_
        rintro e w4 ⟨⟨kA, kc, rfl, bk, hbk, hO4⟩, hR4, hF4⟩
        have HF4 : Hid (Fr (fun k => k = g) wr w4) := Lib.hid (HF3.out.trans hF4)
        have HKB : Hid (Byt key) := Lib.hid (by rw [HKEY.out]; exact bytes_byt HR3.out.byt 16)
        have hng : ∀ k, k = g → ¬ IsT 5 wr k := fun k hk => by
          subst hk
          obtain ⟨Ar, cr, hbr, _⟩ := HJ.out.rd.st
          exact IsT.not_blk hbr (by decide)
        obtain ⟨w5, hw5⟩ : ∃ w5 : World, w5 = w4.alloc (.cells #[.slice kA kn kc, .slice none 0 0, .bool false] 41) := ⟨_, rfl⟩
        obtain ⟨b6, hb6⟩ : ∃ b6, b6 = w4.heap.size := ⟨_, rfl⟩
        have HN45 : Hid (New w4 w5) := Lib.hid (by rw [hw5]; exact New.al (New.refl _) _)
        have HB5 : Hid (Blk w5 b6 41 #[.slice kA kn kc, .slice none 0 0, .bool false]) := Lib.hid (by rw [hw5, hb6]; exact Blk.new _ _ _)
        have HF5 : Hid (Fr (fun k => k = g) wr w5) := Lib.hid (HF4.out.trans (HN45.out.toFr _))
        have HNG := Lib.hid hng
        have HB4S : Hid (b6 = w4.heap.size) := Lib.hid hb6
        have HRT : Hid (RdIn w5 g s2) := Lib.hid (hR4.new HN45.out)
        have HKT : Hid (RdT 5 w5 1 kA kn (u8s key)) := Lib.hid ((RdT.own hO4 rfl).new HN45.out)
        have HNT : Hid (New w w5) := Lib.hid (HJ.out.new.fr HF5.out (fun k hk => by have := HJ.out.gz; omega))
        have HOT : Hid (w5.ownsRow w.heap.size 41 3 (.slice A' m c') m (L.flatMap Ch.cells)) := Lib.hid (own_fr HJ.out.own HF5.out (fun k hk e => by
          obtain ⟨Ar, cr, hbr, _⟩ := HJ.out.rd.st
          subst e
          exact own_ne HJ.out.own hbr (by decide) hk))
        have HLT : Hid (∀ c ∈ L, c.InT w5) := Lib.hid (fun c hc => (HJ.out.el c hc).fr HF5.out HNG.out)
        have hgb : b6 ≠ g := by have := hR4.lt; omega
        clear hO4 hR4 hF4 hng hbk
        go_upto_region 6 with fail
        rw [← hw5, ← hb6]
        clear hw5 hb6
        have c0 : w5.cell? ⟨b6, 0, none⟩ = some (.slice kA kn kc) := HB5.out.cell 0
        have c2 : w5.cell? ⟨b6, 2, none⟩ = some (.bool false) := HB5.out.cell 2
        have hvl := rbytes_any HRT.out 16384 (by omega)
        rw [← HS3.out, ← HVAL.out, ← HVN.out] at hvl
        have HVL := Lib.hid hvl
        clear hvl
        go_wp2_with fail
        refine HVL.out.mono ?_
        rintro e w6 ⟨⟨vA, vc, rfl, bv, hbv, hO6⟩, hR6, hF6⟩
        have HF6 := Lib.hid hF6
        have HB6 : Hid (Blk w6 b6 41 #[.slice kA kn kc, .slice none 0 0, .bool false]) := Lib.hid (HB5.out.fr hF6 hgb)
        have f61 : w6.frozen? ⟨b6, 1, none⟩ = false := HB6.out.frozen 1
        have c61 : w6.cell? ⟨b6, 1, none⟩ = some (.slice none 0 0) := HB6.out.cell 1
        have HVB : Hid (Byt val) := Lib.hid (by rw [HVAL.out]; exact bytes_byt HRT.out.byt 16384)
        have HV16 : Hid (vn ≤ 16384) := Lib.hid (by rw [HVN.out, HVAL.out]; exact bytes_le s2 16384)
        have HR6 := Lib.hid hR6
        have HVT6 : Hid (RdT 5 w6 1 vA vn (u8s val)) := Lib.hid (RdT.own hO6 rfl)
        obtain ⟨w7, hw7⟩ : ∃ w7 : World, w7 = w6.setCell ⟨b6, 1, none⟩ (.slice vA vn vc) := ⟨_, rfl⟩
        have hF67 : Fr (fun k => k = b6) w6 w7 := by rw [hw7]; exact (Fr.refl (fun k => k = b6) w6).setCell (p := ⟨b6, 1, none⟩) (fun _ => rfl) _
        have hnb : ∀ k, k = b6 → ¬ IsT 5 w6 k := fun k hk => by subst hk; exact IsT.not_blk HB6.out (by decide)
        have hng5 : ∀ k, k = g → ¬ IsT 5 w5 k := fun k hk => by
          subst hk
          obtain ⟨Ar, cr, hbr, _⟩ := HRT.out.st
          exact IsT.not_blk hbr (by decide)
        have hob5 : ∀ k, (Value.slice A' m c').ownBlock = some k → ¬ k = b6 := fun k hk e => by
          have h1 := (own_lt HJ.out.own k hk).2
          have h2 := HF4.out.size
          have h3 := HB4S.out
          omega
        have HB7 : Hid (Blk w7 b6 41 #[.slice kA kn kc, .slice vA vn vc, .bool false]) := Lib.hid (by
          have := HB6.out.set 1 (.slice vA vn vc)
          rw [hw7]
          simpa using this)
        have HRT7 : Hid (RdIn w7 g s3) := Lib.hid (HR6.out.fr hF67 (fun e => hgb e.symm) hnb)
        have HKT7 : Hid (RdT 5 w7 1 kA kn (u8s key)) := Lib.hid ((HKT.out.fr HF6.out hng5).fr hF67 hnb)
        have HVT : Hid (RdT 5 w7 1 vA vn (u8s val)) := Lib.hid (HVT6.out.fr hF67 hnb)
        have HNT7 : Hid (New w w7) := Lib.hid ((HNT.out.fr HF6.out (fun k hk => by have := HJ.out.gz; omega)).fr hF67 (fun k hk => by have := HB4S.out; have := HF4.out.size; have := HJ.out.new.size; omega))
        have HOT7 : Hid (w7.ownsRow w.heap.size 41 3 (.slice A' m c') m (L.flatMap Ch.cells)) := Lib.hid (own_fr (own_fr HOT.out HF6.out (fun k hk e => by
          obtain ⟨Ar, cr, hbr, _⟩ := HRT.out.st
          subst e
          exact own_ne HOT.out hbr (by decide) hk)) hF67 hob5)
        have HLT7 : Hid (∀ c ∈ L, c.InT w7) := Lib.hid (fun c hc => ((HLT.out c hc).fr HF6.out hng5).fr hF67 hnb)
        clear HB5 HRT HKT HNT HOT HLT hF6 hO6 hR6 hbv
        go_upto_region 8 with fail
        rw [← hw7]
        clear hw7 hF67 hnb hng5 hob5 c0 c2 f61 c61
        have HBT := HB7
        have HRT := HRT7
        have HKT := HKT7
        have HNT := HNT7
        have HOT := HOT7
        have HLT := HLT7
        have c0 : w7.cell? ⟨b6, 0, none⟩ = some (.slice kA kn kc) := HB7.out.cell 0
        by_cases hk0 : kn = 0
        · subst hk0
          have hke : key = [] := List.eq_nil_of_length_eq_zero HKN.out.symm
          have HST : Hid (q = none) := Lib.hid (by
            have h1 := HPJ.out
            rw [hNj] at h1
            unfold prs at h1
            rw [HSTP.out, if_pos hke] at h1
            rw [HQ.out, h1]
            refine if_neg (fun h => ?_)
            have h2 := h.1
            dsimp only at h2
            revert h2
            unfold Rs.bad Rs.fin
            split <;> simp_all)
          have HFL := Lib.hid (rfail_any HRT.out 2 (by omega))
          have hfin : (s3.bad 2).fin ≠ 0 := by
            unfold Rs.bad Rs.fin
            split <;> simp_all
          have HFIN := Lib.hid hfin
          clear hfin hke HSTP hNj
          go_wp2_with fail
          refine HFL.out.mono ?_
          rintro e w7 ⟨rfl, hR7, hF7⟩
          have HN7 : Hid (New w w7) := Lib.hid (HNT.out.fr hF7 (fun k hk => by have := HJ.out.gz; omega))
          have HE7 := Lib.hid (rend_any hR7)
          clear hR7 hF7
          go_wp2_with fail
          refine HE7.out.mono ?_
          rintro e w8 ⟨rfl, rfl⟩
          rw [errV_pos HFIN.out]
          go_wp2_with fail
          go_ret2
          exact ⟨.inl ⟨HST.out, rfl⟩, HN7.out⟩
        · have hkne : key ≠ [] := fun e => hk0 (by have := HKN.out; rw [e] at this; simpa using this)
          have hkp : (0 : Int) < (kn : Int) := by omega
          have hkz : ((kn : Int) == 0) = false := by simp; omega
          have HST : Hid (r = prs (N - (j + 1)) s3 ((L ++ [(⟨⟨kA, kn, kc, key⟩, ⟨vA, vn, vc, val⟩, false⟩ : Ch)]).map pcOf)) := Lib.hid (by
            have h1 := HPJ.out
            rw [hNj] at h1
            unfold prs at h1
            rw [HSTP.out, if_neg hkne] at h1
            rw [h1, List.map_append]
            rfl)
          have hdk : decide ((0 : Int) = (kn : Int)) = false := decide_eq_false (by omega)
          clear hkne HSTP hNj
          have e0 : w7.cell? ⟨b6, 0, none⟩ = some (.slice kA kn kc) := HBT.out.cell 0
          have e1 : w7.cell? ⟨b6, 1, none⟩ = some (.slice vA vn vc) := HBT.out.cell 1
          have e2 : w7.cell? ⟨b6, 2, none⟩ = some (.bool false) := HBT.out.cell 2
          go_wp2_with (first
            | ((with_reducible refine atOpS ⟨some 34, .buildSlice _ _ _, _, _, _, _⟩ ?_); refine wpList_bs1 elC (by decide) rfl (.tmp 33) rfl #[.slice kA kn kc, .slice vA vn vc, .bool false] rfl rfl ?_)
            | (at_builtin; refine atOpS ⟨some 35, _, _, _, _, _⟩ ?_; refine stopHere ?_))
          refine ⟨?_⟩
          refine wpList_app (o := ⟨some 35, _, _, _, _, _⟩) elC _ rfl (.tmp 32) (.tmp 34) rfl w.heap.size (.slice A' m c') m (L.flatMap Ch.cells) rfl (New.own (New.al (New.refl _) _) HOT.out) _ 1 1 [.slice kA kn kc, .slice vA vn vc, .bool false] rfl (Rd.ofBlk (p := fun _ => True) (Blk.new _ 41 #[.slice kA kn kc, .slice vA vn vc, .bool false]) 3 1 rfl trivial) (cells_one ⟨⟨kA, kn, kc, key⟩, ⟨vA, vn, vc, val⟩, false⟩) (by unfold maxLen; omega) (by omega) (by have := HNT.out.size; simp; omega) ?_
          intro A8 d8 w8 hO8 hF8 hA8
          have HN8 : Hid (New w w8) := Lib.hid ((New.al HNT.out _).fr hF8 (fun k hk => (own_lt HOT.out k hk).1))
          have hF8t := ((New.al (New.refl w7) (.cells #[.slice kA kn kc, .slice vA vn vc, .bool false] 41)).toFr (fun k => (Value.slice A' m c').ownBlock = some k)).trans hF8
          have hnB : ∀ k, (Value.slice A' m c').ownBlock = some k → ¬ IsT 5 w7 k := fun k hk => IsT.not_own HOT.out (by decide) hk
          have HI8 : Hid (PrI w g s3 A8 (m + 1) d8 (L ++ [⟨⟨kA, kn, kc, key⟩, ⟨vA, vn, vc, val⟩, false⟩]) w8) := Lib.hid ⟨HN8.out, HJ.out.gz, HRT.out.fr hF8t (fun hk => by
              obtain ⟨Ar, cr, hbr, _⟩ := HRT.out.st
              exact own_ne HOT.out hbr (by decide) hk) hnB, by rw [List.flatMap_append]; simpa [Ch.cells] using hO8, fun c hc => by
              rcases List.mem_append.1 hc with hc | hc
              · exact (HLT.out c hc).fr hF8t hnB
              · rw [List.mem_singleton.1 hc]
                exact Ch.InT.fr (w := w7) (c := ⟨⟨kA, kn, kc, key⟩, ⟨vA, vn, vc, val⟩, false⟩) ⟨HKT.out, HKB.out, HVT.out, HVB.out⟩ hF8t hnB, fun c hc => by
              rcases List.mem_append.1 hc with hc | hc
              · exact HJ.out.sz c hc
              · rw [List.mem_singleton.1 hc]
                exact ⟨HK16.out, HV16.out⟩⟩
          clear hO8 hF8 hA8 hF8t hnB
          go_wp2_with fail
          go_roundw
          case rel => exact ⟨j + 1, m + 1, _, A8, d8, _, by omega, by omega, by go_num, rfl, HI8, HST⟩
          case measure => simp [intOf]; omega
    · obtain rfl : j = N := by omega
      have hpj := HPJ.out
      rw [Nat.sub_self] at hpj
      have hr1 : r.1 = L.map pcOf := by rw [hpj]; rfl
      have hr2 : r.2 = s := by rw [hpj]; rfl
      have hq := HQ.out
      rw [hr1, hr2, pcsOk_of HJ.out.el] at hq
      have HQ2 := Lib.hid hq
      have HE := Lib.hid (rend_any HJ.out.rd)
      have hLm : L.length = m := by have := HJ.out.own.1; rw [cells_len] at this; omega
      have HLM := Lib.hid hLm
      clear hpj hr1 hr2 hq hLm HPJ HRR HQ
      go_wp2_with fail
      refine HE.out.mono ?_
      rintro e w3 ⟨rfl, rfl⟩
      by_cases hf : s.fin = 0
      · rw [hf, errV_zero]
        have hLm := HLM.out
        have HC := Lib.hid (rights_any A' m c' L wr (Rd.own HJ.out.own rfl) hLm (by omega) (fun c hc => by have := HJ.out.sz c hc; unfold maxLen; omega))
        have HRT : Hid (RTb wr A' m L) := Lib.hid ⟨rd_szs (Rd.own HJ.out.own rfl), hLm, fun c hc => (HJ.out.el c hc).in_⟩
        clear hLm
        go_wp2_with fail
        refine HC.out.mono ?_
        rintro e w4 ⟨rfl, hN4⟩
        have HN4 := Lib.hid hN4
        clear hN4 HC
        by_cases hok : chsOk L = true
        · rw [hok]
          have HQ3 : Hid (q = some (L.map pcOf)) := Lib.hid (by rw [HQ2.out, if_pos ⟨hf, hok⟩])
          clear HQ2 hok hf
          go_wp2_with fail
          go_ret2
          exact ⟨.inr ⟨A', m, c', L, HQ3.out, rfl, HRT.out.new HN4.out⟩, HJ.out.new.tr HN4.out⟩
        · have hok : chsOk L = false := by simpa using hok
          rw [hok]
          have HQ3 : Hid (q = none) := Lib.hid (by rw [HQ2.out, if_neg (fun h => by rw [hok] at h; cases h.2)])
          clear HQ2 hok hf
          go_wp2_with fail
          go_ret2
          exact ⟨.inl ⟨HQ3.out, rfl⟩, HJ.out.new.tr HN4.out⟩
      · rw [errV_pos hf]
        have HQ3 : Hid (q = none) := Lib.hid (by rw [HQ2.out, if_neg (fun h => hf h.1)])
        clear HQ2
        go_wp2_with fail
        go_ret2
        exact ⟨.inl ⟨HQ3.out, rfl⟩, HJ.out.new⟩
end Go.Proofs.Ytfhinmjpokollaa
/- A batch's bytes, read, are that batch: in plain words. No condition. -/
namespace Go.Proofs.Ytfhinmjpokollaa
set_option linter.unusedVariables false
set_option linter.unusedSimpArgs false
set_option linter.constructorNameAsVariable false
open Go.RowKit Go.Maps Go.Sort

theorem raw_app (xs rest : List Int) : (⟨xs ++ rest, 0⟩ : Rs).raw xs.length = (xs, ⟨rest, 0⟩) := by
  have hl : (⟨xs ++ rest, 0⟩ : Rs).left = xs.length + rest.length := by
    unfold Rs.left
    simp
  unfold Rs.raw
  rw [hl, if_neg (by omega)]
  simp
theorem num_app (size n : Nat) (rest : List Int) (h : n < 256 ^ size) : (⟨beL size n ++ rest, 0⟩ : Rs).num size = (n, ⟨rest, 0⟩) := by
  unfold Rs.num
  have := raw_app (beL size n) rest
  rw [beL_len] at this
  rw [this, valL_beL size n h]
theorem bytes_app (m most : Nat) (ys rest : List Int) (hm : ys.length = m) (h1 : m ≤ most) (h2 : m < 65536) : (⟨beL 2 m ++ (ys ++ rest), 0⟩ : Rs).bytes most = (ys, ⟨rest, 0⟩) := by
  have hl : (⟨beL 2 m ++ (ys ++ rest), 0⟩ : Rs).left = 2 + m + rest.length := by
    unfold Rs.left
    simp [beL_len, hm]
    omega
  have htk : (beL 2 m ++ (ys ++ rest)).take 2 = beL 2 m := by
    have := List.take_left (l₁ := beL 2 m) (l₂ := ys ++ rest)
    rwa [beL_len] at this
  unfold Rs.bytes
  rw [hl, if_neg (by omega)]
  dsimp only
  rw [htk, valL_beL 2 m (by omega), if_neg (by omega)]
  have h3 := raw_app (beL 2 m) (ys ++ rest)
  rw [beL_len] at h3
  rw [h3]
  dsimp only
  have h4 := raw_app ys rest
  rwa [hm] at h4
theorem flag_app (b : Bool) (rest : List Int) : (⟨[if b then 1 else 0] ++ rest, 0⟩ : Rs).flag = (b, ⟨rest, 0⟩) := by
  unfold Rs.flag Rs.num Rs.raw Rs.left
  cases b <;> simp [valL]
theorem step_app_c {c : Ch} (hk : c.k.xs.length = c.k.n) (hv : c.v.xs.length = c.v.n) (hok : chOk c = true) (rest : List Int) : prsStep ⟨chB c ++ rest, 0⟩ = (pcOf c, ⟨rest, 0⟩) := by
  obtain ⟨⟨kA, kn, kc, ks⟩, ⟨vA, vn, vc, vs⟩, d⟩ := c
  dsimp only at hk hv
  simp only [chOk, Bool.and_eq_true, decide_eq_true_eq, Bool.not_eq_true', Bool.and_eq_false_iff, decide_eq_false_iff_not] at hok
  obtain ⟨⟨⟨h1, h2⟩, h3⟩, h4⟩ := hok
  unfold prsStep chB pcOf
  dsimp only
  cases d
  · have e : [if !false then (1 : Int) else 0] ++ beL 2 kn ++ ks ++ (if false = true then [] else beL 2 vn ++ vs) ++ rest = [if !false then (1 : Int) else 0] ++ (beL 2 kn ++ (ks ++ (beL 2 vn ++ (vs ++ rest)))) := by simp
    rw [e, flag_app]
    dsimp only
    rw [bytes_app kn 16 ks _ hk h2 (by omega), bytes_app vn 16384 vs rest hv h3 (by omega)]
    rfl
  · have hvn : vn = 0 := by
      rcases h4 with h4 | h4
      · cases h4
      · omega
    have hvs : vs = [] := List.eq_nil_of_length_eq_zero (by rw [hv, hvn])
    have e : [if !true then (1 : Int) else 0] ++ beL 2 kn ++ ks ++ (if true = true then [] else beL 2 vn ++ vs) ++ rest = [if !true then (1 : Int) else 0] ++ (beL 2 kn ++ (ks ++ rest)) := by simp
    rw [e, flag_app]
    dsimp only
    rw [bytes_app kn 16 ks _ hk h2 (by omega), hvs]
    rfl
/-- The lengths of changes are those of their bytes. -/
def LenOk (L : List Ch) : Prop := ∀ c ∈ L, c.k.xs.length = c.k.n ∧ c.v.xs.length = c.v.n
theorem RTb.lens {w : World} {A : Option Addr} {n : Nat} {L : List Ch} (h : RTb w A n L) : LenOk L := fun c hc => ⟨(h.el c hc).k.len, (h.el c hc).v.len⟩
theorem prs_app (L : List Ch) (hl : LenOk L) (hok : ∀ c ∈ L, chOk c = true) (out : List PC) (rest : List Int) : prs L.length ⟨L.flatMap chB ++ rest, 0⟩ out = (out ++ L.map pcOf, ⟨rest, 0⟩) := by
  induction L generalizing out with
  | nil => simp [prs]
  | cons c L ih =>
    have hc := hl c (List.mem_cons_self ..)
    have hoc := hok c (List.mem_cons_self ..)
    rw [List.length_cons]
    unfold prs
    rw [List.flatMap_cons, List.append_assoc, step_app_c hc.1 hc.2 hoc]
    have hne : (pcOf c).k ≠ [] := by
      intro e
      have h1 : c.k.xs = [] := e
      have h2 := hc.1
      rw [h1] at h2
      simp only [chOk, Bool.and_eq_true, decide_eq_true_eq] at hoc
      simp at h2
      omega
    rw [if_neg hne]
    dsimp only
    rw [ih (fun c hc => hl c (List.mem_cons_of_mem _ hc)) (fun c hc => hok c (List.mem_cons_of_mem _ hc))]
    simp
theorem pcOk_len {c : Ch} (hk : c.k.xs.length = c.k.n) (hv : c.v.xs.length = c.v.n) : pcOk (pcOf c) = chOk c := by
  unfold pcOk chOk pcOf
  simp only [hk, hv]
theorem pcsOk_len {L : List Ch} (h : LenOk L) : pcsOk (L.map pcOf) = chsOk L := by
  unfold pcsOk chsOk
  have hlen : (L.map pcOf).length = L.length := by simp
  have e : (L.map pcOf).all pcOk = L.all chOk := by
    clear hlen
    induction L with
    | nil => rfl
    | cons c L ih => rw [List.map_cons, List.all_cons, List.all_cons, pcOk_len (h c (List.mem_cons_self ..)).1 (h c (List.mem_cons_self ..)).2, ih fun c hc => h c (List.mem_cons_of_mem _ hc)]
  rw [hlen, e]
theorem chsOk_all {L : List Ch} (h : chsOk L = true) : ∀ c ∈ L, chOk c = true := by
  unfold chsOk at h
  simp only [Bool.and_eq_true] at h
  exact List.all_eq_true.1 h.2
/-- What is put is read again. -/
theorem parse_put {L : List Ch} (hl : LenOk L) (hok : chsOk L = true) : parseB (putB L) = some (L.map pcOf) := by
  have hsp := chsOk_spec hok
  unfold parseB putB
  have h1 := num_app 2 L.length (L.flatMap chB) (by omega)
  rw [h1]
  dsimp only
  have h2 := prs_app L hl (chsOk_all hok) [] []
  rw [List.append_nil, List.nil_append] at h2
  rw [h2]
  dsimp only
  rw [if_pos ⟨rfl, by rw [pcsOk_len hl]; exact hok⟩]
/-- What hangs on the plain words alone. -/
theorem chB_pc {c d : Ch} (hc : c.k.xs.length = c.k.n ∧ c.v.xs.length = c.v.n) (hd : d.k.xs.length = d.k.n ∧ d.v.xs.length = d.v.n) (h : pcOf c = pcOf d) : chB c = chB d := by
  unfold pcOf at h
  injection h with h1 h2 h3
  unfold chB
  rw [← hc.1, ← hc.2, ← hd.1, ← hd.2, h1, h2, h3]
theorem putB_pc : ∀ {L M : List Ch}, LenOk L → LenOk M → L.map pcOf = M.map pcOf → putB L = putB M := by
  have key : ∀ {L M : List Ch}, LenOk L → LenOk M → L.map pcOf = M.map pcOf → L.flatMap chB = M.flatMap chB := by
    intro L
    induction L with
    | nil => intro M _ _ h; cases M with
      | nil => rfl
      | cons d M => simp at h
    | cons c L ih =>
      intro M hL hM h
      cases M with
      | nil => simp at h
      | cons d M =>
        rw [List.map_cons, List.map_cons] at h
        injection h with h1 h2
        rw [List.flatMap_cons, List.flatMap_cons, chB_pc (hL c (List.mem_cons_self ..)) (hM d (List.mem_cons_self ..)) h1, ih (fun c hc => hL c (List.mem_cons_of_mem _ hc)) (fun c hc => hM c (List.mem_cons_of_mem _ hc)) h2]
  intro L M hL hM h
  unfold putB
  have hl : L.length = M.length := by have := congrArg List.length h; simpa using this
  rw [hl, key hL hM h]
theorem doC_pc {T : CT} {c d : Ch} (h : pcOf c = pcOf d) : doC T c = doC T d := by
  unfold pcOf at h
  injection h with h1 h2 h3
  unfold doC
  rw [h1, h2, h3]
theorem doCs_pc : ∀ {L M : List Ch} {T : CT}, L.map pcOf = M.map pcOf → doCs T L = doCs T M := by
  intro L
  induction L with
  | nil => intro M T h; cases M with
    | nil => rfl
    | cons d M => simp at h
  | cons c L ih =>
    intro M T h
    cases M with
    | nil => simp at h
    | cons d M =>
      rw [List.map_cons, List.map_cons] at h
      injection h with h1 h2
      unfold doCs
      rw [List.foldl_cons, List.foldl_cons, doC_pc h1]
      exact ih h2
end Go.Proofs.Ytfhinmjpokollaa
