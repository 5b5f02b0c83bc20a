/- Texts of one proof, one behind the other: OcR, OcS, MxT, Join. No condition but each one's own. -/
import Derived.Test.YtfchcdbfalgdlaaGreatDoorSweepKeepsM4
import Derived.Laws.BitsAllLaws
import Derived.Test.YtfchcdbfalgdlaaGreatDoorSweepKeepsM2
import Derived.Test.YtfchcdbfalgdlaaGreatDoorSweepKeepsM3
import Derived.Test.YtfchcdbfalgdlaaGreatDoorSweepKeepsM5
namespace Go.Proofs.YtfchcdbfalgdlaaGreatDoor
set_option linter.unusedVariables false
set_option linter.unusedSimpArgs false
set_option linter.constructorNameAsVariable false
open Go.RowKit Go.Maps
def errV (e : Nat) : Value := if e = 0 then .nilIface else .iface 38 (.int .i64 e)
theorem errV_zero : errV 0 = .nilIface := rfl
theorem errV_pos {e : Nat} (h : e ≠ 0) : errV e = .iface 38 (.int .i64 e) := if_neg h
structure RdIn (w : World) (g : Nat) (s : Rs) : Prop where
 st : ∃ A c, Blk w g 209 #[errV s.e, .slice A s.xs.length c] ∧ RdT 5 w 1 A s.xs.length (u8s s.xs) ∧ s.xs.length ≤ c
 byt : Byt s.xs
 len : s.xs.length ≤ 140737488355328
section
variable {g : Nat} {w w' : World} {s : Rs}
theorem RdIn.lt (h : RdIn w g s) : g < w.heap.size := by obtain ⟨A, c, hb, _⟩ := h.st; exact hb.lt
theorem RdIn.new (h : RdIn w g s) (hN : New w w') : RdIn w' g s := by
 obtain ⟨A, c, hb, hr, hc⟩ := h.st
 exact ⟨⟨A, c, hN.blk hb, hr.new hN, hc⟩, h.byt, h.len⟩
theorem RdIn.fr {S : Nat → Prop} (h : RdIn w g s) (hF : Fr S w w') (hg : ¬ S g) (hS : ∀ k, S k → ¬ IsT 5 w k) : RdIn w' g s := by
 obtain ⟨A, c, hb, hr, hc⟩ := h.st
 exact ⟨⟨A, c, hb.fr hF hg, hr.fr hF hS, hc⟩, h.byt, h.len⟩
end
theorem Rd.take {p : Nat → Prop} {w : World} {A : Option Addr} {n : Nat} {xs : List Int} (h : Rd p w 1 A n (u8s xs)) {k : Nat} (hk : k ≤ n) : Rd p w 1 A k (u8s (xs.take k)) := by
 have hl : xs.length = n := by have := h.1; rw [u8s_len] at this; omega
 refine ⟨by rw [u8s_len, List.length_take]; omega, fun hp => ?_⟩
 obtain ⟨ad, e, h1, h2, h3⟩ := h.2 (by omega)
 refine ⟨ad, e, h1, h2, fun j u hu => h3 j u ?_⟩
 have : u8s (xs.take k) = (u8s xs).take k := by simp [u8s]
 rw [this, List.getElem?_take] at hu
 split at hu
 · exact hu
 · cases hu
theorem from_any {p : Nat → Prop} (A : Option Addr) (n c : Nat) (xs : List Int) (w : World) (hO : Rd p w 1 A n (u8s xs)) (hb : Byt xs) (hn : n ≤ 140737488355328) :
    Calls Tryz.prog 92 #[.slice A n c] w fun e w' => ∃ g, e = .returned (.pointer (some ⟨g, 0, none⟩)) ∧ RdIn w' g ⟨xs, 0⟩ ∧ New w w' ∧ w.heap.size ≤ g := by
 have hx : xs.length = n := by have := hO.1; rw [u8s_len] at this; omega
 have HC := Lib.hid (sclone_any A n c xs w hO hn)
 have HB := Lib.hid hb
 have HX := Lib.hid hx
 clear hO hb hx
 go_enter Tryz.func92, Tryz.ntmps92
 go_wp2_with fail
 refine HC.out.mono ?_
 rintro e w1 ⟨⟨A1, d1, rfl, hO1⟩, hN1⟩
 have HO1 := Lib.hid hO1
 have HN1 := Lib.hid hN1
 clear hO1 hN1
 go_wp2_with fail
 go_ret
 have hN2 := New.al (New.refl w1) (.cells #[.nilIface, .slice A1 n d1] 209)
 refine ⟨w1.heap.size, rfl, ⟨⟨A1, d1, ?_, ?_, ?_⟩, HB.out, by rw [HX.out]; exact hn⟩, HN1.out.tr hN2, HN1.out.size⟩
 · rw [HX.out]
   exact Blk.new _ _ _
 · rw [HX.out]
   exact (RdT.own HO1.out rfl).new hN2
 · rw [HX.out]
   obtain ⟨A', c', h1, h2, -⟩ := own_shape HO1.out
   injection h1 with _ _ h3
   omega
theorem ffail_any (g T : Nat) (v : Value) (e c : Nat) (w : World) (hB : Blk w g T #[errV e, v]) (hc : 1 ≤ c) :
    Calls Tryz.prog 146 #[.pointer (some ⟨g, 0, none⟩), .iface 38 (.int .i64 c)] w fun x w' => x = .returned (.tuple #[]) ∧ Blk w' g T #[errV (if e = 0 then c else e), v] ∧ Fr (fun k => k = g) w w' := by
 have c0 : w.cell? ⟨g, 0, none⟩ = some (errV e) := hB.cell 0
 have f0 := hB.frozen 0
 have HB := Lib.hid hB
 clear hB
 by_cases h0 : e = 0
 · subst h0
   rw [errV_zero] at c0
   go_enter Tryz.func146, Tryz.ntmps146
   go_wp2_with fail
   go_end0
   refine ⟨rfl, ?_, (Fr.refl (fun k => k = g) w).setCell (p := ⟨g, 0, none⟩) (fun _ => rfl) _⟩
   have := HB.out.set 0 (.iface 38 (.int .i64 c))
   show Blk _ g T #[errV c, v]
   rw [errV_pos (e := c) (by omega)]
   simpa using this
 · rw [errV_pos h0] at c0
   rw [if_neg h0]
   clear h0
   go_enter Tryz.func146, Tryz.ntmps146
   go_wp2_with fail
   go_end0
   exact ⟨rfl, HB.out, Fr.refl _ _⟩
theorem rfail_any {g : Nat} {s : Rs} {w : World} (h : RdIn w g s) (c : Nat) (hc : 1 ≤ c) :
    Calls Tryz.prog 100 #[.pointer (some ⟨g, 0, none⟩), .iface 38 (.int .i64 c)] w fun x w' => x = .returned (.tuple #[]) ∧ RdIn w' g (s.bad c) ∧ Fr (fun k => k = g) w w' := by
 obtain ⟨A, d, hb, hr, hcc⟩ := h.st
 have HF := Lib.hid (ffail_any g 209 _ s.e c w hb hc)
 have H := Lib.hid h
 have HR := Lib.hid hr
 have HCC := Lib.hid hcc
 clear h hb hr hcc
 go_enter Tryz.func100, Tryz.ntmps100
 go_wp2_with fail
 refine HF.out.mono ?_
 rintro e w1 ⟨rfl, hB1, hF1⟩
 have HB1 := Lib.hid hB1
 have HF1 := Lib.hid hF1
 clear hB1 hF1
 go_wp2_with fail
 go_end0
 have hr1 : RdT 5 w1 1 A s.xs.length (u8s s.xs) := HR.out.fr HF1.out (fun k hk => by
  subst hk
  obtain ⟨A', d', hb', _⟩ := H.out.st
  exact IsT.not_blk hb' (by decide))
 refine ⟨rfl, ?_, HF1.out⟩
 have hB1 := HB1.out
 unfold Rs.bad
 by_cases h0 : s.e = 0
 · rw [if_pos h0] at hB1 ⊢
   exact ⟨⟨A, d, hB1, hr1, HCC.out⟩, H.out.byt, H.out.len⟩
 · rw [if_neg h0] at hB1 ⊢
   exact ⟨⟨A, d, hB1, hr1, HCC.out⟩, H.out.byt, H.out.len⟩
theorem rleft_any {g : Nat} {s : Rs} {w : World} (h : RdIn w g s) :
    Calls Tryz.prog 145 #[.pointer (some ⟨g, 0, none⟩)] w fun x w' => x = .returned (.int .i64 s.left) ∧ w = w' := by
 obtain ⟨A, d, hb, hr, hcc⟩ := h.st
 have c0 : w.cell? ⟨g, 0, none⟩ = some (errV s.e) := hb.cell 0
 have c1 : w.cell? ⟨g, 1, none⟩ = some (.slice A s.xs.length d) := hb.cell 1
 clear h hb hr hcc
 unfold Rs.left
 by_cases h0 : s.e = 0
 · rw [h0, errV_zero] at c0
   rw [if_pos h0]
   clear h0
   go_enter Tryz.func145, Tryz.ntmps145
   go_wp2_with fail
   go_ret
   exact ⟨rfl, rfl⟩
 · rw [errV_pos h0] at c0
   rw [if_neg h0]
   clear h0
   go_enter Tryz.func145, Tryz.ntmps145
   go_wp2_with fail
   go_ret
   exact ⟨rfl, rfl⟩
theorem left_le (s : Rs) : s.left ≤ s.xs.length := by
 unfold Rs.left
 split <;> omega
theorem left_zero {s : Rs} (h : 0 < s.left) : s.e = 0 ∧ s.left = s.xs.length := by
 unfold Rs.left at h ⊢
 split at h
 · next h0 => exact ⟨h0, by rw [if_pos h0]⟩
 · omega
set_option maxHeartbeats 2000000 in
theorem rraw_any {g : Nat} {s : Rs} {w : World} (h : RdIn w g s) (n : Nat) (hn : n ≤ 140737488355328) :
    Calls Tryz.prog 140 #[.pointer (some ⟨g, 0, none⟩), .int .i64 n] w fun x w' => (∃ A c, x = .returned (.slice A (s.raw n).1.length c) ∧ w'.ownsRow w.heap.size 5 1 (.slice A (s.raw n).1.length c) (s.raw n).1.length (u8s (s.raw n).1)) ∧ RdIn w' g (s.raw n).2 ∧ Fr (fun k => k = g) w w' := by
 have HL := Lib.hid (rleft_any h)
 have HFL := Lib.hid (rfail_any h 2 (by omega))
 have hll := left_le s
 have hlen := h.len
 by_cases hlt : s.left < n
 · have hx : s.raw n = ([], s.bad 2) := by unfold Rs.raw; rw [if_pos hlt]
   rw [hx]
   generalize s.left = l at *
   clear hx
   go_enter Tryz.func140, Tryz.ntmps140
   go_wp2_with fail
   refine HL.out.mono ?_
   rintro e w1 ⟨rfl, rfl⟩
   have hd : decide ((l : Int) < (n : Int)) = true := decide_eq_true (by omega)
   go_wp2_with fail
   refine HFL.out.mono ?_
   rintro e w2 ⟨rfl, hR2, hF2⟩
   have HR2 := Lib.hid hR2
   have HF2 := Lib.hid hF2
   clear hR2 hF2
   go_wp2_with fail
   go_ret
   exact ⟨⟨none, 0, rfl, World.ownsRow_nil _ _ _ _⟩, HR2.out, HF2.out⟩
 · have hx : s.raw n = (s.xs.take n, ⟨s.xs.drop n, s.e⟩) := by unfold Rs.raw; rw [if_neg hlt]
   rw [hx]
   dsimp only
   by_cases hn0 : n = 0
   · subst hn0
     rw [List.take_zero, List.drop_zero]
     have hd : decide ((s.left : Int) < 0) = false := decide_eq_false (by omega)
     have H := Lib.hid h
     generalize s.left = l at *
     clear hx h
     go_enter Tryz.func140, Tryz.ntmps140
     go_wp2_with fail
     refine HL.out.mono ?_
     rintro e w1 ⟨rfl, rfl⟩
     go_wp2_with fail
     go_ret
     exact ⟨⟨none, 0, rfl, World.ownsRow_nil _ _ _ _⟩, H.out, Fr.refl _ _⟩
   · obtain ⟨he, hle⟩ := left_zero (s := s) (by omega)
     have hnx : n ≤ s.xs.length := by omega
     obtain ⟨A, d, hb, hr, hcc⟩ := h.st
     obtain ⟨l, hl⟩ : ∃ l, l = s.xs.length := ⟨_, rfl⟩
     rw [← hl] at hb hr hcc hnx hlen
     have hd : decide ((l : Int) < (n : Int)) = false := decide_eq_false (by omega)
     rw [hle, ← hl] at HL
     rw [he, errV_zero] at hb
     have htk : (s.xs.take n).length = n := by rw [List.length_take]; omega
     rw [htk]
     have HB := Lib.hid hb
     have HR : Hid (RdT 5 w 1 A l (u8s s.xs)) := Lib.hid hr
     have HCC := Lib.hid hcc
     have HX := Lib.hid hl
     have HE := Lib.hid he
     have HBY := Lib.hid h.byt
     have HTK := Lib.hid htk
     have c1 : w.cell? ⟨g, 1, none⟩ = some (.slice A l d) := hb.cell 1
     have f1 := hb.frozen 1
     obtain ⟨gA, o, rfl, -⟩ : ∃ gA o, A = some ⟨gA, o, none⟩ ∧ True := by
      obtain ⟨gA, o, hA, _⟩ := hr.out (by omega) (by omega)
      exact ⟨gA, o, hA, trivial⟩
     clear hx h hb hr hcc hl he hle hll hlt htk
     go_enter Tryz.func140, Tryz.ntmps140
     go_wp2_with fail
     refine HL.out.mono ?_
     rintro e w1 ⟨rfl, rfl⟩
     have HNX := Lib.hid hnx
     by_cases hdn : d = n
     · subst hdn
       obtain rfl : l = d := by have := HCC.out; omega
       go_wp2_with fail
       refine (sclone_any (some ⟨gA, o, none⟩) l l (s.xs.take l) w (Rd.take HR.out HNX.out) (by omega)).mono ?_
       rintro e w2 ⟨⟨A2, d2, rfl, hO2⟩, hN2⟩
       have HO2 := Lib.hid hO2
       have HN2 := Lib.hid hN2
       have c1 : w2.cell? ⟨g, 1, none⟩ = some (.slice (some ⟨gA, o, none⟩) l l) := (hN2.blk HB.out).cell 1
       have f1 : w2.frozen? ⟨g, 1, none⟩ = false := (hN2.blk HB.out).frozen 1
       clear hO2 hN2
       go_wp2_with fail
       go_ret
       have hFs := fun v => (Fr.refl (fun k => k = g) w2).setCell (p := ⟨g, 1, none⟩) (fun _ => rfl) v
       have hng : ∀ k, k = g → ¬ IsT 5 w2 k := fun k hk => by subst hk; exact IsT.not_blk (HN2.out.blk HB.out) (by decide)
       have hnx : ∀ k, (Value.slice A2 l d2).ownBlock = some k → ¬ k = g := fun k hk e => hng k e (own_isT' HO2.out hk)
       have hd0 : s.xs.drop l = [] := List.drop_eq_nil_of_le (by rw [← HX.out]; exact Nat.le_refl _)
       rw [hd0]
       refine ⟨⟨A2, d2, rfl, own_fr HO2.out (hFs _) hnx⟩, ⟨⟨some ⟨gA, o, none⟩, 0, ?_, RdT.nil, Nat.le_refl _⟩, (fun x hx => nomatch hx), Nat.zero_le _⟩, (HN2.out.toFr _).trans (hFs _)⟩
       have hb := (HN2.out.blk HB.out).set 1 (.slice (some ⟨gA, o, none⟩) 0 0)
       dsimp only
       rw [HE.out, errV_zero]
       simpa using hb
     · have hlt2 : n < d := by have := HCC.out; omega
       go_wp2_with fail
       refine (sclone_any (some ⟨gA, o, none⟩) n d (s.xs.take n) w (Rd.take HR.out HNX.out) (by omega)).mono ?_
       rintro e w2 ⟨⟨A2, d2, rfl, hO2⟩, hN2⟩
       have HO2 := Lib.hid hO2
       have HN2 := Lib.hid hN2
       have c1 : w2.cell? ⟨g, 1, none⟩ = some (.slice (some ⟨gA, o, none⟩) l d) := (hN2.blk HB.out).cell 1
       have f1 : w2.frozen? ⟨g, 1, none⟩ = false := (hN2.blk HB.out).frozen 1
       clear hO2 hN2
       go_wp2_with fail
       go_ret
       have hFs := fun v => (Fr.refl (fun k => k = g) w2).setCell (p := ⟨g, 1, none⟩) (fun _ => rfl) v
       have hng : ∀ k, k = g → ¬ IsT 5 w2 k := fun k hk => by subst hk; exact IsT.not_blk (HN2.out.blk HB.out) (by decide)
       have hnx : ∀ k, (Value.slice A2 n d2).ownBlock = some k → ¬ k = g := fun k hk e => hng k e (own_isT' HO2.out hk)
       have hdl : (s.xs.drop n).length = l - n := by rw [List.length_drop, HX.out]
       have hrd : RdT 5 w2 1 (some ⟨gA, o + n, none⟩) (l - n) (u8s (s.xs.drop n)) := by
        have h1 := Rd.drop (cap := d) (HR.out.new HN2.out) HNX.out HCC.out
        rw [if_neg hdn, Option.map_some, Nat.mul_one] at h1
        have h2 : (⟨gA, o, none⟩ : Addr).add n = ⟨gA, o + n, none⟩ := by
         unfold Addr.add
         rw [if_neg hn0]
        rw [h2] at h1
        have h3 : (u8s s.xs).drop n = u8s (s.xs.drop n) := by simp [u8s]
        rw [h3] at h1
        exact h1
       refine ⟨⟨A2, d2, rfl, own_fr HO2.out (hFs _) hnx⟩, ⟨⟨some ⟨gA, o + n, none⟩, d - n, ?_, ?_, ?_⟩, ?_, ?_⟩, (HN2.out.toFr _).trans (hFs _)⟩
       · have hb := (HN2.out.blk HB.out).set 1 (.slice (some ⟨gA, o + n, none⟩) (l - n) (d - n))
         dsimp only
         rw [hdl, HE.out, errV_zero]
         simpa using hb
       · dsimp only
         rw [hdl]
         exact hrd.fr (hFs _) hng
       · dsimp only
         rw [hdl]
         have := HCC.out
         omega
       · exact fun x hx => HBY.out x (List.mem_of_mem_drop hx)
       · dsimp only
         rw [hdl]
         omega
end Go.Proofs.YtfchcdbfalgdlaaGreatDoor
namespace Go.Proofs.YtfchcdbfalgdlaaGreatDoor
set_option linter.unusedVariables false
set_option linter.unusedSimpArgs false
set_option linter.constructorNameAsVariable false
open Go.RowKit Go.Maps
theorem or_shl (v y : Nat) (hv : v < 256 ^ 7) (hy : y < 256) : bits .or .u64 ((v : Int) * 256) (y : Int) = ((v * 256 + y : Nat) : Int) := by
 rw [show (v : Int) * 256 = ((v * 256 : Nat) : Int) by simp, u64_or_nat _ _ (by omega) (by omega)]
 congr 1
 rw [show v * 256 = v <<< 8 by rw [Nat.shiftLeft_eq], Nat.shiftLeft_add_eq_or_of_lt (by omega)]
theorem raw_le (s : Rs) (n : Nat) : (s.raw n).1.length ≤ n := by
 unfold Rs.raw
 split
 · simp
 · simp; omega
theorem raw_byt {s : Rs} (h : Byt s.xs) (n : Nat) : Byt (s.raw n).1 := by
 unfold Rs.raw
 split
 · intro x hx; cases hx
 · exact fun x hx => h x (List.mem_of_mem_take hx)
set_option maxHeartbeats 2000000 in
theorem rnum_any {g : Nat} {s : Rs} {w : World} (h : RdIn w g s) (size : Nat) (hs : size = 1 ∨ size = 2 ∨ size = 4 ∨ size = 8) :
    Calls Tryz.prog 93 #[.pointer (some ⟨g, 0, none⟩), .int .i64 size] w fun x w' => x = .returned (.int .u64 (s.num size).1) ∧ RdIn w' g (s.num size).2 ∧ Fr (fun k => k = g) w w' := by
 have HS := Lib.hid (fun w => sized_yes size (by omega) w)
 have HW := Lib.hid (rraw_any h size (by omega))
 have hle := raw_le s size
 have hby := raw_byt h.byt size
 unfold Rs.num
 dsimp only
 obtain ⟨bs, hbs⟩ : ∃ bs, bs = (s.raw size).1 := ⟨_, rfl⟩
 rw [← hbs] at HW hle hby ⊢
 obtain ⟨m, hm⟩ : ∃ m, m = bs.length := ⟨_, rfl⟩
 rw [← hm] at HW hle
 have hm8 : m ≤ 8 := by omega
 have HM := Lib.hid hm
 have HBY := Lib.hid hby
 clear hbs hm hby h hs
 go_enter Tryz.func93, Tryz.ntmps93
 go_wp2_with fail
 refine (HS.out _).mono ?_
 rintro e w1 ⟨rfl, rfl⟩
 go_wp2_with fail
 refine HW.out.mono ?_
 rintro e w2 ⟨⟨A, c, rfl, hO⟩, hR, hF⟩
 have HO := Lib.hid hO
 have HR := Lib.hid hR
 have HF := Lib.hid hF
 clear hO hR hF HW HS
 go_wp2_with fail
 go_loop [5, 18] (fun n i => ∃ j : Nat, j ≤ m ∧ i = .int .i64 j ∧ n = .int .u64 (valL (bs.take j))) (fun n i => m - (intOf i).toNat)
 case atStart => exact ⟨0, Nat.zero_le _, rfl, rfl⟩
 case round =>
  obtain ⟨j, hj, rfl, rfl⟩ := hrel
  by_cases hlt : j < m
  · obtain ⟨gA, o, rfl, -, -, hq⟩ := (Rd.own HO.out rfl).out (by omega) (by omega)
    have hjl : j < bs.length := by rw [← HM.out]; exact hlt
    have hcell : w2.cell? ⟨gA, o + j, none⟩ = some (.int .u8 bs[j]) := hq j _ (by simp [u8s, hjl])
    have hst := valL_take hjl
    have hb := HBY.out bs[j] (List.getElem_mem _)
    have hv := valL_lt (xs := bs.take j) (fun x hx => HBY.out x (List.mem_of_mem_take hx))
    rw [List.length_take, Nat.min_eq_left (by omega)] at hv
    have hv7 : valL (bs.take j) < 256 ^ 7 := Nat.lt_of_lt_of_le hv (Nat.pow_le_pow_right (by decide) (by omega))
    generalize bs[j] = x at hcell hst hb
    generalize valL (bs.take j) = v at hst hv7 ⊢
    obtain ⟨y, rfl⟩ : ∃ y : Nat, x = (y : Int) := ⟨x.toNat, by omega⟩
    have HST := Lib.hid hst
    have hy : y < 256 := by omega
    have hj0 : (0 : Int) ≤ (j : Int) := by omega
    have hjm : (j : Int) < (m : Int) := by omega
    clear hst hq hv hb hjl
    go_wp2_with fail
    refine ⟨⟨j + 1, by omega, by go_num, ?_⟩, by simp [intOf]; omega⟩
    rw [HST.out, or_shl v y hv7 hy]
    simp
  · obtain rfl : j = m := by omega
    go_wp2_with fail
    go_ret
    rw [List.take_of_length_le (by rw [← HM.out]; exact Nat.le_refl _)]
    exact ⟨rfl, HR.out, HF.out⟩
theorem or_i64 (x y : Nat) (hx : x < 256) (hy : y < 256) : bits .or .i64 ((x : Int) * 256) (y : Int) = ((x * 256 + y : Nat) : Int) := by
 rw [bits_join .i64 63 (by decide) (fun n h0 h1 => IntWalk.i64_in n (by omega)) 8 _ _ (by omega) (by omega) (by omega) (by omega) (by omega) (by omega)]
 simp
theorem val2 {xs : List Int} (hb : Byt xs) (h : 2 ≤ xs.length) : ∃ x y : Nat, x < 256 ∧ y < 256 ∧ xs[0]? = some (x : Int) ∧ xs[1]? = some (y : Int) ∧ valL (xs.take 2) = x * 256 + y := by
 match xs, h with
 | a :: b :: r, _ =>
  have ha := hb a (by simp)
  have hbb := hb b (by simp)
  refine ⟨a.toNat, b.toNat, by omega, by omega, by simp; omega, by simp; omega, by simp [valL]⟩
theorem RdIn.left1 {g : Nat} {s : Rs} {w : World} (h : RdIn w g s) (hl : 0 < s.left) : ∃ gA o c, Blk w g 209 #[.nilIface, .slice (some ⟨gA, o, none⟩) s.xs.length c] ∧ (∀ j x, s.xs[j]? = some x → w.cell? ⟨gA, o + j, none⟩ = some (.int .u8 x)) ∧ s.left = s.xs.length := by
 obtain ⟨he, hle⟩ := left_zero hl
 obtain ⟨A, c, hb, hr, hc⟩ := h.st
 obtain ⟨gA, o, rfl, -, -, hq⟩ := Rd.out hr (by omega) (by omega)
 rw [he, errV_zero] at hb
 refine ⟨gA, o, c, hb, fun j x hx => hq j _ ?_, hle⟩
 unfold u8s
 rw [List.getElem?_map, hx]
 rfl
set_option maxHeartbeats 4000000 in
theorem rbytes_any {g : Nat} {s : Rs} {w : World} (h : RdIn w g s) (most : Nat) (hmost : most ≤ 140737488355328) :
    Calls Tryz.prog 99 #[.pointer (some ⟨g, 0, none⟩), .int .i64 most] w fun x w' => (∃ A c, x = .returned (.slice A (s.bytes most).1.length c) ∧ ∃ base, w.heap.size ≤ base ∧ w'.ownsRow base 5 1 (.slice A (s.bytes most).1.length c) (s.bytes most).1.length (u8s (s.bytes most).1)) ∧ RdIn w' g (s.bytes most).2 ∧ Fr (fun k => k = g) w w' := by
 have HL := Lib.hid (rleft_any h)
 have HFL := Lib.hid (rfail_any h 2 (by omega))
 have hll := left_le s
 have hlen := h.len
 by_cases hl2 : s.left < 2
 · have hx : s.bytes most = ([], s.bad 2) := by unfold Rs.bytes; rw [if_pos hl2]
   rw [hx]
   generalize s.left = l at *
   clear hx
   have hd : decide ((l : Int) < 2) = true := decide_eq_true (by omega)
   go_enter Tryz.func99, Tryz.ntmps99
   go_wp2_with fail
   refine HL.out.mono ?_
   rintro e w1 ⟨rfl, rfl⟩
   go_wp2_with fail
   refine HFL.out.mono ?_
   rintro e w2 ⟨rfl, hR2, hF2⟩
   have HR2 := Lib.hid hR2
   have HF2 := Lib.hid hF2
   clear hR2 hF2
   go_wp2_with fail
   go_ret
   exact ⟨⟨none, 0, rfl, w.heap.size, Nat.le_refl _, World.ownsRow_nil _ _ _ _⟩, HR2.out, HF2.out⟩
 · obtain ⟨gA, o, c, hb, hq, hle⟩ := h.left1 (by omega)
   obtain ⟨x, y, hx, hy, h0, h1, hv⟩ := val2 h.byt (by omega)
   have k0 : w.cell? ⟨gA, o, none⟩ = some (.int .u8 x) := hq 0 _ h0
   have k1 : w.cell? ⟨gA, o + 1, none⟩ = some (.int .u8 y) := hq 1 _ h1
   have c1 : w.cell? ⟨g, 1, none⟩ = some (.slice (some ⟨gA, o, none⟩) s.xs.length c) := hb.cell 1
   have hor := or_i64 x y hx hy
   obtain ⟨v, hvv⟩ : ∃ v, v = x * 256 + y := ⟨_, rfl⟩
   rw [← hvv] at hv hor
   have hv16 : v < 65536 := by omega
   have hlx : s.xs.length = s.left := hle.symm
   rw [hlx] at c1
   have hR2 := rraw_any h 2 (by omega)
   have H := Lib.hid h
   by_cases hbad : most < v ∨ s.left - 2 < v
   · have hxb : s.bytes most = ([], s.bad 2) := by unfold Rs.bytes; rw [if_neg hl2, hv, if_pos hbad]
     rw [hxb]
     have hlb : s.left ≤ 140737488355328 := by omega
     clear hxb hR2 hlx hle hll
     obtain ⟨l, hl⟩ : ∃ l, l = s.left := ⟨_, rfl⟩
     rw [← hl] at HL c1 hl2 hbad hlb
     have HL2 := Lib.hid hl.symm
     clear hl
     have hd : decide ((l : Int) < 2) = false := decide_eq_false (by omega)
     clear hvv h h0 h1 hq hb hv
     by_cases hb1 : most < v
     · have hdb : decide (most < v) = true := decide_eq_true (by omega)
       go_enter Tryz.func99, Tryz.ntmps99
       go_wp2_with fail
       refine HL.out.mono ?_
       rintro e w1 ⟨rfl, rfl⟩
       go_wp2_with fail
       go_quiet (fail)
       obtain ⟨wq, hwq⟩ : ∃ wq : World, wq = w.drewN nq := ⟨_, rfl⟩
       have HNQ : Hid (New w wq) := Lib.hid (by rw [hwq]; exact New.dn (New.refl _) _)
       have HFQ := Lib.hid (rfail_any (H.out.new HNQ.out) 2 (by omega))
       rw [← hwq]
       clear hwq k0 k1 c1 hor
       go_wp2_with fail
       refine HFQ.out.mono ?_
       rintro e w2 ⟨rfl, hR3, hF3⟩
       have HR3 := Lib.hid hR3
       have HF3 := Lib.hid ((HNQ.out.toFr _).trans hF3)
       clear hR3 hF3
       go_wp2_with fail
       go_ret
       exact ⟨⟨none, 0, rfl, w.heap.size, Nat.le_refl _, World.ownsRow_nil _ _ _ _⟩, HR3.out, HF3.out⟩
     · have hdb : decide (most < v) = false := decide_eq_false (by omega)
       have hdc : decide ((l : Int) - 2 < (v : Int)) = true := decide_eq_true (by omega)
       go_enter Tryz.func99, Tryz.ntmps99
       go_wp2_with fail
       refine HL.out.mono ?_
       rintro e w1 ⟨rfl, rfl⟩
       go_wp2_with fail
       go_quiet (fail)
       obtain ⟨wq, hwq⟩ : ∃ wq : World, wq = w.drewN nq := ⟨_, rfl⟩
       have HNQ : Hid (New w wq) := Lib.hid (by rw [hwq]; exact New.dn (New.refl _) _)
       have HFQ := Lib.hid (rfail_any (H.out.new HNQ.out) 2 (by omega))
       have HLQ := rleft_any (H.out.new HNQ.out)
       rw [HL2.out] at HLQ
       have HLQ := Lib.hid HLQ
       rw [← hwq]
       clear hwq k0 k1 c1 hor
       go_wp2_with fail
       refine HLQ.out.mono ?_
       rintro e w1 ⟨rfl, rfl⟩
       go_wp2_with fail
       refine HFQ.out.mono ?_
       rintro e w2 ⟨rfl, hR3, hF3⟩
       have HR3 := Lib.hid hR3
       have HF3 := Lib.hid ((HNQ.out.toFr _).trans hF3)
       clear hR3 hF3
       go_wp2_with fail
       go_ret
       exact ⟨⟨none, 0, rfl, w.heap.size, Nat.le_refl _, World.ownsRow_nil _ _ _ _⟩, HR3.out, HF3.out⟩
   · have hxb : s.bytes most = (s.raw 2).2.raw v := by unfold Rs.bytes; rw [if_neg hl2, hv, if_neg hbad]
     rw [hxb]
     obtain ⟨s2, hs2⟩ : ∃ s2, s2 = (s.raw 2).2 := ⟨_, rfl⟩
     rw [← hs2]
     obtain ⟨m3, hm3⟩ : ∃ m3, m3 = (s2.raw v).1.length := ⟨_, rfl⟩
     rw [← hm3]
     have HS2 := Lib.hid hs2
     have HM3 := Lib.hid hm3
     clear hs2 hm3
     have hlb : s.left ≤ 140737488355328 := by omega
     clear hxb hR2 hlx hle hll
     obtain ⟨l, hl⟩ : ∃ l, l = s.left := ⟨_, rfl⟩
     rw [← hl] at HL c1 hl2 hbad hlb
     have HL2 := Lib.hid hl.symm
     clear hl
     have hd : decide ((l : Int) < 2) = false := decide_eq_false (by omega)
     clear hvv h h0 h1 hq hb hv
     have hdb : decide (most < v) = false := decide_eq_false (by omega)
     have hdc : decide ((l : Int) - 2 < (v : Int)) = false := decide_eq_false (by omega)
     clear hbad
     go_enter Tryz.func99, Tryz.ntmps99
     go_wp2_with fail
     refine HL.out.mono ?_
     rintro e w1 ⟨rfl, rfl⟩
     go_wp2_with fail
     go_quiet (fail)
     obtain ⟨wq, hwq⟩ : ∃ wq : World, wq = w.drewN nq := ⟨_, rfl⟩
     have HNQ : Hid (New w wq) := Lib.hid (by rw [hwq]; exact New.dn (New.refl _) _)
     have HLQ := rleft_any (H.out.new HNQ.out)
     rw [HL2.out] at HLQ
     have HLQ := Lib.hid HLQ
     rw [← hwq]
     clear hwq k0 k1 c1 hor
     go_wp2_with fail
     refine HLQ.out.mono ?_
     rintro e w1 ⟨rfl, rfl⟩
     go_wp2_with fail
     refine (rraw_any (H.out.new HNQ.out) 2 (by omega)).mono ?_
     rintro e w2 ⟨⟨A2, c2, rfl, -⟩, hR3, hF3⟩
     have HR3 := Lib.hid hR3
     have HF3 : Hid (Fr (fun k => k = g) w w2) := Lib.hid ((HNQ.out.toFr _).trans hF3)
     clear hR3 hF3
     rw [← HS2.out] at HR3
     generalize (s.raw 2).1.length = m2
     have HW3 := Lib.hid (rraw_any HR3.out v (by omega))
     rw [← HM3.out] at HW3
     go_wp2_with fail
     refine HW3.out.mono ?_
     rintro e w3 ⟨⟨A3, c3, rfl, hO3⟩, hR4, hF4⟩
     have HO3 := Lib.hid hO3
     have HR4 := Lib.hid hR4
     have HF4 := Lib.hid (HF3.out.trans hF4)
     clear hO3 hR4 hF4
     go_wp2_with fail
     go_ret
     exact ⟨⟨A3, c3, rfl, w2.heap.size, HF3.out.size, HO3.out⟩, HR4.out, HF4.out⟩
theorem rend_any {g : Nat} {s : Rs} {w : World} (h : RdIn w g s) :
    Calls Tryz.prog 101 #[.pointer (some ⟨g, 0, none⟩)] w fun x w' => x = .returned (errV s.fin) ∧ w = w' := by
 obtain ⟨A, c, hb, hr, hc⟩ := h.st
 have c0 : w.cell? ⟨g, 0, none⟩ = some (errV s.e) := hb.cell 0
 have c1 : w.cell? ⟨g, 1, none⟩ = some (.slice A s.xs.length c) := hb.cell 1
 unfold Rs.fin
 clear hb hr hc h
 by_cases h0 : s.e = 0
 · rw [h0, errV_zero] at c0
   rw [if_neg (by omega)]
   obtain ⟨n, hn⟩ : ∃ n, n = s.xs.length := ⟨_, rfl⟩
   rw [← hn] at c1 ⊢
   clear hn h0
   by_cases hn : 0 < n
   · have hd : decide ((0 : Int) < (n : Int)) = true := decide_eq_true (by omega)
     rw [if_pos hn, errV_pos (by omega)]
     go_enter Tryz.func101, Tryz.ntmps101
     go_wp2_with fail
     go_ret
     exact ⟨rfl, rfl⟩
   · have hd : decide ((0 : Int) < (n : Int)) = false := decide_eq_false (by omega)
     rw [if_neg hn, errV_zero]
     go_enter Tryz.func101, Tryz.ntmps101
     go_wp2_with fail
     go_ret
     exact ⟨rfl, rfl⟩
 · rw [if_pos h0]
   rw [errV_pos h0] at c0 ⊢
   clear h0
   go_enter Tryz.func101, Tryz.ntmps101
   go_wp2_with fail
   go_ret
   exact ⟨rfl, rfl⟩
end Go.Proofs.YtfchcdbfalgdlaaGreatDoor
namespace Go.Proofs.YtfchcdbfalgdlaaGreatDoor
set_option linter.unusedVariables false
set_option linter.unusedSimpArgs false
set_option linter.constructorNameAsVariable false
open Go.RowKit
inductive Tr where
 | done
 | take (i : Nat) (t : Tr)
 | act (i : Nat) (t : Tr)
 | two (i : Nat) (t : Tr) (j : Nat) (u : Tr)
def Tr.len : Tr → Nat
 | .done => 0
 | .take _ t => t.len + 1
 | .act _ t => t.len + 1
 | .two _ t _ _ => t.len + 1
section
variable {P : Program} {md : Region.Mode} {ops : Array Oper} {Q : Exit → Act → World → Prop} {S : World → Prop}
def treeB (md : Region.Mode) (ops : Array Oper) : Tr → Array Bool → Bool
 | .done, listed => (Region.ready md ops listed).isEmpty
 | .take i t, listed => (Region.ready md ops listed).contains i && Region.free md ops listed i && treeB md ops t (listed.setIfInBounds i true)
 | .act i t, listed => decide (Region.ready md ops listed = [i]) && treeB md ops t (listed.setIfInBounds i true)
 | .two i t j u, listed => decide (Region.ready md ops listed = [i, j]) && decide (t.len = u.len) && treeB md ops t (listed.setIfInBounds i true) && treeB md ops u (listed.setIfInBounds j true)
def ActOk (P : Program) (ops : Array Oper) (S : World → Prop) (Q : Exit → Act → World → Prop) (i : Nat) (R : Act → World → Prop) (a : Act) (w : World) : Prop :=
 ∃ o, ops[i]? = some o ∧ (if Region.wanted o (yielded ops a.tmps) = true then o.wp P a w (fun a' w' => S w' ∧ R a' w') Q else R (a.put o.dst undef) w)
def wpTree (P : Program) (ops : Array Oper) (S : World → Prop) (Q : Exit → Act → World → Prop) : Tr → Act → World → Prop
 | .done, a, w => Q .normal a w
 | .take i t, a, w => ∃ o, ops[i]? = some o ∧ (if Region.wanted o (yielded ops a.tmps) = true then ∃ v, (∀ p : HW S, (execOp a.eval o).run P p.w = .ok (.value v) p.w) ∧ wpTree P ops S Q t (a.put o.dst v) w else wpTree P ops S Q t (a.put o.dst undef) w)
 | .act i t, a, w => ActOk P ops S Q i (wpTree P ops S Q t) a w
 | .two i t j u, a, w => ActOk P ops S Q i (wpTree P ops S Q t) a w ∧ ActOk P ops S Q j (wpTree P ops S Q u) a w
theorem actOk_op {i : Nat} {R R' : Act → World → Prop} {a : Act} {w : World} (h : ActOk P ops S Q i R a w) (hS : S w) (hR : ∀ a' w', S w' → R a' w' → R' a' w') : wpOp P ops Q i (fun a' w' => S w' ∧ R' a' w') a w := by
 obtain ⟨o, ho, h⟩ := h
 unfold wpOp
 simp only [ho]
 by_cases hw : Region.wanted o (yielded ops a.tmps) = true
 · rw [if_pos hw] at h
   simp only [hw, if_true]
   exact .inl (Oper.wp_mono (fun a' w' h' => ⟨h'.1, hR _ _ h'.1 h'.2⟩) h)
 · rw [if_neg hw] at h
   simp only [hw]
   exact ⟨hS, hR _ _ hS h⟩
theorem wpAnyH_of_tree (hs : Region.noSelect ops = true) (hQ : ∀ c a d v w, Q (.panic c) (a.put d v) w → Q (.panic c) a w) : ∀ (t : Tr) (listed : Array Bool) (a : Act) (w : World), treeB md ops t listed = true → S w → wpTree P ops S Q t a w → wpAnyH P md ops Q S t.len listed a w
 | .done, listed, a, w, hB, _, h => ⟨by simpa [treeB] using hB, h⟩
 | .take i t, listed, a, w, hB, hSw, h => by
  simp only [treeB, Bool.and_eq_true] at hB
  obtain ⟨⟨h1, h2⟩, h5⟩ := hB
  obtain ⟨o, ho, h⟩ := h
  have key : ∀ v, YieldsIf P ops S o v a → wpTree P ops S Q t (a.put o.dst v) w → wpAnyH P md ops Q S (Tr.take i t).len listed a w := fun v hy h =>
   wpAnyH_first ho (Region.noSelect_spec hs) (fun c a w => hQ c a _ _ w) _ listed a w (Region.free_spec ho h2) (by simpa using h1) hy hSw (wpAnyH_of_tree hs hQ t _ _ _ h5 hSw h)
  by_cases hw : Region.wanted o (yielded ops a.tmps) = true
  · rw [if_pos hw] at h
    obtain ⟨v, hv, h⟩ := h
    exact key v (.inl ⟨hw, fun w hw => hv ⟨w, hw⟩⟩) h
  · rw [if_neg hw] at h
    exact key undef (.inr ⟨by simpa using hw, rfl⟩) h
 | .act i t, listed, a, w, hB, hS, h => by
  simp only [treeB, Bool.and_eq_true, decide_eq_true_eq] at hB
  obtain ⟨h1, h3⟩ := hB
  refine ⟨fun h0 => (by rw [h1] at h0; cases h0), fun j hj => ?_⟩
  rw [h1, List.mem_singleton] at hj
  subst hj
  exact actOk_op h hS (fun a' w' hS' h' => wpAnyH_of_tree hs hQ t _ _ _ h3 hS' h')
 | .two i t j u, listed, a, w, hB, hS, h => by
  simp only [treeB, Bool.and_eq_true, decide_eq_true_eq] at hB
  obtain ⟨⟨⟨h1, h2⟩, h3⟩, h4⟩ := hB
  refine ⟨fun h0 => (by rw [h1] at h0; cases h0), fun k hk => ?_⟩
  rw [h1] at hk
  rcases List.mem_cons.1 hk with rfl | hk
  · exact actOk_op h.1 hS (fun a' w' hS' h' => wpAnyH_of_tree hs hQ t _ _ _ h3 hS' h')
  · rw [List.mem_singleton] at hk
    subst hk
    refine actOk_op h.2 hS (fun a' w' hS' h' => ?_)
    show wpAnyH P md ops Q S t.len _ a' w'
    rw [h2]
    exact wpAnyH_of_tree hs hQ u _ _ _ h4 hS' h'
theorem wp_region_tree {id : Nat} {a : Act} {w : World} {l : List Oper} (S : World → Prop) (t : Tr) (hm : P.follows .mixedOrders = true)
    (hB : (Region.noSelect l.toArray && decide (t.len = l.toArray.size) && treeB .any l.toArray t (Array.replicate l.toArray.size false)) = true) (hS : S w.drew)
    (h : Nonempty (HW S) → wpTree P l.toArray S (NoPan Q) t a w.drew) : (Code.region id l.toArray true).wp P Q a w := by
 simp only [Bool.and_eq_true, decide_eq_true_eq] at hB
 obtain ⟨⟨h1, h2⟩, h3⟩ := hB
 refine wp_mono (Q := NoPan Q) (wp_region_held (S := S) hm ?_) NoPan.imp
 have := wpAnyH_of_tree (Q := NoPan Q) h1 (fun _ _ _ _ _ h => h) t _ _ _ h3 hS (h ⟨⟨_, hS⟩⟩)
 rwa [h2] at this
theorem tree_take {i : Nat} {o : Oper} {t : Tr} {a : Act} {w : World} (ho : ops[i]? = some o)
    (h : ∀ K : Act → Prop, (∀ a, wpTree P ops S Q t a w → K a) → if Region.wanted o (yielded ops a.tmps) = true then ∃ v, (∀ p : HW S, (execOp a.eval o).run P p.w = .ok (.value v) p.w) ∧ K (a.put o.dst v) else K (a.put o.dst undef)) : wpTree P ops S Q (.take i t) a w :=
 ⟨o, ho, h _ fun _ h => h⟩
theorem act_ok {i : Nat} {o : Oper} {R : Act → World → Prop} {a : Act} {w : World} (ho : ops[i]? = some o)
    (h : ∀ K : Act → World → Prop, Hid (∀ a w, S w → R a w → K a w) → if Region.wanted o (yielded ops a.tmps) = true then o.wp P a w K Q else K (a.put o.dst undef) w) (hS : Region.wanted o (yielded ops a.tmps) = true ∨ S w) : ActOk P ops S Q i R a w := by
 refine ⟨o, ho, ?_⟩
 have := h (fun a' w' => S w' ∧ R a' w') (Lib.hid fun a w h1 h2 => ⟨h1, h2⟩)
 by_cases hw : Region.wanted o (yielded ops a.tmps) = true
 · rw [if_pos hw] at this ⊢
   exact this
 · rw [if_neg hw] at this ⊢
   exact this.2
theorem tree_act {i : Nat} {o : Oper} {t : Tr} {a : Act} {w : World} (ho : ops[i]? = some o)
    (h : ∀ K : Act → World → Prop, Hid (∀ a w, S w → wpTree P ops S Q t a w → K a w) → if Region.wanted o (yielded ops a.tmps) = true then o.wp P a w K Q else K (a.put o.dst undef) w) (hS : Region.wanted o (yielded ops a.tmps) = true ∨ S w) : wpTree P ops S Q (.act i t) a w :=
 act_ok ho h hS
theorem tree_done {a : Act} {w : World} (h : Q .normal a w) : wpTree P ops S (NoPan Q) .done a w := h
end
end Go.Proofs.YtfchcdbfalgdlaaGreatDoor
namespace Go.Proofs.YtfchcdbfalgdlaaGreatDoor
set_option linter.unusedVariables false
set_option linter.unusedSimpArgs false
set_option linter.constructorNameAsVariable false
open Go.RowKit
theorem wp_join {α : Type} {P : Program} {c : Code} {Q : Exit → Act → World → Prop} {a : Act} {w : World} (R : α → World → Prop) {F : α → Act}
    (h1 : ∀ K' : Act → World → Prop, Hid (∀ x w', R x w' → K' (F x) w') → c.wp P (Exit.then K' fun _ _ _ => False) a w)
    (h2 : ∀ x w', R x w' → Q .normal (F x) w') : c.wp P Q a w :=
 wp_sw (fun a' w' => ∃ x, a' = F x ∧ R x w') (fun a' w' ⟨x, e, h⟩ => e ▸ h2 x w' h) (fun K' hK => h1 K' (Lib.hid fun x w' h => hK _ _ ⟨x, rfl, h⟩))
section
variable {P : Program} {ops : Array Oper} {Q : Exit → Act → World → Prop} {S : World → Prop}
theorem act_alloc {i : Nat} {o : Oper} {R : Act → World → Prop} {a : Act} {w : World} {T : TypeId} {n : Nat} {Z : Value} (ho : ops[i]? = some o) (hw : Region.wanted o (yielded ops a.tmps) = true) (hop : o.op = .alloc T) (hZ : (P.info? T).map (fun i => (i.zero, i.size)) = some (some Z, n))
    (h : ∀ g w', g = w.heap.size → Blk w' g T Z.cells → New w w' → S w' ∧ R (a.put o.dst (.pointer (some ⟨g, 0, none⟩))) w') : ActOk P ops S Q i R a w := by
 refine ⟨o, ho, ?_⟩
 rw [if_pos hw]
 obtain ⟨z1, z2⟩ := zero_of_info hZ
 have hal : (Instr.alloc T true (.tuple #[])).run P w = .ok (.pointer (some ⟨w.heap.size, 0, none⟩)) (w.alloc (.cells Z.cells T)) := by
  unfold Instr.alloc
  simp [Sem.run_bind, z1 w, newVar, newRow, go_sem, Result.andThen]
 unfold Oper.wp
 simp only [execOp, hop, hal, Result.andThen_ok, Sem.run_bind, Sem.run_pure]
 exact h _ _ rfl (Blk.new _ _ _) (New.al (New.refl _) _)
theorem tree_act_alloc {i : Nat} {o : Oper} {t : Tr} {a : Act} {w : World} {T : TypeId} {n : Nat} {Z : Value} (ho : ops[i]? = some o) (hw : Region.wanted o (yielded ops a.tmps) = true) (hop : o.op = .alloc T) (hZ : (P.info? T).map (fun i => (i.zero, i.size)) = some (some Z, n))
    (h : ∀ g w', g = w.heap.size → Blk w' g T Z.cells → New w w' → S w' ∧ wpTree P ops S Q t (a.put o.dst (.pointer (some ⟨g, 0, none⟩))) w') : wpTree P ops S Q (.act i t) a w :=
 act_alloc ho hw hop hZ h
theorem act_store {i : Nat} {o : Oper} {R : Act → World → Prop} {a : Act} {w : World} {T : TypeId} {g : Nat} {cs0 cs : Array Value} (ho : ops[i]? = some o) (hw : Region.wanted o (yielded ops a.tmps) = true) (x y : Operand) (hop : o.op = .store T x y) (hi : (P.info? T).map (·.size) = some cs.size) (hx : a.eval x = .pointer (some ⟨g, 0, none⟩)) (hy : a.eval y = .agg cs) (hb : Blk w g T cs0) (h0 : cs0.size = cs.size) (h1 : cs.all (·.oneCell') = true)
    (h : ∀ w', Blk w' g T cs → Fr (fun k => k = g) w w' → S w' ∧ R (a.put o.dst undef) w') : ActOk P ops S Q i R a w := by
 refine ⟨o, ho, ?_⟩
 obtain ⟨r1, r2⟩ := setRow_blk (cs' := cs) hb
 rw [if_pos hw]
 unfold Oper.wp execOp
 simp only [hop, hx, hy, Instr.storeAt, Instr.sureAddr, Sem.run_bind, Sem.run_pure, Result.andThen_ok, run_storeVar_row w g T T cs0 cs hb (by rw [hi]) (by omega) h1]
 exact h _ r1 r2
theorem tree_take_row {i : Nat} {o : Oper} {t : Tr} {a : Act} {w : World} {T : TypeId} {d : TypeDesc} {b off : Nat} {cs : List Value} (ho : ops[i]? = some o) (hw : Region.wanted o (yielded ops a.tmps) = true) (x : Operand) (hop : o.op = .load T x) (hx : a.eval x = .pointer (some ⟨b, off, none⟩))
    (hc : ∀ w', S w' → w'.rangeAt b off cs) (hu : P.underlying T = some d) (hd : d.isRow = true) (hi : (P.info? T).map (·.size) = some cs.length)
    (h : wpTree P ops S Q t (a.put o.dst (.agg cs.toArray)) w) : wpTree P ops S Q (.take i t) a w :=
 ⟨o, ho, by
  rw [if_pos hw]
  refine ⟨_, fun p => ?_, h⟩
  unfold execOp
  simp only [hop, hx, Instr.loadAt, Instr.sureAddr, Sem.run_bind, Sem.run_pure, Result.andThen_ok, run_loadVar_mid p.w b off T cs d (hc _ p.h) hu hd hi]⟩
end
end Go.Proofs.YtfchcdbfalgdlaaGreatDoor
