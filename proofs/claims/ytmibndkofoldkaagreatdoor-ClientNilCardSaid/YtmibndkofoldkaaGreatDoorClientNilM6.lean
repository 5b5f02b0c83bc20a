/- Texts of one proof, one behind the other: OcR, OcS, OcH, Open. No condition but each one's own. -/
import Derived.Test.YtmibndkofoldkaaGreatDoorClientNilM2
import Derived.Laws.BitsAllLaws
import Derived.Test.YtmibndkofoldkaaGreatDoorClientNilM1
import Derived.Deep.Slices
import Derived.Deep.Fields
import Derived.OpenShut
namespace Go.Proofs.YtmibndkofoldkaaGreatDoor
set_option linter.unusedVariables false
set_option linter.unusedSimpArgs false
set_option linter.constructorNameAsVariable false
open Go.RowKit Go.Maps
def errV (e : Nat) : Value := if e = 0 then .nilIface else .iface 55 (.int .i64 e)
theorem errV_zero : errV 0 = .nilIface := rfl
theorem errV_pos {e : Nat} (h : e ≠ 0) : errV e = .iface 55 (.int .i64 e) := if_neg h
structure RdIn (w : World) (g : Nat) (s : Rs) : Prop where
 st : ∃ A c, Blk w g 266 #[errV s.e, .slice A s.xs.length c] ∧ RdT 5 w 1 A s.xs.length (u8s s.xs) ∧ s.xs.length ≤ c
 byt : Byt s.xs
 len : s.xs.length ≤ 140737488355328
section
variable {g : Nat} {w w' : World} {s : Rs}
theorem RdIn.lt (h : RdIn w g s) : g < w.heap.size := by obtain ⟨A, c, hb, _⟩ := h.st; exact hb.lt
theorem RdIn.new (h : RdIn w g s) (hN : New w w') : RdIn w' g s := by
 obtain ⟨A, c, hb, hr, hc⟩ := h.st
 exact ⟨⟨A, c, hN.blk hb, hr.new hN, hc⟩, h.byt, h.len⟩
theorem RdIn.fr {S : Nat → Prop} (h : RdIn w g s) (hF : Fr S w w') (hg : ¬ S g) (hS : ∀ k, S k → ¬ IsT 5 w k) : RdIn w' g s := by
 obtain ⟨A, c, hb, hr, hc⟩ := h.st
 exact ⟨⟨A, c, hb.fr hF hg, hr.fr hF hS, hc⟩, h.byt, h.len⟩
end
theorem Rd.take {p : Nat → Prop} {w : World} {A : Option Addr} {n : Nat} {xs : List Int} (h : Rd p w 1 A n (u8s xs)) {k : Nat} (hk : k ≤ n) : Rd p w 1 A k (u8s (xs.take k)) := by
 have hl : xs.length = n := by have := h.1; rw [u8s_len] at this; omega
 refine ⟨by rw [u8s_len, List.length_take]; omega, fun hp => ?_⟩
 obtain ⟨ad, e, h1, h2, h3⟩ := h.2 (by omega)
 refine ⟨ad, e, h1, h2, fun j u hu => h3 j u ?_⟩
 have : u8s (xs.take k) = (u8s xs).take k := by simp [u8s]
 rw [this, List.getElem?_take] at hu
 split at hu
 · exact hu
 · cases hu
theorem from_any {p : Nat → Prop} (A : Option Addr) (n c : Nat) (xs : List Int) (w : World) (hO : Rd p w 1 A n (u8s xs)) (hb : Byt xs) (hn : n ≤ 140737488355328) :
    Calls Tryz.prog 91 #[.slice A n c] w fun e w' => ∃ g, e = .returned (.pointer (some ⟨g, 0, none⟩)) ∧ RdIn w' g ⟨xs, 0⟩ ∧ New w w' ∧ w.heap.size ≤ g := by
 have hx : xs.length = n := by have := hO.1; rw [u8s_len] at this; omega
 have HC := Lib.hid (sclone_any A n c xs w hO hn)
 have HB := Lib.hid hb
 have HX := Lib.hid hx
 clear hO hb hx
 go_enter Tryz.func91, Tryz.ntmps91
 go_wp2_with fail
 refine HC.out.mono ?_
 rintro e w1 ⟨⟨A1, d1, rfl, hO1⟩, hN1⟩
 have HO1 := Lib.hid hO1
 have HN1 := Lib.hid hN1
 clear hO1 hN1
 go_wp2_with fail
 go_ret
 have hN2 := New.al (New.refl w1) (.cells #[.nilIface, .slice A1 n d1] 266)
 refine ⟨w1.heap.size, rfl, ⟨⟨A1, d1, ?_, ?_, ?_⟩, HB.out, by rw [HX.out]; exact hn⟩, HN1.out.tr hN2, HN1.out.size⟩
 · rw [HX.out]
   exact Blk.new _ _ _
 · rw [HX.out]
   exact (RdT.own HO1.out rfl).new hN2
 · rw [HX.out]
   obtain ⟨A', c', h1, h2, -⟩ := own_shape HO1.out
   injection h1 with _ _ h3
   omega
theorem ffail_any (g T : Nat) (v : Value) (e c : Nat) (w : World) (hB : Blk w g T #[errV e, v]) (hc : 1 ≤ c) :
    Calls Tryz.prog 150 #[.pointer (some ⟨g, 0, none⟩), .iface 55 (.int .i64 c)] w fun x w' => x = .returned (.tuple #[]) ∧ Blk w' g T #[errV (if e = 0 then c else e), v] ∧ Fr (fun k => k = g) w w' := by
 have c0 : w.cell? ⟨g, 0, none⟩ = some (errV e) := hB.cell 0
 have f0 := hB.frozen 0
 have HB := Lib.hid hB
 clear hB
 by_cases h0 : e = 0
 · subst h0
   rw [errV_zero] at c0
   go_enter Tryz.func150, Tryz.ntmps150
   go_wp2_with fail
   go_end0
   refine ⟨rfl, ?_, (Fr.refl (fun k => k = g) w).setCell (p := ⟨g, 0, none⟩) (fun _ => rfl) _⟩
   have := HB.out.set 0 (.iface 55 (.int .i64 c))
   show Blk _ g T #[errV c, v]
   rw [errV_pos (e := c) (by omega)]
   simpa using this
 · rw [errV_pos h0] at c0
   rw [if_neg h0]
   clear h0
   go_enter Tryz.func150, Tryz.ntmps150
   go_wp2_with fail
   go_end0
   exact ⟨rfl, HB.out, Fr.refl _ _⟩
theorem rfail_any {g : Nat} {s : Rs} {w : World} (h : RdIn w g s) (c : Nat) (hc : 1 ≤ c) :
    Calls Tryz.prog 97 #[.pointer (some ⟨g, 0, none⟩), .iface 55 (.int .i64 c)] w fun x w' => x = .returned (.tuple #[]) ∧ RdIn w' g (s.bad c) ∧ Fr (fun k => k = g) w w' := by
 obtain ⟨A, d, hb, hr, hcc⟩ := h.st
 have HF := Lib.hid (ffail_any g 266 _ s.e c w hb hc)
 have H := Lib.hid h
 have HR := Lib.hid hr
 have HCC := Lib.hid hcc
 clear h hb hr hcc
 go_enter Tryz.func97, Tryz.ntmps97
 go_wp2_with fail
 refine HF.out.mono ?_
 rintro e w1 ⟨rfl, hB1, hF1⟩
 have HB1 := Lib.hid hB1
 have HF1 := Lib.hid hF1
 clear hB1 hF1
 go_wp2_with fail
 go_end0
 have hr1 : RdT 5 w1 1 A s.xs.length (u8s s.xs) := HR.out.fr HF1.out (fun k hk => by
  subst hk
  obtain ⟨A', d', hb', _⟩ := H.out.st
  exact IsT.not_blk hb' (by decide))
 refine ⟨rfl, ?_, HF1.out⟩
 have hB1 := HB1.out
 unfold Rs.bad
 by_cases h0 : s.e = 0
 · rw [if_pos h0] at hB1 ⊢
   exact ⟨⟨A, d, hB1, hr1, HCC.out⟩, H.out.byt, H.out.len⟩
 · rw [if_neg h0] at hB1 ⊢
   exact ⟨⟨A, d, hB1, hr1, HCC.out⟩, H.out.byt, H.out.len⟩
theorem rleft_any {g : Nat} {s : Rs} {w : World} (h : RdIn w g s) :
    Calls Tryz.prog 94 #[.pointer (some ⟨g, 0, none⟩)] w fun x w' => x = .returned (.int .i64 s.left) ∧ w = w' := by
 obtain ⟨A, d, hb, hr, hcc⟩ := h.st
 have c0 : w.cell? ⟨g, 0, none⟩ = some (errV s.e) := hb.cell 0
 have c1 : w.cell? ⟨g, 1, none⟩ = some (.slice A s.xs.length d) := hb.cell 1
 clear h hb hr hcc
 unfold Rs.left
 by_cases h0 : s.e = 0
 · rw [h0, errV_zero] at c0
   rw [if_pos h0]
   clear h0
   go_enter Tryz.func94, Tryz.ntmps94
   go_wp2_with fail
   go_ret
   exact ⟨rfl, rfl⟩
 · rw [errV_pos h0] at c0
   rw [if_neg h0]
   clear h0
   go_enter Tryz.func94, Tryz.ntmps94
   go_wp2_with fail
   go_ret
   exact ⟨rfl, rfl⟩
theorem left_le (s : Rs) : s.left ≤ s.xs.length := by
 unfold Rs.left
 split <;> omega
theorem left_zero {s : Rs} (h : 0 < s.left) : s.e = 0 ∧ s.left = s.xs.length := by
 unfold Rs.left at h ⊢
 split at h
 · next h0 => exact ⟨h0, by rw [if_pos h0]⟩
 · omega
set_option maxHeartbeats 2000000 in
theorem rraw_any {g : Nat} {s : Rs} {w : World} (h : RdIn w g s) (n : Nat) (hn : n ≤ 140737488355328) :
    Calls Tryz.prog 149 #[.pointer (some ⟨g, 0, none⟩), .int .i64 n] w fun x w' => (∃ A c, x = .returned (.slice A (s.raw n).1.length c) ∧ w'.ownsRow w.heap.size 5 1 (.slice A (s.raw n).1.length c) (s.raw n).1.length (u8s (s.raw n).1)) ∧ RdIn w' g (s.raw n).2 ∧ Fr (fun k => k = g) w w' := by
 have HL := Lib.hid (rleft_any h)
 have HFL := Lib.hid (rfail_any h 2 (by omega))
 have hll := left_le s
 have hlen := h.len
 by_cases hlt : s.left < n
 · have hx : s.raw n = ([], s.bad 2) := by unfold Rs.raw; rw [if_pos hlt]
   rw [hx]
   generalize s.left = l at *
   clear hx
   go_enter Tryz.func149, Tryz.ntmps149
   go_wp2_with fail
   refine HL.out.mono ?_
   rintro e w1 ⟨rfl, rfl⟩
   have hd : decide ((l : Int) < (n : Int)) = true := decide_eq_true (by omega)
   go_wp2_with fail
   refine HFL.out.mono ?_
   rintro e w2 ⟨rfl, hR2, hF2⟩
   have HR2 := Lib.hid hR2
   have HF2 := Lib.hid hF2
   clear hR2 hF2
   go_wp2_with fail
   go_ret
   exact ⟨⟨none, 0, rfl, World.ownsRow_nil _ _ _ _⟩, HR2.out, HF2.out⟩
 · have hx : s.raw n = (s.xs.take n, ⟨s.xs.drop n, s.e⟩) := by unfold Rs.raw; rw [if_neg hlt]
   rw [hx]
   dsimp only
   by_cases hn0 : n = 0
   · subst hn0
     rw [List.take_zero, List.drop_zero]
     have hd : decide ((s.left : Int) < 0) = false := decide_eq_false (by omega)
     have H := Lib.hid h
     generalize s.left = l at *
     clear hx h
     go_enter Tryz.func149, Tryz.ntmps149
     go_wp2_with fail
     refine HL.out.mono ?_
     rintro e w1 ⟨rfl, rfl⟩
     go_wp2_with fail
     go_ret
     exact ⟨⟨none, 0, rfl, World.ownsRow_nil _ _ _ _⟩, H.out, Fr.refl _ _⟩
   · obtain ⟨he, hle⟩ := left_zero (s := s) (by omega)
     have hnx : n ≤ s.xs.length := by omega
     obtain ⟨A, d, hb, hr, hcc⟩ := h.st
     obtain ⟨l, hl⟩ : ∃ l, l = s.xs.length := ⟨_, rfl⟩
     rw [← hl] at hb hr hcc hnx hlen
     have hd : decide ((l : Int) < (n : Int)) = false := decide_eq_false (by omega)
     rw [hle, ← hl] at HL
     rw [he, errV_zero] at hb
     have htk : (s.xs.take n).length = n := by rw [List.length_take]; omega
     rw [htk]
     have HB := Lib.hid hb
     have HR : Hid (RdT 5 w 1 A l (u8s s.xs)) := Lib.hid hr
     have HCC := Lib.hid hcc
     have HX := Lib.hid hl
     have HE := Lib.hid he
     have HBY := Lib.hid h.byt
     have HTK := Lib.hid htk
     have c1 : w.cell? ⟨g, 1, none⟩ = some (.slice A l d) := hb.cell 1
     have f1 := hb.frozen 1
     obtain ⟨gA, o, rfl, -⟩ : ∃ gA o, A = some ⟨gA, o, none⟩ ∧ True := by
      obtain ⟨gA, o, hA, _⟩ := hr.out (by omega) (by omega)
      exact ⟨gA, o, hA, trivial⟩
     clear hx h hb hr hcc hl he hle hll hlt htk
     go_enter Tryz.func149, Tryz.ntmps149
     go_wp2_with fail
     refine HL.out.mono ?_
     rintro e w1 ⟨rfl, rfl⟩
     have HNX := Lib.hid hnx
     by_cases hdn : d = n
     · subst hdn
       obtain rfl : l = d := by have := HCC.out; omega
       go_wp2_with fail
       refine (sclone_any (some ⟨gA, o, none⟩) l l (s.xs.take l) w (Rd.take HR.out HNX.out) (by omega)).mono ?_
       rintro e w2 ⟨⟨A2, d2, rfl, hO2⟩, hN2⟩
       have HO2 := Lib.hid hO2
       have HN2 := Lib.hid hN2
       have c1 : w2.cell? ⟨g, 1, none⟩ = some (.slice (some ⟨gA, o, none⟩) l l) := (hN2.blk HB.out).cell 1
       have f1 : w2.frozen? ⟨g, 1, none⟩ = false := (hN2.blk HB.out).frozen 1
       clear hO2 hN2
       go_wp2_with fail
       go_ret
       have hFs := fun v => (Fr.refl (fun k => k = g) w2).setCell (p := ⟨g, 1, none⟩) (fun _ => rfl) v
       have hng : ∀ k, k = g → ¬ IsT 5 w2 k := fun k hk => by subst hk; exact IsT.not_blk (HN2.out.blk HB.out) (by decide)
       have hnx : ∀ k, (Value.slice A2 l d2).ownBlock = some k → ¬ k = g := fun k hk e => hng k e (own_isT' HO2.out hk)
       have hd0 : s.xs.drop l = [] := List.drop_eq_nil_of_le (by rw [← HX.out]; exact Nat.le_refl _)
       rw [hd0]
       refine ⟨⟨A2, d2, rfl, own_fr HO2.out (hFs _) hnx⟩, ⟨⟨some ⟨gA, o, none⟩, 0, ?_, RdT.nil, Nat.le_refl _⟩, (fun x hx => nomatch hx), Nat.zero_le _⟩, (HN2.out.toFr _).trans (hFs _)⟩
       have hb := (HN2.out.blk HB.out).set 1 (.slice (some ⟨gA, o, none⟩) 0 0)
       dsimp only
       rw [HE.out, errV_zero]
       simpa using hb
     · have hlt2 : n < d := by have := HCC.out; omega
       go_wp2_with fail
       refine (sclone_any (some ⟨gA, o, none⟩) n d (s.xs.take n) w (Rd.take HR.out HNX.out) (by omega)).mono ?_
       rintro e w2 ⟨⟨A2, d2, rfl, hO2⟩, hN2⟩
       have HO2 := Lib.hid hO2
       have HN2 := Lib.hid hN2
       have c1 : w2.cell? ⟨g, 1, none⟩ = some (.slice (some ⟨gA, o, none⟩) l d) := (hN2.blk HB.out).cell 1
       have f1 : w2.frozen? ⟨g, 1, none⟩ = false := (hN2.blk HB.out).frozen 1
       clear hO2 hN2
       go_wp2_with fail
       go_ret
       have hFs := fun v => (Fr.refl (fun k => k = g) w2).setCell (p := ⟨g, 1, none⟩) (fun _ => rfl) v
       have hng : ∀ k, k = g → ¬ IsT 5 w2 k := fun k hk => by subst hk; exact IsT.not_blk (HN2.out.blk HB.out) (by decide)
       have hnx : ∀ k, (Value.slice A2 n d2).ownBlock = some k → ¬ k = g := fun k hk e => hng k e (own_isT' HO2.out hk)
       have hdl : (s.xs.drop n).length = l - n := by rw [List.length_drop, HX.out]
       have hrd : RdT 5 w2 1 (some ⟨gA, o + n, none⟩) (l - n) (u8s (s.xs.drop n)) := by
        have h1 := Rd.drop (cap := d) (HR.out.new HN2.out) HNX.out HCC.out
        rw [if_neg hdn, Option.map_some, Nat.mul_one] at h1
        have h2 : (⟨gA, o, none⟩ : Addr).add n = ⟨gA, o + n, none⟩ := by
         unfold Addr.add
         rw [if_neg hn0]
        rw [h2] at h1
        have h3 : (u8s s.xs).drop n = u8s (s.xs.drop n) := by simp [u8s]
        rw [h3] at h1
        exact h1
       refine ⟨⟨A2, d2, rfl, own_fr HO2.out (hFs _) hnx⟩, ⟨⟨some ⟨gA, o + n, none⟩, d - n, ?_, ?_, ?_⟩, ?_, ?_⟩, (HN2.out.toFr _).trans (hFs _)⟩
       · have hb := (HN2.out.blk HB.out).set 1 (.slice (some ⟨gA, o + n, none⟩) (l - n) (d - n))
         dsimp only
         rw [hdl, HE.out, errV_zero]
         simpa using hb
       · dsimp only
         rw [hdl]
         exact hrd.fr (hFs _) hng
       · dsimp only
         rw [hdl]
         have := HCC.out
         omega
       · exact fun x hx => HBY.out x (List.mem_of_mem_drop hx)
       · dsimp only
         rw [hdl]
         omega
end Go.Proofs.YtmibndkofoldkaaGreatDoor
namespace Go.Proofs.YtmibndkofoldkaaGreatDoor
set_option linter.unusedVariables false
set_option linter.unusedSimpArgs false
set_option linter.constructorNameAsVariable false
open Go.RowKit Go.Maps
theorem or_shl (v y : Nat) (hv : v < 256 ^ 7) (hy : y < 256) : bits .or .u64 ((v : Int) * 256) (y : Int) = ((v * 256 + y : Nat) : Int) := by
 rw [show (v : Int) * 256 = ((v * 256 : Nat) : Int) by simp, u64_or_nat _ _ (by omega) (by omega)]
 congr 1
 rw [show v * 256 = v <<< 8 by rw [Nat.shiftLeft_eq], Nat.shiftLeft_add_eq_or_of_lt (by omega)]
theorem raw_le (s : Rs) (n : Nat) : (s.raw n).1.length ≤ n := by
 unfold Rs.raw
 split
 · simp
 · simp; omega
theorem raw_byt {s : Rs} (h : Byt s.xs) (n : Nat) : Byt (s.raw n).1 := by
 unfold Rs.raw
 split
 · intro x hx; cases hx
 · exact fun x hx => h x (List.mem_of_mem_take hx)
set_option maxHeartbeats 2000000 in
theorem rnum_any {g : Nat} {s : Rs} {w : World} (h : RdIn w g s) (size : Nat) (hs : size = 1 ∨ size = 2 ∨ size = 4 ∨ size = 8) :
    Calls Tryz.prog 92 #[.pointer (some ⟨g, 0, none⟩), .int .i64 size] w fun x w' => x = .returned (.int .u64 (s.num size).1) ∧ RdIn w' g (s.num size).2 ∧ Fr (fun k => k = g) w w' := by
 have HS := Lib.hid (fun w => sized_yes size (by omega) w)
 have HW := Lib.hid (rraw_any h size (by omega))
 have hle := raw_le s size
 have hby := raw_byt h.byt size
 unfold Rs.num
 dsimp only
 obtain ⟨bs, hbs⟩ : ∃ bs, bs = (s.raw size).1 := ⟨_, rfl⟩
 rw [← hbs] at HW hle hby ⊢
 obtain ⟨m, hm⟩ : ∃ m, m = bs.length := ⟨_, rfl⟩
 rw [← hm] at HW hle
 have hm8 : m ≤ 8 := by omega
 have HM := Lib.hid hm
 have HBY := Lib.hid hby
 clear hbs hm hby h hs
 go_enter Tryz.func92, Tryz.ntmps92
 go_wp2_with fail
 refine (HS.out _).mono ?_
 rintro e w1 ⟨rfl, rfl⟩
 go_wp2_with fail
 refine HW.out.mono ?_
 rintro e w2 ⟨⟨A, c, rfl, hO⟩, hR, hF⟩
 have HO := Lib.hid hO
 have HR := Lib.hid hR
 have HF := Lib.hid hF
 clear hO hR hF HW HS
 go_wp2_with fail
 go_loop [5, 18] (fun n i => ∃ j : Nat, j ≤ m ∧ i = .int .i64 j ∧ n = .int .u64 (valL (bs.take j))) (fun n i => m - (intOf i).toNat)
 case atStart => exact ⟨0, Nat.zero_le _, rfl, rfl⟩
 case round =>
  obtain ⟨j, hj, rfl, rfl⟩ := hrel
  by_cases hlt : j < m
  · obtain ⟨gA, o, rfl, -, -, hq⟩ := (Rd.own HO.out rfl).out (by omega) (by omega)
    have hjl : j < bs.length := by rw [← HM.out]; exact hlt
    have hcell : w2.cell? ⟨gA, o + j, none⟩ = some (.int .u8 bs[j]) := hq j _ (by simp [u8s, hjl])
    have hst := valL_take hjl
    have hb := HBY.out bs[j] (List.getElem_mem _)
    have hv := valL_lt (xs := bs.take j) (fun x hx => HBY.out x (List.mem_of_mem_take hx))
    rw [List.length_take, Nat.min_eq_left (by omega)] at hv
    have hv7 : valL (bs.take j) < 256 ^ 7 := Nat.lt_of_lt_of_le hv (Nat.pow_le_pow_right (by decide) (by omega))
    generalize bs[j] = x at hcell hst hb
    generalize valL (bs.take j) = v at hst hv7 ⊢
    obtain ⟨y, rfl⟩ : ∃ y : Nat, x = (y : Int) := ⟨x.toNat, by omega⟩
    have HST := Lib.hid hst
    have hy : y < 256 := by omega
    have hj0 : (0 : Int) ≤ (j : Int) := by omega
    have hjm : (j : Int) < (m : Int) := by omega
    clear hst hq hv hb hjl
    go_wp2_with fail
    refine ⟨⟨j + 1, by omega, by go_num, ?_⟩, by simp [intOf]; omega⟩
    rw [HST.out, or_shl v y hv7 hy]
    simp
  · obtain rfl : j = m := by omega
    go_wp2_with fail
    go_ret
    rw [List.take_of_length_le (by rw [← HM.out]; exact Nat.le_refl _)]
    exact ⟨rfl, HR.out, HF.out⟩
theorem rend_any {g : Nat} {s : Rs} {w : World} (h : RdIn w g s) :
    Calls Tryz.prog 100 #[.pointer (some ⟨g, 0, none⟩)] w fun x w' => x = .returned (errV s.fin) ∧ w = w' := by
 obtain ⟨A, c, hb, hr, hc⟩ := h.st
 have c0 : w.cell? ⟨g, 0, none⟩ = some (errV s.e) := hb.cell 0
 have c1 : w.cell? ⟨g, 1, none⟩ = some (.slice A s.xs.length c) := hb.cell 1
 unfold Rs.fin
 clear hb hr hc h
 by_cases h0 : s.e = 0
 · rw [h0, errV_zero] at c0
   rw [if_neg (by omega)]
   obtain ⟨n, hn⟩ : ∃ n, n = s.xs.length := ⟨_, rfl⟩
   rw [← hn] at c1 ⊢
   clear hn h0
   by_cases hn : 0 < n
   · have hd : decide ((0 : Int) < (n : Int)) = true := decide_eq_true (by omega)
     rw [if_pos hn, errV_pos (by omega)]
     go_enter Tryz.func100, Tryz.ntmps100
     go_wp2_with fail
     go_ret
     exact ⟨rfl, rfl⟩
   · have hd : decide ((0 : Int) < (n : Int)) = false := decide_eq_false (by omega)
     rw [if_neg hn, errV_zero]
     go_enter Tryz.func100, Tryz.ntmps100
     go_wp2_with fail
     go_ret
     exact ⟨rfl, rfl⟩
 · rw [if_pos h0]
   rw [errV_pos h0] at c0 ⊢
   clear h0
   go_enter Tryz.func100, Tryz.ntmps100
   go_wp2_with fail
   go_ret
   exact ⟨rfl, rfl⟩
end Go.Proofs.YtmibndkofoldkaaGreatDoor
namespace Go.Proofs.YtmibndkofoldkaaGreatDoor
set_option linter.unusedVariables false
set_option linter.unusedSimpArgs false
set_option linter.constructorNameAsVariable false
open Go.RowKit Go.Sort
theorem results_rowH {fn : Func} {p : Tmp} {ty : TypeId} {P : Program} (h : fn.results = #[.cell p ty]) (tmps : Array Value) (w : World) (g : Nat) (cs : Array Value) (d : TypeDesc)
    (hp : tmps.getD p undef = .pointer (some ⟨g, 0, none⟩)) (hg : Blk w g ty cs) (hu : P.underlying ty = some d) (hd : d.isRow = true) (hi : (P.info? ty).map (·.size) = some cs.size) :
    (results fn tmps).run P w = .ok (.agg cs) w := results_cell_row h tmps w g ty cs (0, 0) d hp hg hu (by cases d <;> first | rfl | (simp [TypeDesc.isRow] at hd)) hi
theorem mix_copyF {P : Program} {ops : Array Oper} {Q : Exit → Act → World → Prop} {S : World → Prop} {last i : Nat} {w : World} {o : Oper} {sc : List (Bool × Nat)} {a : Act} (hop : ops[i]? = some o) (hw : Region.wanted o (yielded ops a.tmps) = true) (d s : Operand) (dT sT : TypeId)
    (ho : o.op = .call { callee := .builtin .copy, args := #[d, s], argTypes := #[dT, sT] }) (elem : TypeId) (hu : P.underlying dT = some (.slice elem)) (hsz : (P.info? elem).map (·.size) = some 1)
    (g off dLen dCap : Nat) (sp : Option Addr) (sLen sCap : Nat) (hd : a.eval d = .slice (some ⟨g, off, none⟩) dLen dCap) (hs : a.eval s = .slice sp sLen sCap)
    (cur : List Value) (t : TypeId) (hg : Blk w g t cur.toArray) (cs : List Value) (hn : cs.length = Nat.min sLen dLen) {q : Nat → Prop}
    (hsrc : ∃ n xs, Rd q w 1 sp n xs ∧ xs.take cs.length = cs) (hfit : off + cs.length ≤ cur.length) (h1 : ∀ v ∈ cs, v.oneCell' = true)
    (h : ∀ w', Blk w' g t (splice cur off cs).toArray → Fr (fun k => k = g) w w' → (i ≠ last → S w') ∧ wpMix P ops S last Q sc (a.put o.dst (goInt cs.length)) w') : wpMix P ops S last Q ((false, i) :: sc) a w := by
 refine ⟨o, hop, ?_⟩
 rw [if_pos hw]
 by_cases h0 : cs.length = 0
 · obtain rfl : cs = [] := List.eq_nil_of_length_eq_zero h0
   have hrun := run_copy_none (P := P) w dT sT o.type elem (some ⟨g, off, none⟩) sp dLen dCap sLen sCap hu hsz (by simpa using hn.symm)
   unfold Oper.wp
   simp [execOp, ho, resolve, invoke, builtin, hd, hs, hrun, Result.andThen]
   exact h w (by simpa [splice] using hg) (Fr.refl _ _)
 · obtain ⟨n, xs, hR, htk⟩ := hsrc
   have hnp : 0 < n := by
    have h2 := hR.1
    have h3 := congrArg List.length htk
    rw [List.length_take] at h3
    omega
   obtain ⟨ad, rfl, -, -, hc⟩ := hR.2 hnp
   have hrun := run_copy_row (P := P) w dT sT o.type elem g off dLen dCap ad sLen sCap cur.toArray t cs hu hsz hg hn (fun j v hv => hc j v (by
    have hj := (List.getElem?_eq_some_iff.1 hv).1
    rw [← htk, List.getElem?_take_of_lt hj] at hv
    exact hv)) (by simpa using hfit) h1
   obtain ⟨r1, r2⟩ := setRow_blk (cs' := (cur.toArray.toList.take off ++ cs ++ cur.toArray.toList.drop (off + cs.length)).toArray) hg
   have hh := h _ (by simpa [splice] using r1) r2
   obtain ⟨W, hW⟩ : ∃ W, W = w.setRow g (cur.toArray.toList.take off ++ cs ++ cur.toArray.toList.drop (off + cs.length)).toArray := ⟨_, rfl⟩
   rw [← hW] at hrun hh
   unfold Oper.wp
   simp [execOp, ho, resolve, invoke, builtin, hd, hs, hrun, Result.andThen]
   exact hh
theorem mix_app {P : Program} {ops : Array Oper} {Q : Exit → Act → World → Prop} {S : World → Prop} {last i : Nat} {o : Oper} {sc : List (Bool × Nat)} {a : Act} {t e : TypeId} {size bytes : Nat} (E : ElemOf P t e size bytes) (w : World) (hop : ops[i]? = some o) (hw : Region.wanted o (yielded ops a.tmps) = true) (s x : Operand)
    (ho : o.op = .call { callee := .builtin .append, args := #[s, x], argTypes := #[t, t] })
    (base : Nat) (v : Value) (n : Nat) (xs : List Value) (hs : a.eval s = v) (hown : w.ownsRow base e size v n xs)
    {p : Nat → Prop} (X : Option Addr) (m c : Nat) (news : List Value) (hx : a.eval x = .slice X m c) (hr : Rd p w size X m news) (h1 : ∀ u ∈ news, u.oneCell' = true)
    (h63 : n + m ≤ maxLen) (hbytes : (n + m) * bytes ≤ 140737488355328) (hbase : base ≤ w.heap.size)
    (h : ∀ A' c' w', w'.ownsRow base e size (.slice A' (n + m) c') (n + m) (xs ++ news) → Fr (fun k => v.ownBlock = some k) w w' →
     (∀ k, (Value.slice A' (n + m) c').ownBlock = some k → v.ownBlock = some k ∨ w.heap.size ≤ k) → (i ≠ last → S w') ∧ wpMix P ops S last Q sc (a.put o.dst (.slice A' (n + m) c')) w') : wpMix P ops S last Q ((false, i) :: sc) a w := by
 refine ⟨o, hop, ?_⟩
 rw [if_pos hw]
 exact wp_app E w s x ho base v n xs hs hown X m c news hx hr h1 h63 hbytes hbase h
set_option maxHeartbeats 2000000 in
theorem whash_any {base g : Nat} {w : World} {xs : List Int} (h : WrIn w base g xs) (ys : List Int) (hy : ys.length = 32) (hb : Byt ys) (hl : xs.length + 32 ≤ 140737488355328) :
    Calls Tryz.prog 164 #[.pointer (some ⟨g, 0, none⟩), .agg (secA ys)] w fun e w' => e = .returned (.pointer (some ⟨g, 0, none⟩)) ∧ WrIn w' base g (xs ++ ys) ∧ FW base g w w' := by
 have H := Lib.hid h
 have HB := Lib.hid (And.intro hy hb)
 obtain ⟨TA, hTA⟩ : ∃ TA, TA = secA ys := ⟨_, rfl⟩
 have HTA := Lib.hid hTA
 rw [← hTA]
 clear h hy hb hTA
 go_enter Tryz.func164, Tryz.ntmps164
 go_upto_region 1 with fail
 obtain ⟨w1, hw1⟩ : ∃ w1 : World, w1 = w.alloc (.cells TA 60) := ⟨_, rfl⟩
 obtain ⟨b3, hb3⟩ : ∃ b3, b3 = w.heap.size := ⟨_, rfl⟩
 have HN1 : Hid (New w w1) := Lib.hid (by rw [hw1]; exact New.al (New.refl _) _)
 have HB3 : Hid (Blk w1 b3 60 (secA ys)) := Lib.hid (by rw [hw1, hb3, HTA.out]; exact Blk.new _ _ _)
 have HR : Hid (Rd (fun _ => True) w1 1 (some ⟨b3, 0, none⟩) 32 (u8s ys)) := Lib.hid (by
  have h := Rd.ofBlk (p := fun _ => True) HB3.out 1 32 (by rw [secA_size, HB.out.1]) trivial
  rw [secA_list] at h
  exact h)
 rw [← hw1, ← hb3]
 clear hw1 hb3
 go_wp2_with fail
 refine (wraw_any (H.out.new HN1.out) (some ⟨b3, 0, none⟩) 32 32 ys HR.out HB.out.2 hl).mono ?_
 rintro e w2 ⟨rfl, hW2, hF2⟩
 have HW2 := Lib.hid hW2
 have HF2 := Lib.hid hF2
 clear hW2 hF2
 go_wp2_with fail
 go_ret
 exact ⟨rfl, HW2.out, (FW.new HN1.out).tr HF2.out⟩
theorem rhash_ok {s : Rs} (h0 : s.e = 0) (hl : 32 ≤ s.xs.length) : s.raw 32 = (s.xs.take 32, ⟨s.xs.drop 32, 0⟩) := by
 unfold Rs.raw Rs.left
 rw [if_pos h0, if_neg (by omega), h0]
set_option maxHeartbeats 2000000 in
set_option maxRecDepth 100000 in
theorem rhash_any {g : Nat} {s : Rs} {w : World} (h : RdIn w g s) (h0 : s.e = 0) (hl : 32 ≤ s.xs.length) :
    Calls Tryz.prog 152 #[.pointer (some ⟨g, 0, none⟩)] w fun x w' => x = .returned (.agg (secA (s.xs.take 32))) ∧ RdIn w' g ⟨s.xs.drop 32, 0⟩ ∧ Fr (fun k => k = g) w w' := by
 have H := Lib.hid h
 have HS := Lib.hid (rhash_ok h0 hl)
 have HL : Hid ((s.xs.take 32).length = 32) := Lib.hid (by rw [List.length_take]; omega)
 have HG := Lib.hid h.lt
 obtain ⟨ys, hys⟩ : ∃ ys, ys = s.xs.take 32 := ⟨_, rfl⟩
 rw [← hys] at HL HS ⊢
 clear h h0 hl hys
 go_enter Tryz.func152, Tryz.ntmps152
 go_upto_region 2 with fail
 obtain ⟨w1, hw1⟩ : ∃ w1 : World, w1 = (w.alloc (.cells #[.int .u8 0, .int .u8 0, .int .u8 0, .int .u8 0, .int .u8 0, .int .u8 0, .int .u8 0, .int .u8 0, .int .u8 0, .int .u8 0, .int .u8 0, .int .u8 0, .int .u8 0, .int .u8 0, .int .u8 0, .int .u8 0, .int .u8 0, .int .u8 0, .int .u8 0, .int .u8 0, .int .u8 0, .int .u8 0, .int .u8 0, .int .u8 0, .int .u8 0, .int .u8 0, .int .u8 0, .int .u8 0, .int .u8 0, .int .u8 0, .int .u8 0, .int .u8 0] 60)).alloc (.cells #[.int .u8 0, .int .u8 0, .int .u8 0, .int .u8 0, .int .u8 0, .int .u8 0, .int .u8 0, .int .u8 0, .int .u8 0, .int .u8 0, .int .u8 0, .int .u8 0, .int .u8 0, .int .u8 0, .int .u8 0, .int .u8 0, .int .u8 0, .int .u8 0, .int .u8 0, .int .u8 0, .int .u8 0, .int .u8 0, .int .u8 0, .int .u8 0, .int .u8 0, .int .u8 0, .int .u8 0, .int .u8 0, .int .u8 0, .int .u8 0, .int .u8 0, .int .u8 0] 60) := ⟨_, rfl⟩
 obtain ⟨b2, hb2⟩ : ∃ b2, b2 = w.heap.size := ⟨_, rfl⟩
 obtain ⟨b3, hb3⟩ : ∃ b3, b3 = w.heap.size + 1 := ⟨_, rfl⟩
 have hz : (#[.int .u8 0, .int .u8 0, .int .u8 0, .int .u8 0, .int .u8 0, .int .u8 0, .int .u8 0, .int .u8 0, .int .u8 0, .int .u8 0, .int .u8 0, .int .u8 0, .int .u8 0, .int .u8 0, .int .u8 0, .int .u8 0, .int .u8 0, .int .u8 0, .int .u8 0, .int .u8 0, .int .u8 0, .int .u8 0, .int .u8 0, .int .u8 0, .int .u8 0, .int .u8 0, .int .u8 0, .int .u8 0, .int .u8 0, .int .u8 0, .int .u8 0, .int .u8 0] : Array Value) = secA (List.replicate 32 0) := by rfl
 have HN1 : Hid (New w w1) := Lib.hid (by rw [hw1]; exact New.al (New.al (New.refl _) _) _)
 have HB2 : Hid (Blk w1 b2 60 (secA (List.replicate 32 0))) := Lib.hid (by rw [hw1, hb2, ← hz]; exact (Blk.new _ _ _).alloc _)
 have HB3 : Hid (Blk w1 b3 60 (u8s (List.replicate 32 0)).toArray) := Lib.hid (by rw [hw1, hb3]; show Blk _ _ _ (secA _); rw [← hz]; exact Blk.new' _ _ _ (by simp))
 have HZ : Hid (b2 = w.heap.size ∧ b3 = w.heap.size + 1 ∧ b2 ≠ g ∧ b3 ≠ g ∧ g < w.heap.size) := Lib.hid ⟨hb2, hb3, by have := HG.out; omega, by have := HG.out; omega, HG.out⟩
 rw [← hw1, ← hb3, ← hb2]
 clear hw1 hb2 hb3 hz
 refine wp_region_mixH (fun _ => True) [(true, 0), (true, 1), (false, 2), (false, 3)] (by kernel_rfl) (by kernel_rfl) trivial (fun hne => ?_)
 iterate 2 (refine mix_take (o := ⟨_, _, _, _, _, _⟩) rfl (fun K hK => ?_); go_simp; refine hK _ ?_; clear hK K)
 refine mix_act (o := ⟨_, _, _, _, _, _⟩) rfl (fun K hK => ?_) (.inl rfl)
 go_simp
 refine (rraw_any (w := w1.drew) (H.out.new (HN1.out.tr (New.dr (New.refl w1)))) 32 (by omega)).mono ?_
 rintro e w2 ⟨⟨A, c, rfl, hO⟩, hR2, hF2⟩
 rw [HS.out] at hO hR2
 rw [HS.out]
 dsimp only at hO hR2 ⊢
 rw [HL.out] at hO ⊢
 have HO := Lib.hid hO
 have HR2 := Lib.hid hR2
 have HF2 := Lib.hid (Fr.ofDrew hF2)
 clear hO hR2 hF2
 have HB22 : Hid (Blk w2 b2 60 (secA (List.replicate 32 0))) := Lib.hid (HB2.out.fr HF2.out (by have := HZ.out; omega))
 have HB32 : Hid (Blk w2 b3 60 (u8s (List.replicate 32 0)).toArray) := Lib.hid (HB3.out.fr HF2.out (by have := HZ.out; omega))
 go_simp
 refine hK.out _ _ (fun _ => trivial) ?_
 clear hK K
 have HSP : Hid ((splice (u8s (List.replicate 32 0)) 0 (u8s ys)).toArray = secA ys) := Lib.hid (by
  unfold splice secA
  rw [List.take_zero, List.nil_append, Nat.zero_add, u8s_len, HL.out, List.drop_eq_nil_of_le (by rw [u8s_len, List.length_replicate]; exact Nat.le_refl _), List.append_nil])
 have HSZ : Hid ((secA ys).size = 32) := Lib.hid (by rw [secA_size, HL.out])
 refine mix_copyF (o := ⟨_, _, _, _, _, _⟩) (q := fun k => (Value.slice A 32 c).ownBlock = some k) rfl rfl (.tmp 4) (.tmp 6) 84 84 rfl 5 Tryz.underlying84 rfl b3 0 32 32 A 32 c rfl rfl (u8s (List.replicate 32 0)) 60 HB32.out (u8s ys) (by rw [u8s_len, HL.out]; rfl) ⟨32, u8s ys, Rd.own HO.out rfl, List.take_length⟩ (by rw [u8s_len, u8s_len, HL.out, List.length_replicate]; decide) (u8s_one _) ?_
 intro w3 hb3 hf3
 rw [HSP.out] at hb3
 have HB33 := Lib.hid hb3
 have HF3 := Lib.hid hf3
 have HB23 : Hid (Blk w3 b2 60 (secA (List.replicate 32 0))) := Lib.hid (HB22.out.fr hf3 (by have := HZ.out; omega))
 clear hb3 hf3
 refine ⟨fun _ => trivial, ?_⟩
 refine mix_done ?_
 go_wp2_with (first
  | ((with_reducible refine atOp ⟨some 8, .load _ _, _, _, _, _⟩ ?_); refine wpList_load_any rfl _ rfl Tryz.underlying60 rfl (by rw [HSZ.out]; rfl) rfl HB33.out ?_)
  | ((with_reducible refine atOp ⟨none, .store 60 (.tmp 2) _, _, _, _, _⟩ ?_); refine wpList_store_any rfl (.tmp 2) (.tmp 8) rfl (by rw [HSZ.out]; rfl) rfl rfl HB23.out (by rw [HSZ.out, secA_size, List.length_replicate]) (secA_one _) ?_; intro w4 hb4 hf4; have HB4 := Lib.hid hb4; have HF4 := Lib.hid hf4; clear hb4 hf4))
 have HR4 : Hid (RdIn w4 g ⟨s.xs.drop 32, 0⟩) := Lib.hid ((HR2.out.fr HF3.out (by have := HZ.out; omega) (fun k hk => hk ▸ IsT.not_blk HB32.out (by decide))).fr HF4.out (by have := HZ.out; omega) (fun k hk => hk ▸ IsT.not_blk HB23.out (by decide)))
 have HFF : Hid (Fr (fun k => k = g) w w4) := Lib.hid ((((HN1.out.toFr _).trans HF2.out).trans' HF3.out (fun b hb hk => by have := HZ.out; omega)).trans' HF4.out (fun b hb hk => by have := HZ.out; omega))
 exact bodyPost_ret (v := .agg (secA ys)) (results_rowH rfl _ _ b2 _ _ rfl HB4.out Tryz.underlying60 rfl (by rw [HSZ.out]; rfl)) rfl ⟨rfl, HR4.out, HFF.out⟩
end Go.Proofs.YtmibndkofoldkaaGreatDoor
namespace Go.Proofs.YtmibndkofoldkaaGreatDoor
set_option linter.unusedVariables false
set_option linter.unusedSimpArgs false
set_option linter.constructorNameAsVariable false
open Go.RowKit Go.ChangeShapes Go.WideShapes Go.Deep
theorem fm_get {α : Type} (f : α → List Value) (k : Nat) : ∀ (L : List α) (i j : Nat) (hi : i < L.length), (∀ x ∈ L, (f x).length = k) → j < k → (L.flatMap f)[i * k + j]? = (f L[i])[j]?
 | [], i, j, hi, _, _ => by simp at hi
 | x :: L, 0, j, hi, h, hj => by
  rw [List.flatMap_cons, Nat.zero_mul, Nat.zero_add, List.getElem?_append_left (by rw [h x (by simp)]; exact hj)]; rfl
 | x :: L, i + 1, j, hi, h, hj => by
  have hx := h x (by simp)
  rw [List.flatMap_cons, List.getElem?_append_right (by rw [hx, Nat.succ_mul]; omega), hx]
  have : (i + 1) * k + j - k = i * k + j := by rw [Nat.succ_mul]; omega
  rw [this, fm_get f k L i j (by simpa using hi) (fun y hy => h y (by simp [hy])) hj]; rfl
section
variable {H : Type} {enc : TypeId × Value → H} {P : Program} {w : World}
theorem field_at {ts : TypeId} {fs : Array Field} (hs : P.underlying ts = some (.struct fs)) {sp : Nat → Bool} {base : Nat} {held : Bool} {m : Nat} {cs : List Value} {y : DataW H × List MemPlace} (h : DataW.trod enc P w base sp held m ts cs = some y) {j : Nat} {fd : Field} (hf : fs[j]? = some fd) (hc : P.cellsOf fd.type = 1) (hlt : fd.offset < cs.length) :
    ∃ n z, DataW.trod enc P w base sp held n fd.type [cs[fd.offset]] = some z := by
 obtain ⟨xs, n, _, _, _, hlen, hg⟩ := DataW.trod_struct hs h
 have := hg j fd hf
 rw [hc, List.drop_eq_getElem_cons hlt] at this
 have hj : j < xs.length := by rw [hlen]; exact (Array.getElem?_eq_some_iff.1 hf).1
 rw [List.getElem?_eq_getElem hj] at this
 exact ⟨n, _, this⟩
end
end Go.Proofs.YtmibndkofoldkaaGreatDoor
