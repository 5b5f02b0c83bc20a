/- Texts of one proof, one behind the other: TiF, TiG, WqA. No condition but each one's own. -/
import Derived.Test.YtmibndkofoldkaaGreatDoorClientNilM11
import Derived.Test.YtmibndkofoldkaaGreatDoorClientNilM13
import Derived.Test.YtmibndkofoldkaaGreatDoorClientNilM14
import Derived.Test.YtmibndkofoldkaaGreatDoorClientNilM1
import Derived.Test.YtmibndkofoldkaaGreatDoorClientNilM2
import Derived.Test.YtmibndkofoldkaaGreatDoorClientNilM10
import Derived.Test.YtmibndkofoldkaaGreatDoorClientNilM8
namespace Go.Proofs.YtmibndkofoldkaaGreatDoor
set_option linter.unusedVariables false
set_option linter.unusedSimpArgs false
set_option linter.constructorNameAsVariable false
open Go.RowKit Go.Sort
theorem take_ext {α : Type} {L M : List α} {j : Nat} (h : L.length = M.length) (hp : ∀ i (h1 : i < L.length) (h2 : i < M.length), i < j → L[i] = M[i]) (hj : L.length ≤ j) : L = M :=
 List.ext_getElem h fun i h1 h2 => hp i h1 h2 (by omega)
set_option maxHeartbeats 4000000
set_option maxRecDepth 100000
theorem equ_any {P Q : Nat → Prop} (A B : Option Addr) (n c m d : Nat) (L M : List Nat) (w : World) (hA : Rd P w 1 A n (n64s L)) (hB : Rd Q w 1 B m (n64s M)) (hn : n ≤ 100000000) :
    Calls Tryz.prog 216 #[.slice A n c, .slice B m d] w fun e w' => SaysIf (L = M) e ∧ New w w' := by
 have HLN : Hid (L.length = n ∧ M.length = m) := Lib.hid ⟨by have h1 := hA.1; rw [n64s_len] at h1; omega, by have h1 := hB.1; rw [n64s_len] at h1; omega⟩
 have HA := Lib.hid hA
 have HB := Lib.hid hB
 clear hA hB
 by_cases hnm : n = m
 rotate_left
 · have hnmi : ¬ ((n : Int) = (m : Int)) := by omega
   have HE : Hid (¬ L = M) := Lib.hid fun h => hnm (by rw [← HLN.out.1, ← HLN.out.2, h])
   clear hnm
   go_enter Tryz.func216, Tryz.ntmps216
   go_wp2_with fail
   go_ret
   exact ⟨⟨false, rfl, by simp [HE.out]⟩, New.refl w⟩
 subst hnm
 go_enter Tryz.func216, Tryz.ntmps216
 go_wp2_with fail
 go_loopw [13] (fun i wr => ∃ j : Nat, j ≤ n ∧ i = .int .i64 j ∧ Hid (∀ i (h1 : i < L.length) (h2 : i < M.length), i < j → L[i] = M[i]) ∧ Hid (New w wr)) (fun i _ => n - (intOf i).toNat)
 case atStart => exact ⟨0, Nat.zero_le _, rfl, Lib.hid (fun i h1 h2 h => absurd h (Nat.not_lt_zero _)), Lib.hid (New.refl w)⟩
 case round =>
  obtain ⟨j, hj, rfl, HS, HN⟩ := hrel
  by_cases hlt : j < n
  · as_aux_lemma =>
    obtain ⟨g, o, rfl, -, -, hrg⟩ := (HN.out.rd HA.out).out (by omega) (by omega)
    obtain ⟨g2, o2, rfl, -, -, hrg2⟩ := (HN.out.rd HB.out).out (by omega) (by omega)
    have hl : j < L.length := by have := HLN.out; omega
    have hm : j < M.length := by have := HLN.out; omega
    have ca : wr.cell? ⟨g, o + j, none⟩ = some (.int .u64 (L[j] : Nat)) := hrg j _ (by rw [n64s_get?, List.getElem?_eq_getElem hl]; rfl)
    have cb : wr.cell? ⟨g2, o2 + j, none⟩ = some (.int .u64 (M[j] : Nat)) := hrg2 j _ (by rw [n64s_get?, List.getElem?_eq_getElem hm]; rfl)
    obtain ⟨x, hx⟩ := nm L[j]
    obtain ⟨y, hy⟩ := nm M[j]
    have HX : Hid (∀ (h1 : j < L.length) (h2 : j < M.length), x = L[j] ∧ y = M[j]) := Lib.hid fun _ _ => ⟨hx, hy⟩
    have HLM := Lib.hid (And.intro hl hm)
    rw [← hx] at ca
    rw [← hy] at cb
    have hj0 : (0 : Int) ≤ (j : Int) := by omega
    have hjn : (j : Int) < (n : Int) := by omega
    clear hrg hrg2 hl hm hx hy
    by_cases hxy : x = y
    · have HXY := Lib.hid hxy
      have hxyi : ((x : Int) != (y : Int)) = false := by rw [hxy]; simp
      clear hxy
      go_wp2_with go_quiet (fail)
      go_roundw
      case rel => exact ⟨j + 1, by omega, by go_num, Lib.hid (fun i h1 h2 h => by
       by_cases hij : i < j
       · exact HS.out i h1 h2 hij
       · obtain rfl : i = j := by omega
         obtain ⟨e1, e2⟩ := HX.out h1 h2
         rw [← e1, ← e2, HXY.out]), Lib.hid (HN.out.dn _)⟩
      case measure => simp [intOf]; omega
    · have hxyi : ((x : Int) != (y : Int)) = true := by simp; omega
      have HE : Hid (¬ L = M) := Lib.hid fun h => hxy (by
       obtain ⟨e1, e2⟩ := HX.out HLM.out.1 HLM.out.2
       rw [e1, e2]
       simp only [h])
      clear hxy
      go_wp2_with go_quiet (fail)
      go_ret
      exact ⟨⟨false, rfl, by simp [HE.out]⟩, HN.out.dn _⟩
  · as_aux_lemma =>
    obtain rfl : j = n := by omega
    go_wp2_with fail
    go_ret
    exact ⟨⟨true, rfl, by simp; exact take_ext (by rw [HLN.out.1, HLN.out.2]) HS.out (by rw [HLN.out.1]; exact Nat.le_refl _)⟩, HN.out⟩
theorem eqs_any {P Q : Nat → Prop} (A B : Option Addr) (n c m d : Nat) (L M : List Sd) (w : World) (hA : Rd P w 49 A n (L.flatMap Sd.cells)) (hB : Rd Q w 49 B m (M.flatMap Sd.cells)) (hln : L.length = n ∧ M.length = m) (hk : (∀ x ∈ L, x.Ok) ∧ ∀ x ∈ M, x.Ok) (hn : n ≤ 100000000) :
    Calls Tryz.prog 217 #[.slice A n c, .slice B m d] w fun e w' => SaysIf (L = M) e ∧ New w w' := by
 have HLN := Lib.hid hln
 have HA := Lib.hid hA
 have HB := Lib.hid hB
 have HK := Lib.hid hk
 clear hA hB hln hk
 by_cases hnm : n = m
 rotate_left
 · have hnmi : ¬ ((n : Int) = (m : Int)) := by omega
   have HE : Hid (¬ L = M) := Lib.hid fun h => hnm (by rw [← HLN.out.1, ← HLN.out.2, h])
   clear hnm
   go_enter Tryz.func217, Tryz.ntmps217
   go_wp2_with fail
   go_ret
   exact ⟨⟨false, rfl, by simp [HE.out]⟩, New.refl w⟩
 subst hnm
 go_enter Tryz.func217, Tryz.ntmps217
 go_wp2_with fail
 go_loopw [13] (fun i wr => ∃ j : Nat, j ≤ n ∧ i = .int .i64 j ∧ Hid (∀ i (h1 : i < L.length) (h2 : i < M.length), i < j → L[i] = M[i]) ∧ Hid (New w wr)) (fun i _ => n - (intOf i).toNat)
 case atStart => exact ⟨0, Nat.zero_le _, rfl, Lib.hid (fun i h1 h2 h => absurd h (Nat.not_lt_zero _)), Lib.hid (New.refl w)⟩
 case round =>
  obtain ⟨j, hj, rfl, HS, HN⟩ := hrel
  by_cases hlt : j < n
  · as_aux_lemma =>
    obtain ⟨g, o, hl, rfl, -, -, hrg⟩ := sd_row HK.out.1 (HN.out.rd HA.out) hlt
    obtain ⟨g2, o2, hm, rfl, -, -, hrg2⟩ := sd_row HK.out.2 (HN.out.rd HB.out) hlt
    have hxo := HK.out.1 L[j] (List.getElem_mem _)
    have hyo := HK.out.2 M[j] (List.getElem_mem _)
    obtain ⟨x, hx⟩ := nm L[j]
    obtain ⟨y, hy⟩ := nm M[j]
    have HX : Hid (∀ (h1 : j < L.length) (h2 : j < M.length), x = L[j] ∧ y = M[j]) := Lib.hid fun _ _ => ⟨hx, hy⟩
    have HLM := Lib.hid (And.intro hl hm)
    rw [← hx] at hrg hxo
    rw [← hy] at hrg2 hyo
    have HSS : Hid (wr.drew.rangeAt g (o + j * 49) x.cells ∧ wr.drew.rangeAt g2 (o2 + j * 49) y.cells) := Lib.hid ⟨New.range (New.dr (New.refl wr)) hrg, New.range (New.dr (New.refl wr)) hrg2⟩
    have HNE := Lib.hid (fun w => neq_sd hxo hyo w)
    have HSZ := Lib.hid (And.intro (Sd.len hxo) (Sd.len hyo))
    have hj0 : (0 : Int) ≤ (j : Int) := by omega
    have hjn : (j : Int) < (n : Int) := by omega
    obtain ⟨XC, hXC⟩ := nm x.cells
    obtain ⟨YC, hYC⟩ := nm y.cells
    rw [← hXC, ← hYC] at HSS HSZ
    simp only [← hXC, ← hYC] at HNE
    clear hrg hrg2 hl hm hx hy hxo hyo hXC hYC
    obtain ⟨b, hb⟩ := nm (decide (x = y))
    simp only [← hb] at HNE
    have HBB := Lib.hid hb
    clear hb
    go_upto_region 6 with fail
    refine wp_region_mixH (fun w' => w'.rangeAt g (o + j * 49) XC ∧ w'.rangeAt g2 (o2 + j * 49) YC) [(true, 0), (true, 1), (true, 2), (true, 3), (true, 4), (true, 5), (true, 6), (true, 7), (true, 8)] (by kernel_rfl) (by kernel_rfl) HSS.out (fun hne => ?_)
    iterate 3 (refine mix_take (o := ⟨_, _, _, _, _, _⟩) rfl (fun K hK => ?_); go_simp; refine hK _ ?_; clear hK K)
    refine mix_take_row (o := ⟨_, _, _, _, _, _⟩) (cs := XC) rfl rfl _ rfl rfl (fun w' h => h.1) Tryz.underlying159 rfl (by rw [HSZ.out.1]; rfl) ?_
    iterate 3 (refine mix_take (o := ⟨_, _, _, _, _, _⟩) rfl (fun K hK => ?_); go_simp; refine hK _ ?_; clear hK K)
    refine mix_take_row (o := ⟨_, _, _, _, _, _⟩) (cs := YC) rfl rfl _ rfl rfl (fun w' h => h.2) Tryz.underlying159 rfl (by rw [HSZ.out.2]; rfl) ?_
    have hq := HNE.out
    refine mix_take (o := ⟨_, _, _, _, _, _⟩) rfl (fun K hK => ?_)
    go_simp
    refine hK _ ?_
    clear hK K hq
    refine mix_done ?_
    cases b
    rotate_left
    · have HXY : Hid (x = y) := Lib.hid (by have := HBB.out; simpa using this)
      go_wp2_with fail
      go_roundw
      case rel => exact ⟨j + 1, by omega, by go_num, Lib.hid (fun i h1 h2 h => by
       by_cases hij : i < j
       · exact HS.out i h1 h2 hij
       · obtain rfl : i = j := by omega
         obtain ⟨e1, e2⟩ := HX.out h1 h2
         rw [← e1, ← e2, HXY.out]), Lib.hid (HN.out.dr)⟩
      case measure => simp [intOf]; omega
    · have HE : Hid (¬ L = M) := Lib.hid fun h => by
       obtain ⟨e1, e2⟩ := HX.out HLM.out.1 HLM.out.2
       have := HBB.out
       rw [e1, e2] at this
       simp [h] at this
      go_wp2_with fail
      go_ret
      exact ⟨⟨false, rfl, by simp [HE.out]⟩, HN.out.dr⟩
  · as_aux_lemma =>
    obtain rfl : j = n := by omega
    go_wp2_with fail
    go_ret
    exact ⟨⟨true, rfl, by simp; exact take_ext (by rw [HLN.out.1, HLN.out.2]) HS.out (by rw [HLN.out.1]; exact Nat.le_refl _)⟩, HN.out⟩
end Go.Proofs.YtmibndkofoldkaaGreatDoor
namespace Go.Proofs.YtmibndkofoldkaaGreatDoor
set_option linter.unusedVariables false
set_option linter.unusedSimpArgs false
set_option linter.constructorNameAsVariable false
open Go.RowKit Go.Sort
theorem tk_eq (a b : Tk) : a = b ↔ a.prev = b.prev ∧ a.epoch = b.epoch ∧ a.tag = b.tag ∧ a.o.kind = b.o.kind ∧ a.o.blocks = b.o.blocks ∧ a.o.idx = b.o.idx ∧ a.o.sl = b.o.sl := by
 constructor
 · rintro rfl; simp
 · obtain ⟨a1, a2, ⟨a3, a4, a5, a6⟩, a7⟩ := a
   obtain ⟨b1, b2, ⟨b3, b4, b5, b6⟩, b7⟩ := b
   rintro ⟨h1, h2, h3, h4, h5, h6, h7⟩
   simp only at h1 h2 h3 h4 h5 h6 h7
   subst h1 h2 h3 h4 h5 h6 h7
   rfl
set_option maxHeartbeats 4000000
set_option maxRecDepth 100000
theorem tsame_any {P Q P' Q' : Nat → Prop} {x y : Tm} (w : World) (hx : x.In P Q w) (hy : y.In P' Q' w) :
    Calls Tryz.prog 192 #[.agg x.cells.toArray, .agg y.cells.toArray] w fun e w' => SaysIf (x.tk = y.tk) e ∧ New w w' := by
 have HEU := Lib.hid (fun W (hN : New w W) => equ_any x.o.A y.o.A x.o.n x.o.c y.o.n y.o.c x.o.o.idx y.o.o.idx W (hN.rd hx.o.idx) (hN.rd hy.o.idx) hx.o.nn)
 have HES := Lib.hid (fun W (hN : New w W) => eqs_any x.o.B y.o.B x.o.m x.o.d y.o.m y.o.d x.o.o.sl y.o.o.sl W (hN.rd hx.o.sl) (hN.rd hy.o.sl) ⟨hx.o.lm, hy.o.lm⟩ ⟨hx.o.ok.sl, hy.o.ok.sl⟩ hx.o.mm)
 have HTT : Hid (∀ W, (Op.equalIn 10000 22 (.agg (u8s x.tag).toArray) (.agg (u8s y.tag).toArray)).run Tryz.prog W = .ok (decide (x.tag = y.tag)) W) := Lib.hid fun W => run_equalIn_sec 9998 Tryz.underlying22 Tryz.underlying5 (fun w => by first | exact Tryz.sizeOf5 w | kernel_rfl) hx.ok.tag hy.ok.tag hx.ok.tb hy.ok.tb W
 have HIF : Hid (x.tk = y.tk ↔ x.prev = y.prev ∧ x.epoch = y.epoch ∧ x.tag = y.tag ∧ x.o.o.kind = y.o.o.kind ∧ x.o.o.blocks = y.o.o.blocks ∧ x.o.o.idx = y.o.o.idx ∧ x.o.o.sl = y.o.o.sl) := Lib.hid (tk_eq _ _)
 have HRX : Hid (∀ W b, Blk W b 80 x.cells.toArray → W.rangeAt b 2 x.o.cells ∧ W.rangeAt b 6 (u8s x.tag) ∧ W.cell? ⟨b, 0, none⟩ = some (.int .u64 x.prev) ∧ W.cell? ⟨b, 1, none⟩ = some (.int .u64 x.epoch)) := Lib.hid fun W b hb => ⟨Tm.oRange hb, fun j v hv => by rw [hb.cell, List.getElem?_toArray, Tm.tagRange hb]; exact hv, by rw [hb.cell]; rfl, by rw [hb.cell]; rfl⟩
 have HRY : Hid (∀ W b, Blk W b 80 y.cells.toArray → W.rangeAt b 2 y.o.cells ∧ W.rangeAt b 6 (u8s y.tag) ∧ W.cell? ⟨b, 0, none⟩ = some (.int .u64 y.prev) ∧ W.cell? ⟨b, 1, none⟩ = some (.int .u64 y.epoch)) := Lib.hid fun W b hb => ⟨Tm.oRange hb, fun j v hv => by rw [hb.cell, List.getElem?_toArray, Tm.tagRange hb]; exact hv, by rw [hb.cell]; rfl, by rw [hb.cell]; rfl⟩
 have HTL : Hid ((u8s x.tag).length = 16 ∧ (u8s y.tag).length = 16) := Lib.hid ⟨by rw [u8s_len]; exact hx.ok.tag, by rw [u8s_len]; exact hy.ok.tag⟩
 have HOX : Hid (∀ W b, Blk W b 78 x.o.cells.toArray → W.cell? ⟨b, 0, none⟩ = some (.int .i64 x.o.o.kind) ∧ W.cell? ⟨b, 1, none⟩ = some (.slice x.o.A x.o.n x.o.c) ∧ W.cell? ⟨b, 2, none⟩ = some (.slice x.o.B x.o.m x.o.d) ∧ W.cell? ⟨b, 3, none⟩ = some (.int .u64 x.o.o.blocks)) := Lib.hid fun W b hb => ⟨by rw [hb.cell]; rfl, by rw [hb.cell]; rfl, by rw [hb.cell]; rfl, by rw [hb.cell]; rfl⟩
 have HOY : Hid (∀ W b, Blk W b 78 y.o.cells.toArray → W.cell? ⟨b, 0, none⟩ = some (.int .i64 y.o.o.kind) ∧ W.cell? ⟨b, 1, none⟩ = some (.slice y.o.A y.o.n y.o.c) ∧ W.cell? ⟨b, 2, none⟩ = some (.slice y.o.B y.o.m y.o.d) ∧ W.cell? ⟨b, 3, none⟩ = some (.int .u64 y.o.o.blocks)) := Lib.hid fun W b hb => ⟨by rw [hb.cell]; rfl, by rw [hb.cell]; rfl, by rw [hb.cell]; rfl, by rw [hb.cell]; rfl⟩
 have HOL : Hid (x.o.cells.length = 4 ∧ y.o.cells.length = 4 ∧ x.o.cells.toArray.all (·.oneCell') = true ∧ y.o.cells.toArray.all (·.oneCell') = true) := Lib.hid ⟨rfl, rfl, Om.one _, Om.one _⟩
 generalize x.tk = tx at HIF ⊢
 generalize y.tk = ty at HIF ⊢
 generalize x.cells = TX at HRX ⊢
 generalize y.cells = TY at HRY ⊢
 generalize x.o.cells = OX at HRX HOX HOL
 generalize y.o.cells = OY at HRY HOY HOL
 generalize x.prev = xp at HIF HRX
 generalize y.prev = yp at HIF HRY
 generalize x.epoch = xe at HIF HRX
 generalize y.epoch = ye at HIF HRY
 obtain ⟨bt, hbt⟩ := nm (decide (x.tag = y.tag))
 simp only [← hbt] at HTT
 have HBT : Hid (x.tag = y.tag ↔ bt = true) := Lib.hid (by rw [hbt, decide_eq_true_iff])
 rw [HBT.out] at HIF
 generalize u8s x.tag = UX at HTT HRX HTL
 generalize u8s y.tag = UY at HTT HRY HTL
 generalize x.o.o.kind = xk at HIF HOX
 generalize y.o.o.kind = yk at HIF HOY
 generalize x.o.o.blocks = xb at HIF HOX
 generalize y.o.o.blocks = yb at HIF HOY
 generalize x.o.o.idx = xi at HIF HEU
 generalize y.o.o.idx = yi at HIF HEU
 generalize x.o.o.sl = xs at HIF HES
 generalize y.o.o.sl = ys at HIF HES
 generalize x.o.A = xA at HEU HOX
 generalize y.o.A = yA at HEU HOY
 generalize x.o.n = xn at HEU HOX
 generalize y.o.n = yn at HEU HOY
 generalize x.o.c = xc at HEU HOX
 generalize y.o.c = yc at HEU HOY
 generalize x.o.B = xB at HES HOX
 generalize y.o.B = yB at HES HOY
 generalize x.o.m = xm at HES HOX
 generalize y.o.m = ym at HES HOY
 generalize x.o.d = xd at HES HOX
 generalize y.o.d = yd at HES HOY
 clear hx hy hbt HBT
 go_enter Tryz.func192, Tryz.ntmps192
 go_upto_region 1 with fail
 obtain ⟨w1, hw1⟩ := nm ((w.alloc (.cells TX.toArray 80)).alloc (.cells TY.toArray 80))
 obtain ⟨b2, hb2⟩ := nm w.heap.size
 obtain ⟨b3, hb3⟩ := nm (w.heap.size + 1)
 have HN : Hid (New w w1) := Lib.hid (by rw [hw1]; exact New.al (New.al (New.refl _) _) _)
 have HB2 : Hid (Blk w1 b2 80 TX.toArray) := Lib.hid (by rw [hw1, hb2]; exact (Blk.new _ _ _).alloc _)
 have HB3 : Hid (Blk w1 b3 80 TY.toArray) := Lib.hid (by rw [hw1, hb3]; exact Blk.new' _ _ _ (by simp))
 rw [← hw1, ← hb3, ← hb2]
 clear hw1 hb2 hb3
 apply wp_join2 (α := Nat) (β := Nat) (fun x y w' => New w1 w' ∧ Blk w' x 78 OX.toArray ∧ Blk w' y 78 OY.toArray)
 case h1 =>
  intro K' hK'
  refine wp_region_tree (New w1) (.take 0 (.take 1 (.take 2 (.take 3 (.two 4 (.act 5 (.act 6 (.act 7 .done))) 5 (.act 4 (.act 6 (.act 7 .done)))))))) (by kernel_rfl) (by kernel_rfl) (New.dr (New.refl w1)) (fun hne => ?_)
  (refine tree_take (o := ⟨_, _, _, _, _, _⟩) rfl (fun K hK => ?_); go_simp; refine hK _ ?_; clear hK K)
  refine tree_take_row (o := ⟨_, _, _, _, _, _⟩) (cs := OX) rfl rfl _ rfl rfl (fun w' h => (HRX.out w' b2 (h.blk HB2.out)).1) Tryz.underlying78 rfl (by rw [HOL.out.1]; rfl) ?_
  (refine tree_take (o := ⟨_, _, _, _, _, _⟩) rfl (fun K hK => ?_); go_simp; refine hK _ ?_; clear hK K)
  refine tree_take_row (o := ⟨_, _, _, _, _, _⟩) (cs := OY) rfl rfl _ rfl rfl (fun w' h => (HRY.out w' b3 (h.blk HB3.out)).1) Tryz.underlying78 rfl (by rw [HOL.out.2.1]; rfl) ?_
  refine ⟨?_, ?_⟩
  · refine act_alloc (o := ⟨_, _, _, _, _, _⟩) rfl rfl rfl orderInfo ?_
    intro g5 w5 h5 hB5 hN5
    have hN5 : New w1 w5 := (New.dr (New.refl w1)).tr hN5
    refine ⟨hN5, ?_⟩
    simp only [Act.put, List.setIfInBounds_toArray, List.set_cons_zero, List.set_cons_succ]
    refine tree_act_alloc (o := ⟨_, _, _, _, _, _⟩) rfl rfl rfl orderInfo ?_
    intro g6 w6 h6 hB6 hN6
    have hN16 : New w1 w6 := hN5.tr hN6
    refine ⟨hN16, ?_⟩
    simp only [Act.put, List.setIfInBounds_toArray, List.set_cons_zero, List.set_cons_succ]
    have hlt := hB5.lt
    refine act_store (o := ⟨_, _, _, _, _, _⟩) (cs := OX.toArray) (cs0 := o0.toArray) rfl rfl (.tmp 5) (.tmp 8) rfl (by rw [List.size_toArray, HOL.out.1]; rfl) rfl rfl (hN6.blk hB5) (by rw [List.size_toArray, List.size_toArray, HOL.out.1]; rfl) HOL.out.2.2.1 ?_
    intro w7 hB7 hF7
    have hz1 := hN5.size
    have hz0 : w1.heap.size ≤ g5 := by rw [h5]; exact Nat.le_refl _
    have hN17 : New w1 w7 := hN16.fr hF7 (fun k hk => by omega)
    refine ⟨hN17, ?_⟩
    simp only [Act.put, List.setIfInBounds_toArray, List.set_cons_zero, List.set_cons_succ]
    refine act_store (o := ⟨_, _, _, _, _, _⟩) (cs := OY.toArray) (cs0 := o0.toArray) rfl rfl (.tmp 6) (.tmp 10) rfl (by rw [List.size_toArray, HOL.out.2.1]; rfl) rfl rfl (hB6.fr hF7 (by omega)) (by rw [List.size_toArray, List.size_toArray, HOL.out.2.1]; rfl) HOL.out.2.2.2 ?_
    intro w8 hB8 hF8
    have hN18 : New w1 w8 := hN17.fr hF8 (fun k hk => by omega)
    refine ⟨hN18, ?_⟩
    simp only [Act.put, List.setIfInBounds_toArray, List.set_cons_zero, List.set_cons_succ]
    refine tree_done ?_
    exact hK'.out g5 g6 w8 ⟨hN18, hB7.fr hF8 (by omega), hB8⟩
  · refine act_alloc (o := ⟨_, _, _, _, _, _⟩) rfl rfl rfl orderInfo ?_
    intro g6 w5 h5 hB5 hN5
    have hN5 : New w1 w5 := (New.dr (New.refl w1)).tr hN5
    refine ⟨hN5, ?_⟩
    simp only [Act.put, List.setIfInBounds_toArray, List.set_cons_zero, List.set_cons_succ]
    refine tree_act_alloc (o := ⟨_, _, _, _, _, _⟩) rfl rfl rfl orderInfo ?_
    intro g5 w6 h6 hB6 hN6
    have hN16 : New w1 w6 := hN5.tr hN6
    refine ⟨hN16, ?_⟩
    simp only [Act.put, List.setIfInBounds_toArray, List.set_cons_zero, List.set_cons_succ]
    have hlt := hB5.lt
    refine act_store (o := ⟨_, _, _, _, _, _⟩) (cs := OX.toArray) (cs0 := o0.toArray) rfl rfl (.tmp 5) (.tmp 8) rfl (by rw [List.size_toArray, HOL.out.1]; rfl) rfl rfl hB6 (by rw [List.size_toArray, List.size_toArray, HOL.out.1]; rfl) HOL.out.2.2.1 ?_
    intro w7 hB7 hF7
    have hz1 := hN5.size
    have hz0 : w1.heap.size ≤ g6 := by rw [h5]; exact Nat.le_refl _
    have hN17 : New w1 w7 := hN16.fr hF7 (fun k hk => by omega)
    refine ⟨hN17, ?_⟩
    simp only [Act.put, List.setIfInBounds_toArray, List.set_cons_zero, List.set_cons_succ]
    refine act_store (o := ⟨_, _, _, _, _, _⟩) (cs := OY.toArray) (cs0 := o0.toArray) rfl rfl (.tmp 6) (.tmp 10) rfl (by rw [List.size_toArray, HOL.out.2.1]; rfl) rfl rfl ((hN6.blk hB5).fr hF7 (by omega)) (by rw [List.size_toArray, List.size_toArray, HOL.out.2.1]; rfl) HOL.out.2.2.2 ?_
    intro w8 hB8 hF8
    have hN18 : New w1 w8 := hN17.fr hF8 (fun k hk => by omega)
    refine ⟨hN18, ?_⟩
    simp only [Act.put, List.setIfInBounds_toArray, List.set_cons_zero, List.set_cons_succ]
    refine tree_done ?_
    exact hK'.out g5 g6 w8 ⟨hN18, hB7.fr hF8 (by omega), hB8⟩
 case h2 =>
  rintro b5 b6 w4 ⟨hN4, hB5, hB6⟩
  obtain ⟨-, r2, p0, p1⟩ := HRX.out w4 b2 (hN4.blk HB2.out)
  obtain ⟨-, r3, p2, p3⟩ := HRY.out w4 b3 (hN4.blk HB3.out)
  have HR2 := Lib.hid r2
  have HR3 := Lib.hid r3
  have HN4 : Hid (New w w4) := Lib.hid (HN.out.tr hN4)
  have HOB : Hid (∀ W, New w4 W → Blk W b5 78 OX.toArray ∧ Blk W b6 78 OY.toArray) := Lib.hid fun W h => ⟨h.blk hB5, h.blk hB6⟩
  obtain ⟨x0, x1, x2, x3⟩ := HOX.out w4 b5 hB5
  obtain ⟨y0, y1, y2, y3⟩ := HOY.out w4 b6 hB6
  clear hN4 hB5 hB6 r2 r3 HB2 HB3 HN HRX HRY
  by_cases e1 : xp = yp
  rotate_left
  · have k1 : ((xp : Int) == (yp : Int)) = false := by simp; omega
    go_wp2_with fail
    go_ret
    exact ⟨⟨false, by rw [← k1]; rfl, by rw [HIF.out]; simp [e1]⟩, HN4.out⟩
  subst e1
  by_cases e2 : xe = ye
  rotate_left
  · have k1 : ((xe : Int) == (ye : Int)) = false := by simp; omega
    go_wp2_with fail
    go_ret
    exact ⟨⟨false, by rw [← k1]; rfl, by rw [HIF.out]; simp [e2]⟩, HN4.out⟩
  subst e2
  have hqt := HTT.out
  by_cases e3 : bt = true
  rotate_left
  · obtain rfl : bt = false := by simpa using e3
    go_wp2_with (first
     | ((with_reducible refine atOp ⟨some 25, .load _ _, _, _, _, _⟩ ?_); refine wpList_load_range rfl _ rfl rfl HR2.out Tryz.underlying22 rfl (by rw [HTL.out.1]; rfl) ?_)
     | ((with_reducible refine atOp ⟨some 27, .load _ _, _, _, _, _⟩ ?_); refine wpList_load_range rfl _ rfl rfl HR3.out Tryz.underlying22 rfl (by rw [HTL.out.2]; rfl) ?_))
    go_ret
    exact ⟨⟨false, rfl, by rw [HIF.out]; simp⟩, HN4.out⟩
  subst e3
  by_cases e4 : xk = yk
  rotate_left
  · have k1 : (xk == yk) = false := by simpa using e4
    go_wp2_with (first
     | ((with_reducible refine atOp ⟨some 25, .load _ _, _, _, _, _⟩ ?_); refine wpList_load_range rfl _ rfl rfl HR2.out Tryz.underlying22 rfl (by rw [HTL.out.1]; rfl) ?_)
     | ((with_reducible refine atOp ⟨some 27, .load _ _, _, _, _, _⟩ ?_); refine wpList_load_range rfl _ rfl rfl HR3.out Tryz.underlying22 rfl (by rw [HTL.out.2]; rfl) ?_))
    go_ret
    exact ⟨⟨false, by rw [← k1]; rfl, by rw [HIF.out]; simp [e4]⟩, HN4.out⟩
  subst e4
  by_cases e5 : xb = yb
  rotate_left
  · have k1 : ((xb : Int) == (yb : Int)) = false := by simp; omega
    go_wp2_with (first
     | ((with_reducible refine atOp ⟨some 25, .load _ _, _, _, _, _⟩ ?_); refine wpList_load_range rfl _ rfl rfl HR2.out Tryz.underlying22 rfl (by rw [HTL.out.1]; rfl) ?_)
     | ((with_reducible refine atOp ⟨some 27, .load _ _, _, _, _, _⟩ ?_); refine wpList_load_range rfl _ rfl rfl HR3.out Tryz.underlying22 rfl (by rw [HTL.out.2]; rfl) ?_))
    go_ret
    exact ⟨⟨false, by rw [← k1]; rfl, by rw [HIF.out]; simp [e5]⟩, HN4.out⟩
  subst e5
  go_wp2_with (first
   | ((with_reducible refine atOp ⟨some 25, .load _ _, _, _, _, _⟩ ?_); refine wpList_load_range rfl _ rfl rfl HR2.out Tryz.underlying22 rfl (by rw [HTL.out.1]; rfl) ?_)
   | ((with_reducible refine atOp ⟨some 27, .load _ _, _, _, _, _⟩ ?_); refine wpList_load_range rfl _ rfl rfl HR3.out Tryz.underlying22 rfl (by rw [HTL.out.2]; rfl) ?_))
  refine (HEU.out w4 HN4.out).mono ?_
  rintro e w5 ⟨⟨r, rfl, hr⟩, hN5⟩
  have HRR := Lib.hid hr
  obtain ⟨B5, B6⟩ := HOB.out w5 hN5
  obtain ⟨-, -, x2, -⟩ := HOX.out w5 b5 B5
  obtain ⟨-, -, y2, -⟩ := HOY.out w5 b6 B6
  have HN5 : Hid (New w w5) := Lib.hid (HN4.out.tr hN5)
  clear hr hN5 B5 B6 x0 x1 x3 y0 y1 y3 p0 p1 p2 p3 HN4 HOB hqt
  cases r
  · go_wp2_with fail
    go_ret
    exact ⟨⟨false, rfl, by rw [HIF.out, ← HRR.out]; simp⟩, HN5.out⟩
  · go_wp2_with fail
    refine (HES.out w5 HN5.out).mono ?_
    rintro e w6 ⟨⟨r, rfl, hr⟩, hN6⟩
    have HR6 := Lib.hid hr
    have HN6 : Hid (New w w6) := Lib.hid (HN5.out.tr hN6)
    clear hr hN6
    go_wp2_with fail
    go_ret
    exact ⟨⟨r, rfl, by rw [HIF.out, ← HRR.out, ← HR6.out]; simp⟩, HN6.out⟩
end Go.Proofs.YtmibndkofoldkaaGreatDoor
namespace Go.Proofs.YtmibndkofoldkaaGreatDoor
set_option linter.unusedVariables false
set_option linter.unusedSimpArgs false
set_option linter.constructorNameAsVariable false
open Go.RowKit Go.Sort Go.Maps
def tm0 : Tm := ⟨0, 0, ⟨⟨0, [], [], 0⟩, none, 0, 0, none, 0, 0⟩, List.replicate 16 0⟩
def tk0 : Tk := ⟨0, 0, ⟨0, [], [], 0⟩, List.replicate 16 0⟩
theorem tm0_tk : tm0.tk = tk0 := rfl
theorem tk0_ok : tk0.Ok := ⟨by decide, by decide, ⟨by decide, (fun x hx => by cases hx), (fun x hx => by cases hx), by decide⟩, rfl, (fun x hx => by rw [List.eq_of_mem_replicate hx]; decide)⟩
theorem tm0_in {P Q : Nat → Prop} (w : World) : tm0.In P Q w := ⟨tk0_ok, ⟨tk0_ok.o, ⟨rfl, fun h => absurd h (by decide)⟩, ⟨rfl, fun h => absurd h (by decide)⟩, by decide, by decide⟩⟩
theorem tm0_built : Tryz.prog.built 80 [] = some tm0.cells.toArray := by kernel_rfl
structure Rm where
 seq : Nat
 kind : Int
 A : Option Addr
 n : Nat
 c : Nat
 idx : List Nat
 first : Nat
 many : Int
 tk : Tm
 epoch : Nat
def Rm.cells (x : Rm) : List Value := [.int .u64 x.seq, .int .i64 x.kind, .slice x.A x.n x.c, .int .u64 x.first, .int .i64 x.many] ++ (x.tk.cells ++ [.int .u64 x.epoch])
structure Rm.In (P Q : Nat → Prop) (w : World) (x : Rm) : Prop where
 idx : Rd P w 1 x.A x.n (n64s x.idx)
 tk : x.tk.In P Q w
 nn : x.n ≤ 100000000
section
variable {P Q : Nat → Prop} {w w' : World} {x : Rm}
theorem Rm.In.new (h : x.In P Q w) (hN : New w w') : x.In P Q w' := ⟨hN.rd h.idx, h.tk.new hN, h.nn⟩
theorem Rm.In.len (h : x.In P Q w) : x.cells.length = 28 := by
 have := h.tk.len
 simp only [Rm.cells, List.length_append, List.length_cons, List.length_nil]
 omega
theorem Rm.one (x : Rm) : x.cells.toArray.all (·.oneCell') = true := by
 have h := Tm.one x.tk
 rw [← Array.all_toList] at h
 refine all_oneCell_toArray fun v hv => ?_
 unfold Rm.cells at hv
 simp only [List.mem_append, List.mem_cons, List.not_mem_nil, or_false] at hv
 rcases hv with (rfl | rfl | rfl | rfl | rfl) | hv | rfl
 · rfl
 · rfl
 · rfl
 · rfl
 · rfl
 · exact (List.all_eq_true.1 h) v hv
 · rfl
end
structure RqAt (b : Nat) (x : Rm) (w : World) : Prop where
 c0 : w.cell? ⟨b, 0, none⟩ = some (.int .u64 x.seq)
 c1 : w.cell? ⟨b, 1, none⟩ = some (.int .i64 x.kind)
 c2 : w.cell? ⟨b, 2, none⟩ = some (.slice x.A x.n x.c)
 c3 : w.cell? ⟨b, 3, none⟩ = some (.int .u64 x.first)
 c4 : w.cell? ⟨b, 4, none⟩ = some (.int .i64 x.many)
 c5 : w.rangeAt b 5 x.tk.cells
 c6 : w.cell? ⟨b, 27, none⟩ = some (.int .u64 x.epoch)
theorem RqAt.of {b T : Nat} {x : Rm} {w : World} (ht : x.tk.cells.length = 22) (h : Blk w b T x.cells.toArray) : RqAt b x w := by
 have hc : ∀ i, w.cell? ⟨b, i, none⟩ = x.cells[i]? := fun i => by rw [h.cell i, List.getElem?_toArray]
 refine ⟨hc 0, hc 1, hc 2, hc 3, hc 4, fun j v hv => ?_, ?_⟩
 · have hj : j < x.tk.cells.length := (List.getElem?_eq_some_iff.1 hv).1
   rw [hc (5 + j)]
   unfold Rm.cells
   rw [List.getElem?_append_right (by simp), List.getElem?_append_left (by simpa using hj)]
   simpa using hv
 · rw [hc 27]
   unfold Rm.cells
   rw [List.getElem?_append_right (by simp), List.getElem?_append_right (by simp; omega)]
   simp [ht]
set_option maxHeartbeats 4000000
set_option maxRecDepth 100000
theorem blank_any {P Q : Nat → Prop} {x : Tm} (w : World) (hx : x.In P Q w) :
    Calls Tryz.prog 157 #[.agg x.cells.toArray] w fun e w' => SaysIf (x.tk = tk0) e ∧ New w w' := by
 have HS := Lib.hid (fun W (hN : New w W) => tsame_any W (hx.new hN) (tm0_in (P := P) (Q := Q) W))
 have HL : Hid (x.cells.toArray.size = 22) := Lib.hid (by rw [List.size_toArray, hx.len])
 obtain ⟨XA, hXA⟩ := nm x.cells.toArray
 obtain ⟨ZA, hZA⟩ := nm tm0.cells.toArray
 have HZ : Hid (Tryz.prog.built 80 [] = some ZA) := Lib.hid (by rw [hZA]; exact tm0_built)
 rw [tm0_tk] at HS
 rw [← hXA] at HS HL ⊢
 rw [← hZA] at HS
 clear hXA hZA hx
 go_enter Tryz.func157, Tryz.ntmps157
 go_upto_region 1 with fail
 obtain ⟨b1, hb1⟩ := nm w.heap.size
 refine wp_world fun w1 hw1 => ?_
 have HN1 : Hid (New w w1) := Lib.hid (by rw [hw1.out]; exact New.al (New.refl _) _)
 have HB1 : Hid (Blk w1 b1 80 XA) := Lib.hid (by rw [hw1.out, hb1]; exact Blk.new _ _ _)
 rw [← hb1]
 clear hb1 hw1
 go_wp2_with (first
  | ((with_reducible refine atOp ⟨some 3, .load _ _, _, _, _, _⟩ ?_); refine wpList_load_any rfl _ rfl Tryz.underlying80 rfl (by rw [HL.out]; rfl) rfl HB1.out ?_)
  | ((with_reducible refine atOp ⟨some 4, .build _ _, _, _, _, _⟩ ?_); refine wpList_built rfl 80 [] rfl [] rfl ZA HZ.out ?_))
 refine (HS.out w1 HN1.out).mono ?_
 rintro e w2 ⟨⟨r, rfl, hr⟩, hN2⟩
 have HR := Lib.hid hr
 have HN2 : Hid (New w w2) := Lib.hid (HN1.out.tr hN2)
 clear hr hN2
 go_wp2_with fail
 go_ret
 exact ⟨⟨r, rfl, HR.out⟩, HN2.out⟩
theorem right_epoch {P Q : Nat → Prop} {x : Rm} (w : World) (hx : x.In P Q w) (hk : x.kind = 4 ∨ x.kind = 5) (hn : x.n = 0) (hf : x.first = 0) (hm : x.many = 0) (ht : x.tk.tk = tk0) :
    Calls Tryz.prog 121 #[.agg x.cells.toArray] w fun e w' => e = .returned (.bool true) ∧ New w w' := by
 have HB := Lib.hid (fun W (hN : New w W) => blank_any W (hx.tk.new hN))
 have HTT := Lib.hid ht
 have HOF := Lib.hid (fun W b (h : Blk W b 91 x.cells.toArray) => RqAt.of hx.tk.len h)
 have HL : Hid (x.cells.toArray.size = 28 ∧ x.tk.cells.length = 22) := Lib.hid ⟨by rw [List.size_toArray, hx.len], hx.tk.len⟩
 obtain ⟨XA, hXA⟩ := nm x.cells.toArray
 rw [← hXA] at HOF HL ⊢
 obtain ⟨TC, hTC⟩ := nm x.tk.cells
 have HTC := Lib.hid hTC
 rw [← hTC] at HB HL
 have hn' : (x.n : Int) = 0 := by omega
 have hf' : (x.first : Int) = 0 := by omega
 clear hXA hTC hx ht
 go_enter Tryz.func121, Tryz.ntmps121
 go_upto_region 1 with fail
 obtain ⟨b1, hb1⟩ := nm w.heap.size
 refine wp_world fun w1 hw1 => ?_
 have HN1 : Hid (New w w1.drew) := Lib.hid (by rw [hw1.out]; exact (New.al (New.refl _) _).dr)
 have HB1 : Hid (Blk w1.drew b1 91 XA) := Lib.hid (by rw [hw1.out, hb1]; exact (Blk.new _ _ _).drew)
 rw [← hb1]
 clear hb1 hw1
 refine wp_region_mixH (RqAt b1 x) [(true, 0), (true, 1), (true, 2), (true, 3), (true, 4), (true, 5), (true, 6), (true, 7), (true, 8), (true, 9), (true, 10), (true, 11), (true, 12), (true, 13), (true, 16), (true, 17), (true, 18), (false, 14), (true, 15), (true, 19), (true, 20), (true, 21), (true, 22)] (by kernel_rfl) (by kernel_rfl) (HOF.out _ _ HB1.out) (fun hne => ?_)
 have q2 : ∀ p : HW (RqAt b1 x), p.w.cell? ⟨b1, 2, none⟩ = some (.slice x.A x.n x.c) := fun p => p.h.c2
 have q3 : ∀ p : HW (RqAt b1 x), p.w.cell? ⟨b1, 3, none⟩ = some (.int .u64 x.first) := fun p => p.h.c3
 have q4 : ∀ p : HW (RqAt b1 x), p.w.cell? ⟨b1, 4, none⟩ = some (.int .i64 x.many) := fun p => p.h.c4
 have q6 : ∀ p : HW (RqAt b1 x), p.w.cell? ⟨b1, 27, none⟩ = some (.int .u64 x.epoch) := fun p => p.h.c6
 iterate 13 (refine mix_take (o := ⟨_, _, _, _, _, _⟩) rfl (fun K hK => ?_); go_simp; refine hK _ ?_; clear hK K)
 refine mix_take_row (cs := x.tk.cells) (o := ⟨_, _, _, _, _, _⟩) rfl rfl (.tmp 19) rfl rfl (fun w' h => h.c5) Tryz.underlying80 rfl (by rw [← HTC.out, HL.out.2]; rfl) ?_
 rw [← HTC.out]
 iterate 3 (refine mix_take (o := ⟨_, _, _, _, _, _⟩) rfl (fun K hK => ?_); go_simp; refine hK _ ?_; clear hK K)
 clear q2 q3 q4 q6
 refine mix_act (o := ⟨_, _, _, _, _, _⟩) rfl (fun K hK => ?_) (.inl rfl)
 go_simp
 refine (HB.out _ HN1.out).mono ?_
 rintro e w2 ⟨⟨r, rfl, hr⟩, hN2⟩
 obtain rfl : r = true := hr.2 HTT.out
 have HN2 : Hid (New w w2) := Lib.hid (HN1.out.tr hN2)
 have HB2 : Hid (Blk w2 b1 91 XA) := Lib.hid (hN2.blk HB1.out)
 clear hN2 hr
 go_simp
 refine hK.out _ _ (fun _ => HOF.out _ _ HB2.out) ?_
 clear hK K
 iterate 5 (refine mix_take (o := ⟨_, _, _, _, _, _⟩) rfl (fun K hK => ?_); go_simp; refine hK _ ?_; clear hK K)
 refine mix_done ?_
 have c1 : w2.cell? ⟨b1, 1, none⟩ = some (.int .i64 x.kind) := (HOF.out _ _ HB2.out).c1
 rcases hk with hk | hk
 all_goals
  rw [hk] at c1
  clear hk
  go_wp2_with fail
  go_ret
  exact ⟨rfl, HN2.out⟩
end Go.Proofs.YtmibndkofoldkaaGreatDoor
