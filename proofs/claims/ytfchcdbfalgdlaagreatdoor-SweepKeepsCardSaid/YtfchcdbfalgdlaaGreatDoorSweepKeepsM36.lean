/- Texts of one proof, one behind the other: DkJ, SwL. No condition but each one's own. -/
import Derived.Test.YtfchcdbfalgdlaaGreatDoorSweepKeepsM8
import Derived.Test.YtfchcdbfalgdlaaGreatDoorSweepKeepsM7
import Derived.OpenShut
import Derived.Test.YtfchcdbfalgdlaaGreatDoorSweepKeepsM21
import Derived.Test.YtfchcdbfalgdlaaGreatDoorSweepKeepsM19
import Derived.Test.YtfchcdbfalgdlaaGreatDoorSweepKeepsM26
namespace Go.Proofs.YtfchcdbfalgdlaaGreatDoor
set_option linter.unusedVariables false
set_option linter.unusedSimpArgs false
set_option linter.constructorNameAsVariable false
open Go.RowKit Go.WideShapes Go.ChangeShapes
section
variable {H : Type} {enc : TypeId × Value → H} {w : World}
set_option maxRecDepth 100000 in
theorem trod_bools {fuel : Nat} {v : Value} {y : DataW H × List MemPlace} (h : DataW.trod enc Tryz.prog w 0 (fun _ => true) true fuel 54 [v] = some y) (hs : Sz Tryz.prog 54 y.1) :
    ∃ (A : Option Addr) (n c : Nat) (xs : List Bool), v = .slice A n c ∧ n ≤ maxLen ∧ Rd (fun b => b < w.heap.size) w 1 A n (bools xs) := by
 obtain ⟨A, n, c, L, h1, h2, h3, h4, h5, h6, h7, -⟩ := trod_slk (k := 1) Tryz.underlying54 (fun x : Bool => [Value.bool x]) (by kernel_rfl) (by omega) (fun _ => True) (fun cs m y hl ht' _ => by
  obtain ⟨a, rfl, _⟩ := DataW.trod_bool Tryz.underlying4 ht'
  exact ⟨a, rfl, trivial⟩) h hs
 refine ⟨A, n, c, L, h1, by omega, ?_⟩
 rwa [show L.flatMap (fun x => [Value.bool x]) = bools L from List.map_eq_flatMap.symm] at h6
end
end Go.Proofs.YtfchcdbfalgdlaaGreatDoor
namespace Go.Proofs.YtfchcdbfalgdlaaGreatDoor
set_option linter.unusedVariables false
set_option linter.unusedSimpArgs false
set_option linter.constructorNameAsVariable false
open Go.RowKit Go.Maps Go.WideShapes Go.ChangeShapes
structure AW where
 kind : Int
 num : Int
 b : Sl
 bits : Int
 A2 : Option Addr
 n2 : Nat
 c2 : Nat
 keep : List Bool
def AW.cells (a : AW) : List Value := [.int .i64 a.kind, .int .i64 a.num, .slice a.b.A a.b.n a.b.c, .int .u64 a.bits, .slice a.A2 a.n2 a.c2]
structure AW.Good (w : World) (a : AW) : Prop where
 kind : (Lit.int .i64 a.kind).wf = true
 num : (Lit.int .i64 a.num).wf = true
 b : a.b.Good w
 bits : (Lit.int .u64 a.bits).wf = true
 n2 : a.n2 ≤ maxLen
 rd2 : Rd (fun b => b < w.heap.size) w 1 a.A2 a.n2 (bools a.keep)
section
variable {H : Type} {enc : TypeId × Value → H} {w : World}
set_option maxRecDepth 100000 in
theorem trod_aw {m : Nat} {cs : List Value} {y : DataW H × List MemPlace} (hl : cs.length = 5) (ht : DataW.trod enc Tryz.prog w 0 (fun _ => true) true m 56 cs = some y) (hz : Sz Tryz.prog 56 y.1) :
    ∃ a : AW, a.cells = cs ∧ a.Good w := by
 match cs, hl with
 | [c0, c1, c2, c3, c4], _ =>
  obtain ⟨_, _, t0, _⟩ := field_s (j := 0) Tryz.underlying56 ht hz rfl (by kernel_rfl) (by simp)
  obtain ⟨_, _, t1, _⟩ := field_s (j := 1) Tryz.underlying56 ht hz rfl (by kernel_rfl) (by simp)
  obtain ⟨_, _, t2, z2⟩ := field_s (j := 2) Tryz.underlying56 ht hz rfl (by kernel_rfl) (by simp)
  obtain ⟨_, _, t3, _⟩ := field_s (j := 3) Tryz.underlying56 ht hz rfl (by kernel_rfl) (by simp)
  obtain ⟨_, _, t4, z4⟩ := field_s (j := 4) Tryz.underlying56 ht hz rfl (by kernel_rfl) (by simp)
  obtain ⟨a0, e0, _, g0⟩ := DataW.trod_int Tryz.underlying3 t0
  obtain ⟨a1, e1, _, g1⟩ := DataW.trod_int Tryz.underlying3 t1
  obtain ⟨A, n, c, L, e2, h1, h2, h3, h4⟩ := open_chs t2 z2
  obtain ⟨a3, e3, _, g3⟩ := DataW.trod_int Tryz.underlying53 t3
  obtain ⟨A2, n2, cc2, keep, e4, hn2, hrd⟩ := trod_bools t4 z4
  simp at e0 e1 e2 e3 e4
  subst e0 e1 e2 e3 e4
  exact ⟨⟨a0, a1, ⟨A, n, c, L⟩, a3, A2, n2, cc2, keep⟩, rfl, g0, g1, ⟨h1, ⟨h3, h2, fun x hx => (h4 x hx).inn⟩, h4⟩, g3, hn2, hrd⟩
set_option maxRecDepth 100000 in
theorem open_aws {r : Reach} {b0 : Nat} {v : Value} {d : DataW H} {p : List MemPlace} (hv : Value.okWide Tryz.prog w r b0 47 v) (h : DataW.Trod enc Tryz.prog w 0 (fun _ => true) true 47 v d p) (hz : Sz Tryz.prog 47 d) :
    ∃ (A : Option Addr) (n c : Nat) (L : List AW), v = .slice A n c ∧ n ≤ maxLen ∧ L.length = n ∧ Rd (fun b => b < w.heap.size) w 5 A n (L.flatMap AW.cells) ∧ ∀ a ∈ L, a.Good w := by
 obtain ⟨a0, n0, c0, rfl⟩ := okWide_slice Tryz.underlying47 hv
 obtain ⟨fuel, hf⟩ := h
 obtain ⟨A, n, c, L, h1, h2, h3, h4, h5, h6, h7, -⟩ := trod_slk (k := 5) Tryz.underlying47 AW.cells (by kernel_rfl) (by omega) (fun a => a.Good w) (fun cs m y hl ht hz => trod_aw hl ht hz) hf hz
 exact ⟨A, n, c, L, h1, by omega, h5, h6, h7⟩
end
def AwSays (n : Nat) (L : List AW) (e : Ending) : Prop := ∃ b, e = .returned (.bool b) ∧ (b = false → n ≤ 25 ∧ ∀ a ∈ L, a.b.n ≤ 30)
set_option maxHeartbeats 4000000 in
set_option maxRecDepth 100000 in
theorem aw_long (A : Option Addr) (n c : Nat) (L : List AW) (w : World) (h : Rd (fun b => b < w.heap.size) w 5 A n (L.flatMap AW.cells)) (hL : L.length = n) (hn : n ≤ maxLen) (hb : ∀ a ∈ L, a.Good w) :
    Calls Tryz.prog 21 #[.slice A n c] w fun e w' => AwSays n L e ∧ New w w' := by
 have HR := Lib.hid h
 have HL := Lib.hid hL
 have HB := Lib.hid hb
 unfold maxLen at hn
 clear h hL hb
 go_enter Tryz.func21, Tryz.ntmps21
 go_wp2_with fail
 go_loopw [3, 5, 7, 10] (fun s _ _ i wr => ∃ (j : Nat) (t : Int), j ≤ n ∧ i = .int .i64 j ∧ s = .int .i64 t ∧ Hid (∀ a ∈ L.take j, a.b.n ≤ 30) ∧ Hid (New w wr)) (fun s _ _ i _ => n - (intOf i).toNat)
 case atStart => exact ⟨0, 0, Nat.zero_le _, rfl, rfl, Lib.hid (fun a ha => by cases ha), Lib.hid (New.refl w)⟩
 case round =>
  obtain ⟨j, t, hj, rfl, rfl, HP, HN⟩ := hrel
  by_cases hlt : j < n
  · obtain ⟨g, o, hl, rfl, -, -, hrg⟩ := rd_row (f := AW.cells) (L := L) (fun _ => rfl) (by omega) (HN.out.rd HR.out) hlt
    have c0 : wr.cell? ⟨g, o + j * 5, none⟩ = some (.int .i64 L[j].kind) := hrg 0 _ rfl
    have c1 := hrg 1 _ rfl
    have c2 := hrg 2 _ rfl
    have c3 := hrg 3 _ rfl
    have c4 := hrg 4 _ rfl
    have HTK : Hid (L.take (j + 1) = L.take j ++ [L[j]]) := Lib.hid (List.take_succ_eq_append_getElem hl)
    have HGD := Lib.hid (HB.out _ (List.getElem_mem hl))
    generalize L[j] = a at c0 c1 c2 c3 c4 HTK HGD
    obtain ⟨kd, nm', ⟨xA, xn, xc, xL⟩, bt, yA, yn, yc, ys⟩ := a
    dsimp only at c0 c1 c2 c3 c4
    have hj0 : (0 : Int) ≤ (j : Int) := by omega
    have hjn : (j : Int) < (n : Int) := by omega
    have HLT := Lib.hid hlt
    clear hrg hl hlt
    go_upto_region 5 with fail
    refine wp_world fun w1 hw1 => ?_
    obtain ⟨b5, hb5⟩ := nm wr.heap.size
    have HB5 : Hid (Blk w1 b5 56 #[.int .i64 kd, .int .i64 nm', .slice xA xn xc, .int .u64 bt, .slice yA yn yc]) := Lib.hid (by rw [hw1.out, hb5]; exact Blk.new _ _ _)
    have HN1 : Hid (New w w1) := Lib.hid (by rw [hw1.out]; exact HN.out.al _)
    rw [← hb5]
    clear hw1 hb5 c0 c1 c2 c3 c4 HN
    have d2 : w1.cell? ⟨b5, 2, none⟩ = some (.slice xA xn xc) := HB5.out.cell 2
    have d4 : w1.cell? ⟨b5, 4, none⟩ = some (.slice yA yn yc) := HB5.out.cell 4
    go_wp2_with fail
    refine (long_any xA xn xc xL w1 ((HGD.out.b.tb).new HN1.out) HGD.out.b.nn (fun c hc => ⟨(HGD.out.b.gd c hc).kn, (HGD.out.b.gd c hc).vn⟩)).mono ?_
    rintro e w2 ⟨⟨b, rfl, -⟩, hN2⟩
    have HB52 := Lib.hid (hN2.blk HB5.out)
    have HN2 : Hid (New w w2) := Lib.hid (HN1.out.tr hN2)
    have d2 : w2.cell? ⟨b5, 2, none⟩ = some (.slice xA xn xc) := HB52.out.cell 2
    have d4 : w2.cell? ⟨b5, 4, none⟩ = some (.slice yA yn yc) := HB52.out.cell 4
    clear hN2 HB5 HN1
    cases b with
    | true =>
     go_wp2_with fail
     go_ret
     exact ⟨⟨true, rfl, fun h => by cases h⟩, HN2.out⟩
    | false =>
     by_cases h30 : 30 < xn
     · have hq2 : (30 : Int) < (xn : Int) := by omega
       have hq : decide ((30 : Int) < (xn : Int)) = true := decide_eq_true hq2
       clear h30
       go_wp2_with fail
       go_ret
       exact ⟨⟨true, rfl, fun h => by cases h⟩, HN2.out⟩
     · have hq2 : ¬ (30 : Int) < (xn : Int) := by omega
       have hq : decide ((30 : Int) < (xn : Int)) = false := decide_eq_false hq2
       have H30 := Lib.hid h30
       clear h30
       by_cases h200 : 200 < yn
       · have hr2 : (200 : Int) < (yn : Int) := by omega
         have hr : decide ((200 : Int) < (yn : Int)) = true := decide_eq_true hr2
         clear h200
         go_wp2_with fail
         go_ret
         exact ⟨⟨true, rfl, fun h => by cases h⟩, HN2.out⟩
       · have hr2 : ¬ (200 : Int) < (yn : Int) := by omega
         have hr : decide ((200 : Int) < (yn : Int)) = false := decide_eq_false hr2
         clear h200
         go_wp2_with fail
         clear hq hq2 hr hr2
         go_loopw [3, 7, 32] (fun s _ i wr => ∃ (k : Nat) (t : Int), k ≤ xn ∧ i = .int .i64 k ∧ s = .int .i64 t ∧ Hid (New w wr)) (fun s _ i _ => xn - (intOf i).toNat)
         case atStart => exact ⟨0, t, Nat.zero_le _, rfl, rfl, HN2⟩
         case round =>
          obtain ⟨k, t2, hk, rfl, rfl, HN3⟩ := hrel
          by_cases hlt : k < xn
          · obtain ⟨g2, o2, hl2, rfl, -, -, hrg⟩ := rd_row (f := Ch.cells) (L := xL) (fun _ => rfl) (by omega) (HN3.out.rd HGD.out.b.tb.rd) hlt
            have c0 : wr.cell? ⟨g2, o2 + k * 3, none⟩ = some (.slice xL[k].k.A xL[k].k.n xL[k].k.c) := hrg 0 _ rfl
            have c1 := hrg 1 _ rfl
            have c2 := hrg 2 _ rfl
            generalize xL[k] = y at c0 c1 c2
            obtain ⟨⟨a1, a2, a3, a4⟩, ⟨b1, b2, b3, b4⟩, d⟩ := y
            dsimp only at c0 c1 c2
            have hk0 : (0 : Int) ≤ (k : Int) := by omega
            have hkn : (k : Int) < (xn : Int) := by omega
            have H31 := H30.out
            have HN4 := fun (o : Obj) => Lib.hid (New.al HN3.out o)
            clear hrg hl2
            go_wp2_with fail
            go_roundw
            case rel => exact ⟨k + 1, _, by omega, by go_num, rfl, HN4 _⟩
            case measure => simp [intOf]; omega
          · have hge : ¬ (k : Int) < (xn : Int) := by omega
            clear hlt
            go_wp2_with fail
            go_roundw
            case rel => exact ⟨j + 1, _, HLT.out, by go_num, rfl, Lib.hid (by
             rw [HTK.out]
             intro a ha
             rcases List.mem_append.1 ha with ha | ha
             · exact HP.out a ha
             · rw [List.mem_singleton.1 ha]
               have := H30.out
               show xn ≤ 30
               omega), HN3⟩
            case measure => simp [intOf]; have := HLT.out; omega
  · have hjn : j = n := by omega
    subst hjn
    have HPA : Hid (∀ a ∈ L, a.b.n ≤ 30) := Lib.hid (by have := HP.out; rwa [← HL.out, List.take_length] at this)
    have hge : ¬ (j : Int) < (j : Int) := by omega
    clear hlt
    by_cases h25 : 25 < j
    · have hq2 : (25 : Int) < (j : Int) := by omega
      have hq : decide ((25 : Int) < (j : Int)) = true := decide_eq_true hq2
      clear h25
      go_wp2_with fail
      go_ret
      exact ⟨⟨true, rfl, fun h => by cases h⟩, HN.out⟩
    · have hq2 : ¬ (25 : Int) < (j : Int) := by omega
      have hq : decide ((25 : Int) < (j : Int)) = false := decide_eq_false hq2
      have H25 := Lib.hid h25
      clear h25
      go_wp2_with fail
      go_ret
      exact ⟨⟨_, rfl, fun _ => ⟨by have := H25.out; omega, HPA.out⟩⟩, HN.out⟩
end Go.Proofs.YtfchcdbfalgdlaaGreatDoor
