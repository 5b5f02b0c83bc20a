/- Texts of one proof, one behind the other: PreB, NrC, MxB, OpenA. No condition but each one's own. -/
import Derived.Test.YtdojmjglnlkmoaaDoorRecordFirstM19
import Derived.Test.YtdojmjglnlkmoaaDoorRecordFirstM6
import Derived.Test.YtdojmjglnlkmoaaDoorRecordFirstM1
import Derived.Test.YtdojmjglnlkmoaaDoorRecordFirstM11
import Derived.Test.YtdojmjglnlkmoaaDoorRecordFirstM7
import Derived.Test.YtdojmjglnlkmoaaDoorRecordFirstM15
import Derived.OpenShut
/- More acts for such a script: a slice of one element made, an append. No condition. -/
namespace Go.Proofs.YtdojmjglnlkmoaaDoor
set_option linter.unusedVariables false
set_option linter.unusedSimpArgs false
set_option linter.constructorNameAsVariable false
open Go.RowKit

section
variable {P : Program} {ops : Array Oper} {Q : Exit → Act → World → Prop} {S : World → Prop}
theorem pre_bs1 {t e : TypeId} {size bytes : Nat} (E : ElemOf P t e size bytes) (hs : size ≤ 16777216) {i : Nat} {o : Oper} {sc : List (Nat × Nat)} {a : Act} {w : World} (hop : ops[i]? = some o) (hw : Region.wanted o (yielded ops a.tmps) = true) (x : Operand)
    (ho : o.op = .buildSlice t 1 #[(0, x)]) (cs : Array Value) (hx : a.eval x = .agg cs) (hc : cs.size = size)
    (h : wpPre P ops S Q sc (a.put o.dst (.slice (some ⟨w.heap.size, 0, none⟩) 1 1)) (w.alloc (.cells cs e))) : wpPre P ops S Q ((2, i) :: sc) a w :=
  pre_act hop fun K hK => by
    rw [if_pos hw]
    unfold Oper.wp execOp
    simp only [ho, Sem.run_bind, List.map_toArray, List.map_cons, List.map_nil, hx, run_bs1 E hs (.agg cs) hc w, Result.andThen_ok]
    exact hK.out _ _ h
theorem pre_app {t e : TypeId} {size bytes : Nat} (E : ElemOf P t e size bytes) (w : World) {i : Nat} {o : Oper} {sc : List (Nat × Nat)} {a : Act} (hop : ops[i]? = some o) (hw : Region.wanted o (yielded ops a.tmps) = true) (s x : Operand)
    (ho : o.op = .call { callee := .builtin .append, args := #[s, x], argTypes := #[t, t] })
    (base : Nat) (v : Value) (n : Nat) (xs : List Value) (hs : a.eval s = v) (hown : w.ownsRow base e size v n xs)
    {p : Nat → Prop} (X : Option Addr) (m c : Nat) (news : List Value) (hx : a.eval x = .slice X m c) (hr : Rd p w size X m news) (h1 : ∀ u ∈ news, u.oneCell' = true)
    (h63 : n + m ≤ maxLen) (hbytes : (n + m) * bytes ≤ 140737488355328) (hbase : base ≤ w.heap.size)
    (h : ∀ A' c' w', w'.ownsRow base e size (.slice A' (n + m) c') (n + m) (xs ++ news) → Fr (fun k => v.ownBlock = some k) w w' →
      (∀ k, (Value.slice A' (n + m) c').ownBlock = some k → v.ownBlock = some k ∨ w.heap.size ≤ k) → wpPre P ops S Q sc (a.put o.dst (.slice A' (n + m) c')) w') : wpPre P ops S Q ((2, i) :: sc) a w :=
  pre_act hop fun K hK => by
    rw [if_pos hw]
    exact wp_app E w s x ho base v n xs hs hown X m c news hx hr h1 h63 hbytes hbase fun A' c' w' h2 h3 h4 => hK.out _ _ (h A' c' w' h2 h3 h4)
end
end Go.Proofs.YtdojmjglnlkmoaaDoor
/- The reference: the roots of volumes without written blocks. The tables of the reference's sha are as they were laid. No condition else. -/
namespace Go.Proofs.YtdojmjglnlkmoaaDoor
set_option linter.unusedVariables false
set_option linter.unusedSimpArgs false
set_option linter.constructorNameAsVariable false
open Go.RowKit Go.Sort

theorem elH : ElemOf Tryd.prog 61 43 32 32 := ElemOf.mk' (z := .agg (secA (List.replicate 32 0))) Tryd.underlying61 (by kernel_rfl) rfl (by decide)
/-- The first k roots, side by side. -/
def empF (k : Nat) : List Value := ((List.range k).map empH).flatMap u8s
theorem empF_succ (k : Nat) : empF (k + 1) = empF k ++ u8s (empH k) := by simp [empF, List.range_succ]
theorem empF_at {k m : Nat} (h : m < k) (j : Nat) (hj : j < 32) : (empF k)[m * 32 + j]? = (u8s (empH m))[j]? := by
  have := fm_get u8s 32 ((List.range k).map empH) m j (by simpa using h) (fun x hx => by
    obtain ⟨i, -, rfl⟩ := List.mem_map.1 hx
    rw [u8s_len, empH_len]) hj
  unfold empF
  rw [this]
  simp
theorem u8s_cell (xs : List Int) : ∀ u ∈ u8s xs, u.oneCell' = true := u8s_one xs
set_option maxHeartbeats 3000000
set_option maxRecDepth 100000
theorem rempties_any (w : World) (hL : RShaIn 1 0 w) : Calls Tryd.prog 22 #[] w fun e w' => ∃ A d, e = .returned (.slice A 33 d) ∧ Rd (fun k => w.heap.size ≤ k) w' 32 A 33 (empF 33) ∧ New w w' := by
  have HL := Lib.hid hL
  have HE0 : Hid (empF 1 = u8s (hsh [0]) ∧ (secA (hsh [0])).size = 32) := Lib.hid ⟨by simp [empF, empH], by rw [secA_size, hsh_len]⟩
  obtain ⟨h0, hh0⟩ : ∃ h0, h0 = hsh [0] := ⟨_, rfl⟩
  have HH0 := Lib.hid hh0
  clear hL hh0
  go_enter Tryd.func22, Tryd.ntmps22
  go_wp2_with fail
  have HR0 : Hid (Rd (fun _ => True) (w.alloc (.cells #[.int .u8 0] 5)) 1 (some ⟨w.heap.size, 0, none⟩) 1 (u8s [0])) := Lib.hid (Rd.ofBlk (p := fun _ => True) (Blk.new w 5 #[.int .u8 0]) 1 1 (by rfl) trivial)
  refine (rsum_any (some ⟨w.heap.size, 0, none⟩) 1 1 [0] _ (HL.out.new (New.al (New.refl _) _)) HR0.out (fun x hx => by simp at hx; omega) (by omega)).mono ?_
  rintro e w1 ⟨rfl, hN1⟩
  have HN1 : Hid (New w w1) := Lib.hid ((New.al (New.refl _) _).tr hN1)
  rw [← HH0.out] at HE0 ⊢
  clear hN1 HR0
  go_upto_region 2 with ((with_reducible refine atOp ⟨some 5, _, _, _, _, _⟩ ?_); refine wpList_bs1 elH (by decide) rfl (.tmp 4) rfl (secA h0) rfl HE0.out.2 ?_)
  obtain ⟨w2, hw2⟩ : ∃ w2 : World, w2 = w1.alloc (.cells (secA h0) 43) := ⟨_, rfl⟩
  obtain ⟨b2, hb2⟩ : ∃ b2, b2 = w1.heap.size := ⟨_, rfl⟩
  have HN2 : Hid (New w w2) := Lib.hid (HN1.out.tr (by rw [hw2]; exact New.al (New.refl _) _))
  have HO2 : Hid (w2.ownsRow w.heap.size 43 32 (.slice (some ⟨b2, 0, none⟩) 1 1) 1 (empF 1)) := Lib.hid (by
    have h := own_full (P := w.heap.size) (w := w2) (g := b2) (t := 43) (size := 32) (n := 1) (cs := secA h0) (by rw [hw2, hb2]; exact Blk.new _ _ _) (by rw [hb2]; exact HN1.out.size) HE0.out.2 (by decide)
    rw [secA_list, ← HE0.out.1] at h
    exact h)
  obtain ⟨bx, hbx⟩ : ∃ bx, bx = w.heap.size := ⟨_, rfl⟩
  rw [← hw2, ← hb2]
  clear hw2 hb2 hbx HN1 HE0 HH0
  go_wp2_with fail
  go_loopw [1, 2] (fun v i wr => ∃ (k : Nat) (A : Option Addr) (d : Nat), Hid (1 ≤ k ∧ k ≤ 33) ∧ v = .slice A k d ∧ i = .int .i64 (k : Int) ∧ Hid (New w wr) ∧ Hid (wr.ownsRow w.heap.size 43 32 (.slice A k d) k (empF k))) (fun _ i _ => 33 - (intOf i).toNat)
  case atStart => exact ⟨1, some ⟨b2, 0, none⟩, 1, Lib.hid (by omega), rfl, rfl, HN2, HO2⟩
  case round =>
    clear HN2 HO2
    obtain ⟨k, A, d, HK, rfl, rfl, HN, HO⟩ := hrel
    by_cases hj : k ≤ 32
    · have hlt : (k : Int) ≤ 32 := by omega
      obtain ⟨m, hm⟩ : ∃ m, k = m + 1 := ⟨k - 1, by have := HK.out; omega⟩
      have HM := Lib.hid hm
      have HK2 := Lib.hid hj
      have e1 : (k : Int) - 1 = (m : Int) := by omega
      have e2 : IntKind.i64.wrap (m : Int) = (m : Int) := IntWalk.i64_in _ (by omega)
      have e3 : IntKind.i64.wrap ((k : Int) + 1) = (k : Int) + 1 := IntWalk.i64_in _ (by omega)
      obtain ⟨g, o, hA, -, hgs, hcs⟩ := (Rd.own HO.out rfl).out (by omega) (by omega)
      subst hA
      have HRW : Hid (∀ w', New wr w' → w'.rangeAt g (o + m * 32) (u8s (empH m))) := Lib.hid (fun w' hN j v hv => by
        have hj : j < 32 := by
          have := (List.getElem?_eq_some_iff.1 hv).1
          rwa [u8s_len, empH_len] at this
        rw [Nat.add_assoc]
        exact hN.cell_ (hcs _ _ (by rw [empF_at (by omega) j hj]; exact hv)))
      have HEM : Hid ((empH m).length = 32 ∧ Byt (empH m) ∧ empH k = ndH k (empH m) (empH m) ∧ (secA (empH k)).size = 32) := Lib.hid ⟨empH_len m, empH_byt m, by rw [hm]; rfl, by rw [secA_size, empH_len]⟩
      have i1 : ¬ ((m : Int) < 0) := by omega
      have i2 : (m : Int) < (k : Int) := by omega
      clear hj hm hcs hgs
      go_wp2_with fail
      refine wp_region_pre (New wr) 12 [(1, 0), (1, 1), (1, 2), (1, 3), (1, 4), (1, 5), (0, 6), (1, 7), (1, 8), (1, 9), (1, 10), (0, 11), (2, 12), (2, 13), (2, 14), (1, 15)] (by kernel_rfl) (by kernel_rfl) (New.dr (New.refl wr)) (fun hne hnt => ?_)
      iterate 6 (refine pre_pure (o := ⟨_, _, _, _, _, _⟩) rfl (fun K hK => ?_); go_simp; refine hK _ ?_; clear hK K)
      refine pre_row (o := ⟨_, _, _, _, _, _⟩) (cs := u8s (empH m)) rfl rfl _ rfl rfl (fun w' h => HRW.out w' h) Tryd.underlying43 rfl (by rw [u8s_len, HEM.out.1]; rfl) ?_
      iterate 4 (refine pre_pure (o := ⟨_, _, _, _, _, _⟩) rfl (fun K hK => ?_); go_simp; refine hK _ ?_; clear hK K)
      refine pre_row (o := ⟨_, _, _, _, _, _⟩) (cs := u8s (empH m)) rfl rfl _ rfl rfl (fun w' h => HRW.out w' h) Tryd.underlying43 rfl (by rw [u8s_len, HEM.out.1]; rfl) ?_
      simp only [Act.put, List.setIfInBounds_toArray, List.set_cons_zero, List.set_cons_succ]
      refine pre_act (o := ⟨_, _, _, _, _, _⟩) rfl (fun K hK => ?_)
      go_simp
      refine (rjoin_any k (empH m) (empH m) wr.drew ((HL.out.new HN.out).new (New.dr (New.refl wr))) (by have := HK2.out; omega) ⟨HEM.out.1, HEM.out.2.1⟩ ⟨HEM.out.1, HEM.out.2.1⟩).mono ?_
      rintro e w4 ⟨rfl, hN4⟩
      rw [← HEM.out.2.2.1]
      have HN4 : Hid (New wr w4) := Lib.hid ((New.dr (New.refl wr)).tr hN4)
      clear hN4
      go_simp
      refine hK.out _ _ ?_
      clear hK K
      refine pre_bs1 elH (by decide) (o := ⟨_, _, _, _, _, _⟩) rfl rfl (.tmp 22) rfl (secA (empH k)) rfl HEM.out.2.2.2 ?_
      simp only [Act.put, List.setIfInBounds_toArray, List.set_cons_zero, List.set_cons_succ]
      have HN5 : Hid (New wr (w4.alloc (.cells (secA (empH k)) 43))) := Lib.hid (New.al HN4.out _)
      refine pre_app elH _ (o := ⟨_, _, _, _, _, _⟩) rfl rfl (.tmp 10) (.tmp 23) rfl w.heap.size (.slice (some ⟨g, o, none⟩) k d) k (empF k) rfl (HN5.out.own HO.out) (some ⟨w4.heap.size, 0, none⟩) 1 1 (u8s (empH k)) rfl (by
          have h := Rd.ofBlk (p := fun _ => True) (Blk.new w4 43 (secA (empH k))) 32 1 (by rw [HEM.out.2.2.2]) trivial
          rw [secA_list] at h
          exact h) (u8s_one _) (by have := HK2.out; unfold maxLen; omega) (by have := HK2.out; omega) (by have := HN.out.size; have := HN5.out.size; omega) ?_
      intro A6 d6 w6 hO6 hF6 hA6
      rw [← empF_succ] at hO6
      have HO6 := Lib.hid hO6
      have HN6 : Hid (New w w6) := Lib.hid ((HN.out.tr HN5.out).fr hF6 (fun x hx => (own_lt HO.out x hx).1))
      clear hO6 hF6 hA6
      simp only [Act.put, List.setIfInBounds_toArray, List.set_cons_zero, List.set_cons_succ]
      refine pre_pure (o := ⟨_, _, _, _, _, _⟩) rfl (fun K hK => ?_)
      go_simp
      refine hK _ ?_
      clear hK K
      refine pre_done ?_
      go_wp2_with fail
      go_roundw
      case rel => exact ⟨k + 1, A6, d6, Lib.hid (by have := HK2.out; omega), rfl, by go_num, HN6, HO6⟩
      case measure => simp [intOf]; have := HK2.out; omega
    · have hge : ¬ ((k : Int) ≤ 32) := by omega
      obtain rfl : k = 33 := by have := HK.out; omega
      clear hj
      go_wp2_with fail
      go_ret
      exact ⟨A, ⟨d, rfl⟩, (Rd.own HO.out rfl).imp (fun x hx => (own_lt HO.out x hx).1), HN.out⟩
end Go.Proofs.YtdojmjglnlkmoaaDoor
/- More takes and acts for a mixed script: a row read as an act; a struct put together. No condition. -/
namespace Go.Proofs.YtdojmjglnlkmoaaDoor
set_option linter.unusedVariables false
set_option linter.unusedSimpArgs false
set_option linter.constructorNameAsVariable false
open Go.RowKit

section
variable {P : Program} {ops : Array Oper} {Q : Exit → Act → World → Prop} {S : World → Prop} {last : Nat}
theorem mix_act_row {i : Nat} {o : Oper} {sc : List (Bool × Nat)} {a : Act} {w : World} {T : TypeId} {d : TypeDesc} {b off : Nat} {cs : List Value} (ho : ops[i]? = some o) (hw : Region.wanted o (yielded ops a.tmps) = true) (x : Operand) (hop : o.op = .load T x) (hx : a.eval x = .pointer (some ⟨b, off, none⟩))
    (hc : w.rangeAt b off cs) (hu : P.underlying T = some d) (hd : d.isRow = true) (hi : (P.info? T).map (·.size) = some cs.length) (hS : S w)
    (h : wpMix P ops S last Q sc (a.put o.dst (.agg cs.toArray)) w) : wpMix P ops S last Q ((false, i) :: sc) a w :=
  ⟨o, ho, by
    rw [if_pos hw]
    exact wp_load_mid T x hop b off hx cs d hc hu hd hi ⟨fun _ => hS, h⟩⟩
theorem mix_take_built {i : Nat} {o : Oper} {sc : List (Bool × Nat)} {a : Act} {w : World} (ho : ops[i]? = some o) (hw : Region.wanted o (yielded ops a.tmps) = true) (t : TypeId) (l : List (Nat × Operand)) (hop : o.op = .build t l.toArray) (vs : List (Nat × Value)) (hv : (l.map fun (i, x) => (i, a.eval x)) = vs) (cells : Array Value) (hb : P.built t vs = some cells)
    (h : wpMix P ops S last Q sc (a.put o.dst (.agg cells)) w) : wpMix P ops S last Q ((true, i) :: sc) a w :=
  ⟨o, ho, by
    rw [if_pos hw]
    refine ⟨_, fun p => ?_, h⟩
    have hf : P.built t (l.toArray.map fun (i, x) => (i, a.eval x)).toList = some cells := by rw [List.map_toArray, hv]; exact hb
    unfold execOp
    simp only [hop]
    rw [Sem.run_bind, run_build p.w t _ cells hf]
    rfl⟩
end
end Go.Proofs.YtdojmjglnlkmoaaDoor
/- Arrays and structs that come by value, opened. No condition. -/
namespace Go.Proofs.YtdojmjglnlkmoaaDoor
set_option linter.unusedVariables false
set_option linter.unusedSimpArgs false
set_option linter.constructorNameAsVariable false
open Go.RowKit Go.WideShapes Go.ChangeShapes

section
variable {P : Program} {H : Type} {enc : TypeId × Value → H} {w : World}
theorem okWide_array {r : Reach} {b0 : Nat} {t e : TypeId} {n : Nat} {v : Value} (ht : P.underlying t = some (.array n e)) (h : Value.okWide P w r b0 t v) : ∃ cs : Array Value, v = .agg cs ∧ cs.size = P.cellsOf t := by
  unfold Value.okWide at h
  rw [ht] at h
  obtain ⟨cs, h1, h2, _⟩ := h
  exact ⟨cs, h1, h2⟩
/-- An array of one-cell elements: its cells, each as it reads. -/
theorem open_array {r : Reach} {b0 : Nat} {t e : TypeId} {n : Nat} {v : Value} {d : DataW H} {p : List MemPlace} (ht : P.underlying t = some (.array n e)) (hc : P.cellsOf t = n) (he : P.cellsOf e = 1)
    (hv : Value.okWide P w r b0 t v) (h : DataW.Trod enc P w 0 (fun _ => true) true t v d p) :
    ∃ cs : List Value, v = .agg cs.toArray ∧ cs.length = n ∧ ∀ (i : Nat) (hi : i < cs.length), ∃ m y, DataW.trod enc P w 0 (fun _ => true) true m e [cs[i]] = some y := by
  obtain ⟨a, rfl, hsz⟩ := okWide_array ht hv
  obtain ⟨fuel, hf⟩ := h
  obtain ⟨xs, m, _, _, _, hl, hg⟩ := DataW.trod_array ht hf
  refine ⟨a.toList, by simp, by simp [hsz, hc], fun i hi => ?_⟩
  have hi' : i < n := by simp at hi; omega
  have := hg i hi'
  rw [he, Nat.mul_one] at this
  have hx : i < xs.length := by omega
  rw [List.getElem?_eq_getElem hx, show (Value.agg a).cells.toList = a.toList from rfl, List.drop_eq_getElem_cons hi] at this
  exact ⟨m, _, this⟩
end
end Go.Proofs.YtdojmjglnlkmoaaDoor
