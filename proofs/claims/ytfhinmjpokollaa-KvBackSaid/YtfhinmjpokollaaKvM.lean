/- The law's Document: the changes as the reference's. No condition but that they can be read. -/
import Derived.Test.YtfhinmjpokollaaKvL
namespace Go.Proofs.Ytfhinmjpokollaa
set_option linter.unusedVariables false
set_option linter.unusedSimpArgs false
set_option linter.constructorNameAsVariable false
open Go.RowKit Go.Maps Go.Sort

def ch0 : Ch := ⟨⟨none, 0, 0, []⟩, ⟨none, 0, 0, []⟩, false⟩
theorem elD : ElemOf Try.prog 26 49 3 56 := ElemOf.mk' (z := .agg ch0.cells.toArray) Try.underlying26 (by kernel_rfl) rfl (by decide)
theorem cells_one (c : Ch) : ∀ u ∈ c.cells, u.oneCell' = true := by
  intro u hu
  simp [Ch.cells] at hu
  rcases hu with rfl | rfl | rfl <;> rfl
theorem flat_take {L : List Ch} {k : Nat} (h : k < L.length) : (L.take (k + 1)).flatMap Ch.cells = (L.take k).flatMap Ch.cells ++ L[k].cells := by
  rw [List.take_succ_eq_append_getElem h, List.flatMap_append]
  simp
set_option maxRecDepth 100000 in
set_option maxHeartbeats 4000000 in
theorem doc_any {P : Nat → Prop} (A : Option Addr) (n c : Nat) (L : List Ch) (w : World) (h : Rd P w 3 A n (L.flatMap Ch.cells)) (hL : L.length = n) (hn : n ≤ 100000000) :
    Calls Try.prog 13 #[.slice A n c] w fun e w' => (∃ A' c', e = .returned (.slice A' n c') ∧ w'.ownsRow w.heap.size 49 3 (.slice A' n c') n (L.flatMap Ch.cells)) ∧ New w w' := by
  have HR := Lib.hid h
  have HL := Lib.hid hL
  clear h hL
  go_enter Try.func13, Try.ntmps13
  go_wp2_with fail
  go_loopw [3, 8] (fun s i wr => ∃ (j : Nat) (A' : Option Addr) (c' : Nat), j ≤ n ∧ i = .int .i64 j ∧ s = .slice A' j c' ∧ Hid (wr.ownsRow w.heap.size 49 3 (.slice A' j c') j ((L.take j).flatMap Ch.cells)) ∧ Hid (New w wr)) (fun s i _ => n - (intOf i).toNat)
  case atStart => exact ⟨0, none, 0, Nat.zero_le _, rfl, rfl, Lib.hid (World.ownsRow_nil _ _ _ _), Lib.hid (New.refl w)⟩
  case round =>
    obtain ⟨j, A', c', hj, rfl, rfl, HO, HN⟩ := hrel
    by_cases hlt : j < n
    · as_aux_lemma =>
      obtain ⟨g, o, hl, rfl, -, -, hrg⟩ := rd_row (f := Ch.cells) (L := L) (fun _ => rfl) (by omega) (HN.out.rd HR.out) hlt
      have c0 : wr.cell? ⟨g, o + j * 3, none⟩ = some (.slice L[j].k.A L[j].k.n L[j].k.c) := hrg 0 _ rfl
      have c1 : wr.cell? ⟨g, o + j * 3 + 1, none⟩ = some (.slice L[j].v.A L[j].v.n L[j].v.c) := hrg 1 _ rfl
      have c2 : wr.cell? ⟨g, o + j * 3 + 2, none⟩ = some (.bool L[j].d) := hrg 2 _ rfl
      have hst := flat_take hl
      have hone := cells_one L[j]
      generalize L[j] = x at c0 c1 c2 hst hone
      obtain ⟨⟨kA, kn, kc, ks⟩, ⟨vA, vn, vc, vs⟩, dd⟩ := x
      rw [show Ch.cells ⟨⟨kA, kn, kc, ks⟩, ⟨vA, vn, vc, vs⟩, dd⟩ = [.slice kA kn kc, .slice vA vn vc, .bool dd] from rfl] at hst hone
      dsimp only at c0 c1 c2 hst hone
      have HST := Lib.hid hst
      have HONE := Lib.hid hone
      have hj0 : (0 : Int) ≤ (j : Int) := by omega
      have hjn : (j : Int) < (n : Int) := by omega
      have hs0 := HN.out.size
      clear hrg hl hst hone
      go_wp2_with (first
        | ((with_reducible refine atOpS ⟨some 14, .buildSlice _ _ _, _, _, _, _⟩ ?_); refine wpList_bs1 elD (by decide) rfl (.tmp 13) rfl #[.slice kA kn kc, .slice vA vn vc, .bool dd] rfl rfl ?_)
        | (at_builtin; refine atOpS ⟨some 15, _, _, _, _, _⟩ ?_; refine stopHere ?_))
      refine ⟨?_⟩
      refine wpList_app (o := ⟨some 15, _, _, _, _, _⟩) elD _ rfl (.tmp 12) (.tmp 14) rfl w.heap.size (.slice A' j c') j ((L.take j).flatMap Ch.cells) rfl (New.own (New.al (New.al (New.refl wr) _) _) HO.out) (some ⟨wr.heap.size + 1, 0, none⟩) 1 1 [.slice kA kn kc, .slice vA vn vc, .bool dd] rfl (Rd.ofBlk (p := fun _ => True) (Blk.new' _ 49 #[.slice kA kn kc, .slice vA vn vc, .bool dd] (by simp)) 3 1 rfl trivial) HONE.out (by unfold maxLen; omega) (by omega) (by simp; omega) ?_
      intro A2 d2 w3 hO3 hF3 hA3
      rw [← HST.out] at hO3
      have HO3 := Lib.hid hO3
      have HN3 : Hid (New w w3) := Lib.hid ((New.al (New.al HN.out _) _).fr hF3 (fun k hk => (own_lt HO.out k hk).1))
      clear hO3 hF3 hA3
      go_wp2_with fail
      go_roundw
      case rel => exact ⟨j + 1, A2, d2, by omega, by go_num, rfl, HO3, HN3⟩
      case measure => simp [intOf]; omega
    · as_aux_lemma =>
      obtain rfl : j = n := by omega
      go_wp2_with fail
      go_ret
      have ht : L.take j = L := by rw [← HL.out, List.take_length]
      have ho := HO.out
      rw [ht] at ho
      exact ⟨⟨A', c', rfl, ho⟩, HN.out⟩
end Go.Proofs.Ytfhinmjpokollaa
