/- Tables: copies, a key's value. No condition but the table's own. -/
import Derived.Test.YtfhinmjpokollaaKvF
import Derived.Test.YtfhinmjpokollaaMapB
import Derived.Deep.RegionHeld3
namespace Go.Proofs.Ytfhinmjpokollaa
set_option linter.unusedVariables false
set_option linter.unusedSimpArgs false
set_option linter.constructorNameAsVariable false
open Go.RowKit Go.Maps Go.Sort

set_option maxRecDepth 100000 in
theorem mclone_any (b n : Nat) (f : Lit → Option Value) (w : World) (h : MapAt w Try.prog 9 b n f) :
    Calls Try.prog 33 #[.map (some b)] w fun e w' => e = .returned (.map (some w.heap.size)) ∧ MapAt w' Try.prog 9 w.heap.size n f ∧ New w w' := by
  obtain ⟨o, hrun, hM⟩ := MapAt.cloned (t := 67) h
  have HM := Lib.hid hM
  have hq := fun w => run_eql_map_nil_sl (P := Try.prog) w 67 _ _ (some b) Try.underlying67
  clear hM h
  go_enter Try.func33, Try.ntmps33
  go_wp2
  rw [run_callFunc_extern Try.func60 (by kernel_rfl) (by kernel_rfl) (by kernel_rfl) (e := Extern.MapsClone.clone) (by kernel_rfl), hrun]
  simp only [Result.andThen]
  rw [Oper.upon_value]
  go_wp2
  rw [run_typeAssert_map_sl _ 67 20 _ _ _ Try.underlying67]
  simp only [Result.andThen]
  rw [Oper.upon_value]
  go_wp2
  go_ret
  exact ⟨rfl, HM.out, New.al (New.refl _) _⟩
/-- A copy: its own map, the same values. -/
theorem copy_any {X : Nat → Prop} {w : World} {base g b m : Nat} {E : Tab} (h : TbIn X w base g b m E) (hbase : base ≤ w.heap.size) :
    Calls Try.prog 11 #[.pointer (some ⟨g, 0, none⟩)] w fun e w' => ∃ g' b', e = .returned (.pointer (some ⟨g', 0, none⟩)) ∧ TbIn X w' base g' b' m E ∧ New w w' ∧ w.heap.size ≤ g' ∧ w.heap.size ≤ b' := by
  obtain ⟨f, hM, h1, h2⟩ := h.map
  have H := Lib.hid h
  have c0 : w.cell? ⟨g, 0, none⟩ = some (.map (some b)) := h.blk.cell 0
  have HC := Lib.hid (mclone_any b m f w hM)
  clear h hM
  go_enter Try.func11, Try.ntmps11
  go_wp2_with fail
  refine HC.out.mono ?_
  rintro e w1 ⟨rfl, hM1, hN1⟩
  have HM1 := Lib.hid hM1
  have HN1 := Lib.hid hN1
  clear hM1 hN1 HC
  go_wp2_with fail
  go_ret
  have hs := HN1.out.size
  refine ⟨w1.heap.size, w.heap.size, rfl, ⟨Blk.new _ _ _, ⟨f, HM1.out.alloc _, h1, h2⟩, H.out.nd, fun e he => ?_, by omega, hbase, fun k hk => ?_⟩, New.al HN1.out _, hs, Nat.le_refl _⟩
  · have := H.out.el e he
    have hN := New.al HN1.out (.cells #[.map (some w.heap.size)] 69)
    exact ⟨this.1, this.2.1, ⟨hN.rd this.2.2.1.rd, this.2.2.1.byt⟩, this.2.2.2⟩
  · exact ⟨(H.out.xs k hk).1, (H.out.xs k hk).2.fr ((New.al HN1.out (.cells #[.map (some w.heap.size)] 69)).toFr NoB) (fun x => x)⟩
theorem zBs2 (w : World) : (zeroValue 39).run Try.prog w = .ok (.slice none 0 0) w := zBs w
/-- A key's value, found in plain words. -/
def tval (E : Tab) (k : List Int) : Fm := (E.lookup k).getD ⟨none, 0, 0, []⟩
theorem get_any {X q : Nat → Prop} {w : World} {base g b m : Nat} {E : Tab} (h : TbIn X w base g b m E) (A : Option Addr) (n c : Nat) (xs : List Int) (hR : Rd q w 1 A n (u8s xs)) (hb : Byt xs) (hn : n ≤ 1000000) :
    Calls Try.prog 19 #[.pointer (some ⟨g, 0, none⟩), .slice A n c] w fun e w' => ∃ A' c', e = .returned (.tuple #[.slice A' (tval E xs).n c', .bool (E.lookup xs).isSome]) ∧ w'.ownsRow w.heap.size 5 1 (.slice A' (tval E xs).n c') (tval E xs).n (u8s (tval E xs).xs) ∧ New w w' := by
  have hxl : xs.length = n := by have := hR.1; rw [u8s_len] at this; omega
  have hko := key_of (xs := xs) (by omega)
  have hcv := fun q => run_conv (c := c) (w := w.drewN q) hR
  have c0 : w.cell? ⟨g, 0, none⟩ = some (.map (some b)) := h.blk.cell 0
  have hvn : (tval E xs).n ≤ 1000000 ∧ Rd X w 1 (tval E xs).A (tval E xs).n (u8s (tval E xs).xs) := by
    unfold tval
    cases hl : E.lookup xs with
    | none => exact ⟨by simp, ⟨rfl, fun h => absurd h (by simp)⟩⟩
    | some v => have := h.el _ (lookup_mem hl); exact ⟨by have h4 := this.2.2.2; dsimp only at h4; show v.n ≤ 1000000; omega, this.2.2.1.rd⟩
  have hlk : ∀ q, (Instr.lookup 67 (.map (some b)) (.string (strOfNums xs)) true).run Try.prog (w.drewN q) = .ok (.tuple #[(tval E xs).val, .bool (E.lookup xs).isSome]) (w.drewN q) := fun q => by
    obtain ⟨f, hM0, h1, -⟩ := h.map
    have hM : MapAt (w.drewN q) Try.prog 9 b m f := hM0
    have := (hM.look keyS Try.underlying67 (z := .slice none 0 0) (zBs _) hko).1
    rw [h1 xs hb] at this
    rw [this]
    unfold tval
    cases E.lookup xs <;> rfl
  obtain ⟨hvn, hvr⟩ := hvn
  have HV := Lib.hid hvr
  generalize strOfNums xs = sx at hko hcv hlk
  generalize (E.lookup xs).isSome = there at hlk ⊢
  generalize tval E xs = x at hlk hvn HV ⊢
  clear hko hR h hb hvr
  obtain ⟨xA, xn, xc, xv⟩ := x
  simp only [Fm.val] at hlk
  dsimp only at hvn HV ⊢
  go_enter Try.func19, Try.ntmps19
  go_wp2_with fail
  go_quiet (fail)
  go_wp2_with fail
  refine (bclone_any xA xn xc xv _ (rd_szs (New.rd (New.dn (New.refl _) _) HV.out)) (by omega)).mono ?_
  rintro e w' ⟨⟨A2, c2, rfl, hO2⟩, hN2⟩
  have HO2 := Lib.hid hO2
  have HN2 : Hid (New w w') := Lib.hid ((New.dn (New.refl w) _).tr hN2)
  clear hO2 hN2
  go_wp2_with fail
  go_ret2
  exact ⟨A2, c2, rfl, HO2.out, HN2.out⟩
end Go.Proofs.Ytfhinmjpokollaa
