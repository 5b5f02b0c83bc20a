/- The statements' fixed fact. No condition. -/
import Derived.Test.YtfhinmjpokollaaKvC
import Derived.Lib.SlBytesConst
namespace Go.Proofs.Ytfhinmjpokollaa
set_option linter.unusedVariables false
set_option linter.unusedSimpArgs false
set_option linter.constructorNameAsVariable false
open Go.RowKit Go.Maps Go.Sort

/-- A literal's bytes. -/
theorem lit_rd {P : Nat → Prop} {w W : World} {x : Int} (hN : New (w.alloc (.cells #[.int .u8 x] 5 (1, 2))) W) (hP : P w.heap.size) : Rd P W 1 (some ⟨w.heap.size, 0, none⟩) 1 (u8s [x]) := by
  have hb : (w.alloc (.cells #[.int .u8 x] 5 (1, 2))).heap[w.heap.size]? = some (.cells #[.int .u8 x] 5 (1, 2)) := by
    show (w.heap.push _)[w.heap.size]? = _
    simp
  have hW : W.heap[w.heap.size]? = some (.cells #[.int .u8 x] 5 (1, 2)) := (hN.block _ (by simp)).trans hb
  refine ⟨rfl, fun _ => ⟨_, rfl, hP, (Array.getElem?_eq_some_iff.1 hW).1, fun j u hu => ?_⟩⟩
  have : j = 0 := by
    have := (List.getElem?_eq_some_iff.1 hu).1
    simp [u8s] at this
    omega
  subst this
  simp [u8s] at hu
  subst hu
  simp [World.cell?, Addr.add, hW]
set_option maxHeartbeats 8000000 in
set_option maxRecDepth 100000 in
theorem alive_any (w : World) : Calls Try.prog 8 #[] w fun e w' => e = .returned (.bool true) ∧ New w w' := by
  have kc := fun (w : World) (C : Array Value) (n c : Nat) => Lib.run_convert_bytes_const (P := Try.prog) w 39 5 C n c Try.underlying39 Try.underlying5
  go_enter Try.func8, Try.ntmps8
  go_wp2_with fail
  refine (new_any w.heap.size w (Nat.le_refl _)).mono ?_
  rintro e w1 ⟨g, b, rfl, hT, hN1, hg, hb⟩
  have HT := Lib.hid hT
  have HN1 := Lib.hid hN1
  have HG := Lib.hid hg
  have HB := Lib.hid hb
  clear hT hN1 hg hb
  have kc2 : ∀ (w : World) (o : Obj) (C : Array Value) (n c : Nat), (convert 39 39 (.slice (some ⟨w.heap.size + 1, 0, none⟩) n c)).run Try.prog ((w.alloc o).alloc (.cells C 5)) = .ok (.slice (some ⟨w.heap.size + 1, 0, none⟩) n c) ((w.alloc o).alloc (.cells C 5 (C.size, C.size + 1))) := fun w o C n c => by
    have := kc (w.alloc o) C n c
    simpa using this
  go_wp2_with fail
  obtain ⟨w2, hw2⟩ : ∃ w2 : World, w2 = ((w1.alloc (.cells #[.int .u8 97] 5 (1, 2))).alloc (.cells #[.int .u8 49] 5 (1, 2))).alloc (.cells #[.slice (some ⟨w1.heap.size, 0, none⟩) 1 1, .slice (some ⟨w1.heap.size + 1, 0, none⟩) 1 1, .bool false] 41) := ⟨_, rfl⟩
  have HB1 : Hid (b < w1.heap.size) := Lib.hid HT.out.blt
  have HN12 : Hid (New w1 w2) := Lib.hid (by rw [hw2]; exact New.al (New.al (New.al (New.refl w1) _) _) _)
  have HA2 : Hid (Rd (fun k => k ≠ b) w2 1 (some ⟨w1.heap.size, 0, none⟩) 1 (u8s [97])) := Lib.hid (lit_rd (by rw [hw2]; exact New.al (New.al (New.refl _) _) _) (by have := HB1.out; omega))
  have HB2 : Hid (Rd (fun k => k ≠ b) w2 1 (some ⟨w1.heap.size + 1, 0, none⟩) 1 (u8s [49])) := Lib.hid (by
    have := lit_rd (P := fun k => k ≠ b) (x := 49) (w := w1.alloc (.cells #[.int .u8 97] 5 (1, 2))) (W := w2) (by rw [hw2]; exact New.al (New.refl _) _) (by have := HB1.out; simp; omega)
    simpa using this)
  have HC2 : Hid (Rd (fun k => k ≠ b) w2 3 (some ⟨w1.heap.size + 1 + 1, 0, none⟩) 1 [.slice (some ⟨w1.heap.size, 0, none⟩) 1 1, .slice (some ⟨w1.heap.size + 1, 0, none⟩) 1 1, .bool false]) := Lib.hid (by
    have h1 : Blk w2 (w1.heap.size + 1 + 1) 41 #[.slice (some ⟨w1.heap.size, 0, none⟩) 1 1, .slice (some ⟨w1.heap.size + 1, 0, none⟩) 1 1, .bool false] := by rw [hw2]; exact Blk.new' _ _ _ (by simp)
    exact Rd.ofBlk h1 3 1 rfl (by have := HB1.out; omega))
  rw [← hw2]
  clear hw2
  refine (apply_any (HT.out.new HN12.out) (some ⟨w1.heap.size + 1 + 1, 0, none⟩) 1 1 [⟨⟨some ⟨w1.heap.size, 0, none⟩, 1, 1, [97]⟩, ⟨some ⟨w1.heap.size + 1, 0, none⟩, 1, 1, [49]⟩, false⟩] HC2.out rfl (fun c hc => by
    rw [List.mem_singleton] at hc
    subst hc
    exact ⟨⟨HA2.out, fun x hx => by simp at hx; omega⟩, ⟨HB2.out, fun x hx => by simp at hx; omega⟩⟩) (fun k hk => hk) (by simp [chsOk, chOk]) (by omega)).mono ?_
  rintro e w3 ⟨rfl, X3, E3, hT3, hc3, hF3, -⟩
  have HL3 : Hid (E3.length = 1) := Lib.hid (by rw [← cont_len, hc3]; rfl)
  have HC3 : Hid (cont E3 = [([97], [49])]) := Lib.hid (by rw [hc3]; rfl)
  have HT3 := Lib.hid hT3
  have HN3 : Hid (New w w3) := Lib.hid ((HN1.out.tr HN12.out).fr hF3 (fun k hk => by have := HB.out; omega))
  have HA3 : Hid (Rd (fun k => k ≠ b) w3 1 (some ⟨w1.heap.size, 0, none⟩) 1 (u8s [97])) := Lib.hid (HA2.out.fr hF3 (fun k hk => hk))
  have HZ3 : Hid (b < w3.heap.size) := Lib.hid hT3.blt
  clear hT3 hc3 hF3 HA2 HB2 HC2 HN12 HN1
  go_wp2_with fail
  refine (len_any HT3.out (by omega) (by rw [HL3.out]; omega)).mono ?_
  rintro e w4 ⟨rfl, hN4⟩
  rw [HL3.out]
  have HT4 := Lib.hid (HT3.out.new hN4)
  have HA4 := Lib.hid (hN4.rd HA3.out)
  have HN4 : Hid (New w w4) := Lib.hid (HN3.out.tr hN4)
  clear hN4 HT3 HA3 HN3
  go_wp2_with fail
  obtain ⟨w5, hw5⟩ : ∃ w5 : World, w5 = w4.alloc (.cells #[.slice (some ⟨w1.heap.size, 0, none⟩) 1 1, .slice none 0 0, .bool true] 41) := ⟨_, rfl⟩
  have HN45 : Hid (New w4 w5) := Lib.hid (by rw [hw5]; exact New.al (New.refl w4) _)
  have HC5 : Hid (Rd (fun k => k ≠ b) w5 3 (some ⟨w4.heap.size, 0, none⟩) 1 [.slice (some ⟨w1.heap.size, 0, none⟩) 1 1, .slice none 0 0, .bool true]) := Lib.hid (by
    have h1 : Blk w5 w4.heap.size 41 #[.slice (some ⟨w1.heap.size, 0, none⟩) 1 1, .slice none 0 0, .bool true] := by rw [hw5]; exact Blk.new _ _ _
    exact Rd.ofBlk h1 3 1 rfl (by have := HT4.out.blt; omega))
  rw [← hw5]
  clear hw5
  refine (apply_any (HT4.out.new HN45.out) (some ⟨w4.heap.size, 0, none⟩) 1 1 [⟨⟨some ⟨w1.heap.size, 0, none⟩, 1, 1, [97]⟩, ⟨none, 0, 0, []⟩, true⟩] HC5.out rfl (fun c hc => by
    rw [List.mem_singleton] at hc
    subst hc
    exact ⟨⟨HN45.out.rd HA4.out, fun x hx => by simp at hx; omega⟩, ⟨⟨rfl, fun h => absurd h (by simp)⟩, fun x hx => by cases hx⟩⟩) (fun k hk => hk) (by simp [chsOk, chOk]) (by omega)).mono ?_
  rintro e w6 ⟨rfl, X6, E6, hT6, hc6, hF6, -⟩
  have HL6 : Hid (E6.length = 0) := Lib.hid (by rw [← cont_len, hc6, HC3.out]; rfl)
  have HT6 := Lib.hid hT6
  have HN6 : Hid (New w w6) := Lib.hid ((HN4.out.tr HN45.out).fr hF6 (fun k hk => by have := HB.out; omega))
  clear hT6 hc6 hF6 HT4 HA4 HC5 HN45 HN4
  go_wp2_with fail
  refine (len_any HT6.out (by omega) (by rw [HL6.out]; omega)).mono ?_
  rintro e w7 ⟨rfl, hN7⟩
  rw [HL6.out]
  have HN7 := Lib.hid (HN6.out.tr hN7)
  clear hN7 HT6 HN6
  go_wp2_with fail
  go_ret
  exact ⟨rfl, HN7.out⟩
end Go.Proofs.Ytfhinmjpokollaa
