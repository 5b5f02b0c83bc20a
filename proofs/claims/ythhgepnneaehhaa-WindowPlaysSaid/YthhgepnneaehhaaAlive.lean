/- The chapter's example of a window, walked: it answers true. No condition. -/
import Derived.Test.YthhgepnneaehhaaWsD
import Derived.Test.YthhgepnneaehhaaNum
namespace Go.Proofs.Ythhgepnneaehhaa
open Go.RowKit

theorem alive_any (w : World) : Calls Try.prog 6 #[] w fun e w' => e = .returned (.bool true) ∧ Below w.heap.size w w' := by
  go_enter Try.func6, Try.ntmps6
  go_wp2_with fail
  refine (Ws.new_any 2 w.heap.size w (by omega) (by omega) (Nat.le_refl _)).mono ?_
  rintro e w1 ⟨rfl, hW1, hb1⟩
  go_wp2_with fail
  refine (Ws.add_any _ w.heap.size w.heap.size _ [] 2 0 w1 hW1 (by simp) (by omega) (by omega)).mono ?_
  rintro e w2 ⟨rfl, v2, hW2, hF2, hA2⟩
  have HW2 := Lib.hid hW2
  clear hW2
  go_wp2_with fail
  refine (Ws.add_any _ w.heap.size w.heap.size v2 _ 2 _ w2 HW2.out (by simp) (by omega) (by omega)).mono ?_
  rintro e w3 ⟨rfl, v3, hW3, hF3, hA3⟩
  have HW3 := Lib.hid hW3
  clear hW3
  go_wp2_with fail
  have ha : answerL ([] ++ [⟨0, .string ⟨#[97]⟩, 0, false⟩] ++ [⟨0 + 1, .string ⟨#[98]⟩, 0, false⟩]) 1 5 = ([⟨0, .string ⟨#[97]⟩, 0, false⟩, ⟨1, .string ⟨#[98]⟩, 5, true⟩], true) := rfl
  refine (Ws.answer_any 1 5 w.heap.size w.heap.size v3 _ 2 _ w3 HW3.out).mono ?_
  rw [ha]
  clear ha
  rintro e w4 ⟨rfl, hW4, hF4⟩
  have HW4 := Lib.hid hW4
  clear hW4
  go_wp2_with fail
  refine (Ws.next_none w.heap.size w.heap.size v3 _ 2 _ w4 HW4.out rfl).mono ?_
  rintro e w5 ⟨rfl, hF5⟩
  have HW5 := Lib.hid (HW4.out.below hF5)
  go_wp2_with fail
  have ha : answerL [⟨0, .string ⟨#[97]⟩, 0, false⟩, ⟨1, .string ⟨#[98]⟩, 5, true⟩] 0 4 = ([⟨0, .string ⟨#[97]⟩, 4, true⟩, ⟨1, .string ⟨#[98]⟩, 5, true⟩], true) := rfl
  refine (Ws.answer_any 0 4 w.heap.size w.heap.size v3 _ 2 _ w5 HW5.out).mono ?_
  rw [ha]
  clear ha
  rintro e w6 ⟨rfl, hW6, hF6⟩
  have HW6 := Lib.hid hW6
  clear hW6
  go_wp2_with fail
  refine (Ws.next_some w.heap.size w.heap.size v3 0 4 ⟨#[97]⟩ _ 2 _ w6 HW6.out (by simp [Value.oneCell'])).mono ?_
  rintro e w7 ⟨rfl, v7, hW7, hv7, hF7⟩
  have hlt := HW4.out.2.1.lt
  have b1 : Below w.heap.size w w1 := hb1
  have b2 : Below w.heap.size w1 w2 := hF2.toBelow b1.size (fun k hk => by simp [Value.ownBlock]; omega)
  have o2 := fun k hk => (own_lt HW2.out.2.2.1 k hk).1
  have b3 : Below w.heap.size w2 w3 := hF3.toBelow (b1.trans b2).size (fun k hk h => by rcases h with h | h; omega; have := o2 k h; omega)
  have o3 := fun k hk => (own_lt HW3.out.2.2.1 k hk).1
  have b4 : Below w.heap.size w3 w4 := hF4.toBelow ((b1.trans b2).trans b3).size (fun k hk h => by have := o3 k h; omega)
  have b5 : Below w.heap.size w4 w5 := hF5.mono (by omega)
  have b6 : Below w.heap.size w5 w6 := hF6.toBelow ((((b1.trans b2).trans b3).trans b4).trans b5).size (fun k hk h => by have := o3 k h; omega)
  have b7 : Below w.heap.size w6 w7 := hF7.toBelow (((((b1.trans b2).trans b3).trans b4).trans b5).trans b6).size (fun k hk h => by rcases h with h | h; omega; have := o3 k h; omega)
  have HB := Lib.hid ((((((b1.trans b2).trans b3).trans b4).trans b5).trans b6).trans b7)
  clear hv7 o2 o3
  go_wp2_with fail
  go_ret
  exact ⟨rfl, HB.out⟩
end Go.Proofs.Ythhgepnneaehhaa
