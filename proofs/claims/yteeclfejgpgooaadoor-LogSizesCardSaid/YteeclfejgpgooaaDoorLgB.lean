/- LogSizes, walked. No condition but that its argument is a number of its kind. -/
import Derived.Test.YteeclfejgpgooaaDoorLgA
namespace Go.Proofs.YteeclfejgpgooaaDoor
open Go.RowKit

set_option maxRecDepth 100000 in
set_option maxHeartbeats 2000000 in
theorem sizes_law (n : Int) (wn : (Lit.int .i64 n).wf = true) (w : World) : Calls Tryd.prog 4 #[.int .i64 n] w fun e w' => e = .returned (.bool true) ∧ Below w.heap.size w w' := by
  clear wn
  have HT := Lib.hid (fun w => tag_nil w)
  unfold z16 at HT
  have he : ∀ w : World, (Op.equalIn 10000 65 z16 z16).run Tryd.prog w = .ok true w := fun w => by kernel_rfl
  unfold z16 at he
  go_enter Tryd.func4, Tryd.ntmps4
  generalize hs : secs n = s
  have HS := Lib.hid hs
  clear hs
  go_wp2_with (first
    | (go_at_call 7; refine (alive_any _).mono ?_; rintro e w' ⟨rfl, rfl⟩)
    | (go_at_call 12; refine (open_nil _ _ _ _).mono ?_; rintro e w' ⟨rfl, rfl⟩)
    | (go_at_call 21; refine (fresh_nil _ _ _ _).mono ?_; rintro e w' ⟨rfl, rfl⟩)
    | (go_at_call 22; refine (sectors_any _ _).mono ?_; rintro e w' ⟨rfl, rfl⟩; rw [HS.out])
    | (go_at_call 23; refine (rsectors_any _ _).mono ?_; rintro e w' ⟨rfl, rfl⟩; rw [HS.out])
    | (go_at_call 25; refine (app_nil _ _ _ _).mono ?_; rintro e w' ⟨rfl, rfl⟩)
    | (go_at_call 24; refine (is_some _ _ _ (by decide)).mono ?_; rintro e w' ⟨rfl, rfl⟩)
    | (go_at_call 16; refine (used_nil _).mono ?_; rintro e w' ⟨rfl, rfl⟩)
    | (go_at_call 26; refine (size_nil _).mono ?_; rintro e w' ⟨rfl, rfl⟩)
    | (go_at_call 27; refine (gen_nil _).mono ?_; rintro e w' ⟨rfl, rfl⟩)
    | (go_at_call 28; refine (HT.out _).mono ?_; rintro e w' ⟨rfl, hN⟩; have HN := Lib.hid hN; clear hN))
  go_ret
  exact ⟨rfl, (New.al (New.refl w) _).tr HN.out⟩
end Go.Proofs.YteeclfejgpgooaaDoor
