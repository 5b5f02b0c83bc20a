/- Texts of one proof, one behind the other: Wp. No condition but each one's own. -/
import Derived.Test.YtmibndkofoldkaaGreatDoorClientNilM1
namespace Go.Proofs.YtmibndkofoldkaaGreatDoor
set_option linter.unusedVariables false
set_option linter.unusedSimpArgs false
set_option linter.constructorNameAsVariable false
open Go.RowKit
theorem nm {α : Sort _} (x : α) : ∃ y, y = x := ⟨x, rfl⟩
theorem wp_world {P : Program} {c : Code} {Q : Exit → Act → World → Prop} {a : Act} {w : World} (h : ∀ w', Hid (w' = w) → c.wp P Q a w') : c.wp P Q a w := h w (Lib.hid rfl)
theorem calls_world {P : Program} {f : FuncId} {ar : Array Value} {Q : Ending → World → Prop} {w : World} (h : ∀ w', Hid (w' = w) → Calls P f ar w' Q) : Calls P f ar w Q := h w (Lib.hid rfl)
theorem New.al2 {w w' : World} (h : New w w') (o o' : Obj) : New w ((w'.alloc o).alloc o') := (h.al o).al o'
end Go.Proofs.YtmibndkofoldkaaGreatDoor
