/- Texts of one proof. No condition but each one's own. -/
import Derived.Test.YtfchcdbfalgdlaaGreatDoorSweepPlaysM1
set_option maxHeartbeats 4000000
set_option maxRecDepth 100000
set_option linter.unusedVariables false
set_option linter.unusedSimpArgs false
namespace Go.Proofs.YtfchcdbfalgdlaaGreatDoor
open _root_.Go.Proofs.Tryz
open Go.RowKit
theorem nm{α:Sort _}(x:α):∃y,y=x:=⟨x,rfl⟩
theorem fX{P:Program}{c:Code}{Q:Exit->Act->World->Prop}{a:Act}{w:World}(h:∀w',Hid (w'=w)->c.wp P Q a w'):c.wp P Q a w:=h w (Ld rfl)
theorem kw{P:Program}{f:FuncId}{b:Array Value}{Q:Ending->World->Prop}{w:World}(h:∀w',Hid (w'=w)->Calls P f b w' Q):Calls P f b w Q:=h w (Ld rfl)
theorem aa.al2{w w':World}(h:aa w w')(o o':Obj):aa w ((w'.alloc o).alloc o'):=(h.al o).al o'
end Go.Proofs.YtfchcdbfalgdlaaGreatDoor
