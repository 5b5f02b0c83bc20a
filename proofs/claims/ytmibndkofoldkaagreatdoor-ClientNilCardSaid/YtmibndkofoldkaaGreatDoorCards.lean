/-
  DERIVED. GIVEN WITH THE SEED: THE CARDS: each row of YtmibndkofoldkaaGreatDoorRows.lean that lists a variable, with what it lists TIED to the program's text (the seventh form; the later family's looks); each row that meets fmt, with fmt's text TOLD by the authors' own Lean function (tested against real Go, not proved from fmt's source: count such statements apart). THE CARD IS WHAT COUNTS. Prove the row's statement (the work); the ties are given (YtmibndkofoldkaaGreatDoorTie.lean); close each card by the builder's one call (the guide's Derived/Test/ToyasCard.lean, 'card_holds'). Laid BY PROGRAM, IN A SANDBOX (cutbox-door.mjs). By AI agents, Wed Nov 11 2026. No macro, syntax, notation, axiom, sorry.
-/
import Derived.Test.YtmibndkofoldkaaGreatDoorRows
import GoSem.ClaimSeven
namespace Go.Proofs.YtmibndkofoldkaaGreatDoor
namespace Rows

/-- THE TIED CARD OF 'entrustlaw28.ClientAsks'. -/
def clientAsksCard : Claim7 := { stood := { row := clientAsksRow, standIns := [], harness := (true, "b093c7c4770e0292c50dcde4aadaa6137205bda5f3f3c9d6e538ba62aa0ae852"), looks := true }, kinds := [], alts := [], laidByText := true, laidKinds := [.data, .data], laidTests := true, laidLooks := .later }
def ClientAsksCardSaid : Prop := Claim7.holds Tryz.pinned (.plain (OpenSpec.ofChange clientAsksSpec)) clientAsksCard

/-- THE TIED CARD OF 'entrustlaw28.ClientNil'. -/
def clientNilCard : Claim7 := { stood := { row := clientNilRow, standIns := [], harness := (true, "b093c7c4770e0292c50dcde4aadaa6137205bda5f3f3c9d6e538ba62aa0ae852"), looks := true }, kinds := [], alts := [], laidByText := true, laidKinds := [.data, .data], laidTests := true, laidLooks := .later }
def ClientNilCardSaid : Prop := Claim7.holds Tryz.pinned (.plain (OpenSpec.ofChange clientNilSpec)) clientNilCard

/-- THE TIED CARD OF 'entrustlaw28.ClientSeals'. -/
def clientSealsCard : Claim7 := { stood := { row := clientSealsRow, standIns := [], harness := (true, "b093c7c4770e0292c50dcde4aadaa6137205bda5f3f3c9d6e538ba62aa0ae852"), looks := true }, kinds := [], alts := [], laidByText := true, laidKinds := [.data, .data], laidTests := true, laidLooks := .later }
def ClientSealsCardSaid : Prop := Claim7.holds Tryz.pinned (.plain (OpenSpec.ofChange clientSealsSpec)) clientSealsCard

/-- THE TIED CARD OF 'entrustlaw28.ClientPoisons'. -/
def clientPoisonsCard : Claim7 := { stood := { row := clientPoisonsRow, standIns := [], harness := (true, "b093c7c4770e0292c50dcde4aadaa6137205bda5f3f3c9d6e538ba62aa0ae852"), looks := true }, kinds := [], alts := [], laidByText := true, laidKinds := [.data, .data], laidTests := true, laidLooks := .later }
def ClientPoisonsCardSaid : Prop := Claim7.holds Tryz.pinned (.plain (OpenSpec.ofChange clientPoisonsSpec)) clientPoisonsCard

/-- THE SECOND FORM's CARD OF 'entrustlaw28.ClientAsks'. -/
def clientAsksUptoCard : Claim7 := { stood := { row := clientAsksUptoRow, standIns := [], harness := (true, "b093c7c4770e0292c50dcde4aadaa6137205bda5f3f3c9d6e538ba62aa0ae852"), looks := true }, kinds := [], alts := [], laidByText := true, laidKinds := [.data, .data], laidTests := true, laidLooks := .later }
def ClientAsksUptoCardSaid : Prop := Claim7.holds Tryz.pinned (.plain (OpenSpec.upto clientAsksSpec)) clientAsksUptoCard

/-- THE SECOND FORM's CARD OF 'entrustlaw28.ClientNil'. -/
def clientNilUptoCard : Claim7 := { stood := { row := clientNilUptoRow, standIns := [], harness := (true, "b093c7c4770e0292c50dcde4aadaa6137205bda5f3f3c9d6e538ba62aa0ae852"), looks := true }, kinds := [], alts := [], laidByText := true, laidKinds := [.data, .data], laidTests := true, laidLooks := .later }
def ClientNilUptoCardSaid : Prop := Claim7.holds Tryz.pinned (.plain (OpenSpec.upto clientNilSpec)) clientNilUptoCard

/-- THE SECOND FORM's CARD OF 'entrustlaw28.ClientSeals'. -/
def clientSealsUptoCard : Claim7 := { stood := { row := clientSealsUptoRow, standIns := [], harness := (true, "b093c7c4770e0292c50dcde4aadaa6137205bda5f3f3c9d6e538ba62aa0ae852"), looks := true }, kinds := [], alts := [], laidByText := true, laidKinds := [.data, .data], laidTests := true, laidLooks := .later }
def ClientSealsUptoCardSaid : Prop := Claim7.holds Tryz.pinned (.plain (OpenSpec.upto clientSealsSpec)) clientSealsUptoCard

/-- THE SECOND FORM's CARD OF 'entrustlaw28.ClientPoisons'. -/
def clientPoisonsUptoCard : Claim7 := { stood := { row := clientPoisonsUptoRow, standIns := [], harness := (true, "b093c7c4770e0292c50dcde4aadaa6137205bda5f3f3c9d6e538ba62aa0ae852"), looks := true }, kinds := [], alts := [], laidByText := true, laidKinds := [.data, .data], laidTests := true, laidLooks := .later }
def ClientPoisonsUptoCardSaid : Prop := Claim7.holds Tryz.pinned (.plain (OpenSpec.upto clientPoisonsSpec)) clientPoisonsUptoCard
end Rows
end Go.Proofs.YtmibndkofoldkaaGreatDoor
