/-
  DERIVED. GIVEN WITH THE SEED: THE CARDS: each row of YtfchcdbfalgdlaaGreatDoorRows.lean that lists a variable, with what it lists TIED to the program's text (the seventh form; the later family's looks); each row that meets fmt, with fmt's text TOLD by the authors' own Lean function (tested against real Go, not proved from fmt's source: count such statements apart). THE CARD IS WHAT COUNTS. Prove the row's statement (the work); the ties are given (YtfchcdbfalgdlaaGreatDoorTie.lean); close each card by the builder's one call (the guide's Derived/Test/ToyasCard.lean, 'card_holds'). Laid BY PROGRAM, IN A SANDBOX (cutbox-door.mjs). By AI agents, Wed Nov 11 2026. No macro, syntax, notation, axiom, sorry.
-/
import Derived.Test.YtfchcdbfalgdlaaGreatDoorRows
import GoSem.ClaimSeven
namespace Go.Proofs.YtfchcdbfalgdlaaGreatDoor
namespace Rows

/-- THE TIED CARD OF 'entrustlaw20.SweepNil'. -/
def sweepNilCard : Claim7 := { stood := { row := sweepNilRow, standIns := [], harness := (true, "f3b1ea11218157b48938e2f7ae7620b4529109122802ffd642012c14ba9b73d6"), looks := true }, kinds := [], alts := [], laidByText := true, laidKinds := [.data, .data], laidTests := true, laidLooks := .later }
def SweepNilCardSaid : Prop := Claim7.holds Tryz.pinned (.plain (OpenSpec.ofChange sweepNilSpec)) sweepNilCard

/-- THE TIED CARD OF 'entrustlaw20.SweepKeeps'. -/
def sweepKeepsCard : Claim7 := { stood := { row := sweepKeepsRow, standIns := [], harness := (true, "f3b1ea11218157b48938e2f7ae7620b4529109122802ffd642012c14ba9b73d6"), looks := true }, kinds := [], alts := [], laidByText := true, laidKinds := [.data, .data], laidTests := true, laidLooks := .later }
def SweepKeepsCardSaid : Prop := Claim7.holds Tryz.pinned (.plain (OpenSpec.ofChange sweepKeepsSpec)) sweepKeepsCard

/-- THE TIED CARD OF 'entrustlaw20.SweepOpens'. -/
def sweepOpensCard : Claim7 := { stood := { row := sweepOpensRow, standIns := [], harness := (true, "f3b1ea11218157b48938e2f7ae7620b4529109122802ffd642012c14ba9b73d6"), looks := true }, kinds := [], alts := [], laidByText := true, laidKinds := [.data, .data, .data, .data], laidTests := true, laidLooks := .later }
def SweepOpensCardSaid : Prop := Claim7.holds Tryz.pinned (.plain (OpenSpec.ofChange sweepOpensSpec)) sweepOpensCard

/-- THE TIED CARD OF 'entrustlaw20.SweepPlays'. -/
def sweepPlaysCard : Claim7 := { stood := { row := sweepPlaysRow, standIns := [], harness := (true, "f3b1ea11218157b48938e2f7ae7620b4529109122802ffd642012c14ba9b73d6"), looks := true }, kinds := [], alts := [], laidByText := true, laidKinds := [.data, .data, .data, .data], laidTests := true, laidLooks := .later }
def SweepPlaysCardSaid : Prop := Claim7.holds Tryz.pinned (.plain (OpenSpec.ofChange sweepPlaysSpec)) sweepPlaysCard

/-- THE SECOND FORM's CARD OF 'entrustlaw20.SweepNil'. -/
def sweepNilUptoCard : Claim7 := { stood := { row := sweepNilUptoRow, standIns := [], harness := (true, "f3b1ea11218157b48938e2f7ae7620b4529109122802ffd642012c14ba9b73d6"), looks := true }, kinds := [], alts := [], laidByText := true, laidKinds := [.data, .data], laidTests := true, laidLooks := .later }
def SweepNilUptoCardSaid : Prop := Claim7.holds Tryz.pinned (.plain (OpenSpec.upto sweepNilSpec)) sweepNilUptoCard

/-- THE SECOND FORM's CARD OF 'entrustlaw20.SweepKeeps'. -/
def sweepKeepsUptoCard : Claim7 := { stood := { row := sweepKeepsUptoRow, standIns := [], harness := (true, "f3b1ea11218157b48938e2f7ae7620b4529109122802ffd642012c14ba9b73d6"), looks := true }, kinds := [], alts := [], laidByText := true, laidKinds := [.data, .data], laidTests := true, laidLooks := .later }
def SweepKeepsUptoCardSaid : Prop := Claim7.holds Tryz.pinned (.plain (OpenSpec.upto sweepKeepsSpec)) sweepKeepsUptoCard

/-- THE SECOND FORM's CARD OF 'entrustlaw20.SweepOpens'. -/
def sweepOpensUptoCard : Claim7 := { stood := { row := sweepOpensUptoRow, standIns := [], harness := (true, "f3b1ea11218157b48938e2f7ae7620b4529109122802ffd642012c14ba9b73d6"), looks := true }, kinds := [], alts := [], laidByText := true, laidKinds := [.data, .data, .data, .data], laidTests := true, laidLooks := .later }
def SweepOpensUptoCardSaid : Prop := Claim7.holds Tryz.pinned (.plain (OpenSpec.upto sweepOpensSpec)) sweepOpensUptoCard

/-- THE SECOND FORM's CARD OF 'entrustlaw20.SweepPlays'. -/
def sweepPlaysUptoCard : Claim7 := { stood := { row := sweepPlaysUptoRow, standIns := [], harness := (true, "f3b1ea11218157b48938e2f7ae7620b4529109122802ffd642012c14ba9b73d6"), looks := true }, kinds := [], alts := [], laidByText := true, laidKinds := [.data, .data, .data, .data], laidTests := true, laidLooks := .later }
def SweepPlaysUptoCardSaid : Prop := Claim7.holds Tryz.pinned (.plain (OpenSpec.upto sweepPlaysSpec)) sweepPlaysUptoCard
end Rows
end Go.Proofs.YtfchcdbfalgdlaaGreatDoor
