/-
  DERIVED. GIVEN WITH THE SEED: THE CARDS: each row of YtdojmjglnlkmoaaDoorRows.lean that lists a variable, with what it lists TIED to the program's text (the seventh form; the later family's looks); each row that meets fmt, with fmt's text TOLD by the authors' own Lean function (tested against real Go, not proved from fmt's source: count such statements apart). THE CARD IS WHAT COUNTS. Prove the row's statement (the work); the ties are given (YtdojmjglnlkmoaaDoorTie.lean); close each card by the builder's one call (the guide's Derived/Test/ToyasCard.lean, 'card_holds'). Laid BY PROGRAM, IN A SANDBOX (cutbox-door.mjs). By AI agents, Wed Nov 11 2026. No macro, syntax, notation, axiom, sorry.
-/
import Derived.Test.YtdojmjglnlkmoaaDoorRows
import GoSem.ClaimSeven
namespace Go.Proofs.YtdojmjglnlkmoaaDoor
namespace Rows

/-- THE TIED CARD OF 'entrustlaw27.RecordReads'. -/
def recordReadsCard : Claim7 := { stood := { row := recordReadsRow, standIns := [], harness := (true, "a10c22e7c63b7ff9a56ad1912c74aa30971477a5fad21a3ffe28beb5116c3b0f"), looks := true }, kinds := [], alts := [], laidByText := true, laidKinds := [.data, .data, .data, .data], laidTests := true, laidLooks := .later }
def RecordReadsCardSaid : Prop := Claim7.holds Tryd.pinned (.plain (OpenSpec.ofChange recordReadsSpec)) recordReadsCard

/-- THE TIED CARD OF 'entrustlaw27.RecordFirst'. -/
def recordFirstCard : Claim7 := { stood := { row := recordFirstRow, standIns := [], harness := (true, "a10c22e7c63b7ff9a56ad1912c74aa30971477a5fad21a3ffe28beb5116c3b0f"), looks := true }, kinds := [], alts := [], laidByText := true, laidKinds := [.data, .data, .data, .data], laidTests := true, laidLooks := .later }
def RecordFirstCardSaid : Prop := Claim7.holds Tryd.pinned (.plain (OpenSpec.ofChange recordFirstSpec)) recordFirstCard

/-- THE TIED CARD OF 'entrustlaw27.RecordKeeps'. -/
def recordKeepsCard : Claim7 := { stood := { row := recordKeepsRow, standIns := [], harness := (true, "a10c22e7c63b7ff9a56ad1912c74aa30971477a5fad21a3ffe28beb5116c3b0f"), looks := true }, kinds := [], alts := [], laidByText := true, laidKinds := [.data, .data], laidTests := true, laidLooks := .later }
def RecordKeepsCardSaid : Prop := Claim7.holds Tryd.pinned (.plain (OpenSpec.ofChange recordKeepsSpec)) recordKeepsCard

/-- THE TIED CARD OF 'entrustlaw27.RecordPlays'. -/
def recordPlaysCard : Claim7 := { stood := { row := recordPlaysRow, standIns := [], harness := (true, "a10c22e7c63b7ff9a56ad1912c74aa30971477a5fad21a3ffe28beb5116c3b0f"), looks := true }, kinds := [], alts := [], laidByText := true, laidKinds := [.data, .data, .data, .data], laidTests := true, laidLooks := .later }
def RecordPlaysCardSaid : Prop := Claim7.holds Tryd.pinned (.plain (OpenSpec.ofChange recordPlaysSpec)) recordPlaysCard

/-- THE SECOND FORM's CARD OF 'entrustlaw27.RecordReads'. -/
def recordReadsUptoCard : Claim7 := { stood := { row := recordReadsUptoRow, standIns := [], harness := (true, "a10c22e7c63b7ff9a56ad1912c74aa30971477a5fad21a3ffe28beb5116c3b0f"), looks := true }, kinds := [], alts := [], laidByText := true, laidKinds := [.data, .data, .data, .data], laidTests := true, laidLooks := .later }
def RecordReadsUptoCardSaid : Prop := Claim7.holds Tryd.pinned (.plain (OpenSpec.upto recordReadsSpec)) recordReadsUptoCard

/-- THE SECOND FORM's CARD OF 'entrustlaw27.RecordFirst'. -/
def recordFirstUptoCard : Claim7 := { stood := { row := recordFirstUptoRow, standIns := [], harness := (true, "a10c22e7c63b7ff9a56ad1912c74aa30971477a5fad21a3ffe28beb5116c3b0f"), looks := true }, kinds := [], alts := [], laidByText := true, laidKinds := [.data, .data, .data, .data], laidTests := true, laidLooks := .later }
def RecordFirstUptoCardSaid : Prop := Claim7.holds Tryd.pinned (.plain (OpenSpec.upto recordFirstSpec)) recordFirstUptoCard

/-- THE SECOND FORM's CARD OF 'entrustlaw27.RecordKeeps'. -/
def recordKeepsUptoCard : Claim7 := { stood := { row := recordKeepsUptoRow, standIns := [], harness := (true, "a10c22e7c63b7ff9a56ad1912c74aa30971477a5fad21a3ffe28beb5116c3b0f"), looks := true }, kinds := [], alts := [], laidByText := true, laidKinds := [.data, .data], laidTests := true, laidLooks := .later }
def RecordKeepsUptoCardSaid : Prop := Claim7.holds Tryd.pinned (.plain (OpenSpec.upto recordKeepsSpec)) recordKeepsUptoCard

/-- THE SECOND FORM's CARD OF 'entrustlaw27.RecordPlays'. -/
def recordPlaysUptoCard : Claim7 := { stood := { row := recordPlaysUptoRow, standIns := [], harness := (true, "a10c22e7c63b7ff9a56ad1912c74aa30971477a5fad21a3ffe28beb5116c3b0f"), looks := true }, kinds := [], alts := [], laidByText := true, laidKinds := [.data, .data, .data, .data], laidTests := true, laidLooks := .later }
def RecordPlaysUptoCardSaid : Prop := Claim7.holds Tryd.pinned (.plain (OpenSpec.upto recordPlaysSpec)) recordPlaysUptoCard
end Rows
end Go.Proofs.YtdojmjglnlkmoaaDoor
