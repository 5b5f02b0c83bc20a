/-
  DERIVED. GIVEN WITH THE SEED: THE CARDS: each row of YteeclfejgpgooaaDoorRows.lean that lists a variable, with what it lists TIED to the program's text (the seventh form; the later family's looks); each row that meets fmt, with fmt's text TOLD by the authors' own Lean function (tested against real Go, not proved from fmt's source: count such statements apart). THE CARD IS WHAT COUNTS. Prove the row's statement (the work); the ties are given (YteeclfejgpgooaaDoorTie.lean); close each card by the builder's one call (the guide's Derived/Test/ToyasCard.lean, 'card_holds'). Laid BY PROGRAM, IN A SANDBOX (cutbox-door.mjs). By AI agents, Wed Nov 11 2026. No macro, syntax, notation, axiom, sorry.
-/
import Derived.Test.YteeclfejgpgooaaDoorRows
import GoSem.ClaimSeven
namespace Go.Proofs.YteeclfejgpgooaaDoor
namespace Rows

/-- THE TIED CARD OF 'entrustlaw17.LogReads'. -/
def logReadsCard : Claim7 := { stood := { row := logReadsRow, standIns := [], harness := (true, "9f2cebb0f4f475a0a89eada1108b7706575f9ea8379918a5d7f7a66a52e66ae9"), looks := true }, kinds := [], alts := [], laidByText := true, laidKinds := [.data, .data, .data, .data], laidTests := true, laidLooks := .later }
def LogReadsCardSaid : Prop := Claim7.holds Tryd.pinned (.plain (OpenSpec.ofChange logReadsSpec)) logReadsCard

/-- THE TIED CARD OF 'entrustlaw17.LogSizes'. -/
def logSizesCard : Claim7 := { stood := { row := logSizesRow, standIns := [], harness := (true, "9f2cebb0f4f475a0a89eada1108b7706575f9ea8379918a5d7f7a66a52e66ae9"), looks := true }, kinds := [], alts := [], laidByText := true, laidKinds := [.data, .data], laidTests := true, laidLooks := .later }
def LogSizesCardSaid : Prop := Claim7.holds Tryd.pinned (.plain (OpenSpec.ofChange logSizesSpec)) logSizesCard

/-- THE TIED CARD OF 'entrustlaw17.LogKeeps'. -/
def logKeepsCard : Claim7 := { stood := { row := logKeepsRow, standIns := [], harness := (true, "9f2cebb0f4f475a0a89eada1108b7706575f9ea8379918a5d7f7a66a52e66ae9"), looks := true }, kinds := [], alts := [], laidByText := true, laidKinds := [.data, .data], laidTests := true, laidLooks := .later }
def LogKeepsCardSaid : Prop := Claim7.holds Tryd.pinned (.plain (OpenSpec.ofChange logKeepsSpec)) logKeepsCard

/-- THE TIED CARD OF 'entrustlaw17.LogPlays'. -/
def logPlaysCard : Claim7 := { stood := { row := logPlaysRow, standIns := [], harness := (true, "9f2cebb0f4f475a0a89eada1108b7706575f9ea8379918a5d7f7a66a52e66ae9"), looks := true }, kinds := [], alts := [], laidByText := true, laidKinds := [.data, .data, .data, .data], laidTests := true, laidLooks := .later }
def LogPlaysCardSaid : Prop := Claim7.holds Tryd.pinned (.plain (OpenSpec.ofChange logPlaysSpec)) logPlaysCard

/-- THE SECOND FORM's CARD OF 'entrustlaw17.LogReads'. -/
def logReadsUptoCard : Claim7 := { stood := { row := logReadsUptoRow, standIns := [], harness := (true, "9f2cebb0f4f475a0a89eada1108b7706575f9ea8379918a5d7f7a66a52e66ae9"), looks := true }, kinds := [], alts := [], laidByText := true, laidKinds := [.data, .data, .data, .data], laidTests := true, laidLooks := .later }
def LogReadsUptoCardSaid : Prop := Claim7.holds Tryd.pinned (.plain (OpenSpec.upto logReadsSpec)) logReadsUptoCard

/-- THE SECOND FORM's CARD OF 'entrustlaw17.LogSizes'. -/
def logSizesUptoCard : Claim7 := { stood := { row := logSizesUptoRow, standIns := [], harness := (true, "9f2cebb0f4f475a0a89eada1108b7706575f9ea8379918a5d7f7a66a52e66ae9"), looks := true }, kinds := [], alts := [], laidByText := true, laidKinds := [.data, .data], laidTests := true, laidLooks := .later }
def LogSizesUptoCardSaid : Prop := Claim7.holds Tryd.pinned (.plain (OpenSpec.upto logSizesSpec)) logSizesUptoCard

/-- THE SECOND FORM's CARD OF 'entrustlaw17.LogKeeps'. -/
def logKeepsUptoCard : Claim7 := { stood := { row := logKeepsUptoRow, standIns := [], harness := (true, "9f2cebb0f4f475a0a89eada1108b7706575f9ea8379918a5d7f7a66a52e66ae9"), looks := true }, kinds := [], alts := [], laidByText := true, laidKinds := [.data, .data], laidTests := true, laidLooks := .later }
def LogKeepsUptoCardSaid : Prop := Claim7.holds Tryd.pinned (.plain (OpenSpec.upto logKeepsSpec)) logKeepsUptoCard

/-- THE SECOND FORM's CARD OF 'entrustlaw17.LogPlays'. -/
def logPlaysUptoCard : Claim7 := { stood := { row := logPlaysUptoRow, standIns := [], harness := (true, "9f2cebb0f4f475a0a89eada1108b7706575f9ea8379918a5d7f7a66a52e66ae9"), looks := true }, kinds := [], alts := [], laidByText := true, laidKinds := [.data, .data, .data, .data], laidTests := true, laidLooks := .later }
def LogPlaysUptoCardSaid : Prop := Claim7.holds Tryd.pinned (.plain (OpenSpec.upto logPlaysSpec)) logPlaysUptoCard
end Rows
end Go.Proofs.YteeclfejgpgooaaDoor
