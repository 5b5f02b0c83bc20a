/-
  DERIVED. GIVEN WITH THE SEED: THE CARDS: each row of YtpifnmlnhddgeaaGreatDoorRows.lean that lists a variable, with what it lists TIED to the program's text (the seventh form; the later family's looks); each row that meets fmt, with fmt's text TOLD by the authors' own Lean function (tested against real Go, not proved from fmt's source: count such statements apart). THE CARD IS WHAT COUNTS. Prove the row's statement (the work); the ties are given (YtpifnmlnhddgeaaGreatDoorTie.lean); close each card by the builder's one call (the guide's Derived/Test/ToyasCard.lean, 'card_holds'). Laid BY PROGRAM, IN A SANDBOX (cutbox-door.mjs). By AI agents, Wed Nov 11 2026. No macro, syntax, notation, axiom, sorry.
-/
import Derived.Test.YtpifnmlnhddgeaaGreatDoorRows
import GoSem.ClaimSeven
namespace Go.Proofs.YtpifnmlnhddgeaaGreatDoor
namespace Rows

/-- THE TIED CARD OF 'entrustlaw21.VaultKeeps'. -/
def vaultKeepsCard : Claim7 := { stood := { row := vaultKeepsRow, standIns := [], harness := (true, "b98a0e0d2ba4b27abf7a3b17a022b243f6ff10ea74cd96b74949be32de937e34"), looks := true }, kinds := [], alts := [], laidByText := true, laidKinds := [.data, .data], laidTests := true, laidLooks := .later }
def VaultKeepsCardSaid : Prop := Claim7.holds Tryz.pinned (.plain (OpenSpec.ofChange vaultKeepsSpec)) vaultKeepsCard

/-- THE TIED CARD OF 'entrustlaw21.VaultPlays'. -/
def vaultPlaysCard : Claim7 := { stood := { row := vaultPlaysRow, standIns := [], harness := (true, "b98a0e0d2ba4b27abf7a3b17a022b243f6ff10ea74cd96b74949be32de937e34"), looks := true }, kinds := [], alts := [], laidByText := true, laidKinds := [.data, .data, .data, .data], laidTests := true, laidLooks := .later }
def VaultPlaysCardSaid : Prop := Claim7.holds Tryz.pinned (.plain (OpenSpec.ofChange vaultPlaysSpec)) vaultPlaysCard

/-- THE TIED CARD OF 'entrustlaw21.VaultReads'. -/
def vaultReadsCard : Claim7 := { stood := { row := vaultReadsRow, standIns := [], harness := (true, "b98a0e0d2ba4b27abf7a3b17a022b243f6ff10ea74cd96b74949be32de937e34"), looks := true }, kinds := [], alts := [], laidByText := true, laidKinds := [.data, .data, .data, .data], laidTests := true, laidLooks := .later }
def VaultReadsCardSaid : Prop := Claim7.holds Tryz.pinned (.plain (OpenSpec.ofChange vaultReadsSpec)) vaultReadsCard

/-- THE TIED CARD OF 'entrustlaw21.VaultNil'. -/
def vaultNilCard : Claim7 := { stood := { row := vaultNilRow, standIns := [], harness := (true, "b98a0e0d2ba4b27abf7a3b17a022b243f6ff10ea74cd96b74949be32de937e34"), looks := true }, kinds := [], alts := [], laidByText := true, laidKinds := [.data, .data], laidTests := true, laidLooks := .later }
def VaultNilCardSaid : Prop := Claim7.holds Tryz.pinned (.plain (OpenSpec.ofChange vaultNilSpec)) vaultNilCard

/-- THE TIED CARD OF 'entrustlaw21.VaultProves'. -/
def vaultProvesCard : Claim7 := { stood := { row := vaultProvesRow, standIns := [], harness := (true, "b98a0e0d2ba4b27abf7a3b17a022b243f6ff10ea74cd96b74949be32de937e34"), looks := true }, kinds := [], alts := [], laidByText := true, laidKinds := [.data, .data], laidTests := true, laidLooks := .later }
def VaultProvesCardSaid : Prop := Claim7.holds Tryz.pinned (.plain (OpenSpec.ofChange vaultProvesSpec)) vaultProvesCard

/-- THE SECOND FORM's CARD OF 'entrustlaw21.VaultKeeps'. -/
def vaultKeepsUptoCard : Claim7 := { stood := { row := vaultKeepsUptoRow, standIns := [], harness := (true, "b98a0e0d2ba4b27abf7a3b17a022b243f6ff10ea74cd96b74949be32de937e34"), looks := true }, kinds := [], alts := [], laidByText := true, laidKinds := [.data, .data], laidTests := true, laidLooks := .later }
def VaultKeepsUptoCardSaid : Prop := Claim7.holds Tryz.pinned (.plain (OpenSpec.upto vaultKeepsSpec)) vaultKeepsUptoCard

/-- THE SECOND FORM's CARD OF 'entrustlaw21.VaultPlays'. -/
def vaultPlaysUptoCard : Claim7 := { stood := { row := vaultPlaysUptoRow, standIns := [], harness := (true, "b98a0e0d2ba4b27abf7a3b17a022b243f6ff10ea74cd96b74949be32de937e34"), looks := true }, kinds := [], alts := [], laidByText := true, laidKinds := [.data, .data, .data, .data], laidTests := true, laidLooks := .later }
def VaultPlaysUptoCardSaid : Prop := Claim7.holds Tryz.pinned (.plain (OpenSpec.upto vaultPlaysSpec)) vaultPlaysUptoCard

/-- THE SECOND FORM's CARD OF 'entrustlaw21.VaultReads'. -/
def vaultReadsUptoCard : Claim7 := { stood := { row := vaultReadsUptoRow, standIns := [], harness := (true, "b98a0e0d2ba4b27abf7a3b17a022b243f6ff10ea74cd96b74949be32de937e34"), looks := true }, kinds := [], alts := [], laidByText := true, laidKinds := [.data, .data, .data, .data], laidTests := true, laidLooks := .later }
def VaultReadsUptoCardSaid : Prop := Claim7.holds Tryz.pinned (.plain (OpenSpec.upto vaultReadsSpec)) vaultReadsUptoCard

/-- THE SECOND FORM's CARD OF 'entrustlaw21.VaultNil'. -/
def vaultNilUptoCard : Claim7 := { stood := { row := vaultNilUptoRow, standIns := [], harness := (true, "b98a0e0d2ba4b27abf7a3b17a022b243f6ff10ea74cd96b74949be32de937e34"), looks := true }, kinds := [], alts := [], laidByText := true, laidKinds := [.data, .data], laidTests := true, laidLooks := .later }
def VaultNilUptoCardSaid : Prop := Claim7.holds Tryz.pinned (.plain (OpenSpec.upto vaultNilSpec)) vaultNilUptoCard

/-- THE SECOND FORM's CARD OF 'entrustlaw21.VaultProves'. -/
def vaultProvesUptoCard : Claim7 := { stood := { row := vaultProvesUptoRow, standIns := [], harness := (true, "b98a0e0d2ba4b27abf7a3b17a022b243f6ff10ea74cd96b74949be32de937e34"), looks := true }, kinds := [], alts := [], laidByText := true, laidKinds := [.data, .data], laidTests := true, laidLooks := .later }
def VaultProvesUptoCardSaid : Prop := Claim7.holds Tryz.pinned (.plain (OpenSpec.upto vaultProvesSpec)) vaultProvesUptoCard
end Rows
end Go.Proofs.YtpifnmlnhddgeaaGreatDoor
