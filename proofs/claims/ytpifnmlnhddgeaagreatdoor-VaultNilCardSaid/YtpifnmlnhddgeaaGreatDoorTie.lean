/-
  DERIVED. GIVEN WITH THE SEED: THE PROGRAM's TIES (one call each: nine closed facts by the kernel) AND EACH ROW's TIE, after the 31st guide's Derived/Test/Toyas{Tie, Card}.lean. No idea stands in it: it is a product of the set-up. Laid BY PROGRAM, IN A SANDBOX (cutbox-door.mjs). By AI agents, Wed Nov 11 2026. No macro, syntax, notation, axiom, sorry.
-/
import Derived.Test.YtpifnmlnhddgeaaGreatDoorRows
import Derived.LaidByTextLater
import Derived.SevenTiedAt
import Derived.LaidSub
import Derived.LaidOnce
namespace Go.Proofs.YtpifnmlnhddgeaaGreatDoor
open Go
set_option maxRecDepth 100000
theorem seatTie1 : Tryz.prog.laidByTextLater [("entrust/entrustref02.Constants", Rows.laid_entrust_entrustref02_Constants), ("entrust/entrustref02.Initials", Rows.laid_entrust_entrustref02_Initials), ("entrust/sha.constants", Rows.laid_entrust_sha_constants), ("entrust/sha.initials", Rows.laid_entrust_sha_initials)] [.data, .data, .data, .data] true :=
  Program.laidByTextLater_by_one 29 8 65 (by kernel_rfl) (by kernel_rfl) (by kernel_rfl) (by kernel_rfl) (by kernel_rfl) (by kernel_rfl) (fun _ _ => by kernel_rfl)
theorem noOwnUnsafe : Tryz.pinned.checked.prog.headLifts.contains "ownunsafe" = false := by kernel_rfl
theorem tie : Tryz.prog.laidByTextLater [("entrust/sha.constants", Rows.laid_entrust_sha_constants), ("entrust/sha.initials", Rows.laid_entrust_sha_initials)] [.data, .data] true :=
  Program.laidByTextLater.sub seatTie1 ["entrust/sha.constants", "entrust/sha.initials"] (by kernel_rfl) (by kernel_rfl)
theorem vaultKeeps_row_tie : Rows.vaultKeepsRow.laidByTextAt .later Tryz.pinned [.data, .data] true :=
  OpenClaim.laidByTextAt_later rfl rfl tie noOwnUnsafe
theorem vaultNil_row_tie : Rows.vaultNilRow.laidByTextAt .later Tryz.pinned [.data, .data] true :=
  OpenClaim.laidByTextAt_later rfl rfl tie noOwnUnsafe
theorem vaultProves_row_tie : Rows.vaultProvesRow.laidByTextAt .later Tryz.pinned [.data, .data] true :=
  OpenClaim.laidByTextAt_later rfl rfl tie noOwnUnsafe
theorem tie2 : Tryz.prog.laidByTextLater [("entrust/entrustref02.Constants", Rows.laid_entrust_entrustref02_Constants), ("entrust/entrustref02.Initials", Rows.laid_entrust_entrustref02_Initials), ("entrust/sha.constants", Rows.laid_entrust_sha_constants), ("entrust/sha.initials", Rows.laid_entrust_sha_initials)] [.data, .data, .data, .data] true :=
  Program.laidByTextLater.sub seatTie1 ["entrust/entrustref02.Constants", "entrust/entrustref02.Initials", "entrust/sha.constants", "entrust/sha.initials"] (by kernel_rfl) (by kernel_rfl)
theorem vaultPlays_row_tie : Rows.vaultPlaysRow.laidByTextAt .later Tryz.pinned [.data, .data, .data, .data] true :=
  OpenClaim.laidByTextAt_later rfl rfl tie2 noOwnUnsafe
theorem vaultReads_row_tie : Rows.vaultReadsRow.laidByTextAt .later Tryz.pinned [.data, .data, .data, .data] true :=
  OpenClaim.laidByTextAt_later rfl rfl tie2 noOwnUnsafe
theorem vaultKeepsUpto_row_tie : Rows.vaultKeepsUptoRow.laidByTextAt .later Tryz.pinned [.data, .data] true :=
  OpenClaim.laidByTextAt_later rfl rfl tie noOwnUnsafe
theorem vaultPlaysUpto_row_tie : Rows.vaultPlaysUptoRow.laidByTextAt .later Tryz.pinned [.data, .data, .data, .data] true :=
  OpenClaim.laidByTextAt_later rfl rfl tie2 noOwnUnsafe
theorem vaultReadsUpto_row_tie : Rows.vaultReadsUptoRow.laidByTextAt .later Tryz.pinned [.data, .data, .data, .data] true :=
  OpenClaim.laidByTextAt_later rfl rfl tie2 noOwnUnsafe
theorem vaultNilUpto_row_tie : Rows.vaultNilUptoRow.laidByTextAt .later Tryz.pinned [.data, .data] true :=
  OpenClaim.laidByTextAt_later rfl rfl tie noOwnUnsafe
theorem vaultProvesUpto_row_tie : Rows.vaultProvesUptoRow.laidByTextAt .later Tryz.pinned [.data, .data] true :=
  OpenClaim.laidByTextAt_later rfl rfl tie noOwnUnsafe
end Go.Proofs.YtpifnmlnhddgeaaGreatDoor
