/-
  NARROWER THAN 'FOR EVERY INPUT', by the rows' own cells (each row's printed sentence says how): VaultKeeps: laid · VaultPlays: laid · VaultReads: laid · VaultNil: laid · VaultProves: laid.
  DERIVED. THE GIVEN ROWS OF THIS SEAT. 5 by the template 'for every input the law returns true; each argument reads behind the call as it read before'; 0 by the template 'total and deterministic' (their statements: YtpifnmlnhddgeaaGreatDoorTotals.lean).
  GIVEN WITH THE SEED: the statements are not yours to turn. If you find one false, say at which input.
  Laid BY PROGRAM, IN A SANDBOX (cutbox-rows.mjs): the forced cells as the released guide's own fill.sh prints them over the translation 989ee028990013ff… (all of the seat's roots in one cut). By AI agents, Wed Nov 11 2026. No macro, syntax, notation, axiom, sorry.
-/
import Derived.Test.YtpifnmlnhddgeaaGreatDoorChecked
import GoSem.Claim
import GoSem.ClaimJoined
import GoSem.ClaimMapViews
import Derived.JoinedTies
import Derived.KernelRfl
namespace Go.Proofs.YtpifnmlnhddgeaaGreatDoor
/- THE CELL 'sum', in the pinned program and in every row, IS THE sha256 OF THE DUMP (.gsa) THAT YtpifnmlnhddgeaaGreatDoorProg.lean LOADS. Nothing in Lean hashes anything: it is a label: what it is worth is what the hold of that sum in a sandbox is worth. -/
noncomputable def Tryz.pinned : Pinned := { name := "ytpifnmlnhddgeaagreatdoor", sum := "989ee028990013ff3c240593304c60555604097562dddb36d814965f05466f89", checked := Tryz.checked }
namespace Rows
def none {H : Type} : Left H := { results := [], args := [] }

/- WHAT THE LISTED PACKAGE-LEVEL VARIABLES READ AS WHEN THE CALL BEGINS. Each datum BY PROGRAM (the guide's laid-datum.mjs) off the statement by which the dump's own 'gosem.cut.vars' lays the variable. In a bare row this is a premise. The card (YtpifnmlnhddgeaaGreatDoorCards.lean) ties it to the program's text. -/
def laid_entrust_sha_constants {H : Type} : DataW H := .agg [.lit (.int .u32 1116352408), .lit (.int .u32 1899447441), .lit (.int .u32 3049323471), .lit (.int .u32 3921009573), .lit (.int .u32 961987163), .lit (.int .u32 1508970993), .lit (.int .u32 2453635748), .lit (.int .u32 2870763221), .lit (.int .u32 3624381080), .lit (.int .u32 310598401), .lit (.int .u32 607225278), .lit (.int .u32 1426881987), .lit (.int .u32 1925078388), .lit (.int .u32 2162078206), .lit (.int .u32 2614888103), .lit (.int .u32 3248222580), .lit (.int .u32 3835390401), .lit (.int .u32 4022224774), .lit (.int .u32 264347078), .lit (.int .u32 604807628), .lit (.int .u32 770255983), .lit (.int .u32 1249150122), .lit (.int .u32 1555081692), .lit (.int .u32 1996064986), .lit (.int .u32 2554220882), .lit (.int .u32 2821834349), .lit (.int .u32 2952996808), .lit (.int .u32 3210313671), .lit (.int .u32 3336571891), .lit (.int .u32 3584528711), .lit (.int .u32 113926993), .lit (.int .u32 338241895), .lit (.int .u32 666307205), .lit (.int .u32 773529912), .lit (.int .u32 1294757372), .lit (.int .u32 1396182291), .lit (.int .u32 1695183700), .lit (.int .u32 1986661051), .lit (.int .u32 2177026350), .lit (.int .u32 2456956037), .lit (.int .u32 2730485921), .lit (.int .u32 2820302411), .lit (.int .u32 3259730800), .lit (.int .u32 3345764771), .lit (.int .u32 3516065817), .lit (.int .u32 3600352804), .lit (.int .u32 4094571909), .lit (.int .u32 275423344), .lit (.int .u32 430227734), .lit (.int .u32 506948616), .lit (.int .u32 659060556), .lit (.int .u32 883997877), .lit (.int .u32 958139571), .lit (.int .u32 1322822218), .lit (.int .u32 1537002063), .lit (.int .u32 1747873779), .lit (.int .u32 1955562222), .lit (.int .u32 2024104815), .lit (.int .u32 2227730452), .lit (.int .u32 2361852424), .lit (.int .u32 2428436474), .lit (.int .u32 2756734187), .lit (.int .u32 3204031479), .lit (.int .u32 3329325298)]
def laid_entrust_sha_initials {H : Type} : DataW H := .agg [.lit (.int .u32 1779033703), .lit (.int .u32 3144134277), .lit (.int .u32 1013904242), .lit (.int .u32 2773480762), .lit (.int .u32 1359893119), .lit (.int .u32 2600822924), .lit (.int .u32 528734635), .lit (.int .u32 1541459225)]
def laid_entrust_entrustref02_Constants {H : Type} : DataW H := .agg [.lit (.int .u32 1116352408), .lit (.int .u32 1899447441), .lit (.int .u32 3049323471), .lit (.int .u32 3921009573), .lit (.int .u32 961987163), .lit (.int .u32 1508970993), .lit (.int .u32 2453635748), .lit (.int .u32 2870763221), .lit (.int .u32 3624381080), .lit (.int .u32 310598401), .lit (.int .u32 607225278), .lit (.int .u32 1426881987), .lit (.int .u32 1925078388), .lit (.int .u32 2162078206), .lit (.int .u32 2614888103), .lit (.int .u32 3248222580), .lit (.int .u32 3835390401), .lit (.int .u32 4022224774), .lit (.int .u32 264347078), .lit (.int .u32 604807628), .lit (.int .u32 770255983), .lit (.int .u32 1249150122), .lit (.int .u32 1555081692), .lit (.int .u32 1996064986), .lit (.int .u32 2554220882), .lit (.int .u32 2821834349), .lit (.int .u32 2952996808), .lit (.int .u32 3210313671), .lit (.int .u32 3336571891), .lit (.int .u32 3584528711), .lit (.int .u32 113926993), .lit (.int .u32 338241895), .lit (.int .u32 666307205), .lit (.int .u32 773529912), .lit (.int .u32 1294757372), .lit (.int .u32 1396182291), .lit (.int .u32 1695183700), .lit (.int .u32 1986661051), .lit (.int .u32 2177026350), .lit (.int .u32 2456956037), .lit (.int .u32 2730485921), .lit (.int .u32 2820302411), .lit (.int .u32 3259730800), .lit (.int .u32 3345764771), .lit (.int .u32 3516065817), .lit (.int .u32 3600352804), .lit (.int .u32 4094571909), .lit (.int .u32 275423344), .lit (.int .u32 430227734), .lit (.int .u32 506948616), .lit (.int .u32 659060556), .lit (.int .u32 883997877), .lit (.int .u32 958139571), .lit (.int .u32 1322822218), .lit (.int .u32 1537002063), .lit (.int .u32 1747873779), .lit (.int .u32 1955562222), .lit (.int .u32 2024104815), .lit (.int .u32 2227730452), .lit (.int .u32 2361852424), .lit (.int .u32 2428436474), .lit (.int .u32 2756734187), .lit (.int .u32 3204031479), .lit (.int .u32 3329325298)]
def laid_entrust_entrustref02_Initials {H : Type} : DataW H := .agg [.lit (.int .u32 1779033703), .lit (.int .u32 3144134277), .lit (.int .u32 1013904242), .lit (.int .u32 2773480762), .lit (.int .u32 1359893119), .lit (.int .u32 2600822924), .lit (.int .u32 528734635), .lit (.int .u32 1541459225)]

/-- 'entrustlaw21.VaultKeeps': WHATEVER THE INPUT: true; the input reads as it did. -/
def vaultKeepsSpec : ChangeSpec := { name := "vaultKeeps", fn := fun _ => fun
  | [d1, d2, d3] => { results := [.lit (.bool true)], args := [d1, d2, d3] }
  | _ => none }
def vaultKeepsRow : OpenClaim := { program := "ytpifnmlnhddgeaagreatdoor", sum := "989ee028990013ff3c240593304c60555604097562dddb36d814965f05466f89", func := "entrust/entrustlaw21.VaultKeeps", spec := "vaultKeeps", inPlace := ["internal/bytealg.MakeNoZero", "internal/reflectlite.TypeOf", "maps.clone"], unfollowed := true, recurses := true, named := ["entrust/sha.initials", "entrust/sha.constants"], plainKeys := false, apart := false, laid := [("entrust/sha.constants", laid_entrust_sha_constants), ("entrust/sha.initials", laid_entrust_sha_initials)] }
def VaultKeepsSaid : Prop := vaultKeepsRow.holds Tryz.pinned (OpenSpec.ofChange vaultKeepsSpec)

/-- ITS FALSE NEIGHBOUR: 'it returns false'. Refute it at one input. -/
def vaultKeepsWrong : ChangeSpec := { name := "vaultKeeps", fn := fun _ => fun
  | [d1, d2, d3] => { results := [.lit (.bool false)], args := [d1, d2, d3] }
  | _ => none }
def VaultKeepsWrongFalsely : Prop := vaultKeepsRow.holds Tryz.pinned (OpenSpec.ofChange vaultKeepsWrong)

/-- 'entrustlaw21.VaultPlays': WHATEVER THE INPUT: true; the input reads as it did. -/
def vaultPlaysSpec : ChangeSpec := { name := "vaultPlays", fn := fun _ => fun
  | [d1, d2] => { results := [.lit (.bool true)], args := [d1, d2] }
  | _ => none }
def vaultPlaysRow : OpenClaim := { program := "ytpifnmlnhddgeaagreatdoor", sum := "989ee028990013ff3c240593304c60555604097562dddb36d814965f05466f89", func := "entrust/entrustlaw21.VaultPlays", spec := "vaultPlays", inPlace := ["internal/bytealg.MakeNoZero", "internal/reflectlite.TypeOf", "maps.clone"], unfollowed := true, recurses := true, named := ["entrust/sha.initials", "entrust/sha.constants", "entrust/entrustref02.Initials", "entrust/entrustref02.Constants"], plainKeys := false, apart := false, laid := [("entrust/entrustref02.Constants", laid_entrust_entrustref02_Constants), ("entrust/entrustref02.Initials", laid_entrust_entrustref02_Initials), ("entrust/sha.constants", laid_entrust_sha_constants), ("entrust/sha.initials", laid_entrust_sha_initials)] }
def VaultPlaysSaid : Prop := vaultPlaysRow.holds Tryz.pinned (OpenSpec.ofChange vaultPlaysSpec)

/-- ITS FALSE NEIGHBOUR: 'it returns false'. Refute it at one input. -/
def vaultPlaysWrong : ChangeSpec := { name := "vaultPlays", fn := fun _ => fun
  | [d1, d2] => { results := [.lit (.bool false)], args := [d1, d2] }
  | _ => none }
def VaultPlaysWrongFalsely : Prop := vaultPlaysRow.holds Tryz.pinned (OpenSpec.ofChange vaultPlaysWrong)

/-- 'entrustlaw21.VaultReads': WHATEVER THE INPUT: true; the input reads as it did. -/
def vaultReadsSpec : ChangeSpec := { name := "vaultReads", fn := fun _ => fun
  | [d1, d2, d3] => { results := [.lit (.bool true)], args := [d1, d2, d3] }
  | _ => none }
def vaultReadsRow : OpenClaim := { program := "ytpifnmlnhddgeaagreatdoor", sum := "989ee028990013ff3c240593304c60555604097562dddb36d814965f05466f89", func := "entrust/entrustlaw21.VaultReads", spec := "vaultReads", inPlace := ["internal/bytealg.MakeNoZero", "internal/reflectlite.TypeOf", "maps.clone"], unfollowed := true, recurses := true, named := ["entrust/sha.initials", "entrust/sha.constants", "entrust/entrustref02.Initials", "entrust/entrustref02.Constants"], plainKeys := false, apart := false, laid := [("entrust/entrustref02.Constants", laid_entrust_entrustref02_Constants), ("entrust/entrustref02.Initials", laid_entrust_entrustref02_Initials), ("entrust/sha.constants", laid_entrust_sha_constants), ("entrust/sha.initials", laid_entrust_sha_initials)] }
def VaultReadsSaid : Prop := vaultReadsRow.holds Tryz.pinned (OpenSpec.ofChange vaultReadsSpec)

/-- ITS FALSE NEIGHBOUR: 'it returns false'. Refute it at one input. -/
def vaultReadsWrong : ChangeSpec := { name := "vaultReads", fn := fun _ => fun
  | [d1, d2, d3] => { results := [.lit (.bool false)], args := [d1, d2, d3] }
  | _ => none }
def VaultReadsWrongFalsely : Prop := vaultReadsRow.holds Tryz.pinned (OpenSpec.ofChange vaultReadsWrong)

/-- 'entrustlaw21.VaultNil': WHATEVER THE INPUT: true; the input reads as it did. -/
def vaultNilSpec : ChangeSpec := { name := "vaultNil", fn := fun _ => fun
  | [d1, d2, d3] => { results := [.lit (.bool true)], args := [d1, d2, d3] }
  | _ => none }
def vaultNilRow : OpenClaim := { program := "ytpifnmlnhddgeaagreatdoor", sum := "989ee028990013ff3c240593304c60555604097562dddb36d814965f05466f89", func := "entrust/entrustlaw21.VaultNil", spec := "vaultNil", inPlace := ["internal/bytealg.MakeNoZero", "internal/reflectlite.TypeOf", "maps.clone", "math.Float64frombits"], unfollowed := true, recurses := true, named := ["entrust/sha.initials", "entrust/sha.constants"], plainKeys := false, apart := false, laid := [("entrust/sha.constants", laid_entrust_sha_constants), ("entrust/sha.initials", laid_entrust_sha_initials)] }
def VaultNilSaid : Prop := vaultNilRow.holds Tryz.pinned (OpenSpec.ofChange vaultNilSpec)

/-- ITS FALSE NEIGHBOUR: 'it returns false'. Refute it at one input. -/
def vaultNilWrong : ChangeSpec := { name := "vaultNil", fn := fun _ => fun
  | [d1, d2, d3] => { results := [.lit (.bool false)], args := [d1, d2, d3] }
  | _ => none }
def VaultNilWrongFalsely : Prop := vaultNilRow.holds Tryz.pinned (OpenSpec.ofChange vaultNilWrong)

/-- 'entrustlaw21.VaultProves': WHATEVER THE INPUT: true; the input reads as it did. -/
def vaultProvesSpec : ChangeSpec := { name := "vaultProves", fn := fun _ => fun
  | [d1, d2, d3] => { results := [.lit (.bool true)], args := [d1, d2, d3] }
  | _ => none }
def vaultProvesRow : OpenClaim := { program := "ytpifnmlnhddgeaagreatdoor", sum := "989ee028990013ff3c240593304c60555604097562dddb36d814965f05466f89", func := "entrust/entrustlaw21.VaultProves", spec := "vaultProves", inPlace := ["internal/bytealg.MakeNoZero", "internal/reflectlite.TypeOf", "maps.clone", "slices.overlaps[entrust/api.Hash]"], unfollowed := true, recurses := true, named := ["entrust/sha.initials", "entrust/sha.constants"], plainKeys := false, apart := false, laid := [("entrust/sha.constants", laid_entrust_sha_constants), ("entrust/sha.initials", laid_entrust_sha_initials)] }
def VaultProvesSaid : Prop := vaultProvesRow.holds Tryz.pinned (OpenSpec.ofChange vaultProvesSpec)

/-- ITS FALSE NEIGHBOUR: 'it returns false'. Refute it at one input. -/
def vaultProvesWrong : ChangeSpec := { name := "vaultProves", fn := fun _ => fun
  | [d1, d2, d3] => { results := [.lit (.bool false)], args := [d1, d2, d3] }
  | _ => none }
def VaultProvesWrongFalsely : Prop := vaultProvesRow.holds Tryz.pinned (OpenSpec.ofChange vaultProvesWrong)

/- THE SECOND FORM. 'bulk': how many values and letters a reading holds, each counted each time it is reached (what is shared counts as often as it is met; a slice's spare places count too). A statement '..UptoSaid' is the law's where the arguments, and the package variables that the reading takes, are together of bulk at most 1048576: NARROWER than '..Said'. Prove '..Said' where nothing that the law and all that it calls make is longer than what came in: it says more and counts as full. Else prove '..UptoSaid'. A law counts once. -/
mutual
def uptoBulk {H : Type} : DataW H → Nat
  | .lit (.string bytes) => bytes.length + 1
  | .lit _ => 1
  | .nil => 1
  | .ptr d => uptoBulk d + 1
  | .slice elems spare => uptoBulkAll elems + uptoBulkAll spare + 1
  | .agg parts => uptoBulkAll parts + 1
  | .iface _ d => uptoBulk d + 1
  | .map entries => uptoBulkEntries entries + 1
  | .held _ => 1
def uptoBulkAll {H : Type} : List (DataW H) → Nat
  | [] => 0
  | d :: r => uptoBulk d + uptoBulkAll r
def uptoBulkEntries {H : Type} : List (Lit × DataW H) → Nat
  | [] => 0
  | x :: r => uptoBulkEntry x + uptoBulkEntries r
def uptoBulkEntry {H : Type} : Lit × DataW H → Nat
  | (.string bytes, d) => bytes.length + uptoBulk d + 1
  | (_, d) => uptoBulk d + 1
 end
def uptoSmall : (H : Type) → List (DataW H) → Bool := fun _ ds => decide (uptoBulkAll ds ≤ 1048576)
def OpenSpec.upto (s : _root_.Go.ChangeSpec) : _root_.Go.OpenSpec := { _root_.Go.OpenSpec.ofChange s with cond := some uptoSmall }

/-- 'entrustlaw21.VaultKeeps', WHERE WHAT IT READS IS OF BULK AT MOST 1048576: true; the input reads as it did. -/
def vaultKeepsUptoRow : OpenClaim := { program := "ytpifnmlnhddgeaagreatdoor", sum := "989ee028990013ff3c240593304c60555604097562dddb36d814965f05466f89", func := "entrust/entrustlaw21.VaultKeeps", spec := "vaultKeeps", inPlace := ["internal/bytealg.MakeNoZero", "internal/reflectlite.TypeOf", "maps.clone"], unfollowed := true, recurses := true, named := ["entrust/sha.initials", "entrust/sha.constants"], plainKeys := false, apart := false, laid := [("entrust/sha.constants", laid_entrust_sha_constants), ("entrust/sha.initials", laid_entrust_sha_initials)], narrowed := true }
def VaultKeepsUptoSaid : Prop := vaultKeepsUptoRow.holds Tryz.pinned (OpenSpec.upto vaultKeepsSpec)

/-- 'entrustlaw21.VaultPlays', WHERE WHAT IT READS IS OF BULK AT MOST 1048576: true; the input reads as it did. -/
def vaultPlaysUptoRow : OpenClaim := { program := "ytpifnmlnhddgeaagreatdoor", sum := "989ee028990013ff3c240593304c60555604097562dddb36d814965f05466f89", func := "entrust/entrustlaw21.VaultPlays", spec := "vaultPlays", inPlace := ["internal/bytealg.MakeNoZero", "internal/reflectlite.TypeOf", "maps.clone"], unfollowed := true, recurses := true, named := ["entrust/sha.initials", "entrust/sha.constants", "entrust/entrustref02.Initials", "entrust/entrustref02.Constants"], plainKeys := false, apart := false, laid := [("entrust/entrustref02.Constants", laid_entrust_entrustref02_Constants), ("entrust/entrustref02.Initials", laid_entrust_entrustref02_Initials), ("entrust/sha.constants", laid_entrust_sha_constants), ("entrust/sha.initials", laid_entrust_sha_initials)], narrowed := true }
def VaultPlaysUptoSaid : Prop := vaultPlaysUptoRow.holds Tryz.pinned (OpenSpec.upto vaultPlaysSpec)

/-- 'entrustlaw21.VaultReads', WHERE WHAT IT READS IS OF BULK AT MOST 1048576: true; the input reads as it did. -/
def vaultReadsUptoRow : OpenClaim := { program := "ytpifnmlnhddgeaagreatdoor", sum := "989ee028990013ff3c240593304c60555604097562dddb36d814965f05466f89", func := "entrust/entrustlaw21.VaultReads", spec := "vaultReads", inPlace := ["internal/bytealg.MakeNoZero", "internal/reflectlite.TypeOf", "maps.clone"], unfollowed := true, recurses := true, named := ["entrust/sha.initials", "entrust/sha.constants", "entrust/entrustref02.Initials", "entrust/entrustref02.Constants"], plainKeys := false, apart := false, laid := [("entrust/entrustref02.Constants", laid_entrust_entrustref02_Constants), ("entrust/entrustref02.Initials", laid_entrust_entrustref02_Initials), ("entrust/sha.constants", laid_entrust_sha_constants), ("entrust/sha.initials", laid_entrust_sha_initials)], narrowed := true }
def VaultReadsUptoSaid : Prop := vaultReadsUptoRow.holds Tryz.pinned (OpenSpec.upto vaultReadsSpec)

/-- 'entrustlaw21.VaultNil', WHERE WHAT IT READS IS OF BULK AT MOST 1048576: true; the input reads as it did. -/
def vaultNilUptoRow : OpenClaim := { program := "ytpifnmlnhddgeaagreatdoor", sum := "989ee028990013ff3c240593304c60555604097562dddb36d814965f05466f89", func := "entrust/entrustlaw21.VaultNil", spec := "vaultNil", inPlace := ["internal/bytealg.MakeNoZero", "internal/reflectlite.TypeOf", "maps.clone", "math.Float64frombits"], unfollowed := true, recurses := true, named := ["entrust/sha.initials", "entrust/sha.constants"], plainKeys := false, apart := false, laid := [("entrust/sha.constants", laid_entrust_sha_constants), ("entrust/sha.initials", laid_entrust_sha_initials)], narrowed := true }
def VaultNilUptoSaid : Prop := vaultNilUptoRow.holds Tryz.pinned (OpenSpec.upto vaultNilSpec)

/-- 'entrustlaw21.VaultProves', WHERE WHAT IT READS IS OF BULK AT MOST 1048576: true; the input reads as it did. -/
def vaultProvesUptoRow : OpenClaim := { program := "ytpifnmlnhddgeaagreatdoor", sum := "989ee028990013ff3c240593304c60555604097562dddb36d814965f05466f89", func := "entrust/entrustlaw21.VaultProves", spec := "vaultProves", inPlace := ["internal/bytealg.MakeNoZero", "internal/reflectlite.TypeOf", "maps.clone", "slices.overlaps[entrust/api.Hash]"], unfollowed := true, recurses := true, named := ["entrust/sha.initials", "entrust/sha.constants"], plainKeys := false, apart := false, laid := [("entrust/sha.constants", laid_entrust_sha_constants), ("entrust/sha.initials", laid_entrust_sha_initials)], narrowed := true }
def VaultProvesUptoSaid : Prop := vaultProvesUptoRow.holds Tryz.pinned (OpenSpec.upto vaultProvesSpec)

end Rows
end Go.Proofs.YtpifnmlnhddgeaaGreatDoor
