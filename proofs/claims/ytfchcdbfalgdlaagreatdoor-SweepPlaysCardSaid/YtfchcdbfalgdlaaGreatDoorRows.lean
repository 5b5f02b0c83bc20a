/-
  NARROWER THAN 'FOR EVERY INPUT', by the rows' own cells (each row's printed sentence says how): SweepNil: laid · SweepKeeps: laid · SweepOpens: laid · SweepPlays: laid.
  DERIVED. THE GIVEN ROWS OF THIS SEAT. 4 by the template 'for every input the law returns true; each argument reads behind the call as it read before'; 0 by the template 'total and deterministic' (their statements: YtfchcdbfalgdlaaGreatDoorTotals.lean).
  GIVEN WITH THE SEED: the statements are not yours to turn. If you find one false, say at which input.
  Laid BY PROGRAM, IN A SANDBOX (cutbox-rows.mjs): the forced cells as the released guide's own fill.sh prints them over the translation 4166eae66df264a8… (all of the seat's roots in one cut). By AI agents, Wed Nov 11 2026. No macro, syntax, notation, axiom, sorry.
-/
import Derived.Test.YtfchcdbfalgdlaaGreatDoorChecked
import GoSem.Claim
import GoSem.ClaimJoined
import GoSem.ClaimMapViews
import Derived.JoinedTies
import Derived.KernelRfl
namespace Go.Proofs.YtfchcdbfalgdlaaGreatDoor
/- THE CELL 'sum', in the pinned program and in every row, IS THE sha256 OF THE DUMP (.gsa) THAT YtfchcdbfalgdlaaGreatDoorProg.lean LOADS. Nothing in Lean hashes anything: it is a label: what it is worth is what the hold of that sum in a sandbox is worth. -/
noncomputable def Tryz.pinned : Pinned := { name := "ytfchcdbfalgdlaagreatdoor", sum := "4166eae66df264a82d88e801503b357b67df373a8b8fb80504a0d999ef837412", checked := Tryz.checked }
namespace Rows
def none {H : Type} : Left H := { results := [], args := [] }

/- WHAT THE LISTED PACKAGE-LEVEL VARIABLES READ AS WHEN THE CALL BEGINS. Each datum BY PROGRAM (the guide's laid-datum.mjs) off the statement by which the dump's own 'gosem.cut.vars' lays the variable. In a bare row this is a premise. The card (YtfchcdbfalgdlaaGreatDoorCards.lean) ties it to the program's text. -/
def laid_entrust_sha_constants {H : Type} : DataW H := .agg [.lit (.int .u32 1116352408), .lit (.int .u32 1899447441), .lit (.int .u32 3049323471), .lit (.int .u32 3921009573), .lit (.int .u32 961987163), .lit (.int .u32 1508970993), .lit (.int .u32 2453635748), .lit (.int .u32 2870763221), .lit (.int .u32 3624381080), .lit (.int .u32 310598401), .lit (.int .u32 607225278), .lit (.int .u32 1426881987), .lit (.int .u32 1925078388), .lit (.int .u32 2162078206), .lit (.int .u32 2614888103), .lit (.int .u32 3248222580), .lit (.int .u32 3835390401), .lit (.int .u32 4022224774), .lit (.int .u32 264347078), .lit (.int .u32 604807628), .lit (.int .u32 770255983), .lit (.int .u32 1249150122), .lit (.int .u32 1555081692), .lit (.int .u32 1996064986), .lit (.int .u32 2554220882), .lit (.int .u32 2821834349), .lit (.int .u32 2952996808), .lit (.int .u32 3210313671), .lit (.int .u32 3336571891), .lit (.int .u32 3584528711), .lit (.int .u32 113926993), .lit (.int .u32 338241895), .lit (.int .u32 666307205), .lit (.int .u32 773529912), .lit (.int .u32 1294757372), .lit (.int .u32 1396182291), .lit (.int .u32 1695183700), .lit (.int .u32 1986661051), .lit (.int .u32 2177026350), .lit (.int .u32 2456956037), .lit (.int .u32 2730485921), .lit (.int .u32 2820302411), .lit (.int .u32 3259730800), .lit (.int .u32 3345764771), .lit (.int .u32 3516065817), .lit (.int .u32 3600352804), .lit (.int .u32 4094571909), .lit (.int .u32 275423344), .lit (.int .u32 430227734), .lit (.int .u32 506948616), .lit (.int .u32 659060556), .lit (.int .u32 883997877), .lit (.int .u32 958139571), .lit (.int .u32 1322822218), .lit (.int .u32 1537002063), .lit (.int .u32 1747873779), .lit (.int .u32 1955562222), .lit (.int .u32 2024104815), .lit (.int .u32 2227730452), .lit (.int .u32 2361852424), .lit (.int .u32 2428436474), .lit (.int .u32 2756734187), .lit (.int .u32 3204031479), .lit (.int .u32 3329325298)]
def laid_entrust_sha_initials {H : Type} : DataW H := .agg [.lit (.int .u32 1779033703), .lit (.int .u32 3144134277), .lit (.int .u32 1013904242), .lit (.int .u32 2773480762), .lit (.int .u32 1359893119), .lit (.int .u32 2600822924), .lit (.int .u32 528734635), .lit (.int .u32 1541459225)]
def laid_entrust_entrustref02_Constants {H : Type} : DataW H := .agg [.lit (.int .u32 1116352408), .lit (.int .u32 1899447441), .lit (.int .u32 3049323471), .lit (.int .u32 3921009573), .lit (.int .u32 961987163), .lit (.int .u32 1508970993), .lit (.int .u32 2453635748), .lit (.int .u32 2870763221), .lit (.int .u32 3624381080), .lit (.int .u32 310598401), .lit (.int .u32 607225278), .lit (.int .u32 1426881987), .lit (.int .u32 1925078388), .lit (.int .u32 2162078206), .lit (.int .u32 2614888103), .lit (.int .u32 3248222580), .lit (.int .u32 3835390401), .lit (.int .u32 4022224774), .lit (.int .u32 264347078), .lit (.int .u32 604807628), .lit (.int .u32 770255983), .lit (.int .u32 1249150122), .lit (.int .u32 1555081692), .lit (.int .u32 1996064986), .lit (.int .u32 2554220882), .lit (.int .u32 2821834349), .lit (.int .u32 2952996808), .lit (.int .u32 3210313671), .lit (.int .u32 3336571891), .lit (.int .u32 3584528711), .lit (.int .u32 113926993), .lit (.int .u32 338241895), .lit (.int .u32 666307205), .lit (.int .u32 773529912), .lit (.int .u32 1294757372), .lit (.int .u32 1396182291), .lit (.int .u32 1695183700), .lit (.int .u32 1986661051), .lit (.int .u32 2177026350), .lit (.int .u32 2456956037), .lit (.int .u32 2730485921), .lit (.int .u32 2820302411), .lit (.int .u32 3259730800), .lit (.int .u32 3345764771), .lit (.int .u32 3516065817), .lit (.int .u32 3600352804), .lit (.int .u32 4094571909), .lit (.int .u32 275423344), .lit (.int .u32 430227734), .lit (.int .u32 506948616), .lit (.int .u32 659060556), .lit (.int .u32 883997877), .lit (.int .u32 958139571), .lit (.int .u32 1322822218), .lit (.int .u32 1537002063), .lit (.int .u32 1747873779), .lit (.int .u32 1955562222), .lit (.int .u32 2024104815), .lit (.int .u32 2227730452), .lit (.int .u32 2361852424), .lit (.int .u32 2428436474), .lit (.int .u32 2756734187), .lit (.int .u32 3204031479), .lit (.int .u32 3329325298)]
def laid_entrust_entrustref02_Initials {H : Type} : DataW H := .agg [.lit (.int .u32 1779033703), .lit (.int .u32 3144134277), .lit (.int .u32 1013904242), .lit (.int .u32 2773480762), .lit (.int .u32 1359893119), .lit (.int .u32 2600822924), .lit (.int .u32 528734635), .lit (.int .u32 1541459225)]

/-- 'entrustlaw20.SweepNil': WHATEVER THE INPUT: true; the input reads as it did. -/
def sweepNilSpec : ChangeSpec := { name := "sweepNil", fn := fun _ => fun
  | [d] => { results := [.lit (.bool true)], args := [d] }
  | _ => none }
def sweepNilRow : OpenClaim := { program := "ytfchcdbfalgdlaagreatdoor", sum := "4166eae66df264a82d88e801503b357b67df373a8b8fb80504a0d999ef837412", func := "entrust/entrustlaw20.SweepNil", spec := "sweepNil", inPlace := ["internal/bytealg.MakeNoZero", "internal/reflectlite.TypeOf", "math.Float64frombits", "maps.clone"], unfollowed := true, recurses := true, named := ["entrust/sha.initials", "entrust/sha.constants"], apart := false, laid := [("entrust/sha.constants", laid_entrust_sha_constants), ("entrust/sha.initials", laid_entrust_sha_initials)] }
def SweepNilSaid : Prop := sweepNilRow.holds Tryz.pinned (OpenSpec.ofChange sweepNilSpec)

/-- ITS FALSE NEIGHBOUR: 'it returns false'. Refute it at one input. -/
def sweepNilWrong : ChangeSpec := { name := "sweepNil", fn := fun _ => fun
  | [d] => { results := [.lit (.bool false)], args := [d] }
  | _ => none }
def SweepNilWrongFalsely : Prop := sweepNilRow.holds Tryz.pinned (OpenSpec.ofChange sweepNilWrong)

/-- 'entrustlaw20.SweepKeeps': WHATEVER THE INPUT: true; the input reads as it did. -/
def sweepKeepsSpec : ChangeSpec := { name := "sweepKeeps", fn := fun _ => fun
  | [d1, d2] => { results := [.lit (.bool true)], args := [d1, d2] }
  | _ => none }
def sweepKeepsRow : OpenClaim := { program := "ytfchcdbfalgdlaagreatdoor", sum := "4166eae66df264a82d88e801503b357b67df373a8b8fb80504a0d999ef837412", func := "entrust/entrustlaw20.SweepKeeps", spec := "sweepKeeps", inPlace := ["internal/bytealg.MakeNoZero", "internal/reflectlite.TypeOf", "math.Float64frombits", "maps.clone"], unfollowed := true, recurses := true, named := ["entrust/sha.initials", "entrust/sha.constants"], apart := false, laid := [("entrust/sha.constants", laid_entrust_sha_constants), ("entrust/sha.initials", laid_entrust_sha_initials)] }
def SweepKeepsSaid : Prop := sweepKeepsRow.holds Tryz.pinned (OpenSpec.ofChange sweepKeepsSpec)

/-- ITS FALSE NEIGHBOUR: 'it returns false'. Refute it at one input. -/
def sweepKeepsWrong : ChangeSpec := { name := "sweepKeeps", fn := fun _ => fun
  | [d1, d2] => { results := [.lit (.bool false)], args := [d1, d2] }
  | _ => none }
def SweepKeepsWrongFalsely : Prop := sweepKeepsRow.holds Tryz.pinned (OpenSpec.ofChange sweepKeepsWrong)

/-- 'entrustlaw20.SweepOpens': WHATEVER THE INPUT: true; the input reads as it did. -/
def sweepOpensSpec : ChangeSpec := { name := "sweepOpens", fn := fun _ => fun
  | [d1, d2] => { results := [.lit (.bool true)], args := [d1, d2] }
  | _ => none }
def sweepOpensRow : OpenClaim := { program := "ytfchcdbfalgdlaagreatdoor", sum := "4166eae66df264a82d88e801503b357b67df373a8b8fb80504a0d999ef837412", func := "entrust/entrustlaw20.SweepOpens", spec := "sweepOpens", inPlace := ["internal/bytealg.MakeNoZero", "internal/reflectlite.TypeOf", "maps.clone", "math.Float64frombits", "math.Float64bits"], unfollowed := true, recurses := true, named := ["entrust/sha.initials", "entrust/sha.constants", "entrust/entrustref02.Initials", "entrust/entrustref02.Constants"], apart := false, laid := [("entrust/entrustref02.Constants", laid_entrust_entrustref02_Constants), ("entrust/entrustref02.Initials", laid_entrust_entrustref02_Initials), ("entrust/sha.constants", laid_entrust_sha_constants), ("entrust/sha.initials", laid_entrust_sha_initials)] }
def SweepOpensSaid : Prop := sweepOpensRow.holds Tryz.pinned (OpenSpec.ofChange sweepOpensSpec)

/-- ITS FALSE NEIGHBOUR: 'it returns false'. Refute it at one input. -/
def sweepOpensWrong : ChangeSpec := { name := "sweepOpens", fn := fun _ => fun
  | [d1, d2] => { results := [.lit (.bool false)], args := [d1, d2] }
  | _ => none }
def SweepOpensWrongFalsely : Prop := sweepOpensRow.holds Tryz.pinned (OpenSpec.ofChange sweepOpensWrong)

/-- 'entrustlaw20.SweepPlays': WHATEVER THE INPUT: true; the input reads as it did. -/
def sweepPlaysSpec : ChangeSpec := { name := "sweepPlays", fn := fun _ => fun
  | [d1, d2] => { results := [.lit (.bool true)], args := [d1, d2] }
  | _ => none }
def sweepPlaysRow : OpenClaim := { program := "ytfchcdbfalgdlaagreatdoor", sum := "4166eae66df264a82d88e801503b357b67df373a8b8fb80504a0d999ef837412", func := "entrust/entrustlaw20.SweepPlays", spec := "sweepPlays", inPlace := ["internal/bytealg.MakeNoZero", "internal/reflectlite.TypeOf", "math.Float64frombits", "maps.clone", "math.Float64bits"], unfollowed := true, recurses := true, named := ["entrust/sha.initials", "entrust/sha.constants", "entrust/entrustref02.Initials", "entrust/entrustref02.Constants"], apart := false, laid := [("entrust/entrustref02.Constants", laid_entrust_entrustref02_Constants), ("entrust/entrustref02.Initials", laid_entrust_entrustref02_Initials), ("entrust/sha.constants", laid_entrust_sha_constants), ("entrust/sha.initials", laid_entrust_sha_initials)] }
def SweepPlaysSaid : Prop := sweepPlaysRow.holds Tryz.pinned (OpenSpec.ofChange sweepPlaysSpec)

/-- ITS FALSE NEIGHBOUR: 'it returns false'. Refute it at one input. -/
def sweepPlaysWrong : ChangeSpec := { name := "sweepPlays", fn := fun _ => fun
  | [d1, d2] => { results := [.lit (.bool false)], args := [d1, d2] }
  | _ => none }
def SweepPlaysWrongFalsely : Prop := sweepPlaysRow.holds Tryz.pinned (OpenSpec.ofChange sweepPlaysWrong)

/- THE SECOND FORM. 'bulk': how many values and letters a reading holds, each counted each time it is reached (what is shared counts as often as it is met; a slice's spare places count too). A statement '..UptoSaid' is the law's where the arguments, and the package variables that the reading takes, are together of bulk at most 1048576: NARROWER than '..Said'. Prove '..Said' where nothing that the law and all that it calls make is longer than what came in: it says more and counts as full. Else prove '..UptoSaid'. A law counts once. -/
mutual
def uptoBulk {H : Type} : DataW H → Nat
  | .lit (.string bytes) => bytes.length + 1
  | .lit _ => 1
  | .nil => 1
  | .ptr d => uptoBulk d + 1
  | .slice elems spare => uptoBulkAll elems + uptoBulkAll spare + 1
  | .agg parts => uptoBulkAll parts + 1
  | .iface _ d => uptoBulk d + 1
  | .map entries => uptoBulkEntries entries + 1
  | .held _ => 1
def uptoBulkAll {H : Type} : List (DataW H) → Nat
  | [] => 0
  | d :: r => uptoBulk d + uptoBulkAll r
def uptoBulkEntries {H : Type} : List (Lit × DataW H) → Nat
  | [] => 0
  | x :: r => uptoBulkEntry x + uptoBulkEntries r
def uptoBulkEntry {H : Type} : Lit × DataW H → Nat
  | (.string bytes, d) => bytes.length + uptoBulk d + 1
  | (_, d) => uptoBulk d + 1
 end
def uptoSmall : (H : Type) → List (DataW H) → Bool := fun _ ds => decide (uptoBulkAll ds ≤ 1048576)
def OpenSpec.upto (s : _root_.Go.ChangeSpec) : _root_.Go.OpenSpec := { _root_.Go.OpenSpec.ofChange s with cond := some uptoSmall }

/-- 'entrustlaw20.SweepNil', WHERE WHAT IT READS IS OF BULK AT MOST 1048576: true; the input reads as it did. -/
def sweepNilUptoRow : OpenClaim := { program := "ytfchcdbfalgdlaagreatdoor", sum := "4166eae66df264a82d88e801503b357b67df373a8b8fb80504a0d999ef837412", func := "entrust/entrustlaw20.SweepNil", spec := "sweepNil", inPlace := ["internal/bytealg.MakeNoZero", "internal/reflectlite.TypeOf", "math.Float64frombits", "maps.clone"], unfollowed := true, recurses := true, named := ["entrust/sha.initials", "entrust/sha.constants"], apart := false, laid := [("entrust/sha.constants", laid_entrust_sha_constants), ("entrust/sha.initials", laid_entrust_sha_initials)], narrowed := true }
def SweepNilUptoSaid : Prop := sweepNilUptoRow.holds Tryz.pinned (OpenSpec.upto sweepNilSpec)

/-- 'entrustlaw20.SweepKeeps', WHERE WHAT IT READS IS OF BULK AT MOST 1048576: true; the input reads as it did. -/
def sweepKeepsUptoRow : OpenClaim := { program := "ytfchcdbfalgdlaagreatdoor", sum := "4166eae66df264a82d88e801503b357b67df373a8b8fb80504a0d999ef837412", func := "entrust/entrustlaw20.SweepKeeps", spec := "sweepKeeps", inPlace := ["internal/bytealg.MakeNoZero", "internal/reflectlite.TypeOf", "math.Float64frombits", "maps.clone"], unfollowed := true, recurses := true, named := ["entrust/sha.initials", "entrust/sha.constants"], apart := false, laid := [("entrust/sha.constants", laid_entrust_sha_constants), ("entrust/sha.initials", laid_entrust_sha_initials)], narrowed := true }
def SweepKeepsUptoSaid : Prop := sweepKeepsUptoRow.holds Tryz.pinned (OpenSpec.upto sweepKeepsSpec)

/-- 'entrustlaw20.SweepOpens', WHERE WHAT IT READS IS OF BULK AT MOST 1048576: true; the input reads as it did. -/
def sweepOpensUptoRow : OpenClaim := { program := "ytfchcdbfalgdlaagreatdoor", sum := "4166eae66df264a82d88e801503b357b67df373a8b8fb80504a0d999ef837412", func := "entrust/entrustlaw20.SweepOpens", spec := "sweepOpens", inPlace := ["internal/bytealg.MakeNoZero", "internal/reflectlite.TypeOf", "maps.clone", "math.Float64frombits", "math.Float64bits"], unfollowed := true, recurses := true, named := ["entrust/sha.initials", "entrust/sha.constants", "entrust/entrustref02.Initials", "entrust/entrustref02.Constants"], apart := false, laid := [("entrust/entrustref02.Constants", laid_entrust_entrustref02_Constants), ("entrust/entrustref02.Initials", laid_entrust_entrustref02_Initials), ("entrust/sha.constants", laid_entrust_sha_constants), ("entrust/sha.initials", laid_entrust_sha_initials)], narrowed := true }
def SweepOpensUptoSaid : Prop := sweepOpensUptoRow.holds Tryz.pinned (OpenSpec.upto sweepOpensSpec)

/-- 'entrustlaw20.SweepPlays', WHERE WHAT IT READS IS OF BULK AT MOST 1048576: true; the input reads as it did. -/
def sweepPlaysUptoRow : OpenClaim := { program := "ytfchcdbfalgdlaagreatdoor", sum := "4166eae66df264a82d88e801503b357b67df373a8b8fb80504a0d999ef837412", func := "entrust/entrustlaw20.SweepPlays", spec := "sweepPlays", inPlace := ["internal/bytealg.MakeNoZero", "internal/reflectlite.TypeOf", "math.Float64frombits", "maps.clone", "math.Float64bits"], unfollowed := true, recurses := true, named := ["entrust/sha.initials", "entrust/sha.constants", "entrust/entrustref02.Initials", "entrust/entrustref02.Constants"], apart := false, laid := [("entrust/entrustref02.Constants", laid_entrust_entrustref02_Constants), ("entrust/entrustref02.Initials", laid_entrust_entrustref02_Initials), ("entrust/sha.constants", laid_entrust_sha_constants), ("entrust/sha.initials", laid_entrust_sha_initials)], narrowed := true }
def SweepPlaysUptoSaid : Prop := sweepPlaysUptoRow.holds Tryz.pinned (OpenSpec.upto sweepPlaysSpec)

end Rows
end Go.Proofs.YtfchcdbfalgdlaaGreatDoor
