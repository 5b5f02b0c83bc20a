/- Texts of one proof, one behind the other: KyP. No condition but each one's own. -/
import Derived.Test.YtmibndkofoldkaaGreatDoorClientNilM16
import Derived.Test.YtmibndkofoldkaaGreatDoorClientNilM1
namespace Go.Proofs.YtmibndkofoldkaaGreatDoor
set_option linter.unusedVariables false
set_option linter.unusedSimpArgs false
set_option linter.constructorNameAsVariable false
open Go.RowKit Go.Maps
def wSeal : List Int := [101, 110, 116, 114, 117, 115, 116, 32, 115, 101, 97, 108]
def wTag : List Int := [101, 110, 116, 114, 117, 115, 116, 32, 116, 97, 103]
def wTick : List Int := [101, 110, 116, 114, 117, 115, 116, 32, 116, 105, 99, 107, 101, 116]
def wLink : List Int := [101, 110, 116, 114, 117, 115, 116, 32, 108, 105, 110, 107]
theorem wSeal_byt : Byt wSeal := by unfold wSeal; intro x hx; revert x; decide
theorem wTag_byt : Byt wTag := by unfold wTag; intro x hx; revert x; decide
theorem wTick_byt : Byt wTick := by unfold wTick; intro x hx; revert x; decide
theorem wLink_byt : Byt wLink := by unfold wLink; intro x hx; revert x; decide
def encK (key : List Int) : List Int := (macL key wSeal).take 16
def tagK (key : List Int) : List Int := macL key wTag
def tickK (key : List Int) : List Int := macL key wTick
def linkK (key : List Int) : List Int := macL key wLink
theorem encK_len (key : List Int) : (encK key).length = 16 := shortL_len _ _
theorem tagK_len (key : List Int) : (tagK key).length = 32 := macL_len _ _
theorem tickK_len (key : List Int) : (tickK key).length = 32 := macL_len _ _
theorem linkK_len (key : List Int) : (linkK key).length = 32 := macL_len _ _
theorem encK_byt (key : List Int) : Byt (encK key) := shortL_byt _ _
theorem linkK_byt (key : List Int) : Byt (linkK key) := macL_byt _ _
def sesK (link : List Int) (n : Nat) : List Int := macL link (beL 8 n)
theorem sesK_len (link : List Int) (n : Nat) : (sesK link n).length = 32 := macL_len _ _
theorem sesK_byt (link : List Int) (n : Nat) : Byt (sesK link n) := macL_byt _ _
def frmB (way n : Nat) (body : List Int) : List Int := beL 1 way ++ beL 8 n ++ body
def frmL (link : List Int) (way n : Nat) (body : List Int) : List Int := frmB way n body ++ shortL (sesK link n) (frmB way n body)
theorem frmB_len (way n : Nat) (body : List Int) : (frmB way n body).length = 9 + body.length := by simp [frmB, beL_len]; omega
theorem frmL_len (link : List Int) (way n : Nat) (body : List Int) : (frmL link way n body).length = 25 + body.length := by
 unfold frmL; rw [List.length_append, frmB_len, shortL_len]; omega
theorem frmB_byt {way n : Nat} {body : List Int} (h : Byt body) : Byt (frmB way n body) := by
 intro x hx
 unfold frmB at hx
 rcases List.mem_append.1 hx with h1 | h1
 · rcases List.mem_append.1 h1 with h2 | h2
   · exact beL_byt _ _ x h2
   · exact beL_byt _ _ x h2
 · exact h x h1
theorem frmL_byt {link : List Int} {way n : Nat} {body : List Int} (h : Byt body) : Byt (frmL link way n body) := fun x hx => (List.mem_append.1 hx).elim (frmB_byt h x) (shortL_byt _ _ x)
end Go.Proofs.YtmibndkofoldkaaGreatDoor
