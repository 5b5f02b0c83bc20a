/- Texts of one proof, one behind the other: RdJ. No condition but each one's own. -/
import Derived.Test.YtdojmjglnlkmoaaDoorRecordPlaysM25
/- RecordPlays, as its statement's row wants it. sha's tables and the reference's are as they were laid. No condition else but the bound on what is read. -/
namespace Go.Proofs.YtdojmjglnlkmoaaDoor
set_option linter.unusedVariables false
set_option linter.unusedSimpArgs false
set_option linter.constructorNameAsVariable false
open Go.RowKit Go.Sort

theorem plays_law {W : World} {v1 : Value} (a : Int) (ha : (Lit.int .i64 a).wf = true) (o1 : ∃ (A : Option Addr) (n c : Nat) (L : List AR), v1 = .slice A n c ∧ n ≤ maxLen ∧ L.length = n ∧ Rd (fun b => b < W.heap.size) W 40 A n (L.flatMap AR.cells) ∧ ∀ a ∈ L, a.Good W)
    (hL : laidMetH Tryd.prog [("entrust/entrustref02.Constants", Rows.laid_entrust_entrustref02_Constants), ("entrust/entrustref02.Initials", Rows.laid_entrust_entrustref02_Initials), ("entrust/sha.constants", Rows.laid_entrust_sha_constants), ("entrust/sha.initials", Rows.laid_entrust_sha_initials)] W) :
    Calls Tryd.prog 6 #[.int .i64 a, v1] W fun e w' => e = .returned (.bool true) ∧ Below W.heap.size W w' := by
  obtain ⟨A, m, c, L, rfl, hm, hl, hS, hg⟩ := o1
  have hs := (sha_both hL).2
  have hr := (sha_both hL).1
  by_cases h1 : 40 < m
  · exact plays_long a A m c W hs h1
  by_cases h2 : 100 < a ∧ a ≤ 16384
  · exact plays_mid a A m c W hs h1 h2.1 h2.2
  by_cases h3 : 1 ≤ a ∧ a ≤ 16384
  · obtain ⟨n, rfl⟩ : ∃ n : Nat, a = (n : Int) := ⟨a.toNat, by omega⟩
    by_cases h4 : n < 4
    · exact plays_few n A m c W hs h1 (by omega) h4
    · exact plays_main n A m c L W hs hr h1 (by omega) (by omega) hS hl hg
  · exact plays_none a A m c W hs h1 h2 h3
end Go.Proofs.YtdojmjglnlkmoaaDoor
