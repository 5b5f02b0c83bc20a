/- WindowNil's walk: a nil window answers as said, for every number and thing. No condition. -/
import Derived.Test.YthhgepnneaehhaaAlive
import Derived.Test.YthhgepnneaehhaaWinD
namespace Go.Proofs.Ythhgepnneaehhaa
open Go.RowKit

theorem nil_walk (n : Int) (_ : (Lit.int .u64 n).wf = true) (x : Int) (_ : (Lit.int .i64 x).wf = true) (w : World) : Calls Try.prog 5 #[.int .u64 n, .int .i64 x] w fun e w' => e = .returned (.bool true) ∧ Below w.heap.size w w' := by
  go_enter Try.func5, Try.ntmps5
  go_wp2_with fail
  refine (alive_any w).mono ?_
  rintro e w1 ⟨rfl, b1⟩
  go_wp2_with fail
  refine (Wi.add_nil _ w1).mono ?_
  rintro e w2 ⟨rfl, b2⟩
  go_wp2_with fail
  refine (Wi.renew_nil _ _ w2).mono ?_
  rintro e w3 ⟨rfl, b3⟩
  go_wp2_with fail
  refine (Wi.next_nil w3).mono ?_
  rintro e w4 ⟨rfl, b4⟩
  go_wp2_with fail
  refine (Wi.get_nil _ w4).mono ?_
  rintro e w5 ⟨rfl, b5⟩
  go_wp2_with fail
  refine (is_some 11 11 w5 (by omega)).mono ?_
  rintro e w6 ⟨rfl, rfl⟩
  go_wp2_with fail
  refine (is_some 11 11 w5 (by omega)).mono ?_
  rintro e w6 ⟨rfl, rfl⟩
  go_wp2_with fail
  refine (Wi.answer_nil _ _ w5).mono ?_
  rintro e w6 ⟨rfl, b6⟩
  go_wp2_with fail
  refine (Wi.len_nil w6).mono ?_
  rintro e w7 ⟨rfl, rfl⟩
  go_wp2_with fail
  refine (Wi.all_nil w6).mono ?_
  rintro e w7 ⟨rfl, rfl⟩
  go_wp2_with fail
  refine (Wi.open_nil w6).mono ?_
  rintro e w7 ⟨rfl, rfl⟩
  go_wp2_with fail
  refine (Wi.full_nil w6).mono ?_
  rintro e w7 ⟨rfl, b7⟩
  go_wp2_with fail
  go_ret
  have s1 := b1.size
  have s2 := b2.size
  have s3 := b3.size
  have s4 := b4.size
  have s5 := b5.size
  have s6 := b6.size
  exact ⟨rfl, ((((((b1.trans (b2.mono (by omega))).trans (b3.mono (by omega))).trans (b4.mono (by omega))).trans (b5.mono (by omega))).trans (b6.mono (by omega))).trans (b7.mono (by omega)))⟩
end Go.Proofs.Ythhgepnneaehhaa
