/- Windows: slices.Delete at their elements, and Next. No condition. -/
import Derived.Test.YthhgepnneaehhaaWsB
import Derived.Test.YthhgepnneaehhaaDel
namespace Go.Proofs.Ythhgepnneaehhaa.Ws
open Go.Proofs.Ythhgepnneaehhaa
open Go.RowKit

theorem del_any (base b n c i j : Nat) (xs : List Value) (w : World) (hO : w.ownsRow base 70 4 (.slice (some ⟨b, 0, none⟩) n c) n xs) (hij : i < j) (hj : j ≤ n) (hnc : n ≤ c) (hcm : c ≤ maxLen) (h1 : ∀ u ∈ xs, u.oneCell' = true) :
    Calls Try.prog 30 #[.slice (some ⟨b, 0, none⟩) n c, .int .i64 i, .int .i64 j] w fun e w' => e = .returned (.slice (some ⟨b, 0, none⟩) (i + (n - j)) c) ∧
      w'.ownsRow base 70 4 (.slice (some ⟨b, 0, none⟩) (i + (n - j)) c) (i + (n - j)) (xs.take (i * 4) ++ xs.drop (j * 4)) ∧ Fr (fun k => k = b) w w' := by
  unfold maxLen at hcm
  have hic : i ≤ c := by omega
  have hjc : j ≤ c := by omega
  have hcut : w.drew.ownsRow base 70 4 (.slice (some ⟨b, 0, none⟩) i c) i (xs.take (i * 4)) := own_cut hO (by omega)
  have hsrc : Rd (fun _ => True) w.drew 4 (if c = j then some ⟨b, 0, none⟩ else some ⟨b, j * 4, none⟩) (n - j) (xs.drop (j * 4)) := by
    have := ((Rd.own hO rfl).imp (q := fun _ => True) (fun _ _ => trivial)).drop (cap := c) hj hnc
    rw [Option.map_some, add_own] at this
    exact this
  have hne : ((i : Int) == (j : Int)) = false := by simp; omega
  have HC := Lib.hid hcut
  have HS := Lib.hid hsrc
  have HO := Lib.hid hO
  have HI := Lib.hid h1
  clear hcut hsrc hO h1
  go_enter Try.func30, Try.ntmps30
  go_wp2_with fail
  go_region_law (refine step_app_fits elS rfl (.tmp 22) (.tmp 25) rfl (base := base) (g := b) (n := i) (cap := c) (xs := xs.take (i * 4)) (by simp [Act.eval, Act.put]) HC.out _ (n - j) (c - j) (xs.drop (j * 4)) (by simp [Act.eval, Act.put]) HS.out (fun u hu => HI.out u (List.mem_of_mem_drop hu)) (by omega) ?_; intro w2 hO2 hF2)
  obtain ⟨w3, hcl, hO3, hF3⟩ := run_clear_own (P := Try.prog) (size := 4) Try.underlying65 (z := .agg #[.int .u64 0, .string ⟨#[]⟩, .int .i64 0, .bool false]) (fun _ => by kernel_rfl) rfl (by simp [Value.cells, Value.oneCell']) 0 hO2 (n - (i + (n - j))) (c - (i + (n - j))) _ rfl (by omega)
  clear hO2
  have HO3 := Lib.hid hO3
  clear hO3
  go_wp2_with fail
  all_goals go_ret
  · subst_vars; exact ⟨rfl, HO3.out, Fr.ofDrew (hF2.trans hF3)⟩
  · exact ⟨rfl, HO3.out, Fr.ofDrew (hF2.trans hF3)⟩

theorem next_nil (w : World) : Calls Try.prog 10 #[.pointer none] w fun e w' => e = .returned (.tuple #[.string ⟨#[]⟩, .int .i64 0, .bool false]) ∧ Below w.heap.size w w' := by
  go_enter Try.func10, Try.ntmps10
  go_wp2_with fail
  go_quiet (fail)
  go_wp2_with fail
  go_ret3
  exact ⟨rfl, below_drewN ((Below.refl _ _).alloc (Nat.le_refl _) _) _⟩
theorem next_none (base g : Nat) (v : Value) (L : List Wt) (most next : Int) (w : World) (hW : Win w base g v L most next) (hL : (nextL L).2 = none) :
    Calls Try.prog 10 #[.pointer (some ⟨g, 0, none⟩)] w fun e w' => e = .returned (.tuple #[.string ⟨#[]⟩, .int .i64 0, .bool false]) ∧ Below w.heap.size w w' := by
  obtain ⟨A, c, rfl, hnc, hcm, -, -⟩ := own_shape hW.2.2.1
  have h0 : w.cell? ⟨g, 0, none⟩ = some (.slice A L.length c) := hW.2.1.cell 0
  rcases L with _ | ⟨x, r⟩
  · have hl : (([] : List Wt).length : Int) == 0 := rfl
    go_enter Try.func10, Try.ntmps10
    go_wp2_with fail
    go_quiet (fail)
    go_wp2_with fail
    go_ret3
    exact ⟨rfl, below_drewN ((Below.refl _ _).alloc (Nat.le_refl _) _) _⟩
  · have hd : x.done = false := by
      rcases h : x.done with _ | _
      · rfl
      · simp [nextL, h] at hL
    obtain ⟨b, c', hv, _⟩ := own_form hW.2.2.1 (by simp)
    injection hv with hA
    subst hA
    have hc3 : w.cell? ⟨b, 3, none⟩ = some (.bool false) := by rw [hW.2.2.1.cellAt 3 (by simp; omega)]; simp [flat, Wt.cells, hd]
    have hz0 : (((r.length : Nat) : Int) + 1 == 0) = false := by simp; omega
    have hlen := hW.2.2.2
    have h0' : w.cell? ⟨g, 0, none⟩ = some (.slice (some ⟨b, 0, none⟩) (r.length + 1) c) := h0
    clear h0 hW hL hd
    simp only [List.length_cons] at hlen
    go_enter Try.func10, Try.ntmps10
    go_wp2_with fail
    go_quiet (fail)
    go_wp2_with fail
    go_ret3
    exact ⟨rfl, below_drewN ((Below.refl _ _).alloc (Nat.le_refl _) _) _⟩

theorem flat_one_cell (L : List Wt) (h : ∀ x ∈ L, x.thing.oneCell' = true) : ∀ u ∈ flat L, u.oneCell' = true := by
  intro u hu
  simp only [flat, List.mem_flatMap] at hu
  obtain ⟨x, hx, hu⟩ := hu
  simp [Wt.cells] at hu
  rcases hu with rfl | rfl | rfl | rfl
  · rfl
  · exact h x hx
  · rfl
  · rfl

/-- The first thing, answered, is handed back and taken out. -/
theorem next_some (base g : Nat) (v : Value) (n d : Int) (a : ByteArray) (L : List Wt) (most next : Int) (w : World) (hW : Win w base g v (⟨n, .string a, d, true⟩ :: L) most next) (h1 : ∀ x ∈ L, x.thing.oneCell' = true) :
    Calls Try.prog 10 #[.pointer (some ⟨g, 0, none⟩)] w fun e w' => e = .returned (.tuple #[.string a, .int .i64 d, .bool true]) ∧
      ∃ v', Win w' base g v' L most next ∧ v'.ownBlock = v.ownBlock ∧ Fr (fun k => k = g ∨ v.ownBlock = some k) w w' := by
  obtain ⟨b, c, rfl, hnc, hcm⟩ := own_form hW.2.2.1 (by simp)
  have h0 : w.cell? ⟨g, 0, none⟩ = some (.slice (some ⟨b, 0, none⟩) (L.length + 1) c) := hW.2.1.cell 0
  have hc0 : w.cell? ⟨b, 0, none⟩ = some (.int .u64 n) := by rw [hW.2.2.1.cellAt 0 (by simp)]; simp [flat, Wt.cells]
  have hc1 : w.cell? ⟨b, 1, none⟩ = some (.string a) := by rw [hW.2.2.1.cellAt 1 (by simp; omega)]; simp [flat, Wt.cells]
  have hc2 : w.cell? ⟨b, 2, none⟩ = some (.int .i64 d) := by rw [hW.2.2.1.cellAt 2 (by simp; omega)]; simp [flat, Wt.cells]
  have hc3 : w.cell? ⟨b, 3, none⟩ = some (.bool true) := by rw [hW.2.2.1.cellAt 3 (by simp; omega)]; simp [flat, Wt.cells]
  have hlen := hW.2.2.2
  simp only [List.length_cons] at hlen hnc
  have hz0 : (((L.length : Nat) : Int) + 1 == 0) = false := by simp; omega
  have hbl := hW.2.1.lt
  have hbb := (own_lt hW.2.2.1 b rfl).2
  have HW := Lib.hid hW
  clear hW
  go_enter Try.func10, Try.ntmps10
  go_wp2_with fail
  refine (del_any base b (L.length + 1) c 0 1 _ _ (((HW.out).2.2.1).alloc _) (by omega) (by omega) hnc hcm ?_).mono ?_
  · refine flat_one_cell _ ?_
    intro x hx
    rcases List.mem_cons.1 hx with rfl | hx
    · rfl
    · exact h1 x hx
  rintro e w2 ⟨rfl, hO2, hF2⟩
  have hne : ¬ g = b := fun e => own_ne HW.out.2.2.1 HW.out.2.1 (by decide) (by simp [Value.ownBlock, e])
  have hB2 : Blk w2 g 67 _ := (HW.out.2.1.alloc _).fr hF2 hne
  have h20 := hB2.cell 0
  have h21 := hB2.frozen 0
  have hsz := hF2.size
  simp at hsz
  have k0 : w2.cell? ⟨w.heap.size, 1, none⟩ = some (.string a) := (hF2.cell (p := ⟨w.heap.size, 1, none⟩) (by simp) (by show ¬ w.heap.size = b; omega)).trans (by simp)
  have k1 : w2.cell? ⟨w.heap.size, 2, none⟩ = some (.int .i64 d) := (hF2.cell (p := ⟨w.heap.size, 2, none⟩) (by simp) (by show ¬ w.heap.size = b; omega)).trans (by simp)
  have hgs : ¬ w.heap.size = g := by omega
  have HO2 := Lib.hid hO2
  have HB2 := Lib.hid hB2
  clear hO2 hB2
  go_wp2_with fail
  go_quiet (fail)
  go_wp2_with fail
  go_ret3
  have hO2 := HO2.out
  have hx : (0 + (L.length + 1 - 1)) = L.length := by omega
  simp only [hx, Nat.zero_mul, List.take_zero, List.nil_append, Nat.one_mul] at hO2
  have hfl : (flat (⟨n, .string a, d, true⟩ :: L)).drop 4 = flat L := rfl
  rw [hfl] at hO2
  have hF : Fr (fun k => k = g ∨ (Value.slice (some ⟨b, 0, none⟩) (L.length + 1) c).ownBlock = some k) w w2 :=
    ((Fr.refl _ _).alloc _).trans (hF2.mono fun k _ h => Or.inr (by rw [h]; rfl))
  refine ⟨rfl, .slice (some ⟨b, 0, none⟩) L.length c, ⟨HW.out.1, ?_, ?_, by omega⟩, rfl, ?_⟩
  · exact HB2.out.set 0 _
  · exact own_fr (S := fun k => k = g) hO2 (((Fr.refl (fun k => k = g) w2).setCell (p := ⟨g, 0, none⟩) (fun _ => rfl) _).drewN _) (fun k hk e => hne (by subst e; injection hk with hk; exact hk.symm))
  · exact (hF.setCell (p := ⟨g, 0, none⟩) (fun _ => Or.inl rfl) _).drewN _
end Go.Proofs.Ythhgepnneaehhaa.Ws
