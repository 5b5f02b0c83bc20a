/- Windows: Get, Numbers, Open. No condition. -/
import Derived.Test.YthhgepnneaehhaaWinD
namespace Go.Proofs.Ythhgepnneaehhaa.Wi
open Go.Proofs.Ythhgepnneaehhaa
open Go.RowKit

theorem elU : ElemOf Try.prog 63 31 1 8 := ElemOf.mk' (z := .int .u64 0) Try.underlying63 (by kernel_rfl) rfl (by decide)

theorem get_none (a : Int) (base g : Nat) (v : Value) (L : List Wt) (most next : Int) (w : World) (hW : Win w base g v L most next) (hp : place L a = none) :
    Calls Try.prog 23 #[.pointer (some ⟨g, 0, none⟩), .int .u64 a] w fun e w' => e = .returned (.tuple #[.int .i64 0, .bool false]) ∧ Below w.heap.size w w' := by
  have HQ := Lib.hid (placeI_none hp)
  clear hp
  go_enter Try.func23, Try.ntmps23
  go_wp2_with fail
  refine (place_any base g v L most next a w hW).mono ?_
  rw [HQ.out]
  rintro e w1 ⟨rfl, hb1⟩
  go_wp2_with fail
  go_ret2
  exact ⟨rfl, hb1⟩
theorem get_some (a t : Int) (i : Nat) (base g : Nat) (v : Value) (L : List Wt) (most next : Int) (w : World) (hW : Win w base g v L most next) (hp : place L a = some i) (hi : i < L.length) (ht : L[i].thing = .int .i64 t) :
    Calls Try.prog 23 #[.pointer (some ⟨g, 0, none⟩), .int .u64 a] w fun e w' => e = .returned (.tuple #[.int .i64 t, .bool true]) ∧ Below w.heap.size w w' := by
  have HQ := Lib.hid (placeI_some hp)
  obtain ⟨b, c, rfl, hnc, hcm⟩ := own_form hW.2.2.1 (by omega)
  have HW := Lib.hid hW
  have HT := Lib.hid ht
  clear hp hW ht
  go_enter Try.func23, Try.ntmps23
  go_wp2_with fail
  refine (place_any base g _ L most next a w HW.out).mono ?_
  rw [HQ.out]
  rintro e w1 ⟨rfl, hb1⟩
  have h0 : w1.cell? ⟨g, 0, none⟩ = some (.slice (some ⟨b, 0, none⟩) L.length c) := (HW.out.below hb1).2.1.cell 0
  have h1 : w1.cell? ⟨b, i * 4 + 1, none⟩ = some (.int .i64 t) := ((HW.out.below hb1).row hi).2.1.trans (by rw [HT.out])
  go_wp2_with fail
  go_ret2
  exact ⟨rfl, hb1⟩

theorem alln_any (x : Wt) (w : World) : Calls Try.prog 38 #[.agg #[.int .u64 x.num, x.thing, .int .i64 x.ans, .bool x.done]] w fun e w' => e = .returned (.bool true) ∧ Below w.heap.size w w' := by
  go_enter Try.func38, Try.ntmps38
  go_wp2_with fail
  go_ret
  exact ⟨rfl, (Below.refl _ _).alloc (Nat.le_refl _) _⟩
theorem opnn_any (x : Wt) (w : World) : Calls Try.prog 39 #[.agg #[.int .u64 x.num, x.thing, .int .i64 x.ans, .bool x.done]] w fun e w' => e = .returned (.bool (!x.done)) ∧ Below w.heap.size w w' := by
  go_enter Try.func39, Try.ntmps39
  go_wp2_with fail
  go_ret
  exact ⟨rfl, (Below.refl _ _).alloc (Nat.le_refl _) _⟩
def nums (L : List Wt) : List Value := L.map fun x => .int .u64 x.num
theorem nums_one (L : List Wt) : ∀ u ∈ nums L, u.oneCell' = true := by
  intro u hu
  simp only [nums, List.mem_map] at hu
  obtain ⟨x, _, rfl⟩ := hu
  rfl

set_option maxHeartbeats 1000000 in
/-- The numbers of those that there are. -/
theorem allnums_any (base g : Nat) (v : Value) (L : List Wt) (most next : Int) (w : World) (hW : Win w base g v L most next) (hth : ∀ x ∈ L, ∃ a : Int, x.thing = .int .i64 a) :
    Calls Try.prog 37 #[.pointer (some ⟨g, 0, none⟩), .func (.func 38) #[] #[]] w fun e w' => (∃ v' : Value, e = .returned v' ∧ w'.ownsRow w.heap.size 31 1 v' (L.filter (fun _ => true)).length (nums (L.filter (fun _ => true)))) ∧ Below w.heap.size w w' := by
  obtain ⟨A, c, rfl, hnc, hcm, -, -⟩ := own_shape hW.2.2.1
  have h0 : w.cell? ⟨g, 0, none⟩ = some (.slice A L.length c) := hW.2.1.cell 0
  have hlen := hW.2.2.2
  have HR := Lib.hid ((Rd.own hW.2.2.1 rfl))
  have HW := Lib.hid hW
  have HTH := Lib.hid hth
  clear hW hth
  go_enter Try.func37, Try.ntmps37
  go_wp2_with fail
  go_loopw [5, 15] (fun o i wr => ∃ (k : Nat) (vo : Value), k ≤ L.length ∧ i = .int .i64 k ∧ o = vo ∧ Hid (wr.ownsRow w.heap.size 31 1 vo ((L.take k).filter (fun _ => true)).length (nums ((L.take k).filter (fun _ => true)))) ∧ Below w.heap.size w wr) (fun _ i _ => L.length - (intOf i).toNat)
  case atStart => exact ⟨0, .slice none 0 0, Nat.zero_le _, rfl, rfl, Lib.hid (World.ownsRow_nil _ _ _ _), Below.refl _ _⟩
  case round =>
    obtain ⟨k, vo, hk, rfl, rfl, HO, hbl⟩ := hrel
    obtain ⟨Ao, co, rfl, _, _, -, -⟩ := own_shape HO.out
    by_cases hlt : k < L.length
    · obtain ⟨g', o, hl, rfl, hpb, hbb, c0, c1, c2, c3⟩ := rd_elem HR.out hlt
      have d0 := (hbl.cell (p := ⟨g', o + k * 4, none⟩) hbb).trans c0
      have d1 := (hbl.cell (p := ⟨g', o + k * 4 + 1, none⟩) hbb).trans c1
      have d2 := (hbl.cell (p := ⟨g', o + k * 4 + 2, none⟩) hbb).trans c2
      have d3 := (hbl.cell (p := ⟨g', o + k * 4 + 3, none⟩) hbb).trans c3
      clear c0 c1 c2 c3
      have htk : L.take (k + 1) = L.take k ++ [L[k]] := List.take_succ_eq_append_getElem hl
      have HTK := Lib.hid htk
      clear htk
      have hfl : ((L.take k).filter (fun _ => true)).length ≤ k := Nat.le_trans (List.length_filter_le _ _) (List.length_take_le _ _)
      have hti := HTH.out _ (List.getElem_mem hl)
      generalize hx : L[k] = x at d0 d1 d2 d3 hti
      have HX := Lib.hid hx
      clear hx
      obtain ⟨xn, xt, xa, xd⟩ := x
      simp only at d0 d1 d2 d3 hti
      obtain ⟨ta, rfl⟩ := hti
      go_wp2_with fail
      refine (alln_any ⟨xn, .int .i64 ta, xa, xd⟩ _).mono ?_
      rintro e w1 ⟨rfl, hb1⟩
      have u0 : w1.cell? ⟨wr.heap.size, 0, none⟩ = some (.int .u64 xn) := (hb1.cell (p := ⟨wr.heap.size, 0, none⟩) (by simp)).trans (by simp)
      have HO1 := Lib.hid (own_fr (S := NoB) HO.out (((Fr.refl _ _).alloc _).trans (Fr.ofNew hb1)) (fun _ _ x => x))
      have HB1 := Lib.hid (((Below.refl w.heap.size wr).alloc hbl.size _).trans (hb1.mono (by simp; have := hbl.size; omega)))
      have hsz1 : wr.heap.size + 1 ≤ w1.heap.size := by
        have := hb1.size
        simpa using this
      have hszb := hbl.size
      clear hb1
      go_wp2_with (at_builtin; refine wpList_app elU _ rfl (.tmp 22) (.tmp 25) rfl w.heap.size (.slice Ao ((L.take k).filter (fun _ => true)).length co) ((L.take k).filter (fun _ => true)).length (nums ((L.take k).filter (fun _ => true))) rfl (HO1.out.alloc _) (some ⟨w1.heap.size, 0, none⟩) 1 1 _ rfl (Rd.new (p := fun _ => True) w1 _ _ 1 1 rfl trivial) (by simp [Value.oneCell']) (by unfold maxLen; omega) (by omega) (by simp; omega) ?_; intro A' c' w3 hO3 hF3 hA3; have HO3 := Lib.hid hO3; clear hO3)
      go_roundw
      case rel =>
        have e : (L.take (k + 1)).filter (fun _ => true) = (L.take k).filter (fun _ => true) ++ [⟨xn, .int .i64 ta, xa, xd⟩] := by rw [HTK.out, HX.out, List.filter_append]; rfl
        refine ⟨k + 1, _, by omega, by go_num, rfl, Lib.hid ?_, (hbl.trans HB1.out).trans (((Below.refl w.heap.size w1).alloc (by omega) _).trans (hF3.toBelow (by simp; omega) (fun b hb h => by have := (own_lt HO.out b h).1; omega)))⟩
        rw [e]
        have h3 := HO3.out
        rw [show nums ((L.take k).filter (fun _ => true) ++ [⟨xn, .int .i64 ta, xa, xd⟩]) = nums ((L.take k).filter (fun _ => true)) ++ [.int .u64 xn] by simp [nums], List.length_append]
        exact h3
      case measure => simp [intOf]; omega
    · have hke : k = L.length := by omega
      subst hke
      go_wp2_with fail
      go_ret
      refine ⟨⟨_, rfl, ?_⟩, hbl⟩
      have := HO.out
      rw [List.take_length] at this
      first | exact this | (simp only [List.take_length]; exact this)

set_option maxHeartbeats 1000000 in
/-- The numbers of those that are open. -/
theorem opnums_any (base g : Nat) (v : Value) (L : List Wt) (most next : Int) (w : World) (hW : Win w base g v L most next) (hth : ∀ x ∈ L, ∃ a : Int, x.thing = .int .i64 a) :
    Calls Try.prog 37 #[.pointer (some ⟨g, 0, none⟩), .func (.func 39) #[] #[]] w fun e w' => (∃ v' : Value, e = .returned v' ∧ w'.ownsRow w.heap.size 31 1 v' (L.filter (fun x => !x.done)).length (nums (L.filter (fun x => !x.done)))) ∧ Below w.heap.size w w' := by
  obtain ⟨A, c, rfl, hnc, hcm, -, -⟩ := own_shape hW.2.2.1
  have h0 : w.cell? ⟨g, 0, none⟩ = some (.slice A L.length c) := hW.2.1.cell 0
  have hlen := hW.2.2.2
  have HR := Lib.hid ((Rd.own hW.2.2.1 rfl))
  have HW := Lib.hid hW
  have HTH := Lib.hid hth
  clear hW hth
  go_enter Try.func37, Try.ntmps37
  go_wp2_with fail
  go_loopw [5, 15] (fun o i wr => ∃ (k : Nat) (vo : Value), k ≤ L.length ∧ i = .int .i64 k ∧ o = vo ∧ Hid (wr.ownsRow w.heap.size 31 1 vo ((L.take k).filter (fun x => !x.done)).length (nums ((L.take k).filter (fun x => !x.done)))) ∧ Below w.heap.size w wr) (fun _ i _ => L.length - (intOf i).toNat)
  case atStart => exact ⟨0, .slice none 0 0, Nat.zero_le _, rfl, rfl, Lib.hid (World.ownsRow_nil _ _ _ _), Below.refl _ _⟩
  case round =>
    obtain ⟨k, vo, hk, rfl, rfl, HO, hbl⟩ := hrel
    obtain ⟨Ao, co, rfl, _, _, -, -⟩ := own_shape HO.out
    by_cases hlt : k < L.length
    · obtain ⟨g', o, hl, rfl, hpb, hbb, c0, c1, c2, c3⟩ := rd_elem HR.out hlt
      have d0 := (hbl.cell (p := ⟨g', o + k * 4, none⟩) hbb).trans c0
      have d1 := (hbl.cell (p := ⟨g', o + k * 4 + 1, none⟩) hbb).trans c1
      have d2 := (hbl.cell (p := ⟨g', o + k * 4 + 2, none⟩) hbb).trans c2
      have d3 := (hbl.cell (p := ⟨g', o + k * 4 + 3, none⟩) hbb).trans c3
      clear c0 c1 c2 c3
      have htk : L.take (k + 1) = L.take k ++ [L[k]] := List.take_succ_eq_append_getElem hl
      have HTK := Lib.hid htk
      clear htk
      have hfl : ((L.take k).filter (fun x => !x.done)).length ≤ k := Nat.le_trans (List.length_filter_le _ _) (List.length_take_le _ _)
      have hti := HTH.out _ (List.getElem_mem hl)
      generalize hx : L[k] = x at d0 d1 d2 d3 hti
      have HX := Lib.hid hx
      clear hx
      obtain ⟨xn, xt, xa, xd⟩ := x
      simp only at d0 d1 d2 d3 hti
      obtain ⟨ta, rfl⟩ := hti
      cases xd
      focus
        go_wp2_with fail
        refine (opnn_any ⟨xn, .int .i64 ta, xa, false⟩ _).mono ?_
        rintro e w1 ⟨rfl, hb1⟩
        have u0 : w1.cell? ⟨wr.heap.size, 0, none⟩ = some (.int .u64 xn) := (hb1.cell (p := ⟨wr.heap.size, 0, none⟩) (by simp)).trans (by simp)
        have HO1 := Lib.hid (own_fr (S := NoB) HO.out (((Fr.refl _ _).alloc _).trans (Fr.ofNew hb1)) (fun _ _ x => x))
        have HB1 := Lib.hid (((Below.refl w.heap.size wr).alloc hbl.size _).trans (hb1.mono (by simp; have := hbl.size; omega)))
        have hsz1 : wr.heap.size + 1 ≤ w1.heap.size := by
          have := hb1.size
          simpa using this
        have hszb := hbl.size
        clear hb1
        go_wp2_with (at_builtin; refine wpList_app elU _ rfl (.tmp 22) (.tmp 25) rfl w.heap.size (.slice Ao ((L.take k).filter (fun x => !x.done)).length co) ((L.take k).filter (fun x => !x.done)).length (nums ((L.take k).filter (fun x => !x.done))) rfl (HO1.out.alloc _) (some ⟨w1.heap.size, 0, none⟩) 1 1 _ rfl (Rd.new (p := fun _ => True) w1 _ _ 1 1 rfl trivial) (by simp [Value.oneCell']) (by unfold maxLen; omega) (by omega) (by simp; omega) ?_; intro A' c' w3 hO3 hF3 hA3; have HO3 := Lib.hid hO3; clear hO3)
        go_roundw
        case rel =>
          have e : (L.take (k + 1)).filter (fun x => !x.done) = (L.take k).filter (fun x => !x.done) ++ [⟨xn, .int .i64 ta, xa, false⟩] := by rw [HTK.out, HX.out, List.filter_append]; rfl
          refine ⟨k + 1, _, by omega, by go_num, rfl, Lib.hid ?_, (hbl.trans HB1.out).trans (((Below.refl w.heap.size w1).alloc (by omega) _).trans (hF3.toBelow (by simp; omega) (fun b hb h => by have := (own_lt HO.out b h).1; omega)))⟩
          rw [e]
          have h3 := HO3.out
          rw [show nums ((L.take k).filter (fun x => !x.done) ++ [⟨xn, .int .i64 ta, xa, false⟩]) = nums ((L.take k).filter (fun x => !x.done)) ++ [.int .u64 xn] by simp [nums], List.length_append]
          exact h3
        case measure => simp [intOf]; omega
      focus
        go_wp2_with fail
        refine (opnn_any ⟨xn, .int .i64 ta, xa, true⟩ _).mono ?_
        rintro e w1 ⟨rfl, hb1⟩
        have u0 : w1.cell? ⟨wr.heap.size, 0, none⟩ = some (.int .u64 xn) := (hb1.cell (p := ⟨wr.heap.size, 0, none⟩) (by simp)).trans (by simp)
        have HO1 := Lib.hid (own_fr (S := NoB) HO.out (((Fr.refl _ _).alloc _).trans (Fr.ofNew hb1)) (fun _ _ x => x))
        have HB1 := Lib.hid (((Below.refl w.heap.size wr).alloc hbl.size _).trans (hb1.mono (by simp; have := hbl.size; omega)))
        have hsz1 : wr.heap.size + 1 ≤ w1.heap.size := by
          have := hb1.size
          simpa using this
        have hszb := hbl.size
        clear hb1
        go_wp2_with fail
        go_roundw
        case rel =>
          have e : (L.take (k + 1)).filter (fun x => !x.done) = (L.take k).filter (fun x => !x.done) := by rw [HTK.out, HX.out, List.filter_append]; simp
          refine ⟨k + 1, _, by omega, by go_num, rfl, Lib.hid ?_, hbl.trans HB1.out⟩
          rw [e]
          exact HO1.out
        case measure => simp [intOf]; omega
    · have hke : k = L.length := by omega
      subst hke
      go_wp2_with fail
      go_ret
      refine ⟨⟨_, rfl, ?_⟩, hbl⟩
      have := HO.out
      rw [List.take_length] at this
      first | exact this | (simp only [List.take_length]; exact this)

theorem all_any (base g : Nat) (v : Value) (L : List Wt) (most next : Int) (w : World) (hW : Win w base g v L most next) (hth : ∀ x ∈ L, ∃ a : Int, x.thing = .int .i64 a) :
    Calls Try.prog 25 #[.pointer (some ⟨g, 0, none⟩)] w fun e w' => (∃ v' : Value, e = .returned v' ∧ w'.ownsRow w.heap.size 31 1 v' L.length (nums L)) ∧ Below w.heap.size w w' := by
  go_enter Try.func25, Try.ntmps25
  go_wp2_with fail
  refine (allnums_any base g v L most next w hW hth).mono ?_
  rintro e w1 ⟨⟨v', rfl, hO⟩, hb⟩
  have HO := Lib.hid hO
  clear hO
  go_wp2_with fail
  go_ret
  refine ⟨⟨v', rfl, ?_⟩, hb⟩
  have := HO.out
  rw [List.filter_eq_self.2 (fun _ _ => rfl)] at this
  exact this
theorem open_any (base g : Nat) (v : Value) (L : List Wt) (most next : Int) (w : World) (hW : Win w base g v L most next) (hth : ∀ x ∈ L, ∃ a : Int, x.thing = .int .i64 a) :
    Calls Try.prog 26 #[.pointer (some ⟨g, 0, none⟩)] w fun e w' => (∃ v' : Value, e = .returned v' ∧ w'.ownsRow w.heap.size 31 1 v' (L.filter (fun x => !x.done)).length (nums (L.filter (fun x => !x.done)))) ∧ Below w.heap.size w w' := by
  go_enter Try.func26, Try.ntmps26
  go_wp2_with fail
  refine (opnums_any base g v L most next w hW hth).mono ?_
  rintro e w1 ⟨⟨v', rfl, hO⟩, hb⟩
  have HO := Lib.hid hO
  clear hO
  go_wp2_with fail
  go_ret
  exact ⟨⟨v', rfl, HO.out⟩, hb⟩
end Go.Proofs.Ythhgepnneaehhaa.Wi
