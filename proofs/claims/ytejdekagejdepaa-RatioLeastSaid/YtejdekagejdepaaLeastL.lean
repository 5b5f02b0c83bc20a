/- RatioLeast's walk: for every list it answers true. No condition. -/
import Derived.Test.YtejdekagejdepaaLeast
namespace Go.Proofs.Ytejdekagejdepaa
open Go.RowKit Ieee

def ucell (x : Nat) : List Value := [.int .u64 (x : Int)]
theorem elF : ElemOf Try.prog 34 24 1 8 := ElemOf.mk' Try.underlying34 (z := .float .f64 0) (by kernel_rfl) (by kernel_rfl) (by omega)

section
open Go.ChangeShapes Go.WideShapes
variable {H : Type} {enc : TypeId × Value → H} {w : World}
theorem open_u64s {r : Reach} {b0 : Nat} {v : Value} {d : DataW H} {p : List MemPlace} (hv : Value.okWide Try.prog w r b0 33 v) (h : DataW.Trod enc Try.prog w 0 (fun _ => true) true 33 v d p) :
    ∃ (A : Option Addr) (n c : Nat) (L : List Nat), v = .slice A n c ∧ n ≤ c ∧ c ≤ maxLen ∧ L.length = n ∧ Rd (fun b => b < w.heap.size) w 1 A n (L.flatMap ucell) ∧ ∀ x ∈ L, x < 18446744073709551616 := by
  obtain ⟨A, n, c, L, h1, h2, h3, h4, h5, h6, _⟩ := open_slk (k := 1) Try.underlying33 ucell (by kernel_rfl) (by omega) (fun x => x < 18446744073709551616) (fun cs m y hl ht => by
    match cs, hl with
    | [c0], _ =>
      obtain ⟨a, e, _, g⟩ := DataW.trod_int Try.underlying27 ht
      simp at e
      subst e
      have hb : 0 ≤ a ∧ a ≤ 18446744073709551615 := by simpa [Lit.wf, IntKind.min, IntKind.max, IntKind.signed, IntKind.bits] using g
      obtain ⟨a, rfl⟩ := Int.eq_ofNat_of_zero_le hb.1
      exact ⟨a, rfl, by omega⟩) hv h
  exact ⟨A, n, c, L, h1, h2, h3, h4, h5, h6⟩
end

theorem rank_quiet (x : Nat) (hx : x < 18446744073709551616) (w : World) (n : Nat) : Calls Try.prog 13 #[.float .f64 x] (w.drewN n) fun e w'' => e = .returned (.int .u64 (rankN x : Nat)) ∧ ∃ m, w'' = w.drewN m :=
  Calls.quiet_of_same ((rank_any x hx _).mono fun _ _ h => ⟨h.1, h.2.symm⟩)
set_option maxHeartbeats 4000000 in
set_option maxRecDepth 100000 in
theorem least_law (A : Option Addr) (n c : Nat) (L : List Nat) (w : World) (h0 : n ≤ c ∧ c ≤ maxLen ∧ L.length = n ∧ Rd (fun b => b < w.heap.size) w 1 A n (L.flatMap ucell) ∧ ∀ x ∈ L, x < 18446744073709551616) :
    Calls Try.prog 5 #[.slice A n c] w fun e w' => e = .returned (.bool true) ∧ Below w.heap.size w w' := by
  obtain ⟨hnc, hcm, hl, hR, hgood⟩ := h0
  unfold maxLen at hcm
  by_cases hbig : 200 < n
  · have hL0 := Lib.hid hl
    clear hl hgood
    go_enter Try.func5, Try.ntmps5
    go_wp2_with fail
    refine (alive_any w).mono ?_
    rintro e w1 ⟨rfl, b1⟩
    go_wp2_with fail
    go_ret
    exact ⟨rfl, b1⟩
  have hn : n ≤ 200 := by omega
  have HL := Lib.hid hl
  have HG := Lib.hid hgood
  have HR := Lib.hid hR
  have hwf : ∀ i, i < n → lk L i < 18446744073709551616 := fun i hi => by
    have hi' : i < L.length := by omega
    have : lk L i = L[i] := by simp [lk, List.getD, hi']
    rw [this]; exact hgood _ (List.getElem_mem _)
  have HW := Lib.hid hwf
  clear hl hgood hR hwf
  go_enter Try.func5, Try.ntmps5
  go_wp2_with fail
  refine (alive_any w).mono ?_
  rintro e w1 ⟨rfl, b1⟩
  go_wp2_with fail
  have hsz1 := b1.size
  have HB1 := Lib.hid b1
  clear b1
  go_loopw [3, 16] (fun s i wr => ∃ (k : Nat) (v : Value), k ≤ n ∧ i = .int .i64 k ∧ s = v ∧ Hid (wr.ownsRow w.heap.size 24 1 v k ((L.take k).flatMap fcell)) ∧ Below w.heap.size w wr) (fun _ i _ => n - (intOf i).toNat)
  case atStart => exact ⟨0, .slice none 0 0, Nat.zero_le _, rfl, rfl, Lib.hid (World.ownsRow_nil _ _ _ _), HB1.out⟩
  case round =>
    obtain ⟨k, v, hk, rfl, rfl, HO, hbl⟩ := hrel
    by_cases hlt : k < n
    · obtain ⟨g, o, rfl, hpb, hbb, hc⟩ := HR.out.out (by omega) (by omega)
      have hi' : k < L.length := by have := HL.out; omega
      have hck : wr.cell? ⟨g, o + k, none⟩ = some (.int .u64 ((lk L k : Nat) : Int)) := by
        refine (hbl.cell (p := ⟨g, o + k, none⟩) hpb).trans (hc k _ ?_)
        have := fm_get ucell 1 L k 0 hi' (by simp [ucell]) (by omega)
        rw [Nat.mul_one, Nat.add_zero] at this
        rw [this]
        simp [ucell, lk, List.getD, hi']
      have HC := Lib.hid hc
      have htk : (L.take (k + 1)).flatMap fcell = (L.take k).flatMap fcell ++ [.float .f64 (lk L k)] := by
        rw [List.take_succ_eq_append_getElem hi', List.flatMap_append]
        simp [fcell, lk, List.getD, hi']
      have HT := Lib.hid htk
      have hws := hbl.size
      clear hc htk
      go_wp2_with fail
      refine (of_any (lk L k) wr).mono ?_
      rintro e w2 ⟨rfl, rfl⟩
      obtain ⟨A', c', rfl, -, -, -, -⟩ := own_shape HO.out
      go_wp2_with (at_builtin; refine wpList_app elF _ rfl (.tmp 20) (.tmp 23) rfl w.heap.size (.slice A' k c') k ((L.take k).flatMap fcell) rfl (HO.out.alloc _) (some ⟨wr.heap.size, 0, none⟩) 1 1 _ rfl (Rd.new (p := fun _ => True) wr _ _ 1 1 rfl trivial) (by simp [Value.oneCell']) (by unfold maxLen; omega) (by omega) (by simp; omega) ?_; intro A2 c2 w3 hO3 hF3 hA3; have HO3 := Lib.hid hO3; have HF3 := Lib.hid hF3; clear hO3 hF3 hA3)
      go_roundw
      case rel =>
        refine ⟨k + 1, _, by omega, by go_num, rfl, Lib.hid ?_, ?_⟩
        · rw [HT.out]; exact HO3.out
        · exact (hbl.alloc hbl.size _).trans (HF3.out.toBelow (by simp; omega) fun j hj h => by
            have := (own_lt HO.out j h).1; omega)
      case measure => simp [intOf]; omega
    · obtain rfl : k = n := by omega
      have htake : L.take k = L := List.take_of_length_le (by have := HL.out; omega)
      have hO := HO.out
      rw [htake] at hO
      obtain ⟨A', c', rfl, -, -, -, -⟩ := own_shape hO
      have HR2 := Lib.hid (Rd.own hO rfl)
      have HO2 := Lib.hid hO
      clear HO htake hO
      go_wp2_with fail
      refine (least_any A' k c' L _ wr hn HL.out HW.out HR2.out).mono ?_
      rintro e w2 ⟨⟨m, rfl, hB⟩, rfl⟩
      have HBest := Lib.hid hB
      clear hB
      by_cases hk0 : k = 0
      · have hm : m = -1 := by rcases HBest.out with ⟨_, h⟩ | ⟨m', h, h2, _⟩ <;> omega
        subst hm
        subst hk0
        go_wp2_with fail
        go_ret
        exact ⟨rfl, hbl⟩
      · obtain ⟨m', rfl, hmk, hml, hle, hlt'⟩ : ∃ m' : Nat, m = m' ∧ m' < k ∧ m' < L.length ∧ (∀ i, i < k → i < L.length → rankN (lk L m') ≤ rankN (lk L i)) ∧ ∀ i, i < m' → rankN (lk L m') < rankN (lk L i) := by
          rcases HBest.out with ⟨h, _⟩ | h
          · exact absurd h hk0
          · exact h
        have HLe := Lib.hid hle
        have HLt := Lib.hid hlt'
        have HML := Lib.hid hml
        have hm0 : decide ((m' : Int) < 0) = false := decide_eq_false (by omega)
        have hmn : decide ((k : Int) ≤ (m' : Int)) = false := decide_eq_false (by omega)
        have hk0' : ((k : Int) == 0) = false := by simp; omega
        clear hle hlt' hml hk0
        go_wp2_with fail
        obtain ⟨g, o, rfl, -, -, hc⟩ := HR2.out.out (by omega) (by omega)
        have hat : ∀ i, i < k → wr.cell? ⟨g, o + i, none⟩ = some (.float .f64 (lk L i)) := fun i hi => by
          refine hc i _ ?_
          have hi' : i < L.length := by have := HL.out; omega
          have := fm_get fcell 1 L i 0 hi' (by simp [fcell]) (by omega)
          rw [Nat.mul_one, Nat.add_zero] at this
          rw [this]
          simp [fcell, lk, List.getD, hi']
        have HA := Lib.hid hat
        clear hat hc
        obtain ⟨wp, rfl⟩ : ∃ wp : World, wp = wr := ⟨wr, rfl⟩
        go_loopw [43] (fun i wr => ∃ q : Nat, q ≤ k ∧ i = .int .i64 q ∧ Fr NoB wp wr) (fun i _ => k - (intOf i).toNat)
        case atStart => exact ⟨0, Nat.zero_le _, rfl, Fr.refl _ _⟩
        case round =>
          obtain ⟨q, hq, rfl, hF⟩ := hrel
          by_cases hlt : q < k
          · have hcq := hF.cell_some (HA.out q hlt) (fun h => h)
            have hcm := hF.cell_some (HA.out m' hmk) (fun h => h)
            have hwq := HW.out q hlt
            have hwm := HW.out m' hmk
            have hle := HLe.out q hlt (by have := HL.out; omega)
            have hlq : q < m' → rankN (lk L m') < rankN (lk L q) := HLt.out q
            obtain ⟨x, hx⟩ : ∃ x, lk L q = x := ⟨_, rfl⟩
            obtain ⟨y, hy⟩ : ∃ y, lk L m' = y := ⟨_, rfl⟩
            rw [hx] at hcq hwq hle hlq
            rw [hy] at hcm hwm hle hlq
            have HQ := Lib.hid hwq
            have HM := Lib.hid hwm
            have hd1 : decide (rankN x < rankN y) = false := decide_eq_false (by omega)
            clear hle hx hy hwq hwm
            by_cases hqm : q < m'
            · have hi1 : decide (q < m') = true := decide_eq_true hqm
              have hi2 : decide ((q : Int) < (m' : Int)) = true := decide_eq_true (by omega)
              have hne := hlq hqm
              have he1 : (((rankN x : Nat) : Int) == ((rankN y : Nat) : Int)) = false := by simp; omega
              have he2 : (rankN x == rankN y) = false := by simp; omega
              clear hne hlq hqm
              go_wp2_with fail
              go_big_quiet (exact rank_quiet _ (by first | exact HQ.out | exact HM.out) _ _)
              go_wp2_with fail
              go_roundw
              case rel => exact ⟨q + 1, by omega, by go_num, hF.drewN _⟩
              case measure => simp [intOf]; omega
            · have hi1 : decide (q < m') = false := decide_eq_false hqm
              have hi2 : decide ((q : Int) < (m' : Int)) = false := decide_eq_false (by omega)
              clear hlq hqm
              go_wp2_with fail
              go_big_quiet (exact rank_quiet _ (by first | exact HQ.out | exact HM.out) _ _)
              go_wp2_with fail
              go_roundw
              case rel => exact ⟨q + 1, by omega, by go_num, hF.drewN _⟩
              case measure => simp [intOf]; omega
          · obtain rfl : q = k := by omega
            go_wp2_with fail
            go_ret
            exact ⟨rfl, hbl.trans (hF.toBelow hbl.size fun _ _ h => h)⟩
end Go.Proofs.Ytejdekagejdepaa
