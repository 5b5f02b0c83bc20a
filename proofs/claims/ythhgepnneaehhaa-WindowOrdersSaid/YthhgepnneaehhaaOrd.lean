/- WindowOrders' walk: for every list of things and of answers it answers true. No condition. -/
import Derived.Test.YthhgepnneaehhaaAlive
import Derived.Test.YthhgepnneaehhaaOrdP
import Derived.Test.YthhgepnneaehhaaActs
namespace Go.Proofs.Ythhgepnneaehhaa
open Go.RowKit Go.Maps

theorem keyU : Keyed Try.prog 31 := int_keyed Try.underlying31
theorem zeroI (w : World) : (zeroValue 3).run Try.prog w = .ok (.int .i64 0) w := by kernel_rfl

theorem map_ne_blk {w : World} {P : Program} {k : TypeId} {b n g : Nat} {f : Lit → Option Value} {t : TypeId} {cs : Array Value} (h : MapAt w P k b n f) (hg : Blk w g t cs) : b ≠ g := by
  rintro rfl
  obtain ⟨D, ⟨es, clock, hb, _⟩, _⟩ := h
  unfold Blk at hg
  rw [hb] at hg
  cases hg
theorem map_ne_own {w : World} {P : Program} {k : TypeId} {b n : Nat} {f : Lit → Option Value} {base : Nat} {e : TypeId} {size m : Nat} {v : Value} {xs : List Value} (h : MapAt w P k b n f) (ho : w.ownsRow base e size v m xs) : v.ownBlock ≠ some b := by
  rcases ho.2 with ⟨rfl, _⟩ | ⟨g, cap, cur, rfl, _, hh, _⟩
  · simp [Value.ownBlock]
  · intro he
    have : g = b := by simpa [Value.ownBlock] using he
    subst this
    exact map_ne_blk h hh rfl

/-- What a window's own blocks are, seen from a map and from below. -/
theorem ws_out {wr : World} {B g b n : Nat} {v : Value} {L : List Wt} {most next : Int} {P : Program} {k : TypeId} {f : Lit → Option Value} (hW : Ws.Win wr B g v L most next) (hM : MapAt wr P k b n f) : ¬ (b = g ∨ v.ownBlock = some b) := by
  rintro (h | h)
  · exact map_ne_blk hM hW.2.1 h
  · exact map_ne_own hM hW.2.2.1 h
theorem ws_below {wr w' : World} {B g : Nat} {v : Value} {L : List Wt} {most next : Int} (hW : Ws.Win wr B g v L most next) (hF : Fr (fun k => k = g ∨ v.ownBlock = some k) wr w') (hB : B ≤ wr.heap.size) : Below B wr w' :=
  hF.toBelow hB fun k hk h => by
    rcases h with h | h
    · have := hW.1; omega
    · have := (own_lt hW.2.2.1 k h).1; omega

set_option maxHeartbeats 4000000 in
set_option maxRecDepth 100000 in
theorem orders_walk (A0 A1 : Option Addr) (n0 c0 n1 c1 : Nat) (th : List ByteArray) (an : List ActR) (w : World)
    (h0 : n0 ≤ c0 ∧ c0 ≤ maxLen ∧ th.length = n0 ∧ Rd (fun b => b < w.heap.size) w 1 A0 n0 (th.flatMap fun s => [.string s]))
    (h1 : n1 ≤ c1 ∧ c1 ≤ maxLen ∧ an.length = n1 ∧ Rd (fun b => b < w.heap.size) w 3 A1 n1 (an.flatMap ActR.cells)) (hgood : ∀ a ∈ an, a.Good) :
    Calls Try.prog 3 #[.slice A0 n0 c0, .slice A1 n1 c1] w fun e w' => e = .returned (.bool true) ∧ Below w.heap.size w w' := by
  obtain ⟨hnc0, hcm0, hl0, hR0⟩ := h0
  obtain ⟨hnc1, hcm1, hl1, hR1⟩ := h1
  unfold maxLen at hcm0 hcm1
  by_cases hbig : 40 < n0
  · have hL0 := Lib.hid hl0
    have hL1 := Lib.hid hl1
    clear hl0 hl1
    go_enter Try.func3, Try.ntmps3
    go_wp2_with fail
    refine (alive_any w).mono ?_
    rintro e w1 ⟨rfl, b1⟩
    go_wp2_with fail
    go_ret
    exact ⟨rfl, b1⟩
  by_cases hbig1 : 120 < n1
  · have hL0 := Lib.hid hl0
    have hL1 := Lib.hid hl1
    clear hl0 hl1
    go_enter Try.func3, Try.ntmps3
    go_wp2_with fail
    refine (alive_any w).mono ?_
    rintro e w1 ⟨rfl, b1⟩
    go_wp2_with fail
    go_ret
    exact ⟨rfl, b1⟩
  have hs0 : n0 ≤ 40 := by omega
  have hs1 : n1 ≤ 120 := by omega
  have hL0 := Lib.hid hl0
  have hL1 := Lib.hid hl1
  have HG := Lib.hid hgood
  have HR0 := Lib.hid hR0
  have HR1 := Lib.hid hR1
  have hmm := @run_makeMap Try.prog
  clear hl0 hl1 hgood hR0 hR1
  go_enter Try.func3, Try.ntmps3
  go_wp2_with fail
  refine (alive_any w).mono ?_
  rintro e w1 ⟨rfl, b1⟩
  go_wp2_with fail
  refine (Ws.new_any 64 w.heap.size w1 (by omega) (by omega) b1.size).mono ?_
  rintro e w2 ⟨rfl, hW2, b2⟩
  have HW2 := Lib.hid hW2
  clear hW2
  go_wp2_with fail
  have hM0 := Lib.hid (MapAt.made w2 Try.prog 31)
  have HB := Lib.hid (b1.trans (b2.mono b1.size))
  have hsz1 := b1.size
  have hsz2 : w1.heap.size + 1 ≤ w2.heap.size := HW2.out.2.1.lt
  go_loopw [42] (fun i wr => ∃ (k : Nat) (v : Value), k ≤ n0 ∧ i = .int .i64 k ∧ Hid (Ws.Win wr w.heap.size w1.heap.size v (mkW (fun _ => none) 0 (th.take k)) 64 k) ∧ Hid (MapAt wr Try.prog 31 w2.heap.size 0 (fun _ => none)) ∧ Below w.heap.size w wr) (fun i _ => n0 - (intOf i).toNat)
  case atStart =>
    refine ⟨0, .slice none 0 0, Nat.zero_le _, rfl, ?_, hM0, HB.out.trans ((Below.refl _ _).alloc (by omega) _)⟩
    exact HW2.out.below ((Below.refl _ _).alloc (Nat.le_refl _) _)
  case round =>
    obtain ⟨k, v, hk, rfl, HW, HM, hbl⟩ := hrel
    by_cases hlt : k < n0
    · obtain ⟨g, o, rfl, hpb, hbb, hc⟩ := HR0.out.out (by omega) (by omega)
      have hth : k < th.length := by have := hL0.out; omega
      have hck : wr.cell? ⟨g, o + k, none⟩ = some (.string th[k]) := by
        refine (hbl.cell (p := ⟨g, o + k, none⟩) hpb).trans (hc k _ ?_)
        have := fm_get (fun s : ByteArray => [Value.string s]) 1 th k 0 hth (by simp) (by omega)
        simpa using this
      have hlen : ((mkW (fun _ => none) 0 (th.take k)).length : Int) < 64 := by rw [mkW_len, List.length_take]; omega
      have HLn := Lib.hid hlen
      have HC := Lib.hid hc
      clear hlen hc
      have hwk : IntKind.u64.wrap (k : Int) = k := IntWalk.u64_in _ (by omega)
      have hq : ((k : Int) != (k : Int)) = false := by simp
      go_wp2_with fail
      refine (Ws.add_any th[k] w.heap.size w1.heap.size v _ 64 k wr HW.out HLn.out (by omega) (by omega)).mono ?_
      rintro e w3 ⟨rfl, v3, hW3, hF3, hA3⟩
      have HW3 := Lib.hid hW3
      have HA3 := Lib.hid hA3
      clear hW3 hA3
      go_wp2_with fail
      go_roundw
      case rel =>
        refine ⟨k + 1, v3, by omega, by go_num, ?_, Lib.hid (HM.out.fr hF3 (ws_out HW.out HM.out)), hbl.trans (ws_below HW.out hF3 hbl.size)⟩
        have e : mkW (fun _ => none) 0 (th.take (k + 1)) = mkW (fun _ => none) 0 (th.take k) ++ [⟨k, .string th[k], 0, false⟩] := by
          rw [List.take_succ_eq_append_getElem hth, mkW_snoc, List.length_take, Nat.min_eq_left (by omega), Nat.zero_add]; rfl
        rw [e]
        exact HW3.out
      case measure => simp [intOf]; omega
    · obtain rfl : k = n0 := by omega
      have HK := Lib.hid hbl
      obtain ⟨wp, hwp⟩ : ∃ wp : World, wp = wr := ⟨_, rfl⟩
      go_wp2_with fail
      go_loopw [12, 64] (fun gn i wr => ∃ (q g : Nat) (v : Value) (m : Int → Option Int) (f : Lit → Option Value), q ≤ n1 ∧ g ≤ k ∧ i = .int .i64 q ∧ gn = .int .i64 g ∧ Hid (Ws.Win wr w.heap.size w1.heap.size v (mkW m g (th.drop g)) 64 k) ∧ Hid (MapAt wr Try.prog 31 w2.heap.size q f) ∧
        Hid ((∀ a : Int, f (.int .u64 a) = (m a).map (Value.int .i64)) ∧ (∀ a : Int, (m a).isSome = true → 0 ≤ a ∧ a < (k : Int)) ∧ (∀ a : Int, 0 ≤ a → a < (g : Int) → (m a).isSome = true) ∧ (nextL (mkW m g (th.drop g))).2 = none) ∧ Below w.heap.size w wr) (fun _ i _ => n1 - (intOf i).toNat)
      case atStart =>
        refine ⟨0, 0, v, fun _ => none, fun _ => none, Nat.zero_le _, Nat.zero_le _, rfl, rfl, ?_, HM, Lib.hid ⟨fun _ => rfl, fun _ h => by simp at h, fun a h1 h2 => by omega, ?_⟩, HK.out⟩
        · have := HW.out
          rw [List.take_of_length_le (by have := hL0.out; omega)] at this
          exact this
        · cases th with
          | nil => rfl
          | cons s r => rfl
      case round =>
        obtain ⟨q, g, vq, m, f, hq, hg, rfl, rfl, HWq, HMq, HFq, hblq⟩ := hrel
        obtain ⟨wo, hwo⟩ : ∃ wo : World, wo = wr := ⟨_, rfl⟩
        by_cases hlt1 : q < n1
        · obtain ⟨gb, o, rfl, hpb, hbb, hc⟩ := HR1.out.out (by omega) (by omega)
          have hq1 : q < an.length := by have := hL1.out; omega
          have hgd := HG.out _ (List.getElem_mem hq1)
          have hcel : ∀ j, j < 3 → wr.cell? ⟨gb, o + (q * 3 + j), none⟩ = (an[q].cells)[j]? := fun j hj => by
            have e := fm_get ActR.cells 3 an q j hq1 (fun _ _ => rfl) hj
            have hl : j < (an[q].cells).length := hj
            rw [List.getElem?_eq_getElem hl] at e
            rw [hblq.cell (p := ⟨gb, o + (q * 3 + j), none⟩) hpb, hc _ _ e, List.getElem?_eq_getElem hl]
          have d0 := hcel 0 (by omega)
          have d1 := hcel 1 (by omega)
          have d2 := hcel 2 (by omega)
          generalize an[q] = act at d0 d1 d2 hgd
          obtain ⟨ak, a, x⟩ := act
          simp only [ActR.cells, Nat.add_zero, List.getElem?_cons_zero, List.getElem?_cons_succ] at d0 d1 d2
          have d1' : wr.cell? ⟨gb, o + q * 3 + 1, none⟩ = some (.int .u64 a) := d1
          have d2' : wr.cell? ⟨gb, o + q * 3 + 2, none⟩ = some (.int .i64 x) := d2
          clear d1 d2 hcel
          have HC := Lib.hid hc
          clear hc
          have hau : 0 ≤ a ∧ a ≤ 18446744073709551615 := by have := hgd.2.1; simpa [Lit.wf, IntKind.min, IntKind.max, IntKind.signed, IntKind.bits] using this
          have HGD := Lib.hid hgd
          clear hgd
          have hwn : IntKind.u64.wrap (k : Int) = k := IntWalk.u64_in _ (by omega)
          have hlook1 : (f (.int .u64 a)).getD (.int .i64 0) = .int .i64 ((m a).getD 0) := by rw [HFq.out.1 a]; cases m a <;> rfl
          have hlook2 : (f (.int .u64 a)).isSome = (m a).isSome := by rw [HFq.out.1 a]; cases m a <;> rfl
          have HL1 := Lib.hid hlook1
          have HL2 := Lib.hid hlook2
          clear hlook1 hlook2
          have HWa := Lib.hid (HWq.out.below ((Below.refl _ _).alloc (Nat.le_refl _) (.cells #[.int .i64 ak, .int .u64 a, .int .i64 x] 35)))
          have HMa := Lib.hid (HMq.out.alloc (.cells #[.int .i64 ak, .int .u64 a, .int .i64 x] 35))
          have hka : th.length = k := hL0.out
          have HKA := Lib.hid hka
          clear hka
          by_cases hopen : a < (k : Int) ∧ m a = none
          focus
            obtain ⟨hak, hmn⟩ := hopen
            have hms : (m a).isSome = false := by rw [hmn]; rfl
            have hga : (g : Int) ≤ a := by
              rcases Int.lt_or_le a g with h | h
              · have := HFq.out.2.2.1 a hau.1 h; rw [hms] at this; cases this
              · exact h
            have HAY := Lib.hid (answer_yes (x := x) (r := th.drop g) ⟨hga, by have := HKA.out; rw [List.length_drop]; omega⟩ hmn)
            have HMN := Lib.hid hmn
            clear hmn
            go_wp2_with (at_lookup; refine wpList_mlook2 HMa.out keyU Try.underlying30 (zeroI _) rfl (.tmp 69) (.tmp 71) rfl rfl _ _ rfl (keyOf_int_mk Try.underlying31 HGD.out.2.1) _ _ HL1.out HL2.out ?_)
            refine (Ws.answer_any a x w.heap.size w1.heap.size vq _ 64 k _ HWa.out).mono ?_
            rw [HAY.out]
            rintro e w4 ⟨rfl, hW4, hF4⟩
            have HW4 := Lib.hid hW4
            have HM4 := Lib.hid (HMa.out.fr hF4 (fun h => ws_out HWa.out HMa.out (Or.inr h)))
            clear hW4
            have e0 : w4.cell? ⟨wr.heap.size, 1, none⟩ = some (.int .u64 a) := (hF4.cell (p := ⟨wr.heap.size, 1, none⟩) (by simp) (fun h => by have := (own_lt HWq.out.2.2.1 _ h).2; simp at this)).trans (by simp)
            have e1 : w4.cell? ⟨wr.heap.size, 2, none⟩ = some (.int .i64 x) := (hF4.cell (p := ⟨wr.heap.size, 2, none⟩) (by simp) (fun h => by have := (own_lt HWq.out.2.2.1 _ h).2; simp at this)).trans (by simp)
            go_wp2_with (at_mapUpdate; refine wpList_mstore HM4.out keyU Try.underlying30 (by unfold maxLen; omega) rfl (.tmp 94) (.tmp 96) (.tmp 98) rfl rfl _ _ _ rfl rfl (keyOf_int_mk Try.underlying31 HGD.out.2.1) ?_; intro w5 hM5 hF5)
            have HI : ∃ (mi : Int → Option Int) (fi : Lit → Option Value), Hid (Ws.Win w5 w.heap.size w1.heap.size vq (mkW mi g (th.drop g)) 64 k) ∧ Hid (MapAt w5 Try.prog 31 w2.heap.size (q + 1) fi) ∧
                Hid ((∀ a : Int, fi (.int .u64 a) = (mi a).map (Value.int .i64)) ∧ (∀ a : Int, (mi a).isSome = true → 0 ≤ a ∧ a < (k : Int)) ∧ (∀ a : Int, 0 ≤ a → a < (g : Int) → (mi a).isSome = true)) ∧ Hid (Below w.heap.size w w5) := by
              refine ⟨updM m a x, _, Lib.hid (HW4.out.fr hF5 (fun e => map_ne_blk HM4.out HW4.out.2.1 e.symm) (fun b hb e => map_ne_own HM4.out HW4.out.2.2.1 (by rw [hb, e]))), Lib.hid hM5, Lib.hid ⟨fun b => ?_, fun b hb => ?_, fun b h1 h2 => ?_⟩, Lib.hid ?_⟩
              · rw [putF_int]
                unfold updM
                by_cases hba : b = a
                · rw [if_pos hba, if_pos hba]; rfl
                · rw [if_neg hba, if_neg hba]; exact HFq.out.1 b
              · unfold updM at hb
                by_cases hba : b = a
                · subst hba; omega
                · rw [if_neg hba] at hb; exact HFq.out.2.1 b hb
              · unfold updM
                by_cases hba : b = a
                · rw [if_pos hba]; rfl
                · rw [if_neg hba]; exact HFq.out.2.2.1 b h1 h2
              · have u1 : Below w.heap.size wr _ := (Below.refl _ wr).alloc (by have := hblq.size; omega) (.cells #[.int .i64 ak, .int .u64 a, .int .i64 x] 35)
                have u2 := hF4.toBelow (B := w.heap.size) (by simp; have := hblq.size; omega) (fun b hb h => by have := (own_lt HWq.out.2.2.1 b h).1; omega)
                have u3 := hF5.toBelow (B := w.heap.size) (Nat.le_trans (hblq.trans (u1.trans u2)).size (Nat.le_refl _)) (fun b hb h => by omega)
                exact (hblq.trans (u1.trans u2)).trans u3
            obtain ⟨mi, fi, HWI, HMI, HFI, HBI⟩ := HI
          rotate_left
          focus
            have HAN := Lib.hid (answer_no (m := m) (x := x) (a := a) (r := th.drop g) (g := g) (by
              rcases Classical.em ((m a).isSome = true) with h | h
              · exact .inr h
              · left
                intro hr
                have := HKA.out
                rw [List.length_drop] at hr
                exact hopen ⟨by omega, by cases hm : m a <;> simp_all⟩))
            have hpk : a < (k : Int) → (m a).isSome = true := fun h1 => by
              cases hm : m a with
              | none => exact absurd ⟨h1, hm⟩ hopen
              | some y => rfl
            clear hopen
            by_cases hak : a < (k : Int)
            all_goals
              try have hms := hpk hak
              clear hpk
              go_wp2_with (at_lookup; refine wpList_mlook2 HMa.out keyU Try.underlying30 (zeroI _) rfl (.tmp 69) (.tmp 71) rfl rfl _ _ rfl (keyOf_int_mk Try.underlying31 HGD.out.2.1) _ _ HL1.out HL2.out ?_)
              refine (Ws.answer_any a x w.heap.size w1.heap.size vq _ 64 k _ HWa.out).mono ?_
              rw [HAN.out]
              rintro e w5 ⟨rfl, hW5, hF5⟩
              have HW5 := Lib.hid hW5
              have HM5 := Lib.hid (HMa.out.fr hF5 (fun h => ws_out HWa.out HMa.out (Or.inr h)))
              clear hW5
              go_wp2_with fail
              have HI : ∃ (mi : Int → Option Int) (fi : Lit → Option Value), Hid (Ws.Win w5 w.heap.size w1.heap.size vq (mkW mi g (th.drop g)) 64 k) ∧ Hid (MapAt w5 Try.prog 31 w2.heap.size (q + 1) fi) ∧
                  Hid ((∀ a : Int, fi (.int .u64 a) = (mi a).map (Value.int .i64)) ∧ (∀ a : Int, (mi a).isSome = true → 0 ≤ a ∧ a < (k : Int)) ∧ (∀ a : Int, 0 ≤ a → a < (g : Int) → (mi a).isSome = true)) ∧ Hid (Below w.heap.size w w5) := by
                refine ⟨m, f, HW5, Lib.hid (HM5.out.mono (by omega)), Lib.hid ⟨HFq.out.1, HFq.out.2.1, HFq.out.2.2.1⟩, Lib.hid ?_⟩
                have u1 : Below w.heap.size wr _ := (Below.refl _ wr).alloc (by have := hblq.size; omega) (.cells #[.int .i64 ak, .int .u64 a, .int .i64 x] 35)
                have u2 := hF5.toBelow (B := w.heap.size) (by simp; have := hblq.size; omega) (fun b hb h => by have := (own_lt HWq.out.2.2.1 b h).1; omega)
                exact hblq.trans (u1.trans u2)
              obtain ⟨mi, fi, HWI, HMI, HFI, HBI⟩ := HI
          all_goals
            clear HWa HMa HWq HMq HL1 HL2 hblq d0 d1' d2'
            go_loopw [12, 101] (fun gn i wr => ∃ (j t : Nat) (v : Value), j ≤ k ∧ t ≤ k ∧ Hid (t = g + j) ∧ i = .int .i64 j ∧ gn = .int .i64 t ∧ Hid (Ws.Win wr w.heap.size w1.heap.size v (mkW mi t (th.drop t)) 64 k) ∧ Hid (MapAt wr Try.prog 31 w2.heap.size (q + 1) fi) ∧
              Hid (∀ a : Int, 0 ≤ a → a < (t : Int) → (mi a).isSome = true) ∧ Below w.heap.size w wr) (fun _ i _ => k - (intOf i).toNat)
            case atStart => exact ⟨0, g, vq, Nat.zero_le _, hg, Lib.hid rfl, rfl, rfl, HWI, HMI, Lib.hid HFI.out.2.2, HBI.out⟩
            case round =>
              obtain ⟨j, t, vj, hj, htk, HT, rfl, rfl, HWj, HMj, HKj, hblj⟩ := hrel
              by_cases hjk : j < k
              · by_cases hhd : t < k ∧ (mi (t : Int)).isSome = true
                · obtain ⟨hgk, hsm⟩ := hhd
                  obtain ⟨y, hy⟩ : ∃ y, mi (t : Int) = some y := Option.isSome_iff_exists.1 hsm
                  have hth : t < th.length := by have := HKA.out; omega
                  have hcons : mkW mi t (th.drop t) = ⟨(t : Int), .string th[t], y, true⟩ :: mkW mi (t + 1) (th.drop (t + 1)) := by rw [mkW_cons hth, hy]; rfl
                  have HWc : Hid (Ws.Win wr w.heap.size w1.heap.size vj (⟨(t : Int), .string th[t], y, true⟩ :: mkW mi (t + 1) (th.drop (t + 1))) 64 k) := Lib.hid (hcons ▸ HWj.out)
                  have HY := Lib.hid hy
                  have HL3 : Hid ((fi (.int .u64 (t : Int))).getD (.int .i64 0) = .int .i64 y) := Lib.hid (by rw [HFI.out.1, HY.out]; rfl)
                  clear hcons hy hsm
                  obtain ⟨g0, o0, rfl, hpb0, hbb0, hc0'⟩ := HR0.out.out (by omega) (by omega)
                  have HC0 := Lib.hid hc0'
                  clear hc0'
                  have hwt : IntKind.u64.wrap (t : Int) = t := IntWalk.u64_in _ (by omega)
                  go_wp2_with fail
                  refine (Ws.next_some w.heap.size w1.heap.size vj t y th[t] _ 64 k wr HWc.out (mkW_one _ _ _)).mono ?_
                  rintro e w6 ⟨rfl, v6, hW6, hv6, hF6⟩
                  have HW6 := Lib.hid hW6
                  have HM6 := Lib.hid (HMj.out.fr hF6 (ws_out HWc.out HMj.out))
                  have HB6 := Lib.hid (hblj.trans (ws_below HWc.out hF6 hblj.size))
                  have hthc : w6.cell? ⟨g0, o0 + t, none⟩ = some (.string th[t]) := by
                    refine (HB6.out.cell (p := ⟨g0, o0 + t, none⟩) hpb0).trans (HC0.out t _ ?_)
                    have := fm_get (fun s : ByteArray => [Value.string s]) 1 th t 0 hth (by simp) (by omega)
                    simpa using this
                  generalize th[t] = s at hthc
                  have hyy : (y != y) = false := by simp
                  clear hW6 hv6
                  have hlk := (HM6.out.look (key := .int .u64 (t : Int)) keyU Try.underlying30 (zeroI _) (keyOf_int_mk Try.underlying31 (WalkArith.wf_u64 (by omega)))).2
                  rw [HL3.out] at hlk
                  go_wp2_with fail
                  go_roundw
                  case rel =>
                    refine ⟨j + 1, t + 1, v6, by omega, by omega, Lib.hid (by have := HT.out; omega), by go_num, by go_num, HW6, HM6, Lib.hid fun b h1 h2 => ?_, HB6.out⟩
                    by_cases hbt : b = t
                    · rw [hbt, HY.out]; rfl
                    · exact HKj.out b h1 (by omega)
                  case measure => simp [intOf]; omega
                · have HNX := Lib.hid (nextL_mkW (m := mi) (th := th) (g := t) (fun h => by
                    cases hm : (mi (t : Int)).isSome with
                    | false => rfl
                    | true => exact absurd ⟨by have := HKA.out; omega, hm⟩ hhd))
                  clear hhd
                  go_wp2_with fail
                  refine (Ws.next_none w.heap.size w1.heap.size vj _ 64 k wr HWj.out HNX.out).mono ?_
                  rintro e w6 ⟨rfl, hF6⟩
                  have HW6 := Lib.hid (HWj.out.below hF6)
                  have HM6 := Lib.hid (HMj.out.fr (S := NoB) (Fr.ofNew hF6) (fun x => x))
                  have HB6 := Lib.hid (hblj.trans (hF6.mono hblj.size))
                  go_wp2_with fail
                  go_roundw
                  case rel => exact ⟨q + 1, t, vj, mi, fi, by omega, htk, by go_num, rfl, HW6, HM6, Lib.hid ⟨HFI.out.1, HFI.out.2.1, HKj.out, HNX.out⟩, HB6.out⟩
                  case measure => simp [intOf]; omega
              · have HNX := Lib.hid (nextL_mkW (m := mi) (th := th) (g := t) (fun h => by have := HKA.out; have := HT.out; omega))
                go_wp2_with fail
                go_roundw
                case rel => exact ⟨q + 1, t, vj, mi, fi, by omega, htk, by go_num, rfl, HWj, HMj, Lib.hid ⟨HFI.out.1, HFI.out.2.1, HKj.out, HNX.out⟩, hblj⟩
                case measure => simp [intOf]; omega
        · have hka : th.length = k := hL0.out
          have hms : (m (g : Int)).isSome = false := by
            by_cases hgk : g < k
            · exact nextL_not HFq.out.2.2.2 (by omega)
            · cases hm : (m (g : Int)).isSome with
              | false => rfl
              | true => have := HFq.out.2.1 _ hm; omega
          have hwg : IntKind.u64.wrap (g : Int) = g := IntWalk.u64_in _ (by omega)
          have hlk := (HMq.out.look (key := .int .u64 (g : Int)) keyU Try.underlying30 (zeroI _) (keyOf_int_mk Try.underlying31 (WalkArith.wf_u64 (by omega)))).1
          have hf0 : (f (.int .u64 (g : Int))).isSome = false := by rw [HFq.out.1]; cases hm : m (g : Int) <;> simp_all
          rw [hf0] at hlk
          have hlen : ((mkW m g (th.drop g)).length : Int) = (k : Int) - g := by rw [mkW_len, List.length_drop]; omega
          have HLE := Lib.hid hlen
          have hkk : (((k : Int) - g) == ((k : Int) - g)) = true := by simp
          clear hka hms hf0 hlen
          go_wp2_with fail
          refine (Ws.len_any w.heap.size w1.heap.size vq _ 64 k wr HWq.out).mono ?_
          rw [HLE.out]
          rintro e w6 ⟨rfl, rfl⟩
          go_wp2_with fail
          go_ret
          exact ⟨rfl, hblq⟩

theorem orders_law (A0 : Option Addr) (n0 c0 : Nat) (th : List ByteArray) (A1 : Option Addr) (n1 c1 : Nat) (an : List ActR) (w : World)
    (h0 : n0 ≤ c0 ∧ c0 ≤ maxLen ∧ th.length = n0 ∧ Rd (fun b => b < w.heap.size) w 1 A0 n0 (th.flatMap fun s => [.string s]))
    (h1 : n1 ≤ c1 ∧ c1 ≤ maxLen ∧ an.length = n1 ∧ Rd (fun b => b < w.heap.size) w 3 A1 n1 (an.flatMap ActR.cells) ∧ ∀ a ∈ an, a.Good) :
    Calls Try.prog 3 #[.slice A0 n0 c0, .slice A1 n1 c1] w fun e w' => e = .returned (.bool true) ∧ Below w.heap.size w w' :=
  orders_walk A0 A1 n0 c0 n1 c1 th an w h0 ⟨h1.1, h1.2.1, h1.2.2.1, h1.2.2.2.1⟩ h1.2.2.2.2
end Go.Proofs.Ythhgepnneaehhaa
