/- The reference's disk: which places wait. No condition but that it can be read. -/
import Derived.Test.YtpdgnidoglmgcaaDrD
namespace Go.Proofs.Ytpdgnidoglmgcaa
open Go.RowKit Go.Maps

/-- What is known at a round of Waits. -/
structure WI (w w0 : World) (L : List PU) (j : Nat) (v : Value) (wr : World) : Prop where
  own : wr.ownsRow w0.heap.size 3 1 v (waits (L.take j)).length (i64s (waits (L.take j)))
  new : New w0 wr
theorem WI.dn {w w0 wr : World} {L : List PU} {j : Nat} {v : Value} (h : WI w w0 L j v wr) (n : Nat) : WI w w0 L j v (wr.drewN n) := ⟨own_fr (S := NoB) h.own ((Fr.refl _ _).drewN n) (fun _ _ x => x), h.new.dn n⟩
def isNew (L : List PU) (k : Nat) (x : Int) : Bool := !((L.take k).map PU.pos).contains x
theorem isNew_0 (L : List PU) (x : Int) : isNew L 0 x = true := by simp [isNew]
theorem isNew_step {L : List PU} {k : Nat} (hk : k < L.length) (x : Int) : isNew L (k + 1) x = (isNew L k x && (L[k].pos != x)) := by
  unfold isNew
  rw [List.take_succ_eq_append_getElem hk]
  simp only [List.map_append, List.map_cons, List.map_nil]
  rw [Bool.eq_iff_iff]
  simp
  intro _
  exact ⟨fun h e => h e.symm, fun h e => h e.symm⟩
theorem waits_step {L : List PU} {i : Nat} (hi : i < L.length) : waits (L.take (i + 1)) = if isNew L i L[i].pos = true then waits (L.take i) ++ [L[i].pos] else waits (L.take i) := by
  rw [List.take_succ_eq_append_getElem hi, waits_snoc]
  by_cases h : L[i].pos ∈ waits (L.take i)
  · have h2 := (mem_waits _ _).1 h
    rw [if_pos h, if_neg (by simp only [isNew, Bool.not_eq_true']; rw [List.contains_iff_mem.2 h2]; simp)]
  · have h2 : L[i].pos ∉ (L.take i).map PU.pos := fun e => h ((mem_waits _ _).2 e)
    rw [if_neg h, if_pos (by simp only [isNew, Bool.not_eq_true']; rw [Bool.eq_false_iff]; intro e; exact h2 (List.contains_iff_mem.1 e))]

set_option maxHeartbeats 4000000 in
set_option maxRecDepth 100000 in
theorem rwaits_any (r : RP) (A1 : Option Addr) (c1 : Nat) (A2 : Option Addr) (c2 : Nat) (w : World) (h : RfIn w r A1 A2) (hn : r.tot ≤ 100000) :
    Calls Try.prog 31 #[.agg (RfV r A1 c1 A2 c2)] w fun e w' => (∃ A c, e = .returned (.slice A (waits r.fresh).length c) ∧ w'.ownsRow w.heap.size 3 1 (.slice A (waits r.fresh).length c) (waits r.fresh).length (i64s (waits r.fresh))) ∧ New w w' := by
  have H := Lib.hid h
  have hn1 : r.fresh.length ≤ 100000 := by unfold RP.tot at hn; omega
  unfold RfV
  clear h hn
  go_enter Try.func31, Try.ntmps31
  go_upto_region 1 with fail
  obtain ⟨w0, hw0⟩ : ∃ w0 : World, w0 = w.alloc (.cells #[.int .i64 r.size, .slice A1 r.sure.length c1, .slice A2 r.fresh.length c2, .int .i64 r.fuse, .bool r.down] 48) := ⟨_, rfl⟩
  obtain ⟨G, hG⟩ : ∃ G, G = w.heap.size := ⟨_, rfl⟩
  rw [← hG]
  have HN0 : Hid (New w w0) := Lib.hid (by rw [hw0]; exact (New.refl w).al _)
  have HB0 : Hid (Blk w0 G 48 #[.int .i64 r.size, .slice A1 r.sure.length c1, .slice A2 r.fresh.length c2, .int .i64 r.fuse, .bool r.down]) := Lib.hid (by rw [hw0, hG]; exact Blk.new _ _ _)
  rw [← hw0]
  have HGW : Hid (G = w.heap.size) := Lib.hid hG
  clear hw0 hG
  obtain ⟨L, hL⟩ : ∃ L, L = r.fresh := ⟨_, rfl⟩
  have HI := Lib.hid (H.out.new HN0.out)
  have HR : Hid (RdT 75 w0 65 A2 L.length (flatP L)) := Lib.hid (by rw [hL]; exact HI.out.fresh)
  have HOK : Hid (∀ x ∈ L, SecOk x.s) := Lib.hid (by rw [hL]; exact HI.out.ok.2)
  rw [← hL] at HB0 hn1
  rw [← hL]
  have HLE := Lib.hid hL
  clear hL
  generalize hln : L.length = n at HB0 HR hn1
  have HLN := Lib.hid hln
  clear hln HI
  go_wp2_with fail
  go_loopw [3, 4, 5, 6] (fun v i _ _ wr => ∃ (j : Nat), j ≤ n ∧ i = .int .i64 j ∧ Hid (WI w w0 L j v wr)) (fun _ i _ _ _ => n - (intOf i).toNat)
  case atStart => exact ⟨0, Nat.zero_le _, rfl, Lib.hid ⟨World.ownsRow_nil _ _ _ _, New.refl _⟩⟩
  case round =>
    obtain ⟨j, hj, rfl, HW⟩ := hrel
    have k2 := (New.blk HW.out.new HB0.out).cell 2
    by_cases hlt : j < n
    · as_aux_lemma =>
      obtain ⟨gA, oA, hl, rfl, -, cp, -⟩ := rd_put (HW.out.new.rd HR.out) HLN.out HOK.out hlt
      have hst := waits_step hl
      have HCP := Lib.hid cp
      generalize hpx : L[j].pos = px at cp hst HCP
      have HST := Lib.hid hst
      have HPX := Lib.hid hpx
      clear hst cp hpx
      go_wp2_with fail
      obtain ⟨wo, hwo⟩ : ∃ wo : World, wo = wr := ⟨_, rfl⟩
      rw [← hwo] at HW k2 HCP
      rw [← hwo]
      clear hwo
      go_loopw [5, 6] (fun b i wr => ∃ (k : Nat) (m : Nat), k ≤ j ∧ i = .int .i64 k ∧ b = .bool (isNew L k px) ∧ wr = wo.drewN m) (fun _ i _ => j - (intOf i).toNat)
      case atStart => exact ⟨0, 0, by omega, rfl, by rw [isNew_0], rfl⟩
      case round =>
        obtain ⟨k, m, hk, rfl, rfl, rfl⟩ := hrel
        by_cases hkj : k < j
        · as_aux_lemma =>
          obtain ⟨gB, oB, hlB, hAB, -, cq, -⟩ := rd_put (HW.out.new.rd HR.out) HLN.out HOK.out (show k < n by omega)
          injection hAB with hAB
          injection hAB with h1 h2
          subst h1 h2
          have hns := isNew_step hlB px
          generalize L[k].pos = py at cq hns
          have HNS := Lib.hid hns
          have cj := HCP.out
          clear hns
          generalize isNew L k px = b at HNS ⊢
          rcases b with _ | _
          · go_wp2_with fail
            go_quiet (fail)
            go_wp2_with fail
            go_roundw
            case rel => exact ⟨k + 1, m + nq, by omega, by go_num, by rw [HNS.out]; rfl, rfl⟩
            case measure => simp [intOf]; omega
          · go_wp2_with fail
            go_quiet (fail)
            go_wp2_with fail
            go_roundw
            case rel => exact ⟨k + 1, m + nq, by omega, by go_num, by rw [HNS.out]; simp, rfl⟩
            case measure => simp [intOf]; omega
        · as_aux_lemma =>
          obtain rfl : k = j := by omega
          have HWm := Lib.hid (HW.out.dn m)
          obtain ⟨wm, hwm⟩ : ∃ wm : World, wm = wo.drewN m := ⟨_, rfl⟩
          have cj : wm.cell? ⟨gA, oA + k * 65, none⟩ = some (.int .i64 px) := by rw [hwm]; exact HCP.out
          rw [← hwm] at HWm
          have d2 := (New.blk HWm.out.new HB0.out).cell 2
          rw [← hwm]
          clear hwm k2
          have HCJ := Lib.hid cj
          clear cj
          obtain ⟨A, c, rfl, hnc, hcm, -, -⟩ := own_shape HWm.out.own
          have hwl := waits_len (L.take k)
          have hwl2 : (L.take k).length ≤ k := List.length_take_le _ _
          obtain ⟨z, hz⟩ : ∃ z, z = waits (L.take k) := ⟨_, rfl⟩
          have hown : wm.ownsRow w0.heap.size 3 1 (.slice A z.length c) z.length (i64s z) := by rw [hz]; exact HWm.out.own
          have HST2 : Hid (waits (L.take (k + 1)) = if isNew L k px = true then z ++ [px] else z) := Lib.hid (by rw [HST.out, hz])
          rw [← hz] at hnc hwl
          rw [← hz]
          have HOWN := Lib.hid hown
          have HNW := Lib.hid HWm.out.new
          have hzl : z.length ≤ 100000 := by omega
          clear hz hown HWm HST
          generalize isNew L k px = b at HST2 ⊢
          have cj := HCJ.out
          have hws : w0.heap.size ≤ wm.heap.size := HNW.out.size
          rcases b with _ | _
          · go_wp2_with fail
            go_roundw
            case rel =>
              refine ⟨k + 1, by omega, by go_num, Lib.hid ⟨?_, HNW.out⟩⟩
              rw [HST2.out, if_neg (by simp)]
              exact HOWN.out
            case measure => simp [intOf]; omega
          · go_wp2_with (at_builtin; refine wpList_app elI _ rfl (.tmp 36) (.tmp 43) rfl w0.heap.size (.slice A z.length c) z.length (i64s z) rfl (New.own (New.al (New.refl wm) _) HOWN.out) (some ⟨wm.heap.size, 0, none⟩) 1 1 [.int .i64 px] rfl (Rd.ofBlk (p := fun _ => True) (t := 3) (cs := #[.int .i64 px]) (Blk.new' _ _ _ rfl) 1 1 rfl trivial) (by simp [Value.oneCell']) (by unfold maxLen; omega) (by omega) (by simp; omega) ?_; intro A' c' w3 hO3 hF3 hA3; have HO3 := Lib.hid hO3; have HF3 := Lib.hid hF3; clear hO3 hF3 hA3)
            go_roundw
            case rel =>
              refine ⟨k + 1, by omega, by go_num, Lib.hid ⟨?_, ?_⟩⟩
              · rw [HST2.out, if_pos rfl, List.length_append, i64s_app]
                exact HO3.out
              · exact ((HNW.out).al _).fr HF3.out (fun q hq => (own_lt HOWN.out q hq).1)
            case measure => simp [intOf]; omega
    · as_aux_lemma =>
      obtain rfl : j = n := by omega
      have hf : waits (L.take j) = waits L := by rw [List.take_of_length_le (by rw [HLN.out]; omega)]
      have ho := HW.out.own
      rw [hf] at ho
      have HNW := Lib.hid HW.out.new
      obtain ⟨A, c, rfl, hnc, hcm, -, -⟩ := own_shape ho
      have HO := Lib.hid ho
      clear hf ho HW hnc hcm
      go_wp2_with fail
      go_ret
      rw [← HLE.out]
      exact ⟨⟨A, c, rfl, own_base HO.out (fun k hk => by have := (own_lt HO.out k hk).1; have := HN0.out.size; omega)⟩, HN0.out.tr HNW.out⟩
end Go.Proofs.Ytpdgnidoglmgcaa
