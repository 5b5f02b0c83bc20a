/- The document's cache: its Sessions. No condition. -/
import Derived.Test.YtpomcnfifhfffaaCsR
namespace Go.Proofs.Ytpomcnfifhfffaa
open Go.RowKit Go.Maps

theorem own_lit1 {P : Nat} {w : World} {g : Nat} {t : TypeId} {v : Value} (h : Blk w g t #[v]) (hP : P ≤ g) : w.ownsRow P t 1 (.slice (some ⟨g, 0, none⟩) 1 1) 1 [v] :=
  ⟨by simp, .inr ⟨g, 1, #[v], rfl, hP, h, Nat.le_refl _, by unfold maxLen; omega, by simp, by simp⟩⟩
theorem sess_step {L : List GC} {m : Nat} (hm : m < L.length) : sess (kvs (L.drop m)) = if L[m].kv.id ∈ sess (kvs (L.drop (m + 1))) then sess (kvs (L.drop (m + 1))) else L[m].kv.id :: sess (kvs (L.drop (m + 1))) := by
  rw [List.drop_eq_getElem_cons hm]
  show sess (L[m].kv :: kvs (L.drop (m + 1))) = _
  conv => lhs; unfold sess
  simp only [sess_mem]
theorem sess_len : ∀ L : List KV, (sess L).length ≤ L.length
  | [] => Nat.le_refl _
  | x :: L => by
    have := sess_len L
    unfold sess
    split
    · simp; omega
    · simp; omega
/-- The sessions, so far. -/
structure SI (w : World) (L : List GC) (m : Nat) (v : Value) (wr : World) : Prop where
  rd : ∃ A c, v = .slice A (sess (kvs (L.drop m))).length c ∧ RdT 23 wr 1 A (sess (kvs (L.drop m))).length (u64s (sess (kvs (L.drop m))))
  new : New w wr
def isIn (O : List Int) (k : Nat) (x : Int) : Bool := decide (x ∈ O.take k)
theorem isIn_0 (O : List Int) (x : Int) : isIn O 0 x = false := by simp [isIn]
theorem isIn_step {O : List Int} {k : Nat} (hk : k < O.length) (x : Int) : isIn O (k + 1) x = (isIn O k x || (O[k] == x)) := by
  unfold isIn
  rw [List.take_succ_eq_append_getElem hk, Bool.eq_iff_iff]
  simp only [List.mem_append, List.mem_singleton, decide_eq_true_eq, Bool.or_eq_true, beq_iff_eq]
  exact or_congr_right ⟨fun e => e.symm, fun e => e.symm⟩
theorem isIn_all (O : List Int) (x : Int) : isIn O O.length x = decide (x ∈ O) := by simp [isIn]
set_option maxHeartbeats 8000000 in
set_option maxRecDepth 100000 in
/-- Sessions. -/
theorem rsess_any (A : Option Addr) (n c : Nat) (L : List GC) (w : World) (h : RdT 45 w 4 A n (flatG L)) (hL : L.length = n) (hn : n ≤ 1000000) :
    Calls Try.prog 20 #[.slice A n c] w fun e w' => (∃ A' c', e = .returned (.slice A' (sess (kvs L)).length c') ∧ RdT 23 w' 1 A' (sess (kvs L)).length (u64s (sess (kvs L)))) ∧ New w w' := by
  have HR := Lib.hid h
  have HL := Lib.hid hL
  clear h hL
  go_enter Try.func20, Try.ntmps20
  go_wp2_with fail
  go_loopw [3, 4, 5, 6] (fun v i _ _ wr => ∃ (m : Nat), m ≤ n ∧ i = .int .i64 ((m : Int) - 1) ∧ Hid (SI w L m v wr)) (fun _ i _ _ _ => (intOf i + 1).toNat)
  case atStart =>
    refine ⟨n, Nat.le_refl _, rfl, Lib.hid ⟨⟨none, 0, ?_, ?_⟩, New.refl _⟩⟩
    · rw [List.drop_of_length_le (by rw [HL.out]; omega)]; rfl
    · rw [List.drop_of_length_le (by rw [HL.out]; omega)]; exact RdT.nil
  case round =>
    obtain ⟨m1, hm, rfl, HI⟩ := hrel
    rcases m1 with _ | m
    · as_aux_lemma =>
      obtain ⟨A', c', rfl, hR⟩ := HI.out.rd
      have HNW := Lib.hid HI.out.new
      rw [List.drop_zero] at hR ⊢
      have HRR := Lib.hid hR
      clear hR HI
      go_wp2_with fail
      go_ret
      exact ⟨⟨A', c', rfl, HRR.out⟩, HNW.out⟩
    · as_aux_lemma =>
      obtain ⟨gA, oA, hl, rfl, -, -, c0, -⟩ := rd_gc (New.rd HI.out.new HR.out) HL.out (show m < n by omega)
      have hst := sess_step hl
      have hsl : (sess (kvs (L.drop (m + 1)))).length ≤ n := Nat.le_trans (sess_len _) (by have := HL.out; simp [kvs]; omega)
      obtain ⟨A', c', rfl, hR⟩ := HI.out.rd
      have HNW := Lib.hid HI.out.new
      have HST := Lib.hid hst
      clear hst HI
      generalize sess (kvs (L.drop (m + 1))) = O at hR HST hsl ⊢
      generalize L[m].kv.id = x at c0 HST
      have HRR := Lib.hid hR
      have HC0 := Lib.hid c0
      obtain ⟨i, hi⟩ : ∃ i : Int, i = ((m + 1 : Nat) : Int) - 1 := ⟨_, rfl⟩
      have him : i = m := by omega
      rw [← hi, him]
      clear hR c0 hi him
      go_wp2_with fail
      obtain ⟨wo, hwo⟩ : ∃ wo : World, wo = wr := ⟨_, rfl⟩
      rw [← hwo] at HNW HRR HC0
      rw [← hwo]
      clear hwo
      generalize hol : O.length = l at *
      have HOL := Lib.hid hol
      clear hol
      go_loopw [5, 6] (fun b i wr => ∃ (k : Nat) (q : Nat), k ≤ l ∧ i = .int .i64 k ∧ b = .bool (isIn O k x) ∧ wr = wo.drewN q) (fun _ i _ => l - (intOf i).toNat)
      case atStart => exact ⟨0, 0, by omega, rfl, by rw [isIn_0], rfl⟩
      case round =>
        obtain ⟨k, q, hk, rfl, rfl, rfl⟩ := hrel
        by_cases hkl : k < l
        · as_aux_lemma =>
          obtain ⟨gO, oO, rfl, -, hgs, hc⟩ := Rd.out HRR.out (by omega) (by omega)
          have hkO : k < O.length := by rw [HOL.out]; exact hkl
          have cq : wo.cell? ⟨gO, oO + k, none⟩ = some (.int .u64 O[k]) := hc k _ (by rw [List.getElem?_eq_getElem (by rw [u64s_len]; exact hkO), u64s_get])
          have hns := isIn_step hkO x
          have HNS := Lib.hid hns
          have cj := HC0.out
          generalize O[k] = y at cq HNS
          clear hns hc
          generalize isIn O k x = b at HNS ⊢
          rcases b with _ | _
          · go_wp2_with fail
            go_quiet (fail)
            go_wp2_with fail
            go_roundw
            case rel => exact ⟨k + 1, q + nq, by omega, by go_num, by rw [HNS.out]; simp, rfl⟩
            case measure => simp [intOf]; omega
          · go_wp2_with fail
            go_quiet (fail)
            go_wp2_with fail
            go_roundw
            case rel => exact ⟨k + 1, q + nq, by omega, by go_num, by rw [HNS.out]; rfl, rfl⟩
            case measure => simp [intOf]; omega
        · as_aux_lemma =>
          obtain rfl : k = l := by omega
          have hN1 : New wo (wo.drewN q) := (New.refl wo).dn q
          obtain ⟨wm, hwm⟩ : ∃ wm : World, wm = wo.drewN q := ⟨_, rfl⟩
          rw [← hwm] at hN1
          have HN1 := Lib.hid hN1
          have cj : wm.cell? ⟨gA, oA + m * 4, none⟩ = some (.int .u64 x) := hN1.cell_ HC0.out
          have HRm := Lib.hid (HRR.out.new hN1)
          rw [← hwm]
          clear hwm hN1
          have hall : isIn O k x = decide (x ∈ O) := by rw [← HOL.out]; exact isIn_all O x
          rw [hall]
          by_cases hx : x ∈ O
          · rw [decide_eq_true hx]
            have HX := Lib.hid hx
            clear hx hall
            go_wp2_with fail
            go_roundw
            case rel =>
              refine ⟨m, by omega, by go_num, Lib.hid ⟨⟨A', c', ?_, ?_⟩, HNW.out.tr HN1.out⟩⟩
              · rw [HST.out, if_pos HX.out, HOL.out]
              · rw [HST.out, if_pos HX.out, HOL.out]; exact HRm.out
            case measure => simp [intOf] <;> omega
          · rw [decide_eq_false hx]
            have HX := Lib.hid hx
            clear hx hall
            go_wp2_with (at_builtin; refine wpList_app elU _ rfl (.tmp 40) (.tmp 41) rfl wm.heap.size (.slice (some ⟨wm.heap.size, 0, none⟩) 1 1) 1 [.int .u64 x] rfl (own_lit1 (Blk.new' _ _ _ rfl) (Nat.le_refl _)) A' k c' (u64s O) rfl (New.rd (New.al (New.refl wm) _) HRm.out) (u64s_one O) (by unfold maxLen; omega) (by omega) (by simp) ?_; intro A3 c3' w3 hO3 hF3 hA3; have HO3 := Lib.hid hO3; have HF3 := Lib.hid hF3; clear hO3 hF3 hA3)
            go_roundw
            case rel =>
              have e : sess (kvs (L.drop m)) = x :: O := by rw [HST.out, if_neg HX.out]
              have el : (x :: O).length = 1 + k := by have := HOL.out; simp; omega
              refine ⟨m, by omega, by go_num, Lib.hid ⟨⟨A3, c3', ?_, ?_⟩, ?_⟩⟩
              · rw [e, el]
              · rw [e, el]; exact RdT.own HO3.out rfl
              · exact ((HNW.out.tr HN1.out).al _).fr HF3.out (fun r hr => by
                  have : wm.heap.size = r := by simpa [Value.ownBlock] using hr
                  have := (HNW.out.tr HN1.out).size
                  omega)
            case measure => simp [intOf] <;> omega
end Go.Proofs.Ytpomcnfifhfffaa
