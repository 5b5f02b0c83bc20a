/- The document's cache: its Find. No condition. -/
import Derived.Test.YtpomcnfifhfffaaCsS
namespace Go.Proofs.Ytpomcnfifhfffaa
open Go.RowKit Go.Maps

def hits (a q : Int) (rq : List Int) (x : GC) : Bool := x.kv.id == a && (x.kv.seq == q && decide (x.kv.req = rq))
/-- What Find hands back. -/
def FEnd (L : List GC) (a q : Int) (rq : List Int) (e : Ending) : Prop := match L.find? (hits a q rq) with | some x => e = .returned (.tuple #[.slice x.B x.k x.d, .bool true]) | none => e = .returned (.tuple #[.slice none 0 0, .bool false])
theorem find_hits {L : List GC} {j : Nat} (hj : j < L.length) {p : GC → Bool} (h0 : ∀ x ∈ L.take j, p x = false) (h1 : p L[j] = true) : L.find? p = some L[j] := by
  have e0 : (L.take j).find? p = none := List.find?_eq_none.2 fun x hx => by rw [h0 x hx]; simp
  have e1 : (L.take j ++ L.drop j).find? p = some L[j] := by
    rw [List.find?_append, e0, List.drop_eq_getElem_cons hj, List.find?_cons_of_pos h1]
    simp
  rwa [List.take_append_drop] at e1
set_option maxHeartbeats 8000000 in
set_option maxRecDepth 100000 in
/-- Find. -/
theorem rfind_any {p1 p2 : Nat → Prop} (A : Option Addr) (n c : Nat) (L : List GC) (a q : Int) (B : Option Addr) (m d : Nat) (rq : List Int) (w : World) (h : Rd p1 w 4 A n (flatG L)) (hL : L.length = n) (hn : n ≤ 1000000)
    (ha : 0 ≤ a ∧ a < 18446744073709551616) (hq : 0 ≤ q ∧ q < 18446744073709551616) (hg : ∀ x ∈ L, x.Good w) (hB : Rd p2 w 1 B m (u8s rq)) (bq : Byt rq) :
    Calls Try.prog 18 #[.slice A n c, .int .u64 a, .int .u64 q, .slice B m d] w fun e w' => FEnd L a q rq e ∧ New w w' := by
  have HR := Lib.hid h
  have HL := Lib.hid hL
  have HG := Lib.hid hg
  have HB := Lib.hid hB
  have HQ := Lib.hid bq
  clear h hL hg hB bq
  go_enter Try.func18, Try.ntmps18
  go_wp2_with fail
  go_loopw [10] (fun i wr => ∃ (j : Nat), j ≤ n ∧ i = .int .i64 j ∧ (∀ x ∈ L.take j, hits a q rq x = false) ∧ Hid (New w wr)) (fun i _ => n - (intOf i).toNat)
  case atStart => exact ⟨0, Nat.zero_le _, rfl, by simp, Lib.hid (New.refl _)⟩
  case round =>
    obtain ⟨j, hj, rfl, hno, HN⟩ := hrel
    by_cases hlt : j < n
    · as_aux_lemma =>
      obtain ⟨gA, oA, hl, rfl, -, -, c0, c1, c2, c3⟩ := rd_gc (New.rd HN.out HR.out) HL.out hlt
      have hgx := HG.out L[j] (List.getElem_mem _)
      have hk1 := fun t => run_conv (c := L[j].c) (New.rd (HN.out.dn t) hgx.rdq)
      have hk2 := fun t => run_conv (c := d) (New.rd (HN.out.dn t) HB.out)
      have hs := str_inj hgx.bq HQ.out
      have hnext : hits a q rq L[j] = false → ∀ x ∈ L.take (j + 1), hits a q rq x = false := fun h1 x hx => by
        rw [List.take_succ_eq_append_getElem hl] at hx
        rcases List.mem_append.1 hx with hx | hx
        · exact hno x hx
        · obtain rfl := List.mem_singleton.1 hx; exact h1
      have hhit : hits a q rq L[j] = true → L.find? (hits a q rq) = some L[j] := find_hits hl hno
      have HNO := Lib.hid hnext
      have HHI := Lib.hid hhit
      clear hno hnext hhit
      have HDE : Hid (hits a q rq L[j] = (L[j].kv.id == a && (L[j].kv.seq == q && decide (L[j].kv.req = rq)))) := Lib.hid rfl
      have HFE : Hid (∀ e, FEnd L a q rq e = match L.find? (hits a q rq) with | some x => e = .returned (.tuple #[.slice x.B x.k x.d, .bool true]) | none => e = .returned (.tuple #[.slice none 0 0, .bool false])) := Lib.hid fun _ => rfl
      generalize L[j] = x at c0 c1 c2 c3 hgx hk1 hk2 hs HNO HHI HDE
      generalize strOfNums x.kv.req = s1 at hk1 hs
      generalize strOfNums rq = s2 at hk2 hs
      generalize hdr : decide (x.kv.req = rq) = r at hs HDE
      generalize hid : x.kv.id = b1 at c0 HDE
      generalize hsq : x.kv.seq = b2 at c1 HDE
      have HGX := Lib.hid hgx
      clear hgx hid hsq hdr
      by_cases e1 : b1 = a
      · subst e1
        by_cases e2 : b2 = q
        · subst e2
          rcases r with _ | _
          · go_wp2_with fail
            go_quiet (fail)
            go_wp2_with fail
            go_roundw
            case rel => exact ⟨j + 1, by omega, by go_num, HNO.out (by rw [HDE.out]; simp), Lib.hid (HN.out.dn nq)⟩
            case measure => simp [intOf]; omega
          · have c3' : (wr.cell? ⟨gA, oA + j * 4 + 3, none⟩ = some (.slice x.B x.k x.d)) := c3
            go_wp2_with fail
            go_quiet (fail)
            go_wp2_with fail
            go_ret2
            refine ⟨?_, HN.out.dn nq⟩
            rw [HFE.out, HHI.out (by rw [HDE.out]; simp)]
            rfl
        · have t2 : (b2 == q) = false := by simpa using e2
          clear e2
          go_wp2_with fail
          go_quiet (fail)
          go_wp2_with fail
          go_roundw
          case rel => exact ⟨j + 1, by omega, by go_num, HNO.out (by rw [HDE.out, t2]; simp), Lib.hid (HN.out.dn nq)⟩
          case measure => simp [intOf]; omega
      · have t1 : (b1 == a) = false := by simpa using e1
        clear e1
        go_wp2_with fail
        go_quiet (fail)
        go_wp2_with fail
        go_roundw
        case rel => exact ⟨j + 1, by omega, by go_num, HNO.out (by rw [HDE.out, t1]; simp), Lib.hid (HN.out.dn nq)⟩
        case measure => simp [intOf]; omega
    · as_aux_lemma =>
      obtain rfl : j = n := by omega
      rw [List.take_of_length_le (by rw [HL.out]; omega)] at hno
      have HF : Hid (L.find? (hits a q rq) = none) := Lib.hid (List.find?_eq_none.2 fun x hx => by rw [hno x hx]; simp)
      clear hno
      go_wp2_with fail
      go_ret2
      refine ⟨?_, HN.out⟩
      unfold FEnd
      rw [HF.out]
      rfl
end Go.Proofs.Ytpomcnfifhfffaa
