/- The document's cache: its Keep. No condition. -/
import Derived.Test.YtpomcnfifhfffaaCsS
namespace Go.Proofs.Ytpomcnfifhfffaa
open Go.RowKit Go.Maps

def same2 (x y : GC) : Bool := !(y.kv.id == x.kv.id && y.kv.seq == x.kv.seq)
def keep2G (L : List GC) (a : Int) : List GC := if cnt (kvs L) a = 64 then L.eraseP (fun y => y.kv.id == a) else L
def keep3G (L0 L : List GC) (a : Int) : List GC := if (sess (kvs L0)).length = 8 ∧ cnt (kvs L0) a = 0 then L.filter (fun y => y.kv.id != ((sess (kvs L0)).headD 0)) else L
def keepG (L : List GC) (x : GC) : List GC := keep3G L (keep2G (L.filter (same2 x)) x.kv.id) x.kv.id ++ [x]
theorem eraseP_kvs (p : KV → Bool) : ∀ L : List GC, kvs (L.eraseP fun y => p y.kv) = (kvs L).eraseP p
  | [] => rfl
  | x :: L => by
    by_cases h : p x.kv = true
    · rw [List.eraseP_cons_of_pos (by simpa using h)]
      show kvs L = (x.kv :: kvs L).eraseP p
      rw [List.eraseP_cons_of_pos h]
    · rw [List.eraseP_cons_of_neg (by simpa using h)]
      show x.kv :: kvs (L.eraseP fun y => p y.kv) = (x.kv :: kvs L).eraseP p
      rw [List.eraseP_cons_of_neg h, eraseP_kvs p L]
theorem filter_kvs (p : KV → Bool) (L : List GC) : kvs (L.filter fun y => p y.kv) = (kvs L).filter p := by
  unfold kvs
  rw [List.filter_map]
  rfl
theorem kvs_keep (L : List GC) (x : GC) : kvs (keepG L x) = keepL (kvs L) x.kv := by
  have e1 : kvs (L.filter (same2 x)) = keep1 (kvs L) x.kv := filter_kvs (fun y => !(y.id == x.kv.id && y.seq == x.kv.seq)) L
  have e2 : ∀ (M : List GC) (a : Int), kvs (keep2G M a) = keep2 (kvs M) a := fun M a => by
    unfold keep2G keep2
    split
    · exact eraseP_kvs (fun y => y.id == a) M
    · rfl
  have e3 : ∀ (M0 M : List GC) (a : Int), kvs (keep3G M0 M a) = keep3 (kvs M0) (kvs M) a := fun M0 M a => by
    unfold keep3G keep3
    split
    · exact filter_kvs (fun y => y.id != ((sess (kvs M0)).headD 0)) M
    · rfl
  unfold keepG keepL
  show kvs (_ ++ [x]) = _
  rw [show ∀ (M : List GC), kvs (M ++ [x]) = kvs M ++ [x.kv] from fun M => by simp [kvs], e3, e2, e1]
theorem eraseP_take {L : List GC} {k : Nat} (hk : k < L.length) (p : GC → Bool) : (L.take (k + 1)).eraseP p = if (L.take k).any p = true then (L.take k).eraseP p ++ [L[k]] else if p L[k] = true then L.take k else L.take k ++ [L[k]] := by
  rw [List.take_succ_eq_append_getElem hk]
  by_cases h : (L.take k).any p = true
  · rw [if_pos h]
    obtain ⟨y, hy, hp⟩ := List.any_eq_true.1 h
    exact List.eraseP_append_left hp _ hy
  · rw [if_neg h]
    have hn : ∀ b ∈ L.take k, ¬ p b = true := fun b hb hp => h (List.any_eq_true.2 ⟨b, hb, hp⟩)
    rw [List.eraseP_append_right _ hn]
    split
    · next h2 => rw [List.eraseP_cons_of_pos h2, List.append_nil]
    · next h2 => rw [List.eraseP_cons_of_neg h2]; rfl
theorem eraseP_none {L : List GC} {p : GC → Bool} (h : ¬ L.any p = true) : L.eraseP p = L := List.eraseP_of_forall_not fun b hb hp => h (List.any_eq_true.2 ⟨b, hb, hp⟩)
theorem eraseP_len (L : List GC) (p : GC → Bool) : (L.eraseP p).length ≤ L.length := List.length_eraseP_le

set_option maxHeartbeats 16000000 in
set_option maxRecDepth 100000 in
/-- Keep. -/
theorem rkeep_any (A : Option Addr) (n c : Nat) (L : List GC) (x : GC) (w : World) (h : RdT 45 w 4 A n (flatG L)) (hL : L.length = n) (hn : n ≤ 100000) (hg : ∀ y ∈ L, 0 ≤ y.kv.id ∧ y.kv.id < 18446744073709551616) (hx : 0 ≤ x.kv.id ∧ x.kv.id < 18446744073709551616) (hx2 : 0 ≤ x.kv.seq ∧ x.kv.seq < 18446744073709551616) :
    Calls Try.prog 17 #[.slice A n c, .agg x.cells.toArray] w fun e w' => GEnd w w' (keepG L x) e ∧ New w w' := by
  have HR := Lib.hid h
  have HL := Lib.hid hL
  have HG := Lib.hid hg
  have HX := Lib.hid hx
  unfold GC.cells
  clear h hL hg
  go_enter Try.func17, Try.ntmps17
  go_upto_region 1 with fail
  obtain ⟨w0, hw0⟩ : ∃ w0 : World, w0 = w.alloc (.cells #[.int .u64 x.kv.id, .int .u64 x.kv.seq, .slice x.A x.n x.c, .slice x.B x.k x.d] 45) := ⟨_, rfl⟩
  obtain ⟨G, hG⟩ : ∃ G, G = w.heap.size := ⟨_, rfl⟩
  have HN0 : Hid (New w w0) := Lib.hid (by rw [hw0]; exact (New.refl w).al _)
  have HB0 : Hid (Blk w0 G 45 #[.int .u64 x.kv.id, .int .u64 x.kv.seq, .slice x.A x.n x.c, .slice x.B x.k x.d]) := Lib.hid (by rw [hw0, hG]; exact Blk.new _ _ _)
  have HS0 : Hid (w0.heap.size = w.heap.size + 1) := Lib.hid (by rw [hw0]; simp)
  rw [← hw0, ← hG]
  clear hw0 hG
  go_wp2_with fail
  go_loopw [5, 6] (fun v i wr => ∃ (j : Nat), j ≤ n ∧ i = .int .i64 j ∧ Hid (GI w0.heap.size w0 ((L.take j).filter (same2 x)) v wr)) (fun _ i _ => n - (intOf i).toNat)
  case atStart => exact ⟨0, Nat.zero_le _, rfl, Lib.hid (GI.nil w0)⟩
  case round =>
    obtain ⟨j, hj, rfl, HI⟩ := hrel
    by_cases hlt : j < n
    · as_aux_lemma =>
      obtain ⟨gA, oA, hl, rfl, -, -, c0, c1, c2, c3⟩ := rd_gc (New.rd (HN0.out.tr HI.out.new) HR.out) HL.out hlt
      have hst := take_filter hl (same2 x)
      have hlen : ((L.take j).filter (same2 x)).length ≤ j := Nat.le_trans (List.length_filter_le _ _) (List.length_take_le _ _)
      obtain ⟨A2, d2, rfl, hnc, hcm, -, -⟩ := own_shape HI.out.own
      have HST := Lib.hid hst
      have HO := Lib.hid HI.out.own
      have HN := Lib.hid HI.out.new
      have k0 := HN.out.cell_ (HB0.out.cell 0)
      have k1 := HN.out.cell_ (HB0.out.cell 1)
      have hsm : same2 x L[j] = !(L[j].kv.id == x.kv.id && L[j].kv.seq == x.kv.seq) := rfl
      have HSM := Lib.hid hsm
      generalize (L.take j).filter (same2 x) = M at HST HO hlen hnc ⊢
      generalize L[j] = y at c0 c1 c2 c3 HST HSM
      have hws : w0.heap.size ≤ wr.heap.size := HN.out.size
      clear hst HI hsm
      by_cases hb : y.kv.id = x.kv.id
      · have hbn : (y.kv.id != x.kv.id) = false := by simp [hb]
        have hbm : (y.kv.id == x.kv.id) = true := by simp [hb]
        by_cases hb2 : y.kv.seq = x.kv.seq
        · have hbn2 : (y.kv.seq != x.kv.seq) = false := by simp [hb2]
          have hbm2 : (y.kv.seq == x.kv.seq) = true := by simp [hb2]
          have HB1 := Lib.hid hb
          have HB2 := Lib.hid hb2
          clear hb hb2
          go_wp2_with fail
          go_quiet (fail)
          go_wp2_with fail
          go_roundw
          case rel => exact ⟨j + 1, by omega, by go_num, Lib.hid ⟨by rw [HST.out, if_neg (by rw [HSM.out, hbm, hbm2]; simp)]; exact own_fr (S := NoB) HO.out ((Fr.refl _ _).drewN nq) (fun _ _ h => h), HN.out.dn nq⟩⟩
          case measure => simp [intOf]; omega
        · have hbn2 : (y.kv.seq != x.kv.seq) = true := by simpa using hb2
          have hbm2 : (y.kv.seq == x.kv.seq) = false := by simpa using hb2
          have HB1 := Lib.hid hb
          clear hb hb2
          go_wp2_with fail
          go_quiet (fail)
          go_wp2_with (first | ((with_reducible refine atOpS ⟨some 40, .buildSlice _ _ _, _, _, _, _⟩ ?_); refine wpList_bs1 elG (by decide) rfl (.tmp 39) rfl y.cells.toArray rfl rfl ?_) | ((with_reducible refine atOpS ⟨some 41, .call _, _, _, _, _⟩ ?_); refine wpList_app elG _ rfl (.tmp 35) (.tmp 40) rfl w0.heap.size (.slice A2 M.length d2) M.length (flatG M) rfl (New.own (New.al (New.refl (wr.drewN nq)) _) (own_fr (S := NoB) HO.out ((Fr.refl _ _).drewN nq) (fun _ _ h => h))) (some ⟨(wr.drewN nq).heap.size, 0, none⟩) 1 1 y.cells rfl (Rd.ofBlk (p := fun _ => True) (t := 45) (cs := y.cells.toArray) (Blk.new' _ _ _ rfl) 4 1 rfl trivial) y.one (by unfold maxLen; omega) (by omega) (by simp; omega) ?_; intro A3 c3' w3 hO3 hF3 hA3; have HO3 := Lib.hid hO3; have HF3 := Lib.hid hF3; clear hO3 hF3 hA3))
          go_roundw
          case rel =>
            refine ⟨j + 1, by omega, by go_num, Lib.hid ⟨?_, ?_⟩⟩
            · rw [HST.out, if_pos (by rw [HSM.out]; simp [hbm2]), List.length_append, flatG_app, flatG_one]
              exact HO3.out
            · exact ((HN.out.dn nq).al _).fr HF3.out (fun q hq => (own_lt HO.out q hq).1)
          case measure => simp [intOf]; omega
      · have hbn : (y.kv.id != x.kv.id) = true := by simpa using hb
        have hbm : (y.kv.id == x.kv.id) = false := by simpa using hb
        clear hb
        go_wp2_with fail
        go_quiet (fail)
        go_wp2_with (first | ((with_reducible refine atOpS ⟨some 40, .buildSlice _ _ _, _, _, _, _⟩ ?_); refine wpList_bs1 elG (by decide) rfl (.tmp 39) rfl y.cells.toArray rfl rfl ?_) | ((with_reducible refine atOpS ⟨some 41, .call _, _, _, _, _⟩ ?_); refine wpList_app elG _ rfl (.tmp 35) (.tmp 40) rfl w0.heap.size (.slice A2 M.length d2) M.length (flatG M) rfl (New.own (New.al (New.refl (wr.drewN nq)) _) (own_fr (S := NoB) HO.out ((Fr.refl _ _).drewN nq) (fun _ _ h => h))) (some ⟨(wr.drewN nq).heap.size, 0, none⟩) 1 1 y.cells rfl (Rd.ofBlk (p := fun _ => True) (t := 45) (cs := y.cells.toArray) (Blk.new' _ _ _ rfl) 4 1 rfl trivial) y.one (by unfold maxLen; omega) (by omega) (by simp; omega) ?_; intro A3 c3' w3 hO3 hF3 hA3; have HO3 := Lib.hid hO3; have HF3 := Lib.hid hF3; clear hO3 hF3 hA3))
        go_roundw
        case rel =>
          refine ⟨j + 1, by omega, by go_num, Lib.hid ⟨?_, ?_⟩⟩
          · rw [HST.out, if_pos (by rw [HSM.out]; simp [hbm]), List.length_append, flatG_app, flatG_one]
            exact HO3.out
          · exact ((HN.out.dn nq).al _).fr HF3.out (fun q hq => (own_lt HO.out q hq).1)
        case measure => simp [intOf]; omega
    · as_aux_lemma =>
      obtain rfl : j = n := by omega
      have ht : L.take j = L := List.take_of_length_le (by rw [HL.out]; omega)
      rw [ht] at HI
      have hlen : (L.filter (same2 x)).length ≤ j := by rw [← HL.out]; exact List.length_filter_le _ _
      obtain ⟨A1, d1, rfl, hnc, hcm, -, -⟩ := own_shape HI.out.own
      have HO1 := Lib.hid HI.out.own
      have HN1 := Lib.hid HI.out.new
      clear ht HI hnc hcm
      have HK : Hid (keepG L x = keep3G L (keep2G (L.filter (same2 x)) x.kv.id) x.kv.id ++ [x]) := Lib.hid rfl
      have HMID : Hid (∀ y ∈ L.filter (same2 x), 0 ≤ y.kv.id ∧ y.kv.id < 18446744073709551616) := Lib.hid fun y hy => HG.out y (List.mem_filter.1 hy).1
      generalize L.filter (same2 x) = M1 at HO1 HK HMID hlen ⊢
      have k0 := HN1.out.cell_ (HB0.out.cell 0)
      go_wp2_with fail
      refine (rlen_any A1 M1.length d1 M1 x.kv.id wr (Rd.own HO1.out rfl) rfl (by omega) HX.out).mono ?_
      rintro e w' ⟨rfl, rfl⟩
      have hk2 : keep2G M1 x.kv.id = if cnt (kvs M1) x.kv.id = 64 then M1.eraseP (fun y => y.kv.id == x.kv.id) else M1 := rfl
      have HK2 := Lib.hid hk2
      clear hk2 k0
      by_cases h64 : cnt (kvs M1) x.kv.id = 64
      · have t64 : ((cnt (kvs M1) x.kv.id : Int) == 64) = true := by simp; omega
        have HE2 : Hid (keepG L x = keep3G L (M1.eraseP (fun y => y.kv.id == x.kv.id)) x.kv.id ++ [x]) := Lib.hid (by rw [HK.out, HK2.out, if_pos h64])
        clear h64
        go_wp2_with fail
        obtain ⟨wp, hwp⟩ : ∃ wp : World, wp = wr := ⟨_, rfl⟩
        rw [← hwp] at HO1 HN1
        rw [← hwp]
        clear hwp
        generalize hml : M1.length = l at *
        have HML := Lib.hid hml
        clear hml
        go_loopw [7, 8, 9] (fun dn v i wr => ∃ (k : Nat), k ≤ l ∧ i = .int .i64 k ∧ dn = .bool ((M1.take k).any (fun y => y.kv.id == x.kv.id)) ∧ Hid (GI wp.heap.size wp ((M1.take k).eraseP (fun y => y.kv.id == x.kv.id)) v wr)) (fun _ _ i _ => l - (intOf i).toNat)
        case atStart => exact ⟨0, Nat.zero_le _, rfl, by simp, Lib.hid (by simpa using GI.nil wp)⟩
        case round =>
          obtain ⟨k, hk, rfl, rfl, HI2⟩ := hrel
          by_cases hkl : k < l
          · as_aux_lemma =>
            obtain ⟨gB, oB, hlB, rfl, -, -, c0, c1, c2, c3⟩ := rd_gc (New.rd HI2.out.new (Rd.own HO1.out rfl)) HML.out hkl
            have hst := eraseP_take hlB (fun y => y.kv.id == x.kv.id)
            have hany : (M1.take (k + 1)).any (fun y => y.kv.id == x.kv.id) = ((M1.take k).any (fun y => y.kv.id == x.kv.id) || (M1[k].kv.id == x.kv.id)) := by
              rw [List.take_succ_eq_append_getElem hlB, List.any_append]; simp
            have hlen3 : ((M1.take k).eraseP (fun y => y.kv.id == x.kv.id)).length ≤ k := Nat.le_trans (eraseP_len _ _) (List.length_take_le _ _)
            have hnone : (M1.take k).any (fun y => y.kv.id == x.kv.id) = false → (M1.take k).eraseP (fun y => y.kv.id == x.kv.id) = M1.take k := fun hf => eraseP_none (by rw [hf]; simp)
            obtain ⟨A2, d2, rfl, hnc, hcm, -, -⟩ := own_shape HI2.out.own
            have HST := Lib.hid hst
            have HAN := Lib.hid hany
            have HNO := Lib.hid hnone
            have HO := Lib.hid HI2.out.own
            have HN := Lib.hid HI2.out.new
            have k0 := HN.out.cell_ (HN1.out.cell_ (HB0.out.cell 0))
            have hws : wp.heap.size ≤ wr.heap.size := HN.out.size
            clear hst hany hnone HI2
            generalize (M1.take k).eraseP (fun y => y.kv.id == x.kv.id) = M at HST HO HNO hlen3 hnc ⊢
            generalize M1[k] = y at c0 c1 c2 c3 HST HAN
            generalize (M1.take k).any (fun y => y.kv.id == x.kv.id) = b at HST HAN HNO ⊢
            by_cases hb : y.kv.id = x.kv.id
            · have hbm : (y.kv.id == x.kv.id) = true := by simp [hb]
              have HB1 := Lib.hid hb
              clear hb
              rcases b with _ | _
              · go_wp2_with fail
                go_quiet (fail)
                go_wp2_with fail
                go_roundw
                case rel => exact ⟨k + 1, by omega, by go_num, by rw [HAN.out, hbm]; rfl, Lib.hid ⟨by rw [HST.out, if_neg (by simp), if_pos hbm, ← HNO.out (by first | rfl | trivial)]; exact own_fr (S := NoB) HO.out ((Fr.refl _ _).drewN nq) (fun _ _ h => h), HN.out.dn nq⟩⟩
                case measure => simp [intOf]; omega
              · go_wp2_with fail
                go_quiet (fail)
                go_wp2_with (first | ((with_reducible refine atOpS ⟨some 70, .buildSlice _ _ _, _, _, _, _⟩ ?_); refine wpList_bs1 elG (by decide) rfl (.tmp 69) rfl y.cells.toArray rfl rfl ?_) | ((with_reducible refine atOpS ⟨some 71, .call _, _, _, _, _⟩ ?_); refine wpList_app elG _ rfl (.tmp 65) (.tmp 70) rfl wp.heap.size (.slice A2 M.length d2) M.length (flatG M) rfl (New.own (New.al (New.refl (wr.drewN nq)) _) (own_fr (S := NoB) HO.out ((Fr.refl _ _).drewN nq) (fun _ _ h => h))) (some ⟨(wr.drewN nq).heap.size, 0, none⟩) 1 1 y.cells rfl (Rd.ofBlk (p := fun _ => True) (t := 45) (cs := y.cells.toArray) (Blk.new' _ _ _ rfl) 4 1 rfl trivial) y.one (by unfold maxLen; omega) (by omega) (by simp; omega) ?_; intro A3 c3' w3 hO3 hF3 hA3; have HO3 := Lib.hid hO3; have HF3 := Lib.hid hF3; clear hO3 hF3 hA3))
                go_roundw
                case rel =>
                  refine ⟨k + 1, by omega, by go_num, by rw [HAN.out, hbm]; rfl, Lib.hid ⟨?_, ?_⟩⟩
                  · rw [HST.out, if_pos (by first | trivial | rfl), List.length_append, flatG_app, flatG_one]
                    exact HO3.out
                  · exact ((HN.out.dn nq).al _).fr HF3.out (fun q hq => (own_lt HO.out q hq).1)
                case measure => simp [intOf]; omega
            · have hbm : (y.kv.id == x.kv.id) = false := by simpa using hb
              clear hb
              rcases b with _ | _
              · go_wp2_with fail
                go_quiet (fail)
                go_wp2_with (first | ((with_reducible refine atOpS ⟨some 70, .buildSlice _ _ _, _, _, _, _⟩ ?_); refine wpList_bs1 elG (by decide) rfl (.tmp 69) rfl y.cells.toArray rfl rfl ?_) | ((with_reducible refine atOpS ⟨some 71, .call _, _, _, _, _⟩ ?_); refine wpList_app elG _ rfl (.tmp 65) (.tmp 70) rfl wp.heap.size (.slice A2 M.length d2) M.length (flatG M) rfl (New.own (New.al (New.refl (wr.drewN nq)) _) (own_fr (S := NoB) HO.out ((Fr.refl _ _).drewN nq) (fun _ _ h => h))) (some ⟨(wr.drewN nq).heap.size, 0, none⟩) 1 1 y.cells rfl (Rd.ofBlk (p := fun _ => True) (t := 45) (cs := y.cells.toArray) (Blk.new' _ _ _ rfl) 4 1 rfl trivial) y.one (by unfold maxLen; omega) (by omega) (by simp; omega) ?_; intro A3 c3' w3 hO3 hF3 hA3; have HO3 := Lib.hid hO3; have HF3 := Lib.hid hF3; clear hO3 hF3 hA3))
                go_roundw
                case rel =>
                  refine ⟨k + 1, by omega, by go_num, by rw [HAN.out, hbm]; rfl, Lib.hid ⟨?_, ?_⟩⟩
                  · rw [HST.out, if_neg (by simp), if_neg (by simp [hbm]), ← HNO.out (by first | rfl | trivial), List.length_append, flatG_app, flatG_one]
                    exact HO3.out
                  · exact ((HN.out.dn nq).al _).fr HF3.out (fun q hq => (own_lt HO.out q hq).1)
                case measure => simp [intOf]; omega
              · go_wp2_with fail
                go_quiet (fail)
                go_wp2_with (first | ((with_reducible refine atOpS ⟨some 70, .buildSlice _ _ _, _, _, _, _⟩ ?_); refine wpList_bs1 elG (by decide) rfl (.tmp 69) rfl y.cells.toArray rfl rfl ?_) | ((with_reducible refine atOpS ⟨some 71, .call _, _, _, _, _⟩ ?_); refine wpList_app elG _ rfl (.tmp 65) (.tmp 70) rfl wp.heap.size (.slice A2 M.length d2) M.length (flatG M) rfl (New.own (New.al (New.refl (wr.drewN nq)) _) (own_fr (S := NoB) HO.out ((Fr.refl _ _).drewN nq) (fun _ _ h => h))) (some ⟨(wr.drewN nq).heap.size, 0, none⟩) 1 1 y.cells rfl (Rd.ofBlk (p := fun _ => True) (t := 45) (cs := y.cells.toArray) (Blk.new' _ _ _ rfl) 4 1 rfl trivial) y.one (by unfold maxLen; omega) (by omega) (by simp; omega) ?_; intro A3 c3' w3 hO3 hF3 hA3; have HO3 := Lib.hid hO3; have HF3 := Lib.hid hF3; clear hO3 hF3 hA3))
                go_roundw
                case rel =>
                  refine ⟨k + 1, by omega, by go_num, by rw [HAN.out, hbm]; rfl, Lib.hid ⟨?_, ?_⟩⟩
                  · rw [HST.out, if_pos (by first | trivial | rfl), List.length_append, flatG_app, flatG_one]
                    exact HO3.out
                  · exact ((HN.out.dn nq).al _).fr HF3.out (fun q hq => (own_lt HO.out q hq).1)
                case measure => simp [intOf]; omega
          · as_aux_lemma =>
            obtain rfl : k = l := by omega
            have ht : M1.take k = M1 := List.take_of_length_le (by rw [HML.out]; omega)
            rw [ht] at HI2 ⊢
            have hlen2 : (M1.eraseP (fun y => y.kv.id == x.kv.id)).length ≤ k := by rw [← HML.out]; exact eraseP_len _ _
            obtain ⟨A2, d2, rfl, hnc, hcm, -, -⟩ := own_shape HI2.out.own
            have HMD : Hid (∀ y ∈ M1.eraseP (fun y => y.kv.id == x.kv.id), 0 ≤ y.kv.id ∧ y.kv.id < 18446744073709551616) := Lib.hid fun y hy => HMID.out y (List.mem_of_mem_eraseP hy)
            have HO2 := Lib.hid (own_base HI2.out.own (b := w0.heap.size) (fun q hq => by have := (own_lt HI2.out.own q hq).1; have := HN1.out.size; omega))
            have HN2 : Hid (New w0 wr) := Lib.hid (HN1.out.tr HI2.out.new)
            clear ht HI2 hnc hcm
            generalize M1.eraseP (fun y => y.kv.id == x.kv.id) = M at HO2 HE2 HMD hlen2 ⊢
            go_wp2_with fail
            refine (rsess_any A _ c L wr (HR.out.new (HN0.out.tr HN2.out)) HL.out (by omega)).mono ?_
            rintro e w5 ⟨⟨AS, cS, rfl, hS⟩, hN5⟩
            have HSE := Lib.hid hS
            have HO5 := Lib.hid (New.own hN5 HO2.out)
            have HN5 : Hid (New w0 w5) := Lib.hid (HN2.out.tr hN5)
            have HR5 := Lib.hid (HR.out.new (HN0.out.tr HN5.out))
            have HIN : Hid (∀ b ∈ sess (kvs L), 0 ≤ b ∧ b < 18446744073709551616) := Lib.hid fun b hb => by
              obtain ⟨z, hz, rfl⟩ := List.mem_map.1 (sess_mem.1 hb)
              obtain ⟨y, hy, rfl⟩ := List.mem_map.1 hz
              exact HG.out y hy
            clear hS hN5
            by_cases h8 : (sess (kvs L)).length = 8
            · have t8 : (((sess (kvs L)).length : Int) == 8) = true := by simp; omega
              have H8 := Lib.hid h8
              have k0 := HN5.out.cell_ (HB0.out.cell 0)
              clear h8
              go_wp2_with fail
              refine (rlen_any A _ c L x.kv.id w5 HR5.out HL.out (by omega) HX.out).mono ?_
              rintro e w' ⟨rfl, rfl⟩
              by_cases h0 : cnt (kvs L) x.kv.id = 0
              · have t0 : ((cnt (kvs L) x.kv.id : Int) == 0) = true := by simp; omega
                have H0 := Lib.hid h0
                obtain ⟨gS, oS, rfl, -, -, hc⟩ := Rd.out HSE.out (by have := H8.out; omega) (by omega)
                obtain ⟨y, t, hs⟩ : ∃ y t, sess (kvs L) = y :: t := by
                  cases he : sess (kvs L) with
                  | nil => have := H8.out; rw [he] at this; simp at this
                  | cons y t => exact ⟨y, t, rfl⟩
                have cs0 : w5.cell? ⟨gS, oS, none⟩ = some (.int .u64 y) := hc 0 _ (by rw [hs]; rfl)
                have hyr := HIN.out y (by rw [hs]; simp)
                have h8p : 0 < (sess (kvs L)).length := by have := H8.out; omega
                have HSX := Lib.hid hs
                clear h0 hc hs k0
                go_wp2_with fail
                refine (rdrop_any A2 M.length d2 M y w5 (RdT.own HO5.out rfl) rfl (by omega) hyr).mono ?_
                rintro e w6 ⟨⟨A6, c6, rfl, hO6⟩, hN6⟩
                have HO6 := Lib.hid (own_base hO6 (b := w0.heap.size) (fun q hq => by have := (own_lt hO6 q hq).1; have := HN5.out.size; omega))
                have HN6 : Hid (New w0 w6) := Lib.hid (HN5.out.tr hN6)
                have hlen6 : (M.filter fun z => z.kv.id != y).length ≤ M.length := List.length_filter_le _ _
                have HE6 : Hid (keep3G L M x.kv.id = M.filter fun z => z.kv.id != y) := Lib.hid (by unfold keep3G; rw [if_pos ⟨H8.out, H0.out⟩, HSX.out]; rfl)
                clear hO6 hN6 cs0
                generalize (M.filter fun z => z.kv.id != y) = M6 at HO6 HE6 hlen6 ⊢
                have k0 := (HN6.out).cell_ (HB0.out.cell 0)
                have k1 := (HN6.out).cell_ (HB0.out.cell 1)
                have k2 := (HN6.out).cell_ (HB0.out.cell 2)
                have k3 := (HN6.out).cell_ (HB0.out.cell 3)
                have hws : w0.heap.size ≤ w6.heap.size := (HN6.out).size
                go_wp2_with (first | ((with_reducible refine atOpS ⟨some 92, .buildSlice _ _ _, _, _, _, _⟩ ?_); refine wpList_bs1 elG (by decide) rfl (.tmp 91) rfl x.cells.toArray rfl rfl ?_) | ((with_reducible refine atOpS ⟨some 93, .call _, _, _, _, _⟩ ?_); refine wpList_app elG _ rfl (.tmp 90) (.tmp 92) rfl w0.heap.size (.slice A6 M6.length c6) M6.length (flatG M6) rfl (New.own (New.al (New.refl w6) _) HO6.out) (some ⟨w6.heap.size, 0, none⟩) 1 1 x.cells rfl (Rd.ofBlk (p := fun _ => True) (t := 45) (cs := x.cells.toArray) (Blk.new' _ _ _ rfl) 4 1 rfl trivial) x.one (by unfold maxLen; omega) (by omega) (by simp; omega) ?_; intro A3 c3' w3 hO3 hF3 hA3; have HO3 := Lib.hid hO3; have HF3 := Lib.hid hF3; clear hO3 hF3 hA3))
                go_ret
                have hE : keepG L x = M6 ++ [x] := by rw [HE2.out, HE6.out]
                have hle : (keepG L x).length = M6.length + 1 := by rw [hE]; simp
                refine ⟨⟨A3, c3', by rw [hle]; rfl, ?_⟩, ?_⟩
                · rw [hle, hE, flatG_app, flatG_one]
                  exact own_base HO3.out (fun q hq => by have := (own_lt HO3.out q hq).1; have := HS0.out; omega)
                · exact (HN0.out.tr ((HN6.out).al _)).fr HF3.out (fun q hq => by have := (own_lt (HO6.out) q hq).1; have := HS0.out; omega)
              · have t0 : ((cnt (kvs L) x.kv.id : Int) == 0) = false := by simp; omega
                have HE6 : Hid (keep3G L M x.kv.id = M) := Lib.hid (by unfold keep3G; rw [if_neg (fun e => h0 e.2)])
                clear h0 k0
                have k0 := (HN5.out).cell_ (HB0.out.cell 0)
                have k1 := (HN5.out).cell_ (HB0.out.cell 1)
                have k2 := (HN5.out).cell_ (HB0.out.cell 2)
                have k3 := (HN5.out).cell_ (HB0.out.cell 3)
                have hws : w0.heap.size ≤ w5.heap.size := (HN5.out).size
                go_wp2_with (first | ((with_reducible refine atOpS ⟨some 92, .buildSlice _ _ _, _, _, _, _⟩ ?_); refine wpList_bs1 elG (by decide) rfl (.tmp 91) rfl x.cells.toArray rfl rfl ?_) | ((with_reducible refine atOpS ⟨some 93, .call _, _, _, _, _⟩ ?_); refine wpList_app elG _ rfl (.tmp 90) (.tmp 92) rfl w0.heap.size (.slice A2 M.length d2) M.length (flatG M) rfl (New.own (New.al (New.refl w5) _) HO5.out) (some ⟨w5.heap.size, 0, none⟩) 1 1 x.cells rfl (Rd.ofBlk (p := fun _ => True) (t := 45) (cs := x.cells.toArray) (Blk.new' _ _ _ rfl) 4 1 rfl trivial) x.one (by unfold maxLen; omega) (by omega) (by simp; omega) ?_; intro A3 c3' w3 hO3 hF3 hA3; have HO3 := Lib.hid hO3; have HF3 := Lib.hid hF3; clear hO3 hF3 hA3))
                go_ret
                have hE : keepG L x = M ++ [x] := by rw [HE2.out, HE6.out]
                have hle : (keepG L x).length = M.length + 1 := by rw [hE]; simp
                refine ⟨⟨A3, c3', by rw [hle]; rfl, ?_⟩, ?_⟩
                · rw [hle, hE, flatG_app, flatG_one]
                  exact own_base HO3.out (fun q hq => by have := (own_lt HO3.out q hq).1; have := HS0.out; omega)
                · exact (HN0.out.tr ((HN5.out).al _)).fr HF3.out (fun q hq => by have := (own_lt (HO5.out) q hq).1; have := HS0.out; omega)
            · have t8 : (((sess (kvs L)).length : Int) == 8) = false := by simp; omega
              have HE6 : Hid (keep3G L M x.kv.id = M) := Lib.hid (by unfold keep3G; rw [if_neg (fun e => h8 e.1)])
              clear h8
              have k0 := (HN5.out).cell_ (HB0.out.cell 0)
              have k1 := (HN5.out).cell_ (HB0.out.cell 1)
              have k2 := (HN5.out).cell_ (HB0.out.cell 2)
              have k3 := (HN5.out).cell_ (HB0.out.cell 3)
              have hws : w0.heap.size ≤ w5.heap.size := (HN5.out).size
              go_wp2_with (first | ((with_reducible refine atOpS ⟨some 92, .buildSlice _ _ _, _, _, _, _⟩ ?_); refine wpList_bs1 elG (by decide) rfl (.tmp 91) rfl x.cells.toArray rfl rfl ?_) | ((with_reducible refine atOpS ⟨some 93, .call _, _, _, _, _⟩ ?_); refine wpList_app elG _ rfl (.tmp 90) (.tmp 92) rfl w0.heap.size (.slice A2 M.length d2) M.length (flatG M) rfl (New.own (New.al (New.refl w5) _) HO5.out) (some ⟨w5.heap.size, 0, none⟩) 1 1 x.cells rfl (Rd.ofBlk (p := fun _ => True) (t := 45) (cs := x.cells.toArray) (Blk.new' _ _ _ rfl) 4 1 rfl trivial) x.one (by unfold maxLen; omega) (by omega) (by simp; omega) ?_; intro A3 c3' w3 hO3 hF3 hA3; have HO3 := Lib.hid hO3; have HF3 := Lib.hid hF3; clear hO3 hF3 hA3))
              go_ret
              have hE : keepG L x = M ++ [x] := by rw [HE2.out, HE6.out]
              have hle : (keepG L x).length = M.length + 1 := by rw [hE]; simp
              refine ⟨⟨A3, c3', by rw [hle]; rfl, ?_⟩, ?_⟩
              · rw [hle, hE, flatG_app, flatG_one]
                exact own_base HO3.out (fun q hq => by have := (own_lt HO3.out q hq).1; have := HS0.out; omega)
              · exact (HN0.out.tr ((HN5.out).al _)).fr HF3.out (fun q hq => by have := (own_lt (HO5.out) q hq).1; have := HS0.out; omega)
      · have t64 : ((cnt (kvs M1) x.kv.id : Int) == 64) = false := by simp; omega
        have HE2 : Hid (keepG L x = keep3G L M1 x.kv.id ++ [x]) := Lib.hid (by rw [HK.out, HK2.out, if_neg h64])
        clear HK HK2
        have HMD := HMID
        have HO2 := HO1
        have HN2 := HN1
        have hlen2 := hlen
        obtain ⟨A2, hA2⟩ : ∃ A2, A2 = A1 := ⟨_, rfl⟩
        obtain ⟨d2, hd2⟩ : ∃ d2, d2 = d1 := ⟨_, rfl⟩
        rw [← hA2, ← hd2] at HO2
        rw [← hA2, ← hd2]
        clear h64 hA2 hd2 HO1 HN1 HMID hlen
        generalize hm1 : M1 = M at HO2 HE2 HMD hlen2 t64 ⊢
        clear hm1
        go_wp2_with fail
        refine (rsess_any A _ c L wr (HR.out.new (HN0.out.tr HN2.out)) HL.out (by omega)).mono ?_
        rintro e w5 ⟨⟨AS, cS, rfl, hS⟩, hN5⟩
        have HSE := Lib.hid hS
        have HO5 := Lib.hid (New.own hN5 HO2.out)
        have HN5 : Hid (New w0 w5) := Lib.hid (HN2.out.tr hN5)
        have HR5 := Lib.hid (HR.out.new (HN0.out.tr HN5.out))
        have HIN : Hid (∀ b ∈ sess (kvs L), 0 ≤ b ∧ b < 18446744073709551616) := Lib.hid fun b hb => by
          obtain ⟨z, hz, rfl⟩ := List.mem_map.1 (sess_mem.1 hb)
          obtain ⟨y, hy, rfl⟩ := List.mem_map.1 hz
          exact HG.out y hy
        clear hS hN5
        by_cases h8 : (sess (kvs L)).length = 8
        · have t8 : (((sess (kvs L)).length : Int) == 8) = true := by simp; omega
          have H8 := Lib.hid h8
          have k0 := HN5.out.cell_ (HB0.out.cell 0)
          clear h8
          go_wp2_with fail
          refine (rlen_any A _ c L x.kv.id w5 HR5.out HL.out (by omega) HX.out).mono ?_
          rintro e w' ⟨rfl, rfl⟩
          by_cases h0 : cnt (kvs L) x.kv.id = 0
          · have t0 : ((cnt (kvs L) x.kv.id : Int) == 0) = true := by simp; omega
            have H0 := Lib.hid h0
            obtain ⟨gS, oS, rfl, -, -, hc⟩ := Rd.out HSE.out (by have := H8.out; omega) (by omega)
            obtain ⟨y, t, hs⟩ : ∃ y t, sess (kvs L) = y :: t := by
              cases he : sess (kvs L) with
              | nil => have := H8.out; rw [he] at this; simp at this
              | cons y t => exact ⟨y, t, rfl⟩
            have cs0 : w5.cell? ⟨gS, oS, none⟩ = some (.int .u64 y) := hc 0 _ (by rw [hs]; rfl)
            have hyr := HIN.out y (by rw [hs]; simp)
            have h8p : 0 < (sess (kvs L)).length := by have := H8.out; omega
            have HSX := Lib.hid hs
            clear h0 hc hs k0
            go_wp2_with fail
            refine (rdrop_any A2 M.length d2 M y w5 (RdT.own HO5.out rfl) rfl (by omega) hyr).mono ?_
            rintro e w6 ⟨⟨A6, c6, rfl, hO6⟩, hN6⟩
            have HO6 := Lib.hid (own_base hO6 (b := w0.heap.size) (fun q hq => by have := (own_lt hO6 q hq).1; have := HN5.out.size; omega))
            have HN6 : Hid (New w0 w6) := Lib.hid (HN5.out.tr hN6)
            have hlen6 : (M.filter fun z => z.kv.id != y).length ≤ M.length := List.length_filter_le _ _
            have HE6 : Hid (keep3G L M x.kv.id = M.filter fun z => z.kv.id != y) := Lib.hid (by unfold keep3G; rw [if_pos ⟨H8.out, H0.out⟩, HSX.out]; rfl)
            clear hO6 hN6 cs0
            generalize (M.filter fun z => z.kv.id != y) = M6 at HO6 HE6 hlen6 ⊢
            have k0 := (HN6.out).cell_ (HB0.out.cell 0)
            have k1 := (HN6.out).cell_ (HB0.out.cell 1)
            have k2 := (HN6.out).cell_ (HB0.out.cell 2)
            have k3 := (HN6.out).cell_ (HB0.out.cell 3)
            have hws : w0.heap.size ≤ w6.heap.size := (HN6.out).size
            go_wp2_with (first | ((with_reducible refine atOpS ⟨some 92, .buildSlice _ _ _, _, _, _, _⟩ ?_); refine wpList_bs1 elG (by decide) rfl (.tmp 91) rfl x.cells.toArray rfl rfl ?_) | ((with_reducible refine atOpS ⟨some 93, .call _, _, _, _, _⟩ ?_); refine wpList_app elG _ rfl (.tmp 90) (.tmp 92) rfl w0.heap.size (.slice A6 M6.length c6) M6.length (flatG M6) rfl (New.own (New.al (New.refl w6) _) HO6.out) (some ⟨w6.heap.size, 0, none⟩) 1 1 x.cells rfl (Rd.ofBlk (p := fun _ => True) (t := 45) (cs := x.cells.toArray) (Blk.new' _ _ _ rfl) 4 1 rfl trivial) x.one (by unfold maxLen; omega) (by omega) (by simp; omega) ?_; intro A3 c3' w3 hO3 hF3 hA3; have HO3 := Lib.hid hO3; have HF3 := Lib.hid hF3; clear hO3 hF3 hA3))
            go_ret
            have hE : keepG L x = M6 ++ [x] := by rw [HE2.out, HE6.out]
            have hle : (keepG L x).length = M6.length + 1 := by rw [hE]; simp
            refine ⟨⟨A3, c3', by rw [hle]; rfl, ?_⟩, ?_⟩
            · rw [hle, hE, flatG_app, flatG_one]
              exact own_base HO3.out (fun q hq => by have := (own_lt HO3.out q hq).1; have := HS0.out; omega)
            · exact (HN0.out.tr ((HN6.out).al _)).fr HF3.out (fun q hq => by have := (own_lt (HO6.out) q hq).1; have := HS0.out; omega)
          · have t0 : ((cnt (kvs L) x.kv.id : Int) == 0) = false := by simp; omega
            have HE6 : Hid (keep3G L M x.kv.id = M) := Lib.hid (by unfold keep3G; rw [if_neg (fun e => h0 e.2)])
            clear h0 k0
            have k0 := (HN5.out).cell_ (HB0.out.cell 0)
            have k1 := (HN5.out).cell_ (HB0.out.cell 1)
            have k2 := (HN5.out).cell_ (HB0.out.cell 2)
            have k3 := (HN5.out).cell_ (HB0.out.cell 3)
            have hws : w0.heap.size ≤ w5.heap.size := (HN5.out).size
            go_wp2_with (first | ((with_reducible refine atOpS ⟨some 92, .buildSlice _ _ _, _, _, _, _⟩ ?_); refine wpList_bs1 elG (by decide) rfl (.tmp 91) rfl x.cells.toArray rfl rfl ?_) | ((with_reducible refine atOpS ⟨some 93, .call _, _, _, _, _⟩ ?_); refine wpList_app elG _ rfl (.tmp 90) (.tmp 92) rfl w0.heap.size (.slice A2 M.length d2) M.length (flatG M) rfl (New.own (New.al (New.refl w5) _) HO5.out) (some ⟨w5.heap.size, 0, none⟩) 1 1 x.cells rfl (Rd.ofBlk (p := fun _ => True) (t := 45) (cs := x.cells.toArray) (Blk.new' _ _ _ rfl) 4 1 rfl trivial) x.one (by unfold maxLen; omega) (by omega) (by simp; omega) ?_; intro A3 c3' w3 hO3 hF3 hA3; have HO3 := Lib.hid hO3; have HF3 := Lib.hid hF3; clear hO3 hF3 hA3))
            go_ret
            have hE : keepG L x = M ++ [x] := by rw [HE2.out, HE6.out]
            have hle : (keepG L x).length = M.length + 1 := by rw [hE]; simp
            refine ⟨⟨A3, c3', by rw [hle]; rfl, ?_⟩, ?_⟩
            · rw [hle, hE, flatG_app, flatG_one]
              exact own_base HO3.out (fun q hq => by have := (own_lt HO3.out q hq).1; have := HS0.out; omega)
            · exact (HN0.out.tr ((HN5.out).al _)).fr HF3.out (fun q hq => by have := (own_lt (HO5.out) q hq).1; have := HS0.out; omega)
        · have t8 : (((sess (kvs L)).length : Int) == 8) = false := by simp; omega
          have HE6 : Hid (keep3G L M x.kv.id = M) := Lib.hid (by unfold keep3G; rw [if_neg (fun e => h8 e.1)])
          clear h8
          have k0 := (HN5.out).cell_ (HB0.out.cell 0)
          have k1 := (HN5.out).cell_ (HB0.out.cell 1)
          have k2 := (HN5.out).cell_ (HB0.out.cell 2)
          have k3 := (HN5.out).cell_ (HB0.out.cell 3)
          have hws : w0.heap.size ≤ w5.heap.size := (HN5.out).size
          go_wp2_with (first | ((with_reducible refine atOpS ⟨some 92, .buildSlice _ _ _, _, _, _, _⟩ ?_); refine wpList_bs1 elG (by decide) rfl (.tmp 91) rfl x.cells.toArray rfl rfl ?_) | ((with_reducible refine atOpS ⟨some 93, .call _, _, _, _, _⟩ ?_); refine wpList_app elG _ rfl (.tmp 90) (.tmp 92) rfl w0.heap.size (.slice A2 M.length d2) M.length (flatG M) rfl (New.own (New.al (New.refl w5) _) HO5.out) (some ⟨w5.heap.size, 0, none⟩) 1 1 x.cells rfl (Rd.ofBlk (p := fun _ => True) (t := 45) (cs := x.cells.toArray) (Blk.new' _ _ _ rfl) 4 1 rfl trivial) x.one (by unfold maxLen; omega) (by omega) (by simp; omega) ?_; intro A3 c3' w3 hO3 hF3 hA3; have HO3 := Lib.hid hO3; have HF3 := Lib.hid hF3; clear hO3 hF3 hA3))
          go_ret
          have hE : keepG L x = M ++ [x] := by rw [HE2.out, HE6.out]
          have hle : (keepG L x).length = M.length + 1 := by rw [hE]; simp
          refine ⟨⟨A3, c3', by rw [hle]; rfl, ?_⟩, ?_⟩
          · rw [hle, hE, flatG_app, flatG_one]
            exact own_base HO3.out (fun q hq => by have := (own_lt HO3.out q hq).1; have := HS0.out; omega)
          · exact (HN0.out.tr ((HN5.out).al _)).fr HF3.out (fun q hq => by have := (own_lt (HO5.out) q hq).1; have := HS0.out; omega)
end Go.Proofs.Ytpomcnfifhfffaa
