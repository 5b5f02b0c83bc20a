/- DiskKeeps' walk. No condition. -/
import Derived.Test.YtpdgnidoglmgcaaDkG
import Derived.Test.YtpdgnidoglmgcaaDkJ
import Derived.Deep.CutBlock
namespace Go.Proofs.Ytpdgnidoglmgcaa
open Go.RowKit Go.Maps

theorem actInfo : (Try.prog.info? 33).map (fun i => (i.zero, i.size)) = some (some (Value.agg (([Value.int .i64 0, Value.int .i64 0] ++ u8s sec0 ++ [Value.slice none 0 0]).toArray)), 67) := by kernel_rfl

def sec1 : List Int := 1 :: List.replicate 63 0
theorem sec1_ok : SecOk sec1 := ⟨by simp [sec1], fun x hx => by simp [sec1] at hx; omega⟩
/-- The three disks. -/
def KL (w : World) (base g bs bf b2 g2 bs2 bf2 b3 g3 bs3 bf3 : Nat) (v2 : Value) (p : DP) (keep : List Bool) (wr : World) : Prop :=
  Dk wr base g bs bf (.slice none 0 0) (p.cut keep) ∧ Dk wr b2 g2 bs2 bf2 v2 p ∧ Dk wr b3 g3 bs3 bf3 (.slice none 0 0) (p.cut []) ∧ New w wr
theorem three_ours {g bs bf k : Nat} {v : Value} (h : k = g ∨ k = bs ∨ k = bf) : DkOurs g bs bf v k := by
  rcases h with h | h | h
  · exact .inl h
  · exact .inr (.inl h)
  · exact .inr (.inr (.inl h))
/-- What a disk's life is like, at a round. -/
def LD (base : Nat) (w0 : World) (g bs bf : Nat) (wr : World) : Prop := ∃ v p, Dk wr base g bs bf v p ∧ p.size = 12 ∧ New w0 wr

set_option maxHeartbeats 8000000 in
set_option maxRecDepth 100000 in
theorem keeps_walk (A : Option Addr) (n c : Nat) (L : List AC) (A2 : Option Addr) (n2 c2 : Nat) (keep : List Bool) (w : World) (hL : L.length = n) (hn : n ≤ maxLen) (hR : Rd (fun b => b < w.heap.size) w 67 A n (L.flatMap AC.cells)) (hg : ∀ a ∈ L, a.Good w)
    (hn2 : n2 ≤ maxLen) (hR2 : Rd (fun b => b < w.heap.size) w 1 A2 n2 (bools keep)) :
    Calls Try.prog 3 #[.slice A n c, .slice A2 n2 c2] w fun e w' => e = .returned (.bool true) ∧ New w w' := by
  have HR := Lib.hid hR
  have HR2 := Lib.hid hR2
  have HL := Lib.hid hL
  have HG := Lib.hid hg
  have HN2' := Lib.hid hn2
  unfold maxLen at hn hn2
  clear hR hR2 hL hg
  go_enter Try.func3, Try.ntmps3
  go_wp2_with fail
  refine (alive_any w).mono ?_
  rintro e w1 ⟨rfl, hN1⟩
  have HN1 := Lib.hid hN1
  clear hN1
  by_cases hbig : 60 < n
  · have t1 : decide ((60 : Int) < (n : Int)) = true := decide_eq_true (by omega)
    go_wp2_with fail
    go_ret
    exact ⟨rfl, HN1.out⟩
  have t1 : decide ((60 : Int) < (n : Int)) = false := decide_eq_false (by omega)
  by_cases hbig2 : 100 < n2
  · have t2 : decide ((100 : Int) < (n2 : Int)) = true := decide_eq_true (by omega)
    go_wp2_with fail
    go_ret
    exact ⟨rfl, HN1.out⟩
  have t2 : decide ((100 : Int) < (n2 : Int)) = false := decide_eq_false (by omega)
  go_wp2_with fail
  refine (new_ok 12 w1 w1.heap.size (Nat.le_refl _) (by omega) (by omega)).mono ?_
  rintro e w2 ⟨rfl, hD2, hN2⟩
  have HD2 := Lib.hid hD2
  have HN2 : Hid (New w w2) := Lib.hid (HN1.out.tr hN2)
  clear hD2 hN2
  go_wp2_with fail
  obtain ⟨g, hg⟩ : ∃ g, g = w1.heap.size + 2 := ⟨_, rfl⟩
  obtain ⟨bs, hbs⟩ : ∃ g, g = w1.heap.size := ⟨_, rfl⟩
  obtain ⟨bf, hbf⟩ : ∃ g, g = w1.heap.size + 1 := ⟨_, rfl⟩
  have HD2 : Hid (Dk w2 w1.heap.size g bs bf (.slice none 0 0) (DP.new 12)) := Lib.hid (by rw [hg, hbs, hbf]; exact HD2.out)
  rw [← hg]
  obtain ⟨base, hbase⟩ : ∃ b, b = w1.heap.size := ⟨_, rfl⟩
  rw [← hbase] at HD2
  have hb0 : w.heap.size ≤ base := by rw [hbase]; exact HN1.out.size
  clear hg hbs hbf hbase
  go_loopw [36] (fun i wr => ∃ (j : Nat), j ≤ n ∧ i = .int .i64 j ∧ Hid (LD base w g bs bf wr)) (fun i _ => n - (intOf i).toNat)
  case atStart => exact ⟨0, Nat.zero_le _, rfl, Lib.hid ⟨_, _, HD2.out, rfl, HN2.out⟩⟩
  case round =>
    obtain ⟨j, hj, rfl, HLD⟩ := hrel
    by_cases hlt : j < n
    · as_aux_lemma =>
      obtain ⟨v, p, hD, hp, hN⟩ := HLD.out
      obtain ⟨gA, oA, hl, rfl, hgA, hra⟩ := rd_act (hN.rd HR.out) HL.out (fun a ha => (HG.out a ha).s) hlt
      have ha := HG.out L[j] (List.getElem_mem _)
      generalize L[j] = ac at hra ha
      have HD := Lib.hid hD
      have HN := Lib.hid hN
      have HA := Lib.hid ha
      have HRA := Lib.hid hra
      have HP := Lib.hid hp
      obtain ⟨w3, hw3⟩ : ∃ w3 : World, w3 = wr.alloc (.cells ac.cells.toArray 33) := ⟨_, rfl⟩
      have HN3 : Hid (New wr w3) := Lib.hid (by rw [hw3]; exact New.al (New.refl _) _)
      have hb3 : Blk w3 wr.heap.size 33 ac.cells.toArray := by rw [hw3]; exact Blk.new _ _ _
      have HD3 := Lib.hid (hD.new HN3.out)
      have c0 : w3.cell? ⟨wr.heap.size, 0, none⟩ = some (.int .i64 ac.kind) := by rw [hb3.cell 0]; simpa using ac.at0
      have c1 : w3.cell? ⟨wr.heap.size, 1, none⟩ = some (.int .i64 ac.pos) := by rw [hb3.cell 1]; simpa using ac.at1
      have HC2 : Hid (w3.rangeAt wr.heap.size 2 (u8s ac.s)) := Lib.hid (fun j u hu => by rw [hb3.cell (2 + j)]; simpa using AC.atS j u hu)
      have HW3 : Hid (wr.alloc (.cells ac.cells.toArray 33) = w3) := Lib.hid hw3.symm
      have kb := bounds_i64 ha.kind
      clear hD hN ha hra hp hb3 hw3 HLD
      go_upto_block 2 with (first
        | ((with_reducible refine atOp ⟨some 39, .load _ _, _, _, _, _⟩ ?_); refine wpList_load_range rfl _ rfl rfl HRA.out Try.underlying33 rfl (by rw [AC.len HA.out.s]; rfl) ?_)
        | ((with_reducible refine atOp ⟨some 8, .alloc _, _, _, _, _⟩ ?_); refine wpList_newrow (C := ac.cells.toArray) rfl rfl rfl _ _ rfl actInfo rfl rfl rfl (by simp [AC.len HA.out.s]) (all_oneCell_toArray ac.one) ?_; rw [HW3.out]))
      generalize (IntKind.u64.wrap ac.kind).tmod 6 = r
      have HW : Hid (∀ w4, Fr (DkOurs g bs bf v) w3 w4 → New w w4) := Lib.hid (fun w4 hF => ((HN.out.tr HN3.out).fr hF fun k hk => by have := (HD3.out.ours k hk).1; omega))
      have HE0 : Hid (LD base w g bs bf w3) := Lib.hid ⟨_, _, HD3.out, HP.out, HW.out _ (Fr.refl _ _)⟩
      go_wp2_with (first
        | ((with_reducible refine atOp ⟨some 51, .load _ _, _, _, _, _⟩ ?_); refine wpList_load_range rfl _ rfl rfl HC2.out Try.underlying31 rfl (by rw [u8s_len, HA.out.s.1]; rfl) ?_)
        | (go_at_call 8; refine (write_all HD3.out ac.pos HA.out.s).mono ?_; rintro e w4 ⟨rfl, v4, hD4, hF4, -⟩; have HE : Hid (LD base w g bs bf w4) := Lib.hid ⟨_, _, hD4, (DP.doWrite_size _ _ _).trans HP.out, HW.out _ hF4⟩; clear hD4 hF4)
        | (go_at_call 9; refine (sync_all HD3.out).mono ?_; rintro e w4 ⟨rfl, v4, hD4, hF4, -⟩; have HE : Hid (LD base w g bs bf w4) := Lib.hid ⟨_, _, hD4, (DP.doSync_size _).trans HP.out, HW.out _ hF4⟩; clear hD4 hF4)
        | (go_at_call 10; refine (fuse_in HD3.out HA.out.pos).mono ?_; rintro e w4 ⟨rfl, hD4, hF4⟩; have HE : Hid (LD base w g bs bf w4) := Lib.hid ⟨_, _, hD4, HP.out, HW.out _ (hF4.mono fun b _ hb => .inl hb)⟩; clear hD4 hF4))
      all_goals
        go_roundw
        case rel =>
          first
            | exact ⟨j + 1, by omega, by go_num, HE⟩
            | exact ⟨j + 1, by omega, by go_num, HE0⟩
        case measure => simp [intOf]; omega
    · as_aux_lemma =>
      obtain rfl : j = n := by omega
      obtain ⟨v, p, hD, hp, hN⟩ := HLD.out
      have HD := Lib.hid hD
      have HN := Lib.hid hN
      have HP := Lib.hid hp
      clear hD hp hN HLD HD2 HN2
      go_wp2_with fail
      refine (dcopy_in HD.out).mono ?_
      rintro e w3 ⟨⟨g2, bs2, bf2, v2, rfl, hL3⟩, hN3⟩
      have HL3 := Lib.hid hL3
      have HD3 := Lib.hid (HD.out.new hN3)
      have HN3 : Hid (New w w3) := Lib.hid (HN.out.tr hN3)
      have hwr : wr.heap.size ≤ w3.heap.size := hN3.size
      clear hL3 hN3
      go_wp2_with fail
      refine (dcopy_in HD3.out).mono ?_
      rintro e w4 ⟨⟨g3, bs3, bf3, v3, rfl, hL4⟩, hN4⟩
      have HS4 := Lib.hid hL4
      have HD4 := Lib.hid (HD3.out.new hN4)
      have HL4 := Lib.hid (HL3.out.new hN4)
      have HN4 : Hid (New w w4) := Lib.hid (HN3.out.tr hN4)
      clear hL4 hN4
      go_wp2_with fail
      refine (cut_in HS4.out (q := NoB) none 0 0 [] Rd.nil (by omega) (fun k hk => hk.elim)).mono ?_
      rintro e w5 ⟨rfl, hS5, hF5⟩
      have HS5 := Lib.hid hS5
      have HD5 := Lib.hid (HD4.out.fr hF5 fun k hk ho => by
        have h1 := HS4.out.lo
        have h2 := (HD3.out.ours k ho).2
        rcases hk with rfl | rfl | rfl <;> omega)
      have HL5 := Lib.hid (HL4.out.fr hF5 fun k hk ho => by
        have h1 := HS4.out.lo
        have h2 := (HL3.out.ours k ho).2
        rcases hk with rfl | rfl | rfl <;> omega)
      have HN5 : Hid (New w w5) := Lib.hid (HN4.out.fr hF5 fun k hk => by
        have h1 := HS4.out.lo
        have h2 := HN3.out.size
        rcases hk with rfl | rfl | rfl <;> omega)
      have hS5lo : ∀ k, DkOurs g3 bs3 bf3 (.slice none 0 0) k → w3.heap.size ≤ k := fun k ho => by
        have h1 := HS4.out.lo
        rcases ho with rfl | rfl | rfl | h
        · omega
        · omega
        · omega
        · cases h
      have HS5L := Lib.hid hS5lo
      clear hS5 hF5 hS5lo
      go_wp2_with fail
      refine (cut_in HD5.out (q := fun b => b < w.heap.size) A2 n2 c2 keep (HN5.out.rd HR2.out) HN2'.out (fun k hk e => by have := HD5.out.lo; omega)).mono ?_
      rintro e w6 ⟨rfl, hD6, hF6⟩
      have HK6 : Hid (KL w base g bs bf wr.heap.size g2 bs2 bf2 w3.heap.size g3 bs3 bf3 v2 p keep w6) := Lib.hid ⟨hD6, HL5.out.fr hF6 (fun k hk ho => by
          have h1 := (HL3.out.ours k ho).1
          have h2 := HD.out.ours k (three_ours hk)
          omega), HS5.out.fr hF6 (fun k hk ho => by
          have h1 := HS5L.out k ho
          have h2 := HD.out.ours k (three_ours hk)
          omega), HN5.out.fr hF6 (fun k hk => by
          have h2 := HD.out.ours k (three_ours hk)
          omega)⟩
      have HOK := Lib.hid HD.out.ok
      obtain ⟨b2, hb2⟩ : ∃ b, b = wr.heap.size := ⟨_, rfl⟩
      obtain ⟨b3, hb3⟩ : ∃ b, b = w3.heap.size := ⟨_, rfl⟩
      rw [← hb2, ← hb3] at HK6
      clear hD6 hF6 hb2 hb3 HS5L HS5 HD5 HL5 HN5 HS4 HD4 HL4 HN4 HL3 HD3 HN3 HD HN hwr
      go_wp2_with fail
      obtain ⟨wo, hwo⟩ : ∃ wo : World, wo = w6 := ⟨_, rfl⟩
      rw [← hwo] at HK6
      rw [← hwo]
      clear hwo
      go_loopw [73] (fun i wr => ∃ (j : Nat), j ≤ 12 ∧ i = .int .i64 j ∧ Hid (KL w base g bs bf b2 g2 bs2 bf2 b3 g3 bs3 bf3 v2 p keep wr)) (fun i _ => 12 - (intOf i).toNat)
      case atStart => exact ⟨0, by omega, rfl, HK6⟩
      case round =>
        obtain ⟨k, hk, rfl, HK⟩ := hrel
        by_cases hlt : k < 12
        · as_aux_lemma =>
          have hin : (k : Int) < p.size := by rw [HP.out]; omega
          obtain ⟨sA, hsA⟩ : ∃ s, s = (p.cut keep).get k := ⟨_, rfl⟩
          obtain ⟨sB, hsB⟩ : ∃ s, s = p.get k := ⟨_, rfl⟩
          obtain ⟨sC, hsC⟩ : ∃ s, s = (p.cut []).get k := ⟨_, rfl⟩
          have okA : SecOk sA := by rw [hsA]; exact (HOK.out.cut keep).get k
          have okB : SecOk sB := by rw [hsB]; exact HOK.out.get k
          have okC : SecOk sC := by rw [hsC]; exact (HOK.out.cut []).get k
          have heither : sA = sB ∨ sA = sC := by rw [hsA, hsB, hsC]; exact cut_keeps HOK.out keep k
          have eAB := equal_sec okA okB
          have eAC := equal_sec okA okC
          have HA := Lib.hid hsA
          have HB := Lib.hid hsB
          have HC := Lib.hid hsC
          have OA := Lib.hid okA
          have OB := Lib.hid okB
          have OC := Lib.hid okC
          have HIN := Lib.hid hin
          clear hsA hsB hsC okA okB okC hin
          go_wp2_with fail
          refine (read_in HK.out.1 (a := k) (by omega) HIN.out).mono ?_
          rw [← HA.out]
          rintro e w7 ⟨rfl, hN7⟩
          have HN7 := Lib.hid hN7
          clear hN7
          go_wp2_with (first
            | ((with_reducible refine atOp ⟨some 12, .alloc _, _, _, _, _⟩ ?_); refine wpList_newvar (s := sA) rfl rfl rfl _ _ rfl secInfo rfl rfl rfl OA.out.1 ?_))
          obtain ⟨w8, hw8⟩ : ∃ w8 : World, w8 = w7.alloc (.cells (secA sA) 31) := ⟨_, rfl⟩
          have HN8 : Hid (New wr w8) := Lib.hid (by rw [hw8]; exact HN7.out.al _)
          have HB8 : Hid (Blk w8 w7.heap.size 31 (secA sA)) := Lib.hid (by rw [hw8]; exact Blk.new _ _ _)
          rw [← hw8]
          clear hw8
          refine (read_in (HK.out.2.1.new HN8.out) (a := k) (by omega) HIN.out).mono ?_
          rw [← HB.out]
          rintro e w9 ⟨rfl, hN9⟩
          have HN9 : Hid (New wr w9) := Lib.hid (HN8.out.tr hN9)
          have HB9 := Lib.hid (New.blk hN9 HB8.out)
          clear hN9
          go_wp2_with (first
            | ((with_reducible refine atOp ⟨some 14, .alloc _, _, _, _, _⟩ ?_); refine wpList_newvar (s := sB) rfl rfl rfl _ _ rfl secInfo rfl rfl rfl OB.out.1 ?_))
          obtain ⟨w10, hw10⟩ : ∃ w10 : World, w10 = w9.alloc (.cells (secA sB) 31) := ⟨_, rfl⟩
          have HN10 : Hid (New wr w10) := Lib.hid (by rw [hw10]; exact HN9.out.al _)
          have HB10 : Hid (Blk w10 w7.heap.size 31 (secA sA) ∧ Blk w10 w9.heap.size 31 (secA sB)) := Lib.hid (by rw [hw10]; exact ⟨HB9.out.alloc _, Blk.new _ _ _⟩)
          rw [← hw10]
          clear hw10
          refine (read_in (HK.out.2.2.1.new HN10.out) (a := k) (by omega) HIN.out).mono ?_
          rw [← HC.out]
          rintro e w11 ⟨rfl, hN11⟩
          have HN11 : Hid (New wr w11) := Lib.hid (HN10.out.tr hN11)
          have HB11 : Hid (Blk (w11.alloc (.cells (secA sC) 31)) w7.heap.size 31 (secA sA) ∧ Blk (w11.alloc (.cells (secA sC) 31)) w9.heap.size 31 (secA sB) ∧ Blk (w11.alloc (.cells (secA sC) 31)) w11.heap.size 31 (secA sC)) := Lib.hid ⟨(New.blk hN11 HB10.out.1).alloc _, (New.blk hN11 HB10.out.2).alloc _, Blk.new _ _ _⟩
          clear hN11
          by_cases hab : sA = sB
          · rw [decide_eq_true hab] at eAB
            clear eAC hab heither
            go_wp2_with (first
              | ((with_reducible refine atOp ⟨some 16, .alloc _, _, _, _, _⟩ ?_); refine wpList_newvar (s := sC) rfl rfl rfl _ _ rfl secInfo rfl rfl rfl OC.out.1 ?_)
              | ((with_reducible refine atOp ⟨some 105, .load _ _, _, _, _, _⟩ ?_); refine wpList_load_blk (s := sA) rfl _ rfl Try.underlying31 rfl rfl HB11.out.1 OA.out.1 ?_)
              | ((with_reducible refine atOp ⟨some 106, .load _ _, _, _, _, _⟩ ?_); refine wpList_load_blk (s := sB) rfl _ rfl Try.underlying31 rfl rfl HB11.out.2.1 OB.out.1 ?_))
            go_roundw
            case rel => exact ⟨k + 1, by omega, by go_num, Lib.hid ⟨HK.out.1.new (HN11.out.al _), HK.out.2.1.new (HN11.out.al _), HK.out.2.2.1.new (HN11.out.al _), HK.out.2.2.2.tr (HN11.out.al _)⟩⟩
            case measure => simp [intOf]; omega
          · have hac := heither.resolve_left hab
            rw [decide_eq_false hab] at eAB
            rw [decide_eq_true hac] at eAC
            clear hab hac heither
            go_wp2_with (first
              | ((with_reducible refine atOp ⟨some 16, .alloc _, _, _, _, _⟩ ?_); refine wpList_newvar (s := sC) rfl rfl rfl _ _ rfl secInfo rfl rfl rfl OC.out.1 ?_)
              | ((with_reducible refine atOp ⟨some 105, .load _ _, _, _, _, _⟩ ?_); refine wpList_load_blk (s := sA) rfl _ rfl Try.underlying31 rfl rfl HB11.out.1 OA.out.1 ?_)
              | ((with_reducible refine atOp ⟨some 106, .load _ _, _, _, _, _⟩ ?_); refine wpList_load_blk (s := sB) rfl _ rfl Try.underlying31 rfl rfl HB11.out.2.1 OB.out.1 ?_)
              | ((with_reducible refine atOp ⟨some 109, .load _ _, _, _, _, _⟩ ?_); refine wpList_load_blk (s := sA) rfl _ rfl Try.underlying31 rfl rfl HB11.out.1 OA.out.1 ?_)
              | ((with_reducible refine atOp ⟨some 110, .load _ _, _, _, _, _⟩ ?_); refine wpList_load_blk (s := sC) rfl _ rfl Try.underlying31 rfl rfl HB11.out.2.2 OC.out.1 ?_))
            go_roundw
            case rel => exact ⟨k + 1, by omega, by go_num, Lib.hid ⟨HK.out.1.new (HN11.out.al _), HK.out.2.1.new (HN11.out.al _), HK.out.2.2.1.new (HN11.out.al _), HK.out.2.2.2.tr (HN11.out.al _)⟩⟩
            case measure => simp [intOf]; omega
        · as_aux_lemma =>
          obtain rfl : k = 12 := by omega
          go_wp2_with fail
          refine (wait_in HK.out.1).mono ?_
          rintro e w' ⟨rfl, rfl⟩
          have e0 : ((p.cut keep).order.length : Int) = 0 := rfl
          rw [e0]
          clear e0
          go_wp2_with fail
          refine (down_in HK.out.1).mono ?_
          rintro e w' ⟨rfl, rfl⟩
          rw [show (p.cut keep).down = false from rfl]
          go_wp2_with fail
          refine (write_in HK.out.1 (a := 3) (s := sec1) (by omega) (by show (3 : Int) < p.size; rw [HP.out]; omega) sec1_ok rfl (by show (-1 : Int) ≠ 0; omega)).mono ?_
          rintro e w7 ⟨rfl, v7, hD7, hF7, -⟩
          have HD7 := Lib.hid hD7
          have HN7 : Hid (New w w7) := Lib.hid (HK.out.2.2.2.fr hF7 fun k hk => by have := (HK.out.1.ours k hk).1; omega)
          clear hD7 hF7
          go_wp2_with fail
          refine (sync_in HD7.out rfl).mono ?_
          rintro e w8 ⟨rfl, hD8, hF8⟩
          have HN8 : Hid (New w w8) := Lib.hid (HN7.out.fr hF8 fun k hk => by
            have := HK.out.1.lo
            rcases hk with rfl | rfl | rfl <;> omega)
          clear hD8 hF8
          go_wp2_with fail
          go_ret
          exact ⟨rfl, HN8.out⟩
theorem keeps_law {v0 v1 : Value} {w : World} (o0 : ∃ (A : Option Addr) (n c : Nat) (L : List AC), v0 = .slice A n c ∧ n ≤ maxLen ∧ L.length = n ∧ Rd (fun b => b < w.heap.size) w 67 A n (L.flatMap AC.cells) ∧ ∀ a ∈ L, a.Good w)
    (o1 : ∃ (A : Option Addr) (n c : Nat) (xs : List Bool), v1 = .slice A n c ∧ n ≤ maxLen ∧ Rd (fun b => b < w.heap.size) w 1 A n (bools xs)) : Calls Try.prog 3 #[v0, v1] w fun e w' => e = .returned (.bool true) ∧ Below w.heap.size w w' := by
  obtain ⟨A, n, c, L, rfl, hn, hL, hR, hg⟩ := o0
  obtain ⟨A2, n2, c2, keep, rfl, hn2, hR2⟩ := o1
  exact keeps_walk A n c L A2 n2 c2 keep w hL hn hR hg hn2 hR2
end Go.Proofs.Ytpdgnidoglmgcaa
