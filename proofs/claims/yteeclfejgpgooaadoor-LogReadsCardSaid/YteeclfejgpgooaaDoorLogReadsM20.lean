/- Texts of one proof, one behind the other: LiB. No condition but each one's own. -/
import Derived.Test.YteeclfejgpgooaaDoorLogReadsM19
/- LogReads, as its statement's row wants it. sha's tables are as they were laid. No condition else but the bound on what is read. -/
namespace Go.Proofs.YteeclfejgpgooaaDoor
set_option linter.unusedVariables false
set_option linter.unusedSimpArgs false
set_option linter.constructorNameAsVariable false
open Go.RowKit Go.Sort

section
open Go.WideShapes Go.ChangeShapes
variable {H : Type} {enc : TypeId × Value → H} {w : World}
set_option maxRecDepth 100000 in
theorem open_secs {r : Reach} {b0 : Nat} {v : Value} {d : DataW H} {p : List MemPlace} (hv : Value.okWide Tryd.prog w r b0 22 v) (h : DataW.Trod enc Tryd.prog w 0 (fun _ => true) true 22 v d p) (hz : Sz Tryd.prog 22 d) :
    ∃ (A : Option Addr) (n c : Nat) (L : List (List Int)), v = .slice A n c ∧ n ≤ maxLen ∧ L.length = n ∧ Rd (fun b => b < w.heap.size) w 64 A n (L.flatMap u8s) ∧ ∀ s ∈ L, SecOk s := by
  obtain ⟨a0, n0, c0, rfl⟩ := okWide_slice Tryd.underlying22 hv
  obtain ⟨fuel, hf⟩ := h
  obtain ⟨A, n, c, L, h1, h2, h3, h4, h5, h6, h7, -⟩ := trod_slk (k := 64) Tryd.underlying22 u8s (by kernel_rfl) (by omega) SecOk (fun cs m y hl ht _ => by
    obtain ⟨s, e, hs⟩ := trod_secs hl ht
    exact ⟨s, e.symm, hs⟩) hf hz
  exact ⟨A, n, c, L, h1, by omega, h5, h6, h7⟩
end
theorem rd_sec {p : Nat → Prop} {w : World} {A : Option Addr} {n : Nat} {L : List (List Int)} (h : Rd p w 64 A n (L.flatMap u8s)) (hL : L.length = n) (hg : ∀ s ∈ L, SecOk s) {i : Nat} (hi : i < n) :
    ∃ (g o : Nat) (hl : i < L.length), A = some ⟨g, o, none⟩ ∧ p g ∧ w.rangeAt g (o + i * 64) (u8s L[i]) := by
  obtain ⟨g, o, hA, hp, hgs, hc⟩ := h.out (by omega) (by omega)
  have hl : i < L.length := by omega
  refine ⟨g, o, hl, hA, hp, fun j v hv => ?_⟩
  have hj : j < 64 := by
    have := (List.getElem?_eq_some_iff.1 hv).1
    rwa [u8s_len, (hg _ (List.getElem_mem _)).1] at this
  have := fm_get u8s 64 L i j hl (fun x hx => by rw [u8s_len, (hg x hx).1]) hj
  rw [Nat.add_assoc]
  exact hc (i * 64 + j) v (by rw [this, hv])
theorem wpList_alloc_row {P : Program} {ops : Array Oper} {rest : List Oper} {o : Oper} {a : Act} {w : World} {Q : Exit → Act → World → Prop} {T : TypeId} {n : Nat} {C : Array Value} (hg : o.guard = none) (ho : o.op = .alloc T) (hZ : (P.info? T).map (fun i => (i.zero, i.size)) = some (some (.agg C), n))
    (h : wpList P ops Q rest (a.put o.dst (.pointer (some ⟨w.heap.size, 0, none⟩))) (w.alloc (.cells C T))) : wpList P ops Q (o :: rest) a w := by
  obtain ⟨z1, z2⟩ := zero_of_info hZ
  refine wpList_plain hg fun K' hK' => ?_
  have hal : (Instr.alloc T true (.tuple #[])).run P w = .ok (.pointer (some ⟨w.heap.size, 0, none⟩)) (w.alloc (.cells C T)) := by
    unfold Instr.alloc
    simp [Sem.run_bind, z1 w, newVar, newRow, go_sem, Result.andThen, Value.cells]
  unfold Oper.wp
  simp only [execOp, ho, hal, Result.andThen_ok, Sem.run_bind, Sem.run_pure]
  exact hK' _ _ h
theorem runs_len {p : DP} {l : LG} : ∀ k, (runs p l k).2.length ≤ k
  | 0 => Nat.zero_le _
  | k + 1 => by
    have ih := runs_len (p := p) (l := l) k
    cases hn : nextL p (runs p l k).1 with
    | none =>
      have := runs_none hn 1
      rw [this]
      omega
    | some b =>
      rw [runs_some hn]
      simp
      exact ih
theorem opn_len (p : DP) (a b c : Int) (hp : p.Ok) : (opn p a b c).recs.length ≤ 1000000000 := by
  have h2 := hp.s2
  unfold opn
  split
  · next hg =>
    obtain ⟨h3, h4, h5, h6, h7⟩ := hg
    split
    · have := runs_len (p := p) (l := lg0 a.toNat b.toNat c.toNat) ((lg0 a.toNat b.toNat c.toNat).size + 1)
      have h9 : (lg0 a.toNat b.toNat c.toNat).size = b.toNat := rfl
      show (runL p _).2.length ≤ _
      unfold runL
      omega
    · simp
  · simp
/-- Both disks behind some of the writes. -/
structure RdI (w wr : World) (base g bs bf b7 n k : Nat) : Prop where
  new : New w wr
  both : ∃ v p r A1 c1 A2 c2, Dk wr base g bs bf v p ∧ p.size = n ∧ p.fuse = -1 ∧ p.down = false ∧ Mt p r ∧ RfIn wr r A1 A2 ∧ r.tot ≤ k ∧ Blk wr b7 32 (RfV r A1 c1 A2 c2)
theorem dw_free {p : DP} (h1 : p.fuse = -1) (h2 : p.down = false) (a : Int) (s : List Int) : (p.doWrite a s).fuse = -1 ∧ (p.doWrite a s).down = false ∧ (p.within a = true → p.wcode a = 0) := by
  have hne : ¬ (p.fuse = 0 ∨ p.down = true) := by rw [h1, h2]; simp
  have e : p.doWrite a s = p ∨ p.doWrite a s = p.write a s := by
    unfold DP.doWrite
    by_cases hw : p.within a = true
    · rw [if_pos hw, if_neg hne]; exact .inr rfl
    · rw [if_neg hw]; exact .inl rfl
  have hf : (p.write a s).fuse = -1 := by
    show (if 0 < p.fuse then p.fuse - 1 else p.fuse) = -1
    rw [h1]
    rfl
  refine ⟨?_, ?_, fun hw => by unfold DP.wcode; rw [if_pos hw, if_neg hne]⟩
  · rcases e with e | e <;> rw [e]
    · exact h1
    · exact hf
  · rcases e with e | e <;> rw [e]
    · exact h2
    · exact h2
set_option maxHeartbeats 1000000 in
set_option maxRecDepth 100000 in
theorem reads_walk (A : Option Addr) (n c : Nat) (L : List (List Int)) (gen : Int) (hg : 0 ≤ gen ∧ gen < 4294967296) (w : World) (hn : n ≤ maxLen) (hL : L.length = n) (hR : Rd (fun b => b < w.heap.size) w 64 A n (L.flatMap u8s)) (hS : ∀ s ∈ L, SecOk s) (hT : RShaIn 1 0 w ∧ ShaIn 3 2 w) :
    Calls Tryd.prog 3 #[.slice A n c, .int .u32 gen] w fun e w' => e = .returned (.bool true) ∧ Below w.heap.size w w' := by
  have HLN := Lib.hid hL
  have HR := Lib.hid hR
  have HS := Lib.hid hS
  have HT := Lib.hid hT
  have HG := Lib.hid hg
  unfold maxLen at hn
  clear hL hR hS hT hg
  go_enter Tryd.func3, Tryd.ntmps3
  by_cases hnn : 1 ≤ n ∧ n ≤ 60
  rotate_left
  · have hh : (n : Int) < 1 ∨ (1 ≤ (n : Int) ∧ 60 < (n : Int)) := by omega
    clear hnn
    rcases hh with h1 | ⟨h1, h2⟩
    · go_wp2_with (go_at_call 7; refine (alive_any _).mono ?_; rintro e w' ⟨rfl, rfl⟩)
      go_ret
      exact ⟨rfl, New.refl _⟩
    · go_wp2_with (go_at_call 7; refine (alive_any _).mono ?_; rintro e w' ⟨rfl, rfl⟩)
      go_ret
      exact ⟨rfl, New.refl _⟩
  obtain ⟨hn1, hn60⟩ := hnn
  have hn1' : 1 ≤ (n : Int) := by omega
  have hn60' : (n : Int) ≤ 60 := by omega
  have hn60d : decide (60 < (n : Int)) = false := decide_eq_false (by omega)
  have HND := Lib.hid (new_ok n w w.heap.size (Nat.le_refl _) hn1 (by omega))
  go_wp2_with (first
    | (go_at_call 7; refine (alive_any _).mono ?_; rintro e w' ⟨rfl, rfl⟩)
    | (go_at_call 8; refine HND.out.mono ?_; rintro e w1 ⟨rfl, hD1, hN1⟩; have HD1 := Lib.hid hD1; have HN1 := Lib.hid hN1; clear hD1 hN1))
  refine (rnew_any (n : Int) w1).mono ?_
  rintro e w2 ⟨rfl, hN2⟩
  obtain ⟨g, hgd⟩ : ∃ g, g = w.heap.size + 2 := ⟨_, rfl⟩
  obtain ⟨bs, hbs⟩ : ∃ bs, bs = w.heap.size := ⟨_, rfl⟩
  obtain ⟨bf, hbf⟩ : ∃ bf, bf = w.heap.size + 1 := ⟨_, rfl⟩
  have HN2 : Hid (New w w2) := Lib.hid (HN1.out.tr hN2)
  have HD2 : Hid (Dk w2 w.heap.size g bs bf (.slice none 0 0) (DP.new n)) := Lib.hid (by rw [hgd, hbf]; rw [hbs]; exact HD1.out.new hN2)
  obtain ⟨X0, hX0⟩ : ∃ X0, X0 = RfV (RP.new n) none 0 none 0 := ⟨_, rfl⟩
  have HX0 := Lib.hid hX0
  rw [← hgd, ← hX0]
  clear hgd hbs hbf hN2 HD1 HN1 HND hX0
  go_upto_region 9 with ((with_reducible refine atOp ⟨some 7, .alloc _, _, _, _, _⟩ ?_); refine wpList_newrow (C := X0) rfl rfl rfl _ _ rfl rInfo rfl rfl rfl (by rw [HX0.out]; rfl) (by rw [HX0.out]; exact rf_all _ _ _ _ _) ?_)
  obtain ⟨w3, hw3⟩ : ∃ w3 : World, w3 = w2.alloc (.cells X0 32) := ⟨_, rfl⟩
  obtain ⟨b7, hb7⟩ : ∃ b7, b7 = w2.heap.size := ⟨_, rfl⟩
  have HN3 : Hid (New w2 w3) := Lib.hid (by rw [hw3]; exact New.al (New.refl _) _)
  have HI3 : Hid (RdI w w3 w.heap.size g bs bf b7 n 0) := Lib.hid ⟨HN2.out.tr HN3.out, .slice none 0 0, DP.new n, RP.new n, none, 0, none, 0, HD2.out.new HN3.out, rfl, rfl, rfl, Mt.new n, ⟨RdT.nil, RdT.nil, by simp [RP.new, RP.Ok]⟩, by simp [RP.new, RP.tot], by rw [hw3, hb7, HX0.out]; exact Blk.new _ _ _⟩
  have HB7 : Hid (w.heap.size ≤ b7) := Lib.hid (by rw [hb7]; exact HN2.out.size)
  have HB7N : Hid (b7 < w3.heap.size) := Lib.hid (by rw [hw3, hb7]; simp)
  rw [← hw3, ← hb7]
  clear hw3 hb7 HD2 HX0
  go_wp2_with fail
  go_loopw [43] (fun i wr => ∃ k : Nat, k ≤ n ∧ i = .int .i64 k ∧ Hid (RdI w wr w.heap.size g bs bf b7 n k)) (fun i _ => n - (intOf i).toNat)
  case atStart => exact ⟨0, Nat.zero_le _, rfl, HI3⟩
  case round =>
    clear HI3
    obtain ⟨k, hk, rfl, HI⟩ := hrel
    obtain ⟨v, p, r, A1, c1, A2, c2, hD, hps, hpf, hpd, hM, hI, ht, hB⟩ := HI.out.both
    have HD := Lib.hid hD
    have HM := Lib.hid hM
    have HRI := Lib.hid hI
    have HBX := Lib.hid hB
    have HP := Lib.hid (And.intro hps (And.intro hpf hpd))
    have HTT := Lib.hid ht
    clear hD hM hI hB hps hpf hpd ht
    obtain ⟨X, hX⟩ : ∃ X, X = RfV r A1 c1 A2 c2 := ⟨_, rfl⟩
    have HX := Lib.hid hX
    rw [← hX] at HBX
    have HXS : Hid (X.size = 5 ∧ X.all (·.oneCell') = true) := Lib.hid (by rw [hX]; exact ⟨rfl, rf_all _ _ _ _ _⟩)
    clear hX
    by_cases hlt : k < n
    · obtain ⟨ga, oa, hl, rfl, hga, hrange⟩ := rd_sec HR.out HLN.out HS.out hlt
      obtain ⟨s, hs⟩ : ∃ s, s = L[k] := ⟨_, rfl⟩
      rw [← hs] at hrange
      have HSO : Hid (SecOk s) := Lib.hid (by rw [hs]; exact HS.out _ (List.getElem_mem _))
      have HRG : Hid (∀ W, New wr W → W.rangeAt ga (oa + k * 64) (u8s s)) := Lib.hid fun W hN j v hv => hN.cell_ (HI.out.new.cell_ (hrange j v hv))
      have hlt' : (k : Int) < (n : Int) := by omega
      have hk0 : (0 : Int) ≤ (k : Int) := by omega
      have HWI : Hid (p.within (k : Int) = true) := Lib.hid (by unfold DP.within; rw [HP.out.1]; exact decide_eq_true (by omega))
      have HFD := Lib.hid (dw_free HP.out.2.1 HP.out.2.2 (k : Int) s)
      have HSZ : Hid ((u8s s).length = 64 ∧ (secA s).size = 64) := Lib.hid ⟨by rw [u8s_len, HSO.out.1], by rw [secA_size, HSO.out.1]⟩
      clear hrange hs
      go_upto_region 12 with (first
        | ((with_reducible refine atOp ⟨some 47, .load _ _, _, _, _, _⟩ ?_); refine wpList_load_range rfl _ rfl rfl (HRG.out _ (New.refl _)) Tryd.underlying35 rfl (by rw [HSZ.out.1]; rfl) ?_)
        | ((with_reducible refine atOp ⟨some 9, .alloc _, _, _, _, _⟩ ?_); refine wpList_alloc_sec rfl rfl secInfo ?_)
        | ((with_reducible refine atOp ⟨none, .store 35 (.tmp 9) _, _, _, _, _⟩ ?_); refine wpList_store_any rfl (.tmp 9) (.tmp 47) rfl (cs := secA s) (by rw [HSZ.out.2]; rfl) rfl rfl (Blk.new wr 35 (secA sec0)) (by rw [HSZ.out.2]; rfl) (secA_one _) ?_; intro w4 hb4 hf4; have HB4 := Lib.hid hb4; have HF4 := Lib.hid hf4; clear hb4 hf4))
      obtain ⟨b9, hb9⟩ : ∃ b9, b9 = wr.heap.size := ⟨_, rfl⟩
      have HN4 : Hid (New wr w4) := Lib.hid ((New.al (New.refl wr) _).fr HF4.out (fun j hj => by omega))
      rw [← hb9] at HB4 ⊢
      clear hb9
      obtain ⟨p2, hp2⟩ : ∃ p2, p2 = p.doWrite (k : Int) s := ⟨_, rfl⟩
      have HWR := Lib.hid (write_all (HD.out.new HN4.out) (k : Int) HSO.out)
      rw [HFD.out.2.2 HWI.out, errD_0, ← hp2] at HWR
      have HP2 : Hid (p2.size = n ∧ p2.fuse = -1 ∧ p2.down = false) := Lib.hid ⟨by rw [hp2, DP.doWrite_size]; exact HP.out.1, by rw [hp2]; exact HFD.out.1, by rw [hp2]; exact HFD.out.2.1⟩
      have HM2 : Hid (Mt p2 (r.write (k : Int) s)) := Lib.hid (by rw [hp2]; exact HM.out.write _ _)
      have HW0 : Hid (r.wcode (k : Int) = 0) := Lib.hid (by rw [HM.out.wcode]; exact HFD.out.2.2 HWI.out)
      have HT2 : Hid ((r.write (k : Int) s).tot ≤ k + 1) := Lib.hid (by have := RP.tot_write r (k : Int) s; have := HTT.out; omega)
      clear hp2
      go_upto_region 14 with (first
        | ((with_reducible refine atOp ⟨some 50, .load _ _, _, _, _, _⟩ ?_); refine wpList_load_any rfl _ rfl Tryd.underlying35 rfl (by rw [HSZ.out.2]; rfl) rfl HB4.out ?_)
        | (go_at_call 10; refine HWR.out.mono ?_; rintro e w5 ⟨rfl, v5, hD5, hF5, ho5⟩; have HD5 : Hid (DkTo w4 w.heap.size g bs bf v p2 w5 v5) := Lib.hid ⟨hD5, hF5, ho5⟩; clear hD5 hF5 ho5))
      have HDK4 : Hid (Dk w4 w.heap.size g bs bf v p) := Lib.hid (HD.out.new HN4.out)
      have HX4 : Hid (Blk w4 b7 32 X) := Lib.hid (HN4.out.blk HBX.out)
      have HBX5 : Hid (Blk w5 b7 32 X) := Lib.hid (HX4.out.fr HD5.out.fr (dk_notBlk HDK4.out HX4.out (Blk.ne_ HX4.out HDK4.out.blk (by decide)) (by decide)))
      have HB95 : Hid (Blk w5 b9 35 (secA s)) := Lib.hid (HB4.out.fr HD5.out.fr (dk_notBlk HDK4.out HB4.out (Blk.ne_ HB4.out HDK4.out.blk (by decide)) (by decide)))
      have HRI5 : Hid (RfIn w5 r A1 A2) := Lib.hid ((HRI.out.new HN4.out).fr HD5.out.fr (dk_not HDK4.out))
      have HRW : Hid (Calls Tryd.prog 11 #[.agg X, .int .i64 (k : Int), .agg (secA s)] w5 fun e w' => RfEnd w' (r.write (k : Int) s) 0 e ∧ New w5 w') := Lib.hid (by
        have h := rwrite_any r A1 c1 A2 c2 (k : Int) s w5 HRI5.out HSO.out (by have := HTT.out; omega) (WalkArith.wf_i64 (by omega)) (by rw [HM.out.fuse]; exact dp_fuse HD.out.ok) (by rw [HM.out.size, HP.out.1]; omega)
        rw [HW0.out] at h
        rw [HX.out]
        exact h)
      go_wp2_with (first
        | ((with_reducible refine atOp ⟨some 54, .load _ _, _, _, _, _⟩ ?_); refine wpList_load_any rfl _ rfl Tryd.underlying32 rfl (by rw [HXS.out.1]; rfl) rfl HBX5.out ?_)
        | ((with_reducible refine atOp ⟨some 56, .load _ _, _, _, _, _⟩ ?_); refine wpList_load_any rfl _ rfl Tryd.underlying35 rfl (by rw [HSZ.out.2]; rfl) rfl HB95.out ?_))
      refine HRW.out.mono ?_
      rintro e w6 ⟨⟨E1, f1, E2, f2, rfl, hR6⟩, hN6⟩
      obtain ⟨Y, hY⟩ : ∃ Y, Y = RfV (r.write (k : Int) s) E1 f1 E2 f2 := ⟨_, rfl⟩
      rw [← hY]
      have HY := Lib.hid hY
      have HYS : Hid (Y.size = 5 ∧ Y.all (·.oneCell') = true) := Lib.hid (by rw [hY]; exact ⟨rfl, rf_all _ _ _ _ _⟩)
      have HR6 := Lib.hid hR6
      have HN6 := Lib.hid hN6
      have HBX6 : Hid (Blk w6 b7 32 X) := Lib.hid (hN6.blk HBX5.out)
      clear hY hR6 hN6
      go_wp2_with ((with_reducible refine atOp ⟨none, .store 32 (.tmp 7) _, _, _, _, _⟩ ?_); refine wpList_store_any rfl (.tmp 7) (.tmp 58) rfl (by rw [HYS.out.1]; rfl) rfl rfl HBX6.out (by rw [HXS.out.1, HYS.out.1]) HYS.out.2 ?_; intro w7 hb7 hf7; have HB7' := Lib.hid hb7; have HF7 := Lib.hid hf7; clear hb7 hf7)
      have HI7 : Hid (RdI w w7 w.heap.size g bs bf b7 n (k + 1)) := Lib.hid ⟨((((HI.out.new.tr HN4.out).fr HD5.out.fr (fun j hj => (HDK4.out.ours j hj).1)).tr HN6.out).fr HF7.out (fun j hj => by have := HB7.out; omega)), v5, p2, r.write (k : Int) s, E1, f1, E2, f2, (HD5.out.dk.new HN6.out).fr HF7.out (fun j hj => by
        have hj' : j = b7 := hj
        rw [hj']
        exact dk_notBlk (HD5.out.dk.new HN6.out) HBX6.out (Blk.ne_ HBX6.out (HD5.out.dk.new HN6.out).blk (by decide)) (by decide)), HP2.out.1, HP2.out.2.1, HP2.out.2.2, HM2.out, HR6.out.fr HF7.out (fun j hj => by
        have hj' : j = b7 := hj
        rw [hj']
        exact IsT.not_blk HBX6.out (by decide)), HT2.out, by rw [← HY.out]; exact HB7'.out⟩
      go_roundw
      case rel => exact ⟨k + 1, by omega, by go_num, HI7⟩
      case measure => simp [intOf]; omega
    · have hkn : k = n := by omega
      have hknn : ¬ (k : Int) < (n : Int) := by omega
      clear hkn hlt
      have hwa : (Lit.int .i64 (0 : Int)).wf = true := by decide
      have HLO := Lib.hid (open_all HD.out (HT.out.2.new HI.out.new) 0 (n : Int) gen hwa (WalkArith.wf_i64 (by omega)) HG.out)
      have HPO : Hid p.Ok := Lib.hid HD.out.ok
      obtain ⟨o, ho⟩ : ∃ o, o = opn p 0 (n : Int) gen := ⟨_, rfl⟩
      rw [← ho] at HLO
      have HO := Lib.hid ho
      have HRO := Lib.hid (fun W (hN : New w W) (hI : RfIn W r A1 A2) => ropen_all r A1 c1 A2 c2 hI HM.out HD.out.ok (by have := HTT.out; omega) (HT.out.1.new hN) 0 (n : Int) gen hwa (WalkArith.wf_i64 (by omega)) HG.out)
      rw [← HO.out, ← HX.out] at HRO
      clear ho hwa
      go_wp2_with fail
      refine HLO.out.mono ?_
      rintro e w4 ⟨pl, B, cb, v4, rfl, hlo, hrc, hdt⟩
      have HLG := Lib.hid hlo
      have HRC := Lib.hid hrc
      have HDT := Lib.hid hdt
      have HN4 : Hid (New w w4) := Lib.hid (HI.out.new.fr hdt.fr (fun j hj => (HD.out.ours j hj).1))
      have HX4 : Hid (Blk w4 b7 32 X) := Lib.hid (HBX.out.fr hdt.fr (dk_notBlk HD.out HBX.out (Blk.ne_ HBX.out HD.out.blk (by decide)) (by decide)))
      have HRI4 : Hid (RfIn w4 r A1 A2) := Lib.hid (HRI.out.fr hdt.fr (dk_not HD.out))
      obtain ⟨kr, hkr⟩ : ∃ kr, kr = o.recs.length := ⟨_, rfl⟩
      have HKR := Lib.hid hkr
      rw [← hkr] at HRC ⊢
      obtain ⟨ev, hev⟩ : ∃ ev, ev = errD o.err := ⟨_, rfl⟩
      have HEV := Lib.hid hev
      obtain ⟨ec, hec⟩ : ∃ ec, ec = o.err := ⟨_, rfl⟩
      have HEC := Lib.hid hec
      rw [← hev]
      have HROw := Lib.hid (HRO.out w4 HN4.out HRI4.out)
      unfold RvSays at HROw
      rw [← hec, ← hkr] at HROw
      clear hlo hrc hdt hkr hev hec HRO HLO
      go_wp2_with ((with_reducible refine atOp ⟨some 71, .load _ _, _, _, _, _⟩ ?_); refine wpList_load_any rfl _ rfl Tryd.underlying32 rfl (by rw [HXS.out.1]; rfl) rfl HX4.out ?_)
      refine HROw.out.mono ?_
      rintro e w5 ⟨r', E1, f1, E2, f2, XL, C, cc, rfl, hR5, hM5, ht5, hL5, hrc5, hN5⟩
      obtain ⟨Y, hY⟩ : ∃ Y, Y = RfV r' E1 f1 E2 f2 := ⟨_, rfl⟩
      rw [← hY]
      have HY := Lib.hid hY
      have HYS : Hid (Y.size = 5 ∧ Y.all (·.oneCell') = true) := Lib.hid (by rw [hY]; exact ⟨rfl, rf_all _ _ _ _ _⟩)
      have HR5 := Lib.hid hR5
      have HM5 := Lib.hid hM5
      have HT5 := Lib.hid ht5
      have HLS := Lib.hid hL5.used
      have HRC5 := Lib.hid hrc5
      have HN5 := Lib.hid hN5
      have HX5 : Hid (Blk w5 b7 32 X) := Lib.hid (hN5.blk HX4.out)
      clear hY hR5 hM5 ht5 hL5 hrc5 hN5 HROw
      go_upto_region 18 with (first
        | ((with_reducible refine atOp ⟨some 12, .alloc _, _, _, _, _⟩ ?_); refine wpList_alloc_row rfl rfl rlInfo ?_)
        | ((with_reducible refine atOp ⟨none, .store 32 (.tmp 7) _, _, _, _, _⟩ ?_); refine wpList_store_any rfl (.tmp 7) (.tmp 76) rfl (by rw [HYS.out.1]; rfl) rfl rfl (HX5.out.alloc _) (by rw [HXS.out.1, HYS.out.1]) HYS.out.2 ?_; intro w6 hb6 hf6; have HB76 := Lib.hid hb6; have HF6 := Lib.hid hf6; clear hb6 hf6)
        | ((with_reducible refine atOp ⟨none, .store 45 (.tmp 12) _, _, _, _, _⟩ ?_); refine wpList_store_any rfl (.tmp 12) (.tmp 77) rfl (cs := XL) (by rw [HLS.out.2.1]; rfl) rfl rfl ((Blk.new w5 45 rl0).fr HF6.out (fun hs => by have := HX5.out.lt; have hs' : w5.heap.size = b7 := hs; omega)) (by rw [HLS.out.2.1]; rfl) HLS.out.2.2 ?_; intro w7 hb7 hf7; have HB12 := Lib.hid hb7; have HF7 := Lib.hid hf7; clear hb7 hf7))
      obtain ⟨b12, hb12⟩ : ∃ b12, b12 = w5.heap.size := ⟨_, rfl⟩
      have HEQ12 := Lib.hid hb12
      rw [← hb12] at HB12 HF7 ⊢
      have hX5l := HX5.out.lt
      have HNE : Hid (b7 ≠ b12 ∧ w5.heap.size ≤ b12) := Lib.hid ⟨by omega, by omega⟩
      clear hb12 hX5l
      have HAL : Hid (New w5 (w5.alloc (.cells rl0 45))) := Lib.hid (New.al (New.refl _) _)
      have HB77 : Hid (Blk w7 b7 32 Y) := Lib.hid (HB76.out.fr HF7.out HNE.out.1)
      have HDK5 : Hid (Dk w5 w.heap.size g bs bf v4 o.disk) := Lib.hid (HDT.out.dk.new HN5.out)
      have HDK6 : Hid (Dk w6 w.heap.size g bs bf v4 o.disk) := Lib.hid ((HDK5.out.new HAL.out).fr HF6.out (fun j hj => by
        have hj' : j = b7 := hj
        rw [hj']
        exact dk_notBlk (HDK5.out.new HAL.out) (HX5.out.alloc _) (Blk.ne_ (HX5.out.alloc _) (HDK5.out.new HAL.out).blk (by decide)) (by decide)))
      have HB120 : Hid (∃ cs, Blk w6 b12 45 cs) := Lib.hid ⟨rl0, (by
        have h := (Blk.new w5 45 rl0)
        rw [← HEQ12.out] at h
        exact h.fr HF6.out HNE.out.1.symm)⟩
      have HDK7 : Hid (Dk w7 w.heap.size g bs bf v4 o.disk) := Lib.hid (HDK6.out.fr HF7.out (fun j hj => by
        have hj' : j = b12 := hj
        obtain ⟨cs, h0⟩ := HB120.out
        rw [hj']
        exact dk_notBlk HDK6.out h0 (Blk.ne_ h0 HDK6.out.blk (by decide)) (by decide)))
      have HT6 : Hid (∀ t, 32 ≠ t → ∀ j, j = b7 → ¬ IsT t (w5.alloc (.cells rl0 45)) j) := Lib.hid fun t ht j hj => by rw [hj]; exact IsT.not_blk (HX5.out.alloc _) ht
      have HT7 : Hid (∀ t, 45 ≠ t → ∀ j, j = b12 → ¬ IsT t w6 j) := Lib.hid fun t ht j hj => by
        obtain ⟨cs, h0⟩ := HB120.out
        rw [hj]
        exact IsT.not_blk h0 ht
      have HR7 : Hid (RfIn w7 r' E1 E2) := Lib.hid (((HR5.out.new HAL.out).fr HF6.out (fun j hj => HT6.out _ (by decide) j hj)).fr HF7.out (fun j hj => HT7.out _ (by decide) j hj))
      have HRC7 : Hid (Recs wr.heap.size w7 (.slice B kr cb) o.recs) := Lib.hid ((((HRC.out.new HN5.out).new HAL.out).fr HF6.out (fun j hj _ => ⟨HT6.out _ (by decide) j hj, HT6.out _ (by decide) j hj⟩)).fr HF7.out (fun j hj _ => ⟨HT7.out _ (by decide) j hj, HT7.out _ (by decide) j hj⟩))
      have HRC57 : Hid (Recs w4.heap.size w7 (.slice C kr cc) o.recs) := Lib.hid (((HRC5.out.new HAL.out).fr HF6.out (fun j hj _ => ⟨HT6.out _ (by decide) j hj, HT6.out _ (by decide) j hj⟩)).fr HF7.out (fun j hj _ => ⟨HT7.out _ (by decide) j hj, HT7.out _ (by decide) j hj⟩))
      have HLG7 : Hid (LgO wr.heap.size w7 pl g p.size o.log) := Lib.hid ((((HLG.out.new HN5.out).new HAL.out).fr HF6.out (fun gl hgl hs => by
        have hs' : gl = b7 := hs
        have h := (HLG.out.new HN5.out).new HAL.out
        cases ho : o.log with
        | none => rw [ho] at h; rw [show pl = none from h] at hgl; cases hgl
        | some l =>
          rw [ho] at h
          obtain ⟨gl', e1, -, h1⟩ := h
          rw [e1] at hgl
          injection hgl with hgl
          injection hgl with hgl
          have hb := h1.blk
          rw [hgl] at hb
          exact Blk.ne_ hb (HX5.out.alloc _) (by decide) hs')).fr HF7.out (fun gl hgl hs => by
        have hs' : gl = b12 := hs
        have h := HLG.out
        cases ho : o.log with
        | none => rw [ho] at h; rw [show pl = none from h] at hgl; cases hgl
        | some l =>
          rw [ho] at h
          obtain ⟨gl', e1, -, h1⟩ := h
          rw [e1] at hgl
          injection hgl with hgl
          injection hgl with hgl
          have hb := h1.blk.lt
          have := HN5.out.size
          have := HNE.out.2
          omega))
      have HNW7 : Hid (New w w7) := Lib.hid ((((HN4.out.tr HN5.out).tr HAL.out).fr HF6.out (fun j hj => by have hj' : j = b7 := hj; have := HB7.out; omega)).fr HF7.out (fun j hj => by have hj' : j = b12 := hj; have := HNE.out.2; have := HN4.out.size; have := HN5.out.size; omega))
      obtain ⟨uo, huo⟩ : ∃ uo, uo = usedOf o.log := ⟨_, rfl⟩
      obtain ⟨ol, hol⟩ : ∃ ol, ol = o.disk.order.length := ⟨_, rfl⟩
      have HC12 : Hid (∀ W, New w7 W → W.cell? ⟨b12, 2, none⟩ = some (.int .i64 uo)) := Lib.hid fun W hN => by rw [(hN.blk HB12.out).cell, HLS.out.1, huo]
      have HNUM : Hid (∀ W, Calls Tryd.prog 14 #[ev] W fun e w' => e = .returned (.int .i64 ec) ∧ W = w') := Lib.hid fun W => by rw [HEV.out, HEC.out]; exact num_errD _ W
      have HROWS : Hid (∀ W, New w7 W → Calls Tryd.prog 15 #[.slice B kr cb, .slice C kr cc] W fun e w' => e = .returned (.bool true) ∧ New W w') := Lib.hid fun W hN => by
        have hle : kr ≤ 1000000000 := by
          obtain ⟨A', c', h1, h2, h3⟩ := HRC7.out.shape
          have hm := HDK7.out.ok.s2
          have := opn_len p 0 (n : Int) gen
          rw [HKR.out, HO.out]
          exact this HPO.out
        have h := rows_any (HRC7.out.new hN) (HRC57.out.new hN) HKR.out HKR.out hle hle
        rw [decide_eq_true rfl] at h
        exact h
      have HUSED : Hid (∀ W, New w7 W → Calls Tryd.prog 16 #[.pointer pl] W fun e w' => e = .returned (.int .i64 uo) ∧ W = w') := Lib.hid fun W hN => by rw [huo]; exact used_any (HLG7.out.new hN)
      have HWAIT : Hid (∀ W, New w7 W → Calls Tryd.prog 17 #[.pointer (some ⟨g, 0, none⟩)] W fun e w' => e = .returned (.int .i64 ol) ∧ W = w') := Lib.hid fun W hN => by rw [hol]; exact wait_in (HDK7.out.new hN)
      have HWTS : Hid (∀ W, New w7 W → Calls Tryd.prog 18 #[.agg Y] W fun e w' => (∃ A c, e = .returned (.slice A ol c)) ∧ New W w') := Lib.hid fun W hN => by
        rw [hol, HY.out, HM5.out.order]
        exact (rwaits_any r' E1 f1 E2 f2 W (HR7.out.new hN) (by have := HT5.out; have := HTT.out; omega)).mono fun e w' ⟨⟨A, c, h1, _⟩, h2⟩ => ⟨⟨A, c, h1⟩, h2⟩
      have HREAD : Hid (∀ (k : Nat) W, New w7 W → Calls Tryd.prog 19 #[.pointer (some ⟨g, 0, none⟩), .int .i64 (k : Int)] W fun e w' => e = .returned (.tuple #[.agg (secA (o.disk.rget (k : Int))), errD (o.disk.rcode (k : Int))]) ∧ New W w') := Lib.hid fun k W hN => read_all (HDK7.out.new hN) (k : Int)
      have HRREAD : Hid (∀ (k : Nat) W, k < 1000 → New w7 W → Calls Tryd.prog 20 #[.agg Y, .int .i64 (k : Int)] W fun e w' => e = .returned (.tuple #[.agg (secA (o.disk.rget (k : Int))), .int .i64 (o.disk.rcode (k : Int))]) ∧ New W w') := Lib.hid fun k W hk hN => by
        have h := rread_any r' E1 f1 E2 f2 (k : Int) W (HR7.out.new hN) (by have := HT5.out; have := HTT.out; omega) (WalkArith.wf_i64 (by omega)) (by rw [HM5.out.size]; have := HDK7.out.ok.s2; omega)
        rw [HM5.out.rget, HM5.out.rcode] at h
        rw [HY.out]
        exact h
      have HNER : Hid (∀ (c : Int) (e : Value), e = errD c → ∀ W, Calls Tryd.prog 14 #[e] W fun e' w' => e' = .returned (.int .i64 c) ∧ W = w') := Lib.hid fun c e he W => by rw [he]; exact num_errD _ W
      have HSG : Hid (∀ k : Nat, SecOk (o.disk.rget (k : Int))) := Lib.hid fun k => HDK7.out.ok.rget _
      have hol0 : (ol : Int) ≤ 16384 := by have := HDK7.out.ok.len; have := HDK7.out.ok.s2; omega
      clear huo hol
      have q12 : ∀ p : HW (New w7), p.w.cell? ⟨b12, 2, none⟩ = some (.int .i64 uo) := fun p => HC12.out p.w p.h
      refine wp_region_mixH (New w7) [(true, 0), (true, 2), (false, 1), (true, 3), (true, 4), (true, 5), (true, 6), (false, 7), (true, 8), (true, 9), (true, 10), (true, 11), (true, 13), (true, 14), (false, 12), (true, 15), (true, 16), (true, 17), (true, 18), (true, 20), (false, 19), (false, 21), (true, 22), (true, 23), (true, 24)] (by kernel_rfl) (by kernel_rfl) (New.dr (New.refl w7)) (fun hne => ?_)
      iterate 2 (refine mix_take (o := ⟨_, _, _, _, _, _⟩) rfl (fun K hK => ?_); go_simp; refine hK _ ?_; clear hK K)
      refine mix_act (o := ⟨_, _, _, _, _, _⟩) rfl (fun K hK => ?_) (.inl rfl)
      go_simp
      refine (HNUM.out w7.drew).mono ?_
      rintro e w8 ⟨rfl, hw8⟩
      have HN8 : Hid (New w7 w8) := Lib.hid (by rw [← hw8]; exact New.dr (New.refl _))
      clear hw8
      go_simp
      refine hK.out _ _ (fun _ => HN8.out) ?_
      clear hK K
      iterate 4 (refine mix_take (o := ⟨_, _, _, _, _, _⟩) rfl (fun K hK => ?_); go_simp; refine hK _ ?_; clear hK K)
      refine mix_act (o := ⟨_, _, _, _, _, _⟩) rfl (fun K hK => ?_) (.inl rfl)
      go_simp
      refine (HROWS.out w8 HN8.out).mono ?_
      rintro e w9 ⟨rfl, hN9⟩
      have HN9 : Hid (New w7 w9) := Lib.hid (HN8.out.tr hN9)
      clear hN9
      go_simp
      refine hK.out _ _ (fun _ => HN9.out) ?_
      clear hK K
      iterate 6 (refine mix_take (o := ⟨_, _, _, _, _, _⟩) rfl (fun K hK => ?_); go_simp; refine hK _ ?_; clear hK K)
      refine mix_act (o := ⟨_, _, _, _, _, _⟩) rfl (fun K hK => ?_) (.inl rfl)
      go_simp
      refine (HUSED.out w9 HN9.out).mono ?_
      rintro e w10 ⟨rfl, hw10⟩
      have HN10 : Hid (New w7 w10) := Lib.hid (by rw [← hw10]; exact HN9.out)
      clear hw10
      go_simp
      refine hK.out _ _ (fun _ => HN10.out) ?_
      clear hK K
      iterate 4 (refine mix_take (o := ⟨_, _, _, _, _, _⟩) rfl (fun K hK => ?_); go_simp; refine hK _ ?_; clear hK K)
      refine mix_take_row (o := ⟨_, _, _, _, _, _⟩) rfl rfl (.tmp 7) rfl rfl (fun W hN => (hN.blk HB77.out).rangeOf) Tryd.underlying32 rfl (by rw [Array.length_toList, HYS.out.1]; rfl) ?_
      simp only [Act.put, List.setIfInBounds_toArray, List.set_cons_zero, List.set_cons_succ]
      refine mix_act (o := ⟨_, _, _, _, _, _⟩) rfl (fun K hK => ?_) (.inl rfl)
      go_simp
      refine (HWAIT.out w10 HN10.out).mono ?_
      rintro e w11 ⟨rfl, hw11⟩
      have HN11 : Hid (New w7 w11) := Lib.hid (by rw [← hw11]; exact HN10.out)
      clear hw11
      go_simp
      refine hK.out _ _ (fun _ => HN11.out) ?_
      clear hK K
      refine mix_act (o := ⟨_, _, _, _, _, _⟩) rfl (fun K hK => ?_) (.inl rfl)
      go_simp
      refine (HWTS.out w11 HN11.out).mono ?_
      rintro e w12 ⟨⟨AW, cW, rfl⟩, hN12⟩
      have HN12 : Hid (New w7 w12) := Lib.hid (HN11.out.tr hN12)
      clear hN12
      go_simp
      refine hK.out _ _ (fun _ => HN12.out) ?_
      clear hK K
      iterate 3 (refine mix_take (o := ⟨_, _, _, _, _, _⟩) rfl (fun K hK => ?_); go_simp; refine hK _ ?_; clear hK K)
      refine mix_done ?_
      clear q12
      go_wp2_with fail
      have HN12z : Hid (New w7 w12) := Lib.hid HN12.out
      go_loopw [107] (fun i wr => ∃ k : Nat, k ≤ n ∧ i = .int .i64 k ∧ Hid (New w7 wr)) (fun i _ => n - (intOf i).toNat)
      case atStart => exact ⟨0, Nat.zero_le _, rfl, HN12z⟩
      case round =>
        clear HN12z
        obtain ⟨k, hk2, rfl, HNr⟩ := hrel
        by_cases hlt2 : k < n
        · have hlt2' : (k : Int) < (n : Int) := by omega
          have hk20 : (0 : Int) ≤ (k : Int) := by omega
          obtain ⟨s, hs⟩ : ∃ s, s = o.disk.rget (k : Int) := ⟨_, rfl⟩
          have HSO : Hid (SecOk s) := Lib.hid (by rw [hs]; exact HSG.out k)
          have HRA := Lib.hid (HREAD.out k wr HNr.out)
          obtain ⟨rc, hrc⟩ : ∃ rc, rc = o.disk.rcode (k : Int) := ⟨_, rfl⟩
          rw [← hs, ← hrc] at HRA
          have HRB : Hid (∀ W, New w7 W → Calls Tryd.prog 20 #[.agg Y, .int .i64 (k : Int)] W fun e w' => e = .returned (.tuple #[.agg (secA s), .int .i64 rc]) ∧ New W w') := Lib.hid fun W hN => by rw [hs, hrc]; exact HRREAD.out k W (by omega) hN
          have hsz64 : (secA s).size = 64 := by rw [secA_size, HSO.out.1]
          have HSZ := Lib.hid hsz64
          have hneq : ∀ W, (binOp .neq 35 (.agg (secA s)) (.agg (secA s))).run Tryd.prog W = .ok (.bool false) W := fun W => by
            have h := run_neq_sec (P := Tryd.prog) Tryd.underlying35 Tryd.underlying5 (fun w => (by first | exact Tryd.sizeOf5 w | kernel_rfl)) HSO.out.1 HSO.out.1 HSO.out.2 HSO.out.2 W
            rw [decide_eq_true rfl] at h
            exact h
          obtain ⟨er, her⟩ : ∃ er, er = errD rc := ⟨_, rfl⟩
          have HER := Lib.hid her
          rw [← her] at HRA
          clear hs hrc hsz64 her
          go_upto_region 24 with (first
            | (go_at_call 19; refine HRA.out.mono ?_; rintro e w13 ⟨rfl, hN13⟩; have HN13 := Lib.hid hN13; clear hN13)
            | ((with_reducible refine atOp ⟨some 16, .alloc _, _, _, _, _⟩ ?_); refine wpList_newvar (s := s) rfl rfl rfl _ _ rfl secInfo rfl rfl rfl HSO.out.1 ?_))
          obtain ⟨w14, hw14⟩ : ∃ w14 : World, w14 = w13.alloc (.cells (secA s) 35) := ⟨_, rfl⟩
          obtain ⟨b16, hb16⟩ : ∃ b16, b16 = w13.heap.size := ⟨_, rfl⟩
          have HB16 : Hid (Blk w14 b16 35 (secA s)) := Lib.hid (by rw [hw14, hb16]; exact Blk.new _ _ _)
          have HN14 : Hid (New w7 w14) := Lib.hid (by rw [hw14]; exact New.al (HNr.out.tr HN13.out) _)
          have HB714 : Hid (Blk w14 b7 32 Y) := Lib.hid (HN14.out.blk HB77.out)
          rw [← hw14, ← hb16]
          clear hw14 hb16
          go_upto_region 25 with (first
            | ((with_reducible refine atOp ⟨some 117, .load _ _, _, _, _, _⟩ ?_); refine wpList_load_any rfl _ rfl Tryd.underlying32 rfl (by rw [HYS.out.1]; rfl) rfl HB714.out ?_)
            | (go_at_call 20; refine (HRB.out w14 HN14.out).mono ?_; rintro e w15 ⟨rfl, hN15⟩; have HN15 := Lib.hid hN15; clear hN15)
            | ((with_reducible refine atOp ⟨some 18, .alloc _, _, _, _, _⟩ ?_); refine wpList_newvar (s := s) rfl rfl rfl _ _ rfl secInfo rfl rfl rfl HSO.out.1 ?_))
          obtain ⟨w16, hw16⟩ : ∃ w16 : World, w16 = w15.alloc (.cells (secA s) 35) := ⟨_, rfl⟩
          obtain ⟨b18, hb18⟩ : ∃ b18, b18 = w15.heap.size := ⟨_, rfl⟩
          have HB18 : Hid (Blk w16 b18 35 (secA s)) := Lib.hid (by rw [hw16, hb18]; exact Blk.new _ _ _)
          have HB1616 : Hid (Blk w16 b16 35 (secA s)) := Lib.hid (by rw [hw16]; exact (HN15.out.blk HB16.out).alloc _)
          have HN16 : Hid (New w7 w16) := Lib.hid (by rw [hw16]; exact New.al (HN14.out.tr HN15.out) _)
          rw [← hw16, ← hb18]
          clear hw16 hb18
          go_wp2_with (first
            | ((with_reducible refine atOp ⟨some 122, .load _ _, _, _, _, _⟩ ?_); refine wpList_load_any rfl _ rfl Tryd.underlying35 rfl (by rw [HSZ.out]; rfl) rfl HB1616.out ?_)
            | ((with_reducible refine atOp ⟨some 123, .load _ _, _, _, _, _⟩ ?_); refine wpList_load_any rfl _ rfl Tryd.underlying35 rfl (by rw [HSZ.out]; rfl) rfl HB18.out ?_)
            | (go_at_call 14; refine (HNER.out rc er HER.out _).mono ?_; rintro e w17 ⟨rfl, rfl⟩))
          go_roundw
          case rel => exact ⟨k + 1, by omega, by go_num, HN16⟩
          case measure => simp [intOf]; omega
        · have hkn2 : ¬ (k : Int) < (n : Int) := by omega
          go_wp2_with fail
          go_ret
          exact ⟨rfl, HNW7.out.tr HNr.out⟩
theorem reads_law {v0 : Value} {W : World} (o0 : ∃ (A : Option Addr) (n c : Nat) (L : List (List Int)), v0 = .slice A n c ∧ n ≤ maxLen ∧ L.length = n ∧ Rd (fun b => b < W.heap.size) W 64 A n (L.flatMap u8s) ∧ ∀ s ∈ L, SecOk s) (gen : Int) (wg : (Lit.int .u32 gen).wf = true)
    (hL : laidMetH Tryd.prog [("entrust/entrustref02.Constants", Rows.laid_entrust_entrustref02_Constants), ("entrust/entrustref02.Initials", Rows.laid_entrust_entrustref02_Initials), ("entrust/sha.constants", Rows.laid_entrust_sha_constants), ("entrust/sha.initials", Rows.laid_entrust_sha_initials)] W) :
    Calls Tryd.prog 3 #[v0, .int .u32 gen] W fun e w' => e = .returned (.bool true) ∧ Below W.heap.size W w' := by
  obtain ⟨A, n, c, L, rfl, h1, h2, h3, h4⟩ := o0
  have hg := bounds_u32 wg
  exact reads_walk A n c L gen (by omega) W h1 h2 h3 h4 (sha_both hL)
end Go.Proofs.YteeclfejgpgooaaDoor
