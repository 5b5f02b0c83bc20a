/- Texts of one proof, one behind the other: LjA, LjB, SwB, SwC, SwQ, SwR, SwS. No condition but each one's own. -/
import Derived.Test.YtpifnmlnhddgeaaGreatDoorVaultNilM23
import Derived.Test.YtpifnmlnhddgeaaGreatDoorVaultNilM29
import Derived.Test.YtpifnmlnhddgeaaGreatDoorVaultNilM2
import Derived.Test.YtpifnmlnhddgeaaGreatDoorVaultNilM19
import Derived.Test.YtpifnmlnhddgeaaGreatDoorVaultNilM21
import Derived.Test.YtpifnmlnhddgeaaGreatDoorVaultNilM10
import Derived.Test.YtpifnmlnhddgeaaGreatDoorVaultNilM28
namespace Go.Proofs.YtpifnmlnhddgeaaGreatDoor
set_option linter.unusedVariables false
set_option linter.unusedSimpArgs false
set_option linter.constructorNameAsVariable false
open Go.RowKit Go.Sort Go.Maps
attribute [local go_sem] Oper.semAt_some
theorem Dk.puts {B : Nat} {w w' : World} {base g bs bf : Nat} {v : Value} {p : DP} (h : Dk w base g bs bf v p) (hp : Puts B w w') (h1 : bs < B) (h2 : bf < B) : Dk w' base g bs bf v p :=
 have hF : Fr (fun j => B ≤ j) w w' := hp.fr (fun _ h => h)
 ⟨hp.blk h.blk, h.ms.fr hF (by omega), h.mw.fr hF (by omega), hp.own h.own, h.ne, h.lo, h.ok⟩
theorem DkOurs.is_cells {w : World} {base g bs bf B : Nat} {v : Value} {p : DP} (h : Dk w base g bs bf v p) (hg : g < B) (h1 : bs < B) (h2 : bf < B) : ∀ k o, B ≤ k → DkOurs g bs bf v k → w.heap[k]? = some o → o.isCells = true := by
 rintro k o hk (rfl | rfl | rfl | hs) ho
 · omega
 · omega
 · omega
 · obtain ⟨cs, fz, hc⟩ := own_isT' h.own hs
   rw [hc] at ho
   injection ho with ho
   rw [← ho]
   rfl
theorem Shut.fr {B : Nat} {W W' : World} (h : Shut B W W') : Fr (fun k => B ≤ k ∧ ∀ o, W.heap[k]? = some o → o.isCells = false) W W' :=
 ⟨h.below.os, h.below.tape, h.below.output, h.below.size, fun k hk hs => by
  by_cases hb : k < B
  · exact h.below.block k hb
  · obtain ⟨o, ho⟩ : ∃ o, W.heap[k]? = some o := ⟨_, Array.getElem?_eq_getElem hk⟩
    cases hc : o.isCells with
    | true => rw [h.cells k o ho hc, ho]
    | false => exact absurd ⟨by omega, fun o' ho' => by rw [ho] at ho'; injection ho' with e; rw [← e]; exact hc⟩ hs⟩
theorem DkTo.shut {B : Nat} {w W W' : World} {base g bs bf : Nat} {v v' : Value} {p : DP} (h : DkTo w base g bs bf v p W v') (hS : Shut B W W') (hB : w.heap.size ≤ B) (hg : g < B) (h1 : bs < B) (h2 : bf < B) : DkTo w base g bs bf v p W' v' :=
 ⟨h.dk.fr hS.fr (fun k hk ho => by
  obtain ⟨o, hko⟩ : ∃ o, W.heap[k]? = some o := ⟨_, Array.getElem?_eq_getElem (h.dk.ours k ho).2⟩
  have := DkOurs.is_cells h.dk hg h1 h2 k o hk.1 ho hko
  rw [hk.2 o hko] at this
  cases this), h.fr.trans' hS.fr (fun k hk ho => by have := ho.1; omega), h.own⟩
theorem writeN_bad {p : DP} {l : LG} {b : List Int} {k : Nat} (h : (writeN p l b k).2 ≠ 0) : ∀ j, writeN p l b (k + j) = writeN p l b k
 | 0 => rfl
 | j + 1 => by
  have ih := writeN_bad h j
  rw [← Nat.add_assoc]
  show (if (writeN p l b (k + j)).2 ≠ 0 then writeN p l b (k + j) else _) = _
  rw [ih, if_pos h]
theorem writeN_go {p : DP} {l : LG} {b : List Int} {k : Nat} (h : (writeN p l b k).2 = 0) : writeN p l b (k + 1) = ((writeN p l b k).1.doWrite ((l.first + l.used + k : Nat) : Int) (l.sec b k), (writeN p l b k).1.wcode ((l.first + l.used + k : Nat) : Int)) := by
 show (if (writeN p l b k).2 ≠ 0 then writeN p l b k else _) = _
 rw [if_neg (by rw [h]; simp)]
theorem DkTo.st {w W W' : World} {base g bs bf : Nat} {v v' : Value} {p : DP} (h : DkTo w base g bs bf v p W v') {b : Nat} (hF : Fr (fun k => k = b) W W') (hb : w.heap.size ≤ b) (hn : ¬ DkOurs g bs bf v' b) : DkTo w base g bs bf v p W' v' :=
 ⟨h.dk.fr hF (fun k hk => by rw [hk]; exact hn), h.fr.trans' hF (fun k hk ho => by omega), h.own⟩
theorem atOpIn {F : Fence} {n : Nat} {P : Program} {ops : Array Oper} {rest : List Oper} {a : Act} {w : World} {Q : Exit → Act → World → Prop} (o : Oper) (h : wpListIn F n P ops Q (o :: rest) a w) : wpListIn F n P ops Q (o :: rest) a w := h
structure WrI (w w3 : World) (base gl g bs bf : Nat) (v : Value) (p : DP) (l : LG) (b : List Int) (b2 b4 b5 b6 k : Nat) (W : World) : Prop where
 ok : (writeN p l b k).2 = 0
 dk : ∃ v', DkTo w base g bs bf v (writeN p l b k).1 W v' ∧ ∀ x, v'.ownBlock = some x → x < w.heap.size ∨ w3.heap.size ≤ x
 sz : w3.heap.size ≤ W.heap.size
 b2 : Blk W b2 235 #[.pointer (some ⟨gl, 0, none⟩)]
 b4 : Blk W b4 31 #[.nilIface]
 b5 : Blk W b5 3 #[.int .i64 ((l.used + k : Nat) : Int)]
 b6 : Blk W b6 3 #[.int .i64 (if k = 0 then 1 else 2)]
section
variable {w w3 : World} {base gl g bs bf : Nat} {v : Value} {p : DP} {l : LG} {b : List Int} {b2 b4 b5 b6 k : Nat}
theorem WrI.new {W W' : World} (h : WrI w w3 base gl g bs bf v p l b b2 b4 b5 b6 k W) (hN : New W W') : WrI w w3 base gl g bs bf v p l b b2 b4 b5 b6 k W' := by
 obtain ⟨v', h1, h2⟩ := h.dk
 exact ⟨h.ok, ⟨v', h1.new hN, h2⟩, Nat.le_trans h.sz hN.size, hN.blk h.b2, hN.blk h.b4, hN.blk h.b5, hN.blk h.b6⟩
theorem WrI.puts {W W' : World} (h : WrI w w3 base gl g bs bf v p l b b2 b4 b5 b6 k W) (hp : Puts w3.heap.size W W') (hz : w.heap.size ≤ w3.heap.size) (h1 : bs < w.heap.size) (h2 : bf < w.heap.size) : WrI w w3 base gl g bs bf v p l b b2 b4 b5 b6 k W' := by
 obtain ⟨v', h3, h4⟩ := h.dk
 have hF : Fr (fun j => w3.heap.size ≤ j) W W' := hp.fr (fun _ h => h)
 exact ⟨h.ok, ⟨v', ⟨h3.dk.puts hp (by omega) (by omega), h3.fr.trans' hF (fun k hk ho => by omega), h3.own⟩, h4⟩, Nat.le_trans h.sz hF.size, hp.blk h.b2, hp.blk h.b4, hp.blk h.b5, hp.blk h.b6⟩
end
structure WrE (w w3 : World) (base g bs bf : Nat) (v : Value) (r : DP × Int) (b4 : Nat) (W : World) : Prop where
 dk : ∃ v', DkTo w base g bs bf v r.1 W v' ∧ ∀ x, v'.ownBlock = some x → x < w.heap.size ∨ w3.heap.size ≤ x
 sz : w3.heap.size ≤ W.heap.size
 b4 : Blk W b4 31 #[errD r.2]
section
variable {w w3 : World} {base g bs bf : Nat} {v : Value} {r : DP × Int} {b4 : Nat}
theorem WrE.new {W W' : World} (h : WrE w w3 base g bs bf v r b4 W) (hN : New W W') : WrE w w3 base g bs bf v r b4 W' := by
 obtain ⟨v', h1, h2⟩ := h.dk
 exact ⟨⟨v', h1.new hN, h2⟩, Nat.le_trans h.sz hN.size, hN.blk h.b4⟩
theorem WrE.puts {W W' : World} (h : WrE w w3 base g bs bf v r b4 W) (hp : Puts w3.heap.size W W') (hz : w.heap.size ≤ w3.heap.size) (h1 : bs < w.heap.size) (h2 : bf < w.heap.size) : WrE w w3 base g bs bf v r b4 W' := by
 obtain ⟨v', h3, h4⟩ := h.dk
 have hF : Fr (fun j => w3.heap.size ≤ j) W W' := hp.fr (fun _ h => h)
 exact ⟨⟨v', ⟨h3.dk.puts hp (by omega) (by omega), h3.fr.trans' hF (fun k hk ho => by omega), h3.own⟩, h4⟩, Nat.le_trans h.sz hF.size, hp.blk h.b4⟩
end
theorem part_sec (l : LG) (b : List Int) (k : Nat) : pad64 (beL 4 l.gen ++ beL 4 (l.used + k) ++ beL 1 (if k = 0 then 1 else 2) ++ ((l.frame b).drop (55 * k)).take 55) = l.sec b k := by
 unfold LG.sec LG.raw LG.hdr
 congr 1
 congr 1
 congr 1
 split <;> rfl
set_option maxHeartbeats 4000000 in
set_option maxRecDepth 100000 in
theorem write_log {w : World} {base gl gd bs bf : Nat} {v : Value} {p : DP} {l : LG} (h : Lg w gl gd l p.size) (hD : Dk w base gd bs bf v p) (b : List Int) (hb : Byt b) (g o N c K : Nat) (hN : N = (l.frame b).length) (hc : N ≤ c) (hcm : c ≤ maxLen) (hN1 : N ≤ 1000000000) (hK : K = chN N 55) (hroom : l.used + K ≤ l.size)
    (hg : IsT 5 w g) (hR : ∀ j x, (u8s (l.frame b))[j]? = some x → w.cell? ⟨g, o + j, none⟩ = some x) :
    Calls Tryz.prog 277 #[.pointer (some ⟨gl, 0, none⟩), .slice (some ⟨g, o, none⟩) N c] w (WipeSays w base gd bs bf v (writeN p l b K)) := by
 have HLG := Lib.hid h
 have HD := Lib.hid hD
 have HB := Lib.hid hb
 have HNN := Lib.hid hN
 have HKK := Lib.hid hK
 have HCC : Hid (N ≤ c ∧ c ≤ maxLen ∧ N ≤ 1000000000) := Lib.hid ⟨hc, hcm, hN1⟩
 have HRM := Lib.hid hroom
 have HG := Lib.hid hg
 have HR := Lib.hid hR
 have c4 := fun o1 o2 => (New.al (New.al (New.refl w) o1) o2).cell_ h.c4
 have hu := h.ok.used
 clear h hD hb hN hK hc hcm hN1 hroom hg hR
 refine (callsIn_wide (n := 3)).1 ?_
 refine callsIn_of_wp_marks Tryz.func277 rfl trivial ?_ rfl
 refine wpIn_wide.2 ?_
 simp only [Tryz.ntmps277, List.size_toArray, List.length_cons, List.length_nil, Nat.reduceAdd, Nat.reduceSub, Array.replicate_succ, Array.replicate_zero, List.push_toArray, List.append_toArray, List.nil_append, List.cons_append]
 go_upto_region 2 with fail
 obtain ⟨w1, hw1⟩ : ∃ w1 : World, w1 = ((((w.alloc (.cells #[.pointer (some ⟨gl, 0, none⟩)] 235)).alloc (.cells #[.nilIface] 31)).alloc (.cells #[.int .i64 l.used] 3)).alloc (.cells #[.int .i64 1] 3)) := ⟨_, rfl⟩
 obtain ⟨b2, hb2⟩ : ∃ b2, b2 = w.heap.size := ⟨_, rfl⟩
 obtain ⟨b4, hb4⟩ : ∃ b4, b4 = w.heap.size + 1 := ⟨_, rfl⟩
 obtain ⟨b5, hb5⟩ : ∃ b5, b5 = w.heap.size + 1 + 1 := ⟨_, rfl⟩
 obtain ⟨b6, hb6⟩ : ∃ b6, b6 = w.heap.size + 1 + 1 + 1 := ⟨_, rfl⟩
 have HN1 : Hid (New w w1) := Lib.hid (by rw [hw1]; exact New.al (New.al (New.al (New.al (New.refl _) _) _) _) _)
 have HB2 : Hid (Blk w1 b2 235 #[.pointer (some ⟨gl, 0, none⟩)]) := Lib.hid (by rw [hw1, hb2]; exact (((Blk.new _ _ _).alloc _).alloc _).alloc _)
 have HB4 : Hid (Blk w1 b4 31 #[.nilIface]) := Lib.hid (by rw [hw1, hb4]; exact ((Blk.new' _ _ _ (by simp)).alloc _).alloc _)
 have HB5 : Hid (Blk w1 b5 3 #[.int .i64 ((l.used + 0 : Nat) : Int)]) := Lib.hid (by rw [hw1, hb5]; exact (Blk.new' _ _ _ (by simp)).alloc _)
 have HB6 : Hid (Blk w1 b6 3 #[.int .i64 (if (0 : Nat) = 0 then 1 else 2)]) := Lib.hid (by rw [hw1, hb6]; exact Blk.new' _ _ _ (by simp))
 have HZ : Hid (b2 = w.heap.size ∧ b4 = w.heap.size + 1 ∧ b5 = w.heap.size + 2 ∧ b6 = w.heap.size + 3 ∧ w1.heap.size = w.heap.size + 4) := Lib.hid ⟨hb2, hb4, hb5, hb6, by rw [hw1]; simp⟩
 rw [← hw1, ← hb6, ← hb5, ← hb4, ← hb2]
 clear hw1 hb2 hb4 hb5 hb6 c4
 go_wp2_with fail
 refine (chunk_any (some ⟨g, o, none⟩) N c 55 (by decide) (by decide) w1).mono ?_
 rintro e w3 ⟨rfl, hw3⟩
 have HN3 : Hid (New w1 w3) := Lib.hid (by rw [hw3]; exact New.al (New.al (New.refl _) _) _)
 have hgv := chunk1_givesQ g o N c 55 w1.heap.size (w1.heap.size + 1) w3 (by rw [hw3]; exact (Blk.new _ _ _).alloc _) (by rw [hw3]; exact Blk.new' _ _ _ (by simp)) (by decide) (by decide) HCC.out.2.2 HCC.out.1 HCC.out.2.1
 have hz3 : w3.heap.size = w1.heap.size + 2 := by rw [hw3]; simp
 have HGV := Lib.hid hgv
 have HZ3 := Lib.hid hz3
 have HLT : Hid (gd < w.heap.size ∧ bs < w.heap.size ∧ bf < w.heap.size ∧ gl < w.heap.size ∧ g < w.heap.size) := Lib.hid ⟨HD.out.blk.lt, HD.out.ms.lt, HD.out.mw.lt, HLG.out.blk.lt, by obtain ⟨cs, fz, hc⟩ := HG.out; exact (Array.getElem?_eq_some_iff.1 hc).1⟩
 have HW3 : Hid (WrI w w3 base gl gd bs bf v p l b b2 b4 b5 b6 0 w3) := Lib.hid
  ⟨rfl, ⟨v, DkTo.same HD.out (HN1.out.tr HN3.out), fun x hx => .inl (HD.out.ours x (.inr (.inr (.inr hx)))).2⟩, Nat.le_refl _, HN3.out.blk HB2.out, HN3.out.blk HB4.out, HN3.out.blk HB5.out, HN3.out.blk HB6.out⟩
 have HLE : Hid (w.heap.size ≤ w3.heap.size) := Lib.hid (by have := HZ.out; omega)
 clear hw3 hgv hz3 HB2 HB4 HB5 HB6
 go_wp2_with fail
 refine wp_rangeQ rfl (enters_of Tryz.func266 (by kernel_rfl) rfl) (fun k : Nat => #[chV g o N 55 k]) (fun _ => rfl) HGV.out (fun x W W' hg hp => trivial) (fun h k => h.tr k) (fun W W' hp => KpC.puts hp (by have := HZ3.out; omega) (by have := HZ3.out; omega))
  (fun pre W => WrI w w3 base gl gd bs bf v p l b b2 b4 b5 b6 pre.length W) (fun s A B h hN => h.new hN) (fun s A B h hp => h.puts hp HLE.out HLT.out.2.1 HLT.out.2.2.1) HW3.out
  (fun W => ∃ k, k < K ∧ (writeN p l b (k + 1)).2 ≠ 0 ∧ WrE w w3 base gd bs bf v (writeN p l b (k + 1)) b4 W) (fun A B ⟨k, h1, h2, h3⟩ hN => ⟨k, h1, h2, h3.new hN⟩) (fun A B ⟨k, h1, h2, h3⟩ hp => ⟨k, h1, h2, h3.puts hp HLE.out HLT.out.2.1 HLT.out.2.2.1⟩) ?a1 ?assign ?body ?done ?ret
 case assign =>
  intro l x W K hK
  gi_wp2
  exact hK
 case body =>
  rintro lp pre k W hpl hI hG rfl
  obtain ⟨k, hk⟩ : ∃ k, k = pre.length := ⟨_, rfl⟩
  rw [← hk] at hpl hI ⊢
  have HKP : Hid (pre.length = k) := Lib.hid hk.symm
  have HKK2 : Hid (k < K ∧ k * 55 < N) := Lib.hid ⟨by rw [HKK.out]; exact hpl, (chN_lt (by decide)).1 hpl⟩
  obtain ⟨v', hTo, hOw⟩ := hI.dk
  have HI := Lib.hid hI
  have HTO := Lib.hid hTo
  have HOW := Lib.hid hOw
  obtain ⟨m, hm⟩ : ∃ m, m = min 55 (N - k * 55) := ⟨_, rfl⟩
  have hcv : chV g o N 55 k = .slice (some ⟨g, o + k * 55, none⟩) m m := by unfold chV; rw [← hm]
  rw [hcv]
  obtain ⟨pt, hpt⟩ : ∃ pt, pt = ((l.frame b).drop (55 * k)).take 55 := ⟨_, rfl⟩
  have HPT : Hid (pt.length = m ∧ m ≤ 55 ∧ Byt pt) := Lib.hid ⟨by rw [hpt, List.length_take, List.length_drop, ← HNN.out, hm, Nat.mul_comm], by omega, by
   rw [hpt]
   intro x hx
   exact l.frame_byt HB.out x (List.mem_of_mem_drop (List.mem_of_mem_take hx))⟩
  have HRP : Hid (Rd (fun _ => True) W 1 (some ⟨g, o + k * 55, none⟩) m (u8s pt)) := Lib.hid ⟨by rw [u8s_len, HPT.out.1, Nat.mul_one], fun _ => ⟨_, rfl, trivial, by have h1 := hTo.fr.size; have h2 := HLT.out; show g < _; omega, fun j u hu => by
   have hj := (List.getElem?_eq_some_iff.1 hu).1
   rw [u8s_len, HPT.out.1] at hj
   have e : (⟨g, o + k * 55, none⟩ : Addr).add j = ⟨g, o + (k * 55 + j), none⟩ := by
    unfold Addr.add
    by_cases hj0 : j = 0 <;> simp [hj0, Nat.add_assoc]
   rw [e]
   refine hTo.fr.cell_some (HR.out _ _ ?_) (dk_notT HD.out (by decide) (by decide) g · HG.out)
   rw [← hu, hpt]
   unfold u8s
   rw [List.getElem?_map, List.getElem?_map, List.getElem?_take_of_lt (by omega), List.getElem?_drop, Nat.mul_comm]⟩⟩
  obtain ⟨kd, hkd⟩ : ∃ kd : Nat, kd = if k = 0 then 1 else 2 := ⟨_, rfl⟩
  obtain ⟨pl, hpl2⟩ : ∃ pl, pl = l.used + k := ⟨_, rfl⟩
  obtain ⟨SL, hSL⟩ : ∃ SL, SL = l.sec b k := ⟨_, rfl⟩
  have HSO : Hid (SecOk SL) := Lib.hid (by rw [hSL]; exact LG.sec_ok l HB.out k)
  have HSL : Hid (SL = l.sec b k) := Lib.hid hSL
  have HSE : Hid (pad64 (beL 4 l.gen ++ beL 4 pl ++ beL 1 kd ++ pt) = SL) := Lib.hid (by rw [hSL, hpl2, hkd, hpt]; exact part_sec l b k)
  have hI5 : Blk W b5 3 #[.int .i64 (pl : Int)] := by rw [hpl2]; exact hI.b5
  have hI6 : Blk W b6 3 #[.int .i64 (kd : Int)] := by
   have e : ((kd : Nat) : Int) = if k = 0 then 1 else 2 := by rw [hkd]; split <;> rfl
   rw [e]
   exact hI.b6
  have HI5 := Lib.hid hI5
  have HI6x := Lib.hid hI6
  have c2 := hI.b2.cell 0
  have c5 := hI5.cell 0
  have c6 := hI6.cell 0
  have HPL : Hid (pl = l.used + k ∧ kd < 256 ∧ pl < 4294967296) := Lib.hid ⟨hpl2, by rw [hkd]; split <;> decide, by have h1 := HRM.out; have h2 := HKK2.out; have h3 := HLG.out.ok.fit; have h4 := HD.out.ok.s2; omega⟩
  have HLGW : Hid (Lg W gl gd l p.size) := Lib.hid (HLG.out.fr hTo.fr (lg_apart HD.out HLG.out))
  clear hTo hOw hI hcv hk hpl hm hpt hkd hpl2 hSL hI5 hI6 hG
  gi_wp2
  refine ⟨trivial, ?_⟩
  refine (CallsIn.inRound lp (callsIn_wide.2 (sector_any HLGW.out pl kd HPL.out.2.2 HPL.out.2.1 (some ⟨g, o + k * 55, none⟩) m m pt HRP.out HPT.out.2.2 HPT.out.2.1))).mono ?_
  rintro e W4 ⟨rfl, hN4⟩
  rw [HSE.out]
  obtain ⟨SA, hSA⟩ : ∃ SA, SA = secA SL := ⟨_, rfl⟩
  have HSA : Hid (SA = secA SL ∧ SA.size = 64 ∧ SA.all (·.oneCell') = true) := Lib.hid (by rw [hSA]; exact ⟨rfl, by rw [secA_size, HSO.out.1], secA_one _⟩)
  rw [← hSA]
  have HN4 : Hid (New W W4) := Lib.hid hN4
  clear hSA hN4 c2 c5 c6
  gi_wp2_with (first
   | ((with_reducible refine atOpIn ⟨some 8, .alloc _, _, _, _, _⟩ ?_); refine wpListIn_alloc_row rfl rfl secInfo ?_; intro b8 W5 hb8 hB8 hN5; have HB8 := Lib.hid hB8; have HN5 := Lib.hid hN5; have HZ8 := Lib.hid hb8; clear hb8 hB8 hN5)
   | ((with_reducible refine atOpIn ⟨none, .store 155 _ _, _, _, _, _⟩ ?_); refine wpListIn_store_any rfl (.tmp 8) (.tmp 24) rfl (by rw [HSA.out.2.1]; rfl) rfl rfl HB8.out (by rw [HSA.out.2.1]; rfl) HSA.out.2.2 ?_; intro W6 hB8 hF6; have HB86 := Lib.hid hB8; have HF6 := Lib.hid hF6; clear hB8 hF6))
  have HN6 : Hid (New W W6) := Lib.hid ((HN4.out.tr HN5.out).fr HF6.out (fun k hk => by have := HZ8.out; have := HN4.out.size; omega))
  have HTO6 : Hid (DkTo w base gd bs bf v (writeN p l b k).1 W6 v') := Lib.hid (HTO.out.new HN6.out)
  have HI6 : Hid (WrI w w3 base gl gd bs bf v p l b b2 b4 b5 b6 k W6) := Lib.hid (HI.out.new HN6.out)
  have HLG6 : Hid (Lg W6 gl gd l p.size) := Lib.hid (HLGW.out.new HN6.out)
  have HI56 : Hid (Blk W6 b5 3 #[.int .i64 (pl : Int)]) := Lib.hid (HN6.out.blk HI5.out)
  have HZW : Hid (w3.heap.size ≤ W.heap.size) := Lib.hid HI.out.sz
  have HZ88 : Hid (w3.heap.size ≤ b8) := Lib.hid (by have := HZ8.out; have := HN4.out.size; have := HZW.out; omega)
  obtain ⟨fs, hfs⟩ : ∃ fs, fs = l.first := ⟨_, rfl⟩
  obtain ⟨pa, hpa⟩ : ∃ pa : Int, pa = ((l.first + l.used + k : Nat) : Int) := ⟨_, rfl⟩
  have hpe : (fs : Int) + (pl : Int) = pa := by rw [hfs, hpa, HPL.out.1]; omega
  have hpw : IntKind.i64.wrap ((fs : Int) + (pl : Int)) = pa := by
   rw [IntWalk.i64_in _ (by have h1 := HRM.out; have h2 := HKK2.out; have h3 := HLG.out.ok.fit; have h4 := HD.out.ok.s2; have h5 := HPL.out.1; omega)]
   exact hpe
  have q2 : ∀ p' : HW (fun W' => Blk W' b2 235 #[.pointer (some ⟨gl, 0, none⟩)] ∧ Blk W' b5 3 #[.int .i64 (pl : Int)] ∧ Blk W' b8 155 SA ∧ Lg W' gl gd l p.size), p'.w.cell? ⟨b2, 0, none⟩ = some (.pointer (some ⟨gl, 0, none⟩)) := fun p' => p'.h.1.cell 0
  have q5 : ∀ p' : HW (fun W' => Blk W' b2 235 #[.pointer (some ⟨gl, 0, none⟩)] ∧ Blk W' b5 3 #[.int .i64 (pl : Int)] ∧ Blk W' b8 155 SA ∧ Lg W' gl gd l p.size), p'.w.cell? ⟨b5, 0, none⟩ = some (.int .i64 (pl : Int)) := fun p' => p'.h.2.1.cell 0
  have q0 : ∀ p' : HW (fun W' => Blk W' b2 235 #[.pointer (some ⟨gl, 0, none⟩)] ∧ Blk W' b5 3 #[.int .i64 (pl : Int)] ∧ Blk W' b8 155 SA ∧ Lg W' gl gd l p.size), p'.w.cell? ⟨gl, 0, none⟩ = some (.pointer (some ⟨gd, 0, none⟩)) := fun p' => p'.h.2.2.2.c0
  have q1 : ∀ p' : HW (fun W' => Blk W' b2 235 #[.pointer (some ⟨gl, 0, none⟩)] ∧ Blk W' b5 3 #[.int .i64 (pl : Int)] ∧ Blk W' b8 155 SA ∧ Lg W' gl gd l p.size), p'.w.cell? ⟨gl, 1, none⟩ = some (.int .i64 (fs : Int)) := fun p' => by rw [hfs]; exact p'.h.2.2.2.c1
  have HPA := Lib.hid hpa
  have HB26 : Hid (Blk W6 b2 235 #[.pointer (some ⟨gl, 0, none⟩)]) := Lib.hid HI6.out.b2
  clear hfs hpa hpe
  refine wpIn_region_mixH lp (fun W' => Blk W' b2 235 #[.pointer (some ⟨gl, 0, none⟩)] ∧ Blk W' b5 3 #[.int .i64 (pl : Int)] ∧ Blk W' b8 155 SA ∧ Lg W' gl gd l p.size) [(true, 0), (true, 1), (true, 2), (true, 3), (true, 4), (true, 5), (true, 6), (true, 7), (true, 8), (true, 9), (true, 10), (false, 11), (true, 12)] (by kernel_rfl) (by kernel_rfl) ⟨(New.dr (New.refl W6)).blk HB26.out, (New.dr (New.refl W6)).blk HI56.out, (New.dr (New.refl W6)).blk HB86.out, HLG6.out.new (New.dr (New.refl W6))⟩ (fun hne => ?_)
  iterate 10 (refine mix_take (o := ⟨_, _, _, _, _, _⟩) rfl (fun K hK => ?_); go_simp; refine hK _ ?_; clear hK K)
  refine mix_take_row (o := ⟨_, _, _, _, _, _⟩) (cs := SA.toList) rfl rfl (.tmp 8) rfl rfl (fun W' h => h.2.2.1.rangeOf) Tryz.underlying155 rfl (by rw [Array.length_toList, HSA.out.2.1]; rfl) ?_
  simp only [Act.put, List.setIfInBounds_toArray, List.set_cons_zero, List.set_cons_succ]
  refine mix_act (o := ⟨_, _, _, _, _, _⟩) rfl (fun K hK => ?_) (.inl rfl)
  go_simp
  rw [HSA.out.1]
  refine (write_all (HTO6.out.new (New.dr (New.refl W6))).dk pa HSO.out).mono ?_
  rintro e W7 ⟨rfl, v7, hD7, hF7, hO7⟩
  rw [← HSA.out.1]
  have hTo7 : DkTo W6.drew base gd bs bf v' ((writeN p l b k).1.doWrite pa SL) W7 v7 := ⟨hD7, hF7, hO7⟩
  have hne2 : ¬ DkOurs gd bs bf v' b2 := dk_notBlk HTO6.out.dk HB26.out (fun e => by have := HZ.out; have := HLT.out; omega) (by decide)
  have hne8 : ¬ DkOurs gd bs bf v' b8 := dk_notBlk HTO6.out.dk HB86.out (fun e => by have := HZ88.out; have := HLT.out; have := HLE.out; omega) (by decide)
  have hbox : ∀ x, w.heap.size ≤ x → x < w3.heap.size → ¬ DkOurs gd bs bf v' x := fun x h1 h2 => by
   rintro (ho | ho | ho | ho)
   · have := HLT.out; omega
   · have := HLT.out; omega
   · have := HLT.out; omega
   · rcases HOW.out x ho with h3 | h3 <;> omega
  have hne5 := hbox b5 (by have := HZ.out; omega) (by have := HZ.out; have := HZ3.out; omega)
  have hnel : ¬ DkOurs gd bs bf v' gl := lg_apart HTO6.out.dk (n := p.size) (by exact HLG6.out)
  have hS7 : Blk W7 b2 235 #[.pointer (some ⟨gl, 0, none⟩)] ∧ Blk W7 b5 3 #[.int .i64 (pl : Int)] ∧ Blk W7 b8 155 SA ∧ Lg W7 gl gd l p.size :=
   ⟨((New.dr (New.refl W6)).blk HB26.out).fr hF7 hne2, ((New.dr (New.refl W6)).blk HI56.out).fr hF7 hne5, ((New.dr (New.refl W6)).blk HB86.out).fr hF7 hne8, (HLG6.out.new (New.dr (New.refl W6))).fr hF7 hnel⟩
  have HS7 := Lib.hid hS7
  have HBX := Lib.hid hbox
  have HF67 : Hid (Fr (DkOurs gd bs bf v') W6 W7) := Lib.hid (((New.dr (New.refl W6)).toFr _).trans hF7)
  have HTO7 : Hid (DkTo w base gd bs bf v ((writeN p l b k).1.doWrite pa SL) W7 v7 ∧ ∀ x, v7.ownBlock = some x → x < w.heap.size ∨ w3.heap.size ≤ x) := Lib.hid ⟨(HTO6.out.new (New.dr (New.refl W6))).tr hTo7, fun x hx => by
   rcases (hO7 x hx).2 with h1 | h1
   · exact HOW.out x h1
   · right
     have h2 := HN6.out.size
     have h3 := (New.dr (New.refl W6)).size
     have h4 := HZW.out
     omega⟩
  clear hD7 hF7 hO7 hTo7 hne2 hne8 hbox hne5 hnel hS7
  go_simp
  refine hK.out _ _ (fun _ => HS7.out) ?_
  clear hK K
  iterate 1 (refine mix_take (o := ⟨_, _, _, _, _, _⟩) rfl (fun K hK => ?_); go_simp; refine hK _ ?_; clear hK K)
  clear q0 q1 q2 q5 hpw hne
  refine mix_doneIn ?_
  obtain ⟨cd, hcd⟩ : ∃ cd, cd = (writeN p l b k).1.wcode pa := ⟨_, rfl⟩
  rw [← hcd]
  have HGO : Hid (writeN p l b (k + 1) = ((writeN p l b k).1.doWrite pa SL, cd)) := Lib.hid (by rw [writeN_go HI.out.ok, hcd, HPA.out, HSL.out])
  have HT7 : Hid (∃ v', DkTo w base gd bs bf v (writeN p l b (k + 1)).1 W7 v' ∧ ∀ x, v'.ownBlock = some x → x < w.heap.size ∨ w3.heap.size ≤ x) := Lib.hid (by rw [HGO.out]; exact ⟨v7, HTO7.out⟩)
  have HSZ7 : Hid (w3.heap.size ≤ W7.heap.size ∧ W.heap.size ≤ W7.heap.size) := Lib.hid (by have h1 := HF67.out.size; have h2 := HN6.out.size; have h3 := HZW.out; omega)
  have HB47 : Hid (Blk W7 b4 31 #[.nilIface]) := Lib.hid (HI6.out.b4.fr HF67.out (HBX.out b4 (by have := HZ.out; omega) (by have := HZ.out; have := HZ3.out; omega)))
  have HB67 : Hid (Blk W7 b6 3 #[.int .i64 (kd : Int)]) := Lib.hid ((HN6.out.blk HI6x.out).fr HF67.out (HBX.out b6 (by have := HZ.out; omega) (by have := HZ.out; have := HZ3.out; omega)))
  have HKE : Hid (Kept w3.heap.size W W7) := Lib.hid ((Kept.new HN6.out).tr (Kept.fr HF67.out (DkOurs.is_cells HTO6.out.dk (by have := HLT.out; have := HLE.out; omega) (by have := HLT.out; have := HLE.out; omega) (by have := HLT.out; have := HLE.out; omega))))
  have HKC : Hid (KpC w1.heap.size (w1.heap.size + 1) W W7) := Lib.hid (KpC.tr (KpC.fr (HN6.out.toFr NoB) ⟨by have := HZ3.out; have := HZW.out; omega, fun x => x⟩ ⟨by have := HZ3.out; have := HZW.out; omega, fun x => x⟩) (KpC.fr HF67.out
   ⟨by have := HZ3.out; have := HZW.out; have := HN6.out.size; omega, HBX.out _ (by have := HZ.out; omega) (by have := HZ3.out; omega)⟩ ⟨by have := HZ3.out; have := HZW.out; have := HN6.out.size; omega, HBX.out _ (by have := HZ.out; omega) (by have := HZ3.out; omega)⟩))
  have c5 : W7.cell? ⟨b5, 0, none⟩ = some (.int .i64 (pl : Int)) := HS7.out.2.1.cell 0
  have c6 : W7.cell? ⟨b6, 0, none⟩ = some (.int .i64 (kd : Int)) := HB67.out.cell 0
  have c4 : W7.cell? ⟨b4, 0, none⟩ = some .nilIface := HB47.out.cell 0
  have h65 : ¬ b6 = b5 := by have := HZ.out; omega
  have f5 := HS7.out.2.1.frozen 0
  have f6 := HB67.out.frozen 0
  have f4 := HB47.out.frozen 0
  have HCD := Lib.hid hcd
  clear hcd HTO6 HN4 HN5 HF6 HI6 HLG6 HI56 HB86 HB8
  by_cases h0 : cd = 0
  · rw [h0, errD_0]
    have HGZ : Hid ((writeN p l b (k + 1)).2 = 0) := Lib.hid (by rw [HGO.out]; exact h0)
    have e1 : IntKind.i64.wrap ((pl : Int) + 1) = ((pl + 1 : Nat) : Int) := by rw [IntWalk.i64_in _ (by have := HPL.out; omega)]; omega
    clear h0
    gi_wp2
    obtain ⟨W8, hW8⟩ : ∃ W8 : World, W8 = W7.setCell ⟨b5, 0, none⟩ (.int .i64 ((pl : Int) + 1)) := ⟨_, rfl⟩
    obtain ⟨W9, hW9⟩ : ∃ W9 : World, W9 = W8.setCell ⟨b6, 0, none⟩ (.int .i64 2) := ⟨_, rfl⟩
    rw [← hW8, ← hW9]
    have hF8 : Fr (fun y => y = b5) W7 W8 := by rw [hW8]; exact (Fr.refl (fun y => y = b5) W7).setCell (p := ⟨b5, 0, none⟩) (fun _ => rfl) _
    have hF9 : Fr (fun y => y = b6) W8 W9 := by rw [hW9]; exact (Fr.refl (fun y => y = b6) W8).setCell (p := ⟨b6, 0, none⟩) (fun _ => rfl) _
    have hB58 : Blk W8 b5 3 #[.int .i64 ((pl : Int) + 1)] := by rw [hW8]; exact HS7.out.2.1.set 0 _
    have hB68 : Blk W8 b6 3 #[.int .i64 (kd : Int)] := HB67.out.fr hF8 h65
    have hB69 : Blk W9 b6 3 #[.int .i64 2] := by rw [hW9]; exact hB68.set 0 _
    have hz := HZ.out
    have hz3 := HZ3.out
    have hlt := HLT.out
    have hle := HLE.out
    have hzw := HZW.out
    have hs7 := HSZ7.out
    have hnb : ∀ x, w.heap.size ≤ x → x < w3.heap.size → ∀ v'' W', DkTo w base gd bs bf v (writeN p l b (k + 1)).1 W' v'' → (∀ x, v''.ownBlock = some x → x < w.heap.size ∨ w3.heap.size ≤ x) → ¬ DkOurs gd bs bf v'' x := fun x h1 h2 v'' W' _ hO => by
     rintro (ho | ho | ho | ho)
     · omega
     · omega
     · omega
     · rcases hO x ho with h3 | h3 <;> omega
    obtain ⟨v7', hT7, hO7⟩ := HT7.out
    have hT8 := hT7.st hF8 (by omega) (hnb b5 (by omega) (by omega) _ _ hT7 hO7)
    have hT9 := hT8.st hF9 (by omega) (hnb b6 (by omega) (by omega) _ _ hT8 hO7)
    refine ⟨(HKE.out.tr (Kept.fr hF8 (fun k' o' hB hs => by have hs' : k' = b5 := hs; omega))).tr (Kept.fr hF9 (fun k' o' hB hs => by have hs' : k' = b6 := hs; omega)), (HKC.out.tr (KpC.fr hF8 ⟨by omega, fun hs => by have hs' : w1.heap.size = b5 := hs; omega⟩ ⟨by omega, fun hs => by have hs' : w1.heap.size + 1 = b5 := hs; omega⟩)).tr (KpC.fr hF9 ⟨by have := hF8.size; omega, fun hs => by have hs' : w1.heap.size = b6 := hs; omega⟩ ⟨by have := hF8.size; omega, fun hs => by have hs' : w1.heap.size + 1 = b6 := hs; omega⟩), ?_⟩
    rw [HKP.out]
    have e5 : ((l.used + (k + 1) : Nat) : Int) = (pl : Int) + 1 := by have := HPL.out.1; omega
    refine ⟨HGZ.out, ⟨v7', hT9, hO7⟩, by have := hF8.size; have := hF9.size; omega, (HS7.out.1.fr hF8 (fun hs => by have hs' : b2 = b5 := hs; omega)).fr hF9 (fun hs => by have hs' : b2 = b6 := hs; omega), (HB47.out.fr hF8 (fun hs => by have hs' : b4 = b5 := hs; omega)).fr hF9 (fun hs => by have hs' : b4 = b6 := hs; omega), ?_, ?_⟩
    · rw [e5]; exact hB58.fr hF9 (fun hs => h65 (by have hs' : b5 = b6 := hs; omega))
    · rw [if_neg (by omega)]; exact hB69
  · have hE := errD_n h0
    rw [hE]
    have HE := Lib.hid hE
    have HGZ : Hid ((writeN p l b (k + 1)).2 ≠ 0) := Lib.hid (by rw [HGO.out]; exact h0)
    clear hE h0
    gi_wp2
    obtain ⟨W8, hW8⟩ : ∃ W8 : World, W8 = W7.setCell ⟨b4, 0, none⟩ (.iface 99 (.int .i64 cd)) := ⟨_, rfl⟩
    rw [← hW8]
    have hF8 : Fr (fun y => y = b4) W7 W8 := by rw [hW8]; exact (Fr.refl (fun y => y = b4) W7).setCell (p := ⟨b4, 0, none⟩) (fun _ => rfl) _
    have hB48 : Blk W8 b4 31 #[.iface 99 (.int .i64 cd)] := by rw [hW8]; exact HB47.out.set 0 _
    have hz := HZ.out
    have hz3 := HZ3.out
    have hlt := HLT.out
    have hle := HLE.out
    have hs7 := HSZ7.out
    obtain ⟨v7', hT7, hO7⟩ := HT7.out
    have hT8 := hT7.st hF8 (by omega) (by
     rintro (ho | ho | ho | ho)
     · omega
     · omega
     · omega
     · rcases hO7 b4 ho with h3 | h3 <;> omega)
    exact ⟨HKE.out.tr (Kept.fr hF8 (fun k' o' hB hs => by have hs' : k' = b4 := hs; omega)), k, HKK2.out.1, HGZ.out, ⟨v7', hT8, hO7⟩, by have := hF8.size; omega, by rw [HGO.out]; show Blk W8 b4 31 #[errD cd]; rw [HE.out]; exact hB48⟩
 case done =>
  rintro D fs W hD hfs hI hDm
  subst hfs
  rw [List.length_range] at hI
  rw [← HKK.out] at hI
  have HDM := Lib.hid hDm
  have HI := Lib.hid hI
  have HDD : Hid (w3.heap.size ≤ D) := Lib.hid hD
  have c4 : W.cell? ⟨b4, 0, none⟩ = some .nilIface := hI.b4.cell 0
  have f4 := hI.b4.frozen 0
  clear hI hDm hD
  dsimp only
  go_wp2_with fail
  obtain ⟨W8, hW8⟩ : ∃ W8 : World, W8 = W.setCell ⟨b4, 0, none⟩ .nilIface := ⟨_, rfl⟩
  rw [← hW8]
  have hF8 : Fr (fun y => y = b4) W W8 := by rw [hW8]; exact (Fr.refl (fun y => y = b4) W).setCell (p := ⟨b4, 0, none⟩) (fun _ => rfl) _
  have hB48 : Blk W8 b4 31 #[.nilIface] := by rw [hW8]; exact HI.out.b4.set 0 _
  have hz := HZ.out
  have hz3 := HZ3.out
  have hlt := HLT.out
  have hle := HLE.out
  have hszW := HI.out.sz
  obtain ⟨v7', hT7, hO7⟩ := HI.out.dk
  have hT8 := hT7.st hF8 (by omega) (by
   rintro (ho | ho | ho | ho)
   · omega
   · omega
   · omega
   · rcases hO7 b4 ho with h3 | h3 <;> omega)
  refine leaves_marks [D] _ (((Marks.cons (Marks.nil w3.heap.size W) (fun _ h => by cases h) HDD.out HDM.out)).fr hF8 (fun D' hD' => ?_)) (fun W' hS => ⟨.nilIface, ?_, by rw [HI.out.ok, errD_0], v7', hT8.shut hS (by omega) (by omega) (by omega) (by omega)⟩)
  · have hD'' : D' = b4 := hD'
    subst hD''
    exact not_def_blk HI.out.b4
  · have hc : W'.cell? ⟨b4, 0, none⟩ = some .nilIface := by
     have h1 : W'.heap[b4]? = _ := hS.cells b4 _ hB48 rfl
     exact (show Blk W' b4 31 #[.nilIface] from h1).cell 0
    simp [results, Tryz.results277, go_sem, hc]
 case ret =>
  rintro D W hD ⟨k, hk, hk0, hI⟩ hDm
  have hz := HZ.out
  have hz3 := HZ3.out
  have hlt := HLT.out
  have hle := HLE.out
  obtain ⟨v7', hT7, hO7⟩ := hI.dk
  have he : writeN p l b K = writeN p l b (k + 1) := by
   have := writeN_bad hk0 (K - (k + 1))
   rwa [show k + 1 + (K - (k + 1)) = K by omega] at this
  refine leaves_marks [D] _ (Marks.cons (Marks.nil w3.heap.size W) (fun _ h => by cases h) hD hDm) (fun W' hS => ⟨errD (writeN p l b K).2, ?_, rfl, v7', by rw [he]; exact hT7.shut hS (by omega) (by omega) (by omega) (by omega)⟩)
  have hc : W'.cell? ⟨b4, 0, none⟩ = some (errD (writeN p l b K).2) := by
   have h1 : W'.heap[b4]? = _ := hS.cells b4 _ hI.b4 rfl
   rw [he]
   exact (show Blk W' b4 31 #[errD (writeN p l b (k + 1)).2] from h1).cell 0
  simp [results, Tryz.results277, go_sem, hc]
end Go.Proofs.YtpifnmlnhddgeaaGreatDoor
namespace Go.Proofs.YtpifnmlnhddgeaaGreatDoor
set_option linter.unusedVariables false
set_option linter.unusedSimpArgs false
set_option linter.constructorNameAsVariable false
open Go.RowKit Go.Sort Go.Maps
structure LgTo (w : World) (base gl gd bs bf : Nat) (v : Value) (p : DP) (l : LG) (w' : World) (v' : Value) : Prop where
 dk : Dk w' base gd bs bf v' p
 lg : Lg w' gl gd l p.size
 fr : Fr (fun k => k = gl ∨ DkOurs gd bs bf v k) w w'
 own : ∀ k, v'.ownBlock = some k → base ≤ k ∧ (v.ownBlock = some k ∨ w.heap.size ≤ k)
def AppSays (w : World) (base gl gd bs bf : Nat) (v : Value) (r : DP × LG × Int) (e : Ending) (w' : World) : Prop := e = .returned (errD r.2.2) ∧ ∃ v', LgTo w base gl gd bs bf v r.1 r.2.1 w' v'
theorem blk_rd0 {w : World} {g T n : Nat} {s : List Int} (hb : Blk w g T (secA s)) (h : s.length = n) : Rd (fun _ => True) w 1 (some ⟨g, 0, none⟩) n (u8s s) :=
 ⟨by rw [u8s_len, h, Nat.mul_one], fun _ => ⟨_, rfl, trivial, hb.lt, fun j u hu => by
  have e : (⟨g, 0, none⟩ : Addr).add j = ⟨g, j, none⟩ := by
   unfold Addr.add
   by_cases hj0 : j = 0 <;> simp [hj0]
  rw [e, hb.cell]
  unfold secA
  rw [List.getElem?_toArray, hu]⟩⟩
theorem writeN_size (p : DP) (l : LG) (b : List Int) : ∀ k, (writeN p l b k).1.size = p.size
 | 0 => rfl
 | k + 1 => by
  have ih := writeN_size p l b k
  by_cases h : (writeN p l b k).2 = 0
  · rw [writeN_go h]
    exact (DP.doWrite_size _ _ _).trans ih
  · rw [writeN_bad h 1]; exact ih
section
variable {w : World} {base gl gd bs bf : Nat} {v : Value} {p : DP} {l : LG}
theorem LgTo.same (h : Lg w gl gd l p.size) (hD : Dk w base gd bs bf v p) {w' : World} (hN : New w w') : LgTo w base gl gd bs bf v p l w' v := ⟨hD.new hN, h.new hN, hN.toFr _, fun k hk => ⟨(hD.ours k (.inr (.inr (.inr hk)))).1, .inl hk⟩⟩
set_option maxHeartbeats 3000000
set_option maxRecDepth 100000
theorem app_bad (h : Lg w gl gd l p.size) (hD : Dk w base gd bs bf v p) (A : Option Addr) (n c : Nat) (hn : n ≤ maxLen) (hb : secN n = 0 ∨ l.broken = true ∨ l.size - l.used < secN n) :
    Calls Tryz.prog 214 #[.pointer (some ⟨gl, 0, none⟩), .slice A n c] w fun e w' => e = .returned (errD (if secN n = 0 then 2 else if l.broken = true then 10 else 8)) ∧ New w w' := by
 have hs := sectors_any (n : Int) w
 rw [secs_N] at hs
 obtain ⟨sn, hsn⟩ : ∃ sn, sn = secN n := ⟨_, rfl⟩
 rw [← hsn] at hs hb ⊢
 have hsle := secN_le n
 rw [← hsn] at hsle
 have HS := Lib.hid hs
 have c2 := h.c2
 have c4 := h.c4
 have cb := h.cb
 have hu := h.ok.used
 have hfit := h.ok.fit
 have hps := hD.ok.s2
 obtain ⟨sz, hsz⟩ : ∃ sz, sz = l.size := ⟨_, rfl⟩
 obtain ⟨us, hus⟩ : ∃ us, us = l.used := ⟨_, rfl⟩
 obtain ⟨br, hbr⟩ : ∃ br, br = l.broken := ⟨_, rfl⟩
 rw [← hsz] at c2 hu hb hfit
 rw [← hus] at c4 hu hb
 rw [← hbr] at cb hb ⊢
 obtain ⟨ec, hec⟩ : ∃ ec : Int, ec = if sn = 0 then 2 else if br = true then 10 else 8 := ⟨_, rfl⟩
 rw [← hec]
 have HEC := Lib.hid hec
 clear h hD hs hsz hus hbr hsn hec
 go_enter Tryz.func214, Tryz.ntmps214
 go_wp2_with fail
 refine HS.out.mono ?_
 rintro e w1 ⟨rfl, rfl⟩
 by_cases h0 : sn = 0
 · have HE : Hid (errD ec = .iface 99 (.int .i64 2)) := Lib.hid (by rw [HEC.out, if_pos h0]; exact errD_n (by decide))
   subst h0
   clear hb
   go_wp2_with fail
   go_ret
   exact ⟨by rw [HE.out]; rfl, New.refl _⟩
 · have h0' : ¬ ((sn : Int) = 0) := by omega
   rcases br with _ | _
   · have HE : Hid (errD ec = .iface 99 (.int .i64 8)) := Lib.hid (by rw [HEC.out, if_neg h0, if_neg (by decide)]; exact errD_n (by decide))
     have hlt : sz - us < sn := by rcases hb with h | h | h; exact absurd h h0; cases h; exact h
     have e1 : IntKind.i64.wrap ((sz : Int) - (us : Int)) = (sz : Int) - (us : Int) := IntWalk.i64_in _ (by omega)
     have e2 : (sz : Int) - (us : Int) < (sn : Int) := by omega
     have e3 : decide ((sz : Int) - (us : Int) < (sn : Int)) = true := decide_eq_true e2
     clear hb
     go_upto_region 8 with fail
     go_quiet (fail)
     go_wp2_with fail
     go_ret
     exact ⟨by rw [HE.out]; rfl, ⟨rfl, rfl, rfl, Nat.le_refl _, fun _ _ => rfl⟩⟩
   · have HE : Hid (errD ec = .iface 99 (.int .i64 10)) := Lib.hid (by rw [HEC.out, if_neg h0, if_pos rfl]; exact errD_n (by decide))
     clear hb
     go_wp2_with fail
     go_ret
     exact ⟨by rw [HE.out]; rfl, New.refl _⟩
theorem app_good {q : Nat → Prop} (h : Lg w gl gd l p.size) (hD : Dk w base gd bs bf v p) (hL : ShaIn 1 0 w) (A : Option Addr) (n c : Nat) (b : List Int) (hR : Rd q w 1 A n (u8s b)) (hb : Byt b) (hbn : b.length = n) (h0 : secN n ≠ 0) (h1 : l.broken = false) (h2 : ¬ l.size - l.used < secN n) :
    Calls Tryz.prog 214 #[.pointer (some ⟨gl, 0, none⟩), .slice A n c] w (AppSays w base gl gd bs bf v (appL p l b)) := by
 obtain ⟨hn1, hn2, hn3⟩ := secN_pos h0
 obtain ⟨sn, hsn⟩ : ∃ sn, sn = secN n := ⟨_, rfl⟩
 have hs := sectors_any (n : Int) w
 rw [secs_N, ← hsn] at hs
 rw [← hsn] at h0 h2 hn3
 obtain ⟨RS, hRS⟩ : ∃ RS, RS = writeN p l b sn := ⟨_, rfl⟩
 have HAP : Hid (appL p l b = if RS.2 ≠ 0 then (RS.1, { l with broken := true }, RS.2) else (RS.1, l.step b, 0)) := Lib.hid (by unfold appL; rw [hbn, ← hsn, if_neg h0, if_neg (by rw [h1]; decide), if_neg h2]; simp only; rw [hRS])
 obtain ⟨AP, hAP⟩ : ∃ AP, AP = appL p l b := ⟨_, rfl⟩
 rw [← hAP] at HAP ⊢
 have HS := Lib.hid hs
 have HLG := Lib.hid h
 have HD := Lib.hid hD
 have HL := Lib.hid hL
 have HR := Lib.hid hR
 have HB := Lib.hid hb
 have HBN := Lib.hid hbn
 have HRS := Lib.hid hRS
 have HSN : Hid (1 ≤ n ∧ n ≤ 65536 ∧ sn = (n + 74) / 55 ∧ l.used + sn ≤ l.size ∧ secN n = sn) := Lib.hid ⟨hn1, hn2, hn3, by have := h.ok.used; omega, hsn.symm⟩
 have c2 := h.c2
 have c3 := h.c3
 have c4 := h.c4
 have cb := h.cb
 have hu := h.ok.used
 have hfit := h.ok.fit
 have hps := hD.ok.s2
 have hgn := h.ok.gen
 rw [h1] at cb
 obtain ⟨sz, hsz⟩ : ∃ sz, sz = l.size := ⟨_, rfl⟩
 obtain ⟨us, hus⟩ : ∃ us, us = l.used := ⟨_, rfl⟩
 obtain ⟨gn, hgne⟩ : ∃ gn, gn = l.gen := ⟨_, rfl⟩
 rw [← hsz] at c2 hu h2 hfit
 rw [← hus] at c4 hu h2
 rw [← hgne] at c3 hgn
 have HLE : Hid (us = l.used ∧ sz = l.size ∧ gn = l.gen ∧ l.broken = false) := Lib.hid ⟨hus, hsz, hgne, h1⟩
 have HGN := Lib.hid hgn
 have hN1 : ¬ ((sn : Int) = 0) := by omega
 have hq0 : ((sn : Int) == 0) = false := by simpa using hN1
 have e1 : IntKind.i64.wrap ((sz : Int) - (us : Int)) = (sz : Int) - (us : Int) := IntWalk.i64_in _ (by omega)
 have e2 : ¬ (sz : Int) - (us : Int) < (sn : Int) := by omega
 have e3 : decide ((sz : Int) - (us : Int) < (sn : Int)) = false := decide_eq_false e2
 clear h hD hL hR hb hbn h0 h1 h2 hs hn1 hn2 hn3 hsn hRS hAP hsz hus hgne hfit hps hgn hu
 go_enter Tryz.func214, Tryz.ntmps214
 go_wp2_with fail
 refine HS.out.mono ?_
 rintro e w1 ⟨rfl, rfl⟩
 go_upto_region 8 with fail
 go_quiet (fail)
 obtain ⟨w2, hw2⟩ : ∃ w2, w2 = w.drewN nq := ⟨_, rfl⟩
 rw [← hw2]
 have HN2 : Hid (New w w2) := Lib.hid (by rw [hw2]; exact ⟨rfl, rfl, rfl, Nat.le_refl _, fun _ _ => rfl⟩)
 clear hw2 e1 e2 e3 c2
 have q3 : ∀ p' : HW (New w2), p'.w.cell? ⟨gl, 3, none⟩ = some (.int .u32 gn) := fun p' => p'.h.cell_ (HN2.out.cell_ c3)
 obtain ⟨tg, htg⟩ : ∃ tg, tg = l.tag := ⟨_, rfl⟩
 have HTG : Hid (∀ W, New w2 W → W.rangeAt gl 5 (u8s tg)) := Lib.hid fun W hN => by rw [htg]; exact (HLG.out.new (HN2.out.tr hN)).tagAt
 have HTL : Hid (tg.length = 16 ∧ Byt tg ∧ gn < 4294967296) := Lib.hid ⟨by rw [htg]; exact HLG.out.ok.len, by rw [htg]; exact HLG.out.ok.byt, HGN.out⟩
 obtain ⟨TL, hTL⟩ : ∃ TL, TL = tagL tg gn b := ⟨_, rfl⟩
 have HTE : Hid (TL = tagL l.tag l.gen b) := Lib.hid (by rw [hTL, htg, HLE.out.2.2.1])
 have HT16 : Hid (TL.length = 16 ∧ Byt TL) := Lib.hid (by rw [hTL]; exact ⟨tagL_len _ _ _, tagL_byt _ _ _⟩)
 have HTLE := Lib.hid hTL
 have HSZ : Hid ((secA TL).size = 16) := Lib.hid (by rw [secA_size, HT16.out.1])
 clear htg hTL
 go_upto_region 10 with fail
 apply wp_join (α := Nat) (fun b5 w5 => New w2 w5 ∧ Blk w5 b5 43 (secA TL))
 case h1 =>
  intro K' hK'
  refine wp_region_tree (New w2) (.take 0 (.take 1 (.take 2 (.take 3 (.take 4 (.take 5 (.take 6 (.take 7 (.take 8 (.two 9 (.act 10 (.act 11 .done)) 10 (.act 9 (.act 11 .done)))))))))))) (by kernel_rfl) (by kernel_rfl) (New.dr (New.refl w2)) (fun hne => ?_)
  iterate 3 (refine tree_take (o := ⟨_, _, _, _, _, _⟩) rfl (fun K hK => ?_); go_simp; refine hK _ ?_; clear hK K)
  refine tree_take_row (o := ⟨_, _, _, _, _, _⟩) rfl rfl (.tmp 43) rfl rfl (fun W hN => HTG.out W hN) Tryz.underlying43 rfl (by rw [u8s_len, HTL.out.1]; rfl) ?_
  simp only [Act.put, List.setIfInBounds_toArray, List.set_cons_zero, List.set_cons_succ]
  iterate 5 (refine tree_take (o := ⟨_, _, _, _, _, _⟩) rfl (fun K hK => ?_); go_simp; refine hK _ ?_; clear hK K)
  refine ⟨?_, ?_⟩
  · refine act_ok (o := ⟨_, _, _, _, _, _⟩) rfl (fun K hK => ?_) (.inl rfl)
    go_simp
    refine (tagged_any tg gn A n c b w2.drew ((HL.out.new HN2.out).new (New.dr (New.refl w2))) ((New.dr (New.refl w2)).rd (HN2.out.rd HR.out)) HB.out HTL.out.1 HTL.out.2.1 HTL.out.2.2 (by have := HSN.out; omega)).mono ?_
    rintro e w4 ⟨rfl, hN4⟩
    rw [← HTLE.out]
    have HN4 : Hid (New w2 w4) := Lib.hid (New.tr (New.dr (New.refl w2)) hN4)
    clear hN4
    go_simp
    refine hK.out _ _ HN4.out ?_
    clear hK K
    refine tree_act_alloc (o := ⟨_, _, _, _, _, _⟩) rfl rfl rfl tagInfo ?_
    intro b5 w5 hb5 hB5 hN5
    have HL5 : Hid (w2.heap.size ≤ b5) := Lib.hid (by have := HN4.out.size; omega)
    refine ⟨HN4.out.tr hN5, ?_⟩
    clear hb5
    simp only [Act.put, List.setIfInBounds_toArray, List.set_cons_zero, List.set_cons_succ]
    refine act_store (o := ⟨_, _, _, _, _, _⟩) (cs := secA TL) rfl rfl (.tmp 6) (.tmp 50) rfl (by rw [HSZ.out]; rfl) rfl rfl hB5 (by rw [HSZ.out]; rfl) (secA_one _) ?_
    intro w6 hB6 hF6
    have hN6 : New w2 w6 := (HN4.out.tr hN5).fr hF6 (fun k hk => by have := HL5.out; omega)
    refine ⟨hN6, ?_⟩
    simp only [Act.put, List.setIfInBounds_toArray, List.set_cons_zero, List.set_cons_succ]
    refine tree_done ?_
    exact hK'.out b5 w6 ⟨hN6, hB6⟩
  · refine act_alloc (o := ⟨_, _, _, _, _, _⟩) rfl rfl rfl tagInfo ?_
    intro b5 w5 hb5 hB5 hN5
    have HN5 : Hid (New w2 w5) := Lib.hid ((New.dr (New.refl w2)).tr hN5)
    have HB5 := Lib.hid hB5
    have HL5 : Hid (w2.heap.size ≤ b5) := Lib.hid (by rw [hb5]; exact Nat.le_refl _)
    refine ⟨HN5.out, ?_⟩
    clear hb5 hB5 hN5
    simp only [Act.put, List.setIfInBounds_toArray, List.set_cons_zero, List.set_cons_succ]
    refine tree_act (o := ⟨_, _, _, _, _, _⟩) rfl (fun K hK => ?_) (.inl rfl)
    go_simp
    refine (tagged_any tg gn A n c b w5 ((HL.out.new HN2.out).new HN5.out) (HN5.out.rd (HN2.out.rd HR.out)) HB.out HTL.out.1 HTL.out.2.1 HTL.out.2.2 (by have := HSN.out; omega)).mono ?_
    rintro e w4 ⟨rfl, hN4⟩
    rw [← HTLE.out]
    have HB4 := Lib.hid (hN4.blk HB5.out)
    have HN4 : Hid (New w2 w4) := Lib.hid (HN5.out.tr hN4)
    clear hN4
    go_simp
    refine hK.out _ _ HN4.out ?_
    clear hK K
    refine act_store (o := ⟨_, _, _, _, _, _⟩) (cs := secA TL) rfl rfl (.tmp 6) (.tmp 50) rfl (by rw [HSZ.out]; rfl) rfl rfl HB4.out (by rw [HSZ.out]; rfl) (secA_one _) ?_
    intro w6 hB6 hF6
    have hN6 : New w2 w6 := HN4.out.fr hF6 (fun k hk => by have := HL5.out; omega)
    refine ⟨hN6, ?_⟩
    simp only [Act.put, List.setIfInBounds_toArray, List.set_cons_zero, List.set_cons_succ]
    refine tree_done ?_
    exact hK'.out b5 w6 ⟨hN6, hB6⟩
 case h2 =>
  rintro b6 w5 ⟨hN5, hB5⟩
  have HN5 : Hid (New w w5) := Lib.hid (HN2.out.tr hN5)
  have HB6 := Lib.hid hB5
  clear hN5 hB5 q3 HTG HTLE HN2
  go_upto_region 12 with fail
  obtain ⟨w6, hw6⟩ : ∃ w6 : World, w6 = w5.alloc (.cells #[.nilIface, .slice none 0 0] 255) := ⟨_, rfl⟩
  obtain ⟨gw, hgw⟩ : ∃ gw, gw = w5.heap.size := ⟨_, rfl⟩
  have HN6 : Hid (New w w6) := Lib.hid (HN5.out.tr (by rw [hw6]; exact New.al (New.refl _) _))
  have HB66 : Hid (Blk w6 b6 43 (secA TL)) := Lib.hid (by rw [hw6]; exact HB6.out.alloc _)
  have HW6 : Hid (WrIn w6 gw gw []) := Lib.hid ⟨⟨none, 0, by rw [hw6, hgw]; exact Blk.new _ _ _, World.ownsRow_nil _ _ _ _⟩, Nat.le_refl _, fun x hx => nomatch hx⟩
  have HZ : Hid (w.heap.size ≤ gw ∧ b6 < gw) := Lib.hid (by have h1 := HN5.out.size; have h2 := HB6.out.lt; omega)
  rw [← hw6, ← hgw]
  clear hw6 hgw HB6 HN5
  have k2 : IntKind.u64.wrap (n : Int) = (n : Int) := by rw [IntKind.wrap_u64]; have := HSN.out; omega
  have n0 : ((4 : Nat) : Int) = 4 := rfl
  have HOV : Hid (∀ w', FW gw gw w6 w' → New w w') := Lib.hid fun w' hF => HN6.out.fr hF (fun k hk => by
   have := HZ.out
   rcases hk with rfl | hk
   · omega
   · have := hk.1; omega)
  refine wp_region_mixH (fun _ => True) [(true, 0), (true, 1), (true, 2), (true, 3), (true, 5), (true, 7), (false, 4), (false, 6), (false, 8), (false, 9), (true, 10), (true, 11), (true, 12), (true, 13), (true, 14)] (by kernel_rfl) (by kernel_rfl) trivial (fun hne => ?_)
  iterate 6 (refine mix_take (o := ⟨_, _, _, _, _, _⟩) rfl (fun K hK => ?_); go_simp; refine hK _ ?_; clear hK K)
  refine mix_act (o := ⟨_, _, _, _, _, _⟩) rfl (fun K hK => ?_) (.inl rfl)
  go_simp
  refine (wnum_any (WrIn.new HW6.out (New.dr (New.refl w6))) n 4 (by omega) (by have := HSN.out; omega) (by simp)).mono ?_
  rintro e w7 ⟨rfl, hW, hF⟩
  have HW7 := Lib.hid hW
  have HF7 : Hid (FW gw gw w6 w7) := Lib.hid ((FW.new (New.dr (New.refl w6))).tr hF)
  clear hW hF
  go_simp
  refine hK.out _ _ (fun _ => trivial) ?_
  clear hK K
  have HB67 : Hid (Blk w7 b6 43 (secA TL)) := Lib.hid (HF7.out.blk HB66.out (by decide) (by have := HZ.out; omega))
  refine mix_act (o := ⟨_, _, _, _, _, _⟩) rfl (fun K hK => ?_) (.inl rfl)
  go_simp
  refine (wraw_any HW7.out (some ⟨b6, 0, none⟩) 16 16 TL (blk_rd0 HB67.out HT16.out.1) HT16.out.2 (by simp [beL_len])).mono ?_
  rintro e w8 ⟨rfl, hW, hF⟩
  have HW8 := Lib.hid hW
  have HF8 : Hid (FW gw gw w6 w8) := Lib.hid (HF7.out.tr hF)
  clear hW hF
  go_simp
  refine hK.out _ _ (fun _ => trivial) ?_
  clear hK K
  refine mix_act (o := ⟨_, _, _, _, _, _⟩) rfl (fun K hK => ?_) (.inl rfl)
  go_simp
  refine (wraw_any HW8.out A n c b ((HOV.out _ HF8.out).rd HR.out) HB.out (by simp [beL_len]; have := HSN.out; have := HT16.out.1; omega)).mono ?_
  rintro e w9 ⟨rfl, hW, hF⟩
  obtain ⟨FL, hFL⟩ : ∃ FL, FL = l.frame b := ⟨_, rfl⟩
  have HFL := Lib.hid hFL
  have HW9 : Hid (WrIn w9 gw gw FL) := Lib.hid (by
   have e : [] ++ beL 4 n ++ TL ++ b = FL := by rw [hFL, HTE.out, ← HBN.out]; rfl
   rw [← e]
   exact hW)
  have HF9 : Hid (FW gw gw w6 w9) := Lib.hid (HF8.out.tr hF)
  have HFN : Hid (FL.length = n + 20) := Lib.hid (by rw [hFL, LG.frame_len, HBN.out])
  clear hW hF hFL
  go_simp
  refine hK.out _ _ (fun _ => trivial) ?_
  clear hK K
  refine mix_act (o := ⟨_, _, _, _, _, _⟩) rfl (fun K hK => ?_) (.inl rfl)
  go_simp
  refine (wdone_any HW9.out (by rw [HFN.out]; have := HSN.out; omega)).mono ?_
  rintro e w10 ⟨⟨B, d, rfl, hO⟩, hN10⟩
  have HO := Lib.hid hO
  have HN10 : Hid (New w w10) := Lib.hid ((HOV.out _ HF9.out).tr hN10)
  have HB610 : Hid (Blk w10 b6 43 (secA TL)) := Lib.hid (hN10.blk (HF9.out.blk HB66.out (by decide) (by have := HZ.out; omega)))
  clear hO hN10
  go_simp
  refine hK.out _ _ (fun _ => trivial) ?_
  clear hK K
  iterate 5 (refine mix_take (o := ⟨_, _, _, _, _, _⟩) rfl (fun K hK => ?_); go_simp; refine hK _ ?_; clear hK K)
  refine mix_done ?_
  clear hne k2 n0
  obtain ⟨gf, cf, hv, hfc, hfm⟩ := own_form HO.out (by have := HFN.out; omega)
  injection hv with hv1 hv2 hv3
  subst hv1 hv3
  have HCF : Hid (FL.length ≤ d ∧ d ≤ maxLen) := Lib.hid ⟨hfc, hfm⟩
  have HLG10 : Hid (Lg w10 gl gd l p.size) := Lib.hid (HLG.out.new HN10.out)
  have HD10 : Hid (Dk w10 base gd bs bf v p) := Lib.hid (HD.out.new HN10.out)
  have hchn : sn = chN FL.length 55 := by unfold chN; have := HSN.out; have := HFN.out; omega
  have hwr := write_log HLG10.out HD10.out b HB.out gf 0 FL.length d sn (by rw [HFL.out]) hfc hfm (by have := HSN.out; have := HFN.out; omega) hchn HSN.out.2.2.2.1 (own_isT' HO.out rfl) (fun j x hj => by
   rw [← HFL.out] at hj
   obtain ⟨g', o', he, -, -, hc⟩ := (Rd.own HO.out rfl).out (by have := HFN.out; omega) (by omega)
   injection he with he
   injection he with x1 x2
   subst x1 x2
   exact hc j x hj)
  rw [← HRS.out] at hwr
  have HWR := Lib.hid hwr
  clear hwr hchn hfc hfm hv2
  go_wp2_with fail
  refine HWR.out.mono ?_
  rintro e w11 ⟨rfl, v', hT⟩
  obtain ⟨ec, hec⟩ : ∃ ec, ec = RS.2 := ⟨_, rfl⟩
  rw [← hec]
  have HEC := Lib.hid hec
  have HT := Lib.hid hT
  have HLG11 : Hid (Lg w11 gl gd l p.size) := Lib.hid (HLG10.out.fr hT.fr (lg_apart HD10.out HLG10.out))
  have HNO : Hid (¬ DkOurs gd bs bf v' gl) := Lib.hid (lg_apart hT.dk HLG11.out)
  have HSZP : Hid (RS.1.size = p.size) := Lib.hid (by rw [HRS.out]; exact writeN_size _ _ _ _)
  have HOWN : Hid (∀ k, v'.ownBlock = some k → base ≤ k ∧ (v.ownBlock = some k ∨ w.heap.size ≤ k)) := Lib.hid fun k hk => ⟨(hT.own k hk).1, (hT.own k hk).2.imp id (fun h => Nat.le_trans HN10.out.size h)⟩
  have HFR : Hid (Fr (fun k => k = gl ∨ DkOurs gd bs bf v k) w w11) := Lib.hid ((HN10.out.toFr _).trans (hT.fr.mono (fun k _ h => .inr h)))
  have HB611 : Hid (Blk w11 b6 43 (secA TL)) := Lib.hid (HB610.out.fr hT.fr (dk_notBlk HD10.out HB610.out (fun e => Blk.ne_ HB610.out HD10.out.blk (by decide) e) (by decide)))
  clear hec hT HWR HO HF9 HF8 HF7 HW9 HW8 HW7 HB610 HB67 HB66
  by_cases h0 : ec = 0
  · have HAP0 : Hid (AP = (RS.1, l.step b, 0)) := Lib.hid (by rw [HAP.out, ← HEC.out, if_neg (by rw [h0]; simp)])
    rw [h0, errD_0]
    clear h0
    obtain ⟨u2, hu2⟩ : ∃ u2, u2 = us + sn := ⟨_, rfl⟩
    have c6 : w11.cell? ⟨gl, 4, none⟩ = some (.int .i64 us) := by rw [HLE.out.1]; exact HLG11.out.c4
    have f6 : w11.frozen? ⟨gl, 4, none⟩ = false := HLG11.out.blk.frozen 4
    have g1 : (us : Int) + (sn : Int) = (u2 : Int) := by omega
    have hb2 : u2 < 100000 := by have h1 := HSN.out; have h2 := HLE.out; have h3 := HLG.out.ok.fit; have h4 := HD.out.ok.s2; omega
    have g2 : IntKind.i64.wrap (u2 : Int) = (u2 : Int) := IntWalk.i64_in _ (by omega)
    have HU2 : Hid (u2 = l.used + secN b.length ∧ u2 ≤ l.size) := Lib.hid ⟨by rw [hu2, HLE.out.1, HBN.out, HSN.out.2.2.2.2], by have h1 := HSN.out; have h2 := HLE.out; omega⟩
    clear hu2 hb2
    go_upto_region 20 with fail
    obtain ⟨w7, hw7⟩ : ∃ w7, w7 = w11.setCell ⟨gl, 4, none⟩ (.int .i64 u2) := ⟨_, rfl⟩
    have HLG7 : Hid (Lg w7 gl gd { l with used := u2 } p.size) := Lib.hid (by rw [hw7]; exact HLG11.out.setUsed u2 HU2.out.2)
    have HF7 : Hid (Fr (fun k => k = gl) w11 w7) := Lib.hid (by rw [hw7]; exact (Fr.refl (fun k => k = gl) w11).setCell (p := ⟨gl, 4, none⟩) (fun _ => rfl) _)
    have HB7 : Hid (Blk w7 b6 43 (secA TL)) := Lib.hid (HB611.out.fr HF7.out (fun e => Blk.ne_ HB611.out HLG11.out.blk (by decide) e))
    rw [← hw7]
    clear hw7 c6 f6 g1 g2
    refine wp_region_list ?_
    refine wpList_step fun K hK => ?_
    go_simp
    refine hK _ _ ?_
    clear hK K
    refine wpList_load_any rfl _ rfl Tryz.underlying43 rfl (by rw [HSZ.out]; rfl) rfl HB7.out ?_
    iterate 2 (refine wpList_step fun K hK => ?_; go_simp; refine hK _ _ ?_; clear hK K)
    refine wpList_store_part rfl (.tmp 89) (.tmp 87) rfl rfl rfl HLG7.out.blk (cells := u8s TL) (by rw [u8s_len, HT16.out.1, lgA_len HLG7.out.ok.len]; decide) (by rw [u8s_len, HT16.out.1]; rfl) (u8s_one _) ?_
    intro w8 hb8 hf8
    have HB8 := Lib.hid hb8
    have HF8 := Lib.hid hf8
    clear hb8 hf8
    simp only [Act.put, List.setIfInBounds_toArray, List.set_cons_zero, List.set_cons_succ]
    go_wp2_with fail
    go_ret
    refine ⟨by rw [HAP0.out]; rfl, v', ?_⟩
    rw [HAP0.out]
    have hF : Fr (fun k => k = gl) w11 w8 := HF7.out.trans HF8.out
    refine ⟨HT.out.dk.fr hF (fun k hk => by rw [show k = gl from hk]; exact HNO.out), ⟨?_, ?_⟩, HFR.out.trans (hF.mono (fun k _ h => .inl h)), HOWN.out⟩
    · have := HB8.out
      rw [lgA_tag HLG7.out.ok.len gd TL HT16.out.1] at this
      have e : l.step b = { ({ l with used := u2 } : LG) with tag := TL } := by
       unfold LG.step
       rw [← HU2.out.1, ← HTE.out]
      rw [e]
      exact this
    · show LG.Ok (l.step b) RS.1.size
      rw [HSZP.out]
      exact ⟨HLG.out.ok.fit, HLG.out.ok.gen, by show l.used + secN b.length ≤ l.size; rw [← HU2.out.1]; exact HU2.out.2, tagL_len _ _ _, tagL_byt _ _ _⟩
  · have HAP0 : Hid (AP = (RS.1, { l with broken := true }, ec)) := Lib.hid (by rw [HAP.out, ← HEC.out, if_pos h0])
    have hE := errD_n h0
    have HE := Lib.hid hE
    rw [hE]
    clear h0 hE
    have c6 : w11.cell? ⟨gl, 21, none⟩ = some (.bool false) := by rw [← HLE.out.2.2.2]; exact HLG11.out.cb
    have f6 : w11.frozen? ⟨gl, 21, none⟩ = false := HLG11.out.blk.frozen 21
    go_wp2_with fail
    go_ret
    have hF : Fr (fun k => k = gl) w11 (w11.setCell ⟨gl, 21, none⟩ (.bool true)) := (Fr.refl (fun k => k = gl) w11).setCell (p := ⟨gl, 21, none⟩) (fun _ => rfl) _
    refine ⟨by rw [HAP0.out]; show _ = Ending.returned (errD ec); rw [HE.out]; rfl, v', ?_⟩
    rw [HAP0.out]
    refine ⟨HT.out.dk.fr hF (fun k hk => by rw [show k = gl from hk]; exact HNO.out), ?_, HFR.out.trans (hF.mono (fun k _ h => .inl h)), HOWN.out⟩
    show Lg _ gl gd { l with broken := true } RS.1.size
    rw [HSZP.out]
    exact HLG11.out.setBroken true
theorem app_any {q : Nat → Prop} (h : Lg w gl gd l p.size) (hD : Dk w base gd bs bf v p) (hL : ShaIn 1 0 w) (A : Option Addr) (n c : Nat) (b : List Int) (hR : Rd q w 1 A n (u8s b)) (hb : Byt b) (hn : n ≤ maxLen) :
    Calls Tryz.prog 214 #[.pointer (some ⟨gl, 0, none⟩), .slice A n c] w (AppSays w base gl gd bs bf v (appL p l b)) := by
 have hbn : b.length = n := by have := hR.1; rw [u8s_len] at this; omega
 by_cases hc : secN n = 0 ∨ l.broken = true ∨ l.size - l.used < secN n
 · refine (app_bad h hD A n c hn hc).mono fun e w' ⟨he, hN⟩ => ?_
   have ha : appL p l b = (p, l, if secN n = 0 then 2 else if l.broken = true then 10 else 8) := by
    unfold appL
    rw [hbn]
    by_cases h0 : secN n = 0
    · rw [if_pos h0, if_pos h0]
    · rw [if_neg h0, if_neg h0]
      by_cases h1 : l.broken = true
      · rw [if_pos h1, if_pos h1]
      · rw [if_neg h1, if_neg h1, if_pos (by rcases hc with hc | hc | hc; exact absurd hc h0; exact absurd hc h1; exact hc)]
   rw [ha]
   exact ⟨he, v, LgTo.same h hD hN⟩
 · exact app_good h hD hL A n c b hR hb hbn (fun e => hc (.inl e)) (by cases hbr : l.broken with | true => exact absurd (.inr (.inl hbr)) hc | false => rfl) (fun e => hc (.inr (.inr e)))
end
end Go.Proofs.YtpifnmlnhddgeaaGreatDoor
namespace Go.Proofs.YtpifnmlnhddgeaaGreatDoor
set_option linter.unusedVariables false
set_option linter.unusedSimpArgs false
set_option linter.constructorNameAsVariable false
open Go.RowKit Go.Sort
section
variable {w : World} {base gd bs bf : Nat} {v : Value} {p : DP}
theorem place_any (hD : Dk w base gd bs bf v p) (h2 : 2 ≤ p.size) (g : Nat) (hg : g < 4294967296) :
    Calls Tryz.prog 116 #[.pointer (some ⟨gd, 0, none⟩), .int .u32 g] w fun e w' => e = .returned (.tuple #[.int .i64 (fst0 g p.size), .int .i64 (hlf p.size)]) ∧ w = w' := by
 have HS := Lib.hid (len_in hD)
 have h3 := hD.ok.s2
 obtain ⟨n, hn⟩ := nm p.size
 obtain ⟨h, hh⟩ := nm (hlf n)
 obtain ⟨f, hf⟩ := nm (fst0 g n)
 rw [← hn] at HS h2 h3 ⊢
 rw [← hh, ← hf]
 have hh1 : h = (n - 2) / 2 := hh
 have hf1 : f = 2 + g % 2 * h := by rw [hf, hh]; rfl
 have e1 : IntKind.i64.wrap ((n : Int) - 2) = ((n - 2 : Nat) : Int) := by rw [IntWalk.i64_in _ (by omega)]; omega
 have e2 : Int.tdiv ((n - 2 : Nat) : Int) 2 = (h : Int) := by rw [Int.tdiv_eq_ediv_of_nonneg (by omega)]; omega
 have e3 : Int.tmod (g : Int) 2 = ((g % 2 : Nat) : Int) := by rw [Int.tmod_eq_emod_of_nonneg (by omega)]; omega
 obtain ⟨r, hr⟩ := nm (g % 2)
 have hr2 : r = 0 ∨ r = 1 := by omega
 rw [← hr] at hf1 e3
 have e4 : IntKind.i64.wrap ((r : Int)) = (r : Int) := IntWalk.i64_in _ (by omega)
 obtain ⟨m, hm⟩ := nm (r * h)
 have e5 : (r : Int) * (h : Int) = (m : Int) := by rw [hm]; simp
 have e6 : m ≤ 16384 := by rw [hm]; rcases hr2 with rfl | rfl <;> omega
 rw [← hm] at hf1
 have e7 : IntKind.i64.wrap (m : Int) = (m : Int) := IntWalk.i64_in _ (by omega)
 have e8 : IntKind.i64.wrap (2 + (m : Int)) = (f : Int) := by rw [IntWalk.i64_in _ (by omega)]; omega
 have e9 : IntKind.u32.wrap (r : Int) = (r : Int) := by rw [IntKind.wrap_u32]; omega
 have e10 : IntKind.i64.wrap (h : Int) = (h : Int) := IntWalk.i64_in _ (by omega)
 clear hD h2 h3 hn hh hf hh1 hf1 hr hr2 e6 hm
 go_enter Tryz.func116, Tryz.ntmps116
 go_wp2_with fail
 refine HS.out.mono ?_
 rintro e w1 ⟨rfl, rfl⟩
 go_wp2_with fail
 go_ret2
 exact ⟨rfl, rfl⟩
theorem fits_any (hD : Dk w base gd bs bf v p) : Calls Tryz.prog 113 #[.pointer (some ⟨gd, 0, none⟩)] w fun e w' => e = .returned (errD (if p.size < 4 then 1 else 0)) ∧ w = w' := by
 have HS := Lib.hid (len_in hD)
 obtain ⟨n, hn⟩ := nm p.size
 rw [← hn] at HS ⊢
 clear hD hn
 by_cases h : n < 4
 · rw [if_pos h, errD_n (by decide)]
   have h1 : (n : Int) < 4 := by omega
   clear h
   go_enter Tryz.func113, Tryz.ntmps113
   go_wp2_with fail
   refine HS.out.mono ?_
   rintro e w1 ⟨rfl, rfl⟩
   go_wp2_with fail
   go_ret
   exact ⟨rfl, rfl⟩
 · rw [if_neg h, errD_0]
   have h1 : ¬ (n : Int) < 4 := by omega
   clear h
   go_enter Tryz.func113, Tryz.ntmps113
   go_wp2_with fail
   refine HS.out.mono ?_
   rintro e w1 ⟨rfl, rfl⟩
   go_wp2_with fail
   go_ret
   exact ⟨rfl, rfl⟩
set_option maxHeartbeats 3000000
set_option maxRecDepth 100000
theorem proc_any (hD : Dk w base gd bs bf v p) (hL : ShaIn 1 0 w) (g : Nat) (hg : g < 4294967296) :
    Calls Tryz.prog 118 #[.pointer (some ⟨gd, 0, none⟩), .int .u32 g] w (WipeSays w base gd bs bf v (procS p g)) := by
 have HD := Lib.hid hD
 have HM := Lib.hid (manifest_any g hg w hL)
 have HO := Lib.hid (manB_ok g)
 obtain ⟨S, hS⟩ := nm (manB g)
 obtain ⟨r, hr⟩ := nm (g % 2)
 obtain ⟨R, hR⟩ := nm (procS p g)
 have HR : Hid (R = if p.wcode (r : Int) ≠ 0 then (p.doWrite (r : Int) S, p.wcode (r : Int)) else ((p.doWrite (r : Int) S).doSync, (p.doWrite (r : Int) S).scode)) := Lib.hid (by rw [hR, hS, hr]; rfl)
 rw [← hR]
 rw [← hS] at HM HO
 have e3 : Int.tmod (g : Int) 2 = (r : Int) := by rw [Int.tmod_eq_emod_of_nonneg (by omega)]; omega
 have e4 : IntKind.i64.wrap ((r : Int)) = (r : Int) := IntWalk.i64_in _ (by omega)
 have e5 : IntKind.u32.wrap (r : Int) = (r : Int) := by rw [IntKind.wrap_u32]; omega
 have HZ : Hid ((secA S).size = 64) := Lib.hid (by rw [secA_size, HO.out.1])
 clear hD hL hg hS hr hR
 go_enter Tryz.func118, Tryz.ntmps118
 go_wp2_with fail
 refine HM.out.mono ?_
 rintro e w1 ⟨rfl, hN1⟩
 have HN1 := Lib.hid hN1
 clear hN1
 go_upto_region 4 with ((with_reducible refine atOp ⟨some 5, .alloc _, _, _, _, _⟩ ?_); refine wpList_newvar (s := S) rfl rfl rfl _ _ rfl secInfo rfl rfl rfl HO.out.1 ?_)
 refine wp_world fun w2 hw2 => ?_
 have HB : Hid (Blk w2 w1.heap.size 155 (secA S)) := Lib.hid (by rw [hw2.out]; exact Blk.new _ _ _)
 have HN2 : Hid (New w w2) := Lib.hid (by rw [hw2.out]; exact HN1.out.al _)
 clear hw2 HN1
 go_wp2_with ((with_reducible refine atOp ⟨some 20, .load _ _, _, _, _, _⟩ ?_); refine wpList_load_any rfl _ rfl Tryz.underlying155 rfl (by rw [HZ.out]; rfl) rfl HB.out ?_)
 refine (write_all (HD.out.new HN2.out) (r : Int) HO.out).mono ?_
 rintro e w3 ⟨rfl, v3, hD3, hF3, hO3⟩
 have HT3 : Hid (DkTo w base gd bs bf v (p.doWrite (r : Int) S) w3 v3) := Lib.hid ((DkTo.same HD.out HN2.out).tr ⟨hD3, hF3, hO3⟩)
 clear hD3 hF3 hO3 HB HN2
 obtain ⟨wc, hwc⟩ := nm (p.wcode (r : Int))
 rw [← hwc] at HR ⊢
 clear hwc
 by_cases h0 : wc = 0
 · have HR2 := Lib.hid (HR.out.trans (if_neg (by rw [h0]; simp)))
   rw [h0, errD_0]
   clear h0 HR
   go_wp2_with fail
   refine (sync_all HT3.out.dk).mono ?_
   rintro e w4 ⟨rfl, v4, hD4, hF4, hO4⟩
   go_wp2_with fail
   go_ret
   rw [HR2.out]
   exact ⟨rfl, v4, HT3.out.tr ⟨hD4, hF4, hO4⟩⟩
 · have HR2 := Lib.hid (HR.out.trans (if_pos h0))
   have HE := Lib.hid (errD_n h0)
   rw [HE.out]
   clear h0 HR
   go_wp2_with fail
   go_ret
   rw [HR2.out]
   exact ⟨congrArg Ending.returned HE.out.symm, v3, HT3.out⟩
theorem cnt1 (p : DP) {k : Nat} (hk : k < 2) : (if k = 0 then (0 : Nat) else if k = 1 then man1 p 0 else cnt p) ≤ (if k + 1 = 1 then man1 p 0 else cnt p) := by
 have : k = 0 ∨ k = 1 := by omega
 rcases this with rfl | rfl
 · exact Nat.zero_le _
 · exact Nat.le_max_left _ _
def cntN (p : DP) : Nat → Nat
 | 0 => 0
 | k + 1 => max (cntN p k) (man1 p k)
theorem cntN_2 (p : DP) : cntN p 2 = cnt p := by show max (max 0 (man1 p 0)) (man1 p 1) = cnt p; rw [Nat.zero_max]; rfl
theorem man1_lt {p : DP} (h : p.Ok) (a : Nat) : man1 p a < 4294967296 := by
 unfold man1
 split
 · have h1 := valL_lt (xs := (p.rget (a : Int)).take 4) (fun x hx => (h.rget _).2 x (List.mem_of_mem_take hx))
   rw [List.length_take, (h.rget _).1] at h1
   exact h1
 · omega
theorem cntN_lt {p : DP} (h : p.Ok) : ∀ k, cntN p k < 4294967296
 | 0 => by show 0 < _; omega
 | k + 1 => by
  have h1 := cntN_lt h k
  have h2 := man1_lt h k
  show max _ _ < _
  omega
theorem counts_any (hD : Dk w base gd bs bf v p) (h2 : 2 ≤ p.size) (hL : ShaIn 1 0 w) :
    Calls Tryz.prog 119 #[.pointer (some ⟨gd, 0, none⟩)] w fun e w' => e = .returned (.tuple #[.int .u32 (cnt p), .nilIface]) ∧ New w w' := by
 have HD := Lib.hid hD
 have HL := Lib.hid hL
 have HP2 := Lib.hid h2
 clear hD hL h2
 go_enter Tryz.func119, Tryz.ntmps119
 go_wp2_with fail
 go_loopw [4, 5, 6, 7, 8, 9, 10] (fun b _ _ _ _ _ i wr => ∃ k : Nat, k ≤ 2 ∧ i = .int .i64 k ∧ b = .int .u32 (cntN p k : Nat) ∧ Hid (New w wr)) (fun _ _ _ _ _ _ i _ => 2 - (intOf i).toNat)
 case atStart => exact ⟨0, by omega, rfl, rfl, Lib.hid (New.refl _)⟩
 case round =>
  obtain ⟨k, hk, rfl, rfl, HW⟩ := hrel
  by_cases hlt : k < 2
  · have hlt' : (k : Int) < 2 := by omega
    obtain ⟨s, hs⟩ := nm (p.rget (k : Int))
    have HS : Hid (SecOk s) := Lib.hid (by rw [hs]; exact HD.out.ok.rget _)
    have HRC : Hid (p.rcode (k : Int) = 0) := Lib.hid (by unfold DP.rcode DP.within; rw [decide_eq_true (by have := HP2.out; omega), if_pos rfl])
    have HRE := Lib.hid (read_all (HD.out.new HW.out) (k : Int))
    rw [← hs, HRC.out, errD_0] at HRE
    have HZ : Hid ((secA s).size = 64) := Lib.hid (by rw [secA_size, HS.out.1])
    obtain ⟨g, hg⟩ := nm (valL (s.take 4))
    have HG : Hid (g < 4294967296) := Lib.hid (by
     have h1 := valL_lt (xs := s.take 4) (fun x hx => HS.out.2 x (List.mem_of_mem_take hx))
     rw [List.length_take, HS.out.1] at h1
     rw [hg]
     exact h1)
    have HMK : Hid (man1 p k = if s = manB g ∧ g % 2 = k then g else 0) := Lib.hid (by unfold man1; rw [← hs, ← hg])
    have HGE := Lib.hid hg
    clear hs hg
    go_wp2_with fail
    refine HRE.out.mono ?_
    rintro e w1 ⟨rfl, hN1⟩
    have HN1 : Hid (New w w1) := Lib.hid (HW.out.tr hN1)
    clear hN1 HRE HW
    go_upto_region 8 with ((with_reducible refine atOp ⟨some 6, .alloc _, _, _, _, _⟩ ?_); refine wpList_newvar (s := s) rfl rfl rfl _ _ rfl secInfo rfl rfl rfl HS.out.1 ?_)
    refine wp_world fun w2 hw2 => ?_
    obtain ⟨b6, hb6⟩ := nm w1.heap.size
    have HB6 : Hid (Blk w2 b6 155 (secA s)) := Lib.hid (by rw [hw2.out, hb6]; exact Blk.new _ _ _)
    have HN2 : Hid (New w w2) := Lib.hid (by rw [hw2.out]; exact HN1.out.al _)
    rw [← hb6]
    clear hw2 HN1 hb6
    have HR4 : Hid (Rd (fun _ => True) w2 1 (some ⟨b6, 0, none⟩) 4 (u8s (s.take 4))) := Lib.hid (Rd.take (blk_rd0 HB6.out HS.out.1) (by omega))
    have HBY : Hid (Byt (s.take 4)) := Lib.hid (fun x hx => HS.out.2 x (List.mem_of_mem_take hx))
    go_wp2_with fail
    refine (from_any _ 4 _ (s.take 4) w2 HR4.out HBY.out (by omega)).mono ?_
    rintro e w3 ⟨gr, rfl, hR, hN3, hgr⟩
    have HR := Lib.hid hR
    have HN3 : Hid (New w w3) := Lib.hid (HN2.out.tr hN3)
    have HB63 : Hid (Blk w3 b6 155 (secA s)) := Lib.hid (hN3.blk HB6.out)
    have HGR : Hid (w.heap.size ≤ gr ∧ b6 < gr) := Lib.hid (by have h1 := HN2.out.size; have h2 := HB6.out.lt; omega)
    have n4 : ((4 : Nat) : Int) = 4 := rfl
    clear hR hN3 hgr HR4 HB6 HN2
    go_wp2_with fail
    refine (rnum_any HR.out 4 (by omega)).mono ?_
    rintro e w4 ⟨rfl, -, hF4⟩
    have hnum : ((⟨s.take 4, 0⟩ : Rs).num 4).1 = g := by
     unfold Rs.num Rs.raw Rs.left
     rw [if_pos rfl, if_neg (by rw [List.length_take, HS.out.1]; decide), HGE.out]
     show valL ((s.take 4).take 4) = _
     rw [List.take_take]
     rfl
    rw [hnum]
    have HB64 : Hid (Blk w4 b6 155 (secA s)) := Lib.hid (HB63.out.fr hF4 (by have := HGR.out; omega))
    have HN4 : Hid (New w w4) := Lib.hid (HN3.out.fr hF4 (fun k hk => by have := HGR.out; omega))
    have e9 : IntKind.u32.wrap (g : Int) = (g : Int) := by rw [IntKind.wrap_u32]; have := HG.out; omega
    clear hnum hF4 HR HN3 HB63 n4
    go_wp2_with fail
    refine (manifest_any g HG.out w4 (HL.out.new HN4.out)).mono ?_
    rintro e w5 ⟨rfl, hN5⟩
    obtain ⟨m, hm⟩ := nm (manB g)
    have HMO : Hid (SecOk m) := Lib.hid (by rw [hm]; exact manB_ok g)
    rw [← hm] at HMK ⊢
    have HB65 : Hid (Blk w5 b6 155 (secA s)) := Lib.hid (hN5.blk HB64.out)
    have HN5 : Hid (New w w5) := Lib.hid (HN4.out.tr hN5)
    have HZM : Hid ((secA m).size = 64) := Lib.hid (by rw [secA_size, HMO.out.1])
    clear hN5 hm HB64 HN4 e9
    go_upto_region 12 with ((with_reducible refine atOp ⟨some 9, .alloc _, _, _, _, _⟩ ?_); refine wpList_newvar (s := m) rfl rfl rfl _ _ rfl secInfo rfl rfl rfl HMO.out.1 ?_)
    refine wp_world fun w6 hw6 => ?_
    obtain ⟨b9, hb9⟩ := nm w5.heap.size
    have HB9 : Hid (Blk w6 b9 155 (secA m)) := Lib.hid (by rw [hw6.out, hb9]; exact Blk.new _ _ _)
    have HN56 : Hid (New w5 w6) := Lib.hid (by rw [hw6.out]; exact (New.refl _).al _)
    have HB66 : Hid (Blk w6 b6 155 (secA s)) := Lib.hid (HN56.out.blk HB65.out)
    have HN6 : Hid (New w w6) := Lib.hid (HN5.out.tr HN56.out)
    rw [← hb9]
    clear hw6 hb9 HN56 HB65 HN5
    have heq : (Op.equalIn 10000 155 (.agg (secA s)) (.agg (secA m))).run Tryz.prog w6 = .ok (decide (s = m)) w6 := run_equalIn_sec (P := Tryz.prog) 9998 Tryz.underlying155 Tryz.underlying5 (Tryz.sizeOf5) HS.out.1 HMO.out.1 HS.out.2 HMO.out.2 w6
    have e1 : Int.tmod (g : Int) 2 = ((g % 2 : Nat) : Int) := by rw [Int.tmod_eq_emod_of_nonneg (by omega)]; omega
    have e2 : IntKind.u32.wrap (k : Int) = (k : Int) := by rw [IntKind.wrap_u32]; omega
    have e4 : IntKind.u32.wrap ((g % 2 : Nat) : Int) = ((g % 2 : Nat) : Int) := by rw [IntKind.wrap_u32]; omega
    have e3 : ((g % 2 : Nat) : Int) = (k : Int) ↔ g % 2 = k := by omega
    obtain ⟨c, hc⟩ := nm (cntN p k)
    have HCS : Hid (cntN p (k + 1) = max c (if s = m ∧ g % 2 = k then g else 0)) := Lib.hid (by rw [← HMK.out, hc]; rfl)
    have HK := Lib.hid hk
    rw [← hc]
    clear hc
    obtain ⟨q, hq⟩ := nm (g % 2)
    rw [← hq] at HCS e1 e3 e4
    clear hq hk
    by_cases hsm : s = m
    · rw [decide_eq_true hsm] at heq
      have HSM := Lib.hid hsm
      clear hsm
      by_cases hqk : q = k
      · have HCE : Hid (cntN p (k + 1) = max c g) := Lib.hid (by rw [HCS.out, if_pos ⟨HSM.out, hqk⟩])
        have e3' := e3.2 hqk
        clear e3 hqk
        go_wp2_with (first
         | ((with_reducible refine atOp ⟨some 34, .load _ _, _, _, _, _⟩ ?_); refine wpList_load_any rfl _ rfl Tryz.underlying155 rfl (by rw [HZ.out]; rfl) rfl HB66.out ?_)
         | ((with_reducible refine atOp ⟨some 35, .load _ _, _, _, _, _⟩ ?_); refine wpList_load_any rfl _ rfl Tryz.underlying155 rfl (by rw [HZM.out]; rfl) rfl HB9.out ?_))
        exact ⟨⟨k + 1, by omega, by go_num, by rw [HCE.out]; congr 1; omega, HN6⟩, by simp [intOf]; omega⟩
      · have HCE : Hid (cntN p (k + 1) = c) := Lib.hid (by rw [HCS.out, if_neg (fun e => hqk e.2)]; exact Nat.max_eq_left (Nat.zero_le _))
        have e3' : ¬ (q : Int) = (k : Int) := fun e => hqk (e3.1 e)
        clear e3 hqk
        go_wp2_with (first
         | ((with_reducible refine atOp ⟨some 34, .load _ _, _, _, _, _⟩ ?_); refine wpList_load_any rfl _ rfl Tryz.underlying155 rfl (by rw [HZ.out]; rfl) rfl HB66.out ?_)
         | ((with_reducible refine atOp ⟨some 35, .load _ _, _, _, _, _⟩ ?_); refine wpList_load_any rfl _ rfl Tryz.underlying155 rfl (by rw [HZM.out]; rfl) rfl HB9.out ?_))
        exact ⟨⟨k + 1, by omega, by go_num, by rw [HCE.out], HN6⟩, by simp [intOf]; omega⟩
    · rw [decide_eq_false hsm] at heq
      have HCE : Hid (cntN p (k + 1) = c) := Lib.hid (by rw [HCS.out, if_neg (fun e => hsm e.1)]; exact Nat.max_eq_left (Nat.zero_le _))
      clear hsm e3
      go_wp2_with (first
       | ((with_reducible refine atOp ⟨some 34, .load _ _, _, _, _, _⟩ ?_); refine wpList_load_any rfl _ rfl Tryz.underlying155 rfl (by rw [HZ.out]; rfl) rfl HB66.out ?_)
       | ((with_reducible refine atOp ⟨some 35, .load _ _, _, _, _, _⟩ ?_); refine wpList_load_any rfl _ rfl Tryz.underlying155 rfl (by rw [HZM.out]; rfl) rfl HB9.out ?_))
      exact ⟨⟨k + 1, by omega, by go_num, by rw [HCE.out], HN6⟩, by simp [intOf]; omega⟩
  · have hge : ¬ (k : Int) < 2 := by omega
    obtain rfl : k = 2 := by omega
    rw [cntN_2]
    clear hlt
    go_wp2_with fail
    go_ret2
    exact ⟨rfl, HW.out⟩
end
end Go.Proofs.YtpifnmlnhddgeaaGreatDoor
namespace Go.Proofs.YtpifnmlnhddgeaaGreatDoor
set_option linter.unusedVariables false
set_option linter.unusedSimpArgs false
set_option linter.constructorNameAsVariable false
open Go.RowKit Go.Sort
def fmtN (p : DP) : Nat → DP
 | 0 => p
 | k + 1 => (fmtN p k).doWrite (k : Int) sec0
theorem fmtN_up {p : DP} (h : Up p) : ∀ k, Up (fmtN p k) ∧ (fmtN p k).size = p.size
 | 0 => ⟨h, rfl⟩
 | k + 1 => ⟨(fmtN_up h k).1.write _ _, (DP.doWrite_size _ _ _).trans (fmtN_up h k).2⟩
theorem fmtS_eq {p : DP} : fmtS p = (procS (wipeL (fmtN p 2).doSync (log0 p.size 1)).1 1).1 := rfl
theorem DkTo.nw {W w w' : World} {gd bs bf : Nat} {v v' : Value} {p q : DP} (h : DkTo w W.heap.size gd bs bf v q w' v') (hD : Dk w W.heap.size gd bs bf v p) (hN : New W w) : New W w' := hN.fr h.fr (fun k hk => (hD.ours k hk).1)
section
variable {w : World} {base gd bs bf : Nat} {v : Value} {p : DP}
theorem format_small (hD : Dk w base gd bs bf v p) (h : p.size < 4) : Calls Tryz.prog 47 #[.pointer (some ⟨gd, 0, none⟩)] w fun e w' => e = .returned (errD 1) ∧ w = w' := by
 have HF := Lib.hid (fits_any hD)
 rw [if_pos h, errD_n (by decide)] at HF
 rw [errD_n (by decide)]
 clear hD h
 go_enter Tryz.func47, Tryz.ntmps47
 go_wp2_with fail
 refine HF.out.mono ?_
 rintro e w1 ⟨rfl, rfl⟩
 go_wp2_with fail
 go_ret
 exact ⟨rfl, rfl⟩
set_option maxHeartbeats 3000000
set_option maxRecDepth 100000
theorem format_any {W : World} (hD : Dk w W.heap.size gd bs bf v p) (hN : New W w) (hL : ShaIn 1 0 W) (hu : Up p) (h4 : 4 ≤ p.size) :
    Calls Tryz.prog 47 #[.pointer (some ⟨gd, 0, none⟩)] w (WipeSays w W.heap.size gd bs bf v (fmtS p, 0)) := by
 have HF := Lib.hid (fits_any hD)
 rw [if_neg (by omega), errD_0] at HF
 have HD := Lib.hid hD
 have HL := Lib.hid hL
 have HN := Lib.hid hN
 have HU := Lib.hid hu
 have H4 := Lib.hid h4
 clear hD hL hN hu h4
 go_enter Tryz.func47, Tryz.ntmps47
 go_wp2_with fail
 refine HF.out.mono ?_
 rintro e w1 ⟨rfl, rfl⟩
 clear HF
 go_wp2_with fail
 go_loopw [4, 5, 16] (fun _ _ i wr => ∃ (k : Nat) (v' : Value), k ≤ 2 ∧ i = .int .i64 k ∧ Hid (DkTo w W.heap.size gd bs bf v (fmtN p k) wr v')) (fun _ _ i _ => 2 - (intOf i).toNat)
 case atStart => exact ⟨0, v, by omega, rfl, Lib.hid (DkTo.same HD.out (New.refl _))⟩
 case round =>
  obtain ⟨k, v1, hk, rfl, HT⟩ := hrel
  by_cases hlt : k < 2
  · have hlt' : (k : Int) < 2 := by omega
    have hU := fmtN_up HU.out k
    have HWR := Lib.hid (write_all HT.out.dk (k : Int) sec0_ok)
    rw [hU.1.wcode (by omega) (by have := H4.out; omega), errD_0] at HWR
    clear hU
    go_wp2_with fail
    refine HWR.out.mono ?_
    rintro e w3 ⟨rfl, v3, hD3, hF3, hO3⟩
    have HT3 : Hid (DkTo w W.heap.size gd bs bf v (fmtN p (k + 1)) w3 v3) := Lib.hid (HT.out.tr ⟨hD3, hF3, hO3⟩)
    clear hD3 hF3 hO3 HT HWR
    go_wp2_with fail
    exact ⟨⟨k + 1, v3, by omega, by go_num, HT3⟩, by simp [intOf]; omega⟩
  · have hge : ¬ (k : Int) < 2 := by omega
    obtain rfl : k = 2 := by omega
    have hU := fmtN_up HU.out 2
    obtain ⟨q, hq⟩ := nm (fmtN p 2)
    have HFS : Hid (fmtS p = (procS (wipeL q.doSync (log0 p.size 1)).1 1).1) := Lib.hid (by rw [hq]; exact fmtS_eq)
    rw [← hq] at HT hU
    have HSY := Lib.hid (sync_all HT.out.dk)
    rw [hU.1.scode, errD_0] at HSY
    obtain ⟨q2, hq2⟩ := nm q.doSync
    have HU2 : Hid (Up q2 ∧ q2.size = p.size) := Lib.hid (by rw [hq2]; exact ⟨hU.1.sync, (DP.doSync_size q).trans hU.2⟩)
    rw [← hq2] at HSY HFS
    clear hU hq hq2 hlt
    go_wp2_with fail
    refine HSY.out.mono ?_
    rintro e w3 ⟨rfl, v3, hD3, hF3, hO3⟩
    have HT3 : Hid (DkTo w W.heap.size gd bs bf v q2 w3 v3) := Lib.hid (HT.out.tr ⟨hD3, hF3, hO3⟩)
    clear hD3 hF3 hO3 HT HSY
    have HPL := Lib.hid (place_any HT3.out.dk (by have := HU2.out.2; have := H4.out; omega) 1 (by decide))
    rw [HU2.out.2] at HPL
    obtain ⟨fs, hfs⟩ := nm (fst0 1 p.size)
    obtain ⟨hl, hhl⟩ := nm (hlf p.size)
    have hfit := hlf_fit (g := 1) H4.out
    have HFR := Lib.hid (fresh_good HT3.out.dk fs hl 1 (by rw [hhl]; exact hfit.1) (by rw [hhl, hfs, HU2.out.2]; exact hfit.2.1) (by decide) (by decide))
    have HW0 : Hid ((wipeL q2 (lg0 fs hl 1)).2 = 0 ∧ Up (wipeL q2 (lg0 fs hl 1)).1 ∧ (wipeL q2 (lg0 fs hl 1)).1.size = q2.size) := Lib.hid (HU2.out.1.wipe (l := lg0 fs hl 1) (by show fs + hl ≤ _; rw [hhl, hfs, HU2.out.2]; exact hfit.2.1) (Nat.zero_le _))
    have HFS : Hid (fmtS p = (procS (wipeL q2 (lg0 fs hl 1)).1 1).1) := Lib.hid (by rw [HFS.out, hfs, hhl]; rfl)
    rw [← hfs, ← hhl] at HPL
    obtain ⟨r, hr⟩ := nm (wipeL q2 (lg0 fs hl 1))
    rw [← hr] at HFR HW0 HFS
    clear hfs hhl hfit hr
    go_wp2_with fail
    refine HPL.out.mono ?_
    rintro e w4 ⟨rfl, rfl⟩
    go_wp2_with fail
    refine HFR.out.mono ?_
    intro e w4 hs
    unfold FreshSays at hs
    rw [if_pos HW0.out.1] at hs
    obtain ⟨gl, v4, rfl, -, -, hT4⟩ := hs
    have HT4 : Hid (DkTo w W.heap.size gd bs bf v r.1 w4 v4) := Lib.hid (HT3.out.tr hT4)
    clear hT4 HT3 HFR HPL
    go_wp2_with fail
    refine (proc_any HT4.out.dk (HL.out.new (HT4.out.nw HD.out HN.out)) 1 (by decide)).mono ?_
    rintro e w5 ⟨rfl, v5, hT5⟩
    rw [(HW0.out.2.1.proc 1 (by have := HW0.out.2.2; have := HU2.out.2; have := H4.out; omega)).1, errD_0]
    go_wp2_with fail
    go_ret
    exact ⟨errD_0.symm ▸ rfl, v5, by show DkTo w W.heap.size gd bs bf v (fmtS p) w5 v5; rw [HFS.out]; exact HT4.out.tr hT5⟩
end
end Go.Proofs.YtpifnmlnhddgeaaGreatDoor
namespace Go.Proofs.YtpifnmlnhddgeaaGreatDoor
set_option linter.unusedVariables false
set_option linter.unusedSimpArgs false
set_option linter.constructorNameAsVariable false
open Go.RowKit Go.Sort Go.Maps
inductive Ops (R : Int → Prop) (p : DP) : DP → Prop
 | refl : Ops R p p
 | write {q : DP} {a : Int} {s : List Int} : Ops R p q → R a → SecOk s → Ops R p (q.doWrite a s)
 | sync {q : DP} : Ops R p q → Ops R p q.doSync
def Out (p q : DP) (a : Int) : Prop := (q.fresh a = p.fresh a ∧ q.sure a = p.sure a) ∨ (q.fresh a = none ∧ sureC q a = p.get a)
section
variable {R R' : Int → Prop} {p q r : DP} {a : Int}
theorem Ops.trans (h1 : Ops R p q) (h2 : Ops R q r) : Ops R p r := by
 induction h2 with
 | refl => exact h1
 | write _ ha hs ih => exact ih.write ha hs
 | sync _ ih => exact ih.sync
theorem Ops.mono (h : Ops R p q) (hR : ∀ a, R a → R' a) : Ops R' p q := by
 induction h with
 | refl => exact .refl
 | write _ ha hs ih => exact ih.write (hR _ ha) hs
 | sync _ ih => exact ih.sync
theorem Out.get (h : Out p q a) : q.get a = p.get a := by
 rcases h with ⟨h1, h2⟩ | ⟨h1, h2⟩
 · unfold DP.get; rw [h1, h2]
 · rw [get_clean h1, h2]
theorem Ops.ok (h : Ops R p q) (hp : p.Ok) : q.Ok ∧ q.size = p.size := by
 induction h with
 | refl => exact ⟨hp, rfl⟩
 | write _ ha hs ih =>
  refine ⟨?_, by rw [DP.doWrite_size]; exact ih.2⟩
  unfold DP.doWrite
  split
  · next hw =>
    split
    · exact ih.1.fall
    · exact ih.1.write (of_decide_eq_true hw) hs
  · exact ih.1
 | sync _ ih =>
  refine ⟨?_, by rw [DP.doSync_size]; exact ih.2⟩
  unfold DP.doSync
  split
  · exact ih.1
  · exact ih.1.sync
theorem Out.sync (h : Out p q a) : Out p q.doSync a := by
 unfold DP.doSync
 split
 · exact h
 · refine .inr ⟨rfl, ?_⟩
   rw [← get_clean (p := q.sync) rfl, get_sync]
   exact h.get
theorem Ops.out (h : Ops R p q) (ha : ¬ R a) : Out p q a := by
 induction h with
 | refl => exact .inl ⟨rfl, rfl⟩
 | @write q b s _ hb hs ih =>
  have hne : a ≠ b := fun e => ha (e ▸ hb)
  unfold DP.doWrite
  split
  · split
    · exact ih
    · have e1 : (q.write b s).fresh a = q.fresh a := by
       show upd q.burn.fresh b (some s) a = _
       unfold upd
       rw [if_neg hne]
       rfl
      have e2 : (q.write b s).sure a = q.sure a := rfl
      unfold Out sureC at ih ⊢
      rw [e1, e2]
      exact ih
  · exact ih
 | sync _ ih => exact ih.sync
theorem doWrite_up {s : List Int} (h : p.wcode a = 0) (hd : p.down = false) : (p.doWrite a s).down = false := by
 unfold DP.wcode at h
 unfold DP.doWrite
 split
 · next hw =>
   rw [if_pos hw] at h
   split
   · next hf => rw [if_pos hf] at h; cases h
   · exact hd
 · exact hd
theorem doSync_down : p.doSync.down = p.down := by unfold DP.doSync; split <;> rfl
end
def Reg (l : LG) (a : Int) : Prop := ∃ x : Nat, x < l.size ∧ a = plc l x
section
variable {p q : DP} {l l0 : LG} {K : List (List Int)} {su : Nat} {b : List Int} {m : Nat} {T : Nat → Option (List Int)}
theorem wipeN_ops (p : DP) (l : LG) : ∀ k, l.used + k ≤ l.size → Ops (Reg l) p (wipeN p l k).1
 | 0, _ => .refl
 | k + 1, hk => by
  have ih := wipeN_ops p l k (by omega)
  unfold wipeN
  simp only
  split
  · exact ih
  · split
    · exact ih.write ⟨l.used + k, by omega, by unfold plc; rw [Nat.add_assoc]⟩ sec0_ok
    · exact ih
theorem wipe_ops (p : DP) (l : LG) (hu : l.used ≤ l.size) : Ops (Reg l) p (wipeL p l).1 := by
 have h := wipeN_ops p l (l.size - l.used) (by omega)
 unfold wipeL
 simp only
 split
 · exact h
 · split
   · exact h.sync
   · exact h
theorem writeN_ops (p : DP) (l : LG) {b : List Int} (hb : Byt b) : ∀ k, l.used + k ≤ l.size → Ops (Reg l) p (writeN p l b k).1
 | 0, _ => .refl
 | k + 1, hk => by
  have ih := writeN_ops p l hb k (by omega)
  unfold writeN
  simp only
  split
  · exact ih
  · exact ih.write ⟨l.used + k, by omega, by unfold plc; rw [Nat.add_assoc]⟩ (LG.sec_ok _ hb _)
theorem app_ops (p : DP) (l : LG) {b : List Int} (hb : Byt b) (hu : l.used ≤ l.size) : Ops (Reg l) p (appL p l b).1 := by
 unfold appL
 split
 · exact .refl
 · split
   · exact .refl
   · split
     · exact .refl
     · have h := writeN_ops p l hb (secN b.length) (by omega)
       simp only
       split <;> exact h
theorem Inv.out (h : Inv p l0 K su b m T) (hok : q.Ok) (hz : q.size = p.size) (ho : ∀ x : Nat, x < l0.size → Out p q (plc l0 x)) : Inv q l0 K su b m T := by
 have hsv : ∀ x : Nat, x < l0.size → sureC q (plc l0 x) = sureC p (plc l0 x) ∨ (T x ≠ none ∧ T x = some (sureC q (plc l0 x))) := fun x hx => by
  rcases ho x hx with ⟨h1, h2⟩ | ⟨h1, h2⟩
  · exact .inl (by unfold sureC; rw [h2])
  · rcases h.fresh x hx with h3 | ⟨h3, h4⟩
    · exact .inl (by rw [h2, get_clean h3])
    · refine .inr ⟨h3, ?_⟩
      cases hT : T x with
      | none => exact absurd hT h3
      | some S => rw [h2, h.now x hx S hT]
 refine ⟨hok, by rw [hz]; exact h.lok, h.z, h.g0, h.good, h.room, h.part, h.sul, h.tk, fun x hx => ?_, fun x hx => ?_, fun j hj hs i hi => ?_, fun x hx S hS => ?_⟩
 · rcases ho x hx with ⟨h1, h2⟩ | ⟨h1, h2⟩
   · rw [h1]; exact h.fresh x hx
   · exact .inl h1
 · rcases hsv x hx with h1 | ⟨h1, h2⟩
   · rw [h1]; exact h.sure x hx
   · exact .inl h2
 · have h5 := chain_lt (l0 := l0) hj hi
   have hx : (chain l0 (K.take j)).used + i < l0.size := by have := h.room; omega
   rcases hsv _ hx with h1 | ⟨h1, h2⟩
   · rw [h1]; exact h.safe j hj hs i hi
   · rw [h.tk.recs j hj i hi] at h2
     injection h2 with h2
     exact h2.symm
 · rw [(ho x hx).get]; exact h.now x hx S hS
theorem Inv.mark (h : Inv p l0 K su b m T) {x : Nat} (hx : x < l0.size) (hf : p.fresh (plc l0 x) ≠ none) : valL ((p.get (plc l0 x)).take 4) = l0.gen := by
 have hgen : ∀ (J : List (List Int)) (c : List Int) (i : Nat), valL (((chain l0 J).sec c i).take 4) = l0.gen := fun J c i => by
  have h9 := sec_head (l := chain l0 J) (b := c) i
  have h4 : ((chain l0 J).sec c i).take 4 = (((chain l0 J).sec c i).take 9).take 4 := by rw [List.take_take]; rfl
  rw [h4, h9]
  unfold LG.hdr
  rw [(chain_same l0 J).2.2.1, List.append_assoc]
  have := List.take_left (l₁ := beL 4 l0.gen) (l₂ := beL 4 ((chain l0 J).used + i) ++ [if i = 0 then 1 else 2])
  rw [beL_len] at this
  rw [this, valL_beL 4 l0.gen h.lok.gen]
 rcases h.fresh x hx with h1 | ⟨h1, h2⟩
 · exact absurd h1 hf
 · by_cases hu : x < (chain l0 K).used
   · obtain ⟨j, hj, i, hi, e⟩ := place_of h.z hu
     have h3 := h.tk.recs j hj i hi
     rw [← e] at h3
     rw [h.now x hx _ h3, hgen]
   · by_cases hm : x < (chain l0 K).used + m
     · have h3 := h.tk.part (x - (chain l0 K).used) (by omega)
       rw [show (chain l0 K).used + (x - (chain l0 K).used) = x by omega] at h3
       rw [h.now x hx _ h3, hgen]
     · exact absurd (h.tk.rest x (by omega)) h1
theorem wipeN_any {l : LG} (hok : p.Ok) (hd : p.down = false) (hf : l.first + l.size ≤ p.size) (g0 : l.gen ≠ 0) : ∀ k, l.used + k ≤ l.size → (wipeN p l k).2.2 = 0 →
    (wipeN p l k).1.down = false ∧ (∀ i, i < k → NoGen l.gen ((wipeN p l k).1.get ((l.first + l.used + i : Nat) : Int))) ∧ ((wipeN p l k).2.1 = false → (wipeN p l k).1 = p)
 | 0, _, _ => ⟨hd, fun i hi => absurd hi (by omega), fun _ => rfl⟩
 | k + 1, hk, hc => by
  have hc0 : (wipeN p l k).2.2 = 0 := by
   refine Classical.byContradiction fun hne => ?_
   unfold wipeN at hc
   simp only at hc
   rw [if_pos hne] at hc
   exact hne hc
  obtain ⟨h1, h2, h3⟩ := wipeN_any hok hd hf g0 k (by omega) hc0
  have hsz := ((wipeN_ops p l k (by omega)).ok hok).2
  have hw : (wipeN p l k).1.within ((l.first + l.used + k : Nat) : Int) = true := decide_eq_true (by rw [hsz]; omega)
  by_cases hg : valL ((sct (wipeN p l k).1 l k).take 4) = l.gen
  · rw [wipeN_hit hc0 hg] at hc ⊢
    simp only at hc ⊢
    have hwd : (wipeN p l k).1.doWrite ((l.first + l.used + k : Nat) : Int) sec0 = (wipeN p l k).1.write ((l.first + l.used + k : Nat) : Int) sec0 := by
     unfold DP.doWrite
     rw [if_pos hw]
     unfold DP.wcode at hc
     rw [if_pos hw] at hc
     split
     · next hx => rw [if_pos hx] at hc; cases hc
     · rfl
    refine ⟨doWrite_up hc h1, fun i hi => ?_, fun e => ?_⟩
    · rw [hwd, get_write]
      by_cases e : i = k
      · rw [if_pos (by rw [e])]; exact noGen_0 g0
      · rw [if_neg (by omega)]; exact h2 i (by omega)
    · rw [if_pos hc] at e; cases e
  · rw [wipeN_skip hc0 hg]
    refine ⟨h1, fun i hi => ?_, h3⟩
    by_cases e : i = k
    · subst e
      have : sct (wipeN p l i).1 l i = (wipeN p l i).1.get ((l.first + l.used + i : Nat) : Int) := if_pos hw
      rw [← this]
      exact hg
    · exact h2 i (by omega)
theorem wipe_inv {a sz g : Nat} (hok : p.Ok) (hd : p.down = false) (hf : a + sz ≤ p.size) (hg : g < 4294967296) (g0 : g ≠ 0)
    (hr : ∀ x : Nat, x < sz → p.fresh (plc (lg0 a sz g) x) ≠ none → valL ((p.get (plc (lg0 a sz g) x)).take 4) = g) (hc : (wipeL p (lg0 a sz g)).2 = 0) :
    (wipeL p (lg0 a sz g)).1.down = false ∧ Inv (wipeL p (lg0 a sz g)).1 (lg0 a sz g) [] 0 [] 0 (fun _ => none) := by
 have hops := wipe_ops p (lg0 a sz g) (Nat.zero_le _)
 obtain ⟨ho1, ho2⟩ := hops.ok hok
 have hc0 : (wipeN p (lg0 a sz g) sz).2.2 = 0 := by
  refine Classical.byContradiction fun hne => ?_
  unfold wipeL at hc
  simp only at hc
  rw [show (lg0 a sz g).size - (lg0 a sz g).used = sz from rfl, if_pos hne] at hc
  exact hne hc
 obtain ⟨h1, h2, h3⟩ := wipeN_any (l := lg0 a sz g) hok hd hf g0 sz (by show 0 + sz ≤ sz; omega) hc0
 have key : (wipeL p (lg0 a sz g)).1.down = false ∧ ∀ x : Nat, x < sz → (wipeL p (lg0 a sz g)).1.fresh (plc (lg0 a sz g) x) = none ∧ NoGen g ((wipeL p (lg0 a sz g)).1.get (plc (lg0 a sz g) x)) := by
  have hat : ∀ x : Nat, (((lg0 a sz g).first + (lg0 a sz g).used + x : Nat) : Int) = plc (lg0 a sz g) x := fun x => rfl
  unfold wipeL
  simp only
  rw [show (lg0 a sz g).size - (lg0 a sz g).used = sz from rfl, if_neg (by rw [hc0]; simp)]
  by_cases hw : (wipeN p (lg0 a sz g) sz).2.1 = true
  · rw [if_pos hw]
    refine ⟨by show (DP.doSync _).down = _; rw [doSync_down]; exact h1, fun x hx => ?_⟩
    unfold DP.doSync
    rw [if_neg (by rw [h1]; simp)]
    exact ⟨rfl, by show NoGen g (DP.get (DP.sync _) _); rw [get_sync]; exact h2 x hx⟩
  · rw [if_neg hw]
    have e := h3 (by simpa using hw)
    refine ⟨h1, fun x hx => ?_⟩
    have h4 := h2 x hx
    show (wipeN p (lg0 a sz g) sz).1.fresh _ = none ∧ NoGen g ((wipeN p (lg0 a sz g) sz).1.get _)
    rw [e] at h4 ⊢
    refine ⟨Classical.byContradiction fun hne => h4 (hr x hx hne), h4⟩
 refine ⟨key.1, ⟨ho1, lg0_ok (by rw [ho2]; exact hf) hg, rfl, g0, fun x hx => (by cases hx), Nat.zero_le _, .inl rfl, Nat.le_refl _, ⟨fun j hj => absurd hj (by simp), fun i hi => absurd hi (by omega), fun _ _ => rfl⟩, fun x hx => .inl (key.2 x hx).1, fun x hx => .inr ?_, fun j hj => absurd hj (by simp), fun x hx S hS => (by cases hS)⟩⟩
 rw [← get_clean (key.2 x hx).1]
 exact (key.2 x hx).2
end
end Go.Proofs.YtpifnmlnhddgeaaGreatDoor
namespace Go.Proofs.YtpifnmlnhddgeaaGreatDoor
set_option linter.unusedVariables false
set_option linter.unusedSimpArgs false
set_option linter.constructorNameAsVariable false
open Go.RowKit Go.Sort Go.Maps
structure TOk (T : CT) : Prop where
 nd : (T.map Prod.fst).Nodup
 el : ∀ e ∈ T, (1 ≤ e.1.length ∧ e.1.length ≤ 16 ∧ Byt e.1) ∧ e.2.length ≤ 16384 ∧ Byt e.2
def PcB (c : PC) : Prop := Byt c.k ∧ Byt c.v
section
variable {T T' : CT} {c : PC} {L : List PC}
theorem TOk.kn (h : TOk T) : Kn T := ⟨h.nd, fun e he => (h.el e he).1.2.2⟩
theorem TOk.perm (h : TOk T) (hp : T.Perm T') : TOk T' := ⟨((hp.map Prod.fst).nodup_iff).1 h.nd, fun e he => h.el e (hp.mem_iff.2 he)⟩
theorem TOk.nil : TOk [] := ⟨by simp, fun e he => by cases he⟩
theorem TOk.sct (h : TOk T) : TOk (sct_l19 T) := h.perm (sct_perm T).symm
theorem pcOk_spec (h : pcOk c = true) : 1 ≤ c.k.length ∧ c.k.length ≤ 16 ∧ c.v.length ≤ 16384 ∧ (c.d = true → c.v.length = 0) := by
 unfold pcOk at h
 simp only [Bool.and_eq_true, decide_eq_true_eq, Bool.not_eq_true', Bool.and_eq_false_iff] at h
 obtain ⟨⟨⟨h1, h2⟩, h3⟩, h4⟩ := h
 refine ⟨h1, h2, h3, fun hd => ?_⟩
 rcases h4 with h4 | h4
 · rw [hd] at h4; cases h4
 · have := of_decide_eq_false h4; omega
theorem pcsOk_spec (h : pcsOk L = true) : 1 ≤ L.length ∧ L.length ≤ 600 ∧ ∀ c ∈ L, pcOk c = true := by
 unfold pcsOk at h
 simp only [Bool.and_eq_true, decide_eq_true_eq, List.all_eq_true] at h
 exact ⟨h.1.1, h.1.2, h.2⟩
theorem TOk.doP (h : TOk T) (hc : pcOk c = true) (hb : PcB c) : TOk (doP T c) := by
 obtain ⟨h1, h2, h3, -⟩ := pcOk_spec hc
 unfold Go.Proofs.YtpifnmlnhddgeaaGreatDoor.doP
 split
 · exact ⟨(h.kn.del c.k).nd, fun e he => h.el e (List.mem_filter.1 he).1⟩
 · refine ⟨(h.kn.put (k := c.k) (v := c.v) hb.1).nd, fun e he => ?_⟩
   rcases List.mem_append.1 he with he | he
   · exact h.el e (List.mem_filter.1 he).1
   · rw [List.mem_singleton.1 he]
     exact ⟨⟨h1, h2, hb.1⟩, h3, hb.2⟩
theorem TOk.doPs : ∀ {L : List PC} {T : CT}, TOk T → (∀ c ∈ L, pcOk c = true) → (∀ c ∈ L, PcB c) → TOk (doPs T L)
 | [], _, h, _, _ => h
 | c :: L, T, h, h1, h2 => TOk.doPs (L := L) (h.doP (h1 c (List.mem_cons_self ..)) (h2 c (List.mem_cons_self ..))) (fun x hx => h1 x (List.mem_cons_of_mem _ hx)) (fun x hx => h2 x (List.mem_cons_of_mem _ hx))
theorem doP_perm (h : T.Perm T') (c : PC) : (doP T c).Perm (doP T' c) := by
 unfold doP cput cdel
 split
 · exact h.filter _
 · exact (h.filter _).append (List.Perm.refl _)
theorem doPs_perm : ∀ (L : List PC) {T T' : CT}, T.Perm T' → (doPs T L).Perm (doPs T' L)
 | [], _, _, h => h
 | c :: L, _, _, h => doPs_perm L (doP_perm h c)
theorem doPs_app (T : CT) (L M : List PC) : doPs T (L ++ M) = doPs (doPs T L) M := List.foldl_append ..
theorem doPs_puts : ∀ (P T : CT), ((T ++ P).map Prod.fst).Nodup → doPs T (P.map kvP) = T ++ P
 | [], T, _ => by simp [doPs]
 | e :: P, T, h => by
  have hne : e.1 ∉ T.map Prod.fst := fun hm => by
   rw [List.map_append, List.nodup_append] at h
   exact h.2.2 e.1 hm e.1 (by simp) rfl
  have h1 : doP T (kvP e) = T ++ [e] := by
   unfold doP kvP cput
   simp only [Bool.false_eq_true, if_false]
   rw [cdel_none hne]
  have h2 := doPs_puts P (T ++ [e]) (by rw [List.append_assoc]; exact h)
  show doPs (doP T (kvP e)) (P.map kvP) = _
  rw [h1, h2, List.append_assoc]
  rfl
def chOf (c : PC) : Ch := ⟨⟨none, c.k.length, 0, c.k⟩, ⟨none, c.v.length, 0, c.v⟩, c.d⟩
theorem chOf_map (L : List PC) : (L.map chOf).map pcOf = L := by
 rw [List.map_map]
 exact List.map_id _
theorem chOf_len (L : List PC) : LenOk (L.map chOf) := fun c hc => by
 obtain ⟨x, -, rfl⟩ := List.mem_map.1 hc
 exact ⟨rfl, rfl⟩
theorem parse_putP (h : pcsOk L = true) : parseB (putP L) = some L := by
 have h1 := putP_of (chOf_len L)
 rw [chOf_map] at h1
 have h2 : chsOk (L.map chOf) = true := by rw [← pcsOk_len (chOf_len L), chOf_map]; exact h
 rw [← h1, parse_put (chOf_len L) h2, chOf_map]
theorem chP_byt (hb : PcB c) : Byt (chP c) := by
 intro x hx
 unfold chP at hx
 simp only [List.mem_append, List.mem_singleton] at hx
 rcases hx with ((hx | hx) | hx) | hx
 · rw [hx]; split <;> omega
 · exact beL_byt _ _ x hx
 · exact hb.1 x hx
 · split at hx
   · cases hx
   · rcases List.mem_append.1 hx with hx | hx
     · exact beL_byt _ _ x hx
     · exact hb.2 x hx
theorem putP_byt (hb : ∀ c ∈ L, PcB c) : Byt (putP L) := by
 intro x hx
 unfold putP at hx
 rcases List.mem_append.1 hx with hx | hx
 · exact beL_byt _ _ x hx
 · obtain ⟨c, hc, hx⟩ := List.mem_flatMap.1 hx
   exact chP_byt (hb c hc) x hx
theorem chP_le (c : PC) : (chP c).length ≤ 5 + c.k.length + c.v.length := by
 unfold chP
 simp only [List.length_append, beL_len, List.length_cons, List.length_nil]
 split <;> simp [beL_len] <;> omega
theorem putP_le (L : List PC) : (putP L).length ≤ 2 + (L.map fun c => 5 + c.k.length + c.v.length).sum := by
 unfold putP
 rw [List.length_append, beL_len]
 induction L with
 | nil => simp
 | cons c L ih =>
  have := chP_le c
  rw [List.flatMap_cons, List.length_append, List.map_cons, List.sum_cons]
  omega
theorem putP_two (L : List PC) : 2 ≤ (putP L).length := by unfold putP; rw [List.length_append, beL_len]; omega
theorem spl_sum {α : Type} (f : α → Nat) (L : List α) : ∀ l ∈ rws (spl f L), (l.map f).sum ≤ 8190 ∨ ∃ y, l = [y] := by
 suffices h : ∀ (s : Option (List (List α) × List α)), (∀ l ∈ rws s, (l.map f).sum ≤ 8190 ∨ ∃ y, l = [y]) → ∀ l ∈ rws (L.foldl (spS f) s), (l.map f).sum ≤ 8190 ∨ ∃ y, l = [y] from h none (by simp [rws])
 induction L with
 | nil => intro s h; exact h
 | cons y L ih =>
  intro s h
  rw [List.foldl_cons]
  refine ih _ ?_
  rcases s with _ | ⟨C, l⟩
  · simp [spS, rws]
  · simp only [spS]
    have hC : ∀ x ∈ C, (x.map f).sum ≤ 8190 ∨ ∃ y, x = [y] := fun x hx => h x (by simp [rws, hx])
    have hl := h l (by simp [rws])
    split
    · next hc =>
      intro x hx
      simp only [rws, List.mem_append, List.mem_singleton] at hx
      rcases hx with hx | rfl
      · exact hC x hx
      · exact .inl (by simp; omega)
    · intro x hx
      simp only [rws, List.mem_append, List.mem_singleton] at hx
      rcases hx with (hx | rfl) | rfl
      · exact hC x hx
      · exact hl
      · exact .inr ⟨_, rfl⟩
theorem bat_rows (h : TOk T) : ∀ L ∈ batP T, pcsOk L = true ∧ (∀ c ∈ L, PcB c) ∧ (putP L).length ≤ 65536 := by
 intro L hL
 obtain ⟨r, hr, rfl⟩ := List.mem_map.1 hL
 have hmem : ∀ e ∈ r, e ∈ sct_l19 T := fun e he => by
  rw [← spl_flat sz1 (sct_l19 T)]
  exact List.mem_flatten.2 ⟨r, hr, he⟩
 have hel := fun e he => h.sct.el e (hmem e he)
 have hlen := spl_rows sz1 _ r hr
 refine ⟨?_, fun c hc => ?_, ?_⟩
 · unfold pcsOk
   simp only [Bool.and_eq_true, decide_eq_true_eq, List.all_eq_true, List.length_map]
   refine ⟨hlen, fun c hc => ?_⟩
   obtain ⟨e, he, rfl⟩ := List.mem_map.1 hc
   obtain ⟨⟨h1, h2, -⟩, h3, -⟩ := hel e he
   unfold pcOk kvP
   simp only [Bool.false_and, Bool.not_false, Bool.and_true, Bool.and_eq_true, decide_eq_true_eq]
   exact ⟨⟨h1, h2⟩, h3⟩
 · obtain ⟨e, he, rfl⟩ := List.mem_map.1 hc
   obtain ⟨⟨-, -, h1⟩, -, h2⟩ := hel e he
   exact ⟨h1, h2⟩
 · have hle := putP_le (r.map kvP)
   have hs : ((r.map kvP).map fun c => 5 + c.k.length + c.v.length).sum = (r.map sz1).sum := by rw [List.map_map]; rfl
   rw [hs] at hle
   rcases spl_sum sz1 _ r hr with h1 | ⟨y, rfl⟩
   · omega
   · obtain ⟨⟨h1, h2, -⟩, h3, -⟩ := hel y (by simp)
     simp only [List.map_cons, List.map_nil, List.sum_cons, List.sum_nil, sz1] at hle
     show (putP [kvP y]).length ≤ 65536
     omega
theorem rec_of {b : List Int} (h1 : 1 ≤ b.length) (h2 : b.length ≤ 65536) (hb : Byt b) : RecOk b := ⟨by rw [secN_in h1 h2]; omega, hb⟩
theorem bat_rec (h : TOk T) : ∀ b ∈ (batP T).map putP, RecOk b := fun b hb => by
 obtain ⟨L, hL, rfl⟩ := List.mem_map.1 hb
 obtain ⟨h1, h2, h3⟩ := bat_rows h L hL
 exact rec_of (by have := putP_two L; omega) h3 (putP_byt h2)
theorem bat_flat (T : CT) : (batP T).flatten = (sct_l19 T).map kvP := by
 unfold batP
 rw [← List.map_flatten, spl_flat]
theorem prsAll_puts : ∀ (LL : List (List PC)) (T : CT), (∀ L ∈ LL, pcsOk L = true) → prsAll T (LL.map putP) = some (doPs T LL.flatten)
 | [], T, _ => rfl
 | L :: LL, T, h => by
  rw [List.map_cons]
  unfold prsAll
  rw [parse_putP (h L (List.mem_cons_self ..))]
  simp only
  rw [prsAll_puts LL (doPs T L) fun x hx => h x (List.mem_cons_of_mem _ hx), List.flatten_cons, doPs_app]
theorem prsAll_bat (h : TOk T) : prsAll [] ((batP T).map putP) = some (sct_l19 T) := by
 rw [prsAll_puts _ _ fun L hL => (bat_rows h L hL).1, bat_flat, doPs_puts (sct_l19 T) [] h.sct.nd]
 rfl
theorem prsAll_snoc : ∀ (K : List (List Int)) (T : CT) {T2 : CT} {L : List PC}, prsAll T K = some T2 → pcsOk L = true → prsAll T (K ++ [putP L]) = some (doPs T2 L)
 | [], T, T2, L, h, hL => by
  injection h with h
  subst h
  show prsAll T [putP L] = _
  unfold prsAll
  rw [parse_putP hL]
  rfl
 | b :: K, T, T2, L, h, hL => by
  unfold prsAll at h
  rw [List.cons_append]
  unfold prsAll
  cases hp : parseB b with
  | none => rw [hp] at h; cases h
  | some M => rw [hp] at h; exact prsAll_snoc K (doPs T M) h hL
end
end Go.Proofs.YtpifnmlnhddgeaaGreatDoor
namespace Go.Proofs.YtpifnmlnhddgeaaGreatDoor
set_option linter.unusedVariables false
set_option linter.unusedSimpArgs false
set_option linter.constructorNameAsVariable false
open Go.RowKit Go.Sort Go.Maps
structure SOk (s : SW) (K : List (List Int)) : Prop where
 ok : s.p.Ok
 n4 : 4 ≤ s.p.size
 g1 : 1 ≤ s.gen
 g2 : s.gen < 4294967296
 man : s.p.fresh ((s.gen % 2 : Nat) : Int) = none ∧ sureC s.p ((s.gen % 2 : Nat) : Int) = manB s.gen
 oth : s.p.fresh (((s.gen + 1) % 2 : Nat) : Int) = none ∧ (sureC s.p (((s.gen + 1) % 2 : Nat) : Int) = sec0 ∨ ∃ g, g < s.gen ∧ sureC s.p (((s.gen + 1) % 2 : Nat) : Int) = manB g)
 log : s.l = { chain (log0 s.p.size s.gen) K with broken := s.l.broken }
 lb : s.broken = false → s.l.broken = false
 inv : ∃ b m T, (m = 0 ∨ m < secN b.length) ∧ (s.broken = false → m = 0) ∧ Inv s.p (log0 s.p.size s.gen) K K.length b m T
 rest : s.broken = false → ∀ x : Nat, x < hlf s.p.size → s.p.fresh (plc (log0 s.p.size (s.gen + 1)) x) ≠ none → valL ((s.p.get (plc (log0 s.p.size (s.gen + 1)) x)).take 4) = s.gen + 1
 up : s.broken = false → s.p.down = false
 tab : ∃ t, prsAll [] K = some t ∧ t.Perm s.t
 tok : TOk s.t
theorem reg_man {n g a : Nat} (ha : a < 2) : ¬ Reg (log0 n g) (a : Int) := fun ⟨x, hx, e⟩ => by
 unfold plc at e
 have : 2 ≤ (log0 n g).first := by show 2 ≤ fst0 g n; unfold fst0; omega
 omega
theorem reg_apart {n g g' : Nat} (h : g % 2 ≠ g' % 2) {x : Nat} (hx : x < hlf n) : ¬ Reg (log0 n g') (plc (log0 n g) x) := fun ⟨y, hy, e⟩ => by
 have h1 := fst0_apart (n := n) h hx (show y < hlf n from hy)
 unfold plc at e
 have e2 : fst0 g n + x = fst0 g' n + y := by
  have : (((log0 n g).first + x : Nat) : Int) = (((log0 n g').first + y : Nat) : Int) := e
  exact Int.ofNat.inj this
 exact h1 e2
theorem out_keeps {p q : DP} {a : Int} (h : Out p q a) (hf : p.fresh a = none) : q.fresh a = none ∧ sureC q a = sureC p a := by
 rcases h with ⟨h1, h2⟩ | ⟨h1, h2⟩
 · exact ⟨by rw [h1]; exact hf, by unfold sureC; rw [h2]⟩
 · exact ⟨h1, by rw [h2, get_clean hf]⟩
section
variable {s : SW} {K : List (List Int)} {q : DP}
theorem SOk.away (h : SOk s K) (hok : q.Ok) (hz : q.size = s.p.size) (ho : ∀ a, ¬ Reg (log0 s.p.size (s.gen + 1)) a → Out s.p q a) (bk : Bool)
    (hb : bk = false → s.broken = false ∧ q.down = false ∧ ∀ x : Nat, x < hlf s.p.size → q.fresh (plc (log0 s.p.size (s.gen + 1)) x) ≠ none → valL ((q.get (plc (log0 s.p.size (s.gen + 1)) x)).take 4) = s.gen + 1) :
    SOk { s with p := q, broken := bk } K := by
 have m1 := out_keeps (ho _ (reg_man (a := s.gen % 2) (by omega))) h.man.1
 have m2 := out_keeps (ho _ (reg_man (a := (s.gen + 1) % 2) (by omega))) h.oth.1
 obtain ⟨b, m, T, h1, h2, h3⟩ := h.inv
 refine ⟨hok, by show 4 ≤ q.size; rw [hz]; exact h.n4, h.g1, h.g2, ⟨m1.1, m1.2.trans h.man.2⟩, ⟨m2.1, by rw [show sureC q _ = _ from m2.2]; exact h.oth.2⟩, ?_, fun e => h.lb (hb e).1, ⟨b, m, T, h1, fun e => h2 (hb e).1, ?_⟩, fun e => ?_, fun e => (hb e).2.1, h.tab, h.tok⟩
 · show s.l = { chain (log0 q.size s.gen) K with broken := s.l.broken }
   rw [hz]
   exact h.log
 · show Inv q (log0 q.size s.gen) K K.length b m T
   rw [hz]
   exact h3.out hok hz fun x hx => ho _ (reg_apart (by omega) hx)
 · show ∀ x : Nat, x < hlf q.size → q.fresh (plc (log0 q.size (s.gen + 1)) x) ≠ none → _
   rw [hz]
   exact (hb e).2.2
theorem SOk.g0 (h : SOk s K) : s.gen ≠ 0 := by have := h.g1; omega
theorem cut_sure {p : DP} (h : p.Ok) (keep : List Bool) {a : Int} (hf : p.fresh a = none) : (p.cut keep).get a = sureC p a := by
 have e : (p.cut keep).get a = (cutS p keep p.order.length a).getD sec0 := rfl
 rw [e]
 rcases cut_or h keep p.order.length (Nat.le_refl _) a with h1 | ⟨h1, -⟩
 · rw [h1]; rfl
 · exact absurd hf h1
theorem man1_at {p : DP} {a g : Nat} (ha : a < p.size) (hg : p.get (a : Int) = manB g) (h : g < 4294967296) : man1 p a = if g % 2 = a then g else 0 := by
 have e : p.rget (a : Int) = manB g := by
  unfold DP.rget DP.within
  rw [decide_eq_true ⟨by omega, by omega⟩, if_pos rfl]
  exact hg
 unfold man1
 rw [e, manB_num h]
 simp
theorem man1_0 {p : DP} {a : Nat} (ha : a < p.size) (hg : p.get (a : Int) = sec0) : man1 p a = 0 := by
 have e : p.rget (a : Int) = sec0 := by
  unfold DP.rget DP.within
  rw [decide_eq_true ⟨by omega, by omega⟩, if_pos rfl]
  exact hg
 unfold man1
 rw [e]
 have : valL (sec0.take 4) = 0 := rfl
 rw [this]
 split <;> rfl
theorem cnt_of {p : DP} {g : Nat} (h4 : 4 ≤ p.size) (h : g < 4294967296) (h1 : p.get ((g % 2 : Nat) : Int) = manB g) (h2 : p.get (((g + 1) % 2 : Nat) : Int) = sec0 ∨ ∃ g', g' < g ∧ p.get (((g + 1) % 2 : Nat) : Int) = manB g') : cnt p = g := by
 have a1 : man1 p (g % 2) = g := by rw [man1_at (by omega) h1 h, if_pos rfl]
 have a2 : man1 p ((g + 1) % 2) ≤ g := by
  rcases h2 with h2 | ⟨g', h3, h2⟩
  · rw [man1_0 (by omega) h2]; omega
  · rw [man1_at (by omega) h2 (by omega)]
    split <;> omega
 unfold cnt
 have hp : g % 2 = 0 ∨ g % 2 = 1 := by omega
 rcases hp with hp | hp
 · rw [hp] at a1
   rw [show (g + 1) % 2 = 1 by omega] at a2
   rw [a1]
   exact Nat.max_eq_left a2
 · rw [hp] at a1
   rw [show (g + 1) % 2 = 0 by omega] at a2
   rw [a1]
   exact Nat.max_eq_right a2
theorem SOk.open_ (h : SOk s K) (keep : List Bool) : ∃ s', opnS (s.p.cut keep) = (s'.p, 0, some s') ∧ SOk s' K ∧ s'.gen = s.gen ∧ s'.broken = false ∧ s'.t.Perm s.t ∧ s'.p.size = s.p.size := by
 obtain ⟨b, m, T, h1, -, h3⟩ := h.inv
 have hR := h3.cut h1 keep
 have hz : (s.p.cut keep).size = s.p.size := rfl
 have hc : cnt (s.p.cut keep) = s.gen := by
  refine cnt_of (by rw [hz]; exact h.n4) h.g2 (by rw [cut_sure h.ok keep h.man.1]; exact h.man.2) ?_
  rw [cut_sure h.ok keep h.oth.1]
  exact h.oth.2
 obtain ⟨j, j1, j2, j3, j4⟩ := hR.run
 have hj : j = K.length := by omega
 subst hj
 rw [List.take_length] at j3
 obtain ⟨w1, w2, w3, w4⟩ := hR.wipe (Nat.le_refl _) j4
 rw [List.take_length] at w1 w2 w3 w4
 obtain ⟨t, t1, t2⟩ := h.tab
 obtain ⟨q, hq⟩ : ∃ q, q = (wipeL (s.p.cut keep) (chain (log0 s.p.size s.gen) K)).1 := ⟨_, rfl⟩
 have hops : Ops (Reg (chain (log0 s.p.size s.gen) K)) (s.p.cut keep) q := by
  rw [hq]
  refine wipe_ops _ _ ?_
  rw [(chain_same _ K).2.1]
  exact h3.room
 rw [← hq] at w2 w3 w4
 have hreg : ∀ a, Reg (chain (log0 s.p.size s.gen) K) a → Reg (log0 s.p.size s.gen) a := fun a ⟨x, hx, e⟩ => by
  rw [(chain_same _ K).2.1] at hx
  unfold plc at e
  rw [(chain_same _ K).1] at e
  exact ⟨x, hx, e⟩
 have hout := fun a ha => (hops.mono hreg).out (a := a) ha
 have hsz : q.size = s.p.size := w3
 obtain ⟨T', w4⟩ : ∃ T', Inv q (log0 s.p.size s.gen) K K.length [] 0 T' := ⟨_, w4⟩
 have m1 := out_keeps (hout _ (reg_man (a := s.gen % 2) (by omega))) rfl
 have m2 := out_keeps (hout _ (reg_man (a := (s.gen + 1) % 2) (by omega))) rfl
 have e1 : sureC (s.p.cut keep) ((s.gen % 2 : Nat) : Int) = manB s.gen := by rw [← get_clean (p := s.p.cut keep) rfl, cut_sure h.ok keep h.man.1]; exact h.man.2
 have e2 : sureC (s.p.cut keep) (((s.gen + 1) % 2 : Nat) : Int) = sureC s.p (((s.gen + 1) % 2 : Nat) : Int) := by rw [← get_clean (p := s.p.cut keep) rfl, cut_sure h.ok keep h.oth.1]
 refine ⟨⟨q, chain (log0 s.p.size s.gen) K, t, s.gen, false⟩, ?_, ?_, rfl, rfl, t2, hsz⟩
 · unfold opnS
   rw [if_neg (by rw [hz]; have := h.n4; omega), hc, if_neg h.g0]
   simp only
   rw [show (s.p.cut keep).size = s.p.size from rfl, j3]
   simp only
   rw [t1, ← hq]
 · refine ⟨w2.ok, by show 4 ≤ q.size; rw [hsz]; exact h.n4, h.g1, h.g2, ⟨m1.1, m1.2.trans e1⟩, ⟨m2.1, by rw [show sureC q _ = _ from m2.2, e2]; exact h.oth.2⟩, ?_, fun _ => ?_, ⟨[], 0, T', .inl rfl, fun _ => rfl, ?_⟩, fun _ x _ hx => absurd (w2.fresh _) hx, fun _ => w2.up, ⟨t, t1, List.Perm.refl _⟩, h.tok.perm t2.symm⟩
   · show chain (log0 s.p.size s.gen) K = { chain (log0 q.size s.gen) K with broken := (chain (log0 s.p.size s.gen) K).broken }
     rw [hsz]
   · show (chain (log0 s.p.size s.gen) K).broken = false
     rw [(chain_same _ K).2.2.2]
     rfl
   · show Inv q (log0 q.size s.gen) K K.length [] 0 _
     rw [hsz]
     exact w4
end
end Go.Proofs.YtpifnmlnhddgeaaGreatDoor
