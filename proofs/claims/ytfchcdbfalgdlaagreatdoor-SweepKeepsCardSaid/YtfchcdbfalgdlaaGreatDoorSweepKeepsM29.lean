/- Texts of one proof, one behind the other: LjA, LjB. No condition but each one's own. -/
import Derived.Test.YtfchcdbfalgdlaaGreatDoorSweepKeepsM15
import Derived.Test.YtfchcdbfalgdlaaGreatDoorSweepKeepsM28
import Derived.Test.YtfchcdbfalgdlaaGreatDoorSweepKeepsM5
import Derived.Test.YtfchcdbfalgdlaaGreatDoorSweepKeepsM9
import Derived.Test.YtfchcdbfalgdlaaGreatDoorSweepKeepsM4
import Derived.Test.YtfchcdbfalgdlaaGreatDoorSweepKeepsM13
import Derived.Test.YtfchcdbfalgdlaaGreatDoorSweepKeepsM10
namespace Go.Proofs.YtfchcdbfalgdlaaGreatDoor
set_option linter.unusedVariables false
set_option linter.unusedSimpArgs false
set_option linter.constructorNameAsVariable false
open Go.RowKit Go.Sort Go.Maps
attribute [local go_sem] Oper.semAt_some
theorem Dk.puts {B : Nat} {w w' : World} {base g bs bf : Nat} {v : Value} {p : DP} (h : Dk w base g bs bf v p) (hp : Puts B w w') (h1 : bs < B) (h2 : bf < B) : Dk w' base g bs bf v p :=
 have hF : Fr (fun j => B ≤ j) w w' := hp.fr (fun _ h => h)
 ⟨hp.blk h.blk, h.ms.fr hF (by omega), h.mw.fr hF (by omega), hp.own h.own, h.ne, h.lo, h.ok⟩
theorem DkOurs.is_cells {w : World} {base g bs bf B : Nat} {v : Value} {p : DP} (h : Dk w base g bs bf v p) (hg : g < B) (h1 : bs < B) (h2 : bf < B) : ∀ k o, B ≤ k → DkOurs g bs bf v k → w.heap[k]? = some o → o.isCells = true := by
 rintro k o hk (rfl | rfl | rfl | hs) ho
 · omega
 · omega
 · omega
 · obtain ⟨cs, fz, hc⟩ := own_isT' h.own hs
   rw [hc] at ho
   injection ho with ho
   rw [← ho]
   rfl
theorem Shut.fr {B : Nat} {W W' : World} (h : Shut B W W') : Fr (fun k => B ≤ k ∧ ∀ o, W.heap[k]? = some o → o.isCells = false) W W' :=
 ⟨h.below.os, h.below.tape, h.below.output, h.below.size, fun k hk hs => by
  by_cases hb : k < B
  · exact h.below.block k hb
  · obtain ⟨o, ho⟩ : ∃ o, W.heap[k]? = some o := ⟨_, Array.getElem?_eq_getElem hk⟩
    cases hc : o.isCells with
    | true => rw [h.cells k o ho hc, ho]
    | false => exact absurd ⟨by omega, fun o' ho' => by rw [ho] at ho'; injection ho' with e; rw [← e]; exact hc⟩ hs⟩
theorem DkTo.shut {B : Nat} {w W W' : World} {base g bs bf : Nat} {v v' : Value} {p : DP} (h : DkTo w base g bs bf v p W v') (hS : Shut B W W') (hB : w.heap.size ≤ B) (hg : g < B) (h1 : bs < B) (h2 : bf < B) : DkTo w base g bs bf v p W' v' :=
 ⟨h.dk.fr hS.fr (fun k hk ho => by
  obtain ⟨o, hko⟩ : ∃ o, W.heap[k]? = some o := ⟨_, Array.getElem?_eq_getElem (h.dk.ours k ho).2⟩
  have := DkOurs.is_cells h.dk hg h1 h2 k o hk.1 ho hko
  rw [hk.2 o hko] at this
  cases this), h.fr.trans' hS.fr (fun k hk ho => by have := ho.1; omega), h.own⟩
theorem writeN_bad {p : DP} {l : LG} {b : List Int} {k : Nat} (h : (writeN p l b k).2 ≠ 0) : ∀ j, writeN p l b (k + j) = writeN p l b k
 | 0 => rfl
 | j + 1 => by
  have ih := writeN_bad h j
  rw [← Nat.add_assoc]
  show (if (writeN p l b (k + j)).2 ≠ 0 then writeN p l b (k + j) else _) = _
  rw [ih, if_pos h]
theorem writeN_go {p : DP} {l : LG} {b : List Int} {k : Nat} (h : (writeN p l b k).2 = 0) : writeN p l b (k + 1) = ((writeN p l b k).1.doWrite ((l.first + l.used + k : Nat) : Int) (l.sec b k), (writeN p l b k).1.wcode ((l.first + l.used + k : Nat) : Int)) := by
 show (if (writeN p l b k).2 ≠ 0 then writeN p l b k else _) = _
 rw [if_neg (by rw [h]; simp)]
theorem DkTo.st {w W W' : World} {base g bs bf : Nat} {v v' : Value} {p : DP} (h : DkTo w base g bs bf v p W v') {b : Nat} (hF : Fr (fun k => k = b) W W') (hb : w.heap.size ≤ b) (hn : ¬ DkOurs g bs bf v' b) : DkTo w base g bs bf v p W' v' :=
 ⟨h.dk.fr hF (fun k hk => by rw [hk]; exact hn), h.fr.trans' hF (fun k hk ho => by omega), h.own⟩
theorem atOpIn {F : Fence} {n : Nat} {P : Program} {ops : Array Oper} {rest : List Oper} {a : Act} {w : World} {Q : Exit → Act → World → Prop} (o : Oper) (h : wpListIn F n P ops Q (o :: rest) a w) : wpListIn F n P ops Q (o :: rest) a w := h
structure WrI (w w3 : World) (base gl g bs bf : Nat) (v : Value) (p : DP) (l : LG) (b : List Int) (b2 b4 b5 b6 k : Nat) (W : World) : Prop where
 ok : (writeN p l b k).2 = 0
 dk : ∃ v', DkTo w base g bs bf v (writeN p l b k).1 W v' ∧ ∀ x, v'.ownBlock = some x → x < w.heap.size ∨ w3.heap.size ≤ x
 sz : w3.heap.size ≤ W.heap.size
 b2 : Blk W b2 97 #[.pointer (some ⟨gl, 0, none⟩)]
 b4 : Blk W b4 27 #[.nilIface]
 b5 : Blk W b5 3 #[.int .i64 ((l.used + k : Nat) : Int)]
 b6 : Blk W b6 3 #[.int .i64 (if k = 0 then 1 else 2)]
section
variable {w w3 : World} {base gl g bs bf : Nat} {v : Value} {p : DP} {l : LG} {b : List Int} {b2 b4 b5 b6 k : Nat}
theorem WrI.new {W W' : World} (h : WrI w w3 base gl g bs bf v p l b b2 b4 b5 b6 k W) (hN : New W W') : WrI w w3 base gl g bs bf v p l b b2 b4 b5 b6 k W' := by
 obtain ⟨v', h1, h2⟩ := h.dk
 exact ⟨h.ok, ⟨v', h1.new hN, h2⟩, Nat.le_trans h.sz hN.size, hN.blk h.b2, hN.blk h.b4, hN.blk h.b5, hN.blk h.b6⟩
theorem WrI.puts {W W' : World} (h : WrI w w3 base gl g bs bf v p l b b2 b4 b5 b6 k W) (hp : Puts w3.heap.size W W') (hz : w.heap.size ≤ w3.heap.size) (h1 : bs < w.heap.size) (h2 : bf < w.heap.size) : WrI w w3 base gl g bs bf v p l b b2 b4 b5 b6 k W' := by
 obtain ⟨v', h3, h4⟩ := h.dk
 have hF : Fr (fun j => w3.heap.size ≤ j) W W' := hp.fr (fun _ h => h)
 exact ⟨h.ok, ⟨v', ⟨h3.dk.puts hp (by omega) (by omega), h3.fr.trans' hF (fun k hk ho => by omega), h3.own⟩, h4⟩, Nat.le_trans h.sz hF.size, hp.blk h.b2, hp.blk h.b4, hp.blk h.b5, hp.blk h.b6⟩
end
structure WrE (w w3 : World) (base g bs bf : Nat) (v : Value) (r : DP × Int) (b4 : Nat) (W : World) : Prop where
 dk : ∃ v', DkTo w base g bs bf v r.1 W v' ∧ ∀ x, v'.ownBlock = some x → x < w.heap.size ∨ w3.heap.size ≤ x
 sz : w3.heap.size ≤ W.heap.size
 b4 : Blk W b4 27 #[errD r.2]
section
variable {w w3 : World} {base g bs bf : Nat} {v : Value} {r : DP × Int} {b4 : Nat}
theorem WrE.new {W W' : World} (h : WrE w w3 base g bs bf v r b4 W) (hN : New W W') : WrE w w3 base g bs bf v r b4 W' := by
 obtain ⟨v', h1, h2⟩ := h.dk
 exact ⟨⟨v', h1.new hN, h2⟩, Nat.le_trans h.sz hN.size, hN.blk h.b4⟩
theorem WrE.puts {W W' : World} (h : WrE w w3 base g bs bf v r b4 W) (hp : Puts w3.heap.size W W') (hz : w.heap.size ≤ w3.heap.size) (h1 : bs < w.heap.size) (h2 : bf < w.heap.size) : WrE w w3 base g bs bf v r b4 W' := by
 obtain ⟨v', h3, h4⟩ := h.dk
 have hF : Fr (fun j => w3.heap.size ≤ j) W W' := hp.fr (fun _ h => h)
 exact ⟨⟨v', ⟨h3.dk.puts hp (by omega) (by omega), h3.fr.trans' hF (fun k hk ho => by omega), h3.own⟩, h4⟩, Nat.le_trans h.sz hF.size, hp.blk h.b4⟩
end
theorem part_sec (l : LG) (b : List Int) (k : Nat) : pad64 (beL 4 l.gen ++ beL 4 (l.used + k) ++ beL 1 (if k = 0 then 1 else 2) ++ ((l.frame b).drop (55 * k)).take 55) = l.sec b k := by
 unfold LG.sec LG.raw LG.hdr
 congr 1
 congr 1
 congr 1
 split <;> rfl
set_option maxHeartbeats 4000000 in
set_option maxRecDepth 100000 in
theorem write_log {w : World} {base gl gd bs bf : Nat} {v : Value} {p : DP} {l : LG} (h : Lg w gl gd l p.size) (hD : Dk w base gd bs bf v p) (b : List Int) (hb : Byt b) (g o N c K : Nat) (hN : N = (l.frame b).length) (hc : N ≤ c) (hcm : c ≤ maxLen) (hN1 : N ≤ 1000000000) (hK : K = chN N 55) (hroom : l.used + K ≤ l.size)
    (hg : IsT 5 w g) (hR : ∀ j x, (u8s (l.frame b))[j]? = some x → w.cell? ⟨g, o + j, none⟩ = some x) :
    Calls Tryz.prog 149 #[.pointer (some ⟨gl, 0, none⟩), .slice (some ⟨g, o, none⟩) N c] w (WipeSays w base gd bs bf v (writeN p l b K)) := by
 have HLG := Lib.hid h
 have HD := Lib.hid hD
 have HB := Lib.hid hb
 have HNN := Lib.hid hN
 have HKK := Lib.hid hK
 have HCC : Hid (N ≤ c ∧ c ≤ maxLen ∧ N ≤ 1000000000) := Lib.hid ⟨hc, hcm, hN1⟩
 have HRM := Lib.hid hroom
 have HG := Lib.hid hg
 have HR := Lib.hid hR
 have c4 := fun o1 o2 => (New.al (New.al (New.refl w) o1) o2).cell_ h.c4
 have hu := h.ok.used
 clear h hD hb hN hK hc hcm hN1 hroom hg hR
 refine (callsIn_wide (n := 3)).1 ?_
 refine callsIn_of_wp_marks Tryz.func149 rfl trivial ?_ rfl
 refine wpIn_wide.2 ?_
 simp only [Tryz.ntmps149, List.size_toArray, List.length_cons, List.length_nil, Nat.reduceAdd, Nat.reduceSub, Array.replicate_succ, Array.replicate_zero, List.push_toArray, List.append_toArray, List.nil_append, List.cons_append]
 go_upto_region 2 with fail
 obtain ⟨w1, hw1⟩ : ∃ w1 : World, w1 = ((((w.alloc (.cells #[.pointer (some ⟨gl, 0, none⟩)] 97)).alloc (.cells #[.nilIface] 27)).alloc (.cells #[.int .i64 l.used] 3)).alloc (.cells #[.int .i64 1] 3)) := ⟨_, rfl⟩
 obtain ⟨b2, hb2⟩ : ∃ b2, b2 = w.heap.size := ⟨_, rfl⟩
 obtain ⟨b4, hb4⟩ : ∃ b4, b4 = w.heap.size + 1 := ⟨_, rfl⟩
 obtain ⟨b5, hb5⟩ : ∃ b5, b5 = w.heap.size + 1 + 1 := ⟨_, rfl⟩
 obtain ⟨b6, hb6⟩ : ∃ b6, b6 = w.heap.size + 1 + 1 + 1 := ⟨_, rfl⟩
 have HN1 : Hid (New w w1) := Lib.hid (by rw [hw1]; exact New.al (New.al (New.al (New.al (New.refl _) _) _) _) _)
 have HB2 : Hid (Blk w1 b2 97 #[.pointer (some ⟨gl, 0, none⟩)]) := Lib.hid (by rw [hw1, hb2]; exact (((Blk.new _ _ _).alloc _).alloc _).alloc _)
 have HB4 : Hid (Blk w1 b4 27 #[.nilIface]) := Lib.hid (by rw [hw1, hb4]; exact ((Blk.new' _ _ _ (by simp)).alloc _).alloc _)
 have HB5 : Hid (Blk w1 b5 3 #[.int .i64 ((l.used + 0 : Nat) : Int)]) := Lib.hid (by rw [hw1, hb5]; exact (Blk.new' _ _ _ (by simp)).alloc _)
 have HB6 : Hid (Blk w1 b6 3 #[.int .i64 (if (0 : Nat) = 0 then 1 else 2)]) := Lib.hid (by rw [hw1, hb6]; exact Blk.new' _ _ _ (by simp))
 have HZ : Hid (b2 = w.heap.size ∧ b4 = w.heap.size + 1 ∧ b5 = w.heap.size + 2 ∧ b6 = w.heap.size + 3 ∧ w1.heap.size = w.heap.size + 4) := Lib.hid ⟨hb2, hb4, hb5, hb6, by rw [hw1]; simp⟩
 rw [← hw1, ← hb6, ← hb5, ← hb4, ← hb2]
 clear hw1 hb2 hb4 hb5 hb6 c4
 go_wp2_with fail
 refine (chunk_any (some ⟨g, o, none⟩) N c 55 (by decide) (by decide) w1).mono ?_
 rintro e w3 ⟨rfl, hw3⟩
 have HN3 : Hid (New w1 w3) := Lib.hid (by rw [hw3]; exact New.al (New.al (New.refl _) _) _)
 have hgv := chunk1_givesQ g o N c 55 w1.heap.size (w1.heap.size + 1) w3 (by rw [hw3]; exact (Blk.new _ _ _).alloc _) (by rw [hw3]; exact Blk.new' _ _ _ (by simp)) (by decide) (by decide) HCC.out.2.2 HCC.out.1 HCC.out.2.1
 have hz3 : w3.heap.size = w1.heap.size + 2 := by rw [hw3]; simp
 have HGV := Lib.hid hgv
 have HZ3 := Lib.hid hz3
 have HLT : Hid (gd < w.heap.size ∧ bs < w.heap.size ∧ bf < w.heap.size ∧ gl < w.heap.size ∧ g < w.heap.size) := Lib.hid ⟨HD.out.blk.lt, HD.out.ms.lt, HD.out.mw.lt, HLG.out.blk.lt, by obtain ⟨cs, fz, hc⟩ := HG.out; exact (Array.getElem?_eq_some_iff.1 hc).1⟩
 have HW3 : Hid (WrI w w3 base gl gd bs bf v p l b b2 b4 b5 b6 0 w3) := Lib.hid
  ⟨rfl, ⟨v, DkTo.same HD.out (HN1.out.tr HN3.out), fun x hx => .inl (HD.out.ours x (.inr (.inr (.inr hx)))).2⟩, Nat.le_refl _, HN3.out.blk HB2.out, HN3.out.blk HB4.out, HN3.out.blk HB5.out, HN3.out.blk HB6.out⟩
 have HLE : Hid (w.heap.size ≤ w3.heap.size) := Lib.hid (by have := HZ.out; omega)
 clear hw3 hgv hz3 HB2 HB4 HB5 HB6
 go_wp2_with fail
 refine wp_rangeQ rfl (enters_of Tryz.func169 (by kernel_rfl) rfl) (fun k : Nat => #[chV g o N 55 k]) (fun _ => rfl) HGV.out (fun x W W' hg hp => trivial) (fun h k => h.tr k) (fun W W' hp => KpC.puts hp (by have := HZ3.out; omega) (by have := HZ3.out; omega))
  (fun pre W => WrI w w3 base gl gd bs bf v p l b b2 b4 b5 b6 pre.length W) (fun s A B h hN => h.new hN) (fun s A B h hp => h.puts hp HLE.out HLT.out.2.1 HLT.out.2.2.1) HW3.out
  (fun W => ∃ k, k < K ∧ (writeN p l b (k + 1)).2 ≠ 0 ∧ WrE w w3 base gd bs bf v (writeN p l b (k + 1)) b4 W) (fun A B ⟨k, h1, h2, h3⟩ hN => ⟨k, h1, h2, h3.new hN⟩) (fun A B ⟨k, h1, h2, h3⟩ hp => ⟨k, h1, h2, h3.puts hp HLE.out HLT.out.2.1 HLT.out.2.2.1⟩) ?a1 ?assign ?body ?done ?ret
 case assign =>
  intro l x W K hK
  gi_wp2
  exact hK
 case body =>
  rintro lp pre k W hpl hI hG rfl
  obtain ⟨k, hk⟩ : ∃ k, k = pre.length := ⟨_, rfl⟩
  rw [← hk] at hpl hI ⊢
  have HKP : Hid (pre.length = k) := Lib.hid hk.symm
  have HKK2 : Hid (k < K ∧ k * 55 < N) := Lib.hid ⟨by rw [HKK.out]; exact hpl, (chN_lt (by decide)).1 hpl⟩
  obtain ⟨v', hTo, hOw⟩ := hI.dk
  have HI := Lib.hid hI
  have HTO := Lib.hid hTo
  have HOW := Lib.hid hOw
  obtain ⟨m, hm⟩ : ∃ m, m = min 55 (N - k * 55) := ⟨_, rfl⟩
  have hcv : chV g o N 55 k = .slice (some ⟨g, o + k * 55, none⟩) m m := by unfold chV; rw [← hm]
  rw [hcv]
  obtain ⟨pt, hpt⟩ : ∃ pt, pt = ((l.frame b).drop (55 * k)).take 55 := ⟨_, rfl⟩
  have HPT : Hid (pt.length = m ∧ m ≤ 55 ∧ Byt pt) := Lib.hid ⟨by rw [hpt, List.length_take, List.length_drop, ← HNN.out, hm, Nat.mul_comm], by omega, by
   rw [hpt]
   intro x hx
   exact l.frame_byt HB.out x (List.mem_of_mem_drop (List.mem_of_mem_take hx))⟩
  have HRP : Hid (Rd (fun _ => True) W 1 (some ⟨g, o + k * 55, none⟩) m (u8s pt)) := Lib.hid ⟨by rw [u8s_len, HPT.out.1, Nat.mul_one], fun _ => ⟨_, rfl, trivial, by have h1 := hTo.fr.size; have h2 := HLT.out; show g < _; omega, fun j u hu => by
   have hj := (List.getElem?_eq_some_iff.1 hu).1
   rw [u8s_len, HPT.out.1] at hj
   have e : (⟨g, o + k * 55, none⟩ : Addr).add j = ⟨g, o + (k * 55 + j), none⟩ := by
    unfold Addr.add
    by_cases hj0 : j = 0 <;> simp [hj0, Nat.add_assoc]
   rw [e]
   refine hTo.fr.cell_some (HR.out _ _ ?_) (dk_notT HD.out (by decide) (by decide) g · HG.out)
   rw [← hu, hpt]
   unfold u8s
   rw [List.getElem?_map, List.getElem?_map, List.getElem?_take_of_lt (by omega), List.getElem?_drop, Nat.mul_comm]⟩⟩
  obtain ⟨kd, hkd⟩ : ∃ kd : Nat, kd = if k = 0 then 1 else 2 := ⟨_, rfl⟩
  obtain ⟨pl, hpl2⟩ : ∃ pl, pl = l.used + k := ⟨_, rfl⟩
  obtain ⟨SL, hSL⟩ : ∃ SL, SL = l.sec b k := ⟨_, rfl⟩
  have HSO : Hid (SecOk SL) := Lib.hid (by rw [hSL]; exact LG.sec_ok l HB.out k)
  have HSL : Hid (SL = l.sec b k) := Lib.hid hSL
  have HSE : Hid (pad64 (beL 4 l.gen ++ beL 4 pl ++ beL 1 kd ++ pt) = SL) := Lib.hid (by rw [hSL, hpl2, hkd, hpt]; exact part_sec l b k)
  have hI5 : Blk W b5 3 #[.int .i64 (pl : Int)] := by rw [hpl2]; exact hI.b5
  have hI6 : Blk W b6 3 #[.int .i64 (kd : Int)] := by
   have e : ((kd : Nat) : Int) = if k = 0 then 1 else 2 := by rw [hkd]; split <;> rfl
   rw [e]
   exact hI.b6
  have HI5 := Lib.hid hI5
  have HI6x := Lib.hid hI6
  have c2 := hI.b2.cell 0
  have c5 := hI5.cell 0
  have c6 := hI6.cell 0
  have HPL : Hid (pl = l.used + k ∧ kd < 256 ∧ pl < 4294967296) := Lib.hid ⟨hpl2, by rw [hkd]; split <;> decide, by have h1 := HRM.out; have h2 := HKK2.out; have h3 := HLG.out.ok.fit; have h4 := HD.out.ok.s2; omega⟩
  have HLGW : Hid (Lg W gl gd l p.size) := Lib.hid (HLG.out.fr hTo.fr (lg_apart HD.out HLG.out))
  clear hTo hOw hI hcv hk hpl hm hpt hkd hpl2 hSL hI5 hI6 hG
  gi_wp2
  refine ⟨trivial, ?_⟩
  refine (CallsIn.inRound lp (callsIn_wide.2 (sector_any HLGW.out pl kd HPL.out.2.2 HPL.out.2.1 (some ⟨g, o + k * 55, none⟩) m m pt HRP.out HPT.out.2.2 HPT.out.2.1))).mono ?_
  rintro e W4 ⟨rfl, hN4⟩
  rw [HSE.out]
  obtain ⟨SA, hSA⟩ : ∃ SA, SA = secA SL := ⟨_, rfl⟩
  have HSA : Hid (SA = secA SL ∧ SA.size = 64 ∧ SA.all (·.oneCell') = true) := Lib.hid (by rw [hSA]; exact ⟨rfl, by rw [secA_size, HSO.out.1], secA_one _⟩)
  rw [← hSA]
  have HN4 : Hid (New W W4) := Lib.hid hN4
  clear hSA hN4 c2 c5 c6
  gi_wp2_with (first
   | ((with_reducible refine atOpIn ⟨some 8, .alloc _, _, _, _, _⟩ ?_); refine wpListIn_alloc_row rfl rfl secInfo ?_; intro b8 W5 hb8 hB8 hN5; have HB8 := Lib.hid hB8; have HN5 := Lib.hid hN5; have HZ8 := Lib.hid hb8; clear hb8 hB8 hN5)
   | ((with_reducible refine atOpIn ⟨none, .store 68 _ _, _, _, _, _⟩ ?_); refine wpListIn_store_any rfl (.tmp 8) (.tmp 24) rfl (by rw [HSA.out.2.1]; rfl) rfl rfl HB8.out (by rw [HSA.out.2.1]; rfl) HSA.out.2.2 ?_; intro W6 hB8 hF6; have HB86 := Lib.hid hB8; have HF6 := Lib.hid hF6; clear hB8 hF6))
  have HN6 : Hid (New W W6) := Lib.hid ((HN4.out.tr HN5.out).fr HF6.out (fun k hk => by have := HZ8.out; have := HN4.out.size; omega))
  have HTO6 : Hid (DkTo w base gd bs bf v (writeN p l b k).1 W6 v') := Lib.hid (HTO.out.new HN6.out)
  have HI6 : Hid (WrI w w3 base gl gd bs bf v p l b b2 b4 b5 b6 k W6) := Lib.hid (HI.out.new HN6.out)
  have HLG6 : Hid (Lg W6 gl gd l p.size) := Lib.hid (HLGW.out.new HN6.out)
  have HI56 : Hid (Blk W6 b5 3 #[.int .i64 (pl : Int)]) := Lib.hid (HN6.out.blk HI5.out)
  have HZW : Hid (w3.heap.size ≤ W.heap.size) := Lib.hid HI.out.sz
  have HZ88 : Hid (w3.heap.size ≤ b8) := Lib.hid (by have := HZ8.out; have := HN4.out.size; have := HZW.out; omega)
  obtain ⟨fs, hfs⟩ : ∃ fs, fs = l.first := ⟨_, rfl⟩
  obtain ⟨pa, hpa⟩ : ∃ pa : Int, pa = ((l.first + l.used + k : Nat) : Int) := ⟨_, rfl⟩
  have hpe : (fs : Int) + (pl : Int) = pa := by rw [hfs, hpa, HPL.out.1]; omega
  have hpw : IntKind.i64.wrap ((fs : Int) + (pl : Int)) = pa := by
   rw [IntWalk.i64_in _ (by have h1 := HRM.out; have h2 := HKK2.out; have h3 := HLG.out.ok.fit; have h4 := HD.out.ok.s2; have h5 := HPL.out.1; omega)]
   exact hpe
  have q2 : ∀ p' : HW (fun W' => Blk W' b2 97 #[.pointer (some ⟨gl, 0, none⟩)] ∧ Blk W' b5 3 #[.int .i64 (pl : Int)] ∧ Blk W' b8 68 SA ∧ Lg W' gl gd l p.size), p'.w.cell? ⟨b2, 0, none⟩ = some (.pointer (some ⟨gl, 0, none⟩)) := fun p' => p'.h.1.cell 0
  have q5 : ∀ p' : HW (fun W' => Blk W' b2 97 #[.pointer (some ⟨gl, 0, none⟩)] ∧ Blk W' b5 3 #[.int .i64 (pl : Int)] ∧ Blk W' b8 68 SA ∧ Lg W' gl gd l p.size), p'.w.cell? ⟨b5, 0, none⟩ = some (.int .i64 (pl : Int)) := fun p' => p'.h.2.1.cell 0
  have q0 : ∀ p' : HW (fun W' => Blk W' b2 97 #[.pointer (some ⟨gl, 0, none⟩)] ∧ Blk W' b5 3 #[.int .i64 (pl : Int)] ∧ Blk W' b8 68 SA ∧ Lg W' gl gd l p.size), p'.w.cell? ⟨gl, 0, none⟩ = some (.pointer (some ⟨gd, 0, none⟩)) := fun p' => p'.h.2.2.2.c0
  have q1 : ∀ p' : HW (fun W' => Blk W' b2 97 #[.pointer (some ⟨gl, 0, none⟩)] ∧ Blk W' b5 3 #[.int .i64 (pl : Int)] ∧ Blk W' b8 68 SA ∧ Lg W' gl gd l p.size), p'.w.cell? ⟨gl, 1, none⟩ = some (.int .i64 (fs : Int)) := fun p' => by rw [hfs]; exact p'.h.2.2.2.c1
  have HPA := Lib.hid hpa
  have HB26 : Hid (Blk W6 b2 97 #[.pointer (some ⟨gl, 0, none⟩)]) := Lib.hid HI6.out.b2
  clear hfs hpa hpe
  refine wpIn_region_mixH lp (fun W' => Blk W' b2 97 #[.pointer (some ⟨gl, 0, none⟩)] ∧ Blk W' b5 3 #[.int .i64 (pl : Int)] ∧ Blk W' b8 68 SA ∧ Lg W' gl gd l p.size) [(true, 0), (true, 1), (true, 2), (true, 3), (true, 4), (true, 5), (true, 6), (true, 7), (true, 8), (true, 9), (true, 10), (false, 11), (true, 12)] (by kernel_rfl) (by kernel_rfl) ⟨(New.dr (New.refl W6)).blk HB26.out, (New.dr (New.refl W6)).blk HI56.out, (New.dr (New.refl W6)).blk HB86.out, HLG6.out.new (New.dr (New.refl W6))⟩ (fun hne => ?_)
  iterate 10 (refine mix_take (o := ⟨_, _, _, _, _, _⟩) rfl (fun K hK => ?_); go_simp; refine hK _ ?_; clear hK K)
  refine mix_take_row (o := ⟨_, _, _, _, _, _⟩) (cs := SA.toList) rfl rfl (.tmp 8) rfl rfl (fun W' h => h.2.2.1.rangeOf) Tryz.underlying68 rfl (by rw [Array.length_toList, HSA.out.2.1]; rfl) ?_
  simp only [Act.put, List.setIfInBounds_toArray, List.set_cons_zero, List.set_cons_succ]
  refine mix_act (o := ⟨_, _, _, _, _, _⟩) rfl (fun K hK => ?_) (.inl rfl)
  go_simp
  rw [HSA.out.1]
  refine (write_all (HTO6.out.new (New.dr (New.refl W6))).dk pa HSO.out).mono ?_
  rintro e W7 ⟨rfl, v7, hD7, hF7, hO7⟩
  rw [← HSA.out.1]
  have hTo7 : DkTo W6.drew base gd bs bf v' ((writeN p l b k).1.doWrite pa SL) W7 v7 := ⟨hD7, hF7, hO7⟩
  have hne2 : ¬ DkOurs gd bs bf v' b2 := dk_notBlk HTO6.out.dk HB26.out (fun e => by have := HZ.out; have := HLT.out; omega) (by decide)
  have hne8 : ¬ DkOurs gd bs bf v' b8 := dk_notBlk HTO6.out.dk HB86.out (fun e => by have := HZ88.out; have := HLT.out; have := HLE.out; omega) (by decide)
  have hbox : ∀ x, w.heap.size ≤ x → x < w3.heap.size → ¬ DkOurs gd bs bf v' x := fun x h1 h2 => by
   rintro (ho | ho | ho | ho)
   · have := HLT.out; omega
   · have := HLT.out; omega
   · have := HLT.out; omega
   · rcases HOW.out x ho with h3 | h3 <;> omega
  have hne5 := hbox b5 (by have := HZ.out; omega) (by have := HZ.out; have := HZ3.out; omega)
  have hnel : ¬ DkOurs gd bs bf v' gl := lg_apart HTO6.out.dk (n := p.size) (by exact HLG6.out)
  have hS7 : Blk W7 b2 97 #[.pointer (some ⟨gl, 0, none⟩)] ∧ Blk W7 b5 3 #[.int .i64 (pl : Int)] ∧ Blk W7 b8 68 SA ∧ Lg W7 gl gd l p.size :=
   ⟨((New.dr (New.refl W6)).blk HB26.out).fr hF7 hne2, ((New.dr (New.refl W6)).blk HI56.out).fr hF7 hne5, ((New.dr (New.refl W6)).blk HB86.out).fr hF7 hne8, (HLG6.out.new (New.dr (New.refl W6))).fr hF7 hnel⟩
  have HS7 := Lib.hid hS7
  have HBX := Lib.hid hbox
  have HF67 : Hid (Fr (DkOurs gd bs bf v') W6 W7) := Lib.hid (((New.dr (New.refl W6)).toFr _).trans hF7)
  have HTO7 : Hid (DkTo w base gd bs bf v ((writeN p l b k).1.doWrite pa SL) W7 v7 ∧ ∀ x, v7.ownBlock = some x → x < w.heap.size ∨ w3.heap.size ≤ x) := Lib.hid ⟨(HTO6.out.new (New.dr (New.refl W6))).tr hTo7, fun x hx => by
   rcases (hO7 x hx).2 with h1 | h1
   · exact HOW.out x h1
   · right
     have h2 := HN6.out.size
     have h3 := (New.dr (New.refl W6)).size
     have h4 := HZW.out
     omega⟩
  clear hD7 hF7 hO7 hTo7 hne2 hne8 hbox hne5 hnel hS7
  go_simp
  refine hK.out _ _ (fun _ => HS7.out) ?_
  clear hK K
  iterate 1 (refine mix_take (o := ⟨_, _, _, _, _, _⟩) rfl (fun K hK => ?_); go_simp; refine hK _ ?_; clear hK K)
  clear q0 q1 q2 q5 hpw hne
  refine mix_doneIn ?_
  obtain ⟨cd, hcd⟩ : ∃ cd, cd = (writeN p l b k).1.wcode pa := ⟨_, rfl⟩
  rw [← hcd]
  have HGO : Hid (writeN p l b (k + 1) = ((writeN p l b k).1.doWrite pa SL, cd)) := Lib.hid (by rw [writeN_go HI.out.ok, hcd, HPA.out, HSL.out])
  have HT7 : Hid (∃ v', DkTo w base gd bs bf v (writeN p l b (k + 1)).1 W7 v' ∧ ∀ x, v'.ownBlock = some x → x < w.heap.size ∨ w3.heap.size ≤ x) := Lib.hid (by rw [HGO.out]; exact ⟨v7, HTO7.out⟩)
  have HSZ7 : Hid (w3.heap.size ≤ W7.heap.size ∧ W.heap.size ≤ W7.heap.size) := Lib.hid (by have h1 := HF67.out.size; have h2 := HN6.out.size; have h3 := HZW.out; omega)
  have HB47 : Hid (Blk W7 b4 27 #[.nilIface]) := Lib.hid (HI6.out.b4.fr HF67.out (HBX.out b4 (by have := HZ.out; omega) (by have := HZ.out; have := HZ3.out; omega)))
  have HB67 : Hid (Blk W7 b6 3 #[.int .i64 (kd : Int)]) := Lib.hid ((HN6.out.blk HI6x.out).fr HF67.out (HBX.out b6 (by have := HZ.out; omega) (by have := HZ.out; have := HZ3.out; omega)))
  have HKE : Hid (Kept w3.heap.size W W7) := Lib.hid ((Kept.new HN6.out).tr (Kept.fr HF67.out (DkOurs.is_cells HTO6.out.dk (by have := HLT.out; have := HLE.out; omega) (by have := HLT.out; have := HLE.out; omega) (by have := HLT.out; have := HLE.out; omega))))
  have HKC : Hid (KpC w1.heap.size (w1.heap.size + 1) W W7) := Lib.hid (KpC.tr (KpC.fr (HN6.out.toFr NoB) ⟨by have := HZ3.out; have := HZW.out; omega, fun x => x⟩ ⟨by have := HZ3.out; have := HZW.out; omega, fun x => x⟩) (KpC.fr HF67.out
   ⟨by have := HZ3.out; have := HZW.out; have := HN6.out.size; omega, HBX.out _ (by have := HZ.out; omega) (by have := HZ3.out; omega)⟩ ⟨by have := HZ3.out; have := HZW.out; have := HN6.out.size; omega, HBX.out _ (by have := HZ.out; omega) (by have := HZ3.out; omega)⟩))
  have c5 : W7.cell? ⟨b5, 0, none⟩ = some (.int .i64 (pl : Int)) := HS7.out.2.1.cell 0
  have c6 : W7.cell? ⟨b6, 0, none⟩ = some (.int .i64 (kd : Int)) := HB67.out.cell 0
  have c4 : W7.cell? ⟨b4, 0, none⟩ = some .nilIface := HB47.out.cell 0
  have h65 : ¬ b6 = b5 := by have := HZ.out; omega
  have f5 := HS7.out.2.1.frozen 0
  have f6 := HB67.out.frozen 0
  have f4 := HB47.out.frozen 0
  have HCD := Lib.hid hcd
  clear hcd HTO6 HN4 HN5 HF6 HI6 HLG6 HI56 HB86 HB8
  by_cases h0 : cd = 0
  · rw [h0, errD_0]
    have HGZ : Hid ((writeN p l b (k + 1)).2 = 0) := Lib.hid (by rw [HGO.out]; exact h0)
    have e1 : IntKind.i64.wrap ((pl : Int) + 1) = ((pl + 1 : Nat) : Int) := by rw [IntWalk.i64_in _ (by have := HPL.out; omega)]; omega
    clear h0
    gi_wp2
    obtain ⟨W8, hW8⟩ : ∃ W8 : World, W8 = W7.setCell ⟨b5, 0, none⟩ (.int .i64 ((pl : Int) + 1)) := ⟨_, rfl⟩
    obtain ⟨W9, hW9⟩ : ∃ W9 : World, W9 = W8.setCell ⟨b6, 0, none⟩ (.int .i64 2) := ⟨_, rfl⟩
    rw [← hW8, ← hW9]
    have hF8 : Fr (fun y => y = b5) W7 W8 := by rw [hW8]; exact (Fr.refl (fun y => y = b5) W7).setCell (p := ⟨b5, 0, none⟩) (fun _ => rfl) _
    have hF9 : Fr (fun y => y = b6) W8 W9 := by rw [hW9]; exact (Fr.refl (fun y => y = b6) W8).setCell (p := ⟨b6, 0, none⟩) (fun _ => rfl) _
    have hB58 : Blk W8 b5 3 #[.int .i64 ((pl : Int) + 1)] := by rw [hW8]; exact HS7.out.2.1.set 0 _
    have hB68 : Blk W8 b6 3 #[.int .i64 (kd : Int)] := HB67.out.fr hF8 h65
    have hB69 : Blk W9 b6 3 #[.int .i64 2] := by rw [hW9]; exact hB68.set 0 _
    have hz := HZ.out
    have hz3 := HZ3.out
    have hlt := HLT.out
    have hle := HLE.out
    have hzw := HZW.out
    have hs7 := HSZ7.out
    have hnb : ∀ x, w.heap.size ≤ x → x < w3.heap.size → ∀ v'' W', DkTo w base gd bs bf v (writeN p l b (k + 1)).1 W' v'' → (∀ x, v''.ownBlock = some x → x < w.heap.size ∨ w3.heap.size ≤ x) → ¬ DkOurs gd bs bf v'' x := fun x h1 h2 v'' W' _ hO => by
     rintro (ho | ho | ho | ho)
     · omega
     · omega
     · omega
     · rcases hO x ho with h3 | h3 <;> omega
    obtain ⟨v7', hT7, hO7⟩ := HT7.out
    have hT8 := hT7.st hF8 (by omega) (hnb b5 (by omega) (by omega) _ _ hT7 hO7)
    have hT9 := hT8.st hF9 (by omega) (hnb b6 (by omega) (by omega) _ _ hT8 hO7)
    refine ⟨(HKE.out.tr (Kept.fr hF8 (fun k' o' hB hs => by have hs' : k' = b5 := hs; omega))).tr (Kept.fr hF9 (fun k' o' hB hs => by have hs' : k' = b6 := hs; omega)), (HKC.out.tr (KpC.fr hF8 ⟨by omega, fun hs => by have hs' : w1.heap.size = b5 := hs; omega⟩ ⟨by omega, fun hs => by have hs' : w1.heap.size + 1 = b5 := hs; omega⟩)).tr (KpC.fr hF9 ⟨by have := hF8.size; omega, fun hs => by have hs' : w1.heap.size = b6 := hs; omega⟩ ⟨by have := hF8.size; omega, fun hs => by have hs' : w1.heap.size + 1 = b6 := hs; omega⟩), ?_⟩
    rw [HKP.out]
    have e5 : ((l.used + (k + 1) : Nat) : Int) = (pl : Int) + 1 := by have := HPL.out.1; omega
    refine ⟨HGZ.out, ⟨v7', hT9, hO7⟩, by have := hF8.size; have := hF9.size; omega, (HS7.out.1.fr hF8 (fun hs => by have hs' : b2 = b5 := hs; omega)).fr hF9 (fun hs => by have hs' : b2 = b6 := hs; omega), (HB47.out.fr hF8 (fun hs => by have hs' : b4 = b5 := hs; omega)).fr hF9 (fun hs => by have hs' : b4 = b6 := hs; omega), ?_, ?_⟩
    · rw [e5]; exact hB58.fr hF9 (fun hs => h65 (by have hs' : b5 = b6 := hs; omega))
    · rw [if_neg (by omega)]; exact hB69
  · have hE := errD_n h0
    rw [hE]
    have HE := Lib.hid hE
    have HGZ : Hid ((writeN p l b (k + 1)).2 ≠ 0) := Lib.hid (by rw [HGO.out]; exact h0)
    clear hE h0
    gi_wp2
    obtain ⟨W8, hW8⟩ : ∃ W8 : World, W8 = W7.setCell ⟨b4, 0, none⟩ (.iface 38 (.int .i64 cd)) := ⟨_, rfl⟩
    rw [← hW8]
    have hF8 : Fr (fun y => y = b4) W7 W8 := by rw [hW8]; exact (Fr.refl (fun y => y = b4) W7).setCell (p := ⟨b4, 0, none⟩) (fun _ => rfl) _
    have hB48 : Blk W8 b4 27 #[.iface 38 (.int .i64 cd)] := by rw [hW8]; exact HB47.out.set 0 _
    have hz := HZ.out
    have hz3 := HZ3.out
    have hlt := HLT.out
    have hle := HLE.out
    have hs7 := HSZ7.out
    obtain ⟨v7', hT7, hO7⟩ := HT7.out
    have hT8 := hT7.st hF8 (by omega) (by
     rintro (ho | ho | ho | ho)
     · omega
     · omega
     · omega
     · rcases hO7 b4 ho with h3 | h3 <;> omega)
    exact ⟨HKE.out.tr (Kept.fr hF8 (fun k' o' hB hs => by have hs' : k' = b4 := hs; omega)), k, HKK2.out.1, HGZ.out, ⟨v7', hT8, hO7⟩, by have := hF8.size; omega, by rw [HGO.out]; show Blk W8 b4 27 #[errD cd]; rw [HE.out]; exact hB48⟩
 case done =>
  rintro D fs W hD hfs hI hDm
  subst hfs
  rw [List.length_range] at hI
  rw [← HKK.out] at hI
  have HDM := Lib.hid hDm
  have HI := Lib.hid hI
  have HDD : Hid (w3.heap.size ≤ D) := Lib.hid hD
  have c4 : W.cell? ⟨b4, 0, none⟩ = some .nilIface := hI.b4.cell 0
  have f4 := hI.b4.frozen 0
  clear hI hDm hD
  dsimp only
  go_wp2_with fail
  obtain ⟨W8, hW8⟩ : ∃ W8 : World, W8 = W.setCell ⟨b4, 0, none⟩ .nilIface := ⟨_, rfl⟩
  rw [← hW8]
  have hF8 : Fr (fun y => y = b4) W W8 := by rw [hW8]; exact (Fr.refl (fun y => y = b4) W).setCell (p := ⟨b4, 0, none⟩) (fun _ => rfl) _
  have hB48 : Blk W8 b4 27 #[.nilIface] := by rw [hW8]; exact HI.out.b4.set 0 _
  have hz := HZ.out
  have hz3 := HZ3.out
  have hlt := HLT.out
  have hle := HLE.out
  have hszW := HI.out.sz
  obtain ⟨v7', hT7, hO7⟩ := HI.out.dk
  have hT8 := hT7.st hF8 (by omega) (by
   rintro (ho | ho | ho | ho)
   · omega
   · omega
   · omega
   · rcases hO7 b4 ho with h3 | h3 <;> omega)
  refine leaves_marks [D] _ (((Marks.cons (Marks.nil w3.heap.size W) (fun _ h => by cases h) HDD.out HDM.out)).fr hF8 (fun D' hD' => ?_)) (fun W' hS => ⟨.nilIface, ?_, by rw [HI.out.ok, errD_0], v7', hT8.shut hS (by omega) (by omega) (by omega) (by omega)⟩)
  · have hD'' : D' = b4 := hD'
    subst hD''
    exact not_def_blk HI.out.b4
  · have hc : W'.cell? ⟨b4, 0, none⟩ = some .nilIface := by
     have h1 : W'.heap[b4]? = _ := hS.cells b4 _ hB48 rfl
     exact (show Blk W' b4 27 #[.nilIface] from h1).cell 0
    simp [results, Tryz.results149, go_sem, hc]
 case ret =>
  rintro D W hD ⟨k, hk, hk0, hI⟩ hDm
  have hz := HZ.out
  have hz3 := HZ3.out
  have hlt := HLT.out
  have hle := HLE.out
  obtain ⟨v7', hT7, hO7⟩ := hI.dk
  have he : writeN p l b K = writeN p l b (k + 1) := by
   have := writeN_bad hk0 (K - (k + 1))
   rwa [show k + 1 + (K - (k + 1)) = K by omega] at this
  refine leaves_marks [D] _ (Marks.cons (Marks.nil w3.heap.size W) (fun _ h => by cases h) hD hDm) (fun W' hS => ⟨errD (writeN p l b K).2, ?_, rfl, v7', by rw [he]; exact hT7.shut hS (by omega) (by omega) (by omega) (by omega)⟩)
  have hc : W'.cell? ⟨b4, 0, none⟩ = some (errD (writeN p l b K).2) := by
   have h1 : W'.heap[b4]? = _ := hS.cells b4 _ hI.b4 rfl
   rw [he]
   exact (show Blk W' b4 27 #[errD (writeN p l b (k + 1)).2] from h1).cell 0
  simp [results, Tryz.results149, go_sem, hc]
end Go.Proofs.YtfchcdbfalgdlaaGreatDoor
namespace Go.Proofs.YtfchcdbfalgdlaaGreatDoor
set_option linter.unusedVariables false
set_option linter.unusedSimpArgs false
set_option linter.constructorNameAsVariable false
open Go.RowKit Go.Sort Go.Maps
structure LgTo (w : World) (base gl gd bs bf : Nat) (v : Value) (p : DP) (l : LG) (w' : World) (v' : Value) : Prop where
 dk : Dk w' base gd bs bf v' p
 lg : Lg w' gl gd l p.size
 fr : Fr (fun k => k = gl ∨ DkOurs gd bs bf v k) w w'
 own : ∀ k, v'.ownBlock = some k → base ≤ k ∧ (v.ownBlock = some k ∨ w.heap.size ≤ k)
def AppSays (w : World) (base gl gd bs bf : Nat) (v : Value) (r : DP × LG × Int) (e : Ending) (w' : World) : Prop := e = .returned (errD r.2.2) ∧ ∃ v', LgTo w base gl gd bs bf v r.1 r.2.1 w' v'
theorem blk_rd0 {w : World} {g T n : Nat} {s : List Int} (hb : Blk w g T (secA s)) (h : s.length = n) : Rd (fun _ => True) w 1 (some ⟨g, 0, none⟩) n (u8s s) :=
 ⟨by rw [u8s_len, h, Nat.mul_one], fun _ => ⟨_, rfl, trivial, hb.lt, fun j u hu => by
  have e : (⟨g, 0, none⟩ : Addr).add j = ⟨g, j, none⟩ := by
   unfold Addr.add
   by_cases hj0 : j = 0 <;> simp [hj0]
  rw [e, hb.cell]
  unfold secA
  rw [List.getElem?_toArray, hu]⟩⟩
theorem writeN_size (p : DP) (l : LG) (b : List Int) : ∀ k, (writeN p l b k).1.size = p.size
 | 0 => rfl
 | k + 1 => by
  have ih := writeN_size p l b k
  by_cases h : (writeN p l b k).2 = 0
  · rw [writeN_go h]
    exact (DP.doWrite_size _ _ _).trans ih
  · rw [writeN_bad h 1]; exact ih
section
variable {w : World} {base gl gd bs bf : Nat} {v : Value} {p : DP} {l : LG}
theorem LgTo.same (h : Lg w gl gd l p.size) (hD : Dk w base gd bs bf v p) {w' : World} (hN : New w w') : LgTo w base gl gd bs bf v p l w' v := ⟨hD.new hN, h.new hN, hN.toFr _, fun k hk => ⟨(hD.ours k (.inr (.inr (.inr hk)))).1, .inl hk⟩⟩
set_option maxHeartbeats 3000000
set_option maxRecDepth 100000
theorem app_bad (h : Lg w gl gd l p.size) (hD : Dk w base gd bs bf v p) (A : Option Addr) (n c : Nat) (hn : n ≤ maxLen) (hb : secN n = 0 ∨ l.broken = true ∨ l.size - l.used < secN n) :
    Calls Tryz.prog 111 #[.pointer (some ⟨gl, 0, none⟩), .slice A n c] w fun e w' => e = .returned (errD (if secN n = 0 then 2 else if l.broken = true then 10 else 8)) ∧ New w w' := by
 have hs := sectors_any (n : Int) w
 rw [secs_N] at hs
 obtain ⟨sn, hsn⟩ : ∃ sn, sn = secN n := ⟨_, rfl⟩
 rw [← hsn] at hs hb ⊢
 have hsle := secN_le n
 rw [← hsn] at hsle
 have HS := Lib.hid hs
 have c2 := h.c2
 have c4 := h.c4
 have cb := h.cb
 have hu := h.ok.used
 have hfit := h.ok.fit
 have hps := hD.ok.s2
 obtain ⟨sz, hsz⟩ : ∃ sz, sz = l.size := ⟨_, rfl⟩
 obtain ⟨us, hus⟩ : ∃ us, us = l.used := ⟨_, rfl⟩
 obtain ⟨br, hbr⟩ : ∃ br, br = l.broken := ⟨_, rfl⟩
 rw [← hsz] at c2 hu hb hfit
 rw [← hus] at c4 hu hb
 rw [← hbr] at cb hb ⊢
 obtain ⟨ec, hec⟩ : ∃ ec : Int, ec = if sn = 0 then 2 else if br = true then 10 else 8 := ⟨_, rfl⟩
 rw [← hec]
 have HEC := Lib.hid hec
 clear h hD hs hsz hus hbr hsn hec
 go_enter Tryz.func111, Tryz.ntmps111
 go_wp2_with fail
 refine HS.out.mono ?_
 rintro e w1 ⟨rfl, rfl⟩
 by_cases h0 : sn = 0
 · have HE : Hid (errD ec = .iface 38 (.int .i64 2)) := Lib.hid (by rw [HEC.out, if_pos h0]; exact errD_n (by decide))
   subst h0
   clear hb
   go_wp2_with fail
   go_ret
   exact ⟨by rw [HE.out]; rfl, New.refl _⟩
 · have h0' : ¬ ((sn : Int) = 0) := by omega
   rcases br with _ | _
   · have HE : Hid (errD ec = .iface 38 (.int .i64 8)) := Lib.hid (by rw [HEC.out, if_neg h0, if_neg (by decide)]; exact errD_n (by decide))
     have hlt : sz - us < sn := by rcases hb with h | h | h; exact absurd h h0; cases h; exact h
     have e1 : IntKind.i64.wrap ((sz : Int) - (us : Int)) = (sz : Int) - (us : Int) := IntWalk.i64_in _ (by omega)
     have e2 : (sz : Int) - (us : Int) < (sn : Int) := by omega
     have e3 : decide ((sz : Int) - (us : Int) < (sn : Int)) = true := decide_eq_true e2
     clear hb
     go_upto_region 8 with fail
     go_quiet (fail)
     go_wp2_with fail
     go_ret
     exact ⟨by rw [HE.out]; rfl, ⟨rfl, rfl, rfl, Nat.le_refl _, fun _ _ => rfl⟩⟩
   · have HE : Hid (errD ec = .iface 38 (.int .i64 10)) := Lib.hid (by rw [HEC.out, if_neg h0, if_pos rfl]; exact errD_n (by decide))
     clear hb
     go_wp2_with fail
     go_ret
     exact ⟨by rw [HE.out]; rfl, New.refl _⟩
theorem app_good {q : Nat → Prop} (h : Lg w gl gd l p.size) (hD : Dk w base gd bs bf v p) (hL : ShaIn 4 2 w) (A : Option Addr) (n c : Nat) (b : List Int) (hR : Rd q w 1 A n (u8s b)) (hb : Byt b) (hbn : b.length = n) (h0 : secN n ≠ 0) (h1 : l.broken = false) (h2 : ¬ l.size - l.used < secN n) :
    Calls Tryz.prog 111 #[.pointer (some ⟨gl, 0, none⟩), .slice A n c] w (AppSays w base gl gd bs bf v (appL p l b)) := by
 obtain ⟨hn1, hn2, hn3⟩ := secN_pos h0
 obtain ⟨sn, hsn⟩ : ∃ sn, sn = secN n := ⟨_, rfl⟩
 have hs := sectors_any (n : Int) w
 rw [secs_N, ← hsn] at hs
 rw [← hsn] at h0 h2 hn3
 obtain ⟨RS, hRS⟩ : ∃ RS, RS = writeN p l b sn := ⟨_, rfl⟩
 have HAP : Hid (appL p l b = if RS.2 ≠ 0 then (RS.1, { l with broken := true }, RS.2) else (RS.1, l.step b, 0)) := Lib.hid (by unfold appL; rw [hbn, ← hsn, if_neg h0, if_neg (by rw [h1]; decide), if_neg h2]; simp only; rw [hRS])
 obtain ⟨AP, hAP⟩ : ∃ AP, AP = appL p l b := ⟨_, rfl⟩
 rw [← hAP] at HAP ⊢
 have HS := Lib.hid hs
 have HLG := Lib.hid h
 have HD := Lib.hid hD
 have HL := Lib.hid hL
 have HR := Lib.hid hR
 have HB := Lib.hid hb
 have HBN := Lib.hid hbn
 have HRS := Lib.hid hRS
 have HSN : Hid (1 ≤ n ∧ n ≤ 65536 ∧ sn = (n + 74) / 55 ∧ l.used + sn ≤ l.size ∧ secN n = sn) := Lib.hid ⟨hn1, hn2, hn3, by have := h.ok.used; omega, hsn.symm⟩
 have c2 := h.c2
 have c3 := h.c3
 have c4 := h.c4
 have cb := h.cb
 have hu := h.ok.used
 have hfit := h.ok.fit
 have hps := hD.ok.s2
 have hgn := h.ok.gen
 rw [h1] at cb
 obtain ⟨sz, hsz⟩ : ∃ sz, sz = l.size := ⟨_, rfl⟩
 obtain ⟨us, hus⟩ : ∃ us, us = l.used := ⟨_, rfl⟩
 obtain ⟨gn, hgne⟩ : ∃ gn, gn = l.gen := ⟨_, rfl⟩
 rw [← hsz] at c2 hu h2 hfit
 rw [← hus] at c4 hu h2
 rw [← hgne] at c3 hgn
 have HLE : Hid (us = l.used ∧ sz = l.size ∧ gn = l.gen ∧ l.broken = false) := Lib.hid ⟨hus, hsz, hgne, h1⟩
 have HGN := Lib.hid hgn
 have hN1 : ¬ ((sn : Int) = 0) := by omega
 have hq0 : ((sn : Int) == 0) = false := by simpa using hN1
 have e1 : IntKind.i64.wrap ((sz : Int) - (us : Int)) = (sz : Int) - (us : Int) := IntWalk.i64_in _ (by omega)
 have e2 : ¬ (sz : Int) - (us : Int) < (sn : Int) := by omega
 have e3 : decide ((sz : Int) - (us : Int) < (sn : Int)) = false := decide_eq_false e2
 clear h hD hL hR hb hbn h0 h1 h2 hs hn1 hn2 hn3 hsn hRS hAP hsz hus hgne hfit hps hgn hu
 go_enter Tryz.func111, Tryz.ntmps111
 go_wp2_with fail
 refine HS.out.mono ?_
 rintro e w1 ⟨rfl, rfl⟩
 go_upto_region 8 with fail
 go_quiet (fail)
 obtain ⟨w2, hw2⟩ : ∃ w2, w2 = w.drewN nq := ⟨_, rfl⟩
 rw [← hw2]
 have HN2 : Hid (New w w2) := Lib.hid (by rw [hw2]; exact ⟨rfl, rfl, rfl, Nat.le_refl _, fun _ _ => rfl⟩)
 clear hw2 e1 e2 e3 c2
 have q3 : ∀ p' : HW (New w2), p'.w.cell? ⟨gl, 3, none⟩ = some (.int .u32 gn) := fun p' => p'.h.cell_ (HN2.out.cell_ c3)
 obtain ⟨tg, htg⟩ : ∃ tg, tg = l.tag := ⟨_, rfl⟩
 have HTG : Hid (∀ W, New w2 W → W.rangeAt gl 5 (u8s tg)) := Lib.hid fun W hN => by rw [htg]; exact (HLG.out.new (HN2.out.tr hN)).tagAt
 have HTL : Hid (tg.length = 16 ∧ Byt tg ∧ gn < 4294967296) := Lib.hid ⟨by rw [htg]; exact HLG.out.ok.len, by rw [htg]; exact HLG.out.ok.byt, HGN.out⟩
 obtain ⟨TL, hTL⟩ : ∃ TL, TL = tagL tg gn b := ⟨_, rfl⟩
 have HTE : Hid (TL = tagL l.tag l.gen b) := Lib.hid (by rw [hTL, htg, HLE.out.2.2.1])
 have HT16 : Hid (TL.length = 16 ∧ Byt TL) := Lib.hid (by rw [hTL]; exact ⟨tagL_len _ _ _, tagL_byt _ _ _⟩)
 have HTLE := Lib.hid hTL
 have HSZ : Hid ((secA TL).size = 16) := Lib.hid (by rw [secA_size, HT16.out.1])
 clear htg hTL
 go_upto_region 10 with fail
 apply wp_join (α := Nat) (fun b5 w5 => New w2 w5 ∧ Blk w5 b5 175 (secA TL))
 case h1 =>
  intro K' hK'
  refine wp_region_tree (New w2) (.take 0 (.take 1 (.take 2 (.take 3 (.take 4 (.take 5 (.take 6 (.take 7 (.take 8 (.two 9 (.act 10 (.act 11 .done)) 10 (.act 9 (.act 11 .done)))))))))))) (by kernel_rfl) (by kernel_rfl) (New.dr (New.refl w2)) (fun hne => ?_)
  iterate 3 (refine tree_take (o := ⟨_, _, _, _, _, _⟩) rfl (fun K hK => ?_); go_simp; refine hK _ ?_; clear hK K)
  refine tree_take_row (o := ⟨_, _, _, _, _, _⟩) rfl rfl (.tmp 43) rfl rfl (fun W hN => HTG.out W hN) Tryz.underlying175 rfl (by rw [u8s_len, HTL.out.1]; rfl) ?_
  simp only [Act.put, List.setIfInBounds_toArray, List.set_cons_zero, List.set_cons_succ]
  iterate 5 (refine tree_take (o := ⟨_, _, _, _, _, _⟩) rfl (fun K hK => ?_); go_simp; refine hK _ ?_; clear hK K)
  refine ⟨?_, ?_⟩
  · refine act_ok (o := ⟨_, _, _, _, _, _⟩) rfl (fun K hK => ?_) (.inl rfl)
    go_simp
    refine (tagged_any tg gn A n c b w2.drew ((HL.out.new HN2.out).new (New.dr (New.refl w2))) ((New.dr (New.refl w2)).rd (HN2.out.rd HR.out)) HB.out HTL.out.1 HTL.out.2.1 HTL.out.2.2 (by have := HSN.out; omega)).mono ?_
    rintro e w4 ⟨rfl, hN4⟩
    rw [← HTLE.out]
    have HN4 : Hid (New w2 w4) := Lib.hid (New.tr (New.dr (New.refl w2)) hN4)
    clear hN4
    go_simp
    refine hK.out _ _ HN4.out ?_
    clear hK K
    refine tree_act_alloc (o := ⟨_, _, _, _, _, _⟩) rfl rfl rfl tagInfo ?_
    intro b5 w5 hb5 hB5 hN5
    have HL5 : Hid (w2.heap.size ≤ b5) := Lib.hid (by have := HN4.out.size; omega)
    refine ⟨HN4.out.tr hN5, ?_⟩
    clear hb5
    simp only [Act.put, List.setIfInBounds_toArray, List.set_cons_zero, List.set_cons_succ]
    refine act_store (o := ⟨_, _, _, _, _, _⟩) (cs := secA TL) rfl rfl (.tmp 6) (.tmp 50) rfl (by rw [HSZ.out]; rfl) rfl rfl hB5 (by rw [HSZ.out]; rfl) (secA_one _) ?_
    intro w6 hB6 hF6
    have hN6 : New w2 w6 := (HN4.out.tr hN5).fr hF6 (fun k hk => by have := HL5.out; omega)
    refine ⟨hN6, ?_⟩
    simp only [Act.put, List.setIfInBounds_toArray, List.set_cons_zero, List.set_cons_succ]
    refine tree_done ?_
    exact hK'.out b5 w6 ⟨hN6, hB6⟩
  · refine act_alloc (o := ⟨_, _, _, _, _, _⟩) rfl rfl rfl tagInfo ?_
    intro b5 w5 hb5 hB5 hN5
    have HN5 : Hid (New w2 w5) := Lib.hid ((New.dr (New.refl w2)).tr hN5)
    have HB5 := Lib.hid hB5
    have HL5 : Hid (w2.heap.size ≤ b5) := Lib.hid (by rw [hb5]; exact Nat.le_refl _)
    refine ⟨HN5.out, ?_⟩
    clear hb5 hB5 hN5
    simp only [Act.put, List.setIfInBounds_toArray, List.set_cons_zero, List.set_cons_succ]
    refine tree_act (o := ⟨_, _, _, _, _, _⟩) rfl (fun K hK => ?_) (.inl rfl)
    go_simp
    refine (tagged_any tg gn A n c b w5 ((HL.out.new HN2.out).new HN5.out) (HN5.out.rd (HN2.out.rd HR.out)) HB.out HTL.out.1 HTL.out.2.1 HTL.out.2.2 (by have := HSN.out; omega)).mono ?_
    rintro e w4 ⟨rfl, hN4⟩
    rw [← HTLE.out]
    have HB4 := Lib.hid (hN4.blk HB5.out)
    have HN4 : Hid (New w2 w4) := Lib.hid (HN5.out.tr hN4)
    clear hN4
    go_simp
    refine hK.out _ _ HN4.out ?_
    clear hK K
    refine act_store (o := ⟨_, _, _, _, _, _⟩) (cs := secA TL) rfl rfl (.tmp 6) (.tmp 50) rfl (by rw [HSZ.out]; rfl) rfl rfl HB4.out (by rw [HSZ.out]; rfl) (secA_one _) ?_
    intro w6 hB6 hF6
    have hN6 : New w2 w6 := HN4.out.fr hF6 (fun k hk => by have := HL5.out; omega)
    refine ⟨hN6, ?_⟩
    simp only [Act.put, List.setIfInBounds_toArray, List.set_cons_zero, List.set_cons_succ]
    refine tree_done ?_
    exact hK'.out b5 w6 ⟨hN6, hB6⟩
 case h2 =>
  rintro b6 w5 ⟨hN5, hB5⟩
  have HN5 : Hid (New w w5) := Lib.hid (HN2.out.tr hN5)
  have HB6 := Lib.hid hB5
  clear hN5 hB5 q3 HTG HTLE HN2
  go_upto_region 12 with fail
  obtain ⟨w6, hw6⟩ : ∃ w6 : World, w6 = w5.alloc (.cells #[.nilIface, .slice none 0 0] 168) := ⟨_, rfl⟩
  obtain ⟨gw, hgw⟩ : ∃ gw, gw = w5.heap.size := ⟨_, rfl⟩
  have HN6 : Hid (New w w6) := Lib.hid (HN5.out.tr (by rw [hw6]; exact New.al (New.refl _) _))
  have HB66 : Hid (Blk w6 b6 175 (secA TL)) := Lib.hid (by rw [hw6]; exact HB6.out.alloc _)
  have HW6 : Hid (WrIn w6 gw gw []) := Lib.hid ⟨⟨none, 0, by rw [hw6, hgw]; exact Blk.new _ _ _, World.ownsRow_nil _ _ _ _⟩, Nat.le_refl _, fun x hx => nomatch hx⟩
  have HZ : Hid (w.heap.size ≤ gw ∧ b6 < gw) := Lib.hid (by have h1 := HN5.out.size; have h2 := HB6.out.lt; omega)
  rw [← hw6, ← hgw]
  clear hw6 hgw HB6 HN5
  have k2 : IntKind.u64.wrap (n : Int) = (n : Int) := by rw [IntKind.wrap_u64]; have := HSN.out; omega
  have n0 : ((4 : Nat) : Int) = 4 := rfl
  have HOV : Hid (∀ w', FW gw gw w6 w' → New w w') := Lib.hid fun w' hF => HN6.out.fr hF (fun k hk => by
   have := HZ.out
   rcases hk with rfl | hk
   · omega
   · have := hk.1; omega)
  refine wp_region_mixH (fun _ => True) [(true, 0), (true, 1), (true, 2), (true, 3), (true, 5), (true, 7), (false, 4), (false, 6), (false, 8), (false, 9), (true, 10), (true, 11), (true, 12), (true, 13), (true, 14)] (by kernel_rfl) (by kernel_rfl) trivial (fun hne => ?_)
  iterate 6 (refine mix_take (o := ⟨_, _, _, _, _, _⟩) rfl (fun K hK => ?_); go_simp; refine hK _ ?_; clear hK K)
  refine mix_act (o := ⟨_, _, _, _, _, _⟩) rfl (fun K hK => ?_) (.inl rfl)
  go_simp
  refine (wnum_any (WrIn.new HW6.out (New.dr (New.refl w6))) n 4 (by omega) (by have := HSN.out; omega) (by simp)).mono ?_
  rintro e w7 ⟨rfl, hW, hF⟩
  have HW7 := Lib.hid hW
  have HF7 : Hid (FW gw gw w6 w7) := Lib.hid ((FW.new (New.dr (New.refl w6))).tr hF)
  clear hW hF
  go_simp
  refine hK.out _ _ (fun _ => trivial) ?_
  clear hK K
  have HB67 : Hid (Blk w7 b6 175 (secA TL)) := Lib.hid (HF7.out.blk HB66.out (by decide) (by have := HZ.out; omega))
  refine mix_act (o := ⟨_, _, _, _, _, _⟩) rfl (fun K hK => ?_) (.inl rfl)
  go_simp
  refine (wraw_any HW7.out (some ⟨b6, 0, none⟩) 16 16 TL (blk_rd0 HB67.out HT16.out.1) HT16.out.2 (by simp [beL_len])).mono ?_
  rintro e w8 ⟨rfl, hW, hF⟩
  have HW8 := Lib.hid hW
  have HF8 : Hid (FW gw gw w6 w8) := Lib.hid (HF7.out.tr hF)
  clear hW hF
  go_simp
  refine hK.out _ _ (fun _ => trivial) ?_
  clear hK K
  refine mix_act (o := ⟨_, _, _, _, _, _⟩) rfl (fun K hK => ?_) (.inl rfl)
  go_simp
  refine (wraw_any HW8.out A n c b ((HOV.out _ HF8.out).rd HR.out) HB.out (by simp [beL_len]; have := HSN.out; have := HT16.out.1; omega)).mono ?_
  rintro e w9 ⟨rfl, hW, hF⟩
  obtain ⟨FL, hFL⟩ : ∃ FL, FL = l.frame b := ⟨_, rfl⟩
  have HFL := Lib.hid hFL
  have HW9 : Hid (WrIn w9 gw gw FL) := Lib.hid (by
   have e : [] ++ beL 4 n ++ TL ++ b = FL := by rw [hFL, HTE.out, ← HBN.out]; rfl
   rw [← e]
   exact hW)
  have HF9 : Hid (FW gw gw w6 w9) := Lib.hid (HF8.out.tr hF)
  have HFN : Hid (FL.length = n + 20) := Lib.hid (by rw [hFL, LG.frame_len, HBN.out])
  clear hW hF hFL
  go_simp
  refine hK.out _ _ (fun _ => trivial) ?_
  clear hK K
  refine mix_act (o := ⟨_, _, _, _, _, _⟩) rfl (fun K hK => ?_) (.inl rfl)
  go_simp
  refine (wdone_any HW9.out (by rw [HFN.out]; have := HSN.out; omega)).mono ?_
  rintro e w10 ⟨⟨B, d, rfl, hO⟩, hN10⟩
  have HO := Lib.hid hO
  have HN10 : Hid (New w w10) := Lib.hid ((HOV.out _ HF9.out).tr hN10)
  have HB610 : Hid (Blk w10 b6 175 (secA TL)) := Lib.hid (hN10.blk (HF9.out.blk HB66.out (by decide) (by have := HZ.out; omega)))
  clear hO hN10
  go_simp
  refine hK.out _ _ (fun _ => trivial) ?_
  clear hK K
  iterate 5 (refine mix_take (o := ⟨_, _, _, _, _, _⟩) rfl (fun K hK => ?_); go_simp; refine hK _ ?_; clear hK K)
  refine mix_done ?_
  clear hne k2 n0
  obtain ⟨gf, cf, hv, hfc, hfm⟩ := own_form HO.out (by have := HFN.out; omega)
  injection hv with hv1 hv2 hv3
  subst hv1 hv3
  have HCF : Hid (FL.length ≤ d ∧ d ≤ maxLen) := Lib.hid ⟨hfc, hfm⟩
  have HLG10 : Hid (Lg w10 gl gd l p.size) := Lib.hid (HLG.out.new HN10.out)
  have HD10 : Hid (Dk w10 base gd bs bf v p) := Lib.hid (HD.out.new HN10.out)
  have hchn : sn = chN FL.length 55 := by unfold chN; have := HSN.out; have := HFN.out; omega
  have hwr := write_log HLG10.out HD10.out b HB.out gf 0 FL.length d sn (by rw [HFL.out]) hfc hfm (by have := HSN.out; have := HFN.out; omega) hchn HSN.out.2.2.2.1 (own_isT' HO.out rfl) (fun j x hj => by
   rw [← HFL.out] at hj
   obtain ⟨g', o', he, -, -, hc⟩ := (Rd.own HO.out rfl).out (by have := HFN.out; omega) (by omega)
   injection he with he
   injection he with x1 x2
   subst x1 x2
   exact hc j x hj)
  rw [← HRS.out] at hwr
  have HWR := Lib.hid hwr
  clear hwr hchn hfc hfm hv2
  go_wp2_with fail
  refine HWR.out.mono ?_
  rintro e w11 ⟨rfl, v', hT⟩
  obtain ⟨ec, hec⟩ : ∃ ec, ec = RS.2 := ⟨_, rfl⟩
  rw [← hec]
  have HEC := Lib.hid hec
  have HT := Lib.hid hT
  have HLG11 : Hid (Lg w11 gl gd l p.size) := Lib.hid (HLG10.out.fr hT.fr (lg_apart HD10.out HLG10.out))
  have HNO : Hid (¬ DkOurs gd bs bf v' gl) := Lib.hid (lg_apart hT.dk HLG11.out)
  have HSZP : Hid (RS.1.size = p.size) := Lib.hid (by rw [HRS.out]; exact writeN_size _ _ _ _)
  have HOWN : Hid (∀ k, v'.ownBlock = some k → base ≤ k ∧ (v.ownBlock = some k ∨ w.heap.size ≤ k)) := Lib.hid fun k hk => ⟨(hT.own k hk).1, (hT.own k hk).2.imp id (fun h => Nat.le_trans HN10.out.size h)⟩
  have HFR : Hid (Fr (fun k => k = gl ∨ DkOurs gd bs bf v k) w w11) := Lib.hid ((HN10.out.toFr _).trans (hT.fr.mono (fun k _ h => .inr h)))
  have HB611 : Hid (Blk w11 b6 175 (secA TL)) := Lib.hid (HB610.out.fr hT.fr (dk_notBlk HD10.out HB610.out (fun e => Blk.ne_ HB610.out HD10.out.blk (by decide) e) (by decide)))
  clear hec hT HWR HO HF9 HF8 HF7 HW9 HW8 HW7 HB610 HB67 HB66
  by_cases h0 : ec = 0
  · have HAP0 : Hid (AP = (RS.1, l.step b, 0)) := Lib.hid (by rw [HAP.out, ← HEC.out, if_neg (by rw [h0]; simp)])
    rw [h0, errD_0]
    clear h0
    obtain ⟨u2, hu2⟩ : ∃ u2, u2 = us + sn := ⟨_, rfl⟩
    have c6 : w11.cell? ⟨gl, 4, none⟩ = some (.int .i64 us) := by rw [HLE.out.1]; exact HLG11.out.c4
    have f6 : w11.frozen? ⟨gl, 4, none⟩ = false := HLG11.out.blk.frozen 4
    have g1 : (us : Int) + (sn : Int) = (u2 : Int) := by omega
    have hb2 : u2 < 100000 := by have h1 := HSN.out; have h2 := HLE.out; have h3 := HLG.out.ok.fit; have h4 := HD.out.ok.s2; omega
    have g2 : IntKind.i64.wrap (u2 : Int) = (u2 : Int) := IntWalk.i64_in _ (by omega)
    have HU2 : Hid (u2 = l.used + secN b.length ∧ u2 ≤ l.size) := Lib.hid ⟨by rw [hu2, HLE.out.1, HBN.out, HSN.out.2.2.2.2], by have h1 := HSN.out; have h2 := HLE.out; omega⟩
    clear hu2 hb2
    go_upto_region 20 with fail
    obtain ⟨w7, hw7⟩ : ∃ w7, w7 = w11.setCell ⟨gl, 4, none⟩ (.int .i64 u2) := ⟨_, rfl⟩
    have HLG7 : Hid (Lg w7 gl gd { l with used := u2 } p.size) := Lib.hid (by rw [hw7]; exact HLG11.out.setUsed u2 HU2.out.2)
    have HF7 : Hid (Fr (fun k => k = gl) w11 w7) := Lib.hid (by rw [hw7]; exact (Fr.refl (fun k => k = gl) w11).setCell (p := ⟨gl, 4, none⟩) (fun _ => rfl) _)
    have HB7 : Hid (Blk w7 b6 175 (secA TL)) := Lib.hid (HB611.out.fr HF7.out (fun e => Blk.ne_ HB611.out HLG11.out.blk (by decide) e))
    rw [← hw7]
    clear hw7 c6 f6 g1 g2
    refine wp_region_list ?_
    refine wpList_step fun K hK => ?_
    go_simp
    refine hK _ _ ?_
    clear hK K
    refine wpList_load_any rfl _ rfl Tryz.underlying175 rfl (by rw [HSZ.out]; rfl) rfl HB7.out ?_
    iterate 2 (refine wpList_step fun K hK => ?_; go_simp; refine hK _ _ ?_; clear hK K)
    refine wpList_store_part rfl (.tmp 89) (.tmp 87) rfl rfl rfl HLG7.out.blk (cells := u8s TL) (by rw [u8s_len, HT16.out.1, lgA_len HLG7.out.ok.len]; decide) (by rw [u8s_len, HT16.out.1]; rfl) (u8s_one _) ?_
    intro w8 hb8 hf8
    have HB8 := Lib.hid hb8
    have HF8 := Lib.hid hf8
    clear hb8 hf8
    simp only [Act.put, List.setIfInBounds_toArray, List.set_cons_zero, List.set_cons_succ]
    go_wp2_with fail
    go_ret
    refine ⟨by rw [HAP0.out]; rfl, v', ?_⟩
    rw [HAP0.out]
    have hF : Fr (fun k => k = gl) w11 w8 := HF7.out.trans HF8.out
    refine ⟨HT.out.dk.fr hF (fun k hk => by rw [show k = gl from hk]; exact HNO.out), ⟨?_, ?_⟩, HFR.out.trans (hF.mono (fun k _ h => .inl h)), HOWN.out⟩
    · have := HB8.out
      rw [lgA_tag HLG7.out.ok.len gd TL HT16.out.1] at this
      have e : l.step b = { ({ l with used := u2 } : LG) with tag := TL } := by
       unfold LG.step
       rw [← HU2.out.1, ← HTE.out]
      rw [e]
      exact this
    · show LG.Ok (l.step b) RS.1.size
      rw [HSZP.out]
      exact ⟨HLG.out.ok.fit, HLG.out.ok.gen, by show l.used + secN b.length ≤ l.size; rw [← HU2.out.1]; exact HU2.out.2, tagL_len _ _ _, tagL_byt _ _ _⟩
  · have HAP0 : Hid (AP = (RS.1, { l with broken := true }, ec)) := Lib.hid (by rw [HAP.out, ← HEC.out, if_pos h0])
    have hE := errD_n h0
    have HE := Lib.hid hE
    rw [hE]
    clear h0 hE
    have c6 : w11.cell? ⟨gl, 21, none⟩ = some (.bool false) := by rw [← HLE.out.2.2.2]; exact HLG11.out.cb
    have f6 : w11.frozen? ⟨gl, 21, none⟩ = false := HLG11.out.blk.frozen 21
    go_wp2_with fail
    go_ret
    have hF : Fr (fun k => k = gl) w11 (w11.setCell ⟨gl, 21, none⟩ (.bool true)) := (Fr.refl (fun k => k = gl) w11).setCell (p := ⟨gl, 21, none⟩) (fun _ => rfl) _
    refine ⟨by rw [HAP0.out]; show _ = Ending.returned (errD ec); rw [HE.out]; rfl, v', ?_⟩
    rw [HAP0.out]
    refine ⟨HT.out.dk.fr hF (fun k hk => by rw [show k = gl from hk]; exact HNO.out), ?_, HFR.out.trans (hF.mono (fun k _ h => .inl h)), HOWN.out⟩
    show Lg _ gl gd { l with broken := true } RS.1.size
    rw [HSZP.out]
    exact HLG11.out.setBroken true
theorem app_any {q : Nat → Prop} (h : Lg w gl gd l p.size) (hD : Dk w base gd bs bf v p) (hL : ShaIn 4 2 w) (A : Option Addr) (n c : Nat) (b : List Int) (hR : Rd q w 1 A n (u8s b)) (hb : Byt b) (hn : n ≤ maxLen) :
    Calls Tryz.prog 111 #[.pointer (some ⟨gl, 0, none⟩), .slice A n c] w (AppSays w base gl gd bs bf v (appL p l b)) := by
 have hbn : b.length = n := by have := hR.1; rw [u8s_len] at this; omega
 by_cases hc : secN n = 0 ∨ l.broken = true ∨ l.size - l.used < secN n
 · refine (app_bad h hD A n c hn hc).mono fun e w' ⟨he, hN⟩ => ?_
   have ha : appL p l b = (p, l, if secN n = 0 then 2 else if l.broken = true then 10 else 8) := by
    unfold appL
    rw [hbn]
    by_cases h0 : secN n = 0
    · rw [if_pos h0, if_pos h0]
    · rw [if_neg h0, if_neg h0]
      by_cases h1 : l.broken = true
      · rw [if_pos h1, if_pos h1]
      · rw [if_neg h1, if_neg h1, if_pos (by rcases hc with hc | hc | hc; exact absurd hc h0; exact absurd hc h1; exact hc)]
   rw [ha]
   exact ⟨he, v, LgTo.same h hD hN⟩
 · exact app_good h hD hL A n c b hR hb hbn (fun e => hc (.inl e)) (by cases hbr : l.broken with | true => exact absurd (.inr (.inl hbr)) hc | false => rfl) (fun e => hc (.inr (.inr e)))
end
end Go.Proofs.YtfchcdbfalgdlaaGreatDoor
