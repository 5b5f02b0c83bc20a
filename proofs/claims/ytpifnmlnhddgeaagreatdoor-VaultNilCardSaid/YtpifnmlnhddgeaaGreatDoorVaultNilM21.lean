/- Texts of one proof, one behind the other: LgD. No condition but each one's own. -/
import Derived.Test.YtpifnmlnhddgeaaGreatDoorVaultNilM19
import Derived.Test.YtpifnmlnhddgeaaGreatDoorVaultNilM20
namespace Go.Proofs.YtpifnmlnhddgeaaGreatDoor
set_option linter.unusedVariables false
set_option linter.unusedSimpArgs false
set_option linter.constructorNameAsVariable false
open Go.RowKit Go.Sort
theorem take9 {s : List Int} : s.take 9 = s.take 4 ++ (s.drop 4).take 4 ++ (s.drop 8).take 1 := by
 have h1 : s.take 9 = s.take 8 ++ (s.drop 8).take 1 := by rw [show 9 = 8 + 1 from rfl, List.take_add]
 have h2 : s.take 8 = s.take 4 ++ (s.drop 4).take 4 := by rw [show 8 = 4 + 4 from rfl, List.take_add]
 rw [h1, h2]
theorem valL_4 {xs : List Int} (hb : Byt xs) (hl : xs.length = 4) (n : Nat) (hn : n < 4294967296) : valL xs = n ↔ xs = beL 4 n := by
 constructor
 · intro h
   rw [← h, ← hl]
   exact (beL_valL xs hb).symm
 · rintro rfl
   exact valL_beL 4 n (by omega)
theorem valL_1 {xs : List Int} (hb : Byt xs) (hl : xs.length = 1) (n : Nat) : valL xs = n ↔ xs = [(n : Int)] := by
 match xs, hl with
 | [x], _ =>
  have := hb x (by simp)
  have e : valL [x] = x.toNat := by simp [valL]
  rw [e]
  constructor
  · intro h
    rw [← h]
    congr 1
    omega
  · intro h
    injection h with h
    omega
theorem part_hdr {s : List Int} (hs : SecOk s) {l : LG} {i : Nat} (hg : l.gen < 4294967296) (hi : l.used + i < 4294967296) : PartOk s l.gen (l.used + i) (if i = 0 then 1 else 2) ↔ s.take 9 = l.hdr i := by
 have b1 : Byt (s.take 4) := fun x hx => hs.2 x (List.mem_of_mem_take hx)
 have b2 : Byt ((s.drop 4).take 4) := fun x hx => hs.2 x (List.mem_of_mem_drop (List.mem_of_mem_take hx))
 have b3 : Byt ((s.drop 8).take 1) := fun x hx => hs.2 x (List.mem_of_mem_drop (List.mem_of_mem_take hx))
 have l1 : (s.take 4).length = 4 := by rw [List.length_take, hs.1]; rfl
 have l2 : ((s.drop 4).take 4).length = 4 := by rw [List.length_take, List.length_drop, hs.1]; rfl
 have l3 : ((s.drop 8).take 1).length = 1 := by rw [List.length_take, List.length_drop, hs.1]; rfl
 have ek : (((if i = 0 then 1 else 2 : Nat)) : Int) = (if i = 0 then 1 else 2 : Int) := by split <;> rfl
 rw [take9]
 unfold LG.hdr
 constructor
 · rintro ⟨h1, h2, h3⟩
   rw [(valL_4 b1 l1 _ hg).1 h1, (valL_4 b2 l2 _ hi).1 h2, (valL_1 b3 l3 _).1 h3, ek]
 · intro h
   have h12 := List.append_inj h (by simp [l1, l2, beL_len])
   have h1 := List.append_inj h12.1 (by simp [l1, beL_len])
   exact ⟨(valL_4 b1 l1 _ hg).2 h1.1, (valL_4 b2 l2 _ hi).2 h1.2, (valL_1 b3 l3 _).2 (by rw [ek]; exact h12.2)⟩
def RB (B : Nat) (w : World) (k : Nat) : Prop := B ≤ k ∧ IsT 5 w k
def NextSays (l : LG) (r : Option (List Int)) (w : World) (gl gd n : Nat) (e : Ending) (w' : World) : Prop :=
 match r with
 | none => e = .returned (.tuple #[.slice none 0 0, .bool false]) ∧ New w w'
 | some b => ∃ A c, e = .returned (.tuple #[.slice A b.length c, .bool true]) ∧ b.length ≤ c ∧ c ≤ maxLen ∧ Byt b ∧ Rd (RB w.heap.size w') w' 1 A b.length (u8s b) ∧ Lg w' gl gd (l.step b) n ∧ Fr (fun k => k = gl) w w'
theorem tagInfo : (Tryz.prog.info? 43).map (fun i => (i.zero, i.size)) = some (some (.agg (secA (List.replicate 16 0))), 16) := by kernel_rfl
structure NxI (w w' : World) (p : DP) (l : LG) (k : Nat) (v : Value) : Prop where
 new : New w w'
 own : w'.ownsRow w.heap.size 5 1 v (55 * k) (u8s (frameL p l k))
 hdr : ∀ i, i < k → (sct p l i).take 9 = l.hdr i
 fit : l.used + k ≤ l.size
set_option maxHeartbeats 8000000 in
set_option maxRecDepth 100000 in
theorem next_any {w : World} {gl gd base bs bf : Nat} {v : Value} {p : DP} {l : LG} (h : Lg w gl gd l p.size) (hD : Dk w base gd bs bf v p) (hL : ShaIn 1 0 w) :
    Calls Tryz.prog 208 #[.pointer (some ⟨gl, 0, none⟩)] w (NextSays l (nextL p l) w gl gd p.size) := by
 have HLG := Lib.hid h
 have HD := Lib.hid hD
 have HL := Lib.hid hL
 have hsz := hD.ok.s2
 have hfit := h.ok.fit
 have hgen := h.ok.gen
 have hused := h.ok.used
 have HOK := Lib.hid hD.ok
 have HSO : Hid (∀ i, SecOk (sct p l i)) := Lib.hid fun i => sct_ok hD.ok l i
 obtain ⟨us, hus⟩ : ∃ us, us = l.used := ⟨_, rfl⟩
 have HUS := Lib.hid hus
 have c4 := h.c4
 rw [← hus] at c4
 have hu1 : us ≤ 16384 := by omega
 have HP0a : Hid (l.size ≤ us → ∀ W, New w W → Calls Tryz.prog 271 #[.pointer (some ⟨gl, 0, none⟩), .int .i64 us, .int .i64 1] W fun e w' => PartSays none W.heap.size e w' ∧ W = w') :=
  Lib.hid fun hle W hN => part_far (h.new hN) us 1 hle hsz
 have HP0b : Hid (us < l.size → ∀ W, New w W → Calls Tryz.prog 271 #[.pointer (some ⟨gl, 0, none⟩), .int .i64 us, .int .i64 1] W fun e w' => ((sct p l 0).take 9 = l.hdr 0 → PartSays (some ((sct p l 0).drop 9)) W.heap.size e w') ∧ (¬ (sct p l 0).take 9 = l.hdr 0 → PartSays none W.heap.size e w') ∧ New W w') :=
  Lib.hid fun hlt W hN => by
   have hq := part_in (h.new hN) (hD.new hN) us 1 hlt (by omega) (sct p l 0) (by unfold sct; rw [Nat.add_zero, hus])
   refine hq.mono fun e w' ⟨a, b, c⟩ => ?_
   have hh := part_hdr (s := sct p l 0) (sct_ok hD.ok l 0) (l := l) (i := 0) hgen (by omega)
   rw [Nat.add_zero, ← hus, if_pos rfl] at hh
   exact ⟨fun x => a (hh.2 x), fun x => b (fun y => x (hh.1 y)), c⟩
 have HPKa : Hid (∀ j, l.size ≤ j → ∀ W, New w W → Calls Tryz.prog 271 #[.pointer (some ⟨gl, 0, none⟩), .int .i64 (j : Int), .int .i64 2] W fun e w' => PartSays none W.heap.size e w' ∧ W = w') :=
  Lib.hid fun j hle W hN => part_far (h.new hN) j 2 hle hsz
 have HPKb : Hid (∀ j k, j = us + k → 1 ≤ k → j < l.size → ∀ W, New w W → Calls Tryz.prog 271 #[.pointer (some ⟨gl, 0, none⟩), .int .i64 (j : Int), .int .i64 2] W fun e w' => ((sct p l k).take 9 = l.hdr k → PartSays (some ((sct p l k).drop 9)) W.heap.size e w') ∧ (¬ (sct p l k).take 9 = l.hdr k → PartSays none W.heap.size e w') ∧ New W w') :=
  Lib.hid fun j k hj hk1 hlt W hN => by
   have hq := part_in (h.new hN) (hD.new hN) j 2 hlt (by omega) (sct p l k) (by unfold sct; rw [hj, hus, Nat.add_assoc])
   refine hq.mono fun e w' ⟨a, b, c⟩ => ?_
   have hh := part_hdr (s := sct p l k) (sct_ok hD.ok l k) (l := l) (i := k) hgen (by omega)
   rw [← hus, ← hj, if_neg (by omega)] at hh
   exact ⟨fun x => a (hh.2 x), fun x => b (fun y => x (hh.1 y)), c⟩
 obtain ⟨NX, hNX⟩ : ∃ NX, NX = nextL p l := ⟨_, rfl⟩
 rw [← hNX]
 have HNX := Lib.hid hNX
 have hsl : l.size ≤ 16384 := by omega
 clear h hD hL hNX hus hgen hused hfit hsz
 go_enter Tryz.func208, Tryz.ntmps208
 by_cases h0 : us < l.size
 rotate_left
 · have HN : Hid (NX = none) := Lib.hid (by rw [HNX.out]; exact nextL_none (fun hx => by have := hx.room; have := HUS.out; omega))
   go_wp2_with fail
   refine (HP0a.out (by omega) w (New.refl w)).mono ?_
   rintro e w' ⟨he, rfl⟩
   unfold PartSays at he
   dsimp only at he
   subst he
   go_wp2_with fail
   go_ret2
   rw [HN.out]
   exact ⟨rfl, New.refl w⟩
 by_cases hh0 : (sct p l 0).take 9 = l.hdr 0
 rotate_left
 · have HN : Hid (NX = none) := Lib.hid (by rw [HNX.out]; exact nextL_none (fun hx => hh0 (hx.hdr 0 (Nat.pos_of_ne_zero hx.pos))))
   have HH := Lib.hid hh0
   clear hh0
   go_wp2_with fail
   refine (HP0b.out h0 w (New.refl w)).mono ?_
   rintro e w' ⟨-, he, hN1⟩
   have he := he HH.out
   have HN1 := Lib.hid hN1
   unfold PartSays at he
   dsimp only at he
   subst he
   clear hN1
   go_wp2_with fail
   go_ret2
   rw [HN.out]
   exact ⟨rfl, HN1.out⟩
 have HH0 := Lib.hid hh0
 clear hh0
 obtain ⟨mn, hmn⟩ : ∃ mn, mn = l.many p := ⟨_, rfl⟩
 have HMN := Lib.hid hmn
 obtain ⟨N, hN⟩ : ∃ N, N = secN mn := ⟨_, rfl⟩
 have HNN := Lib.hid hN
 have hNle : N ≤ 1193 := by rw [hN]; exact secN_le mn
 have hmnb : mn < 4294967296 := by
  have h55 := (HSO.out 0).1
  have := valL_lt (xs := ((sct p l 0).drop 9).take 4) (fun x hx => (HSO.out 0).2 x (List.mem_of_mem_drop (List.mem_of_mem_take hx)))
  rw [List.length_take, List.length_drop, h55] at this
  rw [hmn]
  exact this
 have HFR1 : Hid (frameL p l 1 = (sct p l 0).drop 9) := Lib.hid (by simp [frameL])
 have HF55 : Hid (((sct p l 0).drop 9).length = 55) := Lib.hid (by rw [List.length_drop, (HSO.out 0).1])
 have HFB : Hid (Byt ((sct p l 0).drop 9)) := Lib.hid (fun x hx => (HSO.out 0).2 x (List.mem_of_mem_drop hx))
 have HVAL : Hid (valL ((((sct p l 0).drop 9).take 4).take 4) = mn) := Lib.hid (by rw [List.take_take, hmn]; rfl)
 clear hmn hN
 have em : IntKind.i64.wrap (mn : Int) = (mn : Int) := IntWalk.i64_in _ (by omega)
 have hmn' : (mn : Int) < 4294967296 := by omega
 go_wp2_with fail
 refine (HP0b.out h0 w (New.refl w)).mono ?_
 rintro e w1 ⟨he, -, hN1⟩
 have he := he HH0.out
 have HN1 := Lib.hid hN1
 unfold PartSays at he
 dsimp only at he
 obtain ⟨A, c, rfl, hO⟩ := he
 rw [HF55.out] at hO ⊢
 obtain ⟨g, cap, hv, hNc, hcm⟩ := own_form hO (by omega)
 injection hv with hv1 hv2 hv3
 subst hv1 hv3
 have HO := Lib.hid hO
 clear hO hN1 hv2
 have hc4 : ¬ c = 4 := by omega
 go_wp2_with fail
 refine (from_any (some ⟨g, 0, none⟩) 4 c (((sct p l 0).drop 9).take 4) w1 ((Rd.own HO.out rfl).take (by omega)) (fun x hx => HFB.out x (List.mem_of_mem_take hx)) (by omega)).mono ?_
 rintro e w2 ⟨r, rfl, hRI, hN2, hr⟩
 have HRI := Lib.hid hRI
 have HN2 := Lib.hid hN2
 have HR := Lib.hid hr
 clear hRI hN2 hr
 go_wp2_with fail
 have x1 := num_of (xs := ((sct p l 0).drop 9).take 4) (k := 4) (by rw [List.length_take, HF55.out]; decide)
 rw [HVAL.out] at x1
 refine (rnum_any HRI.out 4 (by omega)).mono ?_
 rintro e w3 ⟨rfl, -, hF3⟩
 rw [x1]
 dsimp only
 have HN3 : Hid (New w1 w3) := Lib.hid (HN2.out.fr hF3 (fun k hk => by have := HR.out; omega))
 clear x1 hF3
 go_wp2_with fail
 refine (sectors_any (mn : Int) w3).mono ?_
 rintro e w' ⟨rfl, rfl⟩
 rw [secs_N, ← HNN.out]
 by_cases hN0 : N = 0
 · have HN : Hid (NX = none) := Lib.hid (by rw [HNX.out]; exact nextL_none (fun hx => hx.pos (by rw [← HMN.out, ← HNN.out, hN0])))
   subst hN0
   go_wp2_with fail
   go_ret2
   rw [HN.out]
   exact ⟨rfl, HN1.out.tr HN3.out⟩
 have hN0' : ((N : Int) == 0) = false := by simp; omega
 have HI1 : Hid (NxI w w3 p l 1 (.slice (some ⟨g, 0, none⟩) 55 c)) := Lib.hid ⟨HN1.out.tr HN3.out, by rw [HFR1.out]; exact HN3.out.own HO.out, fun i hi => by
  obtain rfl : i = 0 := by omega
  exact HH0.out, by have := HUS.out; omega⟩
 clear HRI HO HN1 HN2 HN3 HR hmnb hmn' em
 go_wp2_with fail
 go_loopw [4, 8] (fun f i wr => ∃ (k g d fl : Nat), 1 ≤ k ∧ k ≤ N ∧ Hid (fl = 55 * k) ∧ fl ≤ d ∧ d ≤ maxLen ∧ i = .int .i64 k ∧ f = .slice (some ⟨g, 0, none⟩) fl d ∧ Hid (NxI w wr p l k (.slice (some ⟨g, 0, none⟩) fl d))) (fun _ i _ => N - (intOf i).toNat)
 case atStart => exact ⟨1, g, c, 55, by omega, by omega, Lib.hid rfl, hNc, hcm, rfl, rfl, HI1⟩
 case round =>
  clear HI1 hNc hcm
  obtain ⟨k, g, d, fl, hk1, hk, HFL, hfd, hdm, rfl, rfl, HI⟩ := hrel
  have hfl : fl ≤ 66000 := by have := HFL.out; omega
  by_cases hlt : k < N
  · obtain ⟨j, hj⟩ : ∃ j, j = us + k := ⟨_, rfl⟩
    have e1 : (us : Int) + (k : Int) = (j : Int) := by omega
    have e2 : IntKind.i64.wrap (j : Int) = (j : Int) := IntWalk.i64_in _ (by omega)
    have hk' : (k : Int) < (N : Int) := by omega
    have c4' : wr.cell? ⟨gl, 4, none⟩ = some (.int .i64 us) := HI.out.new.cell_ c4
    have HJ := Lib.hid hj
    clear hj
    by_cases hjs : l.size ≤ j
    · have HN : Hid (NX = none) := Lib.hid (by rw [HNX.out]; exact nextL_none (fun hx => by have := hx.fit; rw [← HMN.out, ← HNN.out] at this; have := HUS.out; have := HJ.out; omega))
      go_wp2_with fail
      refine (HPKa.out j hjs wr HI.out.new).mono ?_
      rintro e w' ⟨he, rfl⟩
      unfold PartSays at he
      dsimp only at he
      subst he
      go_wp2_with fail
      go_ret2
      rw [HN.out]
      exact ⟨rfl, HI.out.new⟩
    · by_cases hhk : (sct p l k).take 9 = l.hdr k
      · have HHK := Lib.hid hhk
        have HK55 : Hid (((sct p l k).drop 9).length = 55) := Lib.hid (by rw [List.length_drop, (HSO.out k).1])
        clear hhk
        go_wp2_with fail
        refine (HPKb.out j k HJ.out hk1 (by omega) wr HI.out.new).mono ?_
        rintro e w1 ⟨he, -, hN1⟩
        have he := he HHK.out
        have HN1 : Hid (New w w1) := Lib.hid (HI.out.new.tr hN1)
        have HOk : Hid (w1.ownsRow w.heap.size 5 1 (.slice (some ⟨g, 0, none⟩) fl d) fl (u8s (frameL p l k))) := Lib.hid (by
         have := hN1.own HI.out.own
         rwa [← HFL.out] at this)
        unfold PartSays at he
        dsimp only at he
        obtain ⟨A2, c2, rfl, hO2⟩ := he
        rw [HK55.out] at hO2 ⊢
        have HO2 := Lib.hid hO2
        clear hO2 hN1
        go_wp2_with ((with_reducible refine atOp ⟨some 53, _, _, _, _, _⟩ ?_); refine wpList_app elB _ rfl (.tmp 51) (.tmp 52) rfl w.heap.size (.slice (some ⟨g, 0, none⟩) fl d) fl (u8s (frameL p l k)) rfl HOk.out A2 55 c2 (u8s ((sct p l k).drop 9)) rfl (Rd.own HO2.out rfl) (u8s_one _) (by unfold maxLen; omega) (by omega) HN1.out.size ?_; intro A3 d3 w3 hO3 hF3 hA3; have HO3 := Lib.hid hO3; have HF3 := Lib.hid hF3; clear hO3 hF3 hA3)
        obtain ⟨g3, cap3, hv3, hNc3, hcm3⟩ := own_form HO3.out (by omega)
        injection hv3 with hv31 hv32 hv33
        subst hv31 hv33
        have HN3 : Hid (New w w3) := Lib.hid (HN1.out.fr HF3.out (fun k hk => (own_lt HOk.out k hk).1))
        have HFL2 : Hid (fl + 55 = 55 * (k + 1)) := Lib.hid (by have := HFL.out; omega)
        have HI2 : Hid (NxI w w3 p l (k + 1) (.slice (some ⟨g3, 0, none⟩) (fl + 55) d3)) := Lib.hid ⟨HN3.out, by
         rw [← HFL2.out, frameL_succ]
         have := HO3.out
         unfold u8s at this ⊢
         rw [List.map_append]
         exact this, fun i hi => by
          rcases Nat.lt_or_ge i k with h | h
          · exact HI.out.hdr i h
          · obtain rfl : i = k := by omega
            exact HHK.out, by have := HJ.out; have := HUS.out; omega⟩
        clear hv32
        go_roundw
        case rel => exact ⟨k + 1, g3, d3, fl + 55, by omega, by omega, HFL2, hNc3, hcm3, by go_num, rfl, HI2⟩
        case measure => simp [intOf]; omega
      · have HN : Hid (NX = none) := Lib.hid (by rw [HNX.out]; exact nextL_none (fun hx => hhk (hx.hdr k (by rw [← HMN.out, ← HNN.out]; exact hlt))))
        have HHK := Lib.hid hhk
        clear hhk
        go_wp2_with fail
        refine (HPKb.out j k HJ.out hk1 (by omega) wr HI.out.new).mono ?_
        rintro e w1 ⟨-, he, hN1⟩
        have he := he HHK.out
        have HN1 : Hid (New w w1) := Lib.hid (HI.out.new.tr hN1)
        unfold PartSays at he
        dsimp only at he
        subst he
        clear hN1
        go_wp2_with fail
        go_ret2
        rw [HN.out]
        exact ⟨rfl, HN1.out⟩
  · have hkN : k = N := by omega
    rw [hkN] at HI HFL
    have hltZ : ¬ (k : Int) < (N : Int) := by omega
    clear hkN hk hk1
    have hpos := secN_pos (n := mn) (by rw [← HNN.out]; exact hN0)
    have hfit20 : 20 + mn ≤ fl := by have := HFL.out; have := HNN.out; omega
    have hmn1 : 1 ≤ mn := hpos.1
    have hmn2 : mn ≤ 65536 := hpos.2.1
    obtain ⟨m20, hm20⟩ : ∃ m20, m20 = 20 + mn := ⟨_, rfl⟩
    have e1 : (20 : Int) + (mn : Int) = (m20 : Int) := by omega
    have e2 : IntKind.i64.wrap (m20 : Int) = (m20 : Int) := IntWalk.i64_in _ (by omega)
    have e3 : m20 - 20 = mn := by omega
    have e4 : ¬ d = 20 := by omega
    have e5 : m20 ≤ d := by omega
    have e6 : 20 ≤ m20 := by omega
    have e7 : (m20 : Int) ≤ (d : Int) := by omega
    have e8 : (20 : Int) ≤ (m20 : Int) := by omega
    obtain ⟨bd, hbd⟩ : ∃ bd, bd = l.body p := ⟨_, rfl⟩
    have HBD : Hid (bd = ((frameL p l N).drop 20).take mn) := Lib.hid (by rw [hbd, LG.body, ← HMN.out, ← HNN.out])
    have HBL : Hid (bd.length = mn) := Lib.hid (by rw [hbd, LG.body_len HOK.out (by rw [← HMN.out, ← HNN.out]; exact hN0), HMN.out])
    have HBB : Hid (Byt bd) := Lib.hid (by rw [hbd]; exact LG.body_byt HOK.out l)
    have HBE := Lib.hid hbd
    have HRB : Hid (Rd (RB w.heap.size wr) wr 1 (some ⟨g, 20, none⟩) mn (u8s bd)) := Lib.hid (by
     have h := ((Rd.own HI.out.own (by rw [HFL.out])).imp (q := RB w.heap.size wr) (fun k hk => ⟨(own_lt HI.out.own k hk).1, own_isT' HI.out.own hk⟩)).drop (k := 20) (cap := d) (by rw [← HFL.out]; omega) (by rw [← HFL.out]; exact hfd)
     rw [if_neg e4] at h
     have h2 : Rd (RB w.heap.size wr) wr 1 (some ⟨g, 20, none⟩) (55 * N - 20) (u8s ((frameL p l N).drop 20)) := by
      have e : u8s ((frameL p l N).drop 20) = (u8s (frameL p l N)).drop (20 * 1) := by unfold u8s; rw [List.map_drop]
      rw [e]
      exact h
     have h3 := h2.take (k := mn) (by rw [← HFL.out]; omega)
     rw [← HBD.out] at h3
     exact h3)
    clear hm20 hbd hpos
    have c4' : wr.cell? ⟨gl, 4, none⟩ = some (.int .i64 us) := HI.out.new.cell_ c4
    have HLGr : Hid (Lg wr gl gd l p.size) := Lib.hid (HLG.out.new HI.out.new)
    have hgen := HLGr.out.c3
    obtain ⟨gn, hgn⟩ : ∃ gn, gn = l.gen := ⟨_, rfl⟩
    rw [← hgn] at hgen
    have q3 : ∀ p : HW (New wr), p.w.cell? ⟨gl, 3, none⟩ = some (.int .u32 gn) := fun p => p.h.cell_ hgen
    obtain ⟨tg, htg⟩ : ∃ tg, tg = l.tag := ⟨_, rfl⟩
    have HTG : Hid (∀ W, New wr W → W.rangeAt gl 5 (u8s tg)) := Lib.hid fun W hN => by rw [htg]; exact (HLGr.out.new hN).tagAt
    have HTL : Hid (tg.length = 16 ∧ Byt tg ∧ gn < 4294967296) := Lib.hid ⟨by rw [htg]; exact HLG.out.ok.len, by rw [htg]; exact HLG.out.ok.byt, by rw [hgn]; exact HLG.out.ok.gen⟩
    obtain ⟨TL, hTL⟩ : ∃ TL, TL = tagL tg gn bd := ⟨_, rfl⟩
    have HTE : Hid (TL = tagL l.tag l.gen bd) := Lib.hid (by rw [hTL, htg, hgn])
    have HT16 : Hid (TL.length = 16 ∧ Byt TL) := Lib.hid (by rw [hTL]; exact ⟨tagL_len _ _ _, tagL_byt _ _ _⟩)
    have HTLE := Lib.hid hTL
    have hszT : (secA TL).size = 16 := by rw [secA_size, HT16.out.1]
    have HSZ := Lib.hid hszT
    clear hgen hgn htg hTL hszT
    go_wp2_with fail
    apply wp_join (α := Nat) (fun b w5 => New wr w5 ∧ Blk w5 b 43 (secA TL))
    case h1 =>
     intro K' hK'
     refine wp_region_tree (New wr) (.take 0 (.take 1 (.take 2 (.take 3 (.take 4 (.take 5 (.take 6 (.take 7 (.take 8 (.two 9 (.act 10 (.act 11 .done)) 10 (.act 9 (.act 11 .done)))))))))))) (by kernel_rfl) (by kernel_rfl) (New.dr (New.refl wr)) (fun hne => ?_)
     iterate 3 (refine tree_take (o := ⟨_, _, _, _, _, _⟩) rfl (fun K hK => ?_); go_simp; refine hK _ ?_; clear hK K)
     refine tree_take_row (o := ⟨_, _, _, _, _, _⟩) rfl rfl (.tmp 60) rfl rfl (fun W hN => HTG.out W hN) Tryz.underlying43 rfl (by rw [u8s_len, HTL.out.1]; rfl) ?_
     simp only [Act.put, List.setIfInBounds_toArray, List.set_cons_zero, List.set_cons_succ]
     iterate 5 (refine tree_take (o := ⟨_, _, _, _, _, _⟩) rfl (fun K hK => ?_); go_simp; refine hK _ ?_; clear hK K)
     refine ⟨?_, ?_⟩
     · refine act_ok (o := ⟨_, _, _, _, _, _⟩) rfl (fun K hK => ?_) (.inl rfl)
       go_simp
       refine (tagged_any tg gn (some ⟨g, 20, none⟩) mn (d - 20) bd wr.drew (((HL.out.new HI.out.new)).new (New.dr (New.refl wr))) ((New.dr (New.refl wr)).rd HRB.out) HBB.out HTL.out.1 HTL.out.2.1 HTL.out.2.2 (by omega)).mono ?_
       rintro e w4 ⟨rfl, hN4⟩
       rw [← HTLE.out]
       have HN4 : Hid (New wr w4) := Lib.hid (New.tr (New.dr (New.refl wr)) hN4)
       clear hN4
       go_simp
       refine hK.out _ _ HN4.out ?_
       clear hK K
       refine tree_act_alloc (o := ⟨_, _, _, _, _, _⟩) rfl rfl rfl tagInfo ?_
       intro b5 w5 hb5 hB5 hN5
       have HL5 : Hid (wr.heap.size ≤ b5) := Lib.hid (by have := HN4.out.size; omega)
       refine ⟨HN4.out.tr hN5, ?_⟩
       clear hb5
       simp only [Act.put, List.setIfInBounds_toArray, List.set_cons_zero, List.set_cons_succ]
       refine act_store (o := ⟨_, _, _, _, _, _⟩) (cs := secA TL) rfl rfl (.tmp 12) (.tmp 67) rfl (by rw [HSZ.out]; rfl) rfl rfl hB5 (by rw [HSZ.out]; rfl) (secA_one _) ?_
       intro w6 hB6 hF6
       have hN6 : New wr w6 := (HN4.out.tr hN5).fr hF6 (fun k hk => by have := HL5.out; omega)
       refine ⟨hN6, ?_⟩
       simp only [Act.put, List.setIfInBounds_toArray, List.set_cons_zero, List.set_cons_succ]
       refine tree_done ?_
       exact hK'.out b5 w6 ⟨hN6, hB6⟩
     · refine act_alloc (o := ⟨_, _, _, _, _, _⟩) rfl rfl rfl tagInfo ?_
       intro b5 w5 hb5 hB5 hN5
       have HN5 : Hid (New wr w5) := Lib.hid ((New.dr (New.refl wr)).tr hN5)
       have HB5 := Lib.hid hB5
       have HL5 : Hid (wr.heap.size ≤ b5) := Lib.hid (by rw [hb5]; exact Nat.le_refl _)
       refine ⟨HN5.out, ?_⟩
       clear hb5 hB5 hN5
       simp only [Act.put, List.setIfInBounds_toArray, List.set_cons_zero, List.set_cons_succ]
       refine tree_act (o := ⟨_, _, _, _, _, _⟩) rfl (fun K hK => ?_) (.inl rfl)
       go_simp
       refine (tagged_any tg gn (some ⟨g, 20, none⟩) mn (d - 20) bd w5 (((HL.out.new HI.out.new)).new HN5.out) (HN5.out.rd HRB.out) HBB.out HTL.out.1 HTL.out.2.1 HTL.out.2.2 (by omega)).mono ?_
       rintro e w4 ⟨rfl, hN4⟩
       rw [← HTLE.out]
       have HB4 := Lib.hid (hN4.blk HB5.out)
       have HN4 : Hid (New wr w4) := Lib.hid (HN5.out.tr hN4)
       clear hN4
       go_simp
       refine hK.out _ _ HN4.out ?_
       clear hK K
       refine act_store (o := ⟨_, _, _, _, _, _⟩) (cs := secA TL) rfl rfl (.tmp 12) (.tmp 67) rfl (by rw [HSZ.out]; rfl) rfl rfl HB4.out (by rw [HSZ.out]; rfl) (secA_one _) ?_
       intro w6 hB6 hF6
       have hN6 : New wr w6 := HN4.out.fr hF6 (fun k hk => by have := HL5.out; omega)
       refine ⟨hN6, ?_⟩
       simp only [Act.put, List.setIfInBounds_toArray, List.set_cons_zero, List.set_cons_succ]
       refine tree_done ?_
       exact hK'.out b5 w6 ⟨hN6, hB6⟩
    case h2 =>
     rintro b5 w5 ⟨hN5, hB5⟩
     have HN5 := Lib.hid hN5
     have HB5 := Lib.hid hB5
     clear hN5 hB5 q3
     have HLG5 : Hid (Lg w5 gl gd l p.size) := Lib.hid (HLGr.out.new HN5.out)
     have HNw : Hid (New w w5) := Lib.hid (HI.out.new.tr HN5.out)
     obtain ⟨fx, hfx⟩ : ∃ fx, fx = ((frameL p l N).drop 4).take 16 := ⟨_, rfl⟩
     have HFX := Lib.hid hfx
     have hd4 : ¬ d = 4 := by omega
     have hd20 : 20 ≤ d := by omega
     have hd20i : (20 : Int) ≤ (d : Int) := by omega
     have HRF : Hid (∀ W, New w5 W → Rd (fun k => w.heap.size ≤ k) W 1 (some ⟨g, 4, none⟩) 16 (u8s fx)) := Lib.hid (fun W hN => by
      have h := ((Rd.own HI.out.own (by rw [HFL.out])).imp (q := fun k => w.heap.size ≤ k) (fun k hk => (own_lt HI.out.own k hk).1)).drop (k := 4) (cap := d) (by rw [← HFL.out]; omega) (by rw [← HFL.out]; exact hfd)
      rw [if_neg hd4] at h
      have h2 : Rd (fun k => w.heap.size ≤ k) wr 1 (some ⟨g, 4, none⟩) (55 * N - 4) (u8s ((frameL p l N).drop 4)) := by
       have e : u8s ((frameL p l N).drop 4) = (u8s (frameL p l N)).drop (4 * 1) := by unfold u8s; rw [List.map_drop]
       rw [e]
       exact h
      have h3 := h2.take (k := 16) (by rw [← HFL.out]; omega)
      rw [← hfx] at h3
      exact hN.rd (HN5.out.rd h3))
     have HRT : Hid (∀ W, New w5 W → Rd (fun _ => True) W 1 (some ⟨b5, 0, none⟩) 16 (u8s TL)) := Lib.hid (fun W hN => by
      have h := Rd.ofBlk (p := fun _ => True) (hN.blk HB5.out) 1 16 (by rw [HSZ.out]) trivial
      rwa [secA_list] at h)
     have HFB : Hid (Byt fx) := Lib.hid (by rw [hfx]; exact fun x hx => frameL_byt HOK.out l N x (List.mem_of_mem_drop (List.mem_of_mem_take hx)))
     clear hfx
     have hb5 : w5.cell? ⟨gl, 4, none⟩ = some (.int .i64 us) := HN5.out.cell_ c4'
     by_cases htt : fx = TL
     · have hdec : decide (fx = TL) = true := decide_eq_true htt
       have HDEC := Lib.hid hdec
       have HNx : Hid (l.Next p) := Lib.hid ⟨by have := HUS.out; omega, by rw [← HMN.out, ← HNN.out]; exact hN0, by rw [← HMN.out, ← HNN.out]; exact HI.out.fit, by rw [← HMN.out, ← HNN.out]; exact HI.out.hdr, by rw [← HMN.out, ← HNN.out, ← HFX.out, htt, HTE.out, HBE.out]⟩
       have HN : Hid (NX = some bd) := Lib.hid (by rw [HNX.out, nextL_some HNx.out, HBE.out])
       clear htt hdec
       go_wp2_with fail
       refine wp_region_mixH (New w5) [(true, 0), (true, 1), (true, 2), (false, 3), (true, 4)] (by kernel_rfl) (by kernel_rfl) (New.dr (New.refl w5)) (fun hne => ?_)
       iterate 3 (refine mix_take (o := ⟨_, _, _, _, _, _⟩) rfl (fun K hK => ?_); go_simp; refine hK _ ?_; clear hK K)
       refine mix_act (o := ⟨_, _, _, _, _, _⟩) rfl (fun K hK => ?_) (.inl rfl)
       go_simp
       refine (sequal_any (some ⟨g, 4, none⟩) (some ⟨b5, 0, none⟩) 16 16 (d - 4) 16 fx TL w5.drew (HRF.out _ (New.dr (New.refl w5))) (HRT.out _ (New.dr (New.refl w5))) HFB.out HT16.out.2 (by omega) (by omega)).mono ?_
       rintro e w6 ⟨rfl, hN6⟩
       rw [HDEC.out]
       have HN6 : Hid (New w5 w6) := Lib.hid (New.tr (New.dr (New.refl w5)) hN6)
       clear hN6
       go_simp
       refine hK.out _ _ (fun _ => HN6.out) ?_
       clear hK K
       iterate 1 (refine mix_take (o := ⟨_, _, _, _, _, _⟩) rfl (fun K hK => ?_); go_simp; refine hK _ ?_; clear hK K)
       refine mix_done ?_
       have HLG6 : Hid (Lg w6 gl gd l p.size) := Lib.hid (HLG5.out.new HN6.out)
       have HB6 : Hid (Blk w6 b5 43 (secA TL)) := Lib.hid (HN6.out.blk HB5.out)
       have c6 : w6.cell? ⟨gl, 4, none⟩ = some (.int .i64 us) := HN6.out.cell_ hb5
       have f6 : w6.frozen? ⟨gl, 4, none⟩ = false := HLG6.out.blk.frozen 4
       obtain ⟨u2', hu2'⟩ : ∃ u2, u2 = us + N := ⟨_, rfl⟩
       have g1 : (us : Int) + (N : Int) = (u2' : Int) := by omega
       have g2 : IntKind.i64.wrap (u2' : Int) = (u2' : Int) := IntWalk.i64_in _ (by omega)
       have HU2 : Hid (u2' = l.used + secN bd.length ∧ u2' ≤ l.size) := Lib.hid ⟨by rw [hu2', HBL.out, HUS.out, HNN.out], by have := HNx.out.fit; rw [← HMN.out, ← HNN.out] at this; have := HUS.out; omega⟩
       clear hu2' hb5 c4' e1 e2 e3 e4 e5 e6 e7 e8
       go_upto_region 20 with fail
       obtain ⟨w7, hw7⟩ : ∃ w7, w7 = w6.setCell ⟨gl, 4, none⟩ (.int .i64 u2') := ⟨_, rfl⟩
       have HLG7 : Hid (Lg w7 gl gd { l with used := u2' } p.size) := Lib.hid (by rw [hw7]; exact HLG6.out.setUsed u2' HU2.out.2)
       have HF7r : Hid (Fr (fun k => k = gl) wr w7) := Lib.hid (by rw [hw7]; exact Fr.setCell (S := fun k => k = gl) (p := ⟨gl, 4, none⟩) ((HN5.out.tr HN6.out).toFr _) (fun _ => rfl) _)
       have HF7 : Hid (Fr (fun k => k = gl) w w7) := Lib.hid ((HI.out.new.toFr _).trans HF7r.out)
       have HB7 : Hid (Blk w7 b5 43 (secA TL)) := Lib.hid (by
        rw [hw7]
        refine HB6.out.far (fun e => ?_) _
        exact Blk.ne_ HB6.out HLG6.out.blk (by decide) e)
       rw [← hw7]
       clear hw7 c6 f6 g1 g2
       refine wp_region_list ?_
       refine wpList_step fun K hK => ?_
       go_simp
       refine hK _ _ ?_
       clear hK K
       refine wpList_load_any rfl _ rfl Tryz.underlying43 rfl (by rw [HSZ.out]; rfl) rfl HB7.out ?_
       iterate 2 (refine wpList_step fun K hK => ?_; go_simp; refine hK _ _ ?_; clear hK K)
       refine wpList_store_part rfl (.tmp 84) (.tmp 82) rfl rfl rfl HLG7.out.blk (cells := u8s TL) (by rw [u8s_len, HT16.out.1, lgA_len HLG7.out.ok.len]; decide) (by rw [u8s_len, HT16.out.1]; rfl) (u8s_one _) ?_
       intro w8 hb8 hf8
       have HB8 := Lib.hid hb8
       have HF8 := Lib.hid hf8
       clear hb8 hf8
       simp only [Act.put, List.setIfInBounds_toArray, List.set_cons_zero, List.set_cons_succ]
       go_wp2_with fail
       go_ret2
       rw [HN.out]
       have HF8r : Fr (fun k => k = gl) wr w8 := HF7r.out.trans HF8.out
       have HRBd : Rd (RB w.heap.size w8) w8 1 (some ⟨g, 20, none⟩) mn (u8s bd) := by
        have hne : ∀ k, RB w.heap.size wr k → ¬ k = gl := fun k hk hs => by
         have := HLG.out.blk.lt
         have := hk.1
         omega
        exact (HRB.out.fr HF8r hne).imp (fun k hk => ⟨hk.1, hk.2.fr HF8r (hne k hk)⟩)
       refine ⟨some ⟨g, 20, none⟩, d - 20, by rw [HBL.out]; rfl, by rw [HBL.out]; omega, by omega, HBB.out, by rw [HBL.out]; exact HRBd, ⟨?_, HNx.out.ok HOK.out HLG.out.ok |> fun h => by rw [HBE.out]; exact h⟩, HF7.out.trans HF8.out⟩
       have := HB8.out
       rw [lgA_tag HLG7.out.ok.len gd TL HT16.out.1] at this
       have e : l.step bd = { ({ l with used := u2' } : LG) with tag := TL } := by
        unfold LG.step
        rw [← HU2.out.1, ← HTE.out]
       rw [e]
       exact this
     · have hdec : decide (fx = TL) = false := decide_eq_false htt
       have HDEC := Lib.hid hdec
       have HN : Hid (NX = none) := Lib.hid (by rw [HNX.out]; exact nextL_none (fun hx => htt (by have := hx.tag; rw [← HMN.out, ← HNN.out, ← HFX.out, ← HBE.out] at this; rw [this, HTE.out])))
       clear htt hdec
       go_wp2_with fail
       refine wp_region_mixH (New w5) [(true, 0), (true, 1), (true, 2), (false, 3), (true, 4)] (by kernel_rfl) (by kernel_rfl) (New.dr (New.refl w5)) (fun hne => ?_)
       iterate 3 (refine mix_take (o := ⟨_, _, _, _, _, _⟩) rfl (fun K hK => ?_); go_simp; refine hK _ ?_; clear hK K)
       refine mix_act (o := ⟨_, _, _, _, _, _⟩) rfl (fun K hK => ?_) (.inl rfl)
       go_simp
       refine (sequal_any (some ⟨g, 4, none⟩) (some ⟨b5, 0, none⟩) 16 16 (d - 4) 16 fx TL w5.drew (HRF.out _ (New.dr (New.refl w5))) (HRT.out _ (New.dr (New.refl w5))) HFB.out HT16.out.2 (by omega) (by omega)).mono ?_
       rintro e w6 ⟨rfl, hN6⟩
       rw [HDEC.out]
       have HN6 : Hid (New w5 w6) := Lib.hid (New.tr (New.dr (New.refl w5)) hN6)
       clear hN6
       go_simp
       refine hK.out _ _ (fun _ => HN6.out) ?_
       clear hK K
       iterate 1 (refine mix_take (o := ⟨_, _, _, _, _, _⟩) rfl (fun K hK => ?_); go_simp; refine hK _ ?_; clear hK K)
       refine mix_done ?_
       go_wp2_with fail
       go_ret2
       rw [HN.out]
       exact ⟨rfl, HNw.out.tr HN6.out⟩
end Go.Proofs.YtpifnmlnhddgeaaGreatDoor
