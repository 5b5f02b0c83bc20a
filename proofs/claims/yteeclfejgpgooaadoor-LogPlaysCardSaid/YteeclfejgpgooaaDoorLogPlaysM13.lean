/- Texts of one proof, one behind the other: OrA, LgR, MxT, Join. No condition but each one's own. -/
import Derived.Test.YteeclfejgpgooaaDoorLogPlaysM12
import Derived.Test.YteeclfejgpgooaaDoorLogPlaysM3
import Derived.Test.YteeclfejgpgooaaDoorLogPlaysM4
import Derived.Test.YteeclfejgpgooaaDoorLogPlaysM7
/- The reference's octets: numbers as bytes and back. No condition but that what is read can be read. -/
namespace Go.Proofs.YteeclfejgpgooaaDoor
set_option linter.unusedVariables false
set_option linter.unusedSimpArgs false
set_option linter.constructorNameAsVariable false
open Go.RowKit Go.Maps

theorem infoB : (Tryd.prog.info? 5).map (fun i => (i.zero, i.size, i.bytes)) = some (some (.int .u8 0), 1, 1) := by kernel_rfl
theorem made_u8 (n : Nat) : (madeCells (Value.int .u8 0).cells (n * 1)).toList = u8s (List.replicate n 0) := by
  have hc : (Value.int .u8 0).cells = #[.int .u8 0] := rfl
  rw [hc]
  apply List.ext_getElem
  · simp [madeCells, u8s]
  · intro i h1 h2
    simp [madeCells, u8s, Nat.mod_one]
theorem made_zs {w w1 : World} {size n : Nat} {v : Value} (h : w1.ownsRow w.heap.size 5 1 v size (madeCells (Value.int .u8 0).cells (size * 1)).toList) : ∃ zs : List Int, zs.length = size ∧ zs.drop size = (beL size n).drop size ∧ w1.ownsRow w.heap.size 5 1 v size (u8s zs) := by
  rw [made_u8] at h
  exact ⟨List.replicate size 0, by simp, by rw [List.drop_eq_nil_of_le (by simp), List.drop_eq_nil_of_le (by rw [beL_len]; exact Nat.le_refl _)], h⟩
theorem byteAt_div (n i : Nat) : n / 256 ^ i % 256 = byteAt n i := rfl
set_option maxHeartbeats 2000000 in
set_option maxRecDepth 100000 in
theorem number_any (n size : Nat) (w : World) (hs : size ≤ 1000) (hn : n < 18446744073709551616) :
    Calls Tryd.prog 60 #[.int .u64 n, .int .i64 size] w fun e w' => e = .returned (.slice (some ⟨w.heap.size, 0, none⟩) size size) ∧ w'.ownsRow w.heap.size 5 1 (.slice (some ⟨w.heap.size, 0, none⟩) size size) size (u8s (beL size n)) ∧ New w w' := by
  obtain ⟨i0, hi, hz0, hz1, hz2⟩ := info_parts infoB
  go_enter Tryd.func60, Tryd.ntmps60
  go_wp2_with ((with_reducible refine atOpS ⟨some 8, .makeSlice _ _ _, _, _, _, _⟩ ?_); refine wpList_make_full _ rfl _ _ 43 rfl w.heap.size 5 i0 (.int .u8 0) 1 Tryd.underlying43 hi hz0 hz1 .i64 .i64 size size size rfl rfl rfl rfl (by rw [hz2]; omega) (by unfold maxLen; omega) (Nat.le_refl _) ?_; intro w1 hO1 hg1; have HO1 : Hid (∃ zs : List Int, zs.length = size ∧ zs.drop size = (beL size n).drop size ∧ w1.ownsRow w.heap.size 5 1 (.slice (some ⟨w.heap.size, 0, none⟩) size size) size (u8s zs)) := Lib.hid (made_zs hO1); have HN1 : Hid (New w w1) := Lib.hid ((New.refl w).fr ((Fr.refl NoB w).grown hg1 (fun _ _ h => by cases h)) (fun k h => h.elim)); clear hO1 hg1)
  clear hi hz0 hz1 hz2
  have HO0 : Hid (∃ zs : List Int, zs.length = size ∧ zs.drop size = (beL size n).drop size ∧ w1.ownsRow w.heap.size 5 1 (.slice (some ⟨w.heap.size, 0, none⟩) size size) size (u8s zs)) := HO1
  obtain ⟨B, hB⟩ : ∃ B, B = w.heap.size := ⟨_, rfl⟩
  rw [← hB] at HO0 ⊢
  have HB := Lib.hid hB
  clear hB HO1
  go_loopw [0, 6] (fun v i wr => ∃ j : Nat, j ≤ size ∧ i = .int .i64 ((j : Int) - 1) ∧ v = .int .u64 ((n / 256 ^ (size - j) : Nat) : Int) ∧ Hid (∃ zs : List Int, zs.length = size ∧ zs.drop j = (beL size n).drop j ∧ wr.ownsRow B 5 1 (.slice (some ⟨B, 0, none⟩) size size) size (u8s zs)) ∧ Hid (New w wr)) (fun v i _ => (intOf i + 1).toNat)
  case atStart => exact ⟨size, Nat.le_refl _, by simp, by simp, HO0, HN1⟩
  case round =>
    obtain ⟨j, hj, rfl, rfl, HO, HN⟩ := hrel
    rcases Nat.eq_zero_or_pos j with h0 | h0
    · subst h0
      go_wp2_with fail
      go_ret
      obtain ⟨zs, hz1, hz2, hO⟩ := HO.out
      rw [List.drop_zero, List.drop_zero] at hz2
      rw [hz2] at hO
      rw [← HB.out]
      exact ⟨rfl, hO, HN.out⟩
    · obtain ⟨k, rfl⟩ : ∃ k, j = k + 1 := ⟨j - 1, by omega⟩
      have hk : (((k + 1 : Nat) : Int) - 1) = (k : Int) := by omega
      rw [hk]
      obtain ⟨zs, hz1, hz2, hO⟩ := HO.out
      obtain ⟨v, hv⟩ : ∃ v, v = n / 256 ^ (size - (k + 1)) := ⟨_, rfl⟩
      rw [← hv]
      have hvb : v < 18446744073709551616 := by rw [hv]; exact Nat.lt_of_le_of_lt (Nat.div_le_self _ _) hn
      have hq : v / 256 = n / 256 ^ (size - k) := by
        rw [hv, Nat.div_div_eq_div_mul, ← Nat.pow_succ]
        congr 2
        omega
      have hm : v % 256 = byteAt n (size - 1 - k) := by
        rw [hv]
        unfold byteAt
        rw [show size - 1 - k = size - (k + 1) by omega]
      have hkz : k < zs.length := by omega
      have cj : wr.cell? ⟨B, k, none⟩ = some (.int .u8 zs[k]) := by
        rw [hO.cellAt k (by omega)]
        unfold u8s
        rw [List.getElem?_map, List.getElem?_eq_getElem hkz]
        rfl
      have fj : wr.frozen? ⟨B, k, none⟩ = false := hO.frozenAt k
      have hst := (hO.stored k (.int .u8 ((v % 256 : Nat) : Int))).1
      have hgr := (hO.stored k (.int .u8 ((v % 256 : Nat) : Int))).2
      generalize zs[k] = zk at cj
      have HST := Lib.hid hst
      have HGR := Lib.hid hgr
      have HZ1 := Lib.hid hz1
      have HZ2 := Lib.hid hz2
      have HQ := Lib.hid hq
      have HM := Lib.hid hm
      have hk0 : (0 : Int) ≤ (k : Int) := by omega
      have hks : (k : Int) < (size : Int) := by omega
      have hv0 : (0 : Int) ≤ (v : Int) := by omega
      have hvI : (v : Int) < 18446744073709551616 := by omega
      have hu8 := u8_wrap v
      clear hst hgr hz1 hz2 hq hm hv hO hk
      go_wp2_with fail
      have e256 : ((v : Int) % 256) = ((v % 256 : Nat) : Int) := by omega
      refine ⟨⟨k, by omega, rfl, ?_, Lib.hid ⟨zs.set k ((v % 256 : Nat) : Int), by rw [List.length_set]; exact HZ1.out, ?_, ?_⟩, Lib.hid ?_⟩, by simp [intOf]⟩
      · rw [← HQ.out]
        congr 1
      · have hl1 : k < (zs.set k ((v % 256 : Nat) : Int)).length := by rw [List.length_set]; exact hkz
        have hl2 : k < (beL size n).length := by rw [beL_len]; omega
        rw [List.drop_eq_getElem_cons hl1, List.drop_eq_getElem_cons hl2, List.getElem_set_self, beL_get, ← HM.out, List.drop_set_of_lt (by omega), HZ2.out]
      · rw [e256]
        have := HST.out
        unfold u8s at this ⊢
        rw [List.map_set]
        exact this
      · rw [e256]
        exact HN.out.fr ((Fr.refl (fun j => j = B) wr).setCell (p := ⟨B, k, none⟩) (fun _ => rfl) _) (fun j hj => by have := HB.out; omega)
set_option maxHeartbeats 2000000 in
theorem value_any {p : Nat → Prop} (A : Option Addr) (n c : Nat) (xs : List Int) (w : World) (hR : Rd p w 1 A n (u8s xs)) (hb : Byt xs) (hn : n ≤ 8) :
    Calls Tryd.prog 59 #[.slice A n c] w fun e w' => e = .returned (.int .u64 (valL xs)) ∧ w = w' := by
  have hx : xs.length = n := by have := hR.1; rw [u8s_len] at this; omega
  have HR := Lib.hid hR
  have HB := Lib.hid hb
  have HX := Lib.hid hx
  clear hR hb hx
  go_enter Tryd.func59, Tryd.ntmps59
  go_wp2_with fail
  go_loop [3, 4] (fun v i => ∃ j : Nat, j ≤ n ∧ i = .int .i64 j ∧ v = .int .u64 (valL (xs.take j))) (fun v i => n - (intOf i).toNat)
  case atStart => exact ⟨0, Nat.zero_le _, rfl, rfl⟩
  case round =>
    obtain ⟨j, hj, rfl, rfl⟩ := hrel
    by_cases hlt : j < n
    · obtain ⟨gA, o, rfl, -, -, hq⟩ := HR.out.out (by omega) (by omega)
      have hjl : j < xs.length := by rw [HX.out]; exact hlt
      have hcell : w.cell? ⟨gA, o + j, none⟩ = some (.int .u8 xs[j]) := hq j _ (by simp [u8s, hjl])
      have hst := valL_take hjl
      have hbx := HB.out xs[j] (List.getElem_mem _)
      have hv := valL_lt (xs := xs.take j) (fun x hx => HB.out x (List.mem_of_mem_take hx))
      rw [List.length_take, Nat.min_eq_left (by omega)] at hv
      have hv7 : valL (xs.take j) < 256 ^ 7 := Nat.lt_of_lt_of_le hv (Nat.pow_le_pow_right (by decide) (by omega))
      generalize xs[j] = x at hcell hst hbx
      generalize valL (xs.take j) = v at hst hv7 ⊢
      obtain ⟨y, rfl⟩ : ∃ y : Nat, x = (y : Int) := ⟨x.toNat, by omega⟩
      have HST := Lib.hid hst
      have hy : y < 256 := by omega
      have hj0 : (0 : Int) ≤ (j : Int) := by omega
      have hjm : (j : Int) < (n : Int) := by omega
      have hvv : (v : Int) < 72057594037927936 := by omega
      clear hst hq hv hbx hjl hv7
      go_wp2_with fail
      refine ⟨⟨j + 1, by omega, by go_num, ?_⟩, by simp [intOf]; omega⟩
      rw [HST.out]
      simp
    · obtain rfl : j = n := by omega
      go_wp2_with fail
      go_ret
      rw [List.take_of_length_le (by rw [HX.out]; exact Nat.le_refl _)]
      exact ⟨rfl, rfl⟩
end Go.Proofs.YteeclfejgpgooaaDoor
/- The reference's tag of a record. Its tables are as they were laid. No condition else but the record's length. -/
namespace Go.Proofs.YteeclfejgpgooaaDoor
set_option linter.unusedVariables false
set_option linter.unusedSimpArgs false
set_option linter.constructorNameAsVariable false
open Go.RowKit Go.Sort

set_option maxHeartbeats 2000000 in
set_option maxRecDepth 100000 in
theorem rtag_any {p q : Nat → Prop} (A : Option Addr) (c : Nat) (tag : List Int) (gen : Nat) (B : Option Addr) (n d : Nat) (b : List Int) (w : World) (hL : RShaIn 1 0 w) (hT : Rd p w 1 A 16 (u8s tag)) (htb : Byt tag) (hR : Rd q w 1 B n (u8s b)) (hb : Byt b) (hg : gen < 4294967296) (hn : n ≤ 400000000) :
    Calls Tryd.prog 43 #[.slice A 16 c, .int .u32 gen, .slice B n d] w fun e w' => (∃ A c, e = .returned (.slice A 16 c) ∧ w'.ownsRow w.heap.size 5 1 (.slice A 16 c) 16 (u8s (tagL tag gen b))) ∧ New w w' := by
  have HL := Lib.hid hL
  have HR := Lib.hid hR
  have HT := Lib.hid hT
  have HB := Lib.hid hb
  have HTB := Lib.hid htb
  have HTX : Hid (tag.length = 16) := Lib.hid (by have := hT.1; rw [u8s_len] at this; omega)
  have HX : Hid (b.length = n) := Lib.hid (by have := hR.1; rw [u8s_len] at this; omega)
  have HTL : Hid (tagL tag gen b = (hsh (tag ++ beL 4 gen ++ b)).take 16) := Lib.hid rfl
  obtain ⟨TL, hTL⟩ : ∃ TL, TL = tagL tag gen b := ⟨_, rfl⟩
  rw [← hTL] at HTL ⊢
  have hg' : (gen : Int) < 4294967296 := by omega
  have HNUM := Lib.hid (fun W => number_any gen 4 W (by omega) (by omega))
  clear hL hR hb hT htb hTL hg
  go_enter Tryd.func43, Tryd.ntmps43
  go_wp2_with ((with_reducible refine atOp ⟨some 11, _, _, _, _, _⟩ ?_); refine wpList_app elB _ rfl (.tmp 9) (.tmp 10) rfl w.heap.size (.slice (some ⟨w.heap.size, 0, none⟩) 0 0) 0 [] rfl (own_lit (Blk.new w 5 #[]) (Nat.le_refl _)) A 16 c (u8s tag) rfl (New.rd (New.al (New.refl w) _) HT.out) (u8s_one tag) (by unfold maxLen; omega) (by omega) (by simp) ?_; intro A1 d1 w1 hO1 hF1 hA1; rw [Nat.zero_add]; rw [Nat.zero_add, List.nil_append] at hO1; have HO1 := Lib.hid hO1; have HN1 : Hid (New w w1) := Lib.hid ((New.al (New.refl w) _).fr hF1 (by intro k hk; simp [Value.ownBlock] at hk; omega)); clear hO1 hF1 hA1)
  refine (HNUM.out w1).mono ?_
  rintro e w2 ⟨rfl, hO2, hN2⟩
  have HO2 := Lib.hid hO2
  have HN2 := Lib.hid hN2
  have HO12 := Lib.hid (New.own hN2 HO1.out)
  have HL2 : Hid ((w2.ownsRow w1.heap.size 5 1 (.slice (some ⟨w1.heap.size, 0, none⟩) 4 4) 4 (u8s (beL 4 gen))) ∧ w.heap.size ≤ w2.heap.size) := Lib.hid ⟨hO2, by have := HN1.out.size; have := hN2.size; omega⟩
  clear hO2 hN2
  go_wp2_with (first
    | ((with_reducible refine atOp ⟨some 15, _, _, _, _, _⟩ ?_); refine wpList_app elB _ rfl (.tmp 11) (.tmp 14) rfl w.heap.size (.slice A1 16 d1) 16 (u8s tag) rfl HO12.out (some ⟨w1.heap.size, 0, none⟩) 4 4 (u8s (beL 4 gen)) rfl (Rd.own HL2.out.1 rfl) (u8s_one _) (by unfold maxLen; omega) (by omega) HL2.out.2 ?_; intro A2 d2 w3 hO3 hF3 hA3; have HF3 := Lib.hid hF3; have HO3 := Lib.hid hO3; have HN3 : Hid (New w w3) := Lib.hid ((HN1.out.tr HN2.out).fr hF3 (fun k hk => (own_lt HO1.out k hk).1)); clear hO3 hF3 hA3)
    | ((with_reducible refine atOp ⟨some 17, _, _, _, _, _⟩ ?_); refine wpList_app elB _ rfl (.tmp 15) (.tmp 16) rfl w.heap.size (.slice A2 20 d2) 20 (u8s tag ++ u8s (beL 4 gen)) rfl HO3.out B n d (u8s b) rfl (HN3.out.rd HR.out) (u8s_one _) (by unfold maxLen; omega) (by omega) HN3.out.size ?_; intro A4 d4 w4 hO4 hF4 hA4; have HO4 := Lib.hid hO4; have HN4 : Hid (New w w4) := Lib.hid (HN3.out.fr hF4 (fun k hk => (own_lt HO3.out k hk).1)); clear hO4 hF4 hA4))
  have HY : Hid (Byt (tag ++ beL 4 gen ++ b)) := Lib.hid (by
    intro x hx
    simp only [List.mem_append] at hx
    rcases hx with (hx | hx) | hx
    · exact HTB.out x hx
    · exact beL_byt _ _ x hx
    · exact HB.out x hx)
  have HRD : Hid (Rd (fun k => (Value.slice A4 (20 + n) d4).ownBlock = some k) w4 1 A4 (20 + n) (u8s (tag ++ beL 4 gen ++ b))) := Lib.hid (by
    have h := Rd.own HO4.out rfl
    have e : u8s (tag ++ beL 4 gen ++ b) = u8s tag ++ u8s (beL 4 gen) ++ u8s b := by simp [u8s]
    rw [e]
    exact h)
  refine (rsum_any A4 (20 + n) d4 (tag ++ beL 4 gen ++ b) w4 (HL.out.new HN4.out) HRD.out HY.out (by omega)).mono ?_
  rintro e w5 ⟨rfl, hN5⟩
  have HN5 : Hid (New w w5) := Lib.hid (HN4.out.tr hN5)
  obtain ⟨HS, hHS⟩ : ∃ HS, HS = hsh (tag ++ beL 4 gen ++ b) := ⟨_, rfl⟩
  rw [← hHS] at HTL ⊢
  have hl32 : HS.length = 32 := by rw [hHS]; exact hsh_len _
  have HS32 := Lib.hid hl32
  have hsz3 : (secA HS).size = 32 := by rw [secA_size, hl32]
  have HZ3 := Lib.hid hsz3
  clear hHS hl32 hsz3 hN5 HRD HY
  go_upto_region 3 with ((with_reducible refine atOp ⟨some 8, .alloc _, _, _, _, _⟩ ?_); refine wpList_newvar (s := HS) rfl rfl rfl _ _ rfl hashInfo rfl rfl rfl HS32.out ?_)
  obtain ⟨w6, hw6⟩ : ∃ w6 : World, w6 = w5.alloc (.cells (secA HS) 122) := ⟨_, rfl⟩
  obtain ⟨b8, hb8⟩ : ∃ b8, b8 = w5.heap.size := ⟨_, rfl⟩
  have HB8 : Hid (Blk w6 b8 122 (secA HS)) := Lib.hid (by rw [hw6, hb8]; exact Blk.new _ _ _)
  have HN6 : Hid (New w w6) := Lib.hid (by rw [hw6]; exact New.al HN5.out _)
  rw [← hw6, ← hb8]
  clear hw6 hb8
  have HTK : Hid (∀ W, New w6 W → Rd (fun _ => True) W 1 (some ⟨b8, 0, none⟩) 16 (u8s TL)) := Lib.hid fun W hN => by
    refine ⟨by rw [u8s_len, HTL.out, List.length_take, HS32.out]; rfl, fun _ => ⟨_, rfl, trivial, (hN.blk HB8.out).lt, fun j v hj => ?_⟩⟩
    rw [HTL.out] at hj
    have := secA_take HS (n := 16) (by rw [HS32.out]; decide) (hN.blk HB8.out) j v hj
    rw [Nat.zero_add] at this
    rw [add_own]
    exact this
  go_wp2_with ((with_reducible refine atOp ⟨some 22, _, _, _, _, _⟩ ?_); refine wpList_app elB _ rfl (.tmp 20) (.tmp 21) rfl w.heap.size (.slice (some ⟨w6.heap.size, 0, none⟩) 0 0) 0 [] rfl (own_lit (Blk.new w6 5 #[]) HN6.out.size) (some ⟨b8, 0, none⟩) 16 32 (u8s TL) rfl (HTK.out _ (New.al (New.refl w6) _)) (u8s_one TL) (by unfold maxLen; omega) (by omega) (New.al HN6.out _).size ?_; intro A7 d7 w7 hO7 hF7 hA7; rw [Nat.zero_add]; rw [Nat.zero_add, List.nil_append] at hO7; have HO7 := Lib.hid hO7; have HN7 : Hid (New w w7) := Lib.hid ((New.al HN6.out _).fr hF7 (by intro k hk; simp [Value.ownBlock] at hk; have := HN6.out.size; omega)); clear hO7 hF7 hA7)
  go_ret
  exact ⟨⟨A7, d7, rfl, HO7.out⟩, HN7.out⟩
end Go.Proofs.YteeclfejgpgooaaDoor
/- A mixed script (XMx) that may part in two where two acts are ready at once. S is kept by all. No condition. -/
namespace Go.Proofs.YteeclfejgpgooaaDoor
set_option linter.unusedVariables false
set_option linter.unusedSimpArgs false
set_option linter.constructorNameAsVariable false
open Go.RowKit

inductive Tr where
  | done
  | take (i : Nat) (t : Tr)
  | act (i : Nat) (t : Tr)
  | two (i : Nat) (t : Tr) (j : Nat) (u : Tr)
def Tr.len : Tr → Nat
  | .done => 0
  | .take _ t => t.len + 1
  | .act _ t => t.len + 1
  | .two _ t _ _ => t.len + 1
section
variable {P : Program} {md : Region.Mode} {ops : Array Oper} {Q : Exit → Act → World → Prop} {S : World → Prop}
def treeB (md : Region.Mode) (ops : Array Oper) : Tr → Array Bool → Bool
  | .done, listed => (Region.ready md ops listed).isEmpty
  | .take i t, listed => (Region.ready md ops listed).contains i && Region.free md ops listed i && treeB md ops t (listed.setIfInBounds i true)
  | .act i t, listed => decide (Region.ready md ops listed = [i]) && treeB md ops t (listed.setIfInBounds i true)
  | .two i t j u, listed => decide (Region.ready md ops listed = [i, j]) && decide (t.len = u.len) && treeB md ops t (listed.setIfInBounds i true) && treeB md ops u (listed.setIfInBounds j true)
/-- One act, wherever it comes up. -/
def ActOk (P : Program) (ops : Array Oper) (S : World → Prop) (Q : Exit → Act → World → Prop) (i : Nat) (R : Act → World → Prop) (a : Act) (w : World) : Prop :=
  ∃ o, ops[i]? = some o ∧ (if Region.wanted o (yielded ops a.tmps) = true then o.wp P a w (fun a' w' => S w' ∧ R a' w') Q else R (a.put o.dst undef) w)
def wpTree (P : Program) (ops : Array Oper) (S : World → Prop) (Q : Exit → Act → World → Prop) : Tr → Act → World → Prop
  | .done, a, w => Q .normal a w
  | .take i t, a, w => ∃ o, ops[i]? = some o ∧ (if Region.wanted o (yielded ops a.tmps) = true then ∃ v, (∀ p : HW S, (execOp a.eval o).run P p.w = .ok (.value v) p.w) ∧ wpTree P ops S Q t (a.put o.dst v) w else wpTree P ops S Q t (a.put o.dst undef) w)
  | .act i t, a, w => ActOk P ops S Q i (wpTree P ops S Q t) a w
  | .two i t j u, a, w => ActOk P ops S Q i (wpTree P ops S Q t) a w ∧ ActOk P ops S Q j (wpTree P ops S Q u) a w
theorem actOk_op {i : Nat} {R R' : Act → World → Prop} {a : Act} {w : World} (h : ActOk P ops S Q i R a w) (hS : S w) (hR : ∀ a' w', S w' → R a' w' → R' a' w') : wpOp P ops Q i (fun a' w' => S w' ∧ R' a' w') a w := by
  obtain ⟨o, ho, h⟩ := h
  unfold wpOp
  simp only [ho]
  by_cases hw : Region.wanted o (yielded ops a.tmps) = true
  · rw [if_pos hw] at h
    simp only [hw, if_true]
    exact .inl (Oper.wp_mono (fun a' w' h' => ⟨h'.1, hR _ _ h'.1 h'.2⟩) h)
  · rw [if_neg hw] at h
    simp only [hw]
    exact ⟨hS, hR _ _ hS h⟩
theorem wpAnyH_of_tree (hs : Region.noSelect ops = true) (hQ : ∀ c a d v w, Q (.panic c) (a.put d v) w → Q (.panic c) a w) : ∀ (t : Tr) (listed : Array Bool) (a : Act) (w : World), treeB md ops t listed = true → S w → wpTree P ops S Q t a w → wpAnyH P md ops Q S t.len listed a w
  | .done, listed, a, w, hB, _, h => ⟨by simpa [treeB] using hB, h⟩
  | .take i t, listed, a, w, hB, hSw, h => by
    simp only [treeB, Bool.and_eq_true] at hB
    obtain ⟨⟨h1, h2⟩, h5⟩ := hB
    obtain ⟨o, ho, h⟩ := h
    have key : ∀ v, YieldsIf P ops S o v a → wpTree P ops S Q t (a.put o.dst v) w → wpAnyH P md ops Q S (Tr.take i t).len listed a w := fun v hy h =>
      wpAnyH_first ho (Region.noSelect_spec hs) (fun c a w => hQ c a _ _ w) _ listed a w (Region.free_spec ho h2) (by simpa using h1) hy hSw (wpAnyH_of_tree hs hQ t _ _ _ h5 hSw h)
    by_cases hw : Region.wanted o (yielded ops a.tmps) = true
    · rw [if_pos hw] at h
      obtain ⟨v, hv, h⟩ := h
      exact key v (.inl ⟨hw, fun w hw => hv ⟨w, hw⟩⟩) h
    · rw [if_neg hw] at h
      exact key undef (.inr ⟨by simpa using hw, rfl⟩) h
  | .act i t, listed, a, w, hB, hS, h => by
    simp only [treeB, Bool.and_eq_true, decide_eq_true_eq] at hB
    obtain ⟨h1, h3⟩ := hB
    refine ⟨fun h0 => (by rw [h1] at h0; cases h0), fun j hj => ?_⟩
    rw [h1, List.mem_singleton] at hj
    subst hj
    exact actOk_op h hS (fun a' w' hS' h' => wpAnyH_of_tree hs hQ t _ _ _ h3 hS' h')
  | .two i t j u, listed, a, w, hB, hS, h => by
    simp only [treeB, Bool.and_eq_true, decide_eq_true_eq] at hB
    obtain ⟨⟨⟨h1, h2⟩, h3⟩, h4⟩ := hB
    refine ⟨fun h0 => (by rw [h1] at h0; cases h0), fun k hk => ?_⟩
    rw [h1] at hk
    rcases List.mem_cons.1 hk with rfl | hk
    · exact actOk_op h.1 hS (fun a' w' hS' h' => wpAnyH_of_tree hs hQ t _ _ _ h3 hS' h')
    · rw [List.mem_singleton] at hk
      subst hk
      refine actOk_op h.2 hS (fun a' w' hS' h' => ?_)
      show wpAnyH P md ops Q S t.len _ a' w'
      rw [h2]
      exact wpAnyH_of_tree hs hQ u _ _ _ h4 hS' h'
theorem wp_region_tree {id : Nat} {a : Act} {w : World} {l : List Oper} (S : World → Prop) (t : Tr) (hm : P.follows .mixedOrders = true)
    (hB : (Region.noSelect l.toArray && decide (t.len = l.toArray.size) && treeB .any l.toArray t (Array.replicate l.toArray.size false)) = true) (hS : S w.drew)
    (h : Nonempty (HW S) → wpTree P l.toArray S (NoPan Q) t a w.drew) : (Code.region id l.toArray true).wp P Q a w := by
  simp only [Bool.and_eq_true, decide_eq_true_eq] at hB
  obtain ⟨⟨h1, h2⟩, h3⟩ := hB
  refine wp_mono (Q := NoPan Q) (wp_region_held (S := S) hm ?_) NoPan.imp
  have := wpAnyH_of_tree (Q := NoPan Q) h1 (fun _ _ _ _ _ h => h) t _ _ _ h3 hS (h ⟨⟨_, hS⟩⟩)
  rwa [h2] at this
theorem tree_take {i : Nat} {o : Oper} {t : Tr} {a : Act} {w : World} (ho : ops[i]? = some o)
    (h : ∀ K : Act → Prop, (∀ a, wpTree P ops S Q t a w → K a) → if Region.wanted o (yielded ops a.tmps) = true then ∃ v, (∀ p : HW S, (execOp a.eval o).run P p.w = .ok (.value v) p.w) ∧ K (a.put o.dst v) else K (a.put o.dst undef)) : wpTree P ops S Q (.take i t) a w :=
  ⟨o, ho, h _ fun _ h => h⟩
theorem act_ok {i : Nat} {o : Oper} {R : Act → World → Prop} {a : Act} {w : World} (ho : ops[i]? = some o)
    (h : ∀ K : Act → World → Prop, Hid (∀ a w, S w → R a w → K a w) → if Region.wanted o (yielded ops a.tmps) = true then o.wp P a w K Q else K (a.put o.dst undef) w) (hS : Region.wanted o (yielded ops a.tmps) = true ∨ S w) : ActOk P ops S Q i R a w := by
  refine ⟨o, ho, ?_⟩
  have := h (fun a' w' => S w' ∧ R a' w') (Lib.hid fun a w h1 h2 => ⟨h1, h2⟩)
  by_cases hw : Region.wanted o (yielded ops a.tmps) = true
  · rw [if_pos hw] at this ⊢
    exact this
  · rw [if_neg hw] at this ⊢
    exact this.2
theorem tree_act {i : Nat} {o : Oper} {t : Tr} {a : Act} {w : World} (ho : ops[i]? = some o)
    (h : ∀ K : Act → World → Prop, Hid (∀ a w, S w → wpTree P ops S Q t a w → K a w) → if Region.wanted o (yielded ops a.tmps) = true then o.wp P a w K Q else K (a.put o.dst undef) w) (hS : Region.wanted o (yielded ops a.tmps) = true ∨ S w) : wpTree P ops S Q (.act i t) a w :=
  act_ok ho h hS
theorem tree_done {a : Act} {w : World} (h : Q .normal a w) : wpTree P ops S (NoPan Q) .done a w := h
end
end Go.Proofs.YteeclfejgpgooaaDoor
/- Where the ways of a piece of code meet: its frame as a function of what is new, left open till the first way ends. No condition. -/
namespace Go.Proofs.YteeclfejgpgooaaDoor
set_option linter.unusedVariables false
set_option linter.unusedSimpArgs false
set_option linter.constructorNameAsVariable false
open Go.RowKit

theorem wp_join {α : Type} {P : Program} {c : Code} {Q : Exit → Act → World → Prop} {a : Act} {w : World} (R : α → World → Prop) {F : α → Act}
    (h1 : ∀ K' : Act → World → Prop, Hid (∀ x w', R x w' → K' (F x) w') → c.wp P (Exit.then K' fun _ _ _ => False) a w)
    (h2 : ∀ x w', R x w' → Q .normal (F x) w') : c.wp P Q a w :=
  wp_sw (fun a' w' => ∃ x, a' = F x ∧ R x w') (fun a' w' ⟨x, e, h⟩ => e ▸ h2 x w' h) (fun K' hK => h1 K' (Lib.hid fun x w' h => hK _ _ ⟨x, rfl, h⟩))
section
variable {P : Program} {ops : Array Oper} {Q : Exit → Act → World → Prop} {S : World → Prop}
/-- An allocation, as an act. -/
theorem act_alloc {i : Nat} {o : Oper} {R : Act → World → Prop} {a : Act} {w : World} {T : TypeId} {n : Nat} {Z : Value} (ho : ops[i]? = some o) (hw : Region.wanted o (yielded ops a.tmps) = true) (hop : o.op = .alloc T) (hZ : (P.info? T).map (fun i => (i.zero, i.size)) = some (some Z, n))
    (h : ∀ g w', g = w.heap.size → Blk w' g T Z.cells → New w w' → S w' ∧ R (a.put o.dst (.pointer (some ⟨g, 0, none⟩))) w') : ActOk P ops S Q i R a w := by
  refine ⟨o, ho, ?_⟩
  rw [if_pos hw]
  obtain ⟨z1, z2⟩ := zero_of_info hZ
  have hal : (Instr.alloc T true (.tuple #[])).run P w = .ok (.pointer (some ⟨w.heap.size, 0, none⟩)) (w.alloc (.cells Z.cells T)) := by
    unfold Instr.alloc
    simp [Sem.run_bind, z1 w, newVar, newRow, go_sem, Result.andThen]
  unfold Oper.wp
  simp only [execOp, hop, hal, Result.andThen_ok, Sem.run_bind, Sem.run_pure]
  exact h _ _ rfl (Blk.new _ _ _) (New.al (New.refl _) _)
theorem tree_act_alloc {i : Nat} {o : Oper} {t : Tr} {a : Act} {w : World} {T : TypeId} {n : Nat} {Z : Value} (ho : ops[i]? = some o) (hw : Region.wanted o (yielded ops a.tmps) = true) (hop : o.op = .alloc T) (hZ : (P.info? T).map (fun i => (i.zero, i.size)) = some (some Z, n))
    (h : ∀ g w', g = w.heap.size → Blk w' g T Z.cells → New w w' → S w' ∧ wpTree P ops S Q t (a.put o.dst (.pointer (some ⟨g, 0, none⟩))) w') : wpTree P ops S Q (.act i t) a w :=
  act_alloc ho hw hop hZ h
/-- A whole row stored, as an act. -/
theorem act_store {i : Nat} {o : Oper} {R : Act → World → Prop} {a : Act} {w : World} {T : TypeId} {g : Nat} {cs0 cs : Array Value} (ho : ops[i]? = some o) (hw : Region.wanted o (yielded ops a.tmps) = true) (x y : Operand) (hop : o.op = .store T x y) (hi : (P.info? T).map (·.size) = some cs.size) (hx : a.eval x = .pointer (some ⟨g, 0, none⟩)) (hy : a.eval y = .agg cs) (hb : Blk w g T cs0) (h0 : cs0.size = cs.size) (h1 : cs.all (·.oneCell') = true)
    (h : ∀ w', Blk w' g T cs → Fr (fun k => k = g) w w' → S w' ∧ R (a.put o.dst undef) w') : ActOk P ops S Q i R a w := by
  refine ⟨o, ho, ?_⟩
  obtain ⟨r1, r2⟩ := setRow_blk (cs' := cs) hb
  rw [if_pos hw]
  unfold Oper.wp execOp
  simp only [hop, hx, hy, Instr.storeAt, Instr.sureAddr, Sem.run_bind, Sem.run_pure, Result.andThen_ok, run_storeVar_row w g T T cs0 cs hb (by rw [hi]) (by omega) h1]
  exact h _ r1 r2
theorem tree_take_row {i : Nat} {o : Oper} {t : Tr} {a : Act} {w : World} {T : TypeId} {d : TypeDesc} {b off : Nat} {cs : List Value} (ho : ops[i]? = some o) (hw : Region.wanted o (yielded ops a.tmps) = true) (x : Operand) (hop : o.op = .load T x) (hx : a.eval x = .pointer (some ⟨b, off, none⟩))
    (hc : ∀ w', S w' → w'.rangeAt b off cs) (hu : P.underlying T = some d) (hd : d.isRow = true) (hi : (P.info? T).map (·.size) = some cs.length)
    (h : wpTree P ops S Q t (a.put o.dst (.agg cs.toArray)) w) : wpTree P ops S Q (.take i t) a w :=
  ⟨o, ho, by
    rw [if_pos hw]
    refine ⟨_, fun p => ?_, h⟩
    unfold execOp
    simp only [hop, hx, Instr.loadAt, Instr.sureAddr, Sem.run_bind, Sem.run_pure, Result.andThen_ok, run_loadVar_mid p.w b off T cs d (hc _ p.h) hu hd hi]⟩
end
end Go.Proofs.YteeclfejgpgooaaDoor
