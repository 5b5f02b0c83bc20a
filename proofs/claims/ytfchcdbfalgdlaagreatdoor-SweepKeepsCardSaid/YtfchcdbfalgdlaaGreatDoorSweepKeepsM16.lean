/- Texts of one proof, one behind the other: LkP. No condition but each one's own. -/
import Derived.Test.YtfchcdbfalgdlaaGreatDoorSweepKeepsM15
import Derived.Test.YtfchcdbfalgdlaaGreatDoorSweepKeepsM8
import Derived.Test.YtfchcdbfalgdlaaGreatDoorSweepKeepsM4
import Derived.Test.YtfchcdbfalgdlaaGreatDoorSweepKeepsM2
import Derived.Deep.CutBlock
import Derived.WalkArith
namespace Go.Proofs.YtfchcdbfalgdlaaGreatDoor
set_option linter.unusedVariables false
set_option linter.unusedSimpArgs false
set_option linter.constructorNameAsVariable false
open Go.RowKit Go.Sort
def chain (l : LG) (K : List (List Int)) : LG := K.foldl LG.step l
theorem chain_snoc (l : LG) (K : List (List Int)) (b : List Int) : chain l (K ++ [b]) = (chain l K).step b := by simp [chain]
theorem chain_same (l : LG) : ∀ K : List (List Int), (chain l K).first = l.first ∧ (chain l K).size = l.size ∧ (chain l K).gen = l.gen ∧ (chain l K).broken = l.broken
 | [] => ⟨rfl, rfl, rfl, rfl⟩
 | b :: K => chain_same (l.step b) K
theorem chain_take {l : LG} {K : List (List Int)} {j : Nat} (h : j < K.length) : chain l (K.take (j + 1)) = (chain l (K.take j)).step K[j] := by
 rw [List.take_succ_eq_append_getElem h, chain_snoc]
theorem chain_used {l : LG} {K : List (List Int)} {j : Nat} (h : j < K.length) : (chain l (K.take (j + 1))).used = (chain l (K.take j)).used + secN K[j].length := by
 rw [chain_take h]; rfl
theorem chain_mono {l : LG} {K : List (List Int)} {j : Nat} : ∀ d, j + d ≤ K.length → (chain l (K.take j)).used ≤ (chain l (K.take (j + d))).used
 | 0, _ => Nat.le_refl _
 | d + 1, h => by
  have h1 := chain_mono (l := l) (K := K) (j := j) d (by omega)
  have h2 := chain_used (l := l) (K := K) (j := j + d) (by omega)
  rw [← Nat.add_assoc, h2]
  omega
theorem chain_le {l : LG} {K : List (List Int)} {j k : Nat} (h : j ≤ k) (hk : k ≤ K.length) : (chain l (K.take j)).used ≤ (chain l (K.take k)).used := by
 have := chain_mono (l := l) (K := K) (j := j) (k - j) (by omega)
 rwa [show j + (k - j) = k by omega] at this
theorem chain_all (l : LG) (K : List (List Int)) : chain l (K.take K.length) = chain l K := by rw [List.take_length]
def RecOk (b : List Int) : Prop := secN b.length ≠ 0 ∧ Byt b
theorem chain_len {l : LG} {K : List (List Int)} (hK : ∀ x ∈ K, RecOk x) : ∀ j, j ≤ K.length → l.used + j ≤ (chain l (K.take j)).used
 | 0, _ => by simp [chain]
 | j + 1, h => by
  have h1 := chain_len (l := l) hK j (by omega)
  have h2 := chain_used (l := l) (K := K) (j := j) (by omega)
  have h3 := (hK _ (List.getElem_mem (show j < K.length by omega))).1
  omega
def NoGen (g : Nat) (s : List Int) : Prop := valL (s.take 4) ≠ g
theorem sec_head {l : LG} {b : List Int} (i : Nat) : (l.sec b i).take 9 = l.hdr i := by
 unfold LG.sec pad64 LG.raw
 rw [List.append_assoc, List.take_append_of_le_length (by rw [LG.hdr_len]; exact Nat.le_refl _), List.take_of_length_le (by rw [LG.hdr_len]; exact Nat.le_refl _)]
theorem hdr_gen {l : LG} (i : Nat) (h : l.gen < 4294967296) : valL ((l.hdr i).take 4) = l.gen := by
 unfold LG.hdr
 rw [List.append_assoc, List.take_append_of_le_length (by rw [beL_len]; exact Nat.le_refl _), List.take_of_length_le (by rw [beL_len]; exact Nat.le_refl _), valL_beL 4 _ (by omega)]
theorem noGen_hdr {l : LG} {s : List Int} {i : Nat} (hg : l.gen < 4294967296) (h : NoGen l.gen s) : s.take 9 ≠ l.hdr i := fun e => h (by
 have h1 := congrArg (List.take 4) e
 rw [List.take_take] at h1
 have h2 : min 4 9 = 4 := rfl
 rw [h2] at h1
 rw [h1, hdr_gen i hg])
theorem many_of_sec {p : DP} {l : LG} {b : List Int} (hb : b.length ≤ 65536) (h0 : sct p l 0 = l.sec b 0) : l.many p = b.length := by
 unfold LG.many
 rw [h0]
 unfold LG.sec pad64 LG.raw
 rw [List.append_assoc, List.drop_append_of_le_length (by rw [LG.hdr_len]; exact Nat.le_refl _), List.drop_of_length_le (by rw [LG.hdr_len]; exact Nat.le_refl _), List.nil_append, Nat.mul_zero, List.drop_zero]
 have hf := LG.frame_len l b
 rw [List.take_append_of_le_length (by rw [List.length_take]; omega), List.take_take]
 unfold LG.frame
 rw [List.append_assoc, List.take_append_of_le_length (by rw [beL_len]; decide), List.take_of_length_le (by rw [beL_len]; decide), valL_beL 4 _ (by omega)]
theorem next_of_secs {p : DP} (hp : p.Ok) {l : LG} {b : List Int} (hb : RecOk b) (hr : l.used + secN b.length ≤ l.size) (h : ∀ i, i < secN b.length → sct p l i = l.sec b i) : l.Next p ∧ l.body p = b := by
 obtain ⟨h1, h2, h3⟩ := secN_pos hb.1
 have hm : l.many p = b.length := many_of_sec h2 (h 0 (by omega))
 have hbody : l.body p = b := by
  have hlen := frameL_len hp l (secN b.length)
  have hfr : (frameL p l (secN b.length)).take (20 + b.length) = l.frame b := by
   refine ext_parts (secN b.length) _ _ (by rw [List.length_take]; omega) (by rw [LG.frame_len]; omega) fun i hi => ?_
   have hre := raw_end (l := l) (b := b) rfl h3 hi
   have hst := sec_take (l := l) (b := b) rfl h3 hi
   have e1 := congrArg (List.drop 9) hst
   have e2 : (l.raw b i).drop 9 = ((l.frame b).drop (55 * i)).take 55 := by
    unfold LG.raw
    rw [List.drop_append_of_le_length (by rw [LG.hdr_len]; exact Nat.le_refl _), List.drop_of_length_le (by rw [LG.hdr_len]; exact Nat.le_refl _), List.nil_append]
   rw [e2, List.drop_take, ← h i hi] at e1
   rw [← e1, ← frame_part hp l (secN b.length) i hi, List.take_take, List.drop_take, List.take_take]
   congr 1
   unfold endL
   split <;> omega
  have h4 : l.body p = ((frameL p l (secN b.length)).drop 20).take b.length := by unfold LG.body; rw [hm]
  have h5 : ((frameL p l (secN b.length)).take (20 + b.length)).drop 20 = ((frameL p l (secN b.length)).drop 20).take b.length := by
   rw [List.drop_take, show 20 + b.length - 20 = b.length by omega]
  rw [h4, ← h5, hfr]
  unfold LG.frame
  rw [List.drop_append_of_le_length (by rw [List.length_append, beL_len, tagL_len]; decide), List.drop_of_length_le (by rw [List.length_append, beL_len, tagL_len]; decide), List.nil_append]
 refine ⟨next_of_match (n := b.length) (k := secN b.length) hp hm.symm rfl hb.1 (by omega) hr fun i hi => ?_, hbody⟩
 rw [hbody, h i hi]
theorem no_next_0 {p : DP} {l : LG} (hg : l.gen < 4294967296) (h : NoGen l.gen (sct p l 0)) : ¬ l.Next p := fun hn => by
 have := hn.hdr 0 (by have := hn.pos; omega)
 exact noGen_hdr hg h this
theorem no_next_i {p : DP} {l : LG} {b : List Int} (hg : l.gen < 4294967296) (hb : b.length ≤ 65536) (h0 : sct p l 0 = l.sec b 0) {i : Nat} (hi : i < secN b.length) (h : NoGen l.gen (sct p l i)) : ¬ l.Next p := fun hn => by
 have hm := many_of_sec hb h0
 have := hn.hdr i (by rw [hm]; exact hi)
 exact noGen_hdr hg h this
end Go.Proofs.YtfchcdbfalgdlaaGreatDoor
