/- Texts of one proof, one behind the other: RcT. No condition but each one's own. -/
import Derived.Test.YtmibndkofoldkaaGreatDoorClientNilM23
import Derived.Test.YtmibndkofoldkaaGreatDoorClientNilM24
namespace Go.Proofs.YtmibndkofoldkaaGreatDoor
set_option linter.unusedVariables false
set_option linter.unusedSimpArgs false
set_option linter.constructorNameAsVariable false
open Go.RowKit Go.Sort
theorem slotB_in {p : DP} {s : Nat} (hs : s < 2) (hz : 4 ≤ p.size) : slotB p s = p.get ((2 * s : Nat) : Int) ++ p.get ((2 * s + 1 : Nat) : Int) := by
 unfold slotB DP.rget
 rw [if_pos (by unfold DP.within; exact decide_eq_true (by omega)), if_pos (by unfold DP.within; exact decide_eq_true (by omega))]
structure Kop (p : DP) (k : KR) : Prop where
 nb : k.broken = false
 z : k.number = 0 → k.now = rc0 ∧ getN 0 (slotB p 0) = 0 ∧ getN 1 (slotB p 1) = 0
 nz : 0 < k.number → slotB p (k.number % 2) = putL k.number k.now ∧ k.now.Ok ∧ k.now.Right ∧ getN ((k.number + 1) % 2) (slotB p ((k.number + 1) % 2)) < k.number
 lt : k.number < 18446744073709551615
theorem getN_put {n s : Nat} {r : Rc} (h : r.Ok) (hn : n < 18446744073709551616) (hs : n % 2 = s) (hr : r.Right) : getN s (putL n r) = n ∧ getR s (putL n r) = r := by
 unfold getN getR
 rw [if_pos (recIn_put h hn hs hr), if_pos (recIn_put h hn hs hr), numOf_put hn, rcOf_put h]
 exact ⟨rfl, rfl⟩
theorem takeK_no {k : KR} {n : Nat} {r : Rc} (h : ¬ k.number < n) : takeK k n r = k := if_neg h
theorem takeK_yes {k : KR} {n : Nat} {r : Rc} (h : k.number < n) : takeK k n r = { k with number := n, now := r } := if_pos h
theorem takeK_num (k : KR) (n : Nat) (r : Rc) : (takeK k n r).number ≤ max k.number n ∧ (takeK k n r).broken = k.broken := by
 unfold takeK
 split
 · exact ⟨by show n ≤ _; omega, rfl⟩
 · exact ⟨by omega, rfl⟩
theorem Kop.opens {p : DP} {k : KR} (h : Kop p k) : openP p = k := by
 obtain ⟨number, now, broken⟩ := k
 have hb : broken = false := h.nb
 subst hb
 unfold openP
 by_cases hz : number = 0
 · subst hz
   obtain ⟨h1, h2, h3⟩ := h.z rfl
   have h1 : now = rc0 := h1
   rw [h2, h3, takeK_no (k := KR.new) (by show ¬ (0 < 0); omega), takeK_no (k := KR.new) (by show ¬ (0 < 0); omega), h1]
   rfl
 · obtain ⟨h1, h2, h3, h4⟩ := h.nz (by show 0 < number; omega)
   have h1 : slotB p (number % 2) = putL number now := h1
   have h2 : now.Ok := h2
   have h3 : now.Right := h3
   have h4 : getN ((number + 1) % 2) (slotB p ((number + 1) % 2)) < number := h4
   have hlt : number < 18446744073709551615 := h.lt
   obtain ⟨g1, g2⟩ := getN_put (n := number) h2 (by omega) rfl h3
   rcases (show number % 2 = 0 ∨ number % 2 = 1 by omega) with he | he
   · have he2 : (number + 1) % 2 = 1 := by omega
     rw [he] at h1 g1 g2
     rw [he2] at h4
     rw [h1, g1, g2, takeK_yes (k := KR.new) (by show 0 < number; omega), takeK_no (by show ¬ (number < _); omega)]
     rfl
   · have he2 : (number + 1) % 2 = 0 := by omega
     rw [he] at h1 g1 g2
     rw [he2] at h4
     rw [h1, g1, g2]
     have ht := takeK_num KR.new (getN 0 (slotB p 0)) (getR 0 (slotB p 0))
     have h0 : KR.new.number = 0 := rfl
     rw [takeK_yes (by omega)]
     have hb := ht.2
     cases hk : takeK KR.new (getN 0 (slotB p 0)) (getR 0 (slotB p 0)) with
     | mk a b c => rw [hk] at hb; simp only at hb; rw [hb]; rfl
structure Kst (p : DP) (k : KR) : Prop extends Kop p k where
 ok : p.Ok
 sz : 4 ≤ p.size
 clean : p.order = []
 down : p.down = false
 snd : ∀ s, s < 2 → ∃ j, j ≤ k.number ∧ cutL (slotB p s) 64 8 = beL 8 j
theorem slotB_new (n s : Nat) : slotB (DP.new n) s = List.replicate 128 0 := by
 have h : ∀ x, (DP.new n).rget x = sec0 := fun x => by
  unfold DP.rget
  split <;> rfl
 unfold slotB
 rw [h, h]
 rfl
theorem getN_zero (s : Nat) : getN s (List.replicate 128 0) = 0 := by
 unfold getN
 rw [if_neg]
 intro h
 have h1 := h.2.2.blocks1
 have h2 : (rcOf (List.replicate 128 0)).blocks = 0 := by decide
 omega
theorem Kst.new {n : Nat} (h1 : 4 ≤ n) (h2 : n ≤ 16384) : Kst (DP.new n) KR.new where
 nb := rfl
 z := fun _ => ⟨rfl, by rw [slotB_new, getN_zero], by rw [slotB_new, getN_zero]⟩
 nz := fun h => absurd h (by show ¬ (0 < 0); omega)
 lt := by show 0 < _; omega
 ok := DP.new_ok (by omega) h2
 sz := h1
 clean := rfl
 down := rfl
 snd := fun s _ => ⟨0, Nat.le_refl _, by rw [slotB_new]; decide⟩
theorem writeP_ok {p : DP} {n : Nat} {all : List Int} (hz : 4 ≤ p.size) (hd : p.down = false) (hf : p.fuse ≠ 0) (hf1 : p.fuse ≠ 1) : writeP p n all = (((p.write (slotA n 0) (sec2 all 0)).write (slotA n 1) (sec2 all 1)).sync, 0) := by
 have w0 : p.within (slotA n 0) = true := by unfold DP.within slotA; exact decide_eq_true (by omega)
 have w1 : (p.write (slotA n 0) (sec2 all 0)).within (slotA n 1) = true := by unfold DP.within slotA; exact decide_eq_true (by show _ ∧ _ < ((p.size : Nat) : Int); omega)
 have c0 : p.wcode (slotA n 0) = 0 := by unfold DP.wcode; rw [if_pos w0, if_neg (by rw [hd]; simp [hf])]
 have d0 : p.doWrite (slotA n 0) (sec2 all 0) = p.write (slotA n 0) (sec2 all 0) := by unfold DP.doWrite; rw [if_pos w0, if_neg (by rw [hd]; simp [hf])]
 have hf2 : (p.write (slotA n 0) (sec2 all 0)).fuse ≠ 0 := by show (if 0 < p.fuse then p.fuse - 1 else p.fuse) ≠ 0; split <;> omega
 have hd2 : (p.write (slotA n 0) (sec2 all 0)).down = false := hd
 have c1 : (p.write (slotA n 0) (sec2 all 0)).wcode (slotA n 1) = 0 := by unfold DP.wcode; rw [if_pos w1, if_neg (by rw [hd2]; simp [hf2])]
 have d1 : (p.write (slotA n 0) (sec2 all 0)).doWrite (slotA n 1) (sec2 all 1) = (p.write (slotA n 0) (sec2 all 0)).write (slotA n 1) (sec2 all 1) := by unfold DP.doWrite; rw [if_pos w1, if_neg (by rw [hd2]; simp [hf2])]
 have q1 : writeQ p n all 1 = (p.write (slotA n 0) (sec2 all 0), 0) := by rw [writeQ_go rfl]; show (p.doWrite _ _, p.wcode _) = _; rw [c0, d0]
 have q2 : writeQ p n all 2 = ((p.write (slotA n 0) (sec2 all 0)).write (slotA n 1) (sec2 all 1), 0) := by rw [writeQ_go (by rw [q1]), q1]; simp only; rw [c1, d1]
 unfold writeP
 simp only [q2]
 rw [if_neg (by simp)]
 have hd3 : ((p.write (slotA n 0) (sec2 all 0)).write (slotA n 1) (sec2 all 1)).down = false := hd
 unfold DP.doSync DP.scode
 rw [hd3]
 rfl
theorem sec2_app {all : List Int} (h : all.length = 128) : sec2 all 0 ++ sec2 all 1 = all := by
 unfold sec2
 rw [List.take_of_length_le (l := all.drop (64 * 1)) (by rw [List.length_drop]; omega)]
 simp
theorem slot_wrote {p q : DP} {n s : Nat} {all : List Int} (hz : 4 ≤ p.size) (hq : q.size = p.size) (hg : ∀ x, q.get x = ((p.write (slotA n 0) (sec2 all 0)).write (slotA n 1) (sec2 all 1)).get x) (hl : all.length = 128) (hs : s < 2) :
    slotB q s = if s = n % 2 then all else slotB p s := by
 rw [slotB_in hs (by omega), slotB_in hs hz, hg, hg, get_write, get_write, get_write, get_write]
 unfold slotA
 by_cases h : s = n % 2
 · rw [if_pos h, h, if_neg (by omega), if_pos (by omega), if_pos (by omega), sec2_app hl]
 · rw [if_neg h, if_neg (by omega), if_neg (by omega), if_neg (by omega), if_neg (by omega)]
theorem cutL_put64 {n : Nat} {r : Rc} (h : r.root.length = 32) : cutL (putL n r) 64 8 = beL 8 n := by
 have e : putL n r = fstL n r ++ (beL 8 n ++ (beL 8 r.limit ++ beL 8 r.session ++ recH n r ++ List.replicate 24 0)) := by simp [putL, sndL]
 rw [e]
 exact cutL_app _ _ _ (fstL_len h) (beL_len _ _)
theorem Kst.save {p : DP} {k : KR} (h : Kst p k) (hf : p.fuse ≠ 0 ∧ p.fuse ≠ 1) {r : Rc} (hr : r.Ok) (hm : k.number < 18446744073709551613) :
    if r.Right then (saveP p k r).2.2 = 0 ∧ (saveP p k r).2.1 = ⟨k.number + 1, r, false⟩ ∧ Kst (saveP p k r).1 ⟨k.number + 1, r, false⟩ ∧ (saveP p k r).1.fuse = (if 1 < p.fuse then p.fuse - 2 else p.fuse) else saveP p k r = (p, k, 2) := by
 by_cases hR : r.Right
 · rw [if_pos hR]
   have hl := putL_len (n := k.number + 1) hr.len
   have hw := writeP_ok (n := k.number + 1) (all := putL (k.number + 1) r) h.sz h.down hf.1 hf.2
   obtain ⟨q, hq⟩ : ∃ q, q = ((p.write (slotA (k.number + 1) 0) (sec2 (putL (k.number + 1) r) 0)).write (slotA (k.number + 1) 1) (sec2 (putL (k.number + 1) r) 1)).sync := ⟨_, rfl⟩
   rw [← hq] at hw
   have hs : saveP p k r = (q, ⟨k.number + 1, r, false⟩, 0) := by
    unfold saveP
    rw [if_neg (fun h => h hR), if_neg (by rw [h.nb]; simp), if_neg (by omega), hw]
    simp [h.nb]
   rw [hs]
   have hqz : q.size = p.size := by rw [hq]; rfl
   have hg : ∀ x, q.get x = ((p.write (slotA (k.number + 1) 0) (sec2 (putL (k.number + 1) r) 0)).write (slotA (k.number + 1) 1) (sec2 (putL (k.number + 1) r) 1)).get x := fun x => by rw [hq, get_sync]
   have hsl := fun s hs => slot_wrote (s := s) h.sz hqz hg hl hs
   have a0 : 0 ≤ slotA (k.number + 1) 0 ∧ slotA (k.number + 1) 0 < p.size := by have := h.sz; unfold slotA; omega
   have a1 : 0 ≤ slotA (k.number + 1) 1 ∧ slotA (k.number + 1) 1 < p.size := by have := h.sz; unfold slotA; omega
   have o0 := sec2_ok (i := 0) hl (putL_byt hr.byt) (by omega)
   have o1 := sec2_ok (i := 1) hl (putL_byt hr.byt) (by omega)
   refine ⟨rfl, rfl, ?_, ?_⟩
   · exact {
      nb := rfl
      z := fun h0 => absurd h0 (by show ¬ (k.number + 1 = 0); omega)
      nz := fun _ => by
       refine ⟨?_, hr, hR, ?_⟩
       · show slotB q ((k.number + 1) % 2) = putL (k.number + 1) r
         rw [hsl _ (by omega), if_pos rfl]
       · show getN ((k.number + 1 + 1) % 2) (slotB q ((k.number + 1 + 1) % 2)) < k.number + 1
         rw [hsl _ (by omega), if_neg (by omega), show (k.number + 1 + 1) % 2 = k.number % 2 by omega]
         by_cases h0 : k.number = 0
         · obtain ⟨-, g0, g1⟩ := h.z h0
           rw [h0]
           show getN 0 (slotB p 0) < 1
           omega
         · obtain ⟨g1, g2, g3, -⟩ := h.nz (by omega)
           rw [g1, (getN_put g2 (by omega) rfl g3).1]
           omega
      lt := by show k.number + 1 < _; omega
      ok := by rw [hq]; exact ((h.ok.write a0 o0).write (p := p.write _ _) a1 o1).sync
      sz := by show 4 ≤ q.size; rw [hqz]; exact h.sz
      clean := by rw [hq]; rfl
      down := by rw [hq]; exact h.down
      snd := fun s hs => by
       show ∃ j, j ≤ k.number + 1 ∧ _
       rw [hsl s hs]
       by_cases he : s = (k.number + 1) % 2
       · rw [if_pos he]; exact ⟨k.number + 1, Nat.le_refl _, cutL_put64 hr.len⟩
       · rw [if_neg he]
         obtain ⟨j, h1, h2⟩ := h.snd s hs
         exact ⟨j, by omega, h2⟩ }
   · show q.fuse = _
     have e : q.fuse = (if 0 < (if 0 < p.fuse then p.fuse - 1 else p.fuse) then (if 0 < p.fuse then p.fuse - 1 else p.fuse) - 1 else (if 0 < p.fuse then p.fuse - 1 else p.fuse)) := by rw [hq]; rfl
     rw [e]
     have := hf.1
     have := hf.2
     split <;> split <;> (try split) <;> omega
 · rw [if_neg hR]
   unfold saveP
   rw [if_pos hR]
end Go.Proofs.YtmibndkofoldkaaGreatDoor
